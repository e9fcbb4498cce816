/- Functions as plain data, and that the code comes to them; no condition. -/

import Derived.Test.YtkmjbfmmcijojaaGT
set_option linter.unusedVariables false
set_option maxRecDepth 100000
namespace Go.Proofs.Ytkmjbfmmcijojaa
open Go Go.T
noncomputable def body74 : Code := match Try.f74.body with | some c => c | none => .skip
noncomputable def impl_in (p1 : Int) (p2 : Int) (p3 : Int) : Option Bool :=
  if (decide (p2 ≤ p1)) = true then
    some (decide (p1 ≤ p3))
  else
    some false
theorem impl_in_m {p1 : Int} {p2 : Int} {p3 : Int} {r : Bool} (h : impl_in p1 p2 p3 = some r) : Meets Try.prog 74 [(I p1), (I p2), (I p3)] (B r) := by
  refine meets_ofC Θ_ok Try.func74 rfl (c := body74) (by kernel_rfl) (Nat.le_of_ble_eq_true rfl) ?_
  intro E hP hn hx
  replace hn : E.n = 15 := hn
  have hm : E.P.follows .mixedOrders = true := by rw [hP]; exact mixed
  have hΘ : TOK E.P Θ := by rw [hP]; exact Θ_ok
  unfold impl_in at h
  show WAt E body74 (FQ (RetE Θ Try.f74.results.toList [] [] (B r) E)) [] ⟨[(0, (I p1)), (1, (I p2)), (2, (I p3))], [], [JJ]⟩
  rcases itS h with ⟨c4, h⟩ | ⟨c5, h⟩
  · have h := Option.some.inj h
    subst h
    exact go_ret hΘ hm hP hn (hs := [⟨4, .no, some (B true)⟩]) (rh := []) (ph := .raw) (ps := [(B (decide (p2 ≤ p1))) = (B true), (B (decide (p1 ≤ p3))) = (B (decide (p1 ≤ p3))), litA (B (decide (p1 ≤ p3))) = true]) (by kernel_rfl) ⟨(litB c4), rfl, rfl, trivial⟩
  · have h := Option.some.inj h
    subst h
    exact go_ret hΘ hm hP hn (hs := [⟨4, .no, some (B false)⟩]) (rh := []) (ph := .raw) (ps := [(B (decide (p2 ≤ p1))) = (B false), (B false) = (B false), litA (B false) = true]) (by kernel_rfl) ⟨(litB c5), rfl, rfl, trivial⟩
noncomputable def body60 : Code := match Try.f60.body with | some c => c | none => .skip
noncomputable def impl_Event_isGood_j0  (p1 : GEvent)  : Option Bool :=
  if (decide (p1.Obj ≥ 0)) = true then
    if (decide (p1.Lock ≥ 0)) = true then
      some true
    else
      if (p1.Kind != 8) = true then
        some (p1.Kind != 9)
      else
        some false
  else
    Option.bind (impl_in p1.Kind 2 10) fun r23 =>
    if (!r23) = true then
      if (decide (p1.Lock ≥ 0)) = true then
        some true
      else
        if (p1.Kind != 8) = true then
          some (p1.Kind != 9)
        else
          some false
    else
      some false
theorem impl_Event_isGood_j0_m {E : Env} (hP : E.P = Try.prog) (hn : E.n = 55) (hx : ∀ p, p ∈ E.fx → p.1 ∈ ([] : List Nat)) (p1 : GEvent)   (r : Bool) (h : impl_Event_isGood_j0 p1  = some r) : WAt E body60 (FQ (RetE Θ Try.f60.results.toList [] [] (B r) E)) [true, false, true, true] ⟨[(1, (AV.ptr 1 0 0))], [(1, some ⟨47, 5, [((o47 p1))]⟩)], [1, JJ]⟩ := by
  have hm : E.P.follows .mixedOrders = true := by rw [hP]; exact mixed
  have hΘ : TOK E.P Θ := by rw [hP]; exact Θ_ok
  unfold impl_Event_isGood_j0 at h
  rcases itS h with ⟨c17, h⟩ | ⟨c22, h⟩
  · rcases itS h with ⟨c18, h⟩ | ⟨c19, h⟩
    · have h := Option.some.inj h
      subst h
      exact go_ret hΘ hm hP hn (hs := [⟨3, .no, some (B true)⟩, ⟨13, .no, some (B true)⟩]) (rh := []) (ph := .raw) (ps := [(B (decide (p1.Obj ≥ 0))) = (B true), (B (decide (p1.Lock ≥ 0))) = (B true), (B true) = (B true), litA (B true) = true]) (by kernel_rfl) ⟨(litB c17), (litB c18), rfl, rfl, trivial⟩
    · rcases itS h with ⟨c20, h⟩ | ⟨c21, h⟩
      · have h := Option.some.inj h
        subst h
        exact go_ret hΘ hm hP hn (hs := [⟨3, .no, some (B true)⟩, ⟨13, .no, some (B false)⟩, ⟨17, .no, some (B true)⟩]) (rh := []) (ph := .raw) (ps := [(B (decide (p1.Obj ≥ 0))) = (B true), (B (decide (p1.Lock ≥ 0))) = (B false), (B (p1.Kind != 8)) = (B true), (B (p1.Kind != 9)) = (B (p1.Kind != 9)), litA (B (p1.Kind != 9)) = true]) (by kernel_rfl) ⟨(litB c17), (litB c19), (litB c20), rfl, rfl, trivial⟩
      · have h := Option.some.inj h
        subst h
        exact go_ret hΘ hm hP hn (hs := [⟨3, .no, some (B true)⟩, ⟨13, .no, some (B false)⟩, ⟨17, .no, some (B false)⟩]) (rh := []) (ph := .raw) (ps := [(B (decide (p1.Obj ≥ 0))) = (B true), (B (decide (p1.Lock ≥ 0))) = (B false), (B (p1.Kind != 8)) = (B false), (B false) = (B false), litA (B false) = true]) (by kernel_rfl) ⟨(litB c17), (litB c19), (litB c21), rfl, rfl, trivial⟩
  · obtain ⟨r23, hr23, h⟩ := bnS h
    rcases itS h with ⟨c24, h⟩ | ⟨c29, h⟩
    · rcases itS h with ⟨c25, h⟩ | ⟨c26, h⟩
      · have h := Option.some.inj h
        subst h
        exact go_ret hΘ hm hP hn (hs := [⟨3, .no, some (B false)⟩, ⟨6, .callV [] (B r23), none⟩, ⟨9, .no, some (B true)⟩, ⟨13, .no, some (B true)⟩]) (rh := []) (ph := .raw) (ps := [(B (decide (p1.Obj ≥ 0))) = (B false), Meets Try.prog 74 [(I p1.Kind), (I 2), (I 10)] (B r23), litA (B r23) = true, (B (!r23)) = (B true), (B (decide (p1.Lock ≥ 0))) = (B true), (B true) = (B true), litA (B true) = true]) (by kernel_rfl) ⟨(litB c22), (impl_in_m hr23), rfl, (litB c24), (litB c25), rfl, rfl, trivial⟩
      · rcases itS h with ⟨c27, h⟩ | ⟨c28, h⟩
        · have h := Option.some.inj h
          subst h
          exact go_ret hΘ hm hP hn (hs := [⟨3, .no, some (B false)⟩, ⟨6, .callV [] (B r23), none⟩, ⟨9, .no, some (B true)⟩, ⟨13, .no, some (B false)⟩, ⟨17, .no, some (B true)⟩]) (rh := []) (ph := .raw) (ps := [(B (decide (p1.Obj ≥ 0))) = (B false), Meets Try.prog 74 [(I p1.Kind), (I 2), (I 10)] (B r23), litA (B r23) = true, (B (!r23)) = (B true), (B (decide (p1.Lock ≥ 0))) = (B false), (B (p1.Kind != 8)) = (B true), (B (p1.Kind != 9)) = (B (p1.Kind != 9)), litA (B (p1.Kind != 9)) = true]) (by kernel_rfl) ⟨(litB c22), (impl_in_m hr23), rfl, (litB c24), (litB c26), (litB c27), rfl, rfl, trivial⟩
        · have h := Option.some.inj h
          subst h
          exact go_ret hΘ hm hP hn (hs := [⟨3, .no, some (B false)⟩, ⟨6, .callV [] (B r23), none⟩, ⟨9, .no, some (B true)⟩, ⟨13, .no, some (B false)⟩, ⟨17, .no, some (B false)⟩]) (rh := []) (ph := .raw) (ps := [(B (decide (p1.Obj ≥ 0))) = (B false), Meets Try.prog 74 [(I p1.Kind), (I 2), (I 10)] (B r23), litA (B r23) = true, (B (!r23)) = (B true), (B (decide (p1.Lock ≥ 0))) = (B false), (B (p1.Kind != 8)) = (B false), (B false) = (B false), litA (B false) = true]) (by kernel_rfl) ⟨(litB c22), (impl_in_m hr23), rfl, (litB c24), (litB c26), (litB c28), rfl, rfl, trivial⟩
    · have h := Option.some.inj h
      subst h
      exact go_ret hΘ hm hP hn (hs := [⟨3, .no, some (B false)⟩, ⟨6, .callV [] (B r23), none⟩, ⟨9, .no, some (B false)⟩]) (rh := []) (ph := .raw) (ps := [(B (decide (p1.Obj ≥ 0))) = (B false), Meets Try.prog 74 [(I p1.Kind), (I 2), (I 10)] (B r23), litA (B r23) = true, (B (!r23)) = (B false), (B false) = (B false), litA (B false) = true]) (by kernel_rfl) ⟨(litB c22), (impl_in_m hr23), rfl, (litB c29), rfl, rfl, trivial⟩
noncomputable def impl_Event_isGood (p1 : GEvent) : Option Bool :=
  Option.bind (impl_in p1.Thread 0 4) fun r2 =>
  if (!r2) = true then
    some false
  else
    Option.bind (impl_in p1.Kind 1 12) fun r5 =>
    if (!r5) = true then
      some false
    else
      Option.bind (impl_in p1.Obj (-1) 99) fun r8 =>
      if (!r8) = true then
        some false
      else
        Option.bind (impl_in p1.Lock (-1) 99) fun r11 =>
        if (!r11) = true then
          some false
        else
          Option.bind (impl_in p1.Pc 0 99) fun r14 =>
          if (!r14) = true then
            some false
          else
            impl_Event_isGood_j0 p1
theorem impl_Event_isGood_m {p1 : GEvent} {r : Bool} (h : impl_Event_isGood p1 = some r) : Meets Try.prog 60 [(AV.agg ((o47 p1)))] (B r) := by
  refine meets_ofC Θ_ok Try.func60 rfl (c := body60) (by kernel_rfl) (Nat.le_of_ble_eq_true rfl) ?_
  intro E hP hn hx
  replace hn : E.n = 55 := hn
  have hm : E.P.follows .mixedOrders = true := by rw [hP]; exact mixed
  have hΘ : TOK E.P Θ := by rw [hP]; exact Θ_ok
  unfold impl_Event_isGood at h
  show WAt E body60 (FQ (RetE Θ Try.f60.results.toList [] [] (B r) E)) [] ⟨[(0, (AV.agg ((o47 p1))))], [], [JJ]⟩
  obtain ⟨r2, hr2, h⟩ := bnS h
  rcases itS h with ⟨c3, h⟩ | ⟨c4, h⟩
  · have h := Option.some.inj h
    subst h
    exact go_ret hΘ hm hP hn (hs := [⟨0, .new 1001, none⟩, ⟨4, .callV [] (B r2), none⟩, ⟨6, .no, some (B true)⟩]) (rh := []) (ph := .raw) (ps := [Meets Try.prog 74 [(I p1.Thread), (I 0), (I 4)] (B r2), litA (B r2) = true, (B (!r2)) = (B true), (B false) = (B false), litA (B false) = true]) (by kernel_rfl) ⟨(impl_in_m hr2), rfl, (litB c3), rfl, rfl, trivial⟩
  · obtain ⟨r5, hr5, h⟩ := bnS h
    rcases itS h with ⟨c6, h⟩ | ⟨c7, h⟩
    · have h := Option.some.inj h
      subst h
      exact go_ret hΘ hm hP hn (hs := [⟨0, .new 1001, none⟩, ⟨4, .callV [] (B r2), none⟩, ⟨6, .no, some (B false)⟩, ⟨9, .callV [] (B r5), none⟩, ⟨12, .no, some (B true)⟩]) (rh := []) (ph := .raw) (ps := [Meets Try.prog 74 [(I p1.Thread), (I 0), (I 4)] (B r2), litA (B r2) = true, (B (!r2)) = (B false), Meets Try.prog 74 [(I p1.Kind), (I 1), (I 12)] (B r5), litA (B r5) = true, (B (!r5)) = (B true), (B false) = (B false), litA (B false) = true]) (by kernel_rfl) ⟨(impl_in_m hr2), rfl, (litB c4), (impl_in_m hr5), rfl, (litB c6), rfl, rfl, trivial⟩
    · obtain ⟨r8, hr8, h⟩ := bnS h
      rcases itS h with ⟨c9, h⟩ | ⟨c10, h⟩
      · have h := Option.some.inj h
        subst h
        exact go_ret hΘ hm hP hn (hs := [⟨0, .new 1001, none⟩, ⟨4, .callV [] (B r2), none⟩, ⟨6, .no, some (B false)⟩, ⟨9, .callV [] (B r5), none⟩, ⟨12, .no, some (B false)⟩, ⟨15, .callV [] (B r8), none⟩, ⟨18, .no, some (B true)⟩]) (rh := []) (ph := .raw) (ps := [Meets Try.prog 74 [(I p1.Thread), (I 0), (I 4)] (B r2), litA (B r2) = true, (B (!r2)) = (B false), Meets Try.prog 74 [(I p1.Kind), (I 1), (I 12)] (B r5), litA (B r5) = true, (B (!r5)) = (B false), Meets Try.prog 74 [(I p1.Obj), (I (-1)), (I 99)] (B r8), litA (B r8) = true, (B (!r8)) = (B true), (B false) = (B false), litA (B false) = true]) (by kernel_rfl) ⟨(impl_in_m hr2), rfl, (litB c4), (impl_in_m hr5), rfl, (litB c7), (impl_in_m hr8), rfl, (litB c9), rfl, rfl, trivial⟩
      · obtain ⟨r11, hr11, h⟩ := bnS h
        rcases itS h with ⟨c12, h⟩ | ⟨c13, h⟩
        · have h := Option.some.inj h
          subst h
          exact go_ret hΘ hm hP hn (hs := [⟨0, .new 1001, none⟩, ⟨4, .callV [] (B r2), none⟩, ⟨6, .no, some (B false)⟩, ⟨9, .callV [] (B r5), none⟩, ⟨12, .no, some (B false)⟩, ⟨15, .callV [] (B r8), none⟩, ⟨18, .no, some (B false)⟩, ⟨21, .callV [] (B r11), none⟩, ⟨24, .no, some (B true)⟩]) (rh := []) (ph := .raw) (ps := [Meets Try.prog 74 [(I p1.Thread), (I 0), (I 4)] (B r2), litA (B r2) = true, (B (!r2)) = (B false), Meets Try.prog 74 [(I p1.Kind), (I 1), (I 12)] (B r5), litA (B r5) = true, (B (!r5)) = (B false), Meets Try.prog 74 [(I p1.Obj), (I (-1)), (I 99)] (B r8), litA (B r8) = true, (B (!r8)) = (B false), Meets Try.prog 74 [(I p1.Lock), (I (-1)), (I 99)] (B r11), litA (B r11) = true, (B (!r11)) = (B true), (B false) = (B false), litA (B false) = true]) (by kernel_rfl) ⟨(impl_in_m hr2), rfl, (litB c4), (impl_in_m hr5), rfl, (litB c7), (impl_in_m hr8), rfl, (litB c10), (impl_in_m hr11), rfl, (litB c12), rfl, rfl, trivial⟩
        · obtain ⟨r14, hr14, h⟩ := bnS h
          rcases itS h with ⟨c15, h⟩ | ⟨c16, h⟩
          · have h := Option.some.inj h
            subst h
            exact go_ret hΘ hm hP hn (hs := [⟨0, .new 1001, none⟩, ⟨4, .callV [] (B r2), none⟩, ⟨6, .no, some (B false)⟩, ⟨9, .callV [] (B r5), none⟩, ⟨12, .no, some (B false)⟩, ⟨15, .callV [] (B r8), none⟩, ⟨18, .no, some (B false)⟩, ⟨21, .callV [] (B r11), none⟩, ⟨24, .no, some (B false)⟩, ⟨27, .callV [] (B r14), none⟩, ⟨30, .br true, none⟩]) (rh := []) (ph := .raw) (ps := [Meets Try.prog 74 [(I p1.Thread), (I 0), (I 4)] (B r2), litA (B r2) = true, (B (!r2)) = (B false), Meets Try.prog 74 [(I p1.Kind), (I 1), (I 12)] (B r5), litA (B r5) = true, (B (!r5)) = (B false), Meets Try.prog 74 [(I p1.Obj), (I (-1)), (I 99)] (B r8), litA (B r8) = true, (B (!r8)) = (B false), Meets Try.prog 74 [(I p1.Lock), (I (-1)), (I 99)] (B r11), litA (B r11) = true, (B (!r11)) = (B false), Meets Try.prog 74 [(I p1.Pc), (I 0), (I 99)] (B r14), litA (B r14) = true, (!r14) = true, (B false) = (B false), litA (B false) = true]) (by kernel_rfl) ⟨(impl_in_m hr2), rfl, (litB c4), (impl_in_m hr5), rfl, (litB c7), (impl_in_m hr8), rfl, (litB c10), (impl_in_m hr11), rfl, (litB c13), (impl_in_m hr14), rfl, c15, rfl, rfl, trivial⟩
          · exact go_to hΘ hm hx hP hn (hs := [⟨0, .new 1001, none⟩, ⟨4, .callV [] (B r2), none⟩, ⟨6, .no, some (B false)⟩, ⟨9, .callV [] (B r5), none⟩, ⟨12, .no, some (B false)⟩, ⟨15, .callV [] (B r8), none⟩, ⟨18, .no, some (B false)⟩, ⟨21, .callV [] (B r11), none⟩, ⟨24, .no, some (B false)⟩, ⟨27, .callV [] (B r14), none⟩, ⟨30, .br false, none⟩]) (π := [(1001, 1)]) (ts := [1]) (kp := []) (ps := [Meets Try.prog 74 [(I p1.Thread), (I 0), (I 4)] (B r2), litA (B r2) = true, (B (!r2)) = (B false), Meets Try.prog 74 [(I p1.Kind), (I 1), (I 12)] (B r5), litA (B r5) = true, (B (!r5)) = (B false), Meets Try.prog 74 [(I p1.Obj), (I (-1)), (I 99)] (B r8), litA (B r8) = true, (B (!r8)) = (B false), Meets Try.prog 74 [(I p1.Lock), (I (-1)), (I 99)] (B r11), litA (B r11) = true, (B (!r11)) = (B false), Meets Try.prog 74 [(I p1.Pc), (I 0), (I 99)] (B r14), litA (B r14) = true, (!r14) = false, RenOK [(1001, 1)] [((o47 p1))]]) (by kernel_rfl) ⟨(impl_in_m hr2), rfl, (litB c4), (impl_in_m hr5), rfl, (litB c7), (impl_in_m hr8), rfl, (litB c10), (impl_in_m hr11), rfl, (litB c13), (impl_in_m hr14), rfl, c16, (rok rfl), trivial⟩ (impl_Event_isGood_j0_m hP hn hx p1  _ h)
noncomputable def body59 : Code := match Try.f59.body with | some c => c | none => .skip
noncomputable def impl_GoodTrace_1 (p1 : GEvent) : Option Bool :=
  Option.bind (impl_Event_isGood p1) fun r2 =>
  some (!r2)
theorem impl_GoodTrace_1_m {p1 : GEvent} {r : Bool} (h : impl_GoodTrace_1 p1 = some r) : Meets Try.prog 59 [(AV.agg ((o47 p1)))] (B r) := by
  refine meets_ofC Θ_ok Try.func59 rfl (c := body59) (by kernel_rfl) (Nat.le_of_ble_eq_true rfl) ?_
  intro E hP hn hx
  replace hn : E.n = 6 := hn
  have hm : E.P.follows .mixedOrders = true := by rw [hP]; exact mixed
  have hΘ : TOK E.P Θ := by rw [hP]; exact Θ_ok
  unfold impl_GoodTrace_1 at h
  show WAt E body59 (FQ (RetE Θ Try.f59.results.toList [] [] (B r) E)) [] ⟨[(0, (AV.agg ((o47 p1))))], [], [JJ]⟩
  obtain ⟨r2, hr2, h⟩ := bnS h
  have h := Option.some.inj h
  subst h
  exact go_ret hΘ hm hP hn (hs := [⟨0, .new 1001, none⟩, ⟨3, .callV [[]] (B r2), none⟩]) (rh := []) (ph := .raw) (ps := [Meets Try.prog 60 [(AV.agg ((o47 p1)))] (B r2), litA (B r2) = true, (B (!r2)) = (B (!r2)), litA (B (!r2)) = true]) (by kernel_rfl) ⟨(impl_Event_isGood_m hr2), rfl, rfl, rfl, trivial⟩
noncomputable def body73 : Code := match Try.f73.body with | some c => c | none => .skip
noncomputable def slices_IndexFunc_Event_Event__impl_GoodTrace_1_l0  (p1 : (List GEvent)) : Nat → Int → Option Int
  | 0, _ => none
  | n + 1, v2 =>
  if (decide (v2 < (p1.length : Int))) = true then
    Option.bind (rd p1 v2) fun x4 =>
    Option.bind (impl_GoodTrace_1 x4) fun r5 =>
    if r5 = true then
      some v2
    else
      slices_IndexFunc_Event_Event__impl_GoodTrace_1_l0 p1 n (w64 (v2 + 1))
  else
    some (-1)
theorem slices_IndexFunc_Event_Event__impl_GoodTrace_1_l0_m {E : Env} (hP : E.P = Try.prog) (hn : E.n = 19) (hx : ∀ p, p ∈ E.fx → p.1 ∈ ([] : List Nat)) (p1 : (List GEvent))  : ∀ (n : Nat) (v2 : Int) (r : Int), slices_IndexFunc_Event_Event__impl_GoodTrace_1_l0 p1 n v2 = some r → WAt E body73 (FQ (RetE Θ Try.f73.results.toList [] [] (I r) E)) [true, false, true, false] ⟨[(0, (AV.ro 5 (p1.map o47))), (1, (AV.fn 59 [])), (7, (I (p1.length : Int))), (8, (I v2))], [], [JJ]⟩ := by
  have hm : E.P.follows .mixedOrders = true := by rw [hP]; exact mixed
  have hΘ : TOK E.P Θ := by rw [hP]; exact Θ_ok
  intro n
  induction n with
  | zero => intro v2 r h; simp only [slices_IndexFunc_Event_Event__impl_GoodTrace_1_l0] at h; cases h
  | succ n ih =>
    intro v2 r h
    simp only [slices_IndexFunc_Event_Event__impl_GoodTrace_1_l0] at h
    rcases itS h with ⟨c3, h⟩ | ⟨c8, h⟩
    · obtain ⟨x4, hx4, h⟩ := bnS h
      obtain ⟨r5, hr5, h⟩ := bnS h
      rcases itS h with ⟨c6, h⟩ | ⟨c7, h⟩
      · have h := Option.some.inj h
        subst h
        exact go_ret hΘ hm hP hn (hs := [⟨1, .br true, none⟩, ⟨7, .row (o47 x4), none⟩, ⟨9, .callV [[]] (B r5), none⟩, ⟨10, .br true, none⟩]) (rh := []) (ph := .raw) (ps := [(decide (v2 < (p1.length : Int))) = true, (0 : Int) ≤ v2, (p1.map o47)[(Int.toNat v2)]? = some (o47 x4), Meets Try.prog 59 [(AV.agg ((o47 x4)))] (B r5), litA (B r5) = true, r5 = true, (I v2) = (I v2), litA (I v2) = true]) (by kernel_rfl) ⟨c3, (rd0 hx4), (rdM o47 hx4), (impl_GoodTrace_1_m hr5), rfl, c6, rfl, rfl, trivial⟩
      · exact go_to hΘ hm hx hP hn (hs := [⟨1, .br true, none⟩, ⟨7, .row (o47 x4), none⟩, ⟨9, .callV [[]] (B r5), none⟩, ⟨10, .br false, none⟩]) (π := []) (ts := [0, 1, 7, 8]) (kp := []) (ps := [(decide (v2 < (p1.length : Int))) = true, (0 : Int) ≤ v2, (p1.map o47)[(Int.toNat v2)]? = some (o47 x4), Meets Try.prog 59 [(AV.agg ((o47 x4)))] (B r5), litA (B r5) = true, r5 = false]) (by kernel_rfl) ⟨c3, (rd0 hx4), (rdM o47 hx4), (impl_GoodTrace_1_m hr5), rfl, c7, trivial⟩ (ih (w64 (v2 + 1)) _ h)
    · have h := Option.some.inj h
      subst h
      exact go_ret hΘ hm hP hn (hs := [⟨1, .br false, none⟩]) (rh := []) (ph := .raw) (ps := [(decide (v2 < (p1.length : Int))) = false, (I (-1)) = (I (-1)), litA (I (-1)) = true]) (by kernel_rfl) ⟨c8, rfl, rfl, trivial⟩
noncomputable def slices_IndexFunc_Event_Event__impl_GoodTrace_1 (p1 : (List GEvent)) : Option Int :=
  slices_IndexFunc_Event_Event__impl_GoodTrace_1_l0 p1 FU 0
theorem slices_IndexFunc_Event_Event__impl_GoodTrace_1_m {p1 : (List GEvent)} {r : Int} (h : slices_IndexFunc_Event_Event__impl_GoodTrace_1 p1 = some r) : Meets Try.prog 73 [(AV.ro 5 (p1.map o47)), (AV.fn 59 [])] (I r) := by
  refine meets_ofC Θ_ok Try.func73 rfl (c := body73) (by kernel_rfl) (Nat.le_of_ble_eq_true rfl) ?_
  intro E hP hn hx
  replace hn : E.n = 19 := hn
  have hm : E.P.follows .mixedOrders = true := by rw [hP]; exact mixed
  have hΘ : TOK E.P Θ := by rw [hP]; exact Θ_ok
  unfold slices_IndexFunc_Event_Event__impl_GoodTrace_1 at h
  show WAt E body73 (FQ (RetE Θ Try.f73.results.toList [] [] (I r) E)) [] ⟨[(0, (AV.ro 5 (p1.map o47))), (1, (AV.fn 59 []))], [], [JJ]⟩
  exact go_to hΘ hm hx hP hn (hs := [⟨2, .no, some (I (p1.length : Int))⟩]) (π := []) (ts := [0, 1, 7, 8]) (kp := []) (ps := [AV.lit (.int .i64 (((p1.map o47).length : Nat) : Int)) = (I (p1.length : Int))]) (by kernel_rfl) ⟨(lenM o47), trivial⟩ (slices_IndexFunc_Event_Event__impl_GoodTrace_1_l0_m hP hn hx p1 FU 0 _ h)
noncomputable def body58 : Code := match Try.f58.body with | some c => c | none => .skip
noncomputable def slices_ContainsFunc_Event_Event__impl_GoodTrace_1 (p1 : (List GEvent)) : Option Bool :=
  Option.bind (slices_IndexFunc_Event_Event__impl_GoodTrace_1 p1) fun r2 =>
  some (decide (r2 ≥ 0))
theorem slices_ContainsFunc_Event_Event__impl_GoodTrace_1_m {p1 : (List GEvent)} {r : Bool} (h : slices_ContainsFunc_Event_Event__impl_GoodTrace_1 p1 = some r) : Meets Try.prog 58 [(AV.ro 5 (p1.map o47)), (AV.fn 59 [])] (B r) := by
  refine meets_ofC Θ_ok Try.func58 rfl (c := body58) (by kernel_rfl) (Nat.le_of_ble_eq_true rfl) ?_
  intro E hP hn hx
  replace hn : E.n = 9 := hn
  have hm : E.P.follows .mixedOrders = true := by rw [hP]; exact mixed
  have hΘ : TOK E.P Θ := by rw [hP]; exact Θ_ok
  unfold slices_ContainsFunc_Event_Event__impl_GoodTrace_1 at h
  show WAt E body58 (FQ (RetE Θ Try.f58.results.toList [] [] (B r) E)) [] ⟨[(0, (AV.ro 5 (p1.map o47))), (1, (AV.fn 59 []))], [], [JJ]⟩
  obtain ⟨r2, hr2, h⟩ := bnS h
  have h := Option.some.inj h
  subst h
  exact go_ret hΘ hm hP hn (hs := [⟨3, .callV [] (I r2), none⟩]) (rh := []) (ph := .raw) (ps := [Meets Try.prog 73 [(AV.ro 5 (p1.map o47)), (AV.fn 59 [])] (I r2), litA (I r2) = true, (B (decide (r2 ≥ 0))) = (B (decide (r2 ≥ 0))), litA (B (decide (r2 ≥ 0))) = true]) (by kernel_rfl) ⟨(slices_IndexFunc_Event_Event__impl_GoodTrace_1_m hr2), rfl, rfl, rfl, trivial⟩
noncomputable def body34 : Code := match Try.f34.body with | some c => c | none => .skip
noncomputable def impl_GoodTrace (p1 : (List GEvent)) : Option Bool :=
  if (decide ((p1.length : Int) ≤ 200)) = true then
    Option.bind (slices_ContainsFunc_Event_Event__impl_GoodTrace_1 p1) fun r3 =>
    some (!r3)
  else
    some false
theorem impl_GoodTrace_m {p1 : (List GEvent)} {r : Bool} (h : impl_GoodTrace p1 = some r) : Meets Try.prog 34 [(AV.ro 5 (p1.map o47))] (B r) := by
  refine meets_ofC Θ_ok Try.func34 rfl (c := body34) (by kernel_rfl) (Nat.le_of_ble_eq_true rfl) ?_
  intro E hP hn hx
  replace hn : E.n = 11 := hn
  have hm : E.P.follows .mixedOrders = true := by rw [hP]; exact mixed
  have hΘ : TOK E.P Θ := by rw [hP]; exact Θ_ok
  unfold impl_GoodTrace at h
  show WAt E body34 (FQ (RetE Θ Try.f34.results.toList [] [] (B r) E)) [] ⟨[(0, (AV.ro 5 (p1.map o47)))], [], [JJ]⟩
  rcases itS h with ⟨c2, h⟩ | ⟨c4, h⟩
  · obtain ⟨r3, hr3, h⟩ := bnS h
    have h := Option.some.inj h
    subst h
    exact go_ret hΘ hm hP hn (hs := [⟨2, .no, some (I (p1.length : Int))⟩, ⟨4, .no, some (B true)⟩, ⟨6, .callV [] (B r3), none⟩]) (rh := []) (ph := .raw) (ps := [AV.lit (.int .i64 (((p1.map o47).length : Nat) : Int)) = (I (p1.length : Int)), (B (decide ((p1.length : Int) ≤ 200))) = (B true), Meets Try.prog 58 [(AV.ro 5 (p1.map o47)), (AV.fn 59 [])] (B r3), litA (B r3) = true, (B (!r3)) = (B (!r3)), litA (B (!r3)) = true]) (by kernel_rfl) ⟨(lenM o47), (litB c2), (slices_ContainsFunc_Event_Event__impl_GoodTrace_1_m hr3), rfl, rfl, rfl, trivial⟩
  · have h := Option.some.inj h
    subst h
    exact go_ret hΘ hm hP hn (hs := [⟨2, .no, some (I (p1.length : Int))⟩, ⟨4, .no, some (B false)⟩]) (rh := []) (ph := .raw) (ps := [AV.lit (.int .i64 (((p1.map o47).length : Nat) : Int)) = (I (p1.length : Int)), (B (decide ((p1.length : Int) ≤ 200))) = (B false), (B false) = (B false), litA (B false) = true]) (by kernel_rfl) ⟨(lenM o47), (litB c4), rfl, rfl, trivial⟩
noncomputable def body70 : Code := match Try.f70.body with | some c => c | none => .skip
noncomputable def impl_Event_gives (p1 : GEvent) : Option Int :=
  if (p1.Kind == 5) = true then
    some p1.Obj
  else
    if (p1.Kind == 8) = true then
      some p1.Lock
    else
      some (-1)
theorem impl_Event_gives_m {p1 : GEvent} {r : Int} (h : impl_Event_gives p1 = some r) : Meets Try.prog 70 [(AV.agg ((o47 p1)))] (I r) := by
  refine meets_ofC Θ_ok Try.func70 rfl (c := body70) (by kernel_rfl) (Nat.le_of_ble_eq_true rfl) ?_
  intro E hP hn hx
  replace hn : E.n = 13 := hn
  have hm : E.P.follows .mixedOrders = true := by rw [hP]; exact mixed
  have hΘ : TOK E.P Θ := by rw [hP]; exact Θ_ok
  unfold impl_Event_gives at h
  show WAt E body70 (FQ (RetE Θ Try.f70.results.toList [] [] (I r) E)) [] ⟨[(0, (AV.agg ((o47 p1))))], [], [JJ]⟩
  rcases itS h with ⟨c2, h⟩ | ⟨c3, h⟩
  · have h := Option.some.inj h
    subst h
    exact go_ret hΘ hm hP hn (hs := [⟨0, .new 1001, none⟩, ⟨6, .br true, none⟩]) (rh := []) (ph := .raw) (ps := [(p1.Kind == 5) = true, (I p1.Obj) = (I p1.Obj), litA (I p1.Obj) = true]) (by kernel_rfl) ⟨c2, rfl, rfl, trivial⟩
  · rcases itS h with ⟨c4, h⟩ | ⟨c5, h⟩
    · have h := Option.some.inj h
      subst h
      exact go_ret hΘ hm hP hn (hs := [⟨0, .new 1001, none⟩, ⟨6, .br false, none⟩, ⟨9, .br true, none⟩]) (rh := []) (ph := .raw) (ps := [(p1.Kind == 5) = false, (p1.Kind == 8) = true, (I p1.Lock) = (I p1.Lock), litA (I p1.Lock) = true]) (by kernel_rfl) ⟨c3, c4, rfl, rfl, trivial⟩
    · have h := Option.some.inj h
      subst h
      exact go_ret hΘ hm hP hn (hs := [⟨0, .new 1001, none⟩, ⟨6, .br false, none⟩, ⟨9, .br false, none⟩]) (rh := []) (ph := .raw) (ps := [(p1.Kind == 5) = false, (p1.Kind == 8) = false, (I (-1)) = (I (-1)), litA (I (-1)) = true]) (by kernel_rfl) ⟨c3, c5, rfl, rfl, trivial⟩
noncomputable def body67 : Code := match Try.f67.body with | some c => c | none => .skip
noncomputable def impl_Event_takes (p1 : GEvent) : Option Int :=
  if (p1.Kind == 4) = true then
    some p1.Obj
  else
    if (p1.Kind == 9) = true then
      some p1.Lock
    else
      some (-1)
theorem impl_Event_takes_m {p1 : GEvent} {r : Int} (h : impl_Event_takes p1 = some r) : Meets Try.prog 67 [(AV.agg ((o47 p1)))] (I r) := by
  refine meets_ofC Θ_ok Try.func67 rfl (c := body67) (by kernel_rfl) (Nat.le_of_ble_eq_true rfl) ?_
  intro E hP hn hx
  replace hn : E.n = 13 := hn
  have hm : E.P.follows .mixedOrders = true := by rw [hP]; exact mixed
  have hΘ : TOK E.P Θ := by rw [hP]; exact Θ_ok
  unfold impl_Event_takes at h
  show WAt E body67 (FQ (RetE Θ Try.f67.results.toList [] [] (I r) E)) [] ⟨[(0, (AV.agg ((o47 p1))))], [], [JJ]⟩
  rcases itS h with ⟨c2, h⟩ | ⟨c3, h⟩
  · have h := Option.some.inj h
    subst h
    exact go_ret hΘ hm hP hn (hs := [⟨0, .new 1001, none⟩, ⟨6, .br true, none⟩]) (rh := []) (ph := .raw) (ps := [(p1.Kind == 4) = true, (I p1.Obj) = (I p1.Obj), litA (I p1.Obj) = true]) (by kernel_rfl) ⟨c2, rfl, rfl, trivial⟩
  · rcases itS h with ⟨c4, h⟩ | ⟨c5, h⟩
    · have h := Option.some.inj h
      subst h
      exact go_ret hΘ hm hP hn (hs := [⟨0, .new 1001, none⟩, ⟨6, .br false, none⟩, ⟨9, .br true, none⟩]) (rh := []) (ph := .raw) (ps := [(p1.Kind == 4) = false, (p1.Kind == 9) = true, (I p1.Lock) = (I p1.Lock), litA (I p1.Lock) = true]) (by kernel_rfl) ⟨c3, c4, rfl, rfl, trivial⟩
    · have h := Option.some.inj h
      subst h
      exact go_ret hΘ hm hP hn (hs := [⟨0, .new 1001, none⟩, ⟨6, .br false, none⟩, ⟨9, .br false, none⟩]) (rh := []) (ph := .raw) (ps := [(p1.Kind == 4) = false, (p1.Kind == 9) = false, (I (-1)) = (I (-1)), litA (I (-1)) = true]) (by kernel_rfl) ⟨c3, c5, rfl, rfl, trivial⟩
noncomputable def body62 : Code := match Try.f62.body with | some c => c | none => .skip
noncomputable def impl_leads_j0  (p1 : GEvent) (p2 : GEvent)  : Option Bool :=
  if (p1.Kind == 6) = true then
    some (p1.Obj == p2.Thread)
  else
    if (p1.Kind == 11) = true then
      if (p2.Kind == 7) = true then
        some (p2.Obj == p1.Thread)
      else
        some false
    else
      if (p1.Kind == 10) = true then
        if (p2.Kind == 9) = true then
          some (p1.Lock == p2.Thread)
        else
          some false
      else
        some false
theorem impl_leads_j0_m {E : Env} (hP : E.P = Try.prog) (hn : E.n = 60) (hx : ∀ p, p ∈ E.fx → p.1 ∈ ([] : List Nat)) (p1 : GEvent) (p2 : GEvent)   (r : Bool) (h : impl_leads_j0 p1 p2  = some r) : WAt E body62 (FQ (RetE Θ Try.f62.results.toList [] [] (B r) E)) [true, false, false, true, true] ⟨[(2, (AV.ptr 1 0 0)), (3, (AV.ptr 2 0 0))], [(1, some ⟨47, 5, [((o47 p1))]⟩), (2, some ⟨47, 5, [((o47 p2))]⟩)], [1, 2, JJ]⟩ := by
  have hm : E.P.follows .mixedOrders = true := by rw [hP]; exact mixed
  have hΘ : TOK E.P Θ := by rw [hP]; exact Θ_ok
  unfold impl_leads_j0 at h
  rcases itS h with ⟨c11, h⟩ | ⟨c12, h⟩
  · have h := Option.some.inj h
    subst h
    exact go_ret hΘ hm hP hn (hs := [⟨4, .br true, none⟩]) (rh := []) (ph := .raw) (ps := [(p1.Kind == 6) = true, (B (p1.Obj == p2.Thread)) = (B (p1.Obj == p2.Thread)), litA (B (p1.Obj == p2.Thread)) = true]) (by kernel_rfl) ⟨c11, rfl, rfl, trivial⟩
  · rcases itS h with ⟨c13, h⟩ | ⟨c16, h⟩
    · rcases itS h with ⟨c14, h⟩ | ⟨c15, h⟩
      · have h := Option.some.inj h
        subst h
        exact go_ret hΘ hm hP hn (hs := [⟨4, .br false, none⟩, ⟨9, .br true, none⟩, ⟨13, .no, some (B true)⟩]) (rh := []) (ph := .raw) (ps := [(p1.Kind == 6) = false, (p1.Kind == 11) = true, (B (p2.Kind == 7)) = (B true), (B (p2.Obj == p1.Thread)) = (B (p2.Obj == p1.Thread)), litA (B (p2.Obj == p1.Thread)) = true]) (by kernel_rfl) ⟨c12, c13, (litB c14), rfl, rfl, trivial⟩
      · have h := Option.some.inj h
        subst h
        exact go_ret hΘ hm hP hn (hs := [⟨4, .br false, none⟩, ⟨9, .br true, none⟩, ⟨13, .no, some (B false)⟩]) (rh := []) (ph := .raw) (ps := [(p1.Kind == 6) = false, (p1.Kind == 11) = true, (B (p2.Kind == 7)) = (B false), (B false) = (B false), litA (B false) = true]) (by kernel_rfl) ⟨c12, c13, (litB c15), rfl, rfl, trivial⟩
    · rcases itS h with ⟨c17, h⟩ | ⟨c20, h⟩
      · rcases itS h with ⟨c18, h⟩ | ⟨c19, h⟩
        · have h := Option.some.inj h
          subst h
          exact go_ret hΘ hm hP hn (hs := [⟨4, .br false, none⟩, ⟨9, .br false, none⟩, ⟨14, .br true, none⟩, ⟨18, .no, some (B true)⟩]) (rh := []) (ph := .raw) (ps := [(p1.Kind == 6) = false, (p1.Kind == 11) = false, (p1.Kind == 10) = true, (B (p2.Kind == 9)) = (B true), (B (p1.Lock == p2.Thread)) = (B (p1.Lock == p2.Thread)), litA (B (p1.Lock == p2.Thread)) = true]) (by kernel_rfl) ⟨c12, c16, c17, (litB c18), rfl, rfl, trivial⟩
        · have h := Option.some.inj h
          subst h
          exact go_ret hΘ hm hP hn (hs := [⟨4, .br false, none⟩, ⟨9, .br false, none⟩, ⟨14, .br true, none⟩, ⟨18, .no, some (B false)⟩]) (rh := []) (ph := .raw) (ps := [(p1.Kind == 6) = false, (p1.Kind == 11) = false, (p1.Kind == 10) = true, (B (p2.Kind == 9)) = (B false), (B false) = (B false), litA (B false) = true]) (by kernel_rfl) ⟨c12, c16, c17, (litB c19), rfl, rfl, trivial⟩
      · have h := Option.some.inj h
        subst h
        exact go_ret hΘ hm hP hn (hs := [⟨4, .br false, none⟩, ⟨9, .br false, none⟩, ⟨14, .br false, none⟩]) (rh := []) (ph := .raw) (ps := [(p1.Kind == 6) = false, (p1.Kind == 11) = false, (p1.Kind == 10) = false, (B false) = (B false), litA (B false) = true]) (by kernel_rfl) ⟨c12, c16, c20, rfl, rfl, trivial⟩
noncomputable def impl_leads (p1 : GEvent) (p2 : GEvent) : Option Bool :=
  if (p1.Thread == p2.Thread) = true then
    some true
  else
    Option.bind (impl_Event_gives p1) fun r5 =>
    if (decide (r5 ≥ 0)) = true then
      Option.bind (impl_Event_gives p1) fun r7 =>
      Option.bind (impl_Event_takes p2) fun r8 =>
      if (r7 == r8) = true then
        some true
      else
        impl_leads_j0 p1 p2
    else
      impl_leads_j0 p1 p2
theorem impl_leads_m {p1 : GEvent} {p2 : GEvent} {r : Bool} (h : impl_leads p1 p2 = some r) : Meets Try.prog 62 [(AV.agg ((o47 p1))), (AV.agg ((o47 p2)))] (B r) := by
  refine meets_ofC Θ_ok Try.func62 rfl (c := body62) (by kernel_rfl) (Nat.le_of_ble_eq_true rfl) ?_
  intro E hP hn hx
  replace hn : E.n = 60 := hn
  have hm : E.P.follows .mixedOrders = true := by rw [hP]; exact mixed
  have hΘ : TOK E.P Θ := by rw [hP]; exact Θ_ok
  unfold impl_leads at h
  show WAt E body62 (FQ (RetE Θ Try.f62.results.toList [] [] (B r) E)) [] ⟨[(0, (AV.agg ((o47 p1)))), (1, (AV.agg ((o47 p2))))], [], [JJ]⟩
  rcases itS h with ⟨c3, h⟩ | ⟨c4, h⟩
  · have h := Option.some.inj h
    subst h
    exact go_ret hΘ hm hP hn (hs := [⟨0, .new 1001, none⟩, ⟨1, .new 1002, none⟩, ⟨8, .no, some (B true)⟩]) (rh := []) (ph := .raw) (ps := [(B (p1.Thread == p2.Thread)) = (B true), (B true) = (B true), litA (B true) = true]) (by kernel_rfl) ⟨(litB c3), rfl, rfl, trivial⟩
  · obtain ⟨r5, hr5, h⟩ := bnS h
    rcases itS h with ⟨c6, h⟩ | ⟨c21, h⟩
    · obtain ⟨r7, hr7, h⟩ := bnS h
      obtain ⟨r8, hr8, h⟩ := bnS h
      rcases itS h with ⟨c9, h⟩ | ⟨c10, h⟩
      · have h := Option.some.inj h
        subst h
        exact go_ret hΘ hm hP hn (hs := [⟨0, .new 1001, none⟩, ⟨1, .new 1002, none⟩, ⟨8, .no, some (B false)⟩, ⟨10, .callV [[]] (I r5), none⟩, ⟨12, .no, some (B true)⟩, ⟨14, .callV [[]] (I r7), none⟩, ⟨16, .callV [[]] (I r8), none⟩, ⟨21, .br true, none⟩]) (rh := []) (ph := .raw) (ps := [(B (p1.Thread == p2.Thread)) = (B false), Meets Try.prog 70 [(AV.agg ((o47 p1)))] (I r5), litA (I r5) = true, (B (decide (r5 ≥ 0))) = (B true), Meets Try.prog 70 [(AV.agg ((o47 p1)))] (I r7), litA (I r7) = true, Meets Try.prog 67 [(AV.agg ((o47 p2)))] (I r8), litA (I r8) = true, (r7 == r8) = true, (B true) = (B true), litA (B true) = true]) (by kernel_rfl) ⟨(litB c4), (impl_Event_gives_m hr5), rfl, (litB c6), (impl_Event_gives_m hr7), rfl, (impl_Event_takes_m hr8), rfl, c9, rfl, rfl, trivial⟩
      · exact go_to hΘ hm hx hP hn (hs := [⟨0, .new 1001, none⟩, ⟨1, .new 1002, none⟩, ⟨8, .no, some (B false)⟩, ⟨10, .callV [[]] (I r5), none⟩, ⟨12, .no, some (B true)⟩, ⟨14, .callV [[]] (I r7), none⟩, ⟨16, .callV [[]] (I r8), none⟩, ⟨21, .br false, none⟩]) (π := [(1001, 1), (1002, 2)]) (ts := [2, 3]) (kp := []) (ps := [(B (p1.Thread == p2.Thread)) = (B false), Meets Try.prog 70 [(AV.agg ((o47 p1)))] (I r5), litA (I r5) = true, (B (decide (r5 ≥ 0))) = (B true), Meets Try.prog 70 [(AV.agg ((o47 p1)))] (I r7), litA (I r7) = true, Meets Try.prog 67 [(AV.agg ((o47 p2)))] (I r8), litA (I r8) = true, (r7 == r8) = false, RenOK [(1001, 1), (1002, 2)] [((o47 p1))], RenOK [(1001, 1), (1002, 2)] [((o47 p2))]]) (by kernel_rfl) ⟨(litB c4), (impl_Event_gives_m hr5), rfl, (litB c6), (impl_Event_gives_m hr7), rfl, (impl_Event_takes_m hr8), rfl, c10, (rok rfl), (rok rfl), trivial⟩ (impl_leads_j0_m hP hn hx p1 p2  _ h)
    · exact go_to hΘ hm hx hP hn (hs := [⟨0, .new 1001, none⟩, ⟨1, .new 1002, none⟩, ⟨8, .no, some (B false)⟩, ⟨10, .callV [[]] (I r5), none⟩, ⟨12, .no, some (B false)⟩]) (π := [(1001, 1), (1002, 2)]) (ts := [2, 3]) (kp := []) (ps := [(B (p1.Thread == p2.Thread)) = (B false), Meets Try.prog 70 [(AV.agg ((o47 p1)))] (I r5), litA (I r5) = true, (B (decide (r5 ≥ 0))) = (B false), RenOK [(1001, 1), (1002, 2)] [((o47 p1))], RenOK [(1001, 1), (1002, 2)] [((o47 p2))]]) (by kernel_rfl) ⟨(litB c4), (impl_Event_gives_m hr5), rfl, (litB c21), (rok rfl), (rok rfl), trivial⟩ (impl_leads_j0_m hP hn hx p1 p2  _ h)
noncomputable def body64 : Code := match Try.f64.body with | some c => c | none => .skip
noncomputable def impl_places_joined_l0   : Nat → (Vector Int 4) → (Vector Int 4) → (Vector Int 4) → Int → Option (Vector Int 4)
  | 0, _, _, _, _ => none
  | n + 1, a3, a4, a5, v6 =>
  if (decide (v6 < 4)) = true then
    Option.bind (rdv a3 v6) fun x8 =>
    Option.bind (rdv a4 v6) fun x9 =>
    Option.bind (rdv a3 v6) fun x10 =>
    impl_places_joined_l0 n (a3.setIfInBounds (Int.toNat v6) (ior .u64 x8 x9)) a4 a5 (w64 (v6 + 1))
  else
    some a3
theorem impl_places_joined_l0_m {E : Env} (hP : E.P = Try.prog) (hn : E.n = 19) (hx : ∀ p, p ∈ E.fx → p.1 ∈ ([] : List Nat))   : ∀ (n : Nat) (a3 : (Vector Int 4)) (a4 : (Vector Int 4)) (a5 : (Vector Int 4)) (v6 : Int) (r : (Vector Int 4)), impl_places_joined_l0  n a3 a4 a5 v6 = some r → WAt E body64 (FQ (RetE Θ Try.f64.results.toList [] [] (AV.agg (o66 r)) E)) [true, false, true, false] ⟨[(2, (AV.ptr 1 0 0)), (3, (AV.ptr 2 0 0)), (4, (AV.ptr 3 0 0)), (6, (I v6))], [(1, some ⟨66, 4, [((o66 a3))]⟩), (2, some ⟨66, 4, [((o66 a4))]⟩), (3, some ⟨66, 4, [((o66 a5))]⟩)], [1, 2, 3, JJ]⟩ := by
  have hm : E.P.follows .mixedOrders = true := by rw [hP]; exact mixed
  have hΘ : TOK E.P Θ := by rw [hP]; exact Θ_ok
  intro n
  induction n with
  | zero => intro a3 a4 a5 v6 r h; simp only [impl_places_joined_l0] at h; cases h
  | succ n ih =>
    intro a3 a4 a5 v6 r h
    simp only [impl_places_joined_l0] at h
    rcases itS h with ⟨c7, h⟩ | ⟨c11, h⟩
    · obtain ⟨x8, hx8, h⟩ := bnS h
      obtain ⟨x9, hx9, h⟩ := bnS h
      obtain ⟨x10, hx10, h⟩ := bnS h
      exact go_to hΘ hm hx hP hn (hs := [⟨1, .br true, none⟩, ⟨6, .cel ((o66 a3)) (IK .u64 x8), none⟩, ⟨9, .cel ((o66 a4)) (IK .u64 x9), none⟩, ⟨12, .sto ((o66 a3)) [((o66 (a3.setIfInBounds (Int.toNat v6) (ior .u64 x8 x9))))], none⟩]) (π := [(1, 1), (2, 2), (3, 3)]) (ts := [2, 3, 4, 6]) (kp := []) (ps := [(decide (v6 < 4)) = true, (0 : Int) ≤ v6, v6 < ((4 : Nat) : Int), ((o66 a3))[(Int.toNat v6)]? = some (IK .u64 x8), [((o66 a3))][0]? = some ((o66 a3)), (0 : Int) ≤ v6, v6 < ((4 : Nat) : Int), ((o66 a4))[(Int.toNat v6)]? = some (IK .u64 x9), [((o66 a4))][0]? = some ((o66 a4)), (0 : Int) ≤ v6, v6 < ((4 : Nat) : Int), [((o66 a3))][0]? = some ((o66 a3)), [((o66 a3))].set 0 (wr ((o66 a3)) (Int.toNat v6) [(IK .u64 (ior .u64 x8 x9))]) = [((o66 (a3.setIfInBounds (Int.toNat v6) (ior .u64 x8 x9))))], [(IK .u64 (ior .u64 x8 x9))].length = 1, (Int.toNat v6) + [(IK .u64 (ior .u64 x8 x9))].length ≤ ((o66 a3)).length, RenOK [(1, 1), (2, 2), (3, 3)] [((o66 (a3.setIfInBounds (Int.toNat v6) (ior .u64 x8 x9))))], RenOK [(1, 1), (2, 2), (3, 3)] [((o66 a4))], RenOK [(1, 1), (2, 2), (3, 3)] [((o66 a5))]]) (by kernel_rfl) ⟨c7, (rv0 hx8), (rvL hx8), (rvM k64 hx8), rfl, (rv0 hx9), (rvL hx9), (rvM k64 hx9), rfl, (rv0 hx10), (rvL hx10), rfl, (vecWr k64 _ (rvLt hx10)), rfl, (vecLe k64 hx10), (rok (treeB t66 (a3.setIfInBounds (Int.toNat v6) (ior .u64 x8 x9)))), (rok (treeB t66 a4)), (rok (treeB t66 a5)), trivial⟩ (ih (a3.setIfInBounds (Int.toNat v6) (ior .u64 x8 x9)) a4 a5 (w64 (v6 + 1)) _ h)
    · have h := Option.some.inj h
      subst h
      exact go_ret hΘ hm hP hn (hs := [⟨1, .br false, none⟩, ⟨2, .agg ((o66 a3)) ((o66 a3)), none⟩, ⟨3, .stoS ((o66 a5)) [((o66 a3))], none⟩]) (rh := [.agg ((o66 a3)) ((o66 a3))]) (ph := .raw) (ps := [(decide (v6 < 4)) = false, 0 + 4 ≤ ((o66 a3)).length, (((o66 a3)).drop 0).take 4 = ((o66 a3)), ((o66 a3)).all AV.plain = true, [((o66 a3))][0]? = some ((o66 a3)), [((o66 a5))][0]? = some ((o66 a5)), [((o66 a5))].set 0 (wr ((o66 a5)) 0 ((o66 a3))) = [((o66 a3))], ((o66 a3)).length = 4, 0 + ((o66 a3)).length ≤ ((o66 a5)).length, ((o66 a3)).all okLit = true, 0 + 4 ≤ ((o66 a3)).length, (((o66 a3)).drop 0).take 4 = ((o66 a3)), ((o66 a3)).all AV.plain = true, [((o66 a3))][0]? = some ((o66 a3)), (AV.agg ((o66 a3))) = (AV.agg ((o66 a3))), litA (AV.agg ((o66 a3))) = true]) (by kernel_rfl) ⟨c11, (vecLe0 k64), (vecAgg k64), (p66 _), rfl, rfl, (vecSt k64 k64), (vecLen k64), (vecLL k64 k64), (vecAll k64 (fun _ => rfl)), (vecLe0 k64), (vecAgg k64), (p66 _), rfl, rfl, (vecLit k64 (fun _ => rfl)), trivial⟩
noncomputable def impl_places_joined (p1 : (Vector Int 4)) (p2 : (Vector Int 4)) : Option (Vector Int 4) :=
  impl_places_joined_l0 FU p1 p2 (Vector.replicate 4 0) 0
theorem impl_places_joined_m {p1 : (Vector Int 4)} {p2 : (Vector Int 4)} {r : (Vector Int 4)} (h : impl_places_joined p1 p2 = some r) : Meets Try.prog 64 [(AV.agg ((o66 p1))), (AV.agg ((o66 p2)))] (AV.agg (o66 r)) := by
  refine meets_ofC Θ_ok Try.func64 rfl (c := body64) (by kernel_rfl) (Nat.le_of_ble_eq_true rfl) ?_
  intro E hP hn hx
  replace hn : E.n = 19 := hn
  have hm : E.P.follows .mixedOrders = true := by rw [hP]; exact mixed
  have hΘ : TOK E.P Θ := by rw [hP]; exact Θ_ok
  unfold impl_places_joined at h
  show WAt E body64 (FQ (RetE Θ Try.f64.results.toList [] [] (AV.agg (o66 r)) E)) [] ⟨[(0, (AV.agg ((o66 p1)))), (1, (AV.agg ((o66 p2))))], [], [JJ]⟩
  exact go_to hΘ hm hx hP hn (hs := [⟨0, .nw 1001 [((o66 p1))], none⟩, ⟨1, .nw 1002 [((o66 p2))], none⟩, ⟨2, .nw 1003 [((o66 (Vector.replicate 4 0)))], none⟩]) (π := [(1001, 1), (1002, 2), (1003, 3)]) (ts := [2, 3, 4, 6]) (kp := []) (ps := [[((o66 p1))] = [((o66 p1))], ((o66 p1)).length = 4, ((o66 p1)).all okLit = true, 0 < ((o66 p1)).length, [((o66 p2))] = [((o66 p2))], ((o66 p2)).length = 4, ((o66 p2)).all okLit = true, 0 < ((o66 p2)).length, [litL [.int .u64 0, .int .u64 0, .int .u64 0, .int .u64 0]] = [((o66 (Vector.replicate 4 0)))], RenOK [(1001, 1), (1002, 2), (1003, 3)] [((o66 p1))], RenOK [(1001, 1), (1002, 2), (1003, 3)] [((o66 p2))], RenOK [(1001, 1), (1002, 2), (1003, 3)] [((o66 (Vector.replicate 4 0)))]]) (by kernel_rfl) ⟨rfl, (vecLen k64), (vecAll k64 (fun _ => rfl)), (vecPos k64 (by decide)), rfl, (vecLen k64), (vecAll k64 (fun _ => rfl)), (vecPos k64 (by decide)), rfl, (rok (treeB t66 p1)), (rok (treeB t66 p2)), (rok (treeB t66 (Vector.replicate 4 0))), trivial⟩ (impl_places_joined_l0_m hP hn hx FU p1 p2 (Vector.replicate 4 0) 0 _ h)
noncomputable def body63 : Code := match Try.f63.body with | some c => c | none => .skip
noncomputable def impl_places_with (p1 : (Vector Int 4)) (p2 : Int) : Option (Vector Int 4) :=
  Option.bind (rdv p1 (w64 (Int.tdiv p2 64))) fun x3 =>
  Option.bind (ge0 (Int.tmod p2 64)) fun q4 =>
  Option.bind (rdv p1 (w64 (Int.tdiv p2 64))) fun x5 =>
  some (p1.setIfInBounds (Int.toNat (w64 (Int.tdiv p2 64))) (ior .u64 x3 (IntKind.wrap .u64 (1 * 2 ^ (min (Int.toNat (Int.tmod p2 64)) 64)))))
theorem impl_places_with_m {p1 : (Vector Int 4)} {p2 : Int} {r : (Vector Int 4)} (h : impl_places_with p1 p2 = some r) : Meets Try.prog 63 [(AV.agg ((o66 p1))), (I p2)] (AV.agg (o66 r)) := by
  refine meets_ofC Θ_ok Try.func63 rfl (c := body63) (by kernel_rfl) (Nat.le_of_ble_eq_true rfl) ?_
  intro E hP hn hx
  replace hn : E.n = 15 := hn
  have hm : E.P.follows .mixedOrders = true := by rw [hP]; exact mixed
  have hΘ : TOK E.P Θ := by rw [hP]; exact Θ_ok
  unfold impl_places_with at h
  show WAt E body63 (FQ (RetE Θ Try.f63.results.toList [] [] (AV.agg (o66 r)) E)) [] ⟨[(0, (AV.agg ((o66 p1)))), (1, (I p2))], [], [JJ]⟩
  obtain ⟨x3, hx3, h⟩ := bnS h
  obtain ⟨q4, hq4, h⟩ := bnS h
  obtain ⟨x5, hx5, h⟩ := bnS h
  have h := Option.some.inj h
  subst h
  exact go_ret hΘ hm hP hn (hs := [⟨0, .nw 1001 [((o66 p1))], none⟩, ⟨1, .nw 1002 [((o66 (Vector.replicate 4 0)))], none⟩, ⟨5, .cel ((o66 p1)) (IK .u64 x3), none⟩, ⟨11, .sto ((o66 p1)) [((o66 (p1.setIfInBounds (Int.toNat (w64 (Int.tdiv p2 64))) (ior .u64 x3 (IntKind.wrap .u64 (1 * 2 ^ (min (Int.toNat (Int.tmod p2 64)) 64)))))))], none⟩, ⟨12, .agg ((o66 (p1.setIfInBounds (Int.toNat (w64 (Int.tdiv p2 64))) (ior .u64 x3 (IntKind.wrap .u64 (1 * 2 ^ (min (Int.toNat (Int.tmod p2 64)) 64))))))) ((o66 (p1.setIfInBounds (Int.toNat (w64 (Int.tdiv p2 64))) (ior .u64 x3 (IntKind.wrap .u64 (1 * 2 ^ (min (Int.toNat (Int.tmod p2 64)) 64))))))), none⟩, ⟨13, .stoS ((o66 (Vector.replicate 4 0))) [((o66 (p1.setIfInBounds (Int.toNat (w64 (Int.tdiv p2 64))) (ior .u64 x3 (IntKind.wrap .u64 (1 * 2 ^ (min (Int.toNat (Int.tmod p2 64)) 64)))))))], none⟩]) (rh := [.agg ((o66 (p1.setIfInBounds (Int.toNat (w64 (Int.tdiv p2 64))) (ior .u64 x3 (IntKind.wrap .u64 (1 * 2 ^ (min (Int.toNat (Int.tmod p2 64)) 64))))))) ((o66 (p1.setIfInBounds (Int.toNat (w64 (Int.tdiv p2 64))) (ior .u64 x3 (IntKind.wrap .u64 (1 * 2 ^ (min (Int.toNat (Int.tmod p2 64)) 64)))))))]) (ph := .raw) (ps := [[((o66 p1))] = [((o66 p1))], ((o66 p1)).length = 4, ((o66 p1)).all okLit = true, 0 < ((o66 p1)).length, [litL [.int .u64 0, .int .u64 0, .int .u64 0, .int .u64 0]] = [((o66 (Vector.replicate 4 0)))], 64 ≠ (0 : Int), (0 : Int) ≤ (w64 (Int.tdiv p2 64)), (w64 (Int.tdiv p2 64)) < ((4 : Nat) : Int), ((o66 p1))[(Int.toNat (w64 (Int.tdiv p2 64)))]? = some (IK .u64 x3), [((o66 p1))][0]? = some ((o66 p1)), 64 ≠ (0 : Int), ¬ (Int.tmod p2 64) < (0 : Int), (0 : Int) ≤ (w64 (Int.tdiv p2 64)), (w64 (Int.tdiv p2 64)) < ((4 : Nat) : Int), [((o66 p1))][0]? = some ((o66 p1)), [((o66 p1))].set 0 (wr ((o66 p1)) (Int.toNat (w64 (Int.tdiv p2 64))) [(IK .u64 (ior .u64 x3 (IntKind.wrap .u64 (1 * 2 ^ (min (Int.toNat (Int.tmod p2 64)) 64)))))]) = [((o66 (p1.setIfInBounds (Int.toNat (w64 (Int.tdiv p2 64))) (ior .u64 x3 (IntKind.wrap .u64 (1 * 2 ^ (min (Int.toNat (Int.tmod p2 64)) 64)))))))], [(IK .u64 (ior .u64 x3 (IntKind.wrap .u64 (1 * 2 ^ (min (Int.toNat (Int.tmod p2 64)) 64)))))].length = 1, (Int.toNat (w64 (Int.tdiv p2 64))) + [(IK .u64 (ior .u64 x3 (IntKind.wrap .u64 (1 * 2 ^ (min (Int.toNat (Int.tmod p2 64)) 64)))))].length ≤ ((o66 p1)).length, 0 + 4 ≤ ((o66 (p1.setIfInBounds (Int.toNat (w64 (Int.tdiv p2 64))) (ior .u64 x3 (IntKind.wrap .u64 (1 * 2 ^ (min (Int.toNat (Int.tmod p2 64)) 64))))))).length, (((o66 (p1.setIfInBounds (Int.toNat (w64 (Int.tdiv p2 64))) (ior .u64 x3 (IntKind.wrap .u64 (1 * 2 ^ (min (Int.toNat (Int.tmod p2 64)) 64))))))).drop 0).take 4 = ((o66 (p1.setIfInBounds (Int.toNat (w64 (Int.tdiv p2 64))) (ior .u64 x3 (IntKind.wrap .u64 (1 * 2 ^ (min (Int.toNat (Int.tmod p2 64)) 64))))))), ((o66 (p1.setIfInBounds (Int.toNat (w64 (Int.tdiv p2 64))) (ior .u64 x3 (IntKind.wrap .u64 (1 * 2 ^ (min (Int.toNat (Int.tmod p2 64)) 64))))))).all AV.plain = true, [((o66 (p1.setIfInBounds (Int.toNat (w64 (Int.tdiv p2 64))) (ior .u64 x3 (IntKind.wrap .u64 (1 * 2 ^ (min (Int.toNat (Int.tmod p2 64)) 64)))))))][0]? = some ((o66 (p1.setIfInBounds (Int.toNat (w64 (Int.tdiv p2 64))) (ior .u64 x3 (IntKind.wrap .u64 (1 * 2 ^ (min (Int.toNat (Int.tmod p2 64)) 64))))))), [((o66 (Vector.replicate 4 0)))][0]? = some ((o66 (Vector.replicate 4 0))), [((o66 (Vector.replicate 4 0)))].set 0 (wr ((o66 (Vector.replicate 4 0))) 0 ((o66 (p1.setIfInBounds (Int.toNat (w64 (Int.tdiv p2 64))) (ior .u64 x3 (IntKind.wrap .u64 (1 * 2 ^ (min (Int.toNat (Int.tmod p2 64)) 64)))))))) = [((o66 (p1.setIfInBounds (Int.toNat (w64 (Int.tdiv p2 64))) (ior .u64 x3 (IntKind.wrap .u64 (1 * 2 ^ (min (Int.toNat (Int.tmod p2 64)) 64)))))))], ((o66 (p1.setIfInBounds (Int.toNat (w64 (Int.tdiv p2 64))) (ior .u64 x3 (IntKind.wrap .u64 (1 * 2 ^ (min (Int.toNat (Int.tmod p2 64)) 64))))))).length = 4, 0 + ((o66 (p1.setIfInBounds (Int.toNat (w64 (Int.tdiv p2 64))) (ior .u64 x3 (IntKind.wrap .u64 (1 * 2 ^ (min (Int.toNat (Int.tmod p2 64)) 64))))))).length ≤ ((o66 (Vector.replicate 4 0))).length, ((o66 (p1.setIfInBounds (Int.toNat (w64 (Int.tdiv p2 64))) (ior .u64 x3 (IntKind.wrap .u64 (1 * 2 ^ (min (Int.toNat (Int.tmod p2 64)) 64))))))).all okLit = true, 0 + 4 ≤ ((o66 (p1.setIfInBounds (Int.toNat (w64 (Int.tdiv p2 64))) (ior .u64 x3 (IntKind.wrap .u64 (1 * 2 ^ (min (Int.toNat (Int.tmod p2 64)) 64))))))).length, (((o66 (p1.setIfInBounds (Int.toNat (w64 (Int.tdiv p2 64))) (ior .u64 x3 (IntKind.wrap .u64 (1 * 2 ^ (min (Int.toNat (Int.tmod p2 64)) 64))))))).drop 0).take 4 = ((o66 (p1.setIfInBounds (Int.toNat (w64 (Int.tdiv p2 64))) (ior .u64 x3 (IntKind.wrap .u64 (1 * 2 ^ (min (Int.toNat (Int.tmod p2 64)) 64))))))), ((o66 (p1.setIfInBounds (Int.toNat (w64 (Int.tdiv p2 64))) (ior .u64 x3 (IntKind.wrap .u64 (1 * 2 ^ (min (Int.toNat (Int.tmod p2 64)) 64))))))).all AV.plain = true, [((o66 (p1.setIfInBounds (Int.toNat (w64 (Int.tdiv p2 64))) (ior .u64 x3 (IntKind.wrap .u64 (1 * 2 ^ (min (Int.toNat (Int.tmod p2 64)) 64)))))))][0]? = some ((o66 (p1.setIfInBounds (Int.toNat (w64 (Int.tdiv p2 64))) (ior .u64 x3 (IntKind.wrap .u64 (1 * 2 ^ (min (Int.toNat (Int.tmod p2 64)) 64))))))), (AV.agg ((o66 (p1.setIfInBounds (Int.toNat (w64 (Int.tdiv p2 64))) (ior .u64 x3 (IntKind.wrap .u64 (1 * 2 ^ (min (Int.toNat (Int.tmod p2 64)) 64)))))))) = (AV.agg ((o66 (p1.setIfInBounds (Int.toNat (w64 (Int.tdiv p2 64))) (ior .u64 x3 (IntKind.wrap .u64 (1 * 2 ^ (min (Int.toNat (Int.tmod p2 64)) 64)))))))), litA (AV.agg ((o66 (p1.setIfInBounds (Int.toNat (w64 (Int.tdiv p2 64))) (ior .u64 x3 (IntKind.wrap .u64 (1 * 2 ^ (min (Int.toNat (Int.tmod p2 64)) 64)))))))) = true]) (by kernel_rfl) ⟨rfl, (vecLen k64), (vecAll k64 (fun _ => rfl)), (vecPos k64 (by decide)), rfl, (by decide), (rv0 hx3), (rvL hx3), (rvM k64 hx3), rfl, (by decide), (ge0E hq4), (rv0 hx5), (rvL hx5), rfl, (vecWr k64 _ (rvLt hx5)), rfl, (vecLe k64 hx5), (vecLe0 k64), (vecAgg k64), (p66 _), rfl, rfl, (vecSt k64 k64), (vecLen k64), (vecLL k64 k64), (vecAll k64 (fun _ => rfl)), (vecLe0 k64), (vecAgg k64), (p66 _), rfl, rfl, (vecLit k64 (fun _ => rfl)), trivial⟩
noncomputable def body45 : Code := match Try.f45.body with | some c => c | none => .skip
noncomputable def impl_aheadOf_l1 (K0 : (List (Vector Int 4)) → Int → Option (List (Vector Int 4))) (p1 : (List GEvent)) (v4 : Int) : Nat → (List (Vector Int 4)) → Int → Option (List (Vector Int 4))
  | 0, _, _ => none
  | n + 1, a6, v7 =>
  if (decide (v7 < v4)) = true then
    Option.bind (rd p1 v7) fun x9 =>
    Option.bind (rd p1 v4) fun x10 =>
    Option.bind (impl_leads x9 x10) fun r11 =>
    if r11 = true then
      Option.bind (rd a6 v4) fun x13 =>
      Option.bind (impl_places_with x13 v7) fun r14 =>
      Option.bind (rd a6 v7) fun x15 =>
      Option.bind (impl_places_joined r14 x15) fun r16 =>
      impl_aheadOf_l1 K0 p1 v4 n (a6.set (Int.toNat v4) r16) (w64 (v7 + 1))
    else
      impl_aheadOf_l1 K0 p1 v4 n a6 (w64 (v7 + 1))
  else
    K0 a6 (w64 (v4 + 1))
theorem impl_aheadOf_l1_m {E : Env} (hP : E.P = Try.prog) (hn : E.n = 44) (hx : ∀ p, p ∈ E.fx → p.1 ∈ ([] : List Nat)) (p1 : (List GEvent)) (v4 : Int) {K0 : (List (Vector Int 4)) → Int → Option (List (Vector Int 4))} (hK0 : ∀ (a3 : (List (Vector Int 4))) (v4 : Int) (r : (List (Vector Int 4))), K0 a3 v4 = some r → WAt E body45 (FQ (RetE Θ Try.f45.results.toList [] [] (AV.own 66 4 (r.map o66)) E)) [true, true, false, true, false] ⟨[(0, (AV.ro 5 (p1.map o47))), (3, (AV.sl 1 0 (List.length (a3.map o66)))), (10, (I (p1.length : Int))), (11, (I v4))], [(1, some ⟨66, 4, (a3.map o66)⟩)], [1, JJ]⟩) : ∀ (n : Nat) (a6 : (List (Vector Int 4))) (v7 : Int) (r : (List (Vector Int 4))), impl_aheadOf_l1 K0 p1 v4 n a6 v7 = some r → WAt E body45 (FQ (RetE Θ Try.f45.results.toList [] [] (AV.own 66 4 (r.map o66)) E)) [true, true, false, true, false, false, true, true, false, false, true, true, false] ⟨[(0, (AV.ro 5 (p1.map o47))), (3, (AV.sl 1 0 (List.length (a6.map o66)))), (4, (I v4)), (10, (I (p1.length : Int))), (11, (I v4)), (14, (I v4)), (15, (I v7))], [(1, some ⟨66, 4, (a6.map o66)⟩)], [1, JJ]⟩ := by
  have hm : E.P.follows .mixedOrders = true := by rw [hP]; exact mixed
  have hΘ : TOK E.P Θ := by rw [hP]; exact Θ_ok
  intro n
  induction n with
  | zero => intro a6 v7 r h; simp only [impl_aheadOf_l1] at h; cases h
  | succ n ih =>
    intro a6 v7 r h
    simp only [impl_aheadOf_l1] at h
    rcases itS h with ⟨c8, h⟩ | ⟨c18, h⟩
    · obtain ⟨x9, hx9, h⟩ := bnS h
      obtain ⟨x10, hx10, h⟩ := bnS h
      obtain ⟨r11, hr11, h⟩ := bnS h
      rcases itS h with ⟨c12, h⟩ | ⟨c17, h⟩
      · obtain ⟨x13, hx13, h⟩ := bnS h
        obtain ⟨r14, hr14, h⟩ := bnS h
        obtain ⟨x15, hx15, h⟩ := bnS h
        obtain ⟨r16, hr16, h⟩ := bnS h
        exact go_to hΘ hm hx hP hn (hs := [⟨1, .br true, none⟩, ⟨6, .row (o47 x9), none⟩, ⟨10, .row (o47 x10), none⟩, ⟨12, .callV [[], []] (B r11), none⟩, ⟨13, .br true, none⟩, ⟨19, .agg ((o66 x13)) ((o66 x13)), none⟩, ⟨21, .callV [[[AV.dead]]] (AV.agg (o66 r14)), none⟩, ⟨25, .agg ((o66 x15)) ((o66 x15)), none⟩, ⟨26, .callV [[[AV.dead]], [[AV.dead]]] (AV.agg (o66 r16)), none⟩, ⟨28, .stoS ((o66 x13)) ((a6.set (Int.toNat v4) r16).map o66), none⟩, ⟨31, .slen 3 (List.length ((a6.set (Int.toNat v4) r16).map o66)), none⟩]) (π := [(1, 1)]) (ts := [0, 3, 4, 10, 11, 14, 15]) (kp := []) (ps := [(decide (v7 < v4)) = true, (0 : Int) ≤ v7, (p1.map o47)[(Int.toNat v7)]? = some (o47 x9), (0 : Int) ≤ v4, (p1.map o47)[(Int.toNat v4)]? = some (o47 x10), Meets Try.prog 62 [(AV.agg ((o47 x9))), (AV.agg ((o47 x10)))] (B r11), litA (B r11) = true, r11 = true, (0 : Int) ≤ v4, v4 < (((List.length (a6.map o66)) : Nat) : Int), 0 + 4 ≤ ((o66 x13)).length, (((o66 x13)).drop 0).take 4 = ((o66 x13)), ((o66 x13)).all AV.plain = true, (a6.map o66)[(Int.toNat v4)]? = some ((o66 x13)), Meets Try.prog 63 [(AV.agg ((o66 x13))), (I v7)] (AV.agg (o66 r14)), litA (AV.agg (o66 r14)) = true, ((o66 x13)).all okLit = true, (0 : Int) ≤ v7, v7 < (((List.length (a6.map o66)) : Nat) : Int), 0 + 4 ≤ ((o66 x15)).length, (((o66 x15)).drop 0).take 4 = ((o66 x15)), ((o66 x15)).all AV.plain = true, (a6.map o66)[(Int.toNat v7)]? = some ((o66 x15)), Meets Try.prog 64 [(AV.agg ((o66 r14))), (AV.agg ((o66 x15)))] (AV.agg (o66 r16)), litA (AV.agg (o66 r16)) = true, ((o66 r14)).all okLit = true, ((o66 x15)).all okLit = true, (0 : Int) ≤ v4, v4 < (((List.length (a6.map o66)) : Nat) : Int), (a6.map o66)[(Int.toNat v4)]? = some ((o66 x13)), (a6.map o66).set (Int.toNat v4) (wr ((o66 x13)) 0 ((o66 r16))) = ((a6.set (Int.toNat v4) r16).map o66), ((o66 r16)).length = 4, 0 + ((o66 r16)).length ≤ ((o66 x13)).length, ((o66 r16)).all okLit = true, (List.length (a6.map o66)) = (List.length ((a6.set (Int.toNat v4) r16).map o66)), RenOK [(1, 1)] ((a6.set (Int.toNat v4) r16).map o66)]) (by kernel_rfl) ⟨c8, (rd0 hx9), (rdM o47 hx9), (rd0 hx10), (rdM o47 hx10), (impl_leads_m hr11), rfl, c12, (rd0 hx13), (rdL o66 hx13), (vecLe0 k64), (vecAgg k64), (p66 _), (rdM o66 hx13), (impl_places_with_m hr14), (vecLit k64 (fun _ => rfl)), (vecAll k64 (fun _ => rfl)), (rd0 hx15), (rdL o66 hx15), (vecLe0 k64), (vecAgg k64), (p66 _), (rdM o66 hx15), (impl_places_joined_m hr16), (vecLit k64 (fun _ => rfl)), (vecAll k64 (fun _ => rfl)), (vecAll k64 (fun _ => rfl)), (rd0 hx13), (rdL o66 hx13), (rdM o66 hx13), (setV k64 (fun _ => rfl)), (vecLen k64), (vecLL k64 k64), (vecAll k64 (fun _ => rfl)), (by first | exact lnSet _ | exact lnSet2 _ | simp only [List.length_map, List.length_set, List.length_cons, List.length_nil]), (rok (treeM t66)), trivial⟩ (ih (a6.set (Int.toNat v4) r16) (w64 (v7 + 1)) _ h)
      · exact go_to hΘ hm hx hP hn (hs := [⟨1, .br true, none⟩, ⟨6, .row (o47 x9), none⟩, ⟨10, .row (o47 x10), none⟩, ⟨12, .callV [[], []] (B r11), none⟩, ⟨13, .br false, none⟩]) (π := [(1, 1)]) (ts := [0, 3, 4, 10, 11, 14, 15]) (kp := []) (ps := [(decide (v7 < v4)) = true, (0 : Int) ≤ v7, (p1.map o47)[(Int.toNat v7)]? = some (o47 x9), (0 : Int) ≤ v4, (p1.map o47)[(Int.toNat v4)]? = some (o47 x10), Meets Try.prog 62 [(AV.agg ((o47 x9))), (AV.agg ((o47 x10)))] (B r11), litA (B r11) = true, r11 = false, RenOK [(1, 1)] (a6.map o66)]) (by kernel_rfl) ⟨c8, (rd0 hx9), (rdM o47 hx9), (rd0 hx10), (rdM o47 hx10), (impl_leads_m hr11), rfl, c17, (rok (treeM t66)), trivial⟩ (ih a6 (w64 (v7 + 1)) _ h)
    · exact go_to hΘ hm hx hP hn (hs := [⟨1, .br false, none⟩]) (π := [(1, 1)]) (ts := [0, 3, 10, 11]) (kp := []) (ps := [(decide (v7 < v4)) = false, RenOK [(1, 1)] (a6.map o66)]) (by kernel_rfl) ⟨c18, (rok (treeM t66)), trivial⟩ (hK0 a6 (w64 (v4 + 1)) _ h)
noncomputable def impl_aheadOf_l0  (p1 : (List GEvent)) : Nat → (List (Vector Int 4)) → Int → Option (List (Vector Int 4))
  | 0, _, _ => none
  | n + 1, a3, v4 =>
  if (decide (v4 < (p1.length : Int))) = true then
    impl_aheadOf_l1 (impl_aheadOf_l0 p1 n) p1 v4 FU a3 0
  else
    some a3
theorem impl_aheadOf_l0_m {E : Env} (hP : E.P = Try.prog) (hn : E.n = 44) (hx : ∀ p, p ∈ E.fx → p.1 ∈ ([] : List Nat)) (p1 : (List GEvent))  : ∀ (n : Nat) (a3 : (List (Vector Int 4))) (v4 : Int) (r : (List (Vector Int 4))), impl_aheadOf_l0 p1 n a3 v4 = some r → WAt E body45 (FQ (RetE Θ Try.f45.results.toList [] [] (AV.own 66 4 (r.map o66)) E)) [true, true, false, true, false] ⟨[(0, (AV.ro 5 (p1.map o47))), (3, (AV.sl 1 0 (List.length (a3.map o66)))), (10, (I (p1.length : Int))), (11, (I v4))], [(1, some ⟨66, 4, (a3.map o66)⟩)], [1, JJ]⟩ := by
  have hm : E.P.follows .mixedOrders = true := by rw [hP]; exact mixed
  have hΘ : TOK E.P Θ := by rw [hP]; exact Θ_ok
  intro n
  induction n with
  | zero => intro a3 v4 r h; simp only [impl_aheadOf_l0] at h; cases h
  | succ n ih =>
    intro a3 v4 r h
    simp only [impl_aheadOf_l0] at h
    rcases itS h with ⟨c5, h⟩ | ⟨c19, h⟩
    · exact go_to hΘ hm hx hP hn (hs := [⟨1, .br true, none⟩]) (π := [(1, 1)]) (ts := [0, 3, 4, 10, 11, 14, 15]) (kp := []) (ps := [(decide (v4 < (p1.length : Int))) = true, RenOK [(1, 1)] (a3.map o66)]) (by kernel_rfl) ⟨c5, (rok (treeM t66)), trivial⟩ (impl_aheadOf_l1_m hP hn hx p1 v4 ih FU a3 0 _ h)
    · have h := Option.some.inj h
      subst h
      exact go_ret hΘ hm hP hn (hs := [⟨1, .br false, none⟩]) (rh := []) (ph := .own) (ps := [(decide (v4 < (p1.length : Int))) = false, treeLL ((a3.map o66).take (List.length (a3.map o66))) = true, (a3.map o66).take (List.length (a3.map o66)) = (a3.map o66), noRoLL (a3.map o66) = true]) (by kernel_rfl) ⟨c19, (treeT t66), takeM, (noRoM n66), trivial⟩
noncomputable def impl_aheadOf (p1 : (List GEvent)) : Option (List (Vector Int 4)) :=
  Option.bind (mk (Vector.replicate 4 0) (p1.length : Int)) fun l2 =>
  impl_aheadOf_l0 p1 FU l2 0
theorem impl_aheadOf_m {p1 : (List GEvent)} {r : (List (Vector Int 4))} (h : impl_aheadOf p1 = some r) : Meets Try.prog 45 [(AV.ro 5 (p1.map o47))] (AV.own 66 4 (r.map o66)) := by
  refine meets_ofC Θ_ok Try.func45 rfl (c := body45) (by kernel_rfl) (Nat.le_of_ble_eq_true rfl) ?_
  intro E hP hn hx
  replace hn : E.n = 44 := hn
  have hm : E.P.follows .mixedOrders = true := by rw [hP]; exact mixed
  have hΘ : TOK E.P Θ := by rw [hP]; exact Θ_ok
  unfold impl_aheadOf at h
  show WAt E body45 (FQ (RetE Θ Try.f45.results.toList [] [] (AV.own 66 4 (r.map o66)) E)) [] ⟨[(0, (AV.ro 5 (p1.map o47)))], [], [JJ]⟩
  obtain ⟨l2, hl2, h⟩ := bnS h
  exact go_to hΘ hm hx hP hn (hs := [⟨2, .no, some (I (p1.length : Int))⟩, ⟨3, .nw 1001 (l2.map o66), some (AV.sl 1001 0 (List.length (l2.map o66)))⟩, ⟨6, .no, some (I (p1.length : Int))⟩]) (π := [(1001, 1)]) (ts := [0, 3, 10, 11]) (kp := []) (ps := [AV.lit (.int .i64 (((p1.map o47).length : Nat) : Int)) = (I (p1.length : Int)), List.replicate (Int.toNat (p1.length : Int)) [.lit (.int .u64 0), .lit (.int .u64 0), .lit (.int .u64 0), .lit (.int .u64 0)] = (l2.map o66), AV.sl 1001 0 (Int.toNat (p1.length : Int)) = (AV.sl 1001 0 (List.length (l2.map o66))), (p1.length : Int) = (p1.length : Int), (0 : Int) ≤ (p1.length : Int), (p1.length : Int) * ((32 : Nat) : Int) ≤ 140737488355328, (p1.length : Int) ≤ 140737488355328, AV.lit (.int .i64 (((p1.map o47).length : Nat) : Int)) = (I (p1.length : Int)), RenOK [(1001, 1)] (l2.map o66)]) (by kernel_rfl) ⟨(lenM o47), (mkM o66 hl2), (mkS o66 hl2), rfl, (mk0 hl2), (mkB hl2 (by decide)), (mkC hl2), (lenM o47), (rok (treeM t66)), trivial⟩ (impl_aheadOf_l0_m hP hn hx p1 FU l2 0 _ h)
noncomputable def body46 : Code := match Try.f46.body with | some c => c | none => .skip
noncomputable def impl_places_has (p1 : (Vector Int 4)) (p2 : Int) : Option Bool :=
  Option.bind (rdv p1 (w64 (Int.tdiv p2 64))) fun x3 =>
  Option.bind (ge0 (Int.tmod p2 64)) fun q4 =>
  some ((iand .u64 (Int.fdiv x3 (2 ^ (min (Int.toNat (Int.tmod p2 64)) 64))) 1) == 1)
theorem impl_places_has_m {p1 : (Vector Int 4)} {p2 : Int} {r : Bool} (h : impl_places_has p1 p2 = some r) : Meets Try.prog 46 [(AV.agg ((o66 p1))), (I p2)] (B r) := by
  refine meets_ofC Θ_ok Try.func46 rfl (c := body46) (by kernel_rfl) (Nat.le_of_ble_eq_true rfl) ?_
  intro E hP hn hx
  replace hn : E.n = 14 := hn
  have hm : E.P.follows .mixedOrders = true := by rw [hP]; exact mixed
  have hΘ : TOK E.P Θ := by rw [hP]; exact Θ_ok
  unfold impl_places_has at h
  show WAt E body46 (FQ (RetE Θ Try.f46.results.toList [] [] (B r) E)) [] ⟨[(0, (AV.agg ((o66 p1)))), (1, (I p2))], [], [JJ]⟩
  obtain ⟨x3, hx3, h⟩ := bnS h
  obtain ⟨q4, hq4, h⟩ := bnS h
  have h := Option.some.inj h
  subst h
  exact go_ret hΘ hm hP hn (hs := [⟨0, .nw 1001 [((o66 p1))], none⟩, ⟨5, .cel ((o66 p1)) (IK .u64 x3), none⟩]) (rh := []) (ph := .raw) (ps := [[((o66 p1))] = [((o66 p1))], ((o66 p1)).length = 4, ((o66 p1)).all okLit = true, 0 < ((o66 p1)).length, 64 ≠ (0 : Int), (0 : Int) ≤ (w64 (Int.tdiv p2 64)), (w64 (Int.tdiv p2 64)) < ((4 : Nat) : Int), ((o66 p1))[(Int.toNat (w64 (Int.tdiv p2 64)))]? = some (IK .u64 x3), [((o66 p1))][0]? = some ((o66 p1)), 64 ≠ (0 : Int), ¬ (Int.tmod p2 64) < (0 : Int), (B ((iand .u64 (Int.fdiv x3 (2 ^ (min (Int.toNat (Int.tmod p2 64)) 64))) 1) == 1)) = (B ((iand .u64 (Int.fdiv x3 (2 ^ (min (Int.toNat (Int.tmod p2 64)) 64))) 1) == 1)), litA (B ((iand .u64 (Int.fdiv x3 (2 ^ (min (Int.toNat (Int.tmod p2 64)) 64))) 1) == 1)) = true]) (by kernel_rfl) ⟨rfl, (vecLen k64), (vecAll k64 (fun _ => rfl)), (vecPos k64 (by decide)), (by decide), (rv0 hx3), (rvL hx3), (rvM k64 hx3), rfl, (by decide), (ge0E hq4), rfl, rfl, trivial⟩
noncomputable def body23 : Code := match Try.f23.body with | some c => c | none => .skip
noncomputable def impl_LayersOf_l2 (K0 : (List (List Int)) → (List Int) → (List (Vector Int 4)) → Int → Option ((List (List Int)) × Bool)) (r6 : (List (Vector Int 4))) (v10 : Int) : Nat → (List (List Int)) → (List Int) → (List (Vector Int 4)) → Option ((List (List Int)) × Bool)
  | 0, _, _, _ => none
  | n + 1, a25, a26, a27 =>
  Option.bind (rd a26 v10) fun x28 =>
  if (decide ((a25.length : Int) ≤ x28)) = true then
    Option.bind (app a25 [[]]) fun l30 =>
    impl_LayersOf_l2 K0 r6 v10 n l30 a26 a27
  else
    Option.bind (rd a25 x28) fun x32 =>
    Option.bind (app x32 [v10]) fun l33 =>
    K0 (a25.set (Int.toNat x28) l33) a26 a27 (w64 (v10 + 1))
theorem impl_LayersOf_l2_m {E : Env} (hP : E.P = Try.prog) (hn : E.n = 74) (hx : ∀ p, p ∈ E.fx → p.1 ∈ ([] : List Nat)) (r6 : (List (Vector Int 4))) (v10 : Int) {K0 : (List (List Int)) → (List Int) → (List (Vector Int 4)) → Int → Option ((List (List Int)) × Bool)} (hK0 : ∀ (a7 : (List (List Int))) (a8 : (List Int)) (a9 : (List (Vector Int 4))) (v10 : Int) (r : ((List (List Int)) × Bool)), K0 a7 a8 a9 v10 = some r → WAt E body23 (FQ (RetE Θ Try.f23.results.toList [] [] (AV.tup [(AV.own 56 1 (r.1.map o56)), (B r.2)]) E)) [true, true, true, false, true, false] ⟨[(4, (AV.sl 1 0 (List.length (a7.map o56)))), (5, (AV.sl 2 0 (List.length (a8.map o3)))), (17, (AV.sl 3 0 (List.length (a9.map o66)))), (18, (I (r6.length : Int))), (19, (I v10))], [(1, some ⟨56, 1, (a7.map o56)⟩), (2, some ⟨3, 1, (a8.map o3)⟩), (3, some ⟨66, 4, (a9.map o66)⟩)], [1, 2, 3, JJ]⟩) : ∀ (n : Nat) (a25 : (List (List Int))) (a26 : (List Int)) (a27 : (List (Vector Int 4))) (r : ((List (List Int)) × Bool)), impl_LayersOf_l2 K0 r6 v10 n a25 a26 a27 = some r → WAt E body23 (FQ (RetE Θ Try.f23.results.toList [] [] (AV.tup [(AV.own 56 1 (r.1.map o56)), (B r.2)]) E)) [true, true, true, false, true, false, false, true, true, false, false, true, true, false, false] ⟨[(4, (AV.sl 1 0 (List.length (a25.map o56)))), (5, (AV.sl 2 0 (List.length (a26.map o3)))), (6, (I v10)), (17, (AV.sl 3 0 (List.length (a27.map o66)))), (18, (I (r6.length : Int))), (19, (I v10))], [(1, some ⟨56, 1, (a25.map o56)⟩), (2, some ⟨3, 1, (a26.map o3)⟩), (3, some ⟨66, 4, (a27.map o66)⟩)], [1, 2, 3, JJ]⟩ := by
  have hm : E.P.follows .mixedOrders = true := by rw [hP]; exact mixed
  have hΘ : TOK E.P Θ := by rw [hP]; exact Θ_ok
  intro n
  induction n with
  | zero => intro a25 a26 a27 r h; simp only [impl_LayersOf_l2] at h; cases h
  | succ n ih =>
    intro a25 a26 a27 r h
    simp only [impl_LayersOf_l2] at h
    obtain ⟨x28, hx28, h⟩ := bnS h
    rcases itS h with ⟨c29, h⟩ | ⟨c31, h⟩
    · obtain ⟨l30, hl30, h⟩ := bnS h
      exact go_to hΘ hm hx hP hn (hs := [⟨1, .no, some (I (a25.length : Int))⟩, ⟨5, .row [(I x28)], none⟩, ⟨7, .br true, none⟩, ⟨9, .new 1001, none⟩, ⟨10, .new 1002, none⟩, ⟨11, .app 1003 ((a25.map o56) ++ [[(AV.sl 1001 0 (List.length ([].map o3)))]]), none⟩, ⟨12, .pack 1003 1001 (List.length a25) 0 [(AV.sl 1001 0 (List.length ([].map o3)))] (l30.map o56), none⟩, ⟨13, .slen 4 (List.length (l30.map o56)), none⟩]) (π := [(1003, 1), (2, 2), (3, 3)]) (ts := [4, 5, 6, 17, 18, 19]) (kp := []) (ps := [AV.lit (.int .i64 (((List.length (a25.map o56)) : Nat) : Int)) = (I (a25.length : Int)), (0 : Int) ≤ v10, v10 < (((List.length (a26.map o3)) : Nat) : Int), (a26.map o3)[(Int.toNat v10)]? = some [(I x28)], (decide ((a25.length : Int) ≤ x28)) = true, (a25.map o56).take (List.length (a25.map o56)) ++ [[(AV.sl 1001 0 (List.length ([].map o3)))]] = ((a25.map o56) ++ [[(AV.sl 1001 0 (List.length ([].map o3)))]]), [[(AV.sl 1001 0 (List.length ([].map o3)))]].all (fun r => r.all AV.plain) = true, (List.length ((a25.map o56) ++ [[(AV.sl 1001 0 (List.length ([].map o3)))]])) * 24 ≤ 140737488355328, (List.length ((a25.map o56) ++ [[(AV.sl 1001 0 (List.length ([].map o3)))]])) ≤ 140737488355328, ((a25.map o56) ++ [[(AV.sl 1001 0 (List.length ([].map o3)))]])[(List.length a25)]? = some [(AV.sl 1001 0 (List.length ([].map o3)))], [(AV.sl 1001 0 (List.length ([].map o3)))][0]? = some (AV.sl 1001 0 (List.length ([].map o3))), treeLL ([].map o3) = true, ((a25.map o56) ++ [[(AV.sl 1001 0 (List.length ([].map o3)))]]).set (List.length a25) ([(AV.sl 1001 0 (List.length ([].map o3)))].set 0 (AV.own 3 1 ([].map o3))) = (l30.map o56), (List.length ((a25.map o56) ++ [[(AV.sl 1001 0 (List.length ([].map o3)))]])) = (List.length (l30.map o56)), RenOK [(1003, 1), (2, 2), (3, 3)] (l30.map o56), RenOK [(1003, 1), (2, 2), (3, 3)] (a26.map o3), RenOK [(1003, 1), (2, 2), (3, 3)] (a27.map o66)]) (by kernel_rfl) ⟨(lenM o56), (rd0 hx28), (rdL o3 hx28), (rdM o3 hx28), c29, (apT o56), rfl, (apB o56 hl30 (by decide)), (apC o56 hl30), (apG o56), rfl, (treeM t3), (apS o56 hl30), (apLn o56 hl30), (rok (treeM t56)), (rok (treeM t3)), (rok (treeM t66)), trivial⟩ (ih l30 a26 a27 _ h)
    · obtain ⟨x32, hx32, h⟩ := bnS h
      obtain ⟨l33, hl33, h⟩ := bnS h
      exact go_to hΘ hm hx hP hn (hs := [⟨1, .no, some (I (a25.length : Int))⟩, ⟨5, .row [(I x28)], none⟩, ⟨7, .br false, none⟩, ⟨8, .unpack 1 1004 (Int.toNat x28) 0 [(AV.own 3 1 (x32.map o3))] 3 1 (x32.map o3) ((a25.map o56).set (Int.toNat x28) [(AV.sl 1004 0 (List.length (x32.map o3)))]), none⟩, ⟨12, .row [(I x28)], none⟩, ⟨17, .row [(I x28)], none⟩, ⟨19, .row [(AV.sl 1004 0 (List.length (x32.map o3)))], none⟩, ⟨21, .new 1005, none⟩, ⟨22, .app 1006 (l33.map o3), none⟩, ⟨31, .row [(I x28)], none⟩, ⟨32, .row [(I x28)], none⟩, ⟨37, .row [(I x28)], none⟩, ⟨39, .row [(AV.sl 1004 0 (List.length (x32.map o3)))], none⟩, ⟨41, .sto [(AV.sl 1004 0 (List.length (x32.map o3)))] ((a25.map o56).set (Int.toNat x28) [(AV.sl 1006 0 (List.length (l33.map o3)))]), none⟩, ⟨44, .pack 1 1006 (Int.toNat x28) 0 [(AV.sl 1006 0 (List.length (l33.map o3)))] ((a25.set (Int.toNat x28) l33).map o56), none⟩, ⟨44, .slen 4 (List.length ((a25.set (Int.toNat x28) l33).map o56)), none⟩]) (π := [(1, 1), (2, 2), (3, 3)]) (ts := [4, 5, 17, 18, 19]) (kp := []) (ps := [AV.lit (.int .i64 (((List.length (a25.map o56)) : Nat) : Int)) = (I (a25.length : Int)), (0 : Int) ≤ v10, v10 < (((List.length (a26.map o3)) : Nat) : Int), (a26.map o3)[(Int.toNat v10)]? = some [(I x28)], (decide ((a25.length : Int) ≤ x28)) = false, (a25.map o56)[(Int.toNat x28)]? = some [(AV.own 3 1 (x32.map o3))], [(AV.own 3 1 (x32.map o3))][0]? = some (AV.own 3 1 (x32.map o3)), 0 < 1, (a25.map o56).set (Int.toNat x28) ([(AV.own 3 1 (x32.map o3))].set 0 (AV.sl 1004 0 (List.length (x32.map o3)))) = ((a25.map o56).set (Int.toNat x28) [(AV.sl 1004 0 (List.length (x32.map o3)))]), (0 : Int) ≤ v10, v10 < (((List.length (a26.map o3)) : Nat) : Int), (a26.map o3)[(Int.toNat v10)]? = some [(I x28)], (0 : Int) ≤ v10, v10 < (((List.length (a26.map o3)) : Nat) : Int), (a26.map o3)[(Int.toNat v10)]? = some [(I x28)], (0 : Int) ≤ x28, x28 < (((List.length (a25.map o56)) : Nat) : Int), ((a25.map o56).set (Int.toNat x28) [(AV.sl 1004 0 (List.length (x32.map o3)))])[(Int.toNat x28)]? = some [(AV.sl 1004 0 (List.length (x32.map o3)))], (x32.map o3).take (List.length (x32.map o3)) ++ ((([v10].map o3).drop 0).take (List.length ([v10].map o3))) = (l33.map o3), ((([v10].map o3).drop 0).take (List.length ([v10].map o3))).all (fun r => r.all AV.plain) = true, (List.length (l33.map o3)) * 8 ≤ 140737488355328, (List.length (l33.map o3)) ≤ 140737488355328, (AV.sl 1 0 (List.length (a25.map o56))) = (AV.sl 1 0 (List.length (a25.map o56))), (AV.sl 1 0 (List.length (a25.map o56))) = (AV.sl 1 0 (List.length (a25.map o56))), (AV.sl 2 0 (List.length (a26.map o3))) = (AV.sl 2 0 (List.length (a26.map o3))), (AV.sl 2 0 (List.length (a26.map o3))) = (AV.sl 2 0 (List.length (a26.map o3))), (I v10) = (I v10), (I v10) = (I v10), (AV.ptr 2 (Int.toNat v10) 0) = (AV.ptr 2 (Int.toNat v10) 0), (0 : Int) ≤ v10, v10 < (((List.length (a26.map o3)) : Nat) : Int), (AV.ptr 2 (Int.toNat v10) 0) = (AV.ptr 2 (Int.toNat v10) 0), (0 : Int) ≤ v10, v10 < (((List.length (a26.map o3)) : Nat) : Int), (I x28) = (I x28), (a26.map o3)[(Int.toNat v10)]? = some [(I x28)], (I x28) = (I x28), (a26.map o3)[(Int.toNat v10)]? = some [(I x28)], (AV.sl 1 0 (List.length (a25.map o56))) = (AV.sl 1 0 (List.length (a25.map o56))), (AV.sl 2 0 (List.length (a26.map o3))) = (AV.sl 2 0 (List.length (a26.map o3))), (I v10) = (I v10), (AV.ptr 2 (Int.toNat v10) 0) = (AV.ptr 2 (Int.toNat v10) 0), (0 : Int) ≤ v10, v10 < (((List.length (a26.map o3)) : Nat) : Int), (I x28) = (I x28), (a26.map o3)[(Int.toNat v10)]? = some [(I x28)], (AV.ptr 1 (Int.toNat x28) 0) = (AV.ptr 1 (Int.toNat x28) 0), (0 : Int) ≤ x28, x28 < (((List.length (a25.map o56)) : Nat) : Int), (AV.sl 1004 0 (List.length (x32.map o3))) = (AV.sl 1004 0 (List.length (x32.map o3))), ((a25.map o56).set (Int.toNat x28) [(AV.sl 1004 0 (List.length (x32.map o3)))])[(Int.toNat x28)]? = some [(AV.sl 1004 0 (List.length (x32.map o3)))], (0 : Int) ≤ x28, x28 < (((List.length (a25.map o56)) : Nat) : Int), ((a25.map o56).set (Int.toNat x28) [(AV.sl 1004 0 (List.length (x32.map o3)))])[(Int.toNat x28)]? = some [(AV.sl 1004 0 (List.length (x32.map o3)))], ((a25.map o56).set (Int.toNat x28) [(AV.sl 1004 0 (List.length (x32.map o3)))]).set (Int.toNat x28) (wr [(AV.sl 1004 0 (List.length (x32.map o3)))] 0 [(AV.sl 1006 0 (List.length (l33.map o3)))]) = ((a25.map o56).set (Int.toNat x28) [(AV.sl 1006 0 (List.length (l33.map o3)))]), [(AV.sl 1006 0 (List.length (l33.map o3)))].length = 1, 0 + [(AV.sl 1006 0 (List.length (l33.map o3)))].length ≤ [(AV.sl 1004 0 (List.length (x32.map o3)))].length, ((a25.map o56).set (Int.toNat x28) [(AV.sl 1006 0 (List.length (l33.map o3)))])[(Int.toNat x28)]? = some [(AV.sl 1006 0 (List.length (l33.map o3)))], [(AV.sl 1006 0 (List.length (l33.map o3)))][0]? = some (AV.sl 1006 0 (List.length (l33.map o3))), treeLL (l33.map o3) = true, ((a25.map o56).set (Int.toNat x28) [(AV.sl 1006 0 (List.length (l33.map o3)))]).set (Int.toNat x28) ([(AV.sl 1006 0 (List.length (l33.map o3)))].set 0 (AV.own 3 1 (l33.map o3))) = ((a25.set (Int.toNat x28) l33).map o56), (List.length (a25.map o56)) = (List.length ((a25.set (Int.toNat x28) l33).map o56)), RenOK [(1, 1), (2, 2), (3, 3)] ((a25.set (Int.toNat x28) l33).map o56), RenOK [(1, 1), (2, 2), (3, 3)] (a26.map o3), RenOK [(1, 1), (2, 2), (3, 3)] (a27.map o66)]) (by kernel_rfl) ⟨(lenM o56), (rd0 hx28), (rdL o3 hx28), (rdM o3 hx28), c31, (rdM o56 hx32), rfl, (by decide), rfl, (rd0 hx28), (rdL o3 hx28), (rdM o3 hx28), (rd0 hx28), (rdL o3 hx28), (rdM o3 hx28), (rd0 hx32), (rdL o56 hx32), (setE (rdM o56 hx32)), (appTD o3 hl33), (plD p3), (appB o3 hl33 (by decide)), (appC o3 hl33), rfl, rfl, rfl, rfl, rfl, rfl, rfl, (rd0 hx28), (rdL o3 hx28), rfl, (rd0 hx28), (rdL o3 hx28), rfl, (rdM o3 hx28), rfl, (rdM o3 hx28), rfl, rfl, rfl, rfl, (rd0 hx28), (rdL o3 hx28), rfl, (rdM o3 hx28), rfl, (rd0 hx32), (rdL o56 hx32), rfl, (setE (rdM o56 hx32)), (rd0 hx32), (rdL o56 hx32), (setE (rdM o56 hx32)), (setHH rfl), rfl, (Nat.le_of_ble_eq_true rfl), (setE (rdM o56 hx32)), rfl, (treeM t3), (setP o56), (by first | exact lnSet _ | exact lnSet2 _ | simp only [List.length_map, List.length_set, List.length_cons, List.length_nil]), (rok (treeM t56)), (rok (treeM t3)), (rok (treeM t66)), trivial⟩ (hK0 (a25.set (Int.toNat x28) l33) a26 a27 (w64 (v10 + 1)) _ h)
noncomputable def impl_LayersOf_l1 (K0 : (List (List Int)) → (List Int) → (List (Vector Int 4)) → Int → Option ((List (List Int)) × Bool)) (r6 : (List (Vector Int 4))) (v10 : Int) : Nat → (List (List Int)) → (List Int) → (Vector Int 4) → (List (Vector Int 4)) → Int → Option ((List (List Int)) × Bool)
  | 0, _, _, _, _, _ => none
  | n + 1, a13, a14, a15, a16, v17 =>
  if (decide (v17 < v10)) = true then
    Option.bind (impl_places_has a15 v17) fun r19 =>
    if r19 = true then
      Option.bind (rd a14 v10) fun x21 =>
      Option.bind (rd a14 v17) fun x22 =>
      impl_LayersOf_l1 K0 r6 v10 n a13 (a14.set (Int.toNat v10) (imax x21 (w64 (x22 + 1)))) a15 a16 (w64 (v17 + 1))
    else
      impl_LayersOf_l1 K0 r6 v10 n a13 a14 a15 a16 (w64 (v17 + 1))
  else
    impl_LayersOf_l2 K0 r6 v10 FU a13 a14 a16
theorem impl_LayersOf_l1_m {E : Env} (hP : E.P = Try.prog) (hn : E.n = 74) (hx : ∀ p, p ∈ E.fx → p.1 ∈ ([] : List Nat)) (r6 : (List (Vector Int 4))) (v10 : Int) {K0 : (List (List Int)) → (List Int) → (List (Vector Int 4)) → Int → Option ((List (List Int)) × Bool)} (hK0 : ∀ (a7 : (List (List Int))) (a8 : (List Int)) (a9 : (List (Vector Int 4))) (v10 : Int) (r : ((List (List Int)) × Bool)), K0 a7 a8 a9 v10 = some r → WAt E body23 (FQ (RetE Θ Try.f23.results.toList [] [] (AV.tup [(AV.own 56 1 (r.1.map o56)), (B r.2)]) E)) [true, true, true, false, true, false] ⟨[(4, (AV.sl 1 0 (List.length (a7.map o56)))), (5, (AV.sl 2 0 (List.length (a8.map o3)))), (17, (AV.sl 3 0 (List.length (a9.map o66)))), (18, (I (r6.length : Int))), (19, (I v10))], [(1, some ⟨56, 1, (a7.map o56)⟩), (2, some ⟨3, 1, (a8.map o3)⟩), (3, some ⟨66, 4, (a9.map o66)⟩)], [1, 2, 3, JJ]⟩) : ∀ (n : Nat) (a13 : (List (List Int))) (a14 : (List Int)) (a15 : (Vector Int 4)) (a16 : (List (Vector Int 4))) (v17 : Int) (r : ((List (List Int)) × Bool)), impl_LayersOf_l1 K0 r6 v10 n a13 a14 a15 a16 v17 = some r → WAt E body23 (FQ (RetE Θ Try.f23.results.toList [] [] (AV.tup [(AV.own 56 1 (r.1.map o56)), (B r.2)]) E)) [true, true, true, false, true, false, false, true, true, false, false, true, false, true, false] ⟨[(4, (AV.sl 1 0 (List.length (a13.map o56)))), (5, (AV.sl 2 0 (List.length (a14.map o3)))), (6, (I v10)), (7, (AV.ptr 3 0 0)), (17, (AV.sl 4 0 (List.length (a16.map o66)))), (18, (I (r6.length : Int))), (19, (I v10)), (24, (I v10)), (25, (I v17))], [(1, some ⟨56, 1, (a13.map o56)⟩), (2, some ⟨3, 1, (a14.map o3)⟩), (3, some ⟨66, 4, [((o66 a15))]⟩), (4, some ⟨66, 4, (a16.map o66)⟩)], [1, 2, 3, 4, JJ]⟩ := by
  have hm : E.P.follows .mixedOrders = true := by rw [hP]; exact mixed
  have hΘ : TOK E.P Θ := by rw [hP]; exact Θ_ok
  intro n
  induction n with
  | zero => intro a13 a14 a15 a16 v17 r h; simp only [impl_LayersOf_l1] at h; cases h
  | succ n ih =>
    intro a13 a14 a15 a16 v17 r h
    simp only [impl_LayersOf_l1] at h
    rcases itS h with ⟨c18, h⟩ | ⟨c24, h⟩
    · obtain ⟨r19, hr19, h⟩ := bnS h
      rcases itS h with ⟨c20, h⟩ | ⟨c23, h⟩
      · obtain ⟨x21, hx21, h⟩ := bnS h
        obtain ⟨x22, hx22, h⟩ := bnS h
        exact go_to hΘ hm hx hP hn (hs := [⟨1, .br true, none⟩, ⟨4, .agg ((o66 a15)) ((o66 a15)), none⟩, ⟨6, .callV [[[AV.dead]]] (B r19), none⟩, ⟨7, .br true, none⟩, ⟨13, .row [(I x21)], none⟩, ⟨17, .row [(I x22)], none⟩, ⟨21, .sto [(I x21)] ((a14.set (Int.toNat v10) (imax x21 (w64 (x22 + 1)))).map o3), none⟩, ⟨24, .slen 5 (List.length ((a14.set (Int.toNat v10) (imax x21 (w64 (x22 + 1)))).map o3)), none⟩]) (π := [(1, 1), (2, 2), (3, 3), (4, 4)]) (ts := [4, 5, 6, 7, 17, 18, 19, 24, 25]) (kp := []) (ps := [(decide (v17 < v10)) = true, 0 + 4 ≤ ((o66 a15)).length, (((o66 a15)).drop 0).take 4 = ((o66 a15)), ((o66 a15)).all AV.plain = true, [((o66 a15))][0]? = some ((o66 a15)), Meets Try.prog 46 [(AV.agg ((o66 a15))), (I v17)] (B r19), litA (B r19) = true, ((o66 a15)).all okLit = true, r19 = true, (0 : Int) ≤ v10, v10 < (((List.length (a14.map o3)) : Nat) : Int), (a14.map o3)[(Int.toNat v10)]? = some [(I x21)], (0 : Int) ≤ v17, v17 < (((List.length (a14.map o3)) : Nat) : Int), (a14.map o3)[(Int.toNat v17)]? = some [(I x22)], (0 : Int) ≤ v10, v10 < (((List.length (a14.map o3)) : Nat) : Int), (a14.map o3)[(Int.toNat v10)]? = some [(I x21)], (a14.map o3).set (Int.toNat v10) (wr [(I x21)] 0 [(I (imax x21 (w64 (x22 + 1))))]) = ((a14.set (Int.toNat v10) (imax x21 (w64 (x22 + 1)))).map o3), [(I (imax x21 (w64 (x22 + 1))))].length = 1, 0 + [(I (imax x21 (w64 (x22 + 1))))].length ≤ [(I x21)].length, (List.length (a14.map o3)) = (List.length ((a14.set (Int.toNat v10) (imax x21 (w64 (x22 + 1)))).map o3)), RenOK [(1, 1), (2, 2), (3, 3), (4, 4)] (a13.map o56), RenOK [(1, 1), (2, 2), (3, 3), (4, 4)] ((a14.set (Int.toNat v10) (imax x21 (w64 (x22 + 1)))).map o3), RenOK [(1, 1), (2, 2), (3, 3), (4, 4)] [((o66 a15))], RenOK [(1, 1), (2, 2), (3, 3), (4, 4)] (a16.map o66)]) (by kernel_rfl) ⟨c18, (vecLe0 k64), (vecAgg k64), (p66 _), rfl, (impl_places_has_m hr19), rfl, (vecAll k64 (fun _ => rfl)), c20, (rd0 hx21), (rdL o3 hx21), (rdM o3 hx21), (rd0 hx22), (rdL o3 hx22), (rdM o3 hx22), (rd0 hx21), (rdL o3 hx21), (rdM o3 hx21), (setM o3), rfl, (Nat.le_of_ble_eq_true rfl), (by first | exact lnSet _ | exact lnSet2 _ | simp only [List.length_map, List.length_set, List.length_cons, List.length_nil]), (rok (treeM t56)), (rok (treeM t3)), (rok (treeB t66 a15)), (rok (treeM t66)), trivial⟩ (ih a13 (a14.set (Int.toNat v10) (imax x21 (w64 (x22 + 1)))) a15 a16 (w64 (v17 + 1)) _ h)
      · exact go_to hΘ hm hx hP hn (hs := [⟨1, .br true, none⟩, ⟨4, .agg ((o66 a15)) ((o66 a15)), none⟩, ⟨6, .callV [[[AV.dead]]] (B r19), none⟩, ⟨7, .br false, none⟩]) (π := [(1, 1), (2, 2), (3, 3), (4, 4)]) (ts := [4, 5, 6, 7, 17, 18, 19, 24, 25]) (kp := []) (ps := [(decide (v17 < v10)) = true, 0 + 4 ≤ ((o66 a15)).length, (((o66 a15)).drop 0).take 4 = ((o66 a15)), ((o66 a15)).all AV.plain = true, [((o66 a15))][0]? = some ((o66 a15)), Meets Try.prog 46 [(AV.agg ((o66 a15))), (I v17)] (B r19), litA (B r19) = true, ((o66 a15)).all okLit = true, r19 = false, RenOK [(1, 1), (2, 2), (3, 3), (4, 4)] (a13.map o56), RenOK [(1, 1), (2, 2), (3, 3), (4, 4)] (a14.map o3), RenOK [(1, 1), (2, 2), (3, 3), (4, 4)] [((o66 a15))], RenOK [(1, 1), (2, 2), (3, 3), (4, 4)] (a16.map o66)]) (by kernel_rfl) ⟨c18, (vecLe0 k64), (vecAgg k64), (p66 _), rfl, (impl_places_has_m hr19), rfl, (vecAll k64 (fun _ => rfl)), c23, (rok (treeM t56)), (rok (treeM t3)), (rok (treeB t66 a15)), (rok (treeM t66)), trivial⟩ (ih a13 a14 a15 a16 (w64 (v17 + 1)) _ h)
    · exact go_to hΘ hm hx hP hn (hs := [⟨1, .br false, none⟩]) (π := [(1, 1), (2, 2), (4, 3)]) (ts := [4, 5, 6, 17, 18, 19]) (kp := []) (ps := [(decide (v17 < v10)) = false, RenOK [(1, 1), (2, 2), (4, 3)] (a13.map o56), RenOK [(1, 1), (2, 2), (4, 3)] (a14.map o3), RenOK [(1, 1), (2, 2), (4, 3)] (a16.map o66)]) (by kernel_rfl) ⟨c24, (rok (treeM t56)), (rok (treeM t3)), (rok (treeM t66)), trivial⟩ (impl_LayersOf_l2_m hP hn hx r6 v10 hK0 FU a13 a14 a16 _ h)
noncomputable def impl_LayersOf_l0  (r6 : (List (Vector Int 4))) : Nat → (List (List Int)) → (List Int) → (List (Vector Int 4)) → Int → Option ((List (List Int)) × Bool)
  | 0, _, _, _, _ => none
  | n + 1, a7, a8, a9, v10 =>
  if (decide (v10 < (r6.length : Int))) = true then
    Option.bind (rd a9 v10) fun x12 =>
    impl_LayersOf_l1 (impl_LayersOf_l0 r6 n) r6 v10 FU a7 a8 x12 a9 0
  else
    some (a7, true)
theorem impl_LayersOf_l0_m {E : Env} (hP : E.P = Try.prog) (hn : E.n = 74) (hx : ∀ p, p ∈ E.fx → p.1 ∈ ([] : List Nat)) (r6 : (List (Vector Int 4)))  : ∀ (n : Nat) (a7 : (List (List Int))) (a8 : (List Int)) (a9 : (List (Vector Int 4))) (v10 : Int) (r : ((List (List Int)) × Bool)), impl_LayersOf_l0 r6 n a7 a8 a9 v10 = some r → WAt E body23 (FQ (RetE Θ Try.f23.results.toList [] [] (AV.tup [(AV.own 56 1 (r.1.map o56)), (B r.2)]) E)) [true, true, true, false, true, false] ⟨[(4, (AV.sl 1 0 (List.length (a7.map o56)))), (5, (AV.sl 2 0 (List.length (a8.map o3)))), (17, (AV.sl 3 0 (List.length (a9.map o66)))), (18, (I (r6.length : Int))), (19, (I v10))], [(1, some ⟨56, 1, (a7.map o56)⟩), (2, some ⟨3, 1, (a8.map o3)⟩), (3, some ⟨66, 4, (a9.map o66)⟩)], [1, 2, 3, JJ]⟩ := by
  have hm : E.P.follows .mixedOrders = true := by rw [hP]; exact mixed
  have hΘ : TOK E.P Θ := by rw [hP]; exact Θ_ok
  intro n
  induction n with
  | zero => intro a7 a8 a9 v10 r h; simp only [impl_LayersOf_l0] at h; cases h
  | succ n ih =>
    intro a7 a8 a9 v10 r h
    simp only [impl_LayersOf_l0] at h
    rcases itS h with ⟨c11, h⟩ | ⟨c34, h⟩
    · obtain ⟨x12, hx12, h⟩ := bnS h
      exact go_to hΘ hm hx hP hn (hs := [⟨1, .br true, none⟩, ⟨4, .agg ((o66 x12)) ((o66 x12)), none⟩, ⟨5, .nw 1001 [((o66 (Vector.replicate 4 0)))], none⟩, ⟨7, .stoS ((o66 (Vector.replicate 4 0))) [((o66 x12))], none⟩]) (π := [(1, 1), (2, 2), (1001, 3), (3, 4)]) (ts := [4, 5, 6, 7, 17, 18, 19, 24, 25]) (kp := []) (ps := [(decide (v10 < (r6.length : Int))) = true, (0 : Int) ≤ v10, v10 < (((List.length (a9.map o66)) : Nat) : Int), 0 + 4 ≤ ((o66 x12)).length, (((o66 x12)).drop 0).take 4 = ((o66 x12)), ((o66 x12)).all AV.plain = true, (a9.map o66)[(Int.toNat v10)]? = some ((o66 x12)), [litL [.int .u64 0, .int .u64 0, .int .u64 0, .int .u64 0]] = [((o66 (Vector.replicate 4 0)))], [((o66 (Vector.replicate 4 0)))][0]? = some ((o66 (Vector.replicate 4 0))), [((o66 (Vector.replicate 4 0)))].set 0 (wr ((o66 (Vector.replicate 4 0))) 0 ((o66 x12))) = [((o66 x12))], ((o66 x12)).length = 4, 0 + ((o66 x12)).length ≤ ((o66 (Vector.replicate 4 0))).length, ((o66 x12)).all okLit = true, RenOK [(1, 1), (2, 2), (1001, 3), (3, 4)] (a7.map o56), RenOK [(1, 1), (2, 2), (1001, 3), (3, 4)] (a8.map o3), RenOK [(1, 1), (2, 2), (1001, 3), (3, 4)] [((o66 x12))], RenOK [(1, 1), (2, 2), (1001, 3), (3, 4)] (a9.map o66)]) (by kernel_rfl) ⟨c11, (rd0 hx12), (rdL o66 hx12), (vecLe0 k64), (vecAgg k64), (p66 _), (rdM o66 hx12), rfl, rfl, (vecSt k64 k64), (vecLen k64), (vecLL k64 k64), (vecAll k64 (fun _ => rfl)), (rok (treeM t56)), (rok (treeM t3)), (rok (treeB t66 x12)), (rok (treeM t66)), trivial⟩ (impl_LayersOf_l1_m hP hn hx r6 v10 ih FU a7 a8 x12 a9 0 _ h)
    · have h := Option.some.inj h
      subst h
      exact go_ret hΘ hm hP hn (hs := [⟨1, .br false, none⟩]) (rh := []) (ph := .agg [.own, .raw]) (ps := [(decide (v10 < (r6.length : Int))) = false, treeLL ((a7.map o56).take (List.length (a7.map o56))) = true, (a7.map o56).take (List.length (a7.map o56)) = (a7.map o56), noRoLL (a7.map o56) = true, (B true) = (B true), litA (B true) = true]) (by kernel_rfl) ⟨c34, (treeT t56), takeM, (noRoM n56), rfl, rfl, trivial⟩
noncomputable def impl_LayersOf (p1 : (List GEvent)) : Option ((List (List Int)) × Bool) :=
  Option.bind (impl_GoodTrace p1) fun r2 =>
  if (!r2) = true then
    some ([], false)
  else
    Option.bind (mk 0 (p1.length : Int)) fun l5 =>
    Option.bind (impl_aheadOf p1) fun r6 =>
    impl_LayersOf_l0 r6 FU [] l5 r6 0
theorem impl_LayersOf_m {p1 : (List GEvent)} {r : ((List (List Int)) × Bool)} (h : impl_LayersOf p1 = some r) : Meets Try.prog 23 [(AV.ro 5 (p1.map o47))] (AV.tup [(AV.own 56 1 (r.1.map o56)), (B r.2)]) := by
  refine meets_ofC Θ_ok Try.func23 rfl (c := body23) (by kernel_rfl) (Nat.le_of_ble_eq_true rfl) ?_
  intro E hP hn hx
  replace hn : E.n = 74 := hn
  have hm : E.P.follows .mixedOrders = true := by rw [hP]; exact mixed
  have hΘ : TOK E.P Θ := by rw [hP]; exact Θ_ok
  unfold impl_LayersOf at h
  show WAt E body23 (FQ (RetE Θ Try.f23.results.toList [] [] (AV.tup [(AV.own 56 1 (r.1.map o56)), (B r.2)]) E)) [] ⟨[(0, (AV.ro 5 (p1.map o47)))], [], [JJ]⟩
  obtain ⟨r2, hr2, h⟩ := bnS h
  rcases itS h with ⟨c3, h⟩ | ⟨c4, h⟩
  · have h := Option.some.inj h
    subst h
    exact go_ret hΘ hm hP hn (hs := [⟨3, .callV [] (B r2), none⟩, ⟨5, .br true, none⟩]) (rh := []) (ph := .agg [.own, .raw]) (ps := [Meets Try.prog 34 [(AV.ro 5 (p1.map o47))] (B r2), litA (B r2) = true, (!r2) = true, (B false) = (B false), litA (B false) = true]) (by kernel_rfl) ⟨(impl_GoodTrace_m hr2), rfl, c3, rfl, rfl, trivial⟩
  · obtain ⟨l5, hl5, h⟩ := bnS h
    obtain ⟨r6, hr6, h⟩ := bnS h
    exact go_to hΘ hm hx hP hn (hs := [⟨3, .callV [] (B r2), none⟩, ⟨5, .br false, none⟩, ⟨6, .new 1001, none⟩, ⟨8, .no, some (I (p1.length : Int))⟩, ⟨9, .nw 1002 (l5.map o3), some (AV.sl 1002 0 (List.length (l5.map o3)))⟩, ⟨13, .call [] (AV.own 66 4 (r6.map o66)) [1003], none⟩, ⟨14, .no, some (I (r6.length : Int))⟩]) (π := [(1001, 1), (1002, 2), (1003, 3)]) (ts := [4, 5, 17, 18, 19]) (kp := []) (ps := [Meets Try.prog 34 [(AV.ro 5 (p1.map o47))] (B r2), litA (B r2) = true, (!r2) = false, (AV.sl 1001 0 (List.length ([].map o56))) = (AV.sl 1001 0 (List.length ([].map o56))), [(1001, (⟨56, 1, ([].map o56)⟩ : Root))] = [(1001, (⟨56, 1, ([].map o56)⟩ : Root))], (AV.sl 1001 0 (List.length ([].map o56))) = (AV.sl 1001 0 (List.length ([].map o56))), [(1001, (⟨56, 1, ([].map o56)⟩ : Root))] = [(1001, (⟨56, 1, ([].map o56)⟩ : Root))], (AV.ro 5 (p1.map o47)) = (AV.ro 5 (p1.map o47)), (AV.ro 5 (p1.map o47)) = (AV.ro 5 (p1.map o47)), (I (p1.length : Int)) = (I (p1.length : Int)), AV.lit (.int .i64 (((p1.map o47).length : Nat) : Int)) = (I (p1.length : Int)), (I (p1.length : Int)) = (I (p1.length : Int)), AV.lit (.int .i64 (((p1.map o47).length : Nat) : Int)) = (I (p1.length : Int)), (AV.sl 1002 0 (List.length (l5.map o3))) = (AV.sl 1002 0 (List.length (l5.map o3))), [(1002, (⟨3, 1, (l5.map o3)⟩ : Root))] = [(1002, (⟨3, 1, (l5.map o3)⟩ : Root))], List.replicate (Int.toNat (p1.length : Int)) [.lit (.int .i64 0)] = (l5.map o3), AV.sl 1002 0 (Int.toNat (p1.length : Int)) = (AV.sl 1002 0 (List.length (l5.map o3))), (p1.length : Int) = (p1.length : Int), (0 : Int) ≤ (p1.length : Int), (p1.length : Int) * ((8 : Nat) : Int) ≤ 140737488355328, (p1.length : Int) ≤ 140737488355328, (AV.sl 1002 0 (List.length (l5.map o3))) = (AV.sl 1002 0 (List.length (l5.map o3))), [(1002, (⟨3, 1, (l5.map o3)⟩ : Root))] = [(1002, (⟨3, 1, (l5.map o3)⟩ : Root))], List.replicate (Int.toNat (p1.length : Int)) [.lit (.int .i64 0)] = (l5.map o3), AV.sl 1002 0 (Int.toNat (p1.length : Int)) = (AV.sl 1002 0 (List.length (l5.map o3))), (p1.length : Int) = (p1.length : Int), (0 : Int) ≤ (p1.length : Int), (p1.length : Int) * ((8 : Nat) : Int) ≤ 140737488355328, (p1.length : Int) ≤ 140737488355328, (AV.sl 1001 0 (List.length ([].map o56))) = (AV.sl 1001 0 (List.length ([].map o56))), (AV.sl 1001 0 (List.length ([].map o56))) = (AV.sl 1001 0 (List.length ([].map o56))), Meets Try.prog 45 [(AV.ro 5 (p1.map o47))] (AV.own 66 4 (r6.map o66)), noRo (AV.own 66 4 (r6.map o66)) = true, AV.lit (.int .i64 (((List.length (r6.map o66)) : Nat) : Int)) = (I (r6.length : Int)), RenOK [(1001, 1), (1002, 2), (1003, 3)] ([].map o56), RenOK [(1001, 1), (1002, 2), (1003, 3)] (l5.map o3), RenOK [(1001, 1), (1002, 2), (1003, 3)] (r6.map o66)]) (by kernel_rfl) ⟨(impl_GoodTrace_m hr2), rfl, c4, rfl, rfl, rfl, rfl, rfl, rfl, rfl, (lenM o47), rfl, (lenM o47), rfl, rfl, (mkM o3 hl5), (mkS o3 hl5), rfl, (mk0 hl5), (mkB hl5 (by decide)), (mkC hl5), rfl, rfl, (mkM o3 hl5), (mkS o3 hl5), rfl, (mk0 hl5), (mkB hl5 (by decide)), (mkC hl5), rfl, rfl, (impl_aheadOf_m hr6), (by simp only [noRo, noRoL, noRoM n66, Bool.and_self]), (lenM o66), (rok (treeM t56)), (rok (treeM t3)), (rok (treeM t66)), trivial⟩ (impl_LayersOf_l0_m hP hn hx r6 FU [] l5 r6 0 _ h)
noncomputable def body37 : Code := match Try.f37.body with | some c => c | none => .skip
noncomputable def laws_eqEvent (p1 : GEvent) (p2 : GEvent) : Option Bool :=
  if (p1.Thread != p2.Thread) = true then
    some false
  else
    if (p1.Kind != p2.Kind) = true then
      some false
    else
      if (p1.Obj != p2.Obj) = true then
        some false
      else
        if (p1.Lock != p2.Lock) = true then
          some false
        else
          if (p1.Pc != p2.Pc) = true then
            some false
          else
            some true
theorem laws_eqEvent_m {p1 : GEvent} {p2 : GEvent} {r : Bool} (h : laws_eqEvent p1 p2 = some r) : Meets Try.prog 37 [(AV.agg ((o47 p1))), (AV.agg ((o47 p2)))] (B r) := by
  refine meets_ofC Θ_ok Try.func37 rfl (c := body37) (by kernel_rfl) (Nat.le_of_ble_eq_true rfl) ?_
  intro E hP hn hx
  replace hn : E.n = 30 := hn
  have hm : E.P.follows .mixedOrders = true := by rw [hP]; exact mixed
  have hΘ : TOK E.P Θ := by rw [hP]; exact Θ_ok
  unfold laws_eqEvent at h
  show WAt E body37 (FQ (RetE Θ Try.f37.results.toList [] [] (B r) E)) [] ⟨[(0, (AV.agg ((o47 p1)))), (1, (AV.agg ((o47 p2))))], [], [JJ]⟩
  rcases itS h with ⟨c3, h⟩ | ⟨c4, h⟩
  · have h := Option.some.inj h
    subst h
    exact go_ret hΘ hm hP hn (hs := [⟨0, .new 1001, none⟩, ⟨1, .new 1002, none⟩, ⟨8, .br true, none⟩]) (rh := []) (ph := .raw) (ps := [(p1.Thread != p2.Thread) = true, (B false) = (B false), litA (B false) = true]) (by kernel_rfl) ⟨c3, rfl, rfl, trivial⟩
  · rcases itS h with ⟨c5, h⟩ | ⟨c6, h⟩
    · have h := Option.some.inj h
      subst h
      exact go_ret hΘ hm hP hn (hs := [⟨0, .new 1001, none⟩, ⟨1, .new 1002, none⟩, ⟨8, .br false, none⟩, ⟨14, .br true, none⟩]) (rh := []) (ph := .raw) (ps := [(p1.Thread != p2.Thread) = false, (p1.Kind != p2.Kind) = true, (B false) = (B false), litA (B false) = true]) (by kernel_rfl) ⟨c4, c5, rfl, rfl, trivial⟩
    · rcases itS h with ⟨c7, h⟩ | ⟨c8, h⟩
      · have h := Option.some.inj h
        subst h
        exact go_ret hΘ hm hP hn (hs := [⟨0, .new 1001, none⟩, ⟨1, .new 1002, none⟩, ⟨8, .br false, none⟩, ⟨14, .br false, none⟩, ⟨20, .br true, none⟩]) (rh := []) (ph := .raw) (ps := [(p1.Thread != p2.Thread) = false, (p1.Kind != p2.Kind) = false, (p1.Obj != p2.Obj) = true, (B false) = (B false), litA (B false) = true]) (by kernel_rfl) ⟨c4, c6, c7, rfl, rfl, trivial⟩
      · rcases itS h with ⟨c9, h⟩ | ⟨c10, h⟩
        · have h := Option.some.inj h
          subst h
          exact go_ret hΘ hm hP hn (hs := [⟨0, .new 1001, none⟩, ⟨1, .new 1002, none⟩, ⟨8, .br false, none⟩, ⟨14, .br false, none⟩, ⟨20, .br false, none⟩, ⟨26, .br true, none⟩]) (rh := []) (ph := .raw) (ps := [(p1.Thread != p2.Thread) = false, (p1.Kind != p2.Kind) = false, (p1.Obj != p2.Obj) = false, (p1.Lock != p2.Lock) = true, (B false) = (B false), litA (B false) = true]) (by kernel_rfl) ⟨c4, c6, c8, c9, rfl, rfl, trivial⟩
        · rcases itS h with ⟨c11, h⟩ | ⟨c12, h⟩
          · have h := Option.some.inj h
            subst h
            exact go_ret hΘ hm hP hn (hs := [⟨0, .new 1001, none⟩, ⟨1, .new 1002, none⟩, ⟨8, .br false, none⟩, ⟨14, .br false, none⟩, ⟨20, .br false, none⟩, ⟨26, .br false, none⟩, ⟨32, .br true, none⟩]) (rh := []) (ph := .raw) (ps := [(p1.Thread != p2.Thread) = false, (p1.Kind != p2.Kind) = false, (p1.Obj != p2.Obj) = false, (p1.Lock != p2.Lock) = false, (p1.Pc != p2.Pc) = true, (B false) = (B false), litA (B false) = true]) (by kernel_rfl) ⟨c4, c6, c8, c10, c11, rfl, rfl, trivial⟩
          · have h := Option.some.inj h
            subst h
            exact go_ret hΘ hm hP hn (hs := [⟨0, .new 1001, none⟩, ⟨1, .new 1002, none⟩, ⟨8, .br false, none⟩, ⟨14, .br false, none⟩, ⟨20, .br false, none⟩, ⟨26, .br false, none⟩, ⟨32, .br false, none⟩]) (rh := []) (ph := .raw) (ps := [(p1.Thread != p2.Thread) = false, (p1.Kind != p2.Kind) = false, (p1.Obj != p2.Obj) = false, (p1.Lock != p2.Lock) = false, (p1.Pc != p2.Pc) = false, (B true) = (B true), litA (B true) = true]) (by kernel_rfl) ⟨c4, c6, c8, c10, c12, rfl, rfl, trivial⟩
noncomputable def body13 : Code := match Try.f13.body with | some c => c | none => .skip
noncomputable def laws_eqEventS_l0  (p1 : (List GEvent)) (p2 : (List GEvent)) : Nat → Int → Option Bool
  | 0, _ => none
  | n + 1, v5 =>
  if (decide (v5 < (p1.length : Int))) = true then
    Option.bind (rd p1 v5) fun x7 =>
    Option.bind (rd p2 v5) fun x8 =>
    Option.bind (laws_eqEvent x7 x8) fun r9 =>
    if (!r9) = true then
      some false
    else
      laws_eqEventS_l0 p1 p2 n (w64 (v5 + 1))
  else
    some true
theorem laws_eqEventS_l0_m {E : Env} (hP : E.P = Try.prog) (hn : E.n = 27) (hx : ∀ p, p ∈ E.fx → p.1 ∈ ([] : List Nat)) (p1 : (List GEvent)) (p2 : (List GEvent))  : ∀ (n : Nat) (v5 : Int) (r : Bool), laws_eqEventS_l0 p1 p2 n v5 = some r → WAt E body13 (FQ (RetE Θ Try.f13.results.toList [] [] (B r) E)) [true, true, false, true, false] ⟨[(0, (AV.ro 5 (p1.map o47))), (1, (AV.ro 5 (p2.map o47))), (5, (I v5))], [], [JJ]⟩ := by
  have hm : E.P.follows .mixedOrders = true := by rw [hP]; exact mixed
  have hΘ : TOK E.P Θ := by rw [hP]; exact Θ_ok
  intro n
  induction n with
  | zero => intro v5 r h; simp only [laws_eqEventS_l0] at h; cases h
  | succ n ih =>
    intro v5 r h
    simp only [laws_eqEventS_l0] at h
    rcases itS h with ⟨c6, h⟩ | ⟨c12, h⟩
    · obtain ⟨x7, hx7, h⟩ := bnS h
      obtain ⟨x8, hx8, h⟩ := bnS h
      obtain ⟨r9, hr9, h⟩ := bnS h
      rcases itS h with ⟨c10, h⟩ | ⟨c11, h⟩
      · have h := Option.some.inj h
        subst h
        exact go_ret hΘ hm hP hn (hs := [⟨2, .no, some (I (p1.length : Int))⟩, ⟨4, .br true, none⟩, ⟨7, .row (o47 x7), none⟩, ⟨11, .row (o47 x8), none⟩, ⟨13, .callV [[], []] (B r9), none⟩, ⟨15, .br true, none⟩]) (rh := []) (ph := .raw) (ps := [AV.lit (.int .i64 (((p1.map o47).length : Nat) : Int)) = (I (p1.length : Int)), (decide (v5 < (p1.length : Int))) = true, (0 : Int) ≤ v5, (p1.map o47)[(Int.toNat v5)]? = some (o47 x7), (0 : Int) ≤ v5, (p2.map o47)[(Int.toNat v5)]? = some (o47 x8), Meets Try.prog 37 [(AV.agg ((o47 x7))), (AV.agg ((o47 x8)))] (B r9), litA (B r9) = true, (!r9) = true, (B false) = (B false), litA (B false) = true]) (by kernel_rfl) ⟨(lenM o47), c6, (rd0 hx7), (rdM o47 hx7), (rd0 hx8), (rdM o47 hx8), (laws_eqEvent_m hr9), rfl, c10, rfl, rfl, trivial⟩
      · exact go_to hΘ hm hx hP hn (hs := [⟨2, .no, some (I (p1.length : Int))⟩, ⟨4, .br true, none⟩, ⟨7, .row (o47 x7), none⟩, ⟨11, .row (o47 x8), none⟩, ⟨13, .callV [[], []] (B r9), none⟩, ⟨15, .br false, none⟩]) (π := []) (ts := [0, 1, 5]) (kp := []) (ps := [AV.lit (.int .i64 (((p1.map o47).length : Nat) : Int)) = (I (p1.length : Int)), (decide (v5 < (p1.length : Int))) = true, (0 : Int) ≤ v5, (p1.map o47)[(Int.toNat v5)]? = some (o47 x7), (0 : Int) ≤ v5, (p2.map o47)[(Int.toNat v5)]? = some (o47 x8), Meets Try.prog 37 [(AV.agg ((o47 x7))), (AV.agg ((o47 x8)))] (B r9), litA (B r9) = true, (!r9) = false]) (by kernel_rfl) ⟨(lenM o47), c6, (rd0 hx7), (rdM o47 hx7), (rd0 hx8), (rdM o47 hx8), (laws_eqEvent_m hr9), rfl, c11, trivial⟩ (ih (w64 (v5 + 1)) _ h)
    · have h := Option.some.inj h
      subst h
      exact go_ret hΘ hm hP hn (hs := [⟨2, .no, some (I (p1.length : Int))⟩, ⟨4, .br false, none⟩]) (rh := []) (ph := .raw) (ps := [AV.lit (.int .i64 (((p1.map o47).length : Nat) : Int)) = (I (p1.length : Int)), (decide (v5 < (p1.length : Int))) = false, (B true) = (B true), litA (B true) = true]) (by kernel_rfl) ⟨(lenM o47), c12, rfl, rfl, trivial⟩
noncomputable def laws_eqEventS (p1 : (List GEvent)) (p2 : (List GEvent)) : Option Bool :=
  if ((p1.length : Int) != (p2.length : Int)) = true then
    some false
  else
    laws_eqEventS_l0 p1 p2 FU 0
theorem laws_eqEventS_m {p1 : (List GEvent)} {p2 : (List GEvent)} {r : Bool} (h : laws_eqEventS p1 p2 = some r) : Meets Try.prog 13 [(AV.ro 5 (p1.map o47)), (AV.ro 5 (p2.map o47))] (B r) := by
  refine meets_ofC Θ_ok Try.func13 rfl (c := body13) (by kernel_rfl) (Nat.le_of_ble_eq_true rfl) ?_
  intro E hP hn hx
  replace hn : E.n = 27 := hn
  have hm : E.P.follows .mixedOrders = true := by rw [hP]; exact mixed
  have hΘ : TOK E.P Θ := by rw [hP]; exact Θ_ok
  unfold laws_eqEventS at h
  show WAt E body13 (FQ (RetE Θ Try.f13.results.toList [] [] (B r) E)) [] ⟨[(0, (AV.ro 5 (p1.map o47))), (1, (AV.ro 5 (p2.map o47)))], [], [JJ]⟩
  rcases itS h with ⟨c3, h⟩ | ⟨c4, h⟩
  · have h := Option.some.inj h
    subst h
    exact go_ret hΘ hm hP hn (hs := [⟨2, .no, some (I (p1.length : Int))⟩, ⟨4, .no, some (I (p2.length : Int))⟩, ⟨6, .br true, none⟩]) (rh := []) (ph := .raw) (ps := [AV.lit (.int .i64 (((p1.map o47).length : Nat) : Int)) = (I (p1.length : Int)), AV.lit (.int .i64 (((p2.map o47).length : Nat) : Int)) = (I (p2.length : Int)), ((p1.length : Int) != (p2.length : Int)) = true, (B false) = (B false), litA (B false) = true]) (by kernel_rfl) ⟨(lenM o47), (lenM o47), c3, rfl, rfl, trivial⟩
  · exact go_to hΘ hm hx hP hn (hs := [⟨2, .no, some (I (p1.length : Int))⟩, ⟨4, .no, some (I (p2.length : Int))⟩, ⟨6, .br false, none⟩]) (π := []) (ts := [0, 1, 5]) (kp := []) (ps := [AV.lit (.int .i64 (((p1.map o47).length : Nat) : Int)) = (I (p1.length : Int)), AV.lit (.int .i64 (((p2.map o47).length : Nat) : Int)) = (I (p2.length : Int)), ((p1.length : Int) != (p2.length : Int)) = false]) (by kernel_rfl) ⟨(lenM o47), (lenM o47), c4, trivial⟩ (laws_eqEventS_l0_m hP hn hx p1 p2 FU 0 _ h)
noncomputable def body40 : Code := match Try.f40.body with | some c => c | none => .skip
noncomputable def laws_eqIntS_l0  (p1 : (List Int)) (p2 : (List Int)) : Nat → Int → Option Bool
  | 0, _ => none
  | n + 1, v5 =>
  if (decide (v5 < (p1.length : Int))) = true then
    Option.bind (rd p1 v5) fun x7 =>
    Option.bind (rd p2 v5) fun x8 =>
    if (x7 != x8) = true then
      some false
    else
      laws_eqIntS_l0 p1 p2 n (w64 (v5 + 1))
  else
    some true
theorem laws_eqIntS_l0_m {E : Env} (hP : E.P = Try.prog) (hn : E.n = 26) (hx : ∀ p, p ∈ E.fx → p.1 ∈ ([] : List Nat)) (p1 : (List Int)) (p2 : (List Int))  : ∀ (n : Nat) (v5 : Int) (r : Bool), laws_eqIntS_l0 p1 p2 n v5 = some r → WAt E body40 (FQ (RetE Θ Try.f40.results.toList [] [] (B r) E)) [true, true, false, true, false] ⟨[(0, (AV.ro 1 (p1.map o3))), (1, (AV.ro 1 (p2.map o3))), (5, (I v5))], [], [JJ]⟩ := by
  have hm : E.P.follows .mixedOrders = true := by rw [hP]; exact mixed
  have hΘ : TOK E.P Θ := by rw [hP]; exact Θ_ok
  intro n
  induction n with
  | zero => intro v5 r h; simp only [laws_eqIntS_l0] at h; cases h
  | succ n ih =>
    intro v5 r h
    simp only [laws_eqIntS_l0] at h
    rcases itS h with ⟨c6, h⟩ | ⟨c11, h⟩
    · obtain ⟨x7, hx7, h⟩ := bnS h
      obtain ⟨x8, hx8, h⟩ := bnS h
      rcases itS h with ⟨c9, h⟩ | ⟨c10, h⟩
      · have h := Option.some.inj h
        subst h
        exact go_ret hΘ hm hP hn (hs := [⟨2, .no, some (I (p1.length : Int))⟩, ⟨4, .br true, none⟩, ⟨7, .row (o3 x7), none⟩, ⟨11, .row (o3 x8), none⟩, ⟨14, .br true, none⟩]) (rh := []) (ph := .raw) (ps := [AV.lit (.int .i64 (((p1.map o3).length : Nat) : Int)) = (I (p1.length : Int)), (decide (v5 < (p1.length : Int))) = true, (0 : Int) ≤ v5, (p1.map o3)[(Int.toNat v5)]? = some (o3 x7), (0 : Int) ≤ v5, (p2.map o3)[(Int.toNat v5)]? = some (o3 x8), (x7 != x8) = true, (B false) = (B false), litA (B false) = true]) (by kernel_rfl) ⟨(lenM o3), c6, (rd0 hx7), (rdM o3 hx7), (rd0 hx8), (rdM o3 hx8), c9, rfl, rfl, trivial⟩
      · exact go_to hΘ hm hx hP hn (hs := [⟨2, .no, some (I (p1.length : Int))⟩, ⟨4, .br true, none⟩, ⟨7, .row (o3 x7), none⟩, ⟨11, .row (o3 x8), none⟩, ⟨14, .br false, none⟩]) (π := []) (ts := [0, 1, 5]) (kp := []) (ps := [AV.lit (.int .i64 (((p1.map o3).length : Nat) : Int)) = (I (p1.length : Int)), (decide (v5 < (p1.length : Int))) = true, (0 : Int) ≤ v5, (p1.map o3)[(Int.toNat v5)]? = some (o3 x7), (0 : Int) ≤ v5, (p2.map o3)[(Int.toNat v5)]? = some (o3 x8), (x7 != x8) = false]) (by kernel_rfl) ⟨(lenM o3), c6, (rd0 hx7), (rdM o3 hx7), (rd0 hx8), (rdM o3 hx8), c10, trivial⟩ (ih (w64 (v5 + 1)) _ h)
    · have h := Option.some.inj h
      subst h
      exact go_ret hΘ hm hP hn (hs := [⟨2, .no, some (I (p1.length : Int))⟩, ⟨4, .br false, none⟩]) (rh := []) (ph := .raw) (ps := [AV.lit (.int .i64 (((p1.map o3).length : Nat) : Int)) = (I (p1.length : Int)), (decide (v5 < (p1.length : Int))) = false, (B true) = (B true), litA (B true) = true]) (by kernel_rfl) ⟨(lenM o3), c11, rfl, rfl, trivial⟩
noncomputable def laws_eqIntS (p1 : (List Int)) (p2 : (List Int)) : Option Bool :=
  if ((p1.length : Int) != (p2.length : Int)) = true then
    some false
  else
    laws_eqIntS_l0 p1 p2 FU 0
theorem laws_eqIntS_m {p1 : (List Int)} {p2 : (List Int)} {r : Bool} (h : laws_eqIntS p1 p2 = some r) : Meets Try.prog 40 [(AV.ro 1 (p1.map o3)), (AV.ro 1 (p2.map o3))] (B r) := by
  refine meets_ofC Θ_ok Try.func40 rfl (c := body40) (by kernel_rfl) (Nat.le_of_ble_eq_true rfl) ?_
  intro E hP hn hx
  replace hn : E.n = 26 := hn
  have hm : E.P.follows .mixedOrders = true := by rw [hP]; exact mixed
  have hΘ : TOK E.P Θ := by rw [hP]; exact Θ_ok
  unfold laws_eqIntS at h
  show WAt E body40 (FQ (RetE Θ Try.f40.results.toList [] [] (B r) E)) [] ⟨[(0, (AV.ro 1 (p1.map o3))), (1, (AV.ro 1 (p2.map o3)))], [], [JJ]⟩
  rcases itS h with ⟨c3, h⟩ | ⟨c4, h⟩
  · have h := Option.some.inj h
    subst h
    exact go_ret hΘ hm hP hn (hs := [⟨2, .no, some (I (p1.length : Int))⟩, ⟨4, .no, some (I (p2.length : Int))⟩, ⟨6, .br true, none⟩]) (rh := []) (ph := .raw) (ps := [AV.lit (.int .i64 (((p1.map o3).length : Nat) : Int)) = (I (p1.length : Int)), AV.lit (.int .i64 (((p2.map o3).length : Nat) : Int)) = (I (p2.length : Int)), ((p1.length : Int) != (p2.length : Int)) = true, (B false) = (B false), litA (B false) = true]) (by kernel_rfl) ⟨(lenM o3), (lenM o3), c3, rfl, rfl, trivial⟩
  · exact go_to hΘ hm hx hP hn (hs := [⟨2, .no, some (I (p1.length : Int))⟩, ⟨4, .no, some (I (p2.length : Int))⟩, ⟨6, .br false, none⟩]) (π := []) (ts := [0, 1, 5]) (kp := []) (ps := [AV.lit (.int .i64 (((p1.map o3).length : Nat) : Int)) = (I (p1.length : Int)), AV.lit (.int .i64 (((p2.map o3).length : Nat) : Int)) = (I (p2.length : Int)), ((p1.length : Int) != (p2.length : Int)) = false]) (by kernel_rfl) ⟨(lenM o3), (lenM o3), c4, trivial⟩ (laws_eqIntS_l0_m hP hn hx p1 p2 FU 0 _ h)
noncomputable def body19 : Code := match Try.f19.body with | some c => c | none => .skip
noncomputable def laws_eqIntSS_l0  (p1 : (List (List Int))) (p2 : (List (List Int))) : Nat → Int → Option Bool
  | 0, _ => none
  | n + 1, v5 =>
  if (decide (v5 < (p1.length : Int))) = true then
    Option.bind (rd p1 v5) fun x7 =>
    Option.bind (rd p2 v5) fun x8 =>
    Option.bind (laws_eqIntS x7 x8) fun r9 =>
    if (!r9) = true then
      some false
    else
      laws_eqIntSS_l0 p1 p2 n (w64 (v5 + 1))
  else
    some true
theorem laws_eqIntSS_l0_m {E : Env} (hP : E.P = Try.prog) (hn : E.n = 27) (hx : ∀ p, p ∈ E.fx → p.1 ∈ ([] : List Nat)) (p1 : (List (List Int))) (p2 : (List (List Int)))  : ∀ (n : Nat) (v5 : Int) (r : Bool), laws_eqIntSS_l0 p1 p2 n v5 = some r → WAt E body19 (FQ (RetE Θ Try.f19.results.toList [] [] (B r) E)) [true, true, false, true, false] ⟨[(0, (AV.ro 1 (p1.map r56))), (1, (AV.ro 1 (p2.map r56))), (5, (I v5))], [], [JJ]⟩ := by
  have hm : E.P.follows .mixedOrders = true := by rw [hP]; exact mixed
  have hΘ : TOK E.P Θ := by rw [hP]; exact Θ_ok
  intro n
  induction n with
  | zero => intro v5 r h; simp only [laws_eqIntSS_l0] at h; cases h
  | succ n ih =>
    intro v5 r h
    simp only [laws_eqIntSS_l0] at h
    rcases itS h with ⟨c6, h⟩ | ⟨c12, h⟩
    · obtain ⟨x7, hx7, h⟩ := bnS h
      obtain ⟨x8, hx8, h⟩ := bnS h
      obtain ⟨r9, hr9, h⟩ := bnS h
      rcases itS h with ⟨c10, h⟩ | ⟨c11, h⟩
      · have h := Option.some.inj h
        subst h
        exact go_ret hΘ hm hP hn (hs := [⟨2, .no, some (I (p1.length : Int))⟩, ⟨4, .br true, none⟩, ⟨7, .row (r56 x7), none⟩, ⟨11, .row (r56 x8), none⟩, ⟨13, .callV [] (B r9), none⟩, ⟨15, .br true, none⟩]) (rh := []) (ph := .raw) (ps := [AV.lit (.int .i64 (((p1.map r56).length : Nat) : Int)) = (I (p1.length : Int)), (decide (v5 < (p1.length : Int))) = true, (0 : Int) ≤ v5, (p1.map r56)[(Int.toNat v5)]? = some (r56 x7), (0 : Int) ≤ v5, (p2.map r56)[(Int.toNat v5)]? = some (r56 x8), Meets Try.prog 40 [(AV.ro 1 (x7.map o3)), (AV.ro 1 (x8.map o3))] (B r9), litA (B r9) = true, (!r9) = true, (B false) = (B false), litA (B false) = true]) (by kernel_rfl) ⟨(lenM r56), c6, (rd0 hx7), (rdM r56 hx7), (rd0 hx8), (rdM r56 hx8), (laws_eqIntS_m hr9), rfl, c10, rfl, rfl, trivial⟩
      · exact go_to hΘ hm hx hP hn (hs := [⟨2, .no, some (I (p1.length : Int))⟩, ⟨4, .br true, none⟩, ⟨7, .row (r56 x7), none⟩, ⟨11, .row (r56 x8), none⟩, ⟨13, .callV [] (B r9), none⟩, ⟨15, .br false, none⟩]) (π := []) (ts := [0, 1, 5]) (kp := []) (ps := [AV.lit (.int .i64 (((p1.map r56).length : Nat) : Int)) = (I (p1.length : Int)), (decide (v5 < (p1.length : Int))) = true, (0 : Int) ≤ v5, (p1.map r56)[(Int.toNat v5)]? = some (r56 x7), (0 : Int) ≤ v5, (p2.map r56)[(Int.toNat v5)]? = some (r56 x8), Meets Try.prog 40 [(AV.ro 1 (x7.map o3)), (AV.ro 1 (x8.map o3))] (B r9), litA (B r9) = true, (!r9) = false]) (by kernel_rfl) ⟨(lenM r56), c6, (rd0 hx7), (rdM r56 hx7), (rd0 hx8), (rdM r56 hx8), (laws_eqIntS_m hr9), rfl, c11, trivial⟩ (ih (w64 (v5 + 1)) _ h)
    · have h := Option.some.inj h
      subst h
      exact go_ret hΘ hm hP hn (hs := [⟨2, .no, some (I (p1.length : Int))⟩, ⟨4, .br false, none⟩]) (rh := []) (ph := .raw) (ps := [AV.lit (.int .i64 (((p1.map r56).length : Nat) : Int)) = (I (p1.length : Int)), (decide (v5 < (p1.length : Int))) = false, (B true) = (B true), litA (B true) = true]) (by kernel_rfl) ⟨(lenM r56), c12, rfl, rfl, trivial⟩
noncomputable def laws_eqIntSS (p1 : (List (List Int))) (p2 : (List (List Int))) : Option Bool :=
  if ((p1.length : Int) != (p2.length : Int)) = true then
    some false
  else
    laws_eqIntSS_l0 p1 p2 FU 0
theorem laws_eqIntSS_m {p1 : (List (List Int))} {p2 : (List (List Int))} {r : Bool} (h : laws_eqIntSS p1 p2 = some r) : Meets Try.prog 19 [(AV.ro 1 (p1.map r56)), (AV.ro 1 (p2.map r56))] (B r) := by
  refine meets_ofC Θ_ok Try.func19 rfl (c := body19) (by kernel_rfl) (Nat.le_of_ble_eq_true rfl) ?_
  intro E hP hn hx
  replace hn : E.n = 27 := hn
  have hm : E.P.follows .mixedOrders = true := by rw [hP]; exact mixed
  have hΘ : TOK E.P Θ := by rw [hP]; exact Θ_ok
  unfold laws_eqIntSS at h
  show WAt E body19 (FQ (RetE Θ Try.f19.results.toList [] [] (B r) E)) [] ⟨[(0, (AV.ro 1 (p1.map r56))), (1, (AV.ro 1 (p2.map r56)))], [], [JJ]⟩
  rcases itS h with ⟨c3, h⟩ | ⟨c4, h⟩
  · have h := Option.some.inj h
    subst h
    exact go_ret hΘ hm hP hn (hs := [⟨2, .no, some (I (p1.length : Int))⟩, ⟨4, .no, some (I (p2.length : Int))⟩, ⟨6, .br true, none⟩]) (rh := []) (ph := .raw) (ps := [AV.lit (.int .i64 (((p1.map r56).length : Nat) : Int)) = (I (p1.length : Int)), AV.lit (.int .i64 (((p2.map r56).length : Nat) : Int)) = (I (p2.length : Int)), ((p1.length : Int) != (p2.length : Int)) = true, (B false) = (B false), litA (B false) = true]) (by kernel_rfl) ⟨(lenM r56), (lenM r56), c3, rfl, rfl, trivial⟩
  · exact go_to hΘ hm hx hP hn (hs := [⟨2, .no, some (I (p1.length : Int))⟩, ⟨4, .no, some (I (p2.length : Int))⟩, ⟨6, .br false, none⟩]) (π := []) (ts := [0, 1, 5]) (kp := []) (ps := [AV.lit (.int .i64 (((p1.map r56).length : Nat) : Int)) = (I (p1.length : Int)), AV.lit (.int .i64 (((p2.map r56).length : Nat) : Int)) = (I (p2.length : Int)), ((p1.length : Int) != (p2.length : Int)) = false]) (by kernel_rfl) ⟨(lenM r56), (lenM r56), c4, trivial⟩ (laws_eqIntSS_l0_m hP hn hx p1 p2 FU 0 _ h)
noncomputable def body42 : Code := match Try.f42.body with | some c => c | none => .skip
noncomputable def laws_heldIntS_l0  (p1 : (List Int)) : Nat → Int → Int → Option Int
  | 0, _, _ => none
  | n + 1, v3, v4 =>
  if (decide (v4 < (p1.length : Int))) = true then
    Option.bind (rd p1 v4) fun x6 =>
    if (x6 != v3) = true then
      some (-1)
    else
      laws_heldIntS_l0 p1 n (w64 (v3 + 1)) (w64 (v4 + 1))
  else
    some v3
theorem laws_heldIntS_l0_m {E : Env} (hP : E.P = Try.prog) (hn : E.n = 21) (hx : ∀ p, p ∈ E.fx → p.1 ∈ ([] : List Nat)) (p1 : (List Int))  : ∀ (n : Nat) (v3 : Int) (v4 : Int) (r : Int), laws_heldIntS_l0 p1 n v3 v4 = some r → WAt E body42 (FQ (RetE Θ Try.f42.results.toList [] [] (I r) E)) [true, false, true, false] ⟨[(0, (AV.ro 1 (p1.map o3))), (1, (I v3)), (5, (I v4))], [], [JJ]⟩ := by
  have hm : E.P.follows .mixedOrders = true := by rw [hP]; exact mixed
  have hΘ : TOK E.P Θ := by rw [hP]; exact Θ_ok
  intro n
  induction n with
  | zero => intro v3 v4 r h; simp only [laws_heldIntS_l0] at h; cases h
  | succ n ih =>
    intro v3 v4 r h
    simp only [laws_heldIntS_l0] at h
    rcases itS h with ⟨c5, h⟩ | ⟨c9, h⟩
    · obtain ⟨x6, hx6, h⟩ := bnS h
      rcases itS h with ⟨c7, h⟩ | ⟨c8, h⟩
      · have h := Option.some.inj h
        subst h
        exact go_ret hΘ hm hP hn (hs := [⟨2, .no, some (I (p1.length : Int))⟩, ⟨4, .br true, none⟩, ⟨7, .row (o3 x6), none⟩, ⟨11, .br true, none⟩]) (rh := []) (ph := .raw) (ps := [AV.lit (.int .i64 (((p1.map o3).length : Nat) : Int)) = (I (p1.length : Int)), (decide (v4 < (p1.length : Int))) = true, (0 : Int) ≤ v4, (p1.map o3)[(Int.toNat v4)]? = some (o3 x6), (x6 != v3) = true, (I (-1)) = (I (-1)), litA (I (-1)) = true]) (by kernel_rfl) ⟨(lenM o3), c5, (rd0 hx6), (rdM o3 hx6), c7, rfl, rfl, trivial⟩
      · exact go_to hΘ hm hx hP hn (hs := [⟨2, .no, some (I (p1.length : Int))⟩, ⟨4, .br true, none⟩, ⟨7, .row (o3 x6), none⟩, ⟨11, .br false, none⟩]) (π := []) (ts := [0, 1, 5]) (kp := []) (ps := [AV.lit (.int .i64 (((p1.map o3).length : Nat) : Int)) = (I (p1.length : Int)), (decide (v4 < (p1.length : Int))) = true, (0 : Int) ≤ v4, (p1.map o3)[(Int.toNat v4)]? = some (o3 x6), (x6 != v3) = false]) (by kernel_rfl) ⟨(lenM o3), c5, (rd0 hx6), (rdM o3 hx6), c8, trivial⟩ (ih (w64 (v3 + 1)) (w64 (v4 + 1)) _ h)
    · have h := Option.some.inj h
      subst h
      exact go_ret hΘ hm hP hn (hs := [⟨2, .no, some (I (p1.length : Int))⟩, ⟨4, .br false, none⟩]) (rh := []) (ph := .raw) (ps := [AV.lit (.int .i64 (((p1.map o3).length : Nat) : Int)) = (I (p1.length : Int)), (decide (v4 < (p1.length : Int))) = false, (I v3) = (I v3), litA (I v3) = true]) (by kernel_rfl) ⟨(lenM o3), c9, rfl, rfl, trivial⟩
noncomputable def laws_heldIntS (p1 : (List Int)) (p2 : Int) : Option Int :=
  laws_heldIntS_l0 p1 FU p2 0
theorem laws_heldIntS_m {p1 : (List Int)} {p2 : Int} {r : Int} (h : laws_heldIntS p1 p2 = some r) : Meets Try.prog 42 [(AV.ro 1 (p1.map o3)), (I p2)] (I r) := by
  refine meets_ofC Θ_ok Try.func42 rfl (c := body42) (by kernel_rfl) (Nat.le_of_ble_eq_true rfl) ?_
  intro E hP hn hx
  replace hn : E.n = 21 := hn
  have hm : E.P.follows .mixedOrders = true := by rw [hP]; exact mixed
  have hΘ : TOK E.P Θ := by rw [hP]; exact Θ_ok
  unfold laws_heldIntS at h
  show WAt E body42 (FQ (RetE Θ Try.f42.results.toList [] [] (I r) E)) [] ⟨[(0, (AV.ro 1 (p1.map o3))), (1, (I p2))], [], [JJ]⟩
  exact go_to hΘ hm hx hP hn (hs := []) (π := []) (ts := [0, 1, 5]) (kp := []) (ps := []) (by kernel_rfl) trivial (laws_heldIntS_l0_m hP hn hx p1 FU p2 0 _ h)
noncomputable def body21 : Code := match Try.f21.body with | some c => c | none => .skip
noncomputable def laws_heldIntSS_l0  (p1 : (List (List Int))) : Nat → Int → Int → Option Int
  | 0, _, _ => none
  | n + 1, v3, v4 =>
  if (decide (v4 < (p1.length : Int))) = true then
    Option.bind (rd p1 v4) fun x6 =>
    Option.bind (laws_heldIntS x6 v3) fun r7 =>
    if (decide (r7 < 0)) = true then
      some (-1)
    else
      laws_heldIntSS_l0 p1 n r7 (w64 (v4 + 1))
  else
    some v3
theorem laws_heldIntSS_l0_m {E : Env} (hP : E.P = Try.prog) (hn : E.n = 21) (hx : ∀ p, p ∈ E.fx → p.1 ∈ ([] : List Nat)) (p1 : (List (List Int)))  : ∀ (n : Nat) (v3 : Int) (v4 : Int) (r : Int), laws_heldIntSS_l0 p1 n v3 v4 = some r → WAt E body21 (FQ (RetE Θ Try.f21.results.toList [] [] (I r) E)) [true, false, true, false] ⟨[(0, (AV.ro 1 (p1.map r56))), (1, (I v3)), (5, (I v4))], [], [JJ]⟩ := by
  have hm : E.P.follows .mixedOrders = true := by rw [hP]; exact mixed
  have hΘ : TOK E.P Θ := by rw [hP]; exact Θ_ok
  intro n
  induction n with
  | zero => intro v3 v4 r h; simp only [laws_heldIntSS_l0] at h; cases h
  | succ n ih =>
    intro v3 v4 r h
    simp only [laws_heldIntSS_l0] at h
    rcases itS h with ⟨c5, h⟩ | ⟨c10, h⟩
    · obtain ⟨x6, hx6, h⟩ := bnS h
      obtain ⟨r7, hr7, h⟩ := bnS h
      rcases itS h with ⟨c8, h⟩ | ⟨c9, h⟩
      · have h := Option.some.inj h
        subst h
        exact go_ret hΘ hm hP hn (hs := [⟨2, .no, some (I (p1.length : Int))⟩, ⟨4, .br true, none⟩, ⟨7, .row (r56 x6), none⟩, ⟨10, .callV [] (I r7), none⟩, ⟨14, .br true, none⟩]) (rh := []) (ph := .raw) (ps := [AV.lit (.int .i64 (((p1.map r56).length : Nat) : Int)) = (I (p1.length : Int)), (decide (v4 < (p1.length : Int))) = true, (0 : Int) ≤ v4, (p1.map r56)[(Int.toNat v4)]? = some (r56 x6), Meets Try.prog 42 [(AV.ro 1 (x6.map o3)), (I v3)] (I r7), litA (I r7) = true, (decide (r7 < 0)) = true, (I (-1)) = (I (-1)), litA (I (-1)) = true]) (by kernel_rfl) ⟨(lenM r56), c5, (rd0 hx6), (rdM r56 hx6), (laws_heldIntS_m hr7), rfl, c8, rfl, rfl, trivial⟩
      · exact go_to hΘ hm hx hP hn (hs := [⟨2, .no, some (I (p1.length : Int))⟩, ⟨4, .br true, none⟩, ⟨7, .row (r56 x6), none⟩, ⟨10, .callV [] (I r7), none⟩, ⟨14, .br false, none⟩]) (π := []) (ts := [0, 1, 5]) (kp := []) (ps := [AV.lit (.int .i64 (((p1.map r56).length : Nat) : Int)) = (I (p1.length : Int)), (decide (v4 < (p1.length : Int))) = true, (0 : Int) ≤ v4, (p1.map r56)[(Int.toNat v4)]? = some (r56 x6), Meets Try.prog 42 [(AV.ro 1 (x6.map o3)), (I v3)] (I r7), litA (I r7) = true, (decide (r7 < 0)) = false]) (by kernel_rfl) ⟨(lenM r56), c5, (rd0 hx6), (rdM r56 hx6), (laws_heldIntS_m hr7), rfl, c9, trivial⟩ (ih r7 (w64 (v4 + 1)) _ h)
    · have h := Option.some.inj h
      subst h
      exact go_ret hΘ hm hP hn (hs := [⟨2, .no, some (I (p1.length : Int))⟩, ⟨4, .br false, none⟩]) (rh := []) (ph := .raw) (ps := [AV.lit (.int .i64 (((p1.map r56).length : Nat) : Int)) = (I (p1.length : Int)), (decide (v4 < (p1.length : Int))) = false, (I v3) = (I v3), litA (I v3) = true]) (by kernel_rfl) ⟨(lenM r56), c10, rfl, rfl, trivial⟩
noncomputable def laws_heldIntSS (p1 : (List (List Int))) (p2 : Int) : Option Int :=
  laws_heldIntSS_l0 p1 FU p2 0
theorem laws_heldIntSS_m {p1 : (List (List Int))} {p2 : Int} {r : Int} (h : laws_heldIntSS p1 p2 = some r) : Meets Try.prog 21 [(AV.ro 1 (p1.map r56)), (I p2)] (I r) := by
  refine meets_ofC Θ_ok Try.func21 rfl (c := body21) (by kernel_rfl) (Nat.le_of_ble_eq_true rfl) ?_
  intro E hP hn hx
  replace hn : E.n = 21 := hn
  have hm : E.P.follows .mixedOrders = true := by rw [hP]; exact mixed
  have hΘ : TOK E.P Θ := by rw [hP]; exact Θ_ok
  unfold laws_heldIntSS at h
  show WAt E body21 (FQ (RetE Θ Try.f21.results.toList [] [] (I r) E)) [] ⟨[(0, (AV.ro 1 (p1.map r56))), (1, (I p2))], [], [JJ]⟩
  exact go_to hΘ hm hx hP hn (hs := []) (π := []) (ts := [0, 1, 5]) (kp := []) (ps := []) (by kernel_rfl) trivial (laws_heldIntSS_l0_m hP hn hx p1 FU p2 0 _ h)
noncomputable def body14 : Code := match Try.f14.body with | some c => c | none => .skip
noncomputable def laws_markEventS_l0   : Nat → (List GEvent) → Int → Int → Option (Int × (List GEvent))
  | 0, _, _, _ => none
  | n + 1, a3, v4, v5 =>
  if (decide (v5 < (a3.length : Int))) = true then
    Option.bind (rd a3 v5) fun x7 =>
    laws_markEventS_l0 n (a3.set (Int.toNat v5) (GEvent.mk v4 (w64 (v4 + 1)) (w64 ((w64 (v4 + 1)) + 1)) (w64 ((w64 ((w64 (v4 + 1)) + 1)) + 1)) (w64 ((w64 ((w64 ((w64 (v4 + 1)) + 1)) + 1)) + 1)))) (w64 ((w64 ((w64 ((w64 ((w64 (v4 + 1)) + 1)) + 1)) + 1)) + 1)) (w64 (v5 + 1))
  else
    some (v4, a3)
theorem laws_markEventS_l0_m {E : Env} (hP : E.P = Try.prog) (hn : E.n = 48) (hx : ∀ p, p ∈ E.fx → p.1 ∈ ([0] : List Nat))   : ∀ (n : Nat) (a3 : (List GEvent)) (v4 : Int) (v5 : Int) (r : (Int × (List GEvent))), laws_markEventS_l0  n a3 v4 v5 = some r → WAt E body14 (FQ (RetE Θ Try.f14.results.toList [true] [⟨47, 5, (r.2.map o47)⟩] (I r.1) E)) [true, false, true, false] ⟨[(0, (AV.sl 0 0 (List.length (a3.map o47)))), (1, (I v4)), (5, (I v5))], [(0, some ⟨47, 5, (a3.map o47)⟩)], [0, JJ]⟩ := by
  have hm : E.P.follows .mixedOrders = true := by rw [hP]; exact mixed
  have hΘ : TOK E.P Θ := by rw [hP]; exact Θ_ok
  intro n
  induction n with
  | zero => intro a3 v4 v5 r h; simp only [laws_markEventS_l0] at h; cases h
  | succ n ih =>
    intro a3 v4 v5 r h
    simp only [laws_markEventS_l0] at h
    rcases itS h with ⟨c6, h⟩ | ⟨c8, h⟩
    · obtain ⟨x7, hx7, h⟩ := bnS h
      exact go_to hΘ hm hx hP hn (hs := [⟨2, .no, some (I (a3.length : Int))⟩, ⟨4, .br true, none⟩, ⟨10, .sto ((o47 x7)) ((a3.set (Int.toNat v5) (GEvent.mk v4 x7.Kind x7.Obj x7.Lock x7.Pc)).map o47), none⟩, ⟨14, .slen 0 (List.length ((a3.set (Int.toNat v5) (GEvent.mk v4 x7.Kind x7.Obj x7.Lock x7.Pc)).map o47)), none⟩, ⟨19, .sto [(I v4), (I x7.Kind), (I x7.Obj), (I x7.Lock), (I x7.Pc)] ((a3.set (Int.toNat v5) (GEvent.mk v4 (w64 (v4 + 1)) x7.Obj x7.Lock x7.Pc)).map o47), none⟩, ⟨23, .slen 0 (List.length ((a3.set (Int.toNat v5) (GEvent.mk v4 (w64 (v4 + 1)) x7.Obj x7.Lock x7.Pc)).map o47)), none⟩, ⟨28, .sto [(I v4), (I (w64 (v4 + 1))), (I x7.Obj), (I x7.Lock), (I x7.Pc)] ((a3.set (Int.toNat v5) (GEvent.mk v4 (w64 (v4 + 1)) (w64 ((w64 (v4 + 1)) + 1)) x7.Lock x7.Pc)).map o47), none⟩, ⟨32, .slen 0 (List.length ((a3.set (Int.toNat v5) (GEvent.mk v4 (w64 (v4 + 1)) (w64 ((w64 (v4 + 1)) + 1)) x7.Lock x7.Pc)).map o47)), none⟩, ⟨37, .sto [(I v4), (I (w64 (v4 + 1))), (I (w64 ((w64 (v4 + 1)) + 1))), (I x7.Lock), (I x7.Pc)] ((a3.set (Int.toNat v5) (GEvent.mk v4 (w64 (v4 + 1)) (w64 ((w64 (v4 + 1)) + 1)) (w64 ((w64 ((w64 (v4 + 1)) + 1)) + 1)) x7.Pc)).map o47), none⟩, ⟨41, .slen 0 (List.length ((a3.set (Int.toNat v5) (GEvent.mk v4 (w64 (v4 + 1)) (w64 ((w64 (v4 + 1)) + 1)) (w64 ((w64 ((w64 (v4 + 1)) + 1)) + 1)) x7.Pc)).map o47)), none⟩, ⟨46, .sto [(I v4), (I (w64 (v4 + 1))), (I (w64 ((w64 (v4 + 1)) + 1))), (I (w64 ((w64 ((w64 (v4 + 1)) + 1)) + 1))), (I x7.Pc)] ((a3.set (Int.toNat v5) (GEvent.mk v4 (w64 (v4 + 1)) (w64 ((w64 (v4 + 1)) + 1)) (w64 ((w64 ((w64 (v4 + 1)) + 1)) + 1)) (w64 ((w64 ((w64 ((w64 (v4 + 1)) + 1)) + 1)) + 1)))).map o47), none⟩, ⟨53, .slen 0 (List.length ((a3.set (Int.toNat v5) (GEvent.mk v4 (w64 (v4 + 1)) (w64 ((w64 (v4 + 1)) + 1)) (w64 ((w64 ((w64 (v4 + 1)) + 1)) + 1)) (w64 ((w64 ((w64 ((w64 (v4 + 1)) + 1)) + 1)) + 1)))).map o47)), none⟩]) (π := [(0, 0)]) (ts := [0, 1, 5]) (kp := []) (ps := [AV.lit (.int .i64 (((List.length (a3.map o47)) : Nat) : Int)) = (I (a3.length : Int)), (decide (v5 < (a3.length : Int))) = true, (0 : Int) ≤ v5, v5 < (((List.length (a3.map o47)) : Nat) : Int), (a3.map o47)[(Int.toNat v5)]? = some ((o47 x7)), (a3.map o47).set (Int.toNat v5) (wr ((o47 x7)) 0 [(I v4)]) = ((a3.set (Int.toNat v5) (GEvent.mk v4 x7.Kind x7.Obj x7.Lock x7.Pc)).map o47), [(I v4)].length = 1, 0 + [(I v4)].length ≤ ((o47 x7)).length, (List.length (a3.map o47)) = (List.length ((a3.set (Int.toNat v5) (GEvent.mk v4 x7.Kind x7.Obj x7.Lock x7.Pc)).map o47)), (0 : Int) ≤ v5, v5 < (((List.length ((a3.set (Int.toNat v5) (GEvent.mk v4 x7.Kind x7.Obj x7.Lock x7.Pc)).map o47)) : Nat) : Int), ((a3.set (Int.toNat v5) (GEvent.mk v4 x7.Kind x7.Obj x7.Lock x7.Pc)).map o47)[(Int.toNat v5)]? = some [(I v4), (I x7.Kind), (I x7.Obj), (I x7.Lock), (I x7.Pc)], ((a3.set (Int.toNat v5) (GEvent.mk v4 x7.Kind x7.Obj x7.Lock x7.Pc)).map o47).set (Int.toNat v5) (wr [(I v4), (I x7.Kind), (I x7.Obj), (I x7.Lock), (I x7.Pc)] 1 [(I (w64 (v4 + 1)))]) = ((a3.set (Int.toNat v5) (GEvent.mk v4 (w64 (v4 + 1)) x7.Obj x7.Lock x7.Pc)).map o47), [(I (w64 (v4 + 1)))].length = 1, 1 + [(I (w64 (v4 + 1)))].length ≤ [(I v4), (I x7.Kind), (I x7.Obj), (I x7.Lock), (I x7.Pc)].length, (List.length ((a3.set (Int.toNat v5) (GEvent.mk v4 x7.Kind x7.Obj x7.Lock x7.Pc)).map o47)) = (List.length ((a3.set (Int.toNat v5) (GEvent.mk v4 (w64 (v4 + 1)) x7.Obj x7.Lock x7.Pc)).map o47)), (0 : Int) ≤ v5, v5 < (((List.length ((a3.set (Int.toNat v5) (GEvent.mk v4 (w64 (v4 + 1)) x7.Obj x7.Lock x7.Pc)).map o47)) : Nat) : Int), ((a3.set (Int.toNat v5) (GEvent.mk v4 (w64 (v4 + 1)) x7.Obj x7.Lock x7.Pc)).map o47)[(Int.toNat v5)]? = some [(I v4), (I (w64 (v4 + 1))), (I x7.Obj), (I x7.Lock), (I x7.Pc)], ((a3.set (Int.toNat v5) (GEvent.mk v4 (w64 (v4 + 1)) x7.Obj x7.Lock x7.Pc)).map o47).set (Int.toNat v5) (wr [(I v4), (I (w64 (v4 + 1))), (I x7.Obj), (I x7.Lock), (I x7.Pc)] 2 [(I (w64 ((w64 (v4 + 1)) + 1)))]) = ((a3.set (Int.toNat v5) (GEvent.mk v4 (w64 (v4 + 1)) (w64 ((w64 (v4 + 1)) + 1)) x7.Lock x7.Pc)).map o47), [(I (w64 ((w64 (v4 + 1)) + 1)))].length = 1, 2 + [(I (w64 ((w64 (v4 + 1)) + 1)))].length ≤ [(I v4), (I (w64 (v4 + 1))), (I x7.Obj), (I x7.Lock), (I x7.Pc)].length, (List.length ((a3.set (Int.toNat v5) (GEvent.mk v4 (w64 (v4 + 1)) x7.Obj x7.Lock x7.Pc)).map o47)) = (List.length ((a3.set (Int.toNat v5) (GEvent.mk v4 (w64 (v4 + 1)) (w64 ((w64 (v4 + 1)) + 1)) x7.Lock x7.Pc)).map o47)), (0 : Int) ≤ v5, v5 < (((List.length ((a3.set (Int.toNat v5) (GEvent.mk v4 (w64 (v4 + 1)) (w64 ((w64 (v4 + 1)) + 1)) x7.Lock x7.Pc)).map o47)) : Nat) : Int), ((a3.set (Int.toNat v5) (GEvent.mk v4 (w64 (v4 + 1)) (w64 ((w64 (v4 + 1)) + 1)) x7.Lock x7.Pc)).map o47)[(Int.toNat v5)]? = some [(I v4), (I (w64 (v4 + 1))), (I (w64 ((w64 (v4 + 1)) + 1))), (I x7.Lock), (I x7.Pc)], ((a3.set (Int.toNat v5) (GEvent.mk v4 (w64 (v4 + 1)) (w64 ((w64 (v4 + 1)) + 1)) x7.Lock x7.Pc)).map o47).set (Int.toNat v5) (wr [(I v4), (I (w64 (v4 + 1))), (I (w64 ((w64 (v4 + 1)) + 1))), (I x7.Lock), (I x7.Pc)] 3 [(I (w64 ((w64 ((w64 (v4 + 1)) + 1)) + 1)))]) = ((a3.set (Int.toNat v5) (GEvent.mk v4 (w64 (v4 + 1)) (w64 ((w64 (v4 + 1)) + 1)) (w64 ((w64 ((w64 (v4 + 1)) + 1)) + 1)) x7.Pc)).map o47), [(I (w64 ((w64 ((w64 (v4 + 1)) + 1)) + 1)))].length = 1, 3 + [(I (w64 ((w64 ((w64 (v4 + 1)) + 1)) + 1)))].length ≤ [(I v4), (I (w64 (v4 + 1))), (I (w64 ((w64 (v4 + 1)) + 1))), (I x7.Lock), (I x7.Pc)].length, (List.length ((a3.set (Int.toNat v5) (GEvent.mk v4 (w64 (v4 + 1)) (w64 ((w64 (v4 + 1)) + 1)) x7.Lock x7.Pc)).map o47)) = (List.length ((a3.set (Int.toNat v5) (GEvent.mk v4 (w64 (v4 + 1)) (w64 ((w64 (v4 + 1)) + 1)) (w64 ((w64 ((w64 (v4 + 1)) + 1)) + 1)) x7.Pc)).map o47)), (0 : Int) ≤ v5, v5 < (((List.length ((a3.set (Int.toNat v5) (GEvent.mk v4 (w64 (v4 + 1)) (w64 ((w64 (v4 + 1)) + 1)) (w64 ((w64 ((w64 (v4 + 1)) + 1)) + 1)) x7.Pc)).map o47)) : Nat) : Int), ((a3.set (Int.toNat v5) (GEvent.mk v4 (w64 (v4 + 1)) (w64 ((w64 (v4 + 1)) + 1)) (w64 ((w64 ((w64 (v4 + 1)) + 1)) + 1)) x7.Pc)).map o47)[(Int.toNat v5)]? = some [(I v4), (I (w64 (v4 + 1))), (I (w64 ((w64 (v4 + 1)) + 1))), (I (w64 ((w64 ((w64 (v4 + 1)) + 1)) + 1))), (I x7.Pc)], ((a3.set (Int.toNat v5) (GEvent.mk v4 (w64 (v4 + 1)) (w64 ((w64 (v4 + 1)) + 1)) (w64 ((w64 ((w64 (v4 + 1)) + 1)) + 1)) x7.Pc)).map o47).set (Int.toNat v5) (wr [(I v4), (I (w64 (v4 + 1))), (I (w64 ((w64 (v4 + 1)) + 1))), (I (w64 ((w64 ((w64 (v4 + 1)) + 1)) + 1))), (I x7.Pc)] 4 [(I (w64 ((w64 ((w64 ((w64 (v4 + 1)) + 1)) + 1)) + 1)))]) = ((a3.set (Int.toNat v5) (GEvent.mk v4 (w64 (v4 + 1)) (w64 ((w64 (v4 + 1)) + 1)) (w64 ((w64 ((w64 (v4 + 1)) + 1)) + 1)) (w64 ((w64 ((w64 ((w64 (v4 + 1)) + 1)) + 1)) + 1)))).map o47), [(I (w64 ((w64 ((w64 ((w64 (v4 + 1)) + 1)) + 1)) + 1)))].length = 1, 4 + [(I (w64 ((w64 ((w64 ((w64 (v4 + 1)) + 1)) + 1)) + 1)))].length ≤ [(I v4), (I (w64 (v4 + 1))), (I (w64 ((w64 (v4 + 1)) + 1))), (I (w64 ((w64 ((w64 (v4 + 1)) + 1)) + 1))), (I x7.Pc)].length, (List.length ((a3.set (Int.toNat v5) (GEvent.mk v4 (w64 (v4 + 1)) (w64 ((w64 (v4 + 1)) + 1)) (w64 ((w64 ((w64 (v4 + 1)) + 1)) + 1)) x7.Pc)).map o47)) = (List.length ((a3.set (Int.toNat v5) (GEvent.mk v4 (w64 (v4 + 1)) (w64 ((w64 (v4 + 1)) + 1)) (w64 ((w64 ((w64 (v4 + 1)) + 1)) + 1)) (w64 ((w64 ((w64 ((w64 (v4 + 1)) + 1)) + 1)) + 1)))).map o47)), RenOK [(0, 0)] ((a3.set (Int.toNat v5) (GEvent.mk v4 (w64 (v4 + 1)) (w64 ((w64 (v4 + 1)) + 1)) (w64 ((w64 ((w64 (v4 + 1)) + 1)) + 1)) (w64 ((w64 ((w64 ((w64 (v4 + 1)) + 1)) + 1)) + 1)))).map o47)]) (by kernel_rfl) ⟨(lenM o47), c6, (rd0 hx7), (rdL o47 hx7), (rdM o47 hx7), (setMr o47 (by kernel_rfl)), rfl, (Nat.le_of_ble_eq_true rfl), (by first | exact lnSet _ | exact lnSet2 _ | simp only [List.length_map, List.length_set, List.length_cons, List.length_nil]), (rd0 hx7), (rdL o47 (rdS (y := (GEvent.mk v4 x7.Kind x7.Obj x7.Lock x7.Pc)) hx7)), (rdM o47 (rdS (y := (GEvent.mk v4 x7.Kind x7.Obj x7.Lock x7.Pc)) hx7)), (setSS o47 (by kernel_rfl)), rfl, (Nat.le_of_ble_eq_true rfl), (by first | exact lnSet _ | exact lnSet2 _ | simp only [List.length_map, List.length_set, List.length_cons, List.length_nil]), (rd0 hx7), (rdL o47 (rdS (y := (GEvent.mk v4 (w64 (v4 + 1)) x7.Obj x7.Lock x7.Pc)) hx7)), (rdM o47 (rdS (y := (GEvent.mk v4 (w64 (v4 + 1)) x7.Obj x7.Lock x7.Pc)) hx7)), (setSS o47 (by kernel_rfl)), rfl, (Nat.le_of_ble_eq_true rfl), (by first | exact lnSet _ | exact lnSet2 _ | simp only [List.length_map, List.length_set, List.length_cons, List.length_nil]), (rd0 hx7), (rdL o47 (rdS (y := (GEvent.mk v4 (w64 (v4 + 1)) (w64 ((w64 (v4 + 1)) + 1)) x7.Lock x7.Pc)) hx7)), (rdM o47 (rdS (y := (GEvent.mk v4 (w64 (v4 + 1)) (w64 ((w64 (v4 + 1)) + 1)) x7.Lock x7.Pc)) hx7)), (setSS o47 (by kernel_rfl)), rfl, (Nat.le_of_ble_eq_true rfl), (by first | exact lnSet _ | exact lnSet2 _ | simp only [List.length_map, List.length_set, List.length_cons, List.length_nil]), (rd0 hx7), (rdL o47 (rdS (y := (GEvent.mk v4 (w64 (v4 + 1)) (w64 ((w64 (v4 + 1)) + 1)) (w64 ((w64 ((w64 (v4 + 1)) + 1)) + 1)) x7.Pc)) hx7)), (rdM o47 (rdS (y := (GEvent.mk v4 (w64 (v4 + 1)) (w64 ((w64 (v4 + 1)) + 1)) (w64 ((w64 ((w64 (v4 + 1)) + 1)) + 1)) x7.Pc)) hx7)), (setSS o47 (by kernel_rfl)), rfl, (Nat.le_of_ble_eq_true rfl), (by first | exact lnSet _ | exact lnSet2 _ | simp only [List.length_map, List.length_set, List.length_cons, List.length_nil]), (rok (treeM t47)), trivial⟩ (ih (a3.set (Int.toNat v5) (GEvent.mk v4 (w64 (v4 + 1)) (w64 ((w64 (v4 + 1)) + 1)) (w64 ((w64 ((w64 (v4 + 1)) + 1)) + 1)) (w64 ((w64 ((w64 ((w64 (v4 + 1)) + 1)) + 1)) + 1)))) (w64 ((w64 ((w64 ((w64 ((w64 (v4 + 1)) + 1)) + 1)) + 1)) + 1)) (w64 (v5 + 1)) _ h)
    · have h := Option.some.inj h
      subst h
      exact go_ret hΘ hm hP hn (hs := [⟨2, .no, some (I (a3.length : Int))⟩, ⟨4, .br false, none⟩]) (rh := []) (ph := .raw) (ps := [AV.lit (.int .i64 (((List.length (a3.map o47)) : Nat) : Int)) = (I (a3.length : Int)), (decide (v5 < (a3.length : Int))) = false, (a3.map o47) = (a3.map o47), treeLL (a3.map o47) = true, noRoLL (a3.map o47) = true, (I v4) = (I v4), litA (I v4) = true]) (by kernel_rfl) ⟨(lenM o47), c8, rfl, (treeM t47), (noRoM n47), rfl, rfl, trivial⟩
noncomputable def laws_markEventS (p1 : (List GEvent)) (p2 : Int) : Option (Int × (List GEvent)) :=
  laws_markEventS_l0 FU p1 p2 0
theorem laws_markEventS_m {p1 : (List GEvent)} {p2 : Int} {r : (Int × (List GEvent))} (h : laws_markEventS p1 p2 = some r) : MeetsR Try.prog 14 [⟨47, 5, (p1.map o47)⟩] [(AV.sl 0 0 (List.length (p1.map o47))), (I p2)] [true] [⟨47, 5, (r.2.map o47)⟩] (I r.1) := by
  refine meetsR_of Θ_ok Try.func14 rfl (c := body14) (by kernel_rfl) (Nat.le_of_ble_eq_true rfl) rfl (Nat.le_of_ble_eq_true rfl) rfl (fr := [0]) (frI rfl) ?_
  intro E hP hn hx
  replace hn : E.n = 48 := hn
  have hm : E.P.follows .mixedOrders = true := by rw [hP]; exact mixed
  have hΘ : TOK E.P Θ := by rw [hP]; exact Θ_ok
  unfold laws_markEventS at h
  show WAt E body14 (FQ (RetE Θ Try.f14.results.toList [true] [⟨47, 5, (r.2.map o47)⟩] (I r.1) E)) [] ⟨[(0, (AV.sl 0 0 (List.length (p1.map o47)))), (1, (I p2))], [(0, some ⟨47, 5, (p1.map o47)⟩)], [0, JJ]⟩
  exact go_to hΘ hm hx hP hn (hs := []) (π := [(0, 0)]) (ts := [0, 1, 5]) (kp := []) (ps := [RenOK [(0, 0)] (p1.map o47)]) (by kernel_rfl) ⟨(rok (treeM t47)), trivial⟩ (laws_markEventS_l0_m hP hn hx FU p1 p2 0 _ h)
noncomputable def body41 : Code := match Try.f41.body with | some c => c | none => .skip
noncomputable def laws_markIntS_l0   : Nat → (List Int) → Int → Int → Option (Int × (List Int))
  | 0, _, _, _ => none
  | n + 1, a3, v4, v5 =>
  if (decide (v5 < (a3.length : Int))) = true then
    Option.bind (rd a3 v5) fun x7 =>
    laws_markIntS_l0 n (a3.set (Int.toNat v5) v4) (w64 (v4 + 1)) (w64 (v5 + 1))
  else
    some (v4, a3)
theorem laws_markIntS_l0_m {E : Env} (hP : E.P = Try.prog) (hn : E.n = 19) (hx : ∀ p, p ∈ E.fx → p.1 ∈ ([0] : List Nat))   : ∀ (n : Nat) (a3 : (List Int)) (v4 : Int) (v5 : Int) (r : (Int × (List Int))), laws_markIntS_l0  n a3 v4 v5 = some r → WAt E body41 (FQ (RetE Θ Try.f41.results.toList [true] [⟨3, 1, (r.2.map o3)⟩] (I r.1) E)) [true, false, true, false] ⟨[(0, (AV.sl 0 0 (List.length (a3.map o3)))), (1, (I v4)), (5, (I v5))], [(0, some ⟨3, 1, (a3.map o3)⟩)], [0, JJ]⟩ := by
  have hm : E.P.follows .mixedOrders = true := by rw [hP]; exact mixed
  have hΘ : TOK E.P Θ := by rw [hP]; exact Θ_ok
  intro n
  induction n with
  | zero => intro a3 v4 v5 r h; simp only [laws_markIntS_l0] at h; cases h
  | succ n ih =>
    intro a3 v4 v5 r h
    simp only [laws_markIntS_l0] at h
    rcases itS h with ⟨c6, h⟩ | ⟨c8, h⟩
    · obtain ⟨x7, hx7, h⟩ := bnS h
      exact go_to hΘ hm hx hP hn (hs := [⟨2, .no, some (I (a3.length : Int))⟩, ⟨4, .br true, none⟩, ⟨9, .sto [(I x7)] ((a3.set (Int.toNat v5) v4).map o3), none⟩, ⟨16, .slen 0 (List.length ((a3.set (Int.toNat v5) v4).map o3)), none⟩]) (π := [(0, 0)]) (ts := [0, 1, 5]) (kp := []) (ps := [AV.lit (.int .i64 (((List.length (a3.map o3)) : Nat) : Int)) = (I (a3.length : Int)), (decide (v5 < (a3.length : Int))) = true, (0 : Int) ≤ v5, v5 < (((List.length (a3.map o3)) : Nat) : Int), (a3.map o3)[(Int.toNat v5)]? = some [(I x7)], (a3.map o3).set (Int.toNat v5) (wr [(I x7)] 0 [(I v4)]) = ((a3.set (Int.toNat v5) v4).map o3), [(I v4)].length = 1, 0 + [(I v4)].length ≤ [(I x7)].length, (List.length (a3.map o3)) = (List.length ((a3.set (Int.toNat v5) v4).map o3)), RenOK [(0, 0)] ((a3.set (Int.toNat v5) v4).map o3)]) (by kernel_rfl) ⟨(lenM o3), c6, (rd0 hx7), (rdL o3 hx7), (rdM o3 hx7), (setM o3), rfl, (Nat.le_of_ble_eq_true rfl), (by first | exact lnSet _ | exact lnSet2 _ | simp only [List.length_map, List.length_set, List.length_cons, List.length_nil]), (rok (treeM t3)), trivial⟩ (ih (a3.set (Int.toNat v5) v4) (w64 (v4 + 1)) (w64 (v5 + 1)) _ h)
    · have h := Option.some.inj h
      subst h
      exact go_ret hΘ hm hP hn (hs := [⟨2, .no, some (I (a3.length : Int))⟩, ⟨4, .br false, none⟩]) (rh := []) (ph := .raw) (ps := [AV.lit (.int .i64 (((List.length (a3.map o3)) : Nat) : Int)) = (I (a3.length : Int)), (decide (v5 < (a3.length : Int))) = false, (a3.map o3) = (a3.map o3), treeLL (a3.map o3) = true, noRoLL (a3.map o3) = true, (I v4) = (I v4), litA (I v4) = true]) (by kernel_rfl) ⟨(lenM o3), c8, rfl, (treeM t3), (noRoM n3), rfl, rfl, trivial⟩
noncomputable def laws_markIntS (p1 : (List Int)) (p2 : Int) : Option (Int × (List Int)) :=
  laws_markIntS_l0 FU p1 p2 0
theorem laws_markIntS_m {p1 : (List Int)} {p2 : Int} {r : (Int × (List Int))} (h : laws_markIntS p1 p2 = some r) : MeetsR Try.prog 41 [⟨3, 1, (p1.map o3)⟩] [(AV.sl 0 0 (List.length (p1.map o3))), (I p2)] [true] [⟨3, 1, (r.2.map o3)⟩] (I r.1) := by
  refine meetsR_of Θ_ok Try.func41 rfl (c := body41) (by kernel_rfl) (Nat.le_of_ble_eq_true rfl) rfl (Nat.le_of_ble_eq_true rfl) rfl (fr := [0]) (frI rfl) ?_
  intro E hP hn hx
  replace hn : E.n = 19 := hn
  have hm : E.P.follows .mixedOrders = true := by rw [hP]; exact mixed
  have hΘ : TOK E.P Θ := by rw [hP]; exact Θ_ok
  unfold laws_markIntS at h
  show WAt E body41 (FQ (RetE Θ Try.f41.results.toList [true] [⟨3, 1, (r.2.map o3)⟩] (I r.1) E)) [] ⟨[(0, (AV.sl 0 0 (List.length (p1.map o3)))), (1, (I p2))], [(0, some ⟨3, 1, (p1.map o3)⟩)], [0, JJ]⟩
  exact go_to hΘ hm hx hP hn (hs := []) (π := [(0, 0)]) (ts := [0, 1, 5]) (kp := []) (ps := [RenOK [(0, 0)] (p1.map o3)]) (by kernel_rfl) ⟨(rok (treeM t3)), trivial⟩ (laws_markIntS_l0_m hP hn hx FU p1 p2 0 _ h)
noncomputable def body20 : Code := match Try.f20.body with | some c => c | none => .skip
noncomputable def laws_markIntSS_l0   : Nat → (List (List Int)) → Int → Int → Option (Int × (List (List Int)))
  | 0, _, _, _ => none
  | n + 1, a3, v4, v5 =>
  if (decide (v5 < (a3.length : Int))) = true then
    Option.bind (rd a3 v5) fun x7 =>
    Option.bind (laws_markIntS x7 v4) fun r8 =>
    Option.bind (sameLen x7 r8.2) fun q9 =>
    laws_markIntSS_l0 n (a3.set (Int.toNat v5) r8.2) r8.1 (w64 (v5 + 1))
  else
    some (v4, a3)
theorem laws_markIntSS_l0_m {E : Env} (hP : E.P = Try.prog) (hn : E.n = 19) (hx : ∀ p, p ∈ E.fx → p.1 ∈ ([0] : List Nat))   : ∀ (n : Nat) (a3 : (List (List Int))) (v4 : Int) (v5 : Int) (r : (Int × (List (List Int)))), laws_markIntSS_l0  n a3 v4 v5 = some r → WAt E body20 (FQ (RetE Θ Try.f20.results.toList [true] [⟨56, 1, (r.2.map o56)⟩] (I r.1) E)) [true, false, true, false] ⟨[(0, (AV.sl 0 0 (List.length (a3.map o56)))), (1, (I v4)), (5, (I v5))], [(0, some ⟨56, 1, (a3.map o56)⟩)], [0, JJ]⟩ := by
  have hm : E.P.follows .mixedOrders = true := by rw [hP]; exact mixed
  have hΘ : TOK E.P Θ := by rw [hP]; exact Θ_ok
  intro n
  induction n with
  | zero => intro a3 v4 v5 r h; simp only [laws_markIntSS_l0] at h; cases h
  | succ n ih =>
    intro a3 v4 v5 r h
    simp only [laws_markIntSS_l0] at h
    rcases itS h with ⟨c6, h⟩ | ⟨c10, h⟩
    · obtain ⟨x7, hx7, h⟩ := bnS h
      obtain ⟨r8, hr8, h⟩ := bnS h
      obtain ⟨q9, hq9, h⟩ := bnS h
      exact go_to hΘ hm hx hP hn (hs := [⟨2, .no, some (I (a3.length : Int))⟩, ⟨4, .br true, none⟩, ⟨8, .unpack 0 1001 (Int.toNat v5) 0 [(AV.own 3 1 (x7.map o3))] 3 1 (x7.map o3) ((a3.map o56).set (Int.toNat v5) [(AV.sl 1001 0 (List.length (x7.map o3)))]), none⟩, ⟨8, .row [(AV.sl 1001 0 (List.length (x7.map o3)))], none⟩, ⟨10, .callX [1001] [true] [⟨3, 1, (x7.map o3)⟩] [⟨3, 1, (r8.2.map o3)⟩] [] (I r8.1) [] (I r8.1) [], none⟩, ⟨15, .pack 0 1001 (Int.toNat v5) 0 [(AV.sl 1001 0 (List.length (x7.map o3)))] ((a3.set (Int.toNat v5) r8.2).map o56), none⟩, ⟨15, .slen 0 (List.length ((a3.set (Int.toNat v5) r8.2).map o56)), none⟩]) (π := [(0, 0)]) (ts := [0, 1, 5]) (kp := []) (ps := [AV.lit (.int .i64 (((List.length (a3.map o56)) : Nat) : Int)) = (I (a3.length : Int)), (decide (v5 < (a3.length : Int))) = true, (0 : Int) ≤ v5, v5 < (((List.length (a3.map o56)) : Nat) : Int), (a3.map o56)[(Int.toNat v5)]? = some [(AV.own 3 1 (x7.map o3))], [(AV.own 3 1 (x7.map o3))][0]? = some (AV.own 3 1 (x7.map o3)), 0 < 1, (a3.map o56).set (Int.toNat v5) ([(AV.own 3 1 (x7.map o3))].set 0 (AV.sl 1001 0 (List.length (x7.map o3)))) = ((a3.map o56).set (Int.toNat v5) [(AV.sl 1001 0 (List.length (x7.map o3)))]), ((a3.map o56).set (Int.toNat v5) [(AV.sl 1001 0 (List.length (x7.map o3)))])[(Int.toNat v5)]? = some [(AV.sl 1001 0 (List.length (x7.map o3)))], MeetsR Try.prog 41 [⟨3, 1, (x7.map o3)⟩] [(AV.sl 0 0 (List.length (x7.map o3))), (I v4)] [true] [⟨3, 1, (r8.2.map o3)⟩] (I r8.1), (some (Root.mk 3 1 (x7.map o3)) = some (Root.mk 3 1 (x7.map o3))) ∧ True, (treeLL (x7.map o3) = true ∧ noRoLL (x7.map o3) = true) ∧ True, ((r8.2.map o3).length = (x7.map o3).length) ∧ True, (rtf (renA [(0, 1001)] (I r8.1)) []).1 = (I r8.1), (rtf (renA [(0, 1001)] (I r8.1)) []).2.1 = [], ((a3.map o56).set (Int.toNat v5) [(AV.sl 1001 0 (List.length (x7.map o3)))])[(Int.toNat v5)]? = some [(AV.sl 1001 0 (List.length (x7.map o3)))], [(AV.sl 1001 0 (List.length (x7.map o3)))][0]? = some (AV.sl 1001 0 (List.length (r8.2.map o3))), treeLL (r8.2.map o3) = true, ((a3.map o56).set (Int.toNat v5) [(AV.sl 1001 0 (List.length (x7.map o3)))]).set (Int.toNat v5) ([(AV.sl 1001 0 (List.length (x7.map o3)))].set 0 (AV.own 3 1 (r8.2.map o3))) = ((a3.set (Int.toNat v5) r8.2).map o56), (List.length (a3.map o56)) = (List.length ((a3.set (Int.toNat v5) r8.2).map o56)), RenOK [(0, 0)] ((a3.set (Int.toNat v5) r8.2).map o56)]) (by kernel_rfl) ⟨(lenM o56), c6, (rd0 hx7), (rdL o56 hx7), (rdM o56 hx7), rfl, (by decide), rfl, (setE (rdM o56 hx7)), (laws_markIntS_m hr8), ⟨rfl, trivial⟩, ⟨⟨treeM t3, noRoM n3⟩, trivial⟩, ⟨(sameLenE o3 hq9), trivial⟩, rfl, rfl, (setE (rdM o56 hx7)), (pkS (sameLenE o3 hq9).symm), (treeM t3), (setP o56), (by first | exact lnSet _ | exact lnSet2 _ | simp only [List.length_map, List.length_set, List.length_cons, List.length_nil]), (rok (treeM t56)), trivial⟩ (ih (a3.set (Int.toNat v5) r8.2) r8.1 (w64 (v5 + 1)) _ h)
    · have h := Option.some.inj h
      subst h
      exact go_ret hΘ hm hP hn (hs := [⟨2, .no, some (I (a3.length : Int))⟩, ⟨4, .br false, none⟩]) (rh := []) (ph := .raw) (ps := [AV.lit (.int .i64 (((List.length (a3.map o56)) : Nat) : Int)) = (I (a3.length : Int)), (decide (v5 < (a3.length : Int))) = false, (a3.map o56) = (a3.map o56), treeLL (a3.map o56) = true, noRoLL (a3.map o56) = true, (I v4) = (I v4), litA (I v4) = true]) (by kernel_rfl) ⟨(lenM o56), c10, rfl, (treeM t56), (noRoM n56), rfl, rfl, trivial⟩
noncomputable def laws_markIntSS (p1 : (List (List Int))) (p2 : Int) : Option (Int × (List (List Int))) :=
  laws_markIntSS_l0 FU p1 p2 0
theorem laws_markIntSS_m {p1 : (List (List Int))} {p2 : Int} {r : (Int × (List (List Int)))} (h : laws_markIntSS p1 p2 = some r) : MeetsR Try.prog 20 [⟨56, 1, (p1.map o56)⟩] [(AV.sl 0 0 (List.length (p1.map o56))), (I p2)] [true] [⟨56, 1, (r.2.map o56)⟩] (I r.1) := by
  refine meetsR_of Θ_ok Try.func20 rfl (c := body20) (by kernel_rfl) (Nat.le_of_ble_eq_true rfl) rfl (Nat.le_of_ble_eq_true rfl) rfl (fr := [0]) (frI rfl) ?_
  intro E hP hn hx
  replace hn : E.n = 19 := hn
  have hm : E.P.follows .mixedOrders = true := by rw [hP]; exact mixed
  have hΘ : TOK E.P Θ := by rw [hP]; exact Θ_ok
  unfold laws_markIntSS at h
  show WAt E body20 (FQ (RetE Θ Try.f20.results.toList [true] [⟨56, 1, (r.2.map o56)⟩] (I r.1) E)) [] ⟨[(0, (AV.sl 0 0 (List.length (p1.map o56)))), (1, (I p2))], [(0, some ⟨56, 1, (p1.map o56)⟩)], [0, JJ]⟩
  exact go_to hΘ hm hx hP hn (hs := []) (π := [(0, 0)]) (ts := [0, 1, 5]) (kp := []) (ps := [RenOK [(0, 0)] (p1.map o56)]) (by kernel_rfl) ⟨(rok (treeM t56)), trivial⟩ (laws_markIntSS_l0_m hP hn hx FU p1 p2 0 _ h)
noncomputable def body8 : Code := match Try.f8.body with | some c => c | none => .skip
noncomputable def laws_szEventS (p1 : (List GEvent)) (p2 : Int) : Option Int :=
  if (decide ((w64 (p2 - (p1.length : Int))) < 0)) = true then
    some (-1)
  else
    some (w64 (p2 - (p1.length : Int)))
theorem laws_szEventS_m {p1 : (List GEvent)} {p2 : Int} {r : Int} (h : laws_szEventS p1 p2 = some r) : Meets Try.prog 8 [(AV.ro 5 (p1.map o49)), (I p2)] (I r) := by
  refine meets_ofC Θ_ok Try.func8 rfl (c := body8) (by kernel_rfl) (Nat.le_of_ble_eq_true rfl) ?_
  intro E hP hn hx
  replace hn : E.n = 12 := hn
  have hm : E.P.follows .mixedOrders = true := by rw [hP]; exact mixed
  have hΘ : TOK E.P Θ := by rw [hP]; exact Θ_ok
  unfold laws_szEventS at h
  show WAt E body8 (FQ (RetE Θ Try.f8.results.toList [] [] (I r) E)) [] ⟨[(0, (AV.ro 5 (p1.map o49))), (1, (I p2))], [], [JJ]⟩
  rcases itS h with ⟨c3, h⟩ | ⟨c4, h⟩
  · have h := Option.some.inj h
    subst h
    exact go_ret hΘ hm hP hn (hs := [⟨3, .no, some (I (p1.length : Int))⟩, ⟨8, .br true, none⟩]) (rh := []) (ph := .raw) (ps := [AV.lit (.int .i64 (((p1.map o49).length : Nat) : Int)) = (I (p1.length : Int)), (decide ((w64 (p2 - (p1.length : Int))) < 0)) = true, (I (-1)) = (I (-1)), litA (I (-1)) = true]) (by kernel_rfl) ⟨(lenM o49), c3, rfl, rfl, trivial⟩
  · have h := Option.some.inj h
    subst h
    exact go_ret hΘ hm hP hn (hs := [⟨3, .no, some (I (p1.length : Int))⟩, ⟨8, .br false, none⟩]) (rh := []) (ph := .raw) (ps := [AV.lit (.int .i64 (((p1.map o49).length : Nat) : Int)) = (I (p1.length : Int)), (decide ((w64 (p2 - (p1.length : Int))) < 0)) = false, (I (w64 (p2 - (p1.length : Int)))) = (I (w64 (p2 - (p1.length : Int)))), litA (I (w64 (p2 - (p1.length : Int)))) = true]) (by kernel_rfl) ⟨(lenM o49), c4, rfl, rfl, trivial⟩
noncomputable def body33 : Code := match Try.f33.body with | some c => c | none => .skip
noncomputable def laws_toEvent (p1 : GEvent) : Option GEvent :=
  some (GEvent.mk p1.Thread p1.Kind p1.Obj p1.Lock p1.Pc)
theorem laws_toEvent_m {p1 : GEvent} {r : GEvent} (h : laws_toEvent p1 = some r) : Meets Try.prog 33 [(AV.agg ((o49 p1)))] (AV.agg (o47 r)) := by
  refine meets_ofC Θ_ok Try.func33 rfl (c := body33) (by kernel_rfl) (Nat.le_of_ble_eq_true rfl) ?_
  intro E hP hn hx
  replace hn : E.n = 20 := hn
  have hm : E.P.follows .mixedOrders = true := by rw [hP]; exact mixed
  have hΘ : TOK E.P Θ := by rw [hP]; exact Θ_ok
  unfold laws_toEvent at h
  show WAt E body33 (FQ (RetE Θ Try.f33.results.toList [] [] (AV.agg (o47 r)) E)) [] ⟨[(0, (AV.agg ((o49 p1))))], [], [JJ]⟩
  have h := Option.some.inj h
  subst h
  exact go_ret hΘ hm hP hn (hs := [⟨0, .new 1001, none⟩, ⟨1, .new 1002, none⟩, ⟨2, .new 1003, none⟩]) (rh := []) (ph := .raw) (ps := [(AV.agg [(I p1.Thread), (I p1.Kind), (I p1.Obj), (I p1.Lock), (I p1.Pc)]) = (AV.agg [(I p1.Thread), (I p1.Kind), (I p1.Obj), (I p1.Lock), (I p1.Pc)]), litA (AV.agg [(I p1.Thread), (I p1.Kind), (I p1.Obj), (I p1.Lock), (I p1.Pc)]) = true]) (by kernel_rfl) ⟨rfl, rfl, trivial⟩
noncomputable def body10 : Code := match Try.f10.body with | some c => c | none => .skip
noncomputable def laws_toEventS_l0  (p1 : (List GEvent)) : Nat → (List GEvent) → Int → Option (List GEvent)
  | 0, _, _ => none
  | n + 1, a3, v4 =>
  if (decide (v4 < (p1.length : Int))) = true then
    Option.bind (rd p1 v4) fun x6 =>
    Option.bind (laws_toEvent x6) fun r7 =>
    Option.bind (rd a3 v4) fun x8 =>
    laws_toEventS_l0 p1 n (a3.set (Int.toNat v4) r7) (w64 (v4 + 1))
  else
    some a3
theorem laws_toEventS_l0_m {E : Env} (hP : E.P = Try.prog) (hn : E.n = 23) (hx : ∀ p, p ∈ E.fx → p.1 ∈ ([] : List Nat)) (p1 : (List GEvent))  : ∀ (n : Nat) (a3 : (List GEvent)) (v4 : Int) (r : (List GEvent)), laws_toEventS_l0 p1 n a3 v4 = some r → WAt E body10 (FQ (RetE Θ Try.f10.results.toList [] [] (AV.own 47 5 (r.map o47)) E)) [true, true, false, true, false] ⟨[(0, (AV.ro 5 (p1.map o49))), (3, (AV.sl 1 0 (List.length (a3.map o47)))), (4, (I v4))], [(1, some ⟨47, 5, (a3.map o47)⟩)], [1, JJ]⟩ := by
  have hm : E.P.follows .mixedOrders = true := by rw [hP]; exact mixed
  have hΘ : TOK E.P Θ := by rw [hP]; exact Θ_ok
  intro n
  induction n with
  | zero => intro a3 v4 r h; simp only [laws_toEventS_l0] at h; cases h
  | succ n ih =>
    intro a3 v4 r h
    simp only [laws_toEventS_l0] at h
    rcases itS h with ⟨c5, h⟩ | ⟨c9, h⟩
    · obtain ⟨x6, hx6, h⟩ := bnS h
      obtain ⟨r7, hr7, h⟩ := bnS h
      obtain ⟨x8, hx8, h⟩ := bnS h
      exact go_to hΘ hm hx hP hn (hs := [⟨2, .no, some (I (p1.length : Int))⟩, ⟨4, .br true, none⟩, ⟨9, .row (o49 x6), none⟩, ⟨11, .callV [[]] (AV.agg (o47 r7)), none⟩, ⟨13, .sto ((o47 x8)) ((a3.set (Int.toNat v4) r7).map o47), none⟩, ⟨17, .slen 3 (List.length ((a3.set (Int.toNat v4) r7).map o47)), none⟩]) (π := [(1, 1)]) (ts := [0, 3, 4]) (kp := []) (ps := [AV.lit (.int .i64 (((p1.map o49).length : Nat) : Int)) = (I (p1.length : Int)), (decide (v4 < (p1.length : Int))) = true, (0 : Int) ≤ v4, (p1.map o49)[(Int.toNat v4)]? = some (o49 x6), Meets Try.prog 33 [(AV.agg ((o49 x6)))] (AV.agg (o47 r7)), litA (AV.agg (o47 r7)) = true, (0 : Int) ≤ v4, v4 < (((List.length (a3.map o47)) : Nat) : Int), (a3.map o47)[(Int.toNat v4)]? = some ((o47 x8)), (a3.map o47).set (Int.toNat v4) (wr ((o47 x8)) 0 ((o47 r7))) = ((a3.set (Int.toNat v4) r7).map o47), ((o47 r7)).length = 5, 0 + ((o47 r7)).length ≤ ((o47 x8)).length, (List.length (a3.map o47)) = (List.length ((a3.set (Int.toNat v4) r7).map o47)), RenOK [(1, 1)] ((a3.set (Int.toNat v4) r7).map o47)]) (by kernel_rfl) ⟨(lenM o49), c5, (rd0 hx6), (rdM o49 hx6), (laws_toEvent_m hr7), rfl, (rd0 hx8), (rdL o47 hx8), (rdM o47 hx8), (setMr o47 (by kernel_rfl)), rfl, (Nat.le_of_ble_eq_true rfl), (by first | exact lnSet _ | exact lnSet2 _ | simp only [List.length_map, List.length_set, List.length_cons, List.length_nil]), (rok (treeM t47)), trivial⟩ (ih (a3.set (Int.toNat v4) r7) (w64 (v4 + 1)) _ h)
    · have h := Option.some.inj h
      subst h
      exact go_ret hΘ hm hP hn (hs := [⟨2, .no, some (I (p1.length : Int))⟩, ⟨4, .br false, none⟩]) (rh := []) (ph := .own) (ps := [AV.lit (.int .i64 (((p1.map o49).length : Nat) : Int)) = (I (p1.length : Int)), (decide (v4 < (p1.length : Int))) = false, treeLL ((a3.map o47).take (List.length (a3.map o47))) = true, (a3.map o47).take (List.length (a3.map o47)) = (a3.map o47), noRoLL (a3.map o47) = true]) (by kernel_rfl) ⟨(lenM o49), c9, (treeT t47), takeM, (noRoM n47), trivial⟩
noncomputable def laws_toEventS (p1 : (List GEvent)) : Option (List GEvent) :=
  Option.bind (mk (GEvent.mk 0 0 0 0 0) (p1.length : Int)) fun l2 =>
  laws_toEventS_l0 p1 FU l2 0
theorem laws_toEventS_m {p1 : (List GEvent)} {r : (List GEvent)} (h : laws_toEventS p1 = some r) : Meets Try.prog 10 [(AV.ro 5 (p1.map o49))] (AV.own 47 5 (r.map o47)) := by
  refine meets_ofC Θ_ok Try.func10 rfl (c := body10) (by kernel_rfl) (Nat.le_of_ble_eq_true rfl) ?_
  intro E hP hn hx
  replace hn : E.n = 23 := hn
  have hm : E.P.follows .mixedOrders = true := by rw [hP]; exact mixed
  have hΘ : TOK E.P Θ := by rw [hP]; exact Θ_ok
  unfold laws_toEventS at h
  show WAt E body10 (FQ (RetE Θ Try.f10.results.toList [] [] (AV.own 47 5 (r.map o47)) E)) [] ⟨[(0, (AV.ro 5 (p1.map o49)))], [], [JJ]⟩
  obtain ⟨l2, hl2, h⟩ := bnS h
  exact go_to hΘ hm hx hP hn (hs := [⟨2, .no, some (I (p1.length : Int))⟩, ⟨3, .nw 1001 (l2.map o47), some (AV.sl 1001 0 (List.length (l2.map o47)))⟩]) (π := [(1001, 1)]) (ts := [0, 3, 4]) (kp := []) (ps := [AV.lit (.int .i64 (((p1.map o49).length : Nat) : Int)) = (I (p1.length : Int)), List.replicate (Int.toNat (p1.length : Int)) [.lit (.int .i64 0), .lit (.int .i64 0), .lit (.int .i64 0), .lit (.int .i64 0), .lit (.int .i64 0)] = (l2.map o47), AV.sl 1001 0 (Int.toNat (p1.length : Int)) = (AV.sl 1001 0 (List.length (l2.map o47))), (p1.length : Int) = (p1.length : Int), (0 : Int) ≤ (p1.length : Int), (p1.length : Int) * ((40 : Nat) : Int) ≤ 140737488355328, (p1.length : Int) ≤ 140737488355328, RenOK [(1001, 1)] (l2.map o47)]) (by kernel_rfl) ⟨(lenM o49), (mkM o47 hl2), (mkS o47 hl2), rfl, (mk0 hl2), (mkB hl2 (by decide)), (mkC hl2), (rok (treeM t47)), trivial⟩ (laws_toEventS_l0_m hP hn hx p1 FU l2 0 _ h)
noncomputable def body44 : Code := match Try.f44.body with | some c => c | none => .skip
noncomputable def spec_l1Most (p1 : Int) (p2 : Int) : Option Int :=
  if (decide (p1 > p2)) = true then
    some p1
  else
    some p2
theorem spec_l1Most_m {p1 : Int} {p2 : Int} {r : Int} (h : spec_l1Most p1 p2 = some r) : Meets Try.prog 44 [(I p1), (I p2)] (I r) := by
  refine meets_ofC Θ_ok Try.func44 rfl (c := body44) (by kernel_rfl) (Nat.le_of_ble_eq_true rfl) ?_
  intro E hP hn hx
  replace hn : E.n = 10 := hn
  have hm : E.P.follows .mixedOrders = true := by rw [hP]; exact mixed
  have hΘ : TOK E.P Θ := by rw [hP]; exact Θ_ok
  unfold spec_l1Most at h
  show WAt E body44 (FQ (RetE Θ Try.f44.results.toList [] [] (I r) E)) [] ⟨[(0, (I p1)), (1, (I p2))], [], [JJ]⟩
  rcases itS h with ⟨c3, h⟩ | ⟨c4, h⟩
  · have h := Option.some.inj h
    subst h
    exact go_ret hΘ hm hP hn (hs := [⟨4, .br true, none⟩]) (rh := []) (ph := .raw) (ps := [(decide (p1 > p2)) = true, (I p1) = (I p1), litA (I p1) = true]) (by kernel_rfl) ⟨c3, rfl, rfl, trivial⟩
  · have h := Option.some.inj h
    subst h
    exact go_ret hΘ hm hP hn (hs := [⟨4, .br false, none⟩]) (rh := []) (ph := .raw) (ps := [(decide (p1 > p2)) = false, (I p2) = (I p2), litA (I p2) = true]) (by kernel_rfl) ⟨c4, rfl, rfl, trivial⟩
noncomputable def body68 : Code := match Try.f68.body with | some c => c | none => .skip
noncomputable def spec_l6Gives (p1 : GEvent) : Option Int :=
  if (p1.Kind == 5) = true then
    some p1.Obj
  else
    if (p1.Kind == 8) = true then
      some p1.Lock
    else
      some (-2)
theorem spec_l6Gives_m {p1 : GEvent} {r : Int} (h : spec_l6Gives p1 = some r) : Meets Try.prog 68 [(AV.agg ((o47 p1)))] (I r) := by
  refine meets_ofC Θ_ok Try.func68 rfl (c := body68) (by kernel_rfl) (Nat.le_of_ble_eq_true rfl) ?_
  intro E hP hn hx
  replace hn : E.n = 13 := hn
  have hm : E.P.follows .mixedOrders = true := by rw [hP]; exact mixed
  have hΘ : TOK E.P Θ := by rw [hP]; exact Θ_ok
  unfold spec_l6Gives at h
  show WAt E body68 (FQ (RetE Θ Try.f68.results.toList [] [] (I r) E)) [] ⟨[(0, (AV.agg ((o47 p1))))], [], [JJ]⟩
  rcases itS h with ⟨c2, h⟩ | ⟨c3, h⟩
  · have h := Option.some.inj h
    subst h
    exact go_ret hΘ hm hP hn (hs := [⟨0, .new 1001, none⟩, ⟨6, .br true, none⟩]) (rh := []) (ph := .raw) (ps := [(p1.Kind == 5) = true, (I p1.Obj) = (I p1.Obj), litA (I p1.Obj) = true]) (by kernel_rfl) ⟨c2, rfl, rfl, trivial⟩
  · rcases itS h with ⟨c4, h⟩ | ⟨c5, h⟩
    · have h := Option.some.inj h
      subst h
      exact go_ret hΘ hm hP hn (hs := [⟨0, .new 1001, none⟩, ⟨6, .br false, none⟩, ⟨9, .br true, none⟩]) (rh := []) (ph := .raw) (ps := [(p1.Kind == 5) = false, (p1.Kind == 8) = true, (I p1.Lock) = (I p1.Lock), litA (I p1.Lock) = true]) (by kernel_rfl) ⟨c3, c4, rfl, rfl, trivial⟩
    · have h := Option.some.inj h
      subst h
      exact go_ret hΘ hm hP hn (hs := [⟨0, .new 1001, none⟩, ⟨6, .br false, none⟩, ⟨9, .br false, none⟩]) (rh := []) (ph := .raw) (ps := [(p1.Kind == 5) = false, (p1.Kind == 8) = false, (I (-2)) = (I (-2)), litA (I (-2)) = true]) (by kernel_rfl) ⟨c3, c5, rfl, rfl, trivial⟩
noncomputable def body65 : Code := match Try.f65.body with | some c => c | none => .skip
noncomputable def spec_l6Takes (p1 : GEvent) : Option Int :=
  if (p1.Kind == 4) = true then
    some p1.Obj
  else
    if (p1.Kind == 9) = true then
      some p1.Lock
    else
      some (-3)
theorem spec_l6Takes_m {p1 : GEvent} {r : Int} (h : spec_l6Takes p1 = some r) : Meets Try.prog 65 [(AV.agg ((o47 p1)))] (I r) := by
  refine meets_ofC Θ_ok Try.func65 rfl (c := body65) (by kernel_rfl) (Nat.le_of_ble_eq_true rfl) ?_
  intro E hP hn hx
  replace hn : E.n = 13 := hn
  have hm : E.P.follows .mixedOrders = true := by rw [hP]; exact mixed
  have hΘ : TOK E.P Θ := by rw [hP]; exact Θ_ok
  unfold spec_l6Takes at h
  show WAt E body65 (FQ (RetE Θ Try.f65.results.toList [] [] (I r) E)) [] ⟨[(0, (AV.agg ((o47 p1))))], [], [JJ]⟩
  rcases itS h with ⟨c2, h⟩ | ⟨c3, h⟩
  · have h := Option.some.inj h
    subst h
    exact go_ret hΘ hm hP hn (hs := [⟨0, .new 1001, none⟩, ⟨6, .br true, none⟩]) (rh := []) (ph := .raw) (ps := [(p1.Kind == 4) = true, (I p1.Obj) = (I p1.Obj), litA (I p1.Obj) = true]) (by kernel_rfl) ⟨c2, rfl, rfl, trivial⟩
  · rcases itS h with ⟨c4, h⟩ | ⟨c5, h⟩
    · have h := Option.some.inj h
      subst h
      exact go_ret hΘ hm hP hn (hs := [⟨0, .new 1001, none⟩, ⟨6, .br false, none⟩, ⟨9, .br true, none⟩]) (rh := []) (ph := .raw) (ps := [(p1.Kind == 4) = false, (p1.Kind == 9) = true, (I p1.Lock) = (I p1.Lock), litA (I p1.Lock) = true]) (by kernel_rfl) ⟨c3, c4, rfl, rfl, trivial⟩
    · have h := Option.some.inj h
      subst h
      exact go_ret hΘ hm hP hn (hs := [⟨0, .new 1001, none⟩, ⟨6, .br false, none⟩, ⟨9, .br false, none⟩]) (rh := []) (ph := .raw) (ps := [(p1.Kind == 4) = false, (p1.Kind == 9) = false, (I (-3)) = (I (-3)), litA (I (-3)) = true]) (by kernel_rfl) ⟨c3, c5, rfl, rfl, trivial⟩
noncomputable def body61 : Code := match Try.f61.body with | some c => c | none => .skip
noncomputable def spec_l6Right_j0  (p1 : GEvent) (p2 : GEvent) (v4 : Bool) : Option Bool :=
  if v4 = true then
    some true
  else
    if (p1.Kind == 6) = true then
      some (p1.Obj == p2.Thread)
    else
      if (p1.Kind == 11) = true then
        if (p2.Kind == 7) = true then
          some (p2.Obj == p1.Thread)
        else
          some false
      else
        if (p1.Kind == 10) = true then
          if (p2.Kind == 9) = true then
            some (p1.Lock == p2.Thread)
          else
            some false
        else
          some false
theorem spec_l6Right_j0_m {E : Env} (hP : E.P = Try.prog) (hn : E.n = 53) (hx : ∀ p, p ∈ E.fx → p.1 ∈ ([] : List Nat)) (p1 : GEvent) (p2 : GEvent)  (v4 : Bool) (r : Bool) (h : spec_l6Right_j0 p1 p2 v4 = some r) : WAt E body61 (FQ (RetE Θ Try.f61.results.toList [] [] (B r) E)) [true, false, false, true] ⟨[(2, (AV.ptr 1 0 0)), (3, (AV.ptr 2 0 0)), (5, (B v4))], [(1, some ⟨47, 5, [((o47 p1))]⟩), (2, some ⟨47, 5, [((o47 p2))]⟩)], [1, 2, JJ]⟩ := by
  have hm : E.P.follows .mixedOrders = true := by rw [hP]; exact mixed
  have hΘ : TOK E.P Θ := by rw [hP]; exact Θ_ok
  unfold spec_l6Right_j0 at h
  rcases itS h with ⟨c5, h⟩ | ⟨c6, h⟩
  · have h := Option.some.inj h
    subst h
    exact go_ret hΘ hm hP hn (hs := [⟨0, .br true, none⟩]) (rh := []) (ph := .raw) (ps := [v4 = true, (B true) = (B true), litA (B true) = true]) (by kernel_rfl) ⟨c5, rfl, rfl, trivial⟩
  · rcases itS h with ⟨c7, h⟩ | ⟨c8, h⟩
    · have h := Option.some.inj h
      subst h
      exact go_ret hΘ hm hP hn (hs := [⟨0, .br false, none⟩, ⟨5, .br true, none⟩]) (rh := []) (ph := .raw) (ps := [v4 = false, (p1.Kind == 6) = true, (B (p1.Obj == p2.Thread)) = (B (p1.Obj == p2.Thread)), litA (B (p1.Obj == p2.Thread)) = true]) (by kernel_rfl) ⟨c6, c7, rfl, rfl, trivial⟩
    · rcases itS h with ⟨c9, h⟩ | ⟨c12, h⟩
      · rcases itS h with ⟨c10, h⟩ | ⟨c11, h⟩
        · have h := Option.some.inj h
          subst h
          exact go_ret hΘ hm hP hn (hs := [⟨0, .br false, none⟩, ⟨5, .br false, none⟩, ⟨10, .br true, none⟩, ⟨14, .no, some (B true)⟩]) (rh := []) (ph := .raw) (ps := [v4 = false, (p1.Kind == 6) = false, (p1.Kind == 11) = true, (B (p2.Kind == 7)) = (B true), (B (p2.Obj == p1.Thread)) = (B (p2.Obj == p1.Thread)), litA (B (p2.Obj == p1.Thread)) = true]) (by kernel_rfl) ⟨c6, c8, c9, (litB c10), rfl, rfl, trivial⟩
        · have h := Option.some.inj h
          subst h
          exact go_ret hΘ hm hP hn (hs := [⟨0, .br false, none⟩, ⟨5, .br false, none⟩, ⟨10, .br true, none⟩, ⟨14, .no, some (B false)⟩]) (rh := []) (ph := .raw) (ps := [v4 = false, (p1.Kind == 6) = false, (p1.Kind == 11) = true, (B (p2.Kind == 7)) = (B false), (B false) = (B false), litA (B false) = true]) (by kernel_rfl) ⟨c6, c8, c9, (litB c11), rfl, rfl, trivial⟩
      · rcases itS h with ⟨c13, h⟩ | ⟨c16, h⟩
        · rcases itS h with ⟨c14, h⟩ | ⟨c15, h⟩
          · have h := Option.some.inj h
            subst h
            exact go_ret hΘ hm hP hn (hs := [⟨0, .br false, none⟩, ⟨5, .br false, none⟩, ⟨10, .br false, none⟩, ⟨15, .br true, none⟩, ⟨19, .no, some (B true)⟩]) (rh := []) (ph := .raw) (ps := [v4 = false, (p1.Kind == 6) = false, (p1.Kind == 11) = false, (p1.Kind == 10) = true, (B (p2.Kind == 9)) = (B true), (B (p1.Lock == p2.Thread)) = (B (p1.Lock == p2.Thread)), litA (B (p1.Lock == p2.Thread)) = true]) (by kernel_rfl) ⟨c6, c8, c12, c13, (litB c14), rfl, rfl, trivial⟩
          · have h := Option.some.inj h
            subst h
            exact go_ret hΘ hm hP hn (hs := [⟨0, .br false, none⟩, ⟨5, .br false, none⟩, ⟨10, .br false, none⟩, ⟨15, .br true, none⟩, ⟨19, .no, some (B false)⟩]) (rh := []) (ph := .raw) (ps := [v4 = false, (p1.Kind == 6) = false, (p1.Kind == 11) = false, (p1.Kind == 10) = true, (B (p2.Kind == 9)) = (B false), (B false) = (B false), litA (B false) = true]) (by kernel_rfl) ⟨c6, c8, c12, c13, (litB c15), rfl, rfl, trivial⟩
        · have h := Option.some.inj h
          subst h
          exact go_ret hΘ hm hP hn (hs := [⟨0, .br false, none⟩, ⟨5, .br false, none⟩, ⟨10, .br false, none⟩, ⟨15, .br false, none⟩]) (rh := []) (ph := .raw) (ps := [v4 = false, (p1.Kind == 6) = false, (p1.Kind == 11) = false, (p1.Kind == 10) = false, (B false) = (B false), litA (B false) = true]) (by kernel_rfl) ⟨c6, c8, c12, c16, rfl, rfl, trivial⟩
noncomputable def spec_l6Right (p1 : GEvent) (p2 : GEvent) : Option Bool :=
  if (p1.Thread == p2.Thread) = true then
    spec_l6Right_j0 p1 p2 (p1.Thread == p2.Thread)
  else
    Option.bind (spec_l6Gives p1) fun r18 =>
    Option.bind (spec_l6Takes p2) fun r19 =>
    spec_l6Right_j0 p1 p2 (r18 == r19)
theorem spec_l6Right_m {p1 : GEvent} {p2 : GEvent} {r : Bool} (h : spec_l6Right p1 p2 = some r) : Meets Try.prog 61 [(AV.agg ((o47 p1))), (AV.agg ((o47 p2)))] (B r) := by
  refine meets_ofC Θ_ok Try.func61 rfl (c := body61) (by kernel_rfl) (Nat.le_of_ble_eq_true rfl) ?_
  intro E hP hn hx
  replace hn : E.n = 53 := hn
  have hm : E.P.follows .mixedOrders = true := by rw [hP]; exact mixed
  have hΘ : TOK E.P Θ := by rw [hP]; exact Θ_ok
  unfold spec_l6Right at h
  show WAt E body61 (FQ (RetE Θ Try.f61.results.toList [] [] (B r) E)) [] ⟨[(0, (AV.agg ((o47 p1)))), (1, (AV.agg ((o47 p2))))], [], [JJ]⟩
  rcases itS h with ⟨c3, h⟩ | ⟨c17, h⟩
  · exact go_to hΘ hm hx hP hn (hs := [⟨0, .new 1001, none⟩, ⟨1, .new 1002, none⟩, ⟨9, .br true, none⟩]) (π := [(1001, 1), (1002, 2)]) (ts := [2, 3, 5]) (kp := []) (ps := [(p1.Thread == p2.Thread) = true, RenOK [(1001, 1), (1002, 2)] [((o47 p1))], RenOK [(1001, 1), (1002, 2)] [((o47 p2))]]) (by kernel_rfl) ⟨c3, (rok rfl), (rok rfl), trivial⟩ (spec_l6Right_j0_m hP hn hx p1 p2 (p1.Thread == p2.Thread) _ h)
  · obtain ⟨r18, hr18, h⟩ := bnS h
    obtain ⟨r19, hr19, h⟩ := bnS h
    exact go_to hΘ hm hx hP hn (hs := [⟨0, .new 1001, none⟩, ⟨1, .new 1002, none⟩, ⟨9, .br false, none⟩, ⟨11, .callV [[]] (I r18), none⟩, ⟨13, .callV [[]] (I r19), none⟩]) (π := [(1001, 1), (1002, 2)]) (ts := [2, 3, 5]) (kp := []) (ps := [(p1.Thread == p2.Thread) = false, Meets Try.prog 68 [(AV.agg ((o47 p1)))] (I r18), litA (I r18) = true, Meets Try.prog 65 [(AV.agg ((o47 p2)))] (I r19), litA (I r19) = true, RenOK [(1001, 1), (1002, 2)] [((o47 p1))], RenOK [(1001, 1), (1002, 2)] [((o47 p2))]]) (by kernel_rfl) ⟨c17, (spec_l6Gives_m hr18), rfl, (spec_l6Takes_m hr19), rfl, (rok rfl), (rok rfl), trivial⟩ (spec_l6Right_j0_m hP hn hx p1 p2 (r18 == r19) _ h)
noncomputable def body43 : Code := match Try.f43.body with | some c => c | none => .skip
noncomputable def spec_l6Ahead_l2 (K0 : (List (List Bool)) → Int → Option (List (List Bool))) (K1 : (List (List Bool)) → Int → Option (List (List Bool))) (p1 : (List GEvent)) (v4 : Int) (v9 : Int) (x18 : (List Bool)) : Nat → (List (List Bool)) → (List Bool) → Int → Option (List (List Bool))
  | 0, _, _, _ => none
  | n + 1, a19, a20, v21 =>
  if (decide (v21 < (x18.length : Int))) = true then
    Option.bind (rd a20 v21) fun x23 =>
    Option.bind (rd a19 v4) fun x24 =>
    Option.bind (rd a19 v9) fun x25 =>
    Option.bind (neI v9 v4) fun q26 =>
    Option.bind (rd x24 v21) fun x27 =>
    if x27 = true then
      spec_l6Ahead_l2 K0 K1 p1 v4 v9 x18 n (a19.set (Int.toNat v4) (x24.set (Int.toNat v21) true)) a20 (w64 (v21 + 1))
    else
      spec_l6Ahead_l2 K0 K1 p1 v4 v9 x18 n (a19.set (Int.toNat v4) (x24.set (Int.toNat v21) x23)) a20 (w64 (v21 + 1))
  else
    Option.bind (rd a19 v9) fun x31 =>
    K1 (a19.set (Int.toNat v9) a20) (w64 (v9 + 1))
theorem spec_l6Ahead_l2_m {E : Env} (hP : E.P = Try.prog) (hn : E.n = 72) (hx : ∀ p, p ∈ E.fx → p.1 ∈ ([] : List Nat)) (p1 : (List GEvent)) (v4 : Int) (v9 : Int) (x18 : (List Bool)) {K0 : (List (List Bool)) → Int → Option (List (List Bool))} (hK0 : ∀ (a3 : (List (List Bool))) (v4 : Int) (r : (List (List Bool))), K0 a3 v4 = some r → WAt E body43 (FQ (RetE Θ Try.f43.results.toList [] [] (AV.own 60 1 (r.map o60)) E)) [true, true, false, true, false] ⟨[(0, (AV.ro 5 (p1.map o47))), (3, (AV.sl 1 0 (List.length (a3.map o60)))), (12, (I (p1.length : Int))), (13, (I v4))], [(1, some ⟨60, 1, (a3.map o60)⟩)], [1, JJ]⟩) {K1 : (List (List Bool)) → Int → Option (List (List Bool))} (hK1 : ∀ (a8 : (List (List Bool))) (v9 : Int) (r : (List (List Bool))), K1 a8 v9 = some r → WAt E body43 (FQ (RetE Θ Try.f43.results.toList [] [] (AV.own 60 1 (r.map o60)) E)) [true, true, false, true, false, false, true, true, false, false, true, true, true, false] ⟨[(0, (AV.ro 5 (p1.map o47))), (3, (AV.sl 1 0 (List.length (a8.map o60)))), (4, (I v4)), (5, (I v9)), (12, (I (p1.length : Int))), (13, (I v4))], [(1, some ⟨60, 1, (a8.map o60)⟩)], [1, JJ]⟩) : ∀ (n : Nat) (a19 : (List (List Bool))) (a20 : (List Bool)) (v21 : Int) (r : (List (List Bool))), spec_l6Ahead_l2 K0 K1 p1 v4 v9 x18 n a19 a20 v21 = some r → WAt E body43 (FQ (RetE Θ Try.f43.results.toList [] [] (AV.own 60 1 (r.map o60)) E)) [true, true, false, true, false, false, true, true, false, false, true, true, true, false, false, true, false, false, true, true, true, false] ⟨[(0, (AV.ro 5 (p1.map o47))), (3, (AV.sl 1 0 (List.length ((a19.map o60).set (Int.toNat v9) [(AV.sl 1002 0 (List.length (a20.map o4)))])))), (4, (I v4)), (5, (I v9)), (12, (I (p1.length : Int))), (13, (I v4)), (46, (AV.sl 1002 0 (List.length (a20.map o4)))), (47, (I (x18.length : Int))), (48, (I v21))], [(1, some ⟨60, 1, ((a19.map o60).set (Int.toNat v9) [(AV.sl 1002 0 (List.length (a20.map o4)))])⟩), (1002, some ⟨4, 1, (a20.map o4)⟩)], [1, 1002, JJ]⟩ := by
  have hm : E.P.follows .mixedOrders = true := by rw [hP]; exact mixed
  have hΘ : TOK E.P Θ := by rw [hP]; exact Θ_ok
  intro n
  induction n with
  | zero => intro a19 a20 v21 r h; simp only [spec_l6Ahead_l2] at h; cases h
  | succ n ih =>
    intro a19 a20 v21 r h
    simp only [spec_l6Ahead_l2] at h
    rcases itS h with ⟨c22, h⟩ | ⟨c30, h⟩
    · obtain ⟨x23, hx23, h⟩ := bnS h
      obtain ⟨x24, hx24, h⟩ := bnS h
      obtain ⟨x25, hx25, h⟩ := bnS h
      obtain ⟨q26, hq26, h⟩ := bnS h
      obtain ⟨x27, hx27, h⟩ := bnS h
      rcases itS h with ⟨c28, h⟩ | ⟨c29, h⟩
      · exact go_to hΘ hm hx hP hn (hs := [⟨1, .br true, none⟩, ⟨4, .row [(B x23)], none⟩, ⟨7, .unpack 1 1001 (Int.toNat v4) 0 [(AV.own 4 1 (x24.map o4))] 4 1 (x24.map o4) (((a19.map o60).set (Int.toNat v9) [(AV.sl 1002 0 (List.length (a20.map o4)))]).set (Int.toNat v4) [(AV.sl 1001 0 (List.length (x24.map o4)))]), none⟩, ⟨10, .row [(AV.sl 1001 0 (List.length (x24.map o4)))], none⟩, ⟨15, .row [(AV.sl 1001 0 (List.length (x24.map o4)))], none⟩, ⟨18, .row [(B x27)], none⟩, ⟨19, .no, some (B true)⟩, ⟨23, .sto [(B x27)] ((x24.set (Int.toNat v21) true).map o4), none⟩, ⟨26, .pack 1 1001 (Int.toNat v4) 0 [(AV.sl 1001 0 (List.length (x24.map o4)))] (((a19.set (Int.toNat v4) (x24.set (Int.toNat v21) true)).map o60).set (Int.toNat v9) [(AV.sl 1002 0 (List.length (a20.map o4)))]), none⟩, ⟨26, .slen 3 (List.length (((a19.set (Int.toNat v4) (x24.set (Int.toNat v21) true)).map o60).set (Int.toNat v9) [(AV.sl 1002 0 (List.length (a20.map o4)))])), none⟩]) (π := [(1, 1), (1002, 1002)]) (ts := [0, 3, 4, 5, 12, 13, 46, 47, 48]) (kp := []) (ps := [(decide (v21 < (x18.length : Int))) = true, (0 : Int) ≤ v21, v21 < (((List.length (a20.map o4)) : Nat) : Int), (a20.map o4)[(Int.toNat v21)]? = some [(B x23)], ((a19.map o60).set (Int.toNat v9) [(AV.sl 1002 0 (List.length (a20.map o4)))])[(Int.toNat v4)]? = some [(AV.own 4 1 (x24.map o4))], [(AV.own 4 1 (x24.map o4))][0]? = some (AV.own 4 1 (x24.map o4)), 0 < 1, ((a19.map o60).set (Int.toNat v9) [(AV.sl 1002 0 (List.length (a20.map o4)))]).set (Int.toNat v4) ([(AV.own 4 1 (x24.map o4))].set 0 (AV.sl 1001 0 (List.length (x24.map o4)))) = (((a19.map o60).set (Int.toNat v9) [(AV.sl 1002 0 (List.length (a20.map o4)))]).set (Int.toNat v4) [(AV.sl 1001 0 (List.length (x24.map o4)))]), (0 : Int) ≤ v4, v4 < (((List.length ((a19.map o60).set (Int.toNat v9) [(AV.sl 1002 0 (List.length (a20.map o4)))])) : Nat) : Int), (((a19.map o60).set (Int.toNat v9) [(AV.sl 1002 0 (List.length (a20.map o4)))]).set (Int.toNat v4) [(AV.sl 1001 0 (List.length (x24.map o4)))])[(Int.toNat v4)]? = some [(AV.sl 1001 0 (List.length (x24.map o4)))], (0 : Int) ≤ v4, v4 < (((List.length ((a19.map o60).set (Int.toNat v9) [(AV.sl 1002 0 (List.length (a20.map o4)))])) : Nat) : Int), (((a19.map o60).set (Int.toNat v9) [(AV.sl 1002 0 (List.length (a20.map o4)))]).set (Int.toNat v4) [(AV.sl 1001 0 (List.length (x24.map o4)))])[(Int.toNat v4)]? = some [(AV.sl 1001 0 (List.length (x24.map o4)))], (0 : Int) ≤ v21, v21 < (((List.length (x24.map o4)) : Nat) : Int), (x24.map o4)[(Int.toNat v21)]? = some [(B x27)], (B x27) = (B true), (0 : Int) ≤ v21, v21 < (((List.length (x24.map o4)) : Nat) : Int), (x24.map o4)[(Int.toNat v21)]? = some [(B x27)], (x24.map o4).set (Int.toNat v21) (wr [(B x27)] 0 [(B true)]) = ((x24.set (Int.toNat v21) true).map o4), [(B true)].length = 1, 0 + [(B true)].length ≤ [(B x27)].length, (((a19.map o60).set (Int.toNat v9) [(AV.sl 1002 0 (List.length (a20.map o4)))]).set (Int.toNat v4) [(AV.sl 1001 0 (List.length (x24.map o4)))])[(Int.toNat v4)]? = some [(AV.sl 1001 0 (List.length (x24.map o4)))], [(AV.sl 1001 0 (List.length (x24.map o4)))][0]? = some (AV.sl 1001 0 (List.length ((x24.set (Int.toNat v21) true).map o4))), treeLL ((x24.set (Int.toNat v21) true).map o4) = true, (((a19.map o60).set (Int.toNat v9) [(AV.sl 1002 0 (List.length (a20.map o4)))]).set (Int.toNat v4) [(AV.sl 1001 0 (List.length (x24.map o4)))]).set (Int.toNat v4) ([(AV.sl 1001 0 (List.length (x24.map o4)))].set 0 (AV.own 4 1 ((x24.set (Int.toNat v21) true).map o4))) = (((a19.set (Int.toNat v4) (x24.set (Int.toNat v21) true)).map o60).set (Int.toNat v9) [(AV.sl 1002 0 (List.length (a20.map o4)))]), (List.length ((a19.map o60).set (Int.toNat v9) [(AV.sl 1002 0 (List.length (a20.map o4)))])) = (List.length (((a19.set (Int.toNat v4) (x24.set (Int.toNat v21) true)).map o60).set (Int.toNat v9) [(AV.sl 1002 0 (List.length (a20.map o4)))])), RenOK [(1, 1), (1002, 1002)] (((a19.set (Int.toNat v4) (x24.set (Int.toNat v21) true)).map o60).set (Int.toNat v9) [(AV.sl 1002 0 (List.length (a20.map o4)))]), RenOK [(1, 1), (1002, 1002)] (a20.map o4)]) (by kernel_rfl) ⟨c22, (rd0 hx23), (rdL o4 hx23), (rdM o4 hx23), (setN (neN hq26 (rd0 hx25) (rd0 hx24)) (rdM o60 hx24)), rfl, (by decide), rfl, (rd0 hx24), (rdL1 o60 hx24), (setE (setN (neN hq26 (rd0 hx25) (rd0 hx24)) (rdM o60 hx24))), (rd0 hx24), (rdL1 o60 hx24), (setE (setN (neN hq26 (rd0 hx25) (rd0 hx24)) (rdM o60 hx24))), (rd0 hx27), (rdL o4 hx27), (rdM o4 hx27), (litB c28), (rd0 hx27), (rdL o4 hx27), (rdM o4 hx27), (setM o4), rfl, (Nat.le_of_ble_eq_true rfl), (setE (setN (neN hq26 (rd0 hx25) (rd0 hx24)) (rdM o60 hx24))), (pkS (by first | exact lnSet _ | exact lnSet2 _ | simp only [List.length_map, List.length_set, List.length_cons, List.length_nil])), (treeM t4), (setP2 o60 (neN hq26 (rd0 hx25) (rd0 hx24))), (by first | exact lnSet _ | exact lnSet2 _ | simp only [List.length_map, List.length_set, List.length_cons, List.length_nil]), (renSet (rok (treeM t60)) rfl), (rok (treeM t4)), trivial⟩ (ih (a19.set (Int.toNat v4) (x24.set (Int.toNat v21) true)) a20 (w64 (v21 + 1)) _ h)
      · exact go_to hΘ hm hx hP hn (hs := [⟨1, .br true, none⟩, ⟨4, .row [(B x23)], none⟩, ⟨7, .unpack 1 1001 (Int.toNat v4) 0 [(AV.own 4 1 (x24.map o4))] 4 1 (x24.map o4) (((a19.map o60).set (Int.toNat v9) [(AV.sl 1002 0 (List.length (a20.map o4)))]).set (Int.toNat v4) [(AV.sl 1001 0 (List.length (x24.map o4)))]), none⟩, ⟨10, .row [(AV.sl 1001 0 (List.length (x24.map o4)))], none⟩, ⟨15, .row [(AV.sl 1001 0 (List.length (x24.map o4)))], none⟩, ⟨18, .row [(B x27)], none⟩, ⟨19, .no, some (B false)⟩, ⟨23, .sto [(B x27)] ((x24.set (Int.toNat v21) x23).map o4), none⟩, ⟨26, .pack 1 1001 (Int.toNat v4) 0 [(AV.sl 1001 0 (List.length (x24.map o4)))] (((a19.set (Int.toNat v4) (x24.set (Int.toNat v21) x23)).map o60).set (Int.toNat v9) [(AV.sl 1002 0 (List.length (a20.map o4)))]), none⟩, ⟨26, .slen 3 (List.length (((a19.set (Int.toNat v4) (x24.set (Int.toNat v21) x23)).map o60).set (Int.toNat v9) [(AV.sl 1002 0 (List.length (a20.map o4)))])), none⟩]) (π := [(1, 1), (1002, 1002)]) (ts := [0, 3, 4, 5, 12, 13, 46, 47, 48]) (kp := []) (ps := [(decide (v21 < (x18.length : Int))) = true, (0 : Int) ≤ v21, v21 < (((List.length (a20.map o4)) : Nat) : Int), (a20.map o4)[(Int.toNat v21)]? = some [(B x23)], ((a19.map o60).set (Int.toNat v9) [(AV.sl 1002 0 (List.length (a20.map o4)))])[(Int.toNat v4)]? = some [(AV.own 4 1 (x24.map o4))], [(AV.own 4 1 (x24.map o4))][0]? = some (AV.own 4 1 (x24.map o4)), 0 < 1, ((a19.map o60).set (Int.toNat v9) [(AV.sl 1002 0 (List.length (a20.map o4)))]).set (Int.toNat v4) ([(AV.own 4 1 (x24.map o4))].set 0 (AV.sl 1001 0 (List.length (x24.map o4)))) = (((a19.map o60).set (Int.toNat v9) [(AV.sl 1002 0 (List.length (a20.map o4)))]).set (Int.toNat v4) [(AV.sl 1001 0 (List.length (x24.map o4)))]), (0 : Int) ≤ v4, v4 < (((List.length ((a19.map o60).set (Int.toNat v9) [(AV.sl 1002 0 (List.length (a20.map o4)))])) : Nat) : Int), (((a19.map o60).set (Int.toNat v9) [(AV.sl 1002 0 (List.length (a20.map o4)))]).set (Int.toNat v4) [(AV.sl 1001 0 (List.length (x24.map o4)))])[(Int.toNat v4)]? = some [(AV.sl 1001 0 (List.length (x24.map o4)))], (0 : Int) ≤ v4, v4 < (((List.length ((a19.map o60).set (Int.toNat v9) [(AV.sl 1002 0 (List.length (a20.map o4)))])) : Nat) : Int), (((a19.map o60).set (Int.toNat v9) [(AV.sl 1002 0 (List.length (a20.map o4)))]).set (Int.toNat v4) [(AV.sl 1001 0 (List.length (x24.map o4)))])[(Int.toNat v4)]? = some [(AV.sl 1001 0 (List.length (x24.map o4)))], (0 : Int) ≤ v21, v21 < (((List.length (x24.map o4)) : Nat) : Int), (x24.map o4)[(Int.toNat v21)]? = some [(B x27)], (B x27) = (B false), (0 : Int) ≤ v21, v21 < (((List.length (x24.map o4)) : Nat) : Int), (x24.map o4)[(Int.toNat v21)]? = some [(B x27)], (x24.map o4).set (Int.toNat v21) (wr [(B x27)] 0 [(B x23)]) = ((x24.set (Int.toNat v21) x23).map o4), [(B x23)].length = 1, 0 + [(B x23)].length ≤ [(B x27)].length, (((a19.map o60).set (Int.toNat v9) [(AV.sl 1002 0 (List.length (a20.map o4)))]).set (Int.toNat v4) [(AV.sl 1001 0 (List.length (x24.map o4)))])[(Int.toNat v4)]? = some [(AV.sl 1001 0 (List.length (x24.map o4)))], [(AV.sl 1001 0 (List.length (x24.map o4)))][0]? = some (AV.sl 1001 0 (List.length ((x24.set (Int.toNat v21) x23).map o4))), treeLL ((x24.set (Int.toNat v21) x23).map o4) = true, (((a19.map o60).set (Int.toNat v9) [(AV.sl 1002 0 (List.length (a20.map o4)))]).set (Int.toNat v4) [(AV.sl 1001 0 (List.length (x24.map o4)))]).set (Int.toNat v4) ([(AV.sl 1001 0 (List.length (x24.map o4)))].set 0 (AV.own 4 1 ((x24.set (Int.toNat v21) x23).map o4))) = (((a19.set (Int.toNat v4) (x24.set (Int.toNat v21) x23)).map o60).set (Int.toNat v9) [(AV.sl 1002 0 (List.length (a20.map o4)))]), (List.length ((a19.map o60).set (Int.toNat v9) [(AV.sl 1002 0 (List.length (a20.map o4)))])) = (List.length (((a19.set (Int.toNat v4) (x24.set (Int.toNat v21) x23)).map o60).set (Int.toNat v9) [(AV.sl 1002 0 (List.length (a20.map o4)))])), RenOK [(1, 1), (1002, 1002)] (((a19.set (Int.toNat v4) (x24.set (Int.toNat v21) x23)).map o60).set (Int.toNat v9) [(AV.sl 1002 0 (List.length (a20.map o4)))]), RenOK [(1, 1), (1002, 1002)] (a20.map o4)]) (by kernel_rfl) ⟨c22, (rd0 hx23), (rdL o4 hx23), (rdM o4 hx23), (setN (neN hq26 (rd0 hx25) (rd0 hx24)) (rdM o60 hx24)), rfl, (by decide), rfl, (rd0 hx24), (rdL1 o60 hx24), (setE (setN (neN hq26 (rd0 hx25) (rd0 hx24)) (rdM o60 hx24))), (rd0 hx24), (rdL1 o60 hx24), (setE (setN (neN hq26 (rd0 hx25) (rd0 hx24)) (rdM o60 hx24))), (rd0 hx27), (rdL o4 hx27), (rdM o4 hx27), (litB c29), (rd0 hx27), (rdL o4 hx27), (rdM o4 hx27), (setM o4), rfl, (Nat.le_of_ble_eq_true rfl), (setE (setN (neN hq26 (rd0 hx25) (rd0 hx24)) (rdM o60 hx24))), (pkS (by first | exact lnSet _ | exact lnSet2 _ | simp only [List.length_map, List.length_set, List.length_cons, List.length_nil])), (treeM t4), (setP2 o60 (neN hq26 (rd0 hx25) (rd0 hx24))), (by first | exact lnSet _ | exact lnSet2 _ | simp only [List.length_map, List.length_set, List.length_cons, List.length_nil]), (renSet (rok (treeM t60)) rfl), (rok (treeM t4)), trivial⟩ (ih (a19.set (Int.toNat v4) (x24.set (Int.toNat v21) x23)) a20 (w64 (v21 + 1)) _ h)
    · obtain ⟨x31, hx31, h⟩ := bnS h
      exact go_to hΘ hm hx hP hn (hs := [⟨1, .br false, none⟩, ⟨5, .pack 1 1002 (Int.toNat v9) 0 [(AV.sl 1002 0 (List.length (a20.map o4)))] ((a19.set (Int.toNat v9) a20).map o60), none⟩, ⟨5, .slen 3 (List.length ((a19.set (Int.toNat v9) a20).map o60)), none⟩]) (π := [(1, 1)]) (ts := [0, 3, 4, 5, 12, 13]) (kp := []) (ps := [(decide (v21 < (x18.length : Int))) = false, ((a19.map o60).set (Int.toNat v9) [(AV.sl 1002 0 (List.length (a20.map o4)))])[(Int.toNat v9)]? = some [(AV.sl 1002 0 (List.length (a20.map o4)))], [(AV.sl 1002 0 (List.length (a20.map o4)))][0]? = some (AV.sl 1002 0 (List.length (a20.map o4))), treeLL (a20.map o4) = true, ((a19.map o60).set (Int.toNat v9) [(AV.sl 1002 0 (List.length (a20.map o4)))]).set (Int.toNat v9) ([(AV.sl 1002 0 (List.length (a20.map o4)))].set 0 (AV.own 4 1 (a20.map o4))) = ((a19.set (Int.toNat v9) a20).map o60), (List.length ((a19.map o60).set (Int.toNat v9) [(AV.sl 1002 0 (List.length (a20.map o4)))])) = (List.length ((a19.set (Int.toNat v9) a20).map o60)), RenOK [(1, 1)] ((a19.set (Int.toNat v9) a20).map o60)]) (by kernel_rfl) ⟨c30, (setE (rdM o60 hx31)), rfl, (treeM t4), (setP o60), (by first | exact lnSet _ | exact lnSet2 _ | simp only [List.length_map, List.length_set, List.length_cons, List.length_nil]), (rok (treeM t60)), trivial⟩ (hK1 (a19.set (Int.toNat v9) a20) (w64 (v9 + 1)) _ h)
noncomputable def spec_l6Ahead_l1 (K0 : (List (List Bool)) → Int → Option (List (List Bool))) (p1 : (List GEvent)) (v4 : Int) : Nat → (List (List Bool)) → Int → Option (List (List Bool))
  | 0, _, _ => none
  | n + 1, a8, v9 =>
  if (decide (v9 < v4)) = true then
    Option.bind (rd p1 v9) fun x11 =>
    Option.bind (rd p1 v4) fun x12 =>
    Option.bind (spec_l6Right x11 x12) fun r13 =>
    if (!r13) = true then
      spec_l6Ahead_l1 K0 p1 v4 n a8 (w64 (v9 + 1))
    else
      Option.bind (rd a8 v4) fun x16 =>
      Option.bind (rd x16 v9) fun x17 =>
      Option.bind (rd (a8.set (Int.toNat v4) (x16.set (Int.toNat v9) true)) v9) fun x18 =>
      spec_l6Ahead_l2 K0 (spec_l6Ahead_l1 K0 p1 v4 n) p1 v4 v9 x18 FU (a8.set (Int.toNat v4) (x16.set (Int.toNat v9) true)) x18 0
  else
    K0 a8 (w64 (v4 + 1))
theorem spec_l6Ahead_l1_m {E : Env} (hP : E.P = Try.prog) (hn : E.n = 72) (hx : ∀ p, p ∈ E.fx → p.1 ∈ ([] : List Nat)) (p1 : (List GEvent)) (v4 : Int) {K0 : (List (List Bool)) → Int → Option (List (List Bool))} (hK0 : ∀ (a3 : (List (List Bool))) (v4 : Int) (r : (List (List Bool))), K0 a3 v4 = some r → WAt E body43 (FQ (RetE Θ Try.f43.results.toList [] [] (AV.own 60 1 (r.map o60)) E)) [true, true, false, true, false] ⟨[(0, (AV.ro 5 (p1.map o47))), (3, (AV.sl 1 0 (List.length (a3.map o60)))), (12, (I (p1.length : Int))), (13, (I v4))], [(1, some ⟨60, 1, (a3.map o60)⟩)], [1, JJ]⟩) : ∀ (n : Nat) (a8 : (List (List Bool))) (v9 : Int) (r : (List (List Bool))), spec_l6Ahead_l1 K0 p1 v4 n a8 v9 = some r → WAt E body43 (FQ (RetE Θ Try.f43.results.toList [] [] (AV.own 60 1 (r.map o60)) E)) [true, true, false, true, false, false, true, true, false, false, true, true, true, false] ⟨[(0, (AV.ro 5 (p1.map o47))), (3, (AV.sl 1 0 (List.length (a8.map o60)))), (4, (I v4)), (5, (I v9)), (12, (I (p1.length : Int))), (13, (I v4))], [(1, some ⟨60, 1, (a8.map o60)⟩)], [1, JJ]⟩ := by
  have hm : E.P.follows .mixedOrders = true := by rw [hP]; exact mixed
  have hΘ : TOK E.P Θ := by rw [hP]; exact Θ_ok
  intro n
  induction n with
  | zero => intro a8 v9 r h; simp only [spec_l6Ahead_l1] at h; cases h
  | succ n ih =>
    intro a8 v9 r h
    simp only [spec_l6Ahead_l1] at h
    rcases itS h with ⟨c10, h⟩ | ⟨c32, h⟩
    · obtain ⟨x11, hx11, h⟩ := bnS h
      obtain ⟨x12, hx12, h⟩ := bnS h
      obtain ⟨r13, hr13, h⟩ := bnS h
      rcases itS h with ⟨c14, h⟩ | ⟨c15, h⟩
      · exact go_to hΘ hm hx hP hn (hs := [⟨3, .br true, none⟩, ⟨6, .row (o47 x11), none⟩, ⟨10, .row (o47 x12), none⟩, ⟨12, .callV [[], []] (B r13), none⟩, ⟨14, .br true, none⟩]) (π := [(1, 1)]) (ts := [0, 3, 4, 5, 12, 13]) (kp := []) (ps := [(decide (v9 < v4)) = true, (0 : Int) ≤ v9, (p1.map o47)[(Int.toNat v9)]? = some (o47 x11), (0 : Int) ≤ v4, (p1.map o47)[(Int.toNat v4)]? = some (o47 x12), Meets Try.prog 61 [(AV.agg ((o47 x11))), (AV.agg ((o47 x12)))] (B r13), litA (B r13) = true, (!r13) = true, RenOK [(1, 1)] (a8.map o60)]) (by kernel_rfl) ⟨c10, (rd0 hx11), (rdM o47 hx11), (rd0 hx12), (rdM o47 hx12), (spec_l6Right_m hr13), rfl, c14, (rok (treeM t60)), trivial⟩ (ih a8 (w64 (v9 + 1)) _ h)
      · obtain ⟨x16, hx16, h⟩ := bnS h
        obtain ⟨x17, hx17, h⟩ := bnS h
        obtain ⟨x18, hx18, h⟩ := bnS h
        exact go_to hΘ hm hx hP hn (hs := [⟨3, .br true, none⟩, ⟨6, .row (o47 x11), none⟩, ⟨10, .row (o47 x12), none⟩, ⟨12, .callV [[], []] (B r13), none⟩, ⟨14, .br false, none⟩, ⟨18, .unpack 1 1001 (Int.toNat v4) 0 [(AV.own 4 1 (x16.map o4))] 4 1 (x16.map o4) ((a8.map o60).set (Int.toNat v4) [(AV.sl 1001 0 (List.length (x16.map o4)))]), none⟩, ⟨18, .row [(AV.sl 1001 0 (List.length (x16.map o4)))], none⟩, ⟨21, .sto [(B x17)] ((x16.set (Int.toNat v9) true).map o4), none⟩, ⟨22, .slen 3 (List.length ((a8.map o60).set (Int.toNat v4) [(AV.sl 1001 0 (List.length (x16.map o4)))])), none⟩, ⟨24, .pack 1 1001 (Int.toNat v4) 0 [(AV.sl 1001 0 (List.length (x16.map o4)))] ((a8.set (Int.toNat v4) (x16.set (Int.toNat v9) true)).map o60), none⟩, ⟨24, .slen 43 (List.length ((a8.set (Int.toNat v4) (x16.set (Int.toNat v9) true)).map o60)), none⟩, ⟨25, .unpack 1 1002 (Int.toNat v9) 0 [(AV.own 4 1 (x18.map o4))] 4 1 (x18.map o4) (((a8.set (Int.toNat v4) (x16.set (Int.toNat v9) true)).map o60).set (Int.toNat v9) [(AV.sl 1002 0 (List.length (x18.map o4)))]), none⟩, ⟨25, .row [(AV.sl 1002 0 (List.length (x18.map o4)))], none⟩, ⟨26, .no, some (I (x18.length : Int))⟩, ⟨28, .slen 3 (List.length (((a8.set (Int.toNat v4) (x16.set (Int.toNat v9) true)).map o60).set (Int.toNat v9) [(AV.sl 1002 0 (List.length (x18.map o4)))])), none⟩]) (π := [(1, 1), (1002, 1002)]) (ts := [0, 3, 4, 5, 12, 13, 46, 47, 48]) (kp := []) (ps := [(decide (v9 < v4)) = true, (0 : Int) ≤ v9, (p1.map o47)[(Int.toNat v9)]? = some (o47 x11), (0 : Int) ≤ v4, (p1.map o47)[(Int.toNat v4)]? = some (o47 x12), Meets Try.prog 61 [(AV.agg ((o47 x11))), (AV.agg ((o47 x12)))] (B r13), litA (B r13) = true, (!r13) = false, (0 : Int) ≤ v4, v4 < (((List.length (a8.map o60)) : Nat) : Int), (a8.map o60)[(Int.toNat v4)]? = some [(AV.own 4 1 (x16.map o4))], [(AV.own 4 1 (x16.map o4))][0]? = some (AV.own 4 1 (x16.map o4)), 0 < 1, (a8.map o60).set (Int.toNat v4) ([(AV.own 4 1 (x16.map o4))].set 0 (AV.sl 1001 0 (List.length (x16.map o4)))) = ((a8.map o60).set (Int.toNat v4) [(AV.sl 1001 0 (List.length (x16.map o4)))]), ((a8.map o60).set (Int.toNat v4) [(AV.sl 1001 0 (List.length (x16.map o4)))])[(Int.toNat v4)]? = some [(AV.sl 1001 0 (List.length (x16.map o4)))], (0 : Int) ≤ v9, v9 < (((List.length (x16.map o4)) : Nat) : Int), (x16.map o4)[(Int.toNat v9)]? = some [(B x17)], (x16.map o4).set (Int.toNat v9) (wr [(B x17)] 0 [(B true)]) = ((x16.set (Int.toNat v9) true).map o4), [(B true)].length = 1, 0 + [(B true)].length ≤ [(B x17)].length, (List.length (a8.map o60)) = (List.length ((a8.map o60).set (Int.toNat v4) [(AV.sl 1001 0 (List.length (x16.map o4)))])), ((a8.map o60).set (Int.toNat v4) [(AV.sl 1001 0 (List.length (x16.map o4)))])[(Int.toNat v4)]? = some [(AV.sl 1001 0 (List.length (x16.map o4)))], [(AV.sl 1001 0 (List.length (x16.map o4)))][0]? = some (AV.sl 1001 0 (List.length ((x16.set (Int.toNat v9) true).map o4))), treeLL ((x16.set (Int.toNat v9) true).map o4) = true, ((a8.map o60).set (Int.toNat v4) [(AV.sl 1001 0 (List.length (x16.map o4)))]).set (Int.toNat v4) ([(AV.sl 1001 0 (List.length (x16.map o4)))].set 0 (AV.own 4 1 ((x16.set (Int.toNat v9) true).map o4))) = ((a8.set (Int.toNat v4) (x16.set (Int.toNat v9) true)).map o60), (List.length ((a8.map o60).set (Int.toNat v4) [(AV.sl 1001 0 (List.length (x16.map o4)))])) = (List.length ((a8.set (Int.toNat v4) (x16.set (Int.toNat v9) true)).map o60)), (0 : Int) ≤ v9, v9 < (((List.length ((a8.set (Int.toNat v4) (x16.set (Int.toNat v9) true)).map o60)) : Nat) : Int), ((a8.set (Int.toNat v4) (x16.set (Int.toNat v9) true)).map o60)[(Int.toNat v9)]? = some [(AV.own 4 1 (x18.map o4))], [(AV.own 4 1 (x18.map o4))][0]? = some (AV.own 4 1 (x18.map o4)), 0 < 1, ((a8.set (Int.toNat v4) (x16.set (Int.toNat v9) true)).map o60).set (Int.toNat v9) ([(AV.own 4 1 (x18.map o4))].set 0 (AV.sl 1002 0 (List.length (x18.map o4)))) = (((a8.set (Int.toNat v4) (x16.set (Int.toNat v9) true)).map o60).set (Int.toNat v9) [(AV.sl 1002 0 (List.length (x18.map o4)))]), (((a8.set (Int.toNat v4) (x16.set (Int.toNat v9) true)).map o60).set (Int.toNat v9) [(AV.sl 1002 0 (List.length (x18.map o4)))])[(Int.toNat v9)]? = some [(AV.sl 1002 0 (List.length (x18.map o4)))], AV.lit (.int .i64 (((List.length (x18.map o4)) : Nat) : Int)) = (I (x18.length : Int)), (List.length ((a8.map o60).set (Int.toNat v4) [(AV.sl 1001 0 (List.length (x16.map o4)))])) = (List.length (((a8.set (Int.toNat v4) (x16.set (Int.toNat v9) true)).map o60).set (Int.toNat v9) [(AV.sl 1002 0 (List.length (x18.map o4)))])), RenOK [(1, 1), (1002, 1002)] (((a8.set (Int.toNat v4) (x16.set (Int.toNat v9) true)).map o60).set (Int.toNat v9) [(AV.sl 1002 0 (List.length (x18.map o4)))]), RenOK [(1, 1), (1002, 1002)] (x18.map o4)]) (by kernel_rfl) ⟨c10, (rd0 hx11), (rdM o47 hx11), (rd0 hx12), (rdM o47 hx12), (spec_l6Right_m hr13), rfl, c15, (rd0 hx16), (rdL o60 hx16), (rdM o60 hx16), rfl, (by decide), rfl, (setE (rdM o60 hx16)), (rd0 hx17), (rdL o4 hx17), (rdM o4 hx17), (setM o4), rfl, (Nat.le_of_ble_eq_true rfl), (by first | exact lnSet _ | exact lnSet2 _ | simp only [List.length_map, List.length_set, List.length_cons, List.length_nil]), (setE (rdM o60 hx16)), (pkS (by first | exact lnSet _ | exact lnSet2 _ | simp only [List.length_map, List.length_set, List.length_cons, List.length_nil])), (treeM t4), (setP o60), (by first | exact lnSet _ | exact lnSet2 _ | simp only [List.length_map, List.length_set, List.length_cons, List.length_nil]), (rd0 hx18), (rdL o60 hx18), (rdM o60 hx18), rfl, (by decide), rfl, (setE (rdM o60 hx18)), (lenM o4), (by first | exact lnSet _ | exact lnSet2 _ | simp only [List.length_map, List.length_set, List.length_cons, List.length_nil]), (renSet (rok (treeM t60)) rfl), (rok (treeM t4)), trivial⟩ (spec_l6Ahead_l2_m hP hn hx p1 v4 v9 x18 hK0 ih FU (a8.set (Int.toNat v4) (x16.set (Int.toNat v9) true)) x18 0 _ h)
    · exact go_to hΘ hm hx hP hn (hs := [⟨3, .br false, none⟩]) (π := [(1, 1)]) (ts := [0, 3, 12, 13]) (kp := []) (ps := [(decide (v9 < v4)) = false, RenOK [(1, 1)] (a8.map o60)]) (by kernel_rfl) ⟨c32, (rok (treeM t60)), trivial⟩ (hK0 a8 (w64 (v4 + 1)) _ h)
noncomputable def spec_l6Ahead_l0  (p1 : (List GEvent)) : Nat → (List (List Bool)) → Int → Option (List (List Bool))
  | 0, _, _ => none
  | n + 1, a3, v4 =>
  if (decide (v4 < (p1.length : Int))) = true then
    Option.bind (mk false (p1.length : Int)) fun l6 =>
    Option.bind (rd a3 v4) fun x7 =>
    spec_l6Ahead_l1 (spec_l6Ahead_l0 p1 n) p1 v4 FU (a3.set (Int.toNat v4) l6) 0
  else
    some a3
theorem spec_l6Ahead_l0_m {E : Env} (hP : E.P = Try.prog) (hn : E.n = 72) (hx : ∀ p, p ∈ E.fx → p.1 ∈ ([] : List Nat)) (p1 : (List GEvent))  : ∀ (n : Nat) (a3 : (List (List Bool))) (v4 : Int) (r : (List (List Bool))), spec_l6Ahead_l0 p1 n a3 v4 = some r → WAt E body43 (FQ (RetE Θ Try.f43.results.toList [] [] (AV.own 60 1 (r.map o60)) E)) [true, true, false, true, false] ⟨[(0, (AV.ro 5 (p1.map o47))), (3, (AV.sl 1 0 (List.length (a3.map o60)))), (12, (I (p1.length : Int))), (13, (I v4))], [(1, some ⟨60, 1, (a3.map o60)⟩)], [1, JJ]⟩ := by
  have hm : E.P.follows .mixedOrders = true := by rw [hP]; exact mixed
  have hΘ : TOK E.P Θ := by rw [hP]; exact Θ_ok
  intro n
  induction n with
  | zero => intro a3 v4 r h; simp only [spec_l6Ahead_l0] at h; cases h
  | succ n ih =>
    intro a3 v4 r h
    simp only [spec_l6Ahead_l0] at h
    rcases itS h with ⟨c5, h⟩ | ⟨c33, h⟩
    · obtain ⟨l6, hl6, h⟩ := bnS h
      obtain ⟨x7, hx7, h⟩ := bnS h
      exact go_to hΘ hm hx hP hn (hs := [⟨1, .br true, none⟩, ⟨7, .no, some (I (p1.length : Int))⟩, ⟨8, .nw 1001 (l6.map o4), some (AV.sl 1001 0 (List.length (l6.map o4)))⟩, ⟨10, .sto [(AV.own 4 1 (x7.map o4))] ((a3.map o60).set (Int.toNat v4) [(AV.sl 1001 0 (List.length (l6.map o4)))]), none⟩, ⟨11, .pack 1 1001 (Int.toNat v4) 0 [(AV.sl 1001 0 (List.length (l6.map o4)))] ((a3.set (Int.toNat v4) l6).map o60), none⟩, ⟨12, .slen 3 (List.length ((a3.set (Int.toNat v4) l6).map o60)), none⟩]) (π := [(1, 1)]) (ts := [0, 3, 4, 5, 12, 13]) (kp := []) (ps := [(decide (v4 < (p1.length : Int))) = true, AV.lit (.int .i64 (((p1.map o47).length : Nat) : Int)) = (I (p1.length : Int)), List.replicate (Int.toNat (p1.length : Int)) [.lit (.bool false)] = (l6.map o4), AV.sl 1001 0 (Int.toNat (p1.length : Int)) = (AV.sl 1001 0 (List.length (l6.map o4))), (p1.length : Int) = (p1.length : Int), (0 : Int) ≤ (p1.length : Int), (p1.length : Int) * ((1 : Nat) : Int) ≤ 140737488355328, (p1.length : Int) ≤ 140737488355328, (0 : Int) ≤ v4, v4 < (((List.length (a3.map o60)) : Nat) : Int), (a3.map o60)[(Int.toNat v4)]? = some [(AV.own 4 1 (x7.map o4))], (a3.map o60).set (Int.toNat v4) (wr [(AV.own 4 1 (x7.map o4))] 0 [(AV.sl 1001 0 (List.length (l6.map o4)))]) = ((a3.map o60).set (Int.toNat v4) [(AV.sl 1001 0 (List.length (l6.map o4)))]), [(AV.sl 1001 0 (List.length (l6.map o4)))].length = 1, 0 + [(AV.sl 1001 0 (List.length (l6.map o4)))].length ≤ [(AV.own 4 1 (x7.map o4))].length, ((a3.map o60).set (Int.toNat v4) [(AV.sl 1001 0 (List.length (l6.map o4)))])[(Int.toNat v4)]? = some [(AV.sl 1001 0 (List.length (l6.map o4)))], [(AV.sl 1001 0 (List.length (l6.map o4)))][0]? = some (AV.sl 1001 0 (List.length (l6.map o4))), treeLL (l6.map o4) = true, ((a3.map o60).set (Int.toNat v4) [(AV.sl 1001 0 (List.length (l6.map o4)))]).set (Int.toNat v4) ([(AV.sl 1001 0 (List.length (l6.map o4)))].set 0 (AV.own 4 1 (l6.map o4))) = ((a3.set (Int.toNat v4) l6).map o60), (List.length (a3.map o60)) = (List.length ((a3.set (Int.toNat v4) l6).map o60)), RenOK [(1, 1)] ((a3.set (Int.toNat v4) l6).map o60)]) (by kernel_rfl) ⟨c5, (lenM o47), (mkM o4 hl6), (mkS o4 hl6), rfl, (mk0 hl6), (mkB hl6 (by decide)), (mkC hl6), (rd0 hx7), (rdL o60 hx7), (rdM o60 hx7), rfl, rfl, (Nat.le_of_ble_eq_true rfl), (setE (rdM o60 hx7)), rfl, (treeM t4), (setP o60), (by first | exact lnSet _ | exact lnSet2 _ | simp only [List.length_map, List.length_set, List.length_cons, List.length_nil]), (rok (treeM t60)), trivial⟩ (spec_l6Ahead_l1_m hP hn hx p1 v4 ih FU (a3.set (Int.toNat v4) l6) 0 _ h)
    · have h := Option.some.inj h
      subst h
      exact go_ret hΘ hm hP hn (hs := [⟨1, .br false, none⟩]) (rh := []) (ph := .own) (ps := [(decide (v4 < (p1.length : Int))) = false, treeLL ((a3.map o60).take (List.length (a3.map o60))) = true, (a3.map o60).take (List.length (a3.map o60)) = (a3.map o60), noRoLL (a3.map o60) = true]) (by kernel_rfl) ⟨c33, (treeT t60), takeM, (noRoM n60), trivial⟩
noncomputable def spec_l6Ahead (p1 : (List GEvent)) : Option (List (List Bool)) :=
  Option.bind (mk [] (p1.length : Int)) fun l2 =>
  spec_l6Ahead_l0 p1 FU l2 0
theorem spec_l6Ahead_m {p1 : (List GEvent)} {r : (List (List Bool))} (h : spec_l6Ahead p1 = some r) : Meets Try.prog 43 [(AV.ro 5 (p1.map o47))] (AV.own 60 1 (r.map o60)) := by
  refine meets_ofC Θ_ok Try.func43 rfl (c := body43) (by kernel_rfl) (Nat.le_of_ble_eq_true rfl) ?_
  intro E hP hn hx
  replace hn : E.n = 72 := hn
  have hm : E.P.follows .mixedOrders = true := by rw [hP]; exact mixed
  have hΘ : TOK E.P Θ := by rw [hP]; exact Θ_ok
  unfold spec_l6Ahead at h
  show WAt E body43 (FQ (RetE Θ Try.f43.results.toList [] [] (AV.own 60 1 (r.map o60)) E)) [] ⟨[(0, (AV.ro 5 (p1.map o47)))], [], [JJ]⟩
  obtain ⟨l2, hl2, h⟩ := bnS h
  exact go_to hΘ hm hx hP hn (hs := [⟨2, .no, some (I (p1.length : Int))⟩, ⟨3, .nw 1001 (List.replicate (Int.toNat (p1.length : Int)) [AV.lit (.slice none 0 0)]), some (AV.sl 1001 0 (List.length (l2.map o60)))⟩, ⟨4, .own0 1001 (Int.toNat (p1.length : Int)) [] [] 4 1 (l2.map o60), none⟩, ⟨6, .no, some (I (p1.length : Int))⟩]) (π := [(1001, 1)]) (ts := [0, 3, 12, 13]) (kp := []) (ps := [AV.lit (.int .i64 (((p1.map o47).length : Nat) : Int)) = (I (p1.length : Int)), List.replicate (Int.toNat (p1.length : Int)) [.lit (.slice none 0 0)] = (List.replicate (Int.toNat (p1.length : Int)) [AV.lit (.slice none 0 0)]), AV.sl 1001 0 (Int.toNat (p1.length : Int)) = (AV.sl 1001 0 (List.length (l2.map o60))), (p1.length : Int) = (p1.length : Int), (0 : Int) ≤ (p1.length : Int), (p1.length : Int) * ((24 : Nat) : Int) ≤ 140737488355328, (p1.length : Int) ≤ 140737488355328, (List.replicate (Int.toNat (p1.length : Int)) [AV.lit (.slice none 0 0)]) = List.replicate (Int.toNat (p1.length : Int)) ([] ++ AV.lit (.slice none 0 0) :: []), List.replicate (Int.toNat (p1.length : Int)) ([] ++ AV.own 4 1 [] :: []) = (l2.map o60), AV.lit (.int .i64 (((p1.map o47).length : Nat) : Int)) = (I (p1.length : Int)), RenOK [(1001, 1)] (l2.map o60)]) (by kernel_rfl) ⟨(lenM o47), rfl, (mkS o60 hl2), rfl, (mk0 hl2), (mkB hl2 (by decide)), (mkC hl2), rfl, (mkM o60 hl2), (lenM o47), (rok (treeM t60)), trivial⟩ (spec_l6Ahead_l0_m hP hn hx p1 FU l2 0 _ h)
noncomputable def body72 : Code := match Try.f72.body with | some c => c | none => .skip
noncomputable def spec_l1In (p1 : Int) (p2 : Int) (p3 : Int) : Option Bool :=
  if (decide (p1 ≥ p2)) = true then
    some (decide (p1 ≤ p3))
  else
    some false
theorem spec_l1In_m {p1 : Int} {p2 : Int} {p3 : Int} {r : Bool} (h : spec_l1In p1 p2 p3 = some r) : Meets Try.prog 72 [(I p1), (I p2), (I p3)] (B r) := by
  refine meets_ofC Θ_ok Try.func72 rfl (c := body72) (by kernel_rfl) (Nat.le_of_ble_eq_true rfl) ?_
  intro E hP hn hx
  replace hn : E.n = 15 := hn
  have hm : E.P.follows .mixedOrders = true := by rw [hP]; exact mixed
  have hΘ : TOK E.P Θ := by rw [hP]; exact Θ_ok
  unfold spec_l1In at h
  show WAt E body72 (FQ (RetE Θ Try.f72.results.toList [] [] (B r) E)) [] ⟨[(0, (I p1)), (1, (I p2)), (2, (I p3))], [], [JJ]⟩
  rcases itS h with ⟨c4, h⟩ | ⟨c5, h⟩
  · have h := Option.some.inj h
    subst h
    exact go_ret hΘ hm hP hn (hs := [⟨4, .no, some (B true)⟩]) (rh := []) (ph := .raw) (ps := [(B (decide (p1 ≥ p2))) = (B true), (B (decide (p1 ≤ p3))) = (B (decide (p1 ≤ p3))), litA (B (decide (p1 ≤ p3))) = true]) (by kernel_rfl) ⟨(litB c4), rfl, rfl, trivial⟩
  · have h := Option.some.inj h
    subst h
    exact go_ret hΘ hm hP hn (hs := [⟨4, .no, some (B false)⟩]) (rh := []) (ph := .raw) (ps := [(B (decide (p1 ≥ p2))) = (B false), (B false) = (B false), litA (B false) = true]) (by kernel_rfl) ⟨(litB c5), rfl, rfl, trivial⟩
noncomputable def body57 : Code := match Try.f57.body with | some c => c | none => .skip
noncomputable def spec_l6Event_j0  (p1 : GEvent)  : Option Bool :=
  Option.bind (spec_l1In p1.Thread 0 4) fun r9 =>
  if r9 = true then
    Option.bind (spec_l1In p1.Kind 1 12) fun r11 =>
    if r11 = true then
      Option.bind (spec_l1In p1.Obj (-1) 99) fun r13 =>
      if r13 = true then
        Option.bind (spec_l1In p1.Lock (-1) 99) fun r15 =>
        if r15 = true then
          Option.bind (spec_l1In p1.Pc 0 99) fun r17 =>
          some r17
        else
          some false
      else
        some false
    else
      some false
  else
    some false
theorem spec_l6Event_j0_m {E : Env} (hP : E.P = Try.prog) (hn : E.n = 49) (hx : ∀ p, p ∈ E.fx → p.1 ∈ ([] : List Nat)) (p1 : GEvent)   (r : Bool) (h : spec_l6Event_j0 p1  = some r) : WAt E body57 (FQ (RetE Θ Try.f57.results.toList [] [] (B r) E)) [true, false, true, true] ⟨[(1, (AV.ptr 1 0 0))], [(1, some ⟨47, 5, [((o47 p1))]⟩)], [1, JJ]⟩ := by
  have hm : E.P.follows .mixedOrders = true := by rw [hP]; exact mixed
  have hΘ : TOK E.P Θ := by rw [hP]; exact Θ_ok
  unfold spec_l6Event_j0 at h
  obtain ⟨r9, hr9, h⟩ := bnS h
  rcases itS h with ⟨c10, h⟩ | ⟨c21, h⟩
  · obtain ⟨r11, hr11, h⟩ := bnS h
    rcases itS h with ⟨c12, h⟩ | ⟨c20, h⟩
    · obtain ⟨r13, hr13, h⟩ := bnS h
      rcases itS h with ⟨c14, h⟩ | ⟨c19, h⟩
      · obtain ⟨r15, hr15, h⟩ := bnS h
        rcases itS h with ⟨c16, h⟩ | ⟨c18, h⟩
        · obtain ⟨r17, hr17, h⟩ := bnS h
          have h := Option.some.inj h
          subst h
          exact go_ret hΘ hm hP hn (hs := [⟨2, .callV [] (B r9), none⟩, ⟨3, .no, some (B true)⟩, ⟨6, .callV [] (B r11), none⟩, ⟨8, .no, some (B true)⟩, ⟨11, .callV [] (B r13), none⟩, ⟨13, .no, some (B true)⟩, ⟨16, .callV [] (B r15), none⟩, ⟨18, .no, some (B true)⟩, ⟨21, .callV [] (B r17), none⟩]) (rh := []) (ph := .raw) (ps := [Meets Try.prog 72 [(I p1.Thread), (I 0), (I 4)] (B r9), litA (B r9) = true, (B r9) = (B true), Meets Try.prog 72 [(I p1.Kind), (I 1), (I 12)] (B r11), litA (B r11) = true, (B r11) = (B true), Meets Try.prog 72 [(I p1.Obj), (I (-1)), (I 99)] (B r13), litA (B r13) = true, (B r13) = (B true), Meets Try.prog 72 [(I p1.Lock), (I (-1)), (I 99)] (B r15), litA (B r15) = true, (B r15) = (B true), Meets Try.prog 72 [(I p1.Pc), (I 0), (I 99)] (B r17), litA (B r17) = true, (B r17) = (B r17), litA (B r17) = true]) (by kernel_rfl) ⟨(spec_l1In_m hr9), rfl, (litB c10), (spec_l1In_m hr11), rfl, (litB c12), (spec_l1In_m hr13), rfl, (litB c14), (spec_l1In_m hr15), rfl, (litB c16), (spec_l1In_m hr17), rfl, rfl, rfl, trivial⟩
        · have h := Option.some.inj h
          subst h
          exact go_ret hΘ hm hP hn (hs := [⟨2, .callV [] (B r9), none⟩, ⟨3, .no, some (B true)⟩, ⟨6, .callV [] (B r11), none⟩, ⟨8, .no, some (B true)⟩, ⟨11, .callV [] (B r13), none⟩, ⟨13, .no, some (B true)⟩, ⟨16, .callV [] (B r15), none⟩, ⟨18, .no, some (B false)⟩]) (rh := []) (ph := .raw) (ps := [Meets Try.prog 72 [(I p1.Thread), (I 0), (I 4)] (B r9), litA (B r9) = true, (B r9) = (B true), Meets Try.prog 72 [(I p1.Kind), (I 1), (I 12)] (B r11), litA (B r11) = true, (B r11) = (B true), Meets Try.prog 72 [(I p1.Obj), (I (-1)), (I 99)] (B r13), litA (B r13) = true, (B r13) = (B true), Meets Try.prog 72 [(I p1.Lock), (I (-1)), (I 99)] (B r15), litA (B r15) = true, (B r15) = (B false), (B false) = (B false), litA (B false) = true]) (by kernel_rfl) ⟨(spec_l1In_m hr9), rfl, (litB c10), (spec_l1In_m hr11), rfl, (litB c12), (spec_l1In_m hr13), rfl, (litB c14), (spec_l1In_m hr15), rfl, (litB c18), rfl, rfl, trivial⟩
      · have h := Option.some.inj h
        subst h
        exact go_ret hΘ hm hP hn (hs := [⟨2, .callV [] (B r9), none⟩, ⟨3, .no, some (B true)⟩, ⟨6, .callV [] (B r11), none⟩, ⟨8, .no, some (B true)⟩, ⟨11, .callV [] (B r13), none⟩, ⟨13, .no, some (B false)⟩]) (rh := []) (ph := .raw) (ps := [Meets Try.prog 72 [(I p1.Thread), (I 0), (I 4)] (B r9), litA (B r9) = true, (B r9) = (B true), Meets Try.prog 72 [(I p1.Kind), (I 1), (I 12)] (B r11), litA (B r11) = true, (B r11) = (B true), Meets Try.prog 72 [(I p1.Obj), (I (-1)), (I 99)] (B r13), litA (B r13) = true, (B r13) = (B false), (B false) = (B false), litA (B false) = true]) (by kernel_rfl) ⟨(spec_l1In_m hr9), rfl, (litB c10), (spec_l1In_m hr11), rfl, (litB c12), (spec_l1In_m hr13), rfl, (litB c19), rfl, rfl, trivial⟩
    · have h := Option.some.inj h
      subst h
      exact go_ret hΘ hm hP hn (hs := [⟨2, .callV [] (B r9), none⟩, ⟨3, .no, some (B true)⟩, ⟨6, .callV [] (B r11), none⟩, ⟨8, .no, some (B false)⟩]) (rh := []) (ph := .raw) (ps := [Meets Try.prog 72 [(I p1.Thread), (I 0), (I 4)] (B r9), litA (B r9) = true, (B r9) = (B true), Meets Try.prog 72 [(I p1.Kind), (I 1), (I 12)] (B r11), litA (B r11) = true, (B r11) = (B false), (B false) = (B false), litA (B false) = true]) (by kernel_rfl) ⟨(spec_l1In_m hr9), rfl, (litB c10), (spec_l1In_m hr11), rfl, (litB c20), rfl, rfl, trivial⟩
  · have h := Option.some.inj h
    subst h
    exact go_ret hΘ hm hP hn (hs := [⟨2, .callV [] (B r9), none⟩, ⟨3, .no, some (B false)⟩]) (rh := []) (ph := .raw) (ps := [Meets Try.prog 72 [(I p1.Thread), (I 0), (I 4)] (B r9), litA (B r9) = true, (B r9) = (B false), (B false) = (B false), litA (B false) = true]) (by kernel_rfl) ⟨(spec_l1In_m hr9), rfl, (litB c21), rfl, rfl, trivial⟩
noncomputable def spec_l6Event (p1 : GEvent) : Option Bool :=
  Option.bind (spec_l1In p1.Kind 2 10) fun r2 =>
  if r2 = true then
    if (decide (p1.Obj < 0)) = true then
      some false
    else
      if (p1.Kind == 8) = true then
        if (decide (p1.Lock < 0)) = true then
          some false
        else
          spec_l6Event_j0 p1
      else
        if (p1.Kind == 9) = true then
          if (decide (p1.Lock < 0)) = true then
            some false
          else
            spec_l6Event_j0 p1
        else
          spec_l6Event_j0 p1
  else
    if (p1.Kind == 8) = true then
      if (decide (p1.Lock < 0)) = true then
        some false
      else
        spec_l6Event_j0 p1
    else
      if (p1.Kind == 9) = true then
        if (decide (p1.Lock < 0)) = true then
          some false
        else
          spec_l6Event_j0 p1
      else
        spec_l6Event_j0 p1
theorem spec_l6Event_m {p1 : GEvent} {r : Bool} (h : spec_l6Event p1 = some r) : Meets Try.prog 57 [(AV.agg ((o47 p1)))] (B r) := by
  refine meets_ofC Θ_ok Try.func57 rfl (c := body57) (by kernel_rfl) (Nat.le_of_ble_eq_true rfl) ?_
  intro E hP hn hx
  replace hn : E.n = 49 := hn
  have hm : E.P.follows .mixedOrders = true := by rw [hP]; exact mixed
  have hΘ : TOK E.P Θ := by rw [hP]; exact Θ_ok
  unfold spec_l6Event at h
  show WAt E body57 (FQ (RetE Θ Try.f57.results.toList [] [] (B r) E)) [] ⟨[(0, (AV.agg ((o47 p1))))], [], [JJ]⟩
  obtain ⟨r2, hr2, h⟩ := bnS h
  rcases itS h with ⟨c3, h⟩ | ⟨c27, h⟩
  · rcases itS h with ⟨c4, h⟩ | ⟨c5, h⟩
    · have h := Option.some.inj h
      subst h
      exact go_ret hΘ hm hP hn (hs := [⟨0, .new 1001, none⟩, ⟨4, .callV [] (B r2), none⟩, ⟨5, .no, some (B true)⟩, ⟨10, .no, some (B true)⟩]) (rh := []) (ph := .raw) (ps := [Meets Try.prog 72 [(I p1.Kind), (I 2), (I 10)] (B r2), litA (B r2) = true, (B r2) = (B true), (B (decide (p1.Obj < 0))) = (B true), (B false) = (B false), litA (B false) = true]) (by kernel_rfl) ⟨(spec_l1In_m hr2), rfl, (litB c3), (litB c4), rfl, rfl, trivial⟩
    · rcases itS h with ⟨c6, h⟩ | ⟨c22, h⟩
      · rcases itS h with ⟨c7, h⟩ | ⟨c8, h⟩
        · have h := Option.some.inj h
          subst h
          exact go_ret hΘ hm hP hn (hs := [⟨0, .new 1001, none⟩, ⟨4, .callV [] (B r2), none⟩, ⟨5, .no, some (B true)⟩, ⟨10, .no, some (B false)⟩, ⟨14, .no, some (B true)⟩, ⟨25, .br true, none⟩]) (rh := []) (ph := .raw) (ps := [Meets Try.prog 72 [(I p1.Kind), (I 2), (I 10)] (B r2), litA (B r2) = true, (B r2) = (B true), (B (decide (p1.Obj < 0))) = (B false), (B (p1.Kind == 8)) = (B true), (decide (p1.Lock < 0)) = true, (B false) = (B false), litA (B false) = true]) (by kernel_rfl) ⟨(spec_l1In_m hr2), rfl, (litB c3), (litB c5), (litB c6), c7, rfl, rfl, trivial⟩
        · exact go_to hΘ hm hx hP hn (hs := [⟨0, .new 1001, none⟩, ⟨4, .callV [] (B r2), none⟩, ⟨5, .no, some (B true)⟩, ⟨10, .no, some (B false)⟩, ⟨14, .no, some (B true)⟩, ⟨25, .br false, none⟩]) (π := [(1001, 1)]) (ts := [1]) (kp := []) (ps := [Meets Try.prog 72 [(I p1.Kind), (I 2), (I 10)] (B r2), litA (B r2) = true, (B r2) = (B true), (B (decide (p1.Obj < 0))) = (B false), (B (p1.Kind == 8)) = (B true), (decide (p1.Lock < 0)) = false, RenOK [(1001, 1)] [((o47 p1))]]) (by kernel_rfl) ⟨(spec_l1In_m hr2), rfl, (litB c3), (litB c5), (litB c6), c8, (rok rfl), trivial⟩ (spec_l6Event_j0_m hP hn hx p1  _ h)
      · rcases itS h with ⟨c23, h⟩ | ⟨c26, h⟩
        · rcases itS h with ⟨c24, h⟩ | ⟨c25, h⟩
          · have h := Option.some.inj h
            subst h
            exact go_ret hΘ hm hP hn (hs := [⟨0, .new 1001, none⟩, ⟨4, .callV [] (B r2), none⟩, ⟨5, .no, some (B true)⟩, ⟨10, .no, some (B false)⟩, ⟨14, .no, some (B false)⟩, ⟨19, .no, some (B true)⟩, ⟨25, .br true, none⟩]) (rh := []) (ph := .raw) (ps := [Meets Try.prog 72 [(I p1.Kind), (I 2), (I 10)] (B r2), litA (B r2) = true, (B r2) = (B true), (B (decide (p1.Obj < 0))) = (B false), (B (p1.Kind == 8)) = (B false), (B (p1.Kind == 9)) = (B true), (decide (p1.Lock < 0)) = true, (B false) = (B false), litA (B false) = true]) (by kernel_rfl) ⟨(spec_l1In_m hr2), rfl, (litB c3), (litB c5), (litB c22), (litB c23), c24, rfl, rfl, trivial⟩
          · exact go_to hΘ hm hx hP hn (hs := [⟨0, .new 1001, none⟩, ⟨4, .callV [] (B r2), none⟩, ⟨5, .no, some (B true)⟩, ⟨10, .no, some (B false)⟩, ⟨14, .no, some (B false)⟩, ⟨19, .no, some (B true)⟩, ⟨25, .br false, none⟩]) (π := [(1001, 1)]) (ts := [1]) (kp := []) (ps := [Meets Try.prog 72 [(I p1.Kind), (I 2), (I 10)] (B r2), litA (B r2) = true, (B r2) = (B true), (B (decide (p1.Obj < 0))) = (B false), (B (p1.Kind == 8)) = (B false), (B (p1.Kind == 9)) = (B true), (decide (p1.Lock < 0)) = false, RenOK [(1001, 1)] [((o47 p1))]]) (by kernel_rfl) ⟨(spec_l1In_m hr2), rfl, (litB c3), (litB c5), (litB c22), (litB c23), c25, (rok rfl), trivial⟩ (spec_l6Event_j0_m hP hn hx p1  _ h)
        · exact go_to hΘ hm hx hP hn (hs := [⟨0, .new 1001, none⟩, ⟨4, .callV [] (B r2), none⟩, ⟨5, .no, some (B true)⟩, ⟨10, .no, some (B false)⟩, ⟨14, .no, some (B false)⟩, ⟨19, .no, some (B false)⟩]) (π := [(1001, 1)]) (ts := [1]) (kp := []) (ps := [Meets Try.prog 72 [(I p1.Kind), (I 2), (I 10)] (B r2), litA (B r2) = true, (B r2) = (B true), (B (decide (p1.Obj < 0))) = (B false), (B (p1.Kind == 8)) = (B false), (B (p1.Kind == 9)) = (B false), RenOK [(1001, 1)] [((o47 p1))]]) (by kernel_rfl) ⟨(spec_l1In_m hr2), rfl, (litB c3), (litB c5), (litB c22), (litB c26), (rok rfl), trivial⟩ (spec_l6Event_j0_m hP hn hx p1  _ h)
  · rcases itS h with ⟨c28, h⟩ | ⟨c31, h⟩
    · rcases itS h with ⟨c29, h⟩ | ⟨c30, h⟩
      · have h := Option.some.inj h
        subst h
        exact go_ret hΘ hm hP hn (hs := [⟨0, .new 1001, none⟩, ⟨4, .callV [] (B r2), none⟩, ⟨5, .no, some (B false)⟩, ⟨14, .no, some (B true)⟩, ⟨25, .br true, none⟩]) (rh := []) (ph := .raw) (ps := [Meets Try.prog 72 [(I p1.Kind), (I 2), (I 10)] (B r2), litA (B r2) = true, (B r2) = (B false), (B (p1.Kind == 8)) = (B true), (decide (p1.Lock < 0)) = true, (B false) = (B false), litA (B false) = true]) (by kernel_rfl) ⟨(spec_l1In_m hr2), rfl, (litB c27), (litB c28), c29, rfl, rfl, trivial⟩
      · exact go_to hΘ hm hx hP hn (hs := [⟨0, .new 1001, none⟩, ⟨4, .callV [] (B r2), none⟩, ⟨5, .no, some (B false)⟩, ⟨14, .no, some (B true)⟩, ⟨25, .br false, none⟩]) (π := [(1001, 1)]) (ts := [1]) (kp := []) (ps := [Meets Try.prog 72 [(I p1.Kind), (I 2), (I 10)] (B r2), litA (B r2) = true, (B r2) = (B false), (B (p1.Kind == 8)) = (B true), (decide (p1.Lock < 0)) = false, RenOK [(1001, 1)] [((o47 p1))]]) (by kernel_rfl) ⟨(spec_l1In_m hr2), rfl, (litB c27), (litB c28), c30, (rok rfl), trivial⟩ (spec_l6Event_j0_m hP hn hx p1  _ h)
    · rcases itS h with ⟨c32, h⟩ | ⟨c35, h⟩
      · rcases itS h with ⟨c33, h⟩ | ⟨c34, h⟩
        · have h := Option.some.inj h
          subst h
          exact go_ret hΘ hm hP hn (hs := [⟨0, .new 1001, none⟩, ⟨4, .callV [] (B r2), none⟩, ⟨5, .no, some (B false)⟩, ⟨14, .no, some (B false)⟩, ⟨19, .no, some (B true)⟩, ⟨25, .br true, none⟩]) (rh := []) (ph := .raw) (ps := [Meets Try.prog 72 [(I p1.Kind), (I 2), (I 10)] (B r2), litA (B r2) = true, (B r2) = (B false), (B (p1.Kind == 8)) = (B false), (B (p1.Kind == 9)) = (B true), (decide (p1.Lock < 0)) = true, (B false) = (B false), litA (B false) = true]) (by kernel_rfl) ⟨(spec_l1In_m hr2), rfl, (litB c27), (litB c31), (litB c32), c33, rfl, rfl, trivial⟩
        · exact go_to hΘ hm hx hP hn (hs := [⟨0, .new 1001, none⟩, ⟨4, .callV [] (B r2), none⟩, ⟨5, .no, some (B false)⟩, ⟨14, .no, some (B false)⟩, ⟨19, .no, some (B true)⟩, ⟨25, .br false, none⟩]) (π := [(1001, 1)]) (ts := [1]) (kp := []) (ps := [Meets Try.prog 72 [(I p1.Kind), (I 2), (I 10)] (B r2), litA (B r2) = true, (B r2) = (B false), (B (p1.Kind == 8)) = (B false), (B (p1.Kind == 9)) = (B true), (decide (p1.Lock < 0)) = false, RenOK [(1001, 1)] [((o47 p1))]]) (by kernel_rfl) ⟨(spec_l1In_m hr2), rfl, (litB c27), (litB c31), (litB c32), c34, (rok rfl), trivial⟩ (spec_l6Event_j0_m hP hn hx p1  _ h)
      · exact go_to hΘ hm hx hP hn (hs := [⟨0, .new 1001, none⟩, ⟨4, .callV [] (B r2), none⟩, ⟨5, .no, some (B false)⟩, ⟨14, .no, some (B false)⟩, ⟨19, .no, some (B false)⟩]) (π := [(1001, 1)]) (ts := [1]) (kp := []) (ps := [Meets Try.prog 72 [(I p1.Kind), (I 2), (I 10)] (B r2), litA (B r2) = true, (B r2) = (B false), (B (p1.Kind == 8)) = (B false), (B (p1.Kind == 9)) = (B false), RenOK [(1001, 1)] [((o47 p1))]]) (by kernel_rfl) ⟨(spec_l1In_m hr2), rfl, (litB c27), (litB c31), (litB c35), (rok rfl), trivial⟩ (spec_l6Event_j0_m hP hn hx p1  _ h)
noncomputable def body31 : Code := match Try.f31.body with | some c => c | none => .skip
noncomputable def spec_l6Trace_l0  (p1 : (List GEvent)) : Nat → Int → Option Bool
  | 0, _ => none
  | n + 1, v2 =>
  if (decide (v2 < (p1.length : Int))) = true then
    Option.bind (rd p1 v2) fun x4 =>
    Option.bind (spec_l6Event x4) fun r5 =>
    if (!r5) = true then
      some false
    else
      spec_l6Trace_l0 p1 n (w64 (v2 + 1))
  else
    some (decide ((p1.length : Int) ≤ 200))
theorem spec_l6Trace_l0_m {E : Env} (hP : E.P = Try.prog) (hn : E.n = 18) (hx : ∀ p, p ∈ E.fx → p.1 ∈ ([] : List Nat)) (p1 : (List GEvent))  : ∀ (n : Nat) (v2 : Int) (r : Bool), spec_l6Trace_l0 p1 n v2 = some r → WAt E body31 (FQ (RetE Θ Try.f31.results.toList [] [] (B r) E)) [true, false, true, false] ⟨[(0, (AV.ro 5 (p1.map o47))), (5, (AV.ro 5 (p1.map o47))), (6, (I (p1.length : Int))), (7, (I v2))], [], [JJ]⟩ := by
  have hm : E.P.follows .mixedOrders = true := by rw [hP]; exact mixed
  have hΘ : TOK E.P Θ := by rw [hP]; exact Θ_ok
  intro n
  induction n with
  | zero => intro v2 r h; simp only [spec_l6Trace_l0] at h; cases h
  | succ n ih =>
    intro v2 r h
    simp only [spec_l6Trace_l0] at h
    rcases itS h with ⟨c3, h⟩ | ⟨c8, h⟩
    · obtain ⟨x4, hx4, h⟩ := bnS h
      obtain ⟨r5, hr5, h⟩ := bnS h
      rcases itS h with ⟨c6, h⟩ | ⟨c7, h⟩
      · have h := Option.some.inj h
        subst h
        exact go_ret hΘ hm hP hn (hs := [⟨1, .br true, none⟩, ⟨2, .row (o47 x4), none⟩, ⟨4, .new 1001, none⟩, ⟨7, .callV [[]] (B r5), none⟩, ⟨9, .br true, none⟩]) (rh := []) (ph := .raw) (ps := [(decide (v2 < (p1.length : Int))) = true, (0 : Int) ≤ v2, (p1.map o47)[(Int.toNat v2)]? = some (o47 x4), Meets Try.prog 57 [(AV.agg ((o47 x4)))] (B r5), litA (B r5) = true, (!r5) = true, (B false) = (B false), litA (B false) = true]) (by kernel_rfl) ⟨c3, (rd0 hx4), (rdM o47 hx4), (spec_l6Event_m hr5), rfl, c6, rfl, rfl, trivial⟩
      · exact go_to hΘ hm hx hP hn (hs := [⟨1, .br true, none⟩, ⟨2, .row (o47 x4), none⟩, ⟨4, .new 1001, none⟩, ⟨7, .callV [[]] (B r5), none⟩, ⟨9, .br false, none⟩]) (π := []) (ts := [0, 5, 6, 7]) (kp := []) (ps := [(decide (v2 < (p1.length : Int))) = true, (0 : Int) ≤ v2, (p1.map o47)[(Int.toNat v2)]? = some (o47 x4), Meets Try.prog 57 [(AV.agg ((o47 x4)))] (B r5), litA (B r5) = true, (!r5) = false]) (by kernel_rfl) ⟨c3, (rd0 hx4), (rdM o47 hx4), (spec_l6Event_m hr5), rfl, c7, trivial⟩ (ih (w64 (v2 + 1)) _ h)
    · have h := Option.some.inj h
      subst h
      exact go_ret hΘ hm hP hn (hs := [⟨1, .br false, none⟩, ⟨3, .no, some (I (p1.length : Int))⟩]) (rh := []) (ph := .raw) (ps := [(decide (v2 < (p1.length : Int))) = false, AV.lit (.int .i64 (((p1.map o47).length : Nat) : Int)) = (I (p1.length : Int)), (B (decide ((p1.length : Int) ≤ 200))) = (B (decide ((p1.length : Int) ≤ 200))), litA (B (decide ((p1.length : Int) ≤ 200))) = true]) (by kernel_rfl) ⟨c8, (lenM o47), rfl, rfl, trivial⟩
noncomputable def spec_l6Trace (p1 : (List GEvent)) : Option Bool :=
  spec_l6Trace_l0 p1 FU 0
theorem spec_l6Trace_m {p1 : (List GEvent)} {r : Bool} (h : spec_l6Trace p1 = some r) : Meets Try.prog 31 [(AV.ro 5 (p1.map o47))] (B r) := by
  refine meets_ofC Θ_ok Try.func31 rfl (c := body31) (by kernel_rfl) (Nat.le_of_ble_eq_true rfl) ?_
  intro E hP hn hx
  replace hn : E.n = 18 := hn
  have hm : E.P.follows .mixedOrders = true := by rw [hP]; exact mixed
  have hΘ : TOK E.P Θ := by rw [hP]; exact Θ_ok
  unfold spec_l6Trace at h
  show WAt E body31 (FQ (RetE Θ Try.f31.results.toList [] [] (B r) E)) [] ⟨[(0, (AV.ro 5 (p1.map o47)))], [], [JJ]⟩
  exact go_to hΘ hm hx hP hn (hs := [⟨2, .no, some (I (p1.length : Int))⟩]) (π := []) (ts := [0, 5, 6, 7]) (kp := []) (ps := [AV.lit (.int .i64 (((p1.map o47).length : Nat) : Int)) = (I (p1.length : Int))]) (by kernel_rfl) ⟨(lenM o47), trivial⟩ (spec_l6Trace_l0_m hP hn hx p1 FU 0 _ h)
end Go.Proofs.Ytkmjbfmmcijojaa
