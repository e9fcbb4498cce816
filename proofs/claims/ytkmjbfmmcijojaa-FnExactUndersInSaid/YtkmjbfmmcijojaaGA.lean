/- Functions as plain data, and that the code comes to them; no condition. -/

import Derived.Test.YtkmjbfmmcijojaaGT
set_option linter.unusedVariables false
set_option maxRecDepth 100000
namespace Go.Proofs.Ytkmjbfmmcijojaa
open Go Go.T
noncomputable def body74 : Code := match Try.f74.body with | some c => c | none => .skip
noncomputable def impl_in (p1 : Int) (p2 : Int) (p3 : Int) : Option Bool :=
  if (decide (p2 ≤ p1)) = true then
    some (decide (p1 ≤ p3))
  else
    some false
theorem impl_in_m {p1 : Int} {p2 : Int} {p3 : Int} {r : Bool} (h : impl_in p1 p2 p3 = some r) : Meets Try.prog 74 [(I p1), (I p2), (I p3)] (B r) := by
  refine meets_ofC Θ_ok Try.func74 rfl (c := body74) (by kernel_rfl) (Nat.le_of_ble_eq_true rfl) ?_
  intro E hP hn hx
  replace hn : E.n = 15 := hn
  have hm : E.P.follows .mixedOrders = true := by rw [hP]; exact mixed
  have hΘ : TOK E.P Θ := by rw [hP]; exact Θ_ok
  unfold impl_in at h
  show WAt E body74 (FQ (RetE Θ Try.f74.results.toList [] [] (B r) E)) [] ⟨[(0, (I p1)), (1, (I p2)), (2, (I p3))], [], [JJ]⟩
  rcases itS h with ⟨c4, h⟩ | ⟨c5, h⟩
  · have h := Option.some.inj h
    subst h
    exact go_ret hΘ hm hP hn (hs := [⟨4, .no, some (B true)⟩]) (rh := []) (ph := .raw) (ps := [(B (decide (p2 ≤ p1))) = (B true), (B (decide (p1 ≤ p3))) = (B (decide (p1 ≤ p3))), litA (B (decide (p1 ≤ p3))) = true]) (by kernel_rfl) ⟨(litB c4), rfl, rfl, trivial⟩
  · have h := Option.some.inj h
    subst h
    exact go_ret hΘ hm hP hn (hs := [⟨4, .no, some (B false)⟩]) (rh := []) (ph := .raw) (ps := [(B (decide (p2 ≤ p1))) = (B false), (B false) = (B false), litA (B false) = true]) (by kernel_rfl) ⟨(litB c5), rfl, rfl, trivial⟩
noncomputable def body60 : Code := match Try.f60.body with | some c => c | none => .skip
noncomputable def impl_Event_isGood_j0  (p1 : GEvent)  : Option Bool :=
  if (decide (p1.Obj ≥ 0)) = true then
    if (decide (p1.Lock ≥ 0)) = true then
      some true
    else
      if (p1.Kind != 8) = true then
        some (p1.Kind != 9)
      else
        some false
  else
    Option.bind (impl_in p1.Kind 2 10) fun r23 =>
    if (!r23) = true then
      if (decide (p1.Lock ≥ 0)) = true then
        some true
      else
        if (p1.Kind != 8) = true then
          some (p1.Kind != 9)
        else
          some false
    else
      some false
theorem impl_Event_isGood_j0_m {E : Env} (hP : E.P = Try.prog) (hn : E.n = 55) (hx : ∀ p, p ∈ E.fx → p.1 ∈ ([] : List Nat)) (p1 : GEvent)   (r : Bool) (h : impl_Event_isGood_j0 p1  = some r) : WAt E body60 (FQ (RetE Θ Try.f60.results.toList [] [] (B r) E)) [true, false, true, true] ⟨[(1, (AV.ptr 1 0 0))], [(1, some ⟨47, 5, [((o47 p1))]⟩)], [1, JJ]⟩ := by
  have hm : E.P.follows .mixedOrders = true := by rw [hP]; exact mixed
  have hΘ : TOK E.P Θ := by rw [hP]; exact Θ_ok
  unfold impl_Event_isGood_j0 at h
  rcases itS h with ⟨c17, h⟩ | ⟨c22, h⟩
  · rcases itS h with ⟨c18, h⟩ | ⟨c19, h⟩
    · have h := Option.some.inj h
      subst h
      exact go_ret hΘ hm hP hn (hs := [⟨3, .no, some (B true)⟩, ⟨13, .no, some (B true)⟩]) (rh := []) (ph := .raw) (ps := [(B (decide (p1.Obj ≥ 0))) = (B true), (B (decide (p1.Lock ≥ 0))) = (B true), (B true) = (B true), litA (B true) = true]) (by kernel_rfl) ⟨(litB c17), (litB c18), rfl, rfl, trivial⟩
    · rcases itS h with ⟨c20, h⟩ | ⟨c21, h⟩
      · have h := Option.some.inj h
        subst h
        exact go_ret hΘ hm hP hn (hs := [⟨3, .no, some (B true)⟩, ⟨13, .no, some (B false)⟩, ⟨17, .no, some (B true)⟩]) (rh := []) (ph := .raw) (ps := [(B (decide (p1.Obj ≥ 0))) = (B true), (B (decide (p1.Lock ≥ 0))) = (B false), (B (p1.Kind != 8)) = (B true), (B (p1.Kind != 9)) = (B (p1.Kind != 9)), litA (B (p1.Kind != 9)) = true]) (by kernel_rfl) ⟨(litB c17), (litB c19), (litB c20), rfl, rfl, trivial⟩
      · have h := Option.some.inj h
        subst h
        exact go_ret hΘ hm hP hn (hs := [⟨3, .no, some (B true)⟩, ⟨13, .no, some (B false)⟩, ⟨17, .no, some (B false)⟩]) (rh := []) (ph := .raw) (ps := [(B (decide (p1.Obj ≥ 0))) = (B true), (B (decide (p1.Lock ≥ 0))) = (B false), (B (p1.Kind != 8)) = (B false), (B false) = (B false), litA (B false) = true]) (by kernel_rfl) ⟨(litB c17), (litB c19), (litB c21), rfl, rfl, trivial⟩
  · obtain ⟨r23, hr23, h⟩ := bnS h
    rcases itS h with ⟨c24, h⟩ | ⟨c29, h⟩
    · rcases itS h with ⟨c25, h⟩ | ⟨c26, h⟩
      · have h := Option.some.inj h
        subst h
        exact go_ret hΘ hm hP hn (hs := [⟨3, .no, some (B false)⟩, ⟨6, .callV [] (B r23), none⟩, ⟨9, .no, some (B true)⟩, ⟨13, .no, some (B true)⟩]) (rh := []) (ph := .raw) (ps := [(B (decide (p1.Obj ≥ 0))) = (B false), Meets Try.prog 74 [(I p1.Kind), (I 2), (I 10)] (B r23), litA (B r23) = true, (B (!r23)) = (B true), (B (decide (p1.Lock ≥ 0))) = (B true), (B true) = (B true), litA (B true) = true]) (by kernel_rfl) ⟨(litB c22), (impl_in_m hr23), rfl, (litB c24), (litB c25), rfl, rfl, trivial⟩
      · rcases itS h with ⟨c27, h⟩ | ⟨c28, h⟩
        · have h := Option.some.inj h
          subst h
          exact go_ret hΘ hm hP hn (hs := [⟨3, .no, some (B false)⟩, ⟨6, .callV [] (B r23), none⟩, ⟨9, .no, some (B true)⟩, ⟨13, .no, some (B false)⟩, ⟨17, .no, some (B true)⟩]) (rh := []) (ph := .raw) (ps := [(B (decide (p1.Obj ≥ 0))) = (B false), Meets Try.prog 74 [(I p1.Kind), (I 2), (I 10)] (B r23), litA (B r23) = true, (B (!r23)) = (B true), (B (decide (p1.Lock ≥ 0))) = (B false), (B (p1.Kind != 8)) = (B true), (B (p1.Kind != 9)) = (B (p1.Kind != 9)), litA (B (p1.Kind != 9)) = true]) (by kernel_rfl) ⟨(litB c22), (impl_in_m hr23), rfl, (litB c24), (litB c26), (litB c27), rfl, rfl, trivial⟩
        · have h := Option.some.inj h
          subst h
          exact go_ret hΘ hm hP hn (hs := [⟨3, .no, some (B false)⟩, ⟨6, .callV [] (B r23), none⟩, ⟨9, .no, some (B true)⟩, ⟨13, .no, some (B false)⟩, ⟨17, .no, some (B false)⟩]) (rh := []) (ph := .raw) (ps := [(B (decide (p1.Obj ≥ 0))) = (B false), Meets Try.prog 74 [(I p1.Kind), (I 2), (I 10)] (B r23), litA (B r23) = true, (B (!r23)) = (B true), (B (decide (p1.Lock ≥ 0))) = (B false), (B (p1.Kind != 8)) = (B false), (B false) = (B false), litA (B false) = true]) (by kernel_rfl) ⟨(litB c22), (impl_in_m hr23), rfl, (litB c24), (litB c26), (litB c28), rfl, rfl, trivial⟩
    · have h := Option.some.inj h
      subst h
      exact go_ret hΘ hm hP hn (hs := [⟨3, .no, some (B false)⟩, ⟨6, .callV [] (B r23), none⟩, ⟨9, .no, some (B false)⟩]) (rh := []) (ph := .raw) (ps := [(B (decide (p1.Obj ≥ 0))) = (B false), Meets Try.prog 74 [(I p1.Kind), (I 2), (I 10)] (B r23), litA (B r23) = true, (B (!r23)) = (B false), (B false) = (B false), litA (B false) = true]) (by kernel_rfl) ⟨(litB c22), (impl_in_m hr23), rfl, (litB c29), rfl, rfl, trivial⟩
noncomputable def impl_Event_isGood (p1 : GEvent) : Option Bool :=
  Option.bind (impl_in p1.Thread 0 4) fun r2 =>
  if (!r2) = true then
    some false
  else
    Option.bind (impl_in p1.Kind 1 12) fun r5 =>
    if (!r5) = true then
      some false
    else
      Option.bind (impl_in p1.Obj (-1) 99) fun r8 =>
      if (!r8) = true then
        some false
      else
        Option.bind (impl_in p1.Lock (-1) 99) fun r11 =>
        if (!r11) = true then
          some false
        else
          Option.bind (impl_in p1.Pc 0 99) fun r14 =>
          if (!r14) = true then
            some false
          else
            impl_Event_isGood_j0 p1
theorem impl_Event_isGood_m {p1 : GEvent} {r : Bool} (h : impl_Event_isGood p1 = some r) : Meets Try.prog 60 [(AV.agg ((o47 p1)))] (B r) := by
  refine meets_ofC Θ_ok Try.func60 rfl (c := body60) (by kernel_rfl) (Nat.le_of_ble_eq_true rfl) ?_
  intro E hP hn hx
  replace hn : E.n = 55 := hn
  have hm : E.P.follows .mixedOrders = true := by rw [hP]; exact mixed
  have hΘ : TOK E.P Θ := by rw [hP]; exact Θ_ok
  unfold impl_Event_isGood at h
  show WAt E body60 (FQ (RetE Θ Try.f60.results.toList [] [] (B r) E)) [] ⟨[(0, (AV.agg ((o47 p1))))], [], [JJ]⟩
  obtain ⟨r2, hr2, h⟩ := bnS h
  rcases itS h with ⟨c3, h⟩ | ⟨c4, h⟩
  · have h := Option.some.inj h
    subst h
    exact go_ret hΘ hm hP hn (hs := [⟨0, .new 1001, none⟩, ⟨4, .callV [] (B r2), none⟩, ⟨6, .no, some (B true)⟩]) (rh := []) (ph := .raw) (ps := [Meets Try.prog 74 [(I p1.Thread), (I 0), (I 4)] (B r2), litA (B r2) = true, (B (!r2)) = (B true), (B false) = (B false), litA (B false) = true]) (by kernel_rfl) ⟨(impl_in_m hr2), rfl, (litB c3), rfl, rfl, trivial⟩
  · obtain ⟨r5, hr5, h⟩ := bnS h
    rcases itS h with ⟨c6, h⟩ | ⟨c7, h⟩
    · have h := Option.some.inj h
      subst h
      exact go_ret hΘ hm hP hn (hs := [⟨0, .new 1001, none⟩, ⟨4, .callV [] (B r2), none⟩, ⟨6, .no, some (B false)⟩, ⟨9, .callV [] (B r5), none⟩, ⟨12, .no, some (B true)⟩]) (rh := []) (ph := .raw) (ps := [Meets Try.prog 74 [(I p1.Thread), (I 0), (I 4)] (B r2), litA (B r2) = true, (B (!r2)) = (B false), Meets Try.prog 74 [(I p1.Kind), (I 1), (I 12)] (B r5), litA (B r5) = true, (B (!r5)) = (B true), (B false) = (B false), litA (B false) = true]) (by kernel_rfl) ⟨(impl_in_m hr2), rfl, (litB c4), (impl_in_m hr5), rfl, (litB c6), rfl, rfl, trivial⟩
    · obtain ⟨r8, hr8, h⟩ := bnS h
      rcases itS h with ⟨c9, h⟩ | ⟨c10, h⟩
      · have h := Option.some.inj h
        subst h
        exact go_ret hΘ hm hP hn (hs := [⟨0, .new 1001, none⟩, ⟨4, .callV [] (B r2), none⟩, ⟨6, .no, some (B false)⟩, ⟨9, .callV [] (B r5), none⟩, ⟨12, .no, some (B false)⟩, ⟨15, .callV [] (B r8), none⟩, ⟨18, .no, some (B true)⟩]) (rh := []) (ph := .raw) (ps := [Meets Try.prog 74 [(I p1.Thread), (I 0), (I 4)] (B r2), litA (B r2) = true, (B (!r2)) = (B false), Meets Try.prog 74 [(I p1.Kind), (I 1), (I 12)] (B r5), litA (B r5) = true, (B (!r5)) = (B false), Meets Try.prog 74 [(I p1.Obj), (I (-1)), (I 99)] (B r8), litA (B r8) = true, (B (!r8)) = (B true), (B false) = (B false), litA (B false) = true]) (by kernel_rfl) ⟨(impl_in_m hr2), rfl, (litB c4), (impl_in_m hr5), rfl, (litB c7), (impl_in_m hr8), rfl, (litB c9), rfl, rfl, trivial⟩
      · obtain ⟨r11, hr11, h⟩ := bnS h
        rcases itS h with ⟨c12, h⟩ | ⟨c13, h⟩
        · have h := Option.some.inj h
          subst h
          exact go_ret hΘ hm hP hn (hs := [⟨0, .new 1001, none⟩, ⟨4, .callV [] (B r2), none⟩, ⟨6, .no, some (B false)⟩, ⟨9, .callV [] (B r5), none⟩, ⟨12, .no, some (B false)⟩, ⟨15, .callV [] (B r8), none⟩, ⟨18, .no, some (B false)⟩, ⟨21, .callV [] (B r11), none⟩, ⟨24, .no, some (B true)⟩]) (rh := []) (ph := .raw) (ps := [Meets Try.prog 74 [(I p1.Thread), (I 0), (I 4)] (B r2), litA (B r2) = true, (B (!r2)) = (B false), Meets Try.prog 74 [(I p1.Kind), (I 1), (I 12)] (B r5), litA (B r5) = true, (B (!r5)) = (B false), Meets Try.prog 74 [(I p1.Obj), (I (-1)), (I 99)] (B r8), litA (B r8) = true, (B (!r8)) = (B false), Meets Try.prog 74 [(I p1.Lock), (I (-1)), (I 99)] (B r11), litA (B r11) = true, (B (!r11)) = (B true), (B false) = (B false), litA (B false) = true]) (by kernel_rfl) ⟨(impl_in_m hr2), rfl, (litB c4), (impl_in_m hr5), rfl, (litB c7), (impl_in_m hr8), rfl, (litB c10), (impl_in_m hr11), rfl, (litB c12), rfl, rfl, trivial⟩
        · obtain ⟨r14, hr14, h⟩ := bnS h
          rcases itS h with ⟨c15, h⟩ | ⟨c16, h⟩
          · have h := Option.some.inj h
            subst h
            exact go_ret hΘ hm hP hn (hs := [⟨0, .new 1001, none⟩, ⟨4, .callV [] (B r2), none⟩, ⟨6, .no, some (B false)⟩, ⟨9, .callV [] (B r5), none⟩, ⟨12, .no, some (B false)⟩, ⟨15, .callV [] (B r8), none⟩, ⟨18, .no, some (B false)⟩, ⟨21, .callV [] (B r11), none⟩, ⟨24, .no, some (B false)⟩, ⟨27, .callV [] (B r14), none⟩, ⟨30, .br true, none⟩]) (rh := []) (ph := .raw) (ps := [Meets Try.prog 74 [(I p1.Thread), (I 0), (I 4)] (B r2), litA (B r2) = true, (B (!r2)) = (B false), Meets Try.prog 74 [(I p1.Kind), (I 1), (I 12)] (B r5), litA (B r5) = true, (B (!r5)) = (B false), Meets Try.prog 74 [(I p1.Obj), (I (-1)), (I 99)] (B r8), litA (B r8) = true, (B (!r8)) = (B false), Meets Try.prog 74 [(I p1.Lock), (I (-1)), (I 99)] (B r11), litA (B r11) = true, (B (!r11)) = (B false), Meets Try.prog 74 [(I p1.Pc), (I 0), (I 99)] (B r14), litA (B r14) = true, (!r14) = true, (B false) = (B false), litA (B false) = true]) (by kernel_rfl) ⟨(impl_in_m hr2), rfl, (litB c4), (impl_in_m hr5), rfl, (litB c7), (impl_in_m hr8), rfl, (litB c10), (impl_in_m hr11), rfl, (litB c13), (impl_in_m hr14), rfl, c15, rfl, rfl, trivial⟩
          · exact go_to hΘ hm hx hP hn (hs := [⟨0, .new 1001, none⟩, ⟨4, .callV [] (B r2), none⟩, ⟨6, .no, some (B false)⟩, ⟨9, .callV [] (B r5), none⟩, ⟨12, .no, some (B false)⟩, ⟨15, .callV [] (B r8), none⟩, ⟨18, .no, some (B false)⟩, ⟨21, .callV [] (B r11), none⟩, ⟨24, .no, some (B false)⟩, ⟨27, .callV [] (B r14), none⟩, ⟨30, .br false, none⟩]) (π := [(1001, 1)]) (ts := [1]) (kp := []) (ps := [Meets Try.prog 74 [(I p1.Thread), (I 0), (I 4)] (B r2), litA (B r2) = true, (B (!r2)) = (B false), Meets Try.prog 74 [(I p1.Kind), (I 1), (I 12)] (B r5), litA (B r5) = true, (B (!r5)) = (B false), Meets Try.prog 74 [(I p1.Obj), (I (-1)), (I 99)] (B r8), litA (B r8) = true, (B (!r8)) = (B false), Meets Try.prog 74 [(I p1.Lock), (I (-1)), (I 99)] (B r11), litA (B r11) = true, (B (!r11)) = (B false), Meets Try.prog 74 [(I p1.Pc), (I 0), (I 99)] (B r14), litA (B r14) = true, (!r14) = false, RenOK [(1001, 1)] [((o47 p1))]]) (by kernel_rfl) ⟨(impl_in_m hr2), rfl, (litB c4), (impl_in_m hr5), rfl, (litB c7), (impl_in_m hr8), rfl, (litB c10), (impl_in_m hr11), rfl, (litB c13), (impl_in_m hr14), rfl, c16, (rok rfl), trivial⟩ (impl_Event_isGood_j0_m hP hn hx p1  _ h)
noncomputable def body59 : Code := match Try.f59.body with | some c => c | none => .skip
noncomputable def impl_GoodTrace_1 (p1 : GEvent) : Option Bool :=
  Option.bind (impl_Event_isGood p1) fun r2 =>
  some (!r2)
theorem impl_GoodTrace_1_m {p1 : GEvent} {r : Bool} (h : impl_GoodTrace_1 p1 = some r) : Meets Try.prog 59 [(AV.agg ((o47 p1)))] (B r) := by
  refine meets_ofC Θ_ok Try.func59 rfl (c := body59) (by kernel_rfl) (Nat.le_of_ble_eq_true rfl) ?_
  intro E hP hn hx
  replace hn : E.n = 6 := hn
  have hm : E.P.follows .mixedOrders = true := by rw [hP]; exact mixed
  have hΘ : TOK E.P Θ := by rw [hP]; exact Θ_ok
  unfold impl_GoodTrace_1 at h
  show WAt E body59 (FQ (RetE Θ Try.f59.results.toList [] [] (B r) E)) [] ⟨[(0, (AV.agg ((o47 p1))))], [], [JJ]⟩
  obtain ⟨r2, hr2, h⟩ := bnS h
  have h := Option.some.inj h
  subst h
  exact go_ret hΘ hm hP hn (hs := [⟨0, .new 1001, none⟩, ⟨3, .callV [[]] (B r2), none⟩]) (rh := []) (ph := .raw) (ps := [Meets Try.prog 60 [(AV.agg ((o47 p1)))] (B r2), litA (B r2) = true, (B (!r2)) = (B (!r2)), litA (B (!r2)) = true]) (by kernel_rfl) ⟨(impl_Event_isGood_m hr2), rfl, rfl, rfl, trivial⟩
noncomputable def body73 : Code := match Try.f73.body with | some c => c | none => .skip
noncomputable def slices_IndexFunc_Event_Event__impl_GoodTrace_1_l0  (p1 : (List GEvent)) : Nat → Int → Option Int
  | 0, _ => none
  | n + 1, v2 =>
  if (decide (v2 < (p1.length : Int))) = true then
    Option.bind (rd p1 v2) fun x4 =>
    Option.bind (impl_GoodTrace_1 x4) fun r5 =>
    if r5 = true then
      some v2
    else
      slices_IndexFunc_Event_Event__impl_GoodTrace_1_l0 p1 n (w64 (v2 + 1))
  else
    some (-1)
theorem slices_IndexFunc_Event_Event__impl_GoodTrace_1_l0_m {E : Env} (hP : E.P = Try.prog) (hn : E.n = 19) (hx : ∀ p, p ∈ E.fx → p.1 ∈ ([] : List Nat)) (p1 : (List GEvent))  : ∀ (n : Nat) (v2 : Int) (r : Int), slices_IndexFunc_Event_Event__impl_GoodTrace_1_l0 p1 n v2 = some r → WAt E body73 (FQ (RetE Θ Try.f73.results.toList [] [] (I r) E)) [true, false, true, false] ⟨[(0, (AV.ro 5 (p1.map o47))), (1, (AV.fn 59 [])), (7, (I (p1.length : Int))), (8, (I v2))], [], [JJ]⟩ := by
  have hm : E.P.follows .mixedOrders = true := by rw [hP]; exact mixed
  have hΘ : TOK E.P Θ := by rw [hP]; exact Θ_ok
  intro n
  induction n with
  | zero => intro v2 r h; simp only [slices_IndexFunc_Event_Event__impl_GoodTrace_1_l0] at h; cases h
  | succ n ih =>
    intro v2 r h
    simp only [slices_IndexFunc_Event_Event__impl_GoodTrace_1_l0] at h
    rcases itS h with ⟨c3, h⟩ | ⟨c8, h⟩
    · obtain ⟨x4, hx4, h⟩ := bnS h
      obtain ⟨r5, hr5, h⟩ := bnS h
      rcases itS h with ⟨c6, h⟩ | ⟨c7, h⟩
      · have h := Option.some.inj h
        subst h
        exact go_ret hΘ hm hP hn (hs := [⟨1, .br true, none⟩, ⟨7, .row (o47 x4), none⟩, ⟨9, .callV [[]] (B r5), none⟩, ⟨10, .br true, none⟩]) (rh := []) (ph := .raw) (ps := [(decide (v2 < (p1.length : Int))) = true, (0 : Int) ≤ v2, (p1.map o47)[(Int.toNat v2)]? = some (o47 x4), Meets Try.prog 59 [(AV.agg ((o47 x4)))] (B r5), litA (B r5) = true, r5 = true, (I v2) = (I v2), litA (I v2) = true]) (by kernel_rfl) ⟨c3, (rd0 hx4), (rdM o47 hx4), (impl_GoodTrace_1_m hr5), rfl, c6, rfl, rfl, trivial⟩
      · exact go_to hΘ hm hx hP hn (hs := [⟨1, .br true, none⟩, ⟨7, .row (o47 x4), none⟩, ⟨9, .callV [[]] (B r5), none⟩, ⟨10, .br false, none⟩]) (π := []) (ts := [0, 1, 7, 8]) (kp := []) (ps := [(decide (v2 < (p1.length : Int))) = true, (0 : Int) ≤ v2, (p1.map o47)[(Int.toNat v2)]? = some (o47 x4), Meets Try.prog 59 [(AV.agg ((o47 x4)))] (B r5), litA (B r5) = true, r5 = false]) (by kernel_rfl) ⟨c3, (rd0 hx4), (rdM o47 hx4), (impl_GoodTrace_1_m hr5), rfl, c7, trivial⟩ (ih (w64 (v2 + 1)) _ h)
    · have h := Option.some.inj h
      subst h
      exact go_ret hΘ hm hP hn (hs := [⟨1, .br false, none⟩]) (rh := []) (ph := .raw) (ps := [(decide (v2 < (p1.length : Int))) = false, (I (-1)) = (I (-1)), litA (I (-1)) = true]) (by kernel_rfl) ⟨c8, rfl, rfl, trivial⟩
noncomputable def slices_IndexFunc_Event_Event__impl_GoodTrace_1 (p1 : (List GEvent)) : Option Int :=
  slices_IndexFunc_Event_Event__impl_GoodTrace_1_l0 p1 FU 0
theorem slices_IndexFunc_Event_Event__impl_GoodTrace_1_m {p1 : (List GEvent)} {r : Int} (h : slices_IndexFunc_Event_Event__impl_GoodTrace_1 p1 = some r) : Meets Try.prog 73 [(AV.ro 5 (p1.map o47)), (AV.fn 59 [])] (I r) := by
  refine meets_ofC Θ_ok Try.func73 rfl (c := body73) (by kernel_rfl) (Nat.le_of_ble_eq_true rfl) ?_
  intro E hP hn hx
  replace hn : E.n = 19 := hn
  have hm : E.P.follows .mixedOrders = true := by rw [hP]; exact mixed
  have hΘ : TOK E.P Θ := by rw [hP]; exact Θ_ok
  unfold slices_IndexFunc_Event_Event__impl_GoodTrace_1 at h
  show WAt E body73 (FQ (RetE Θ Try.f73.results.toList [] [] (I r) E)) [] ⟨[(0, (AV.ro 5 (p1.map o47))), (1, (AV.fn 59 []))], [], [JJ]⟩
  exact go_to hΘ hm hx hP hn (hs := [⟨2, .no, some (I (p1.length : Int))⟩]) (π := []) (ts := [0, 1, 7, 8]) (kp := []) (ps := [AV.lit (.int .i64 (((p1.map o47).length : Nat) : Int)) = (I (p1.length : Int))]) (by kernel_rfl) ⟨(lenM o47), trivial⟩ (slices_IndexFunc_Event_Event__impl_GoodTrace_1_l0_m hP hn hx p1 FU 0 _ h)
noncomputable def body58 : Code := match Try.f58.body with | some c => c | none => .skip
noncomputable def slices_ContainsFunc_Event_Event__impl_GoodTrace_1 (p1 : (List GEvent)) : Option Bool :=
  Option.bind (slices_IndexFunc_Event_Event__impl_GoodTrace_1 p1) fun r2 =>
  some (decide (r2 ≥ 0))
theorem slices_ContainsFunc_Event_Event__impl_GoodTrace_1_m {p1 : (List GEvent)} {r : Bool} (h : slices_ContainsFunc_Event_Event__impl_GoodTrace_1 p1 = some r) : Meets Try.prog 58 [(AV.ro 5 (p1.map o47)), (AV.fn 59 [])] (B r) := by
  refine meets_ofC Θ_ok Try.func58 rfl (c := body58) (by kernel_rfl) (Nat.le_of_ble_eq_true rfl) ?_
  intro E hP hn hx
  replace hn : E.n = 9 := hn
  have hm : E.P.follows .mixedOrders = true := by rw [hP]; exact mixed
  have hΘ : TOK E.P Θ := by rw [hP]; exact Θ_ok
  unfold slices_ContainsFunc_Event_Event__impl_GoodTrace_1 at h
  show WAt E body58 (FQ (RetE Θ Try.f58.results.toList [] [] (B r) E)) [] ⟨[(0, (AV.ro 5 (p1.map o47))), (1, (AV.fn 59 []))], [], [JJ]⟩
  obtain ⟨r2, hr2, h⟩ := bnS h
  have h := Option.some.inj h
  subst h
  exact go_ret hΘ hm hP hn (hs := [⟨3, .callV [] (I r2), none⟩]) (rh := []) (ph := .raw) (ps := [Meets Try.prog 73 [(AV.ro 5 (p1.map o47)), (AV.fn 59 [])] (I r2), litA (I r2) = true, (B (decide (r2 ≥ 0))) = (B (decide (r2 ≥ 0))), litA (B (decide (r2 ≥ 0))) = true]) (by kernel_rfl) ⟨(slices_IndexFunc_Event_Event__impl_GoodTrace_1_m hr2), rfl, rfl, rfl, trivial⟩
noncomputable def body34 : Code := match Try.f34.body with | some c => c | none => .skip
noncomputable def impl_GoodTrace (p1 : (List GEvent)) : Option Bool :=
  if (decide ((p1.length : Int) ≤ 200)) = true then
    Option.bind (slices_ContainsFunc_Event_Event__impl_GoodTrace_1 p1) fun r3 =>
    some (!r3)
  else
    some false
theorem impl_GoodTrace_m {p1 : (List GEvent)} {r : Bool} (h : impl_GoodTrace p1 = some r) : Meets Try.prog 34 [(AV.ro 5 (p1.map o47))] (B r) := by
  refine meets_ofC Θ_ok Try.func34 rfl (c := body34) (by kernel_rfl) (Nat.le_of_ble_eq_true rfl) ?_
  intro E hP hn hx
  replace hn : E.n = 11 := hn
  have hm : E.P.follows .mixedOrders = true := by rw [hP]; exact mixed
  have hΘ : TOK E.P Θ := by rw [hP]; exact Θ_ok
  unfold impl_GoodTrace at h
  show WAt E body34 (FQ (RetE Θ Try.f34.results.toList [] [] (B r) E)) [] ⟨[(0, (AV.ro 5 (p1.map o47)))], [], [JJ]⟩
  rcases itS h with ⟨c2, h⟩ | ⟨c4, h⟩
  · obtain ⟨r3, hr3, h⟩ := bnS h
    have h := Option.some.inj h
    subst h
    exact go_ret hΘ hm hP hn (hs := [⟨2, .no, some (I (p1.length : Int))⟩, ⟨4, .no, some (B true)⟩, ⟨6, .callV [] (B r3), none⟩]) (rh := []) (ph := .raw) (ps := [AV.lit (.int .i64 (((p1.map o47).length : Nat) : Int)) = (I (p1.length : Int)), (B (decide ((p1.length : Int) ≤ 200))) = (B true), Meets Try.prog 58 [(AV.ro 5 (p1.map o47)), (AV.fn 59 [])] (B r3), litA (B r3) = true, (B (!r3)) = (B (!r3)), litA (B (!r3)) = true]) (by kernel_rfl) ⟨(lenM o47), (litB c2), (slices_ContainsFunc_Event_Event__impl_GoodTrace_1_m hr3), rfl, rfl, rfl, trivial⟩
  · have h := Option.some.inj h
    subst h
    exact go_ret hΘ hm hP hn (hs := [⟨2, .no, some (I (p1.length : Int))⟩, ⟨4, .no, some (B false)⟩]) (rh := []) (ph := .raw) (ps := [AV.lit (.int .i64 (((p1.map o47).length : Nat) : Int)) = (I (p1.length : Int)), (B (decide ((p1.length : Int) ≤ 200))) = (B false), (B false) = (B false), litA (B false) = true]) (by kernel_rfl) ⟨(lenM o47), (litB c4), rfl, rfl, trivial⟩
noncomputable def body67 : Code := match Try.f67.body with | some c => c | none => .skip
noncomputable def impl_Event_takes (p1 : GEvent) : Option Int :=
  if (p1.Kind == 4) = true then
    some p1.Obj
  else
    if (p1.Kind == 9) = true then
      some p1.Lock
    else
      some (-1)
theorem impl_Event_takes_m {p1 : GEvent} {r : Int} (h : impl_Event_takes p1 = some r) : Meets Try.prog 67 [(AV.agg ((o47 p1)))] (I r) := by
  refine meets_ofC Θ_ok Try.func67 rfl (c := body67) (by kernel_rfl) (Nat.le_of_ble_eq_true rfl) ?_
  intro E hP hn hx
  replace hn : E.n = 13 := hn
  have hm : E.P.follows .mixedOrders = true := by rw [hP]; exact mixed
  have hΘ : TOK E.P Θ := by rw [hP]; exact Θ_ok
  unfold impl_Event_takes at h
  show WAt E body67 (FQ (RetE Θ Try.f67.results.toList [] [] (I r) E)) [] ⟨[(0, (AV.agg ((o47 p1))))], [], [JJ]⟩
  rcases itS h with ⟨c2, h⟩ | ⟨c3, h⟩
  · have h := Option.some.inj h
    subst h
    exact go_ret hΘ hm hP hn (hs := [⟨0, .new 1001, none⟩, ⟨6, .br true, none⟩]) (rh := []) (ph := .raw) (ps := [(p1.Kind == 4) = true, (I p1.Obj) = (I p1.Obj), litA (I p1.Obj) = true]) (by kernel_rfl) ⟨c2, rfl, rfl, trivial⟩
  · rcases itS h with ⟨c4, h⟩ | ⟨c5, h⟩
    · have h := Option.some.inj h
      subst h
      exact go_ret hΘ hm hP hn (hs := [⟨0, .new 1001, none⟩, ⟨6, .br false, none⟩, ⟨9, .br true, none⟩]) (rh := []) (ph := .raw) (ps := [(p1.Kind == 4) = false, (p1.Kind == 9) = true, (I p1.Lock) = (I p1.Lock), litA (I p1.Lock) = true]) (by kernel_rfl) ⟨c3, c4, rfl, rfl, trivial⟩
    · have h := Option.some.inj h
      subst h
      exact go_ret hΘ hm hP hn (hs := [⟨0, .new 1001, none⟩, ⟨6, .br false, none⟩, ⟨9, .br false, none⟩]) (rh := []) (ph := .raw) (ps := [(p1.Kind == 4) = false, (p1.Kind == 9) = false, (I (-1)) = (I (-1)), litA (I (-1)) = true]) (by kernel_rfl) ⟨c3, c5, rfl, rfl, trivial⟩
noncomputable def body70 : Code := match Try.f70.body with | some c => c | none => .skip
noncomputable def impl_Event_gives (p1 : GEvent) : Option Int :=
  if (p1.Kind == 5) = true then
    some p1.Obj
  else
    if (p1.Kind == 8) = true then
      some p1.Lock
    else
      some (-1)
theorem impl_Event_gives_m {p1 : GEvent} {r : Int} (h : impl_Event_gives p1 = some r) : Meets Try.prog 70 [(AV.agg ((o47 p1)))] (I r) := by
  refine meets_ofC Θ_ok Try.func70 rfl (c := body70) (by kernel_rfl) (Nat.le_of_ble_eq_true rfl) ?_
  intro E hP hn hx
  replace hn : E.n = 13 := hn
  have hm : E.P.follows .mixedOrders = true := by rw [hP]; exact mixed
  have hΘ : TOK E.P Θ := by rw [hP]; exact Θ_ok
  unfold impl_Event_gives at h
  show WAt E body70 (FQ (RetE Θ Try.f70.results.toList [] [] (I r) E)) [] ⟨[(0, (AV.agg ((o47 p1))))], [], [JJ]⟩
  rcases itS h with ⟨c2, h⟩ | ⟨c3, h⟩
  · have h := Option.some.inj h
    subst h
    exact go_ret hΘ hm hP hn (hs := [⟨0, .new 1001, none⟩, ⟨6, .br true, none⟩]) (rh := []) (ph := .raw) (ps := [(p1.Kind == 5) = true, (I p1.Obj) = (I p1.Obj), litA (I p1.Obj) = true]) (by kernel_rfl) ⟨c2, rfl, rfl, trivial⟩
  · rcases itS h with ⟨c4, h⟩ | ⟨c5, h⟩
    · have h := Option.some.inj h
      subst h
      exact go_ret hΘ hm hP hn (hs := [⟨0, .new 1001, none⟩, ⟨6, .br false, none⟩, ⟨9, .br true, none⟩]) (rh := []) (ph := .raw) (ps := [(p1.Kind == 5) = false, (p1.Kind == 8) = true, (I p1.Lock) = (I p1.Lock), litA (I p1.Lock) = true]) (by kernel_rfl) ⟨c3, c4, rfl, rfl, trivial⟩
    · have h := Option.some.inj h
      subst h
      exact go_ret hΘ hm hP hn (hs := [⟨0, .new 1001, none⟩, ⟨6, .br false, none⟩, ⟨9, .br false, none⟩]) (rh := []) (ph := .raw) (ps := [(p1.Kind == 5) = false, (p1.Kind == 8) = false, (I (-1)) = (I (-1)), litA (I (-1)) = true]) (by kernel_rfl) ⟨c3, c5, rfl, rfl, trivial⟩
noncomputable def body55 : Code := match Try.f55.body with | some c => c | none => .skip
noncomputable def impl_held_j1 (K0 : (Vector Bool 100) → Int → Option (List Int)) (p2 : Int) (l4 : (List GEvent)) (v6 : Int) (a14 : (Vector Bool 100)) (a15 : GEvent) : Option (List Int) :=
  Option.bind (impl_Event_gives a15) fun r16 =>
  if (decide (r16 ≥ 0)) = true then
    Option.bind (rdv a14 r16) fun x18 =>
    K0 (a14.setIfInBounds (Int.toNat r16) false) (w64 (v6 + 1))
  else
    K0 a14 (w64 (v6 + 1))
theorem impl_held_j1_m {E : Env} (hP : E.P = Try.prog) (hn : E.n = 54) (hx : ∀ p, p ∈ E.fx → p.1 ∈ ([] : List Nat)) (p2 : Int) (l4 : (List GEvent)) (v6 : Int) {K0 : (Vector Bool 100) → Int → Option (List Int)} (hK0 : ∀ (a5 : (Vector Bool 100)) (v6 : Int) (r : (List Int)), K0 a5 v6 = some r → WAt E body55 (FQ (RetE Θ Try.f55.results.toList [] [] (AV.own 3 1 (r.map o3)) E)) [true, true, false, true, false] ⟨[(1, (I p2)), (7, (AV.ptr 1 0 0)), (18, (AV.ro 5 (l4.map o47))), (19, (I (l4.length : Int))), (20, (I v6))], [(1, some ⟨77, 100, [((o77 a5))]⟩)], [1, JJ]⟩) (a14 : (Vector Bool 100)) (a15 : GEvent) (r : (List Int)) (h : impl_held_j1 K0 p2 l4 v6 a14 a15 = some r) : WAt E body55 (FQ (RetE Θ Try.f55.results.toList [] [] (AV.own 3 1 (r.map o3)) E)) [true, true, false, true, false, false, true, true, false, false, true, true, true] ⟨[(1, (I p2)), (7, (AV.ptr 1 0 0)), (9, (AV.ptr 2 0 0)), (18, (AV.ro 5 (l4.map o47))), (19, (I (l4.length : Int))), (20, (I v6))], [(1, some ⟨77, 100, [((o77 a14))]⟩), (2, some ⟨47, 5, [((o47 a15))]⟩)], [1, 2, JJ]⟩ := by
  have hm : E.P.follows .mixedOrders = true := by rw [hP]; exact mixed
  have hΘ : TOK E.P Θ := by rw [hP]; exact Θ_ok
  unfold impl_held_j1 at h
  obtain ⟨r16, hr16, h⟩ := bnS h
  rcases itS h with ⟨c17, h⟩ | ⟨c19, h⟩
  · obtain ⟨x18, hx18, h⟩ := bnS h
    exact go_to hΘ hm hx hP hn (hs := [⟨1, .callV [[]] (I r16), none⟩, ⟨5, .br true, none⟩, ⟨8, .sto ((o77 a14)) [((o77 (a14.setIfInBounds (Int.toNat r16) false)))], none⟩]) (π := [(1, 1)]) (ts := [1, 7, 18, 19, 20]) (kp := []) (ps := [Meets Try.prog 70 [(AV.agg ((o47 a15)))] (I r16), litA (I r16) = true, (decide (r16 ≥ 0)) = true, (0 : Int) ≤ r16, r16 < ((100 : Nat) : Int), [((o77 a14))][0]? = some ((o77 a14)), [((o77 a14))].set 0 (wr ((o77 a14)) (Int.toNat r16) [(B false)]) = [((o77 (a14.setIfInBounds (Int.toNat r16) false)))], [(B false)].length = 1, (Int.toNat r16) + [(B false)].length ≤ ((o77 a14)).length, RenOK [(1, 1)] [((o77 (a14.setIfInBounds (Int.toNat r16) false)))]]) (by kernel_rfl) ⟨(impl_Event_gives_m hr16), rfl, c17, (rv0 hx18), (rvL hx18), rfl, (vecWr k4 _ (rvLt hx18)), rfl, (vecLe k4 hx18), (rok (treeB t77 (a14.setIfInBounds (Int.toNat r16) false))), trivial⟩ (hK0 (a14.setIfInBounds (Int.toNat r16) false) (w64 (v6 + 1)) _ h)
  · exact go_to hΘ hm hx hP hn (hs := [⟨1, .callV [[]] (I r16), none⟩, ⟨5, .br false, none⟩]) (π := [(1, 1)]) (ts := [1, 7, 18, 19, 20]) (kp := []) (ps := [Meets Try.prog 70 [(AV.agg ((o47 a15)))] (I r16), litA (I r16) = true, (decide (r16 ≥ 0)) = false, RenOK [(1, 1)] [((o77 a14))]]) (by kernel_rfl) ⟨(impl_Event_gives_m hr16), rfl, c19, (rok (treeB t77 a14)), trivial⟩ (hK0 a14 (w64 (v6 + 1)) _ h)
noncomputable def impl_held_l2  (a5 : (Vector Bool 100)) : Nat → (List Int) → Int → Option (List Int)
  | 0, _, _ => none
  | n + 1, a22, v23 =>
  if (decide (v23 < 100)) = true then
    Option.bind (rdv a5 v23) fun x25 =>
    if x25 = true then
      Option.bind (app a22 [v23]) fun l27 =>
      impl_held_l2 a5 n l27 (w64 (v23 + 1))
    else
      impl_held_l2 a5 n a22 (w64 (v23 + 1))
  else
    some a22
theorem impl_held_l2_m {E : Env} (hP : E.P = Try.prog) (hn : E.n = 54) (hx : ∀ p, p ∈ E.fx → p.1 ∈ ([] : List Nat)) (a5 : (Vector Bool 100))  : ∀ (n : Nat) (a22 : (List Int)) (v23 : Int) (r : (List Int)), impl_held_l2 a5 n a22 v23 = some r → WAt E body55 (FQ (RetE Θ Try.f55.results.toList [] [] (AV.own 3 1 (r.map o3)) E)) [true, true, true, true, false, true, false] ⟨[(12, (AV.sl 1 0 (List.length (a22.map o3)))), (42, (AV.agg ((o77 a5)))), (43, (I v23))], [(1, some ⟨3, 1, (a22.map o3)⟩)], [1, JJ]⟩ := by
  have hm : E.P.follows .mixedOrders = true := by rw [hP]; exact mixed
  have hΘ : TOK E.P Θ := by rw [hP]; exact Θ_ok
  intro n
  induction n with
  | zero => intro a22 v23 r h; simp only [impl_held_l2] at h; cases h
  | succ n ih =>
    intro a22 v23 r h
    simp only [impl_held_l2] at h
    rcases itS h with ⟨c24, h⟩ | ⟨c29, h⟩
    · obtain ⟨x25, hx25, h⟩ := bnS h
      rcases itS h with ⟨c26, h⟩ | ⟨c28, h⟩
      · obtain ⟨l27, hl27, h⟩ := bnS h
        exact go_to hΘ hm hx hP hn (hs := [⟨1, .br true, none⟩, ⟨3, .cel [] (B x25), none⟩, ⟨7, .br true, none⟩, ⟨10, .new 1001, none⟩, ⟨11, .app 1002 (l27.map o3), none⟩]) (π := [(1002, 1)]) (ts := [12, 42, 43]) (kp := [42]) (ps := [(decide (v23 < 100)) = true, (0 : Int) ≤ v23, v23 < ((100 : Nat) : Int), ((o77 a5))[(Int.toNat v23)]? = some (B x25), x25 = true, (a22.map o3).take (List.length (a22.map o3)) ++ ((([v23].map o3).drop 0).take (List.length ([v23].map o3))) = (l27.map o3), ((([v23].map o3).drop 0).take (List.length ([v23].map o3))).all (fun r => r.all AV.plain) = true, (List.length (l27.map o3)) * 8 ≤ 140737488355328, (List.length (l27.map o3)) ≤ 140737488355328, RenOK [(1002, 1)] (l27.map o3), tree (AV.agg ((o77 a5))) = true]) (by kernel_rfl) ⟨c24, (rv0 hx25), (rvL hx25), (rvM k4 hx25), c26, (appTD o3 hl27), (plD p3), (appB o3 hl27 (by decide)), (appC o3 hl27), (rok (treeM t3)), (t77 a5), trivial⟩ (ih l27 (w64 (v23 + 1)) _ h)
      · exact go_to hΘ hm hx hP hn (hs := [⟨1, .br true, none⟩, ⟨3, .cel [] (B x25), none⟩, ⟨7, .br false, none⟩]) (π := [(1, 1)]) (ts := [12, 42, 43]) (kp := [42]) (ps := [(decide (v23 < 100)) = true, (0 : Int) ≤ v23, v23 < ((100 : Nat) : Int), ((o77 a5))[(Int.toNat v23)]? = some (B x25), x25 = false, RenOK [(1, 1)] (a22.map o3), tree (AV.agg ((o77 a5))) = true]) (by kernel_rfl) ⟨c24, (rv0 hx25), (rvL hx25), (rvM k4 hx25), c28, (rok (treeM t3)), (t77 a5), trivial⟩ (ih a22 (w64 (v23 + 1)) _ h)
    · have h := Option.some.inj h
      subst h
      exact go_ret hΘ hm hP hn (hs := [⟨1, .br false, none⟩]) (rh := []) (ph := .own) (ps := [(decide (v23 < 100)) = false, treeLL ((a22.map o3).take (List.length (a22.map o3))) = true, (a22.map o3).take (List.length (a22.map o3)) = (a22.map o3), noRoLL (a22.map o3) = true]) (by kernel_rfl) ⟨c29, (treeT t3), takeM, (noRoM n3), trivial⟩
noncomputable def impl_held_l0  (p2 : Int) (l4 : (List GEvent)) : Nat → (Vector Bool 100) → Int → Option (List Int)
  | 0, _, _ => none
  | n + 1, a5, v6 =>
  if (decide (v6 < (l4.length : Int))) = true then
    Option.bind (rd l4 v6) fun x8 =>
    if (x8.Thread != p2) = true then
      impl_held_l0 p2 l4 n a5 (w64 (v6 + 1))
    else
      Option.bind (impl_Event_takes x8) fun r11 =>
      if (decide (r11 ≥ 0)) = true then
        Option.bind (rdv a5 r11) fun x13 =>
        impl_held_j1 (impl_held_l0 p2 l4 n) p2 l4 v6 (a5.setIfInBounds (Int.toNat r11) true) x8
      else
        impl_held_j1 (impl_held_l0 p2 l4 n) p2 l4 v6 a5 x8
  else
    impl_held_l2 a5 FU [] 0
theorem impl_held_l0_m {E : Env} (hP : E.P = Try.prog) (hn : E.n = 54) (hx : ∀ p, p ∈ E.fx → p.1 ∈ ([] : List Nat)) (p2 : Int) (l4 : (List GEvent))  : ∀ (n : Nat) (a5 : (Vector Bool 100)) (v6 : Int) (r : (List Int)), impl_held_l0 p2 l4 n a5 v6 = some r → WAt E body55 (FQ (RetE Θ Try.f55.results.toList [] [] (AV.own 3 1 (r.map o3)) E)) [true, true, false, true, false] ⟨[(1, (I p2)), (7, (AV.ptr 1 0 0)), (18, (AV.ro 5 (l4.map o47))), (19, (I (l4.length : Int))), (20, (I v6))], [(1, some ⟨77, 100, [((o77 a5))]⟩)], [1, JJ]⟩ := by
  have hm : E.P.follows .mixedOrders = true := by rw [hP]; exact mixed
  have hΘ : TOK E.P Θ := by rw [hP]; exact Θ_ok
  intro n
  induction n with
  | zero => intro a5 v6 r h; simp only [impl_held_l0] at h; cases h
  | succ n ih =>
    intro a5 v6 r h
    simp only [impl_held_l0] at h
    rcases itS h with ⟨c7, h⟩ | ⟨c21, h⟩
    · obtain ⟨x8, hx8, h⟩ := bnS h
      rcases itS h with ⟨c9, h⟩ | ⟨c10, h⟩
      · exact go_to hΘ hm hx hP hn (hs := [⟨1, .br true, none⟩, ⟨2, .row (o47 x8), none⟩, ⟨4, .new 1001, none⟩, ⟨10, .br true, none⟩]) (π := [(1, 1)]) (ts := [1, 7, 18, 19, 20]) (kp := []) (ps := [(decide (v6 < (l4.length : Int))) = true, (0 : Int) ≤ v6, (l4.map o47)[(Int.toNat v6)]? = some (o47 x8), (x8.Thread != p2) = true, RenOK [(1, 1)] [((o77 a5))]]) (by kernel_rfl) ⟨c7, (rd0 hx8), (rdM o47 hx8), c9, (rok (treeB t77 a5)), trivial⟩ (ih a5 (w64 (v6 + 1)) _ h)
      · obtain ⟨r11, hr11, h⟩ := bnS h
        rcases itS h with ⟨c12, h⟩ | ⟨c20, h⟩
        · obtain ⟨x13, hx13, h⟩ := bnS h
          exact go_to hΘ hm hx hP hn (hs := [⟨1, .br true, none⟩, ⟨2, .row (o47 x8), none⟩, ⟨4, .new 1001, none⟩, ⟨10, .br false, none⟩, ⟨12, .callV [[]] (I r11), none⟩, ⟨16, .br true, none⟩, ⟨19, .sto ((o77 a5)) [((o77 (a5.setIfInBounds (Int.toNat r11) true)))], none⟩]) (π := [(1, 1), (1001, 2)]) (ts := [1, 7, 9, 18, 19, 20]) (kp := []) (ps := [(decide (v6 < (l4.length : Int))) = true, (0 : Int) ≤ v6, (l4.map o47)[(Int.toNat v6)]? = some (o47 x8), (x8.Thread != p2) = false, Meets Try.prog 67 [(AV.agg ((o47 x8)))] (I r11), litA (I r11) = true, (decide (r11 ≥ 0)) = true, (0 : Int) ≤ r11, r11 < ((100 : Nat) : Int), [((o77 a5))][0]? = some ((o77 a5)), [((o77 a5))].set 0 (wr ((o77 a5)) (Int.toNat r11) [(B true)]) = [((o77 (a5.setIfInBounds (Int.toNat r11) true)))], [(B true)].length = 1, (Int.toNat r11) + [(B true)].length ≤ ((o77 a5)).length, RenOK [(1, 1), (1001, 2)] [((o77 (a5.setIfInBounds (Int.toNat r11) true)))], RenOK [(1, 1), (1001, 2)] [((o47 x8))]]) (by kernel_rfl) ⟨c7, (rd0 hx8), (rdM o47 hx8), c10, (impl_Event_takes_m hr11), rfl, c12, (rv0 hx13), (rvL hx13), rfl, (vecWr k4 _ (rvLt hx13)), rfl, (vecLe k4 hx13), (rok (treeB t77 (a5.setIfInBounds (Int.toNat r11) true))), (rok rfl), trivial⟩ (impl_held_j1_m hP hn hx p2 l4 v6 ih (a5.setIfInBounds (Int.toNat r11) true) x8 _ h)
        · exact go_to hΘ hm hx hP hn (hs := [⟨1, .br true, none⟩, ⟨2, .row (o47 x8), none⟩, ⟨4, .new 1001, none⟩, ⟨10, .br false, none⟩, ⟨12, .callV [[]] (I r11), none⟩, ⟨16, .br false, none⟩]) (π := [(1, 1), (1001, 2)]) (ts := [1, 7, 9, 18, 19, 20]) (kp := []) (ps := [(decide (v6 < (l4.length : Int))) = true, (0 : Int) ≤ v6, (l4.map o47)[(Int.toNat v6)]? = some (o47 x8), (x8.Thread != p2) = false, Meets Try.prog 67 [(AV.agg ((o47 x8)))] (I r11), litA (I r11) = true, (decide (r11 ≥ 0)) = false, RenOK [(1, 1), (1001, 2)] [((o77 a5))], RenOK [(1, 1), (1001, 2)] [((o47 x8))]]) (by kernel_rfl) ⟨c7, (rd0 hx8), (rdM o47 hx8), c10, (impl_Event_takes_m hr11), rfl, c20, (rok (treeB t77 a5)), (rok rfl), trivial⟩ (impl_held_j1_m hP hn hx p2 l4 v6 ih a5 x8 _ h)
    · exact go_to hΘ hm hx hP hn (hs := [⟨1, .br false, none⟩, ⟨2, .new 1001, none⟩, ⟨4, .agg ((o77 a5)) ((o77 a5)), none⟩]) (π := [(1001, 1)]) (ts := [12, 42, 43]) (kp := [42]) (ps := [(decide (v6 < (l4.length : Int))) = false, 0 + 100 ≤ ((o77 a5)).length, (((o77 a5)).drop 0).take 100 = ((o77 a5)), ((o77 a5)).all AV.plain = true, [((o77 a5))][0]? = some ((o77 a5)), RenOK [(1001, 1)] ([].map o3), tree (AV.agg ((o77 a5))) = true]) (by kernel_rfl) ⟨c21, (vecLe0 k4), (vecAgg k4), (p77 _), rfl, (rok (treeM t3)), (t77 a5), trivial⟩ (impl_held_l2_m hP hn hx a5 FU [] 0 _ h)
noncomputable def impl_held (p1 : (List GEvent)) (p2 : Int) (p3 : Int) : Option (List Int) :=
  Option.bind (slc p1 0 p3) fun l4 =>
  impl_held_l0 p2 l4 FU (Vector.replicate 100 false) 0
theorem impl_held_m {p1 : (List GEvent)} {p2 : Int} {p3 : Int} {r : (List Int)} (h : impl_held p1 p2 p3 = some r) : Meets Try.prog 55 [(AV.ro 5 (p1.map o47)), (I p2), (I p3)] (AV.own 3 1 (r.map o3)) := by
  refine meets_ofC Θ_ok Try.func55 rfl (c := body55) (by kernel_rfl) (Nat.le_of_ble_eq_true rfl) ?_
  intro E hP hn hx
  replace hn : E.n = 54 := hn
  have hm : E.P.follows .mixedOrders = true := by rw [hP]; exact mixed
  have hΘ : TOK E.P Θ := by rw [hP]; exact Θ_ok
  unfold impl_held at h
  show WAt E body55 (FQ (RetE Θ Try.f55.results.toList [] [] (AV.own 3 1 (r.map o3)) E)) [] ⟨[(0, (AV.ro 5 (p1.map o47))), (1, (I p2)), (2, (I p3))], [], [JJ]⟩
  obtain ⟨l4, hl4, h⟩ := bnS h
  exact go_to hΘ hm hx hP hn (hs := [⟨1, .no, some (AV.agg ((o77 (Vector.replicate 100 false))))⟩, ⟨2, .nw 1001 [((o77 (Vector.replicate 100 false)))], none⟩, ⟨3, .stoS ((o77 (Vector.replicate 100 false))) [((o77 (Vector.replicate 100 false)))], none⟩, ⟨6, .no, some (AV.ro 5 (l4.map o47))⟩, ⟨7, .no, some (I (l4.length : Int))⟩]) (π := [(1001, 1)]) (ts := [1, 7, 18, 19, 20]) (kp := []) (ps := [AV.agg (litL (List.replicate 100 (.bool false))) = (AV.agg ((o77 (Vector.replicate 100 false)))), [litL (List.replicate 100 (.bool false))] = [((o77 (Vector.replicate 100 false)))], [((o77 (Vector.replicate 100 false)))][0]? = some ((o77 (Vector.replicate 100 false))), [((o77 (Vector.replicate 100 false)))].set 0 (wr ((o77 (Vector.replicate 100 false))) 0 ((o77 (Vector.replicate 100 false)))) = [((o77 (Vector.replicate 100 false)))], ((o77 (Vector.replicate 100 false))).length = 100, 0 + ((o77 (Vector.replicate 100 false))).length ≤ ((o77 (Vector.replicate 100 false))).length, ((o77 (Vector.replicate 100 false))).all okLit = true, AV.ro 5 (((p1.map o47).drop (Int.toNat 0)).take (subO (Int.toNat p3) (Int.toNat 0))) = (AV.ro 5 (l4.map o47)), (0 : Int) ≤ 0, 0 ≤ p3, p3 ≤ (((p1.map o47).length : Nat) : Int), AV.lit (.int .i64 (((l4.map o47).length : Nat) : Int)) = (I (l4.length : Int)), RenOK [(1001, 1)] [((o77 (Vector.replicate 100 false)))]]) (by kernel_rfl) ⟨(vecZeroA k4 rfl), (vecZero k4 rfl), rfl, (vecSt k4 k4), (vecLen k4), (vecLL k4 k4), (vecAll k4 (fun _ => rfl)), (slM 5 o47 hl4), (sl0 hl4), (sl1 hl4), (sl2 o47 hl4), (lenM o47), (rok (treeB t77 (Vector.replicate 100 false))), trivial⟩ (impl_held_l0_m hP hn hx p2 l4 FU (Vector.replicate 100 false) 0 _ h)
noncomputable def body48 : Code := match Try.f48.body with | some c => c | none => .skip
noncomputable def impl_unders_l1 (K0 : (List GUnder) → Int → Option (List GUnder)) (p1 : (List GEvent)) (v3 : Int) (r9 : (List Int)) : Nat → (List GUnder) → GEvent → (List Int) → Int → Option (List GUnder)
  | 0, _, _, _, _ => none
  | n + 1, a10, a11, a12, v13 =>
  if (decide (v13 < (r9.length : Int))) = true then
    Option.bind (rd a12 v13) fun x15 =>
    Option.bind (impl_Event_takes a11) fun r16 =>
    Option.bind (app a10 [(GUnder.mk x15 r16 a11.Thread v3)]) fun l17 =>
    impl_unders_l1 K0 p1 v3 r9 n l17 a11 a12 (w64 (v13 + 1))
  else
    K0 a10 (w64 (v3 + 1))
theorem impl_unders_l1_m {E : Env} (hP : E.P = Try.prog) (hn : E.n = 42) (hx : ∀ p, p ∈ E.fx → p.1 ∈ ([] : List Nat)) (p1 : (List GEvent)) (v3 : Int) (r9 : (List Int)) {K0 : (List GUnder) → Int → Option (List GUnder)} (hK0 : ∀ (a2 : (List GUnder)) (v3 : Int) (r : (List GUnder)), K0 a2 v3 = some r → WAt E body48 (FQ (RetE Θ Try.f48.results.toList [] [] (AV.own 71 4 (r.map o71)) E)) [true, true, false, true, false] ⟨[(0, (AV.ro 5 (p1.map o47))), (3, (AV.sl 1 0 (List.length (a2.map o71)))), (9, (AV.ro 5 (p1.map o47))), (10, (I (p1.length : Int))), (11, (I v3))], [(1, some ⟨71, 4, (a2.map o71)⟩)], [1, JJ]⟩) : ∀ (n : Nat) (a10 : (List GUnder)) (a11 : GEvent) (a12 : (List Int)) (v13 : Int) (r : (List GUnder)), impl_unders_l1 K0 p1 v3 r9 n a10 a11 a12 v13 = some r → WAt E body48 (FQ (RetE Θ Try.f48.results.toList [] [] (AV.own 71 4 (r.map o71)) E)) [true, true, false, true, false, false, true, true, false, false, true, true, true, false] ⟨[(0, (AV.ro 5 (p1.map o47))), (3, (AV.sl 1 0 (List.length (a10.map o71)))), (4, (I v3)), (5, (AV.ptr 2 0 0)), (9, (AV.ro 5 (p1.map o47))), (10, (I (p1.length : Int))), (11, (I v3)), (23, (AV.sl 3 0 (List.length (a12.map o3)))), (24, (I (r9.length : Int))), (25, (I v13))], [(1, some ⟨71, 4, (a10.map o71)⟩), (2, some ⟨47, 5, [((o47 a11))]⟩), (3, some ⟨3, 1, (a12.map o3)⟩)], [1, 2, 3, JJ]⟩ := by
  have hm : E.P.follows .mixedOrders = true := by rw [hP]; exact mixed
  have hΘ : TOK E.P Θ := by rw [hP]; exact Θ_ok
  intro n
  induction n with
  | zero => intro a10 a11 a12 v13 r h; simp only [impl_unders_l1] at h; cases h
  | succ n ih =>
    intro a10 a11 a12 v13 r h
    simp only [impl_unders_l1] at h
    rcases itS h with ⟨c14, h⟩ | ⟨c18, h⟩
    · obtain ⟨x15, hx15, h⟩ := bnS h
      obtain ⟨r16, hr16, h⟩ := bnS h
      obtain ⟨l17, hl17, h⟩ := bnS h
      exact go_to hΘ hm hx hP hn (hs := [⟨1, .br true, none⟩, ⟨3, .row [(I x15)], none⟩, ⟨8, .callV [[]] (I r16), none⟩, ⟨13, .new 1001, none⟩, ⟨15, .app 1002 (l17.map o71), none⟩]) (π := [(1002, 1), (2, 2), (3, 3)]) (ts := [0, 3, 4, 5, 9, 10, 11, 23, 24, 25]) (kp := []) (ps := [(decide (v13 < (r9.length : Int))) = true, (0 : Int) ≤ v13, v13 < (((List.length (a12.map o3)) : Nat) : Int), (a12.map o3)[(Int.toNat v13)]? = some [(I x15)], Meets Try.prog 67 [(AV.agg ((o47 a11)))] (I r16), litA (I r16) = true, (AV.sl 1 0 (List.length (a10.map o71))) = (AV.sl 1 0 (List.length (a10.map o71))), (a10.map o71).take (List.length (a10.map o71)) ++ ((([(GUnder.mk x15 r16 a11.Thread v3)].map o71).drop 0).take (List.length ([(GUnder.mk x15 r16 a11.Thread v3)].map o71))) = (l17.map o71), ((([(GUnder.mk x15 r16 a11.Thread v3)].map o71).drop 0).take (List.length ([(GUnder.mk x15 r16 a11.Thread v3)].map o71))).all (fun r => r.all AV.plain) = true, (List.length (l17.map o71)) * 32 ≤ 140737488355328, (List.length (l17.map o71)) ≤ 140737488355328, RenOK [(1002, 1), (2, 2), (3, 3)] (l17.map o71), RenOK [(1002, 1), (2, 2), (3, 3)] [((o47 a11))], RenOK [(1002, 1), (2, 2), (3, 3)] (a12.map o3)]) (by kernel_rfl) ⟨c14, (rd0 hx15), (rdL o3 hx15), (rdM o3 hx15), (impl_Event_takes_m hr16), rfl, rfl, (appTD o71 hl17), (plD p71), (appB o71 hl17 (by decide)), (appC o71 hl17), (rok (treeM t71)), (rok rfl), (rok (treeM t3)), trivial⟩ (ih l17 a11 a12 (w64 (v13 + 1)) _ h)
    · exact go_to hΘ hm hx hP hn (hs := [⟨1, .br false, none⟩]) (π := [(1, 1)]) (ts := [0, 3, 9, 10, 11]) (kp := []) (ps := [(decide (v13 < (r9.length : Int))) = false, RenOK [(1, 1)] (a10.map o71)]) (by kernel_rfl) ⟨c18, (rok (treeM t71)), trivial⟩ (hK0 a10 (w64 (v3 + 1)) _ h)
noncomputable def impl_unders_l0  (p1 : (List GEvent)) : Nat → (List GUnder) → Int → Option (List GUnder)
  | 0, _, _ => none
  | n + 1, a2, v3 =>
  if (decide (v3 < (p1.length : Int))) = true then
    Option.bind (rd p1 v3) fun x5 =>
    Option.bind (impl_Event_takes x5) fun r6 =>
    if (decide (r6 < 0)) = true then
      impl_unders_l0 p1 n a2 (w64 (v3 + 1))
    else
      Option.bind (impl_held p1 x5.Thread v3) fun r9 =>
      impl_unders_l1 (impl_unders_l0 p1 n) p1 v3 r9 FU a2 x5 r9 0
  else
    some a2
theorem impl_unders_l0_m {E : Env} (hP : E.P = Try.prog) (hn : E.n = 42) (hx : ∀ p, p ∈ E.fx → p.1 ∈ ([] : List Nat)) (p1 : (List GEvent))  : ∀ (n : Nat) (a2 : (List GUnder)) (v3 : Int) (r : (List GUnder)), impl_unders_l0 p1 n a2 v3 = some r → WAt E body48 (FQ (RetE Θ Try.f48.results.toList [] [] (AV.own 71 4 (r.map o71)) E)) [true, true, false, true, false] ⟨[(0, (AV.ro 5 (p1.map o47))), (3, (AV.sl 1 0 (List.length (a2.map o71)))), (9, (AV.ro 5 (p1.map o47))), (10, (I (p1.length : Int))), (11, (I v3))], [(1, some ⟨71, 4, (a2.map o71)⟩)], [1, JJ]⟩ := by
  have hm : E.P.follows .mixedOrders = true := by rw [hP]; exact mixed
  have hΘ : TOK E.P Θ := by rw [hP]; exact Θ_ok
  intro n
  induction n with
  | zero => intro a2 v3 r h; simp only [impl_unders_l0] at h; cases h
  | succ n ih =>
    intro a2 v3 r h
    simp only [impl_unders_l0] at h
    rcases itS h with ⟨c4, h⟩ | ⟨c19, h⟩
    · obtain ⟨x5, hx5, h⟩ := bnS h
      obtain ⟨r6, hr6, h⟩ := bnS h
      rcases itS h with ⟨c7, h⟩ | ⟨c8, h⟩
      · exact go_to hΘ hm hx hP hn (hs := [⟨1, .br true, none⟩, ⟨3, .row (o47 x5), none⟩, ⟨5, .new 1001, none⟩, ⟨9, .callV [[]] (I r6), none⟩, ⟨11, .br true, none⟩]) (π := [(1, 1)]) (ts := [0, 3, 9, 10, 11]) (kp := []) (ps := [(decide (v3 < (p1.length : Int))) = true, (0 : Int) ≤ v3, (p1.map o47)[(Int.toNat v3)]? = some (o47 x5), Meets Try.prog 67 [(AV.agg ((o47 x5)))] (I r6), litA (I r6) = true, (decide (r6 < 0)) = true, RenOK [(1, 1)] (a2.map o71)]) (by kernel_rfl) ⟨c4, (rd0 hx5), (rdM o47 hx5), (impl_Event_takes_m hr6), rfl, c7, (rok (treeM t71)), trivial⟩ (ih a2 (w64 (v3 + 1)) _ h)
      · obtain ⟨r9, hr9, h⟩ := bnS h
        exact go_to hΘ hm hx hP hn (hs := [⟨1, .br true, none⟩, ⟨3, .row (o47 x5), none⟩, ⟨5, .new 1001, none⟩, ⟨9, .callV [[]] (I r6), none⟩, ⟨11, .br false, none⟩, ⟨16, .call [] (AV.own 3 1 (r9.map o3)) [1002], none⟩, ⟨17, .no, some (I (r9.length : Int))⟩]) (π := [(1, 1), (1001, 2), (1002, 3)]) (ts := [0, 3, 4, 5, 9, 10, 11, 23, 24, 25]) (kp := []) (ps := [(decide (v3 < (p1.length : Int))) = true, (0 : Int) ≤ v3, (p1.map o47)[(Int.toNat v3)]? = some (o47 x5), Meets Try.prog 67 [(AV.agg ((o47 x5)))] (I r6), litA (I r6) = true, (decide (r6 < 0)) = false, Meets Try.prog 55 [(AV.ro 5 (p1.map o47)), (I x5.Thread), (I v3)] (AV.own 3 1 (r9.map o3)), noRo (AV.own 3 1 (r9.map o3)) = true, AV.lit (.int .i64 (((List.length (r9.map o3)) : Nat) : Int)) = (I (r9.length : Int)), RenOK [(1, 1), (1001, 2), (1002, 3)] (a2.map o71), RenOK [(1, 1), (1001, 2), (1002, 3)] [((o47 x5))], RenOK [(1, 1), (1001, 2), (1002, 3)] (r9.map o3)]) (by kernel_rfl) ⟨c4, (rd0 hx5), (rdM o47 hx5), (impl_Event_takes_m hr6), rfl, c8, (impl_held_m hr9), (by simp only [noRo, noRoL, noRoM n3, Bool.and_self]), (lenM o3), (rok (treeM t71)), (rok rfl), (rok (treeM t3)), trivial⟩ (impl_unders_l1_m hP hn hx p1 v3 r9 ih FU a2 x5 r9 0 _ h)
    · have h := Option.some.inj h
      subst h
      exact go_ret hΘ hm hP hn (hs := [⟨1, .br false, none⟩]) (rh := []) (ph := .own) (ps := [(decide (v3 < (p1.length : Int))) = false, treeLL ((a2.map o71).take (List.length (a2.map o71))) = true, (a2.map o71).take (List.length (a2.map o71)) = (a2.map o71), noRoLL (a2.map o71) = true]) (by kernel_rfl) ⟨c19, (treeT t71), takeM, (noRoM n71), trivial⟩
noncomputable def impl_unders (p1 : (List GEvent)) : Option (List GUnder) :=
  impl_unders_l0 p1 FU [] 0
theorem impl_unders_m {p1 : (List GEvent)} {r : (List GUnder)} (h : impl_unders p1 = some r) : Meets Try.prog 48 [(AV.ro 5 (p1.map o47))] (AV.own 71 4 (r.map o71)) := by
  refine meets_ofC Θ_ok Try.func48 rfl (c := body48) (by kernel_rfl) (Nat.le_of_ble_eq_true rfl) ?_
  intro E hP hn hx
  replace hn : E.n = 42 := hn
  have hm : E.P.follows .mixedOrders = true := by rw [hP]; exact mixed
  have hΘ : TOK E.P Θ := by rw [hP]; exact Θ_ok
  unfold impl_unders at h
  show WAt E body48 (FQ (RetE Θ Try.f48.results.toList [] [] (AV.own 71 4 (r.map o71)) E)) [] ⟨[(0, (AV.ro 5 (p1.map o47)))], [], [JJ]⟩
  exact go_to hΘ hm hx hP hn (hs := [⟨1, .new 1001, none⟩, ⟨4, .no, some (I (p1.length : Int))⟩]) (π := [(1001, 1)]) (ts := [0, 3, 9, 10, 11]) (kp := []) (ps := [AV.lit (.int .i64 (((p1.map o47).length : Nat) : Int)) = (I (p1.length : Int)), RenOK [(1001, 1)] ([].map o71)]) (by kernel_rfl) ⟨(lenM o47), (rok (treeM t71)), trivial⟩ (impl_unders_l0_m hP hn hx p1 FU [] 0 _ h)
noncomputable def body25 : Code := match Try.f25.body with | some c => c | none => .skip
noncomputable def impl_UndersIn (p1 : (List GEvent)) : Option ((List GUnder) × Bool) :=
  Option.bind (impl_GoodTrace p1) fun r2 =>
  if (!r2) = true then
    some ([], false)
  else
    Option.bind (impl_unders p1) fun r5 =>
    some (r5, true)
theorem impl_UndersIn_m {p1 : (List GEvent)} {r : ((List GUnder) × Bool)} (h : impl_UndersIn p1 = some r) : Meets Try.prog 25 [(AV.ro 5 (p1.map o47))] (AV.tup [(AV.own 71 4 (r.1.map o71)), (B r.2)]) := by
  refine meets_ofC Θ_ok Try.func25 rfl (c := body25) (by kernel_rfl) (Nat.le_of_ble_eq_true rfl) ?_
  intro E hP hn hx
  replace hn : E.n = 9 := hn
  have hm : E.P.follows .mixedOrders = true := by rw [hP]; exact mixed
  have hΘ : TOK E.P Θ := by rw [hP]; exact Θ_ok
  unfold impl_UndersIn at h
  show WAt E body25 (FQ (RetE Θ Try.f25.results.toList [] [] (AV.tup [(AV.own 71 4 (r.1.map o71)), (B r.2)]) E)) [] ⟨[(0, (AV.ro 5 (p1.map o47)))], [], [JJ]⟩
  obtain ⟨r2, hr2, h⟩ := bnS h
  rcases itS h with ⟨c3, h⟩ | ⟨c4, h⟩
  · have h := Option.some.inj h
    subst h
    exact go_ret hΘ hm hP hn (hs := [⟨3, .callV [] (B r2), none⟩, ⟨5, .br true, none⟩]) (rh := []) (ph := .agg [.own, .raw]) (ps := [Meets Try.prog 34 [(AV.ro 5 (p1.map o47))] (B r2), litA (B r2) = true, (!r2) = true, (B false) = (B false), litA (B false) = true]) (by kernel_rfl) ⟨(impl_GoodTrace_m hr2), rfl, c3, rfl, rfl, trivial⟩
  · obtain ⟨r5, hr5, h⟩ := bnS h
    have h := Option.some.inj h
    subst h
    exact go_ret hΘ hm hP hn (hs := [⟨3, .callV [] (B r2), none⟩, ⟨5, .br false, none⟩, ⟨7, .call [] (AV.own 71 4 (r5.map o71)) [1001], none⟩]) (rh := []) (ph := .agg [.own, .raw]) (ps := [Meets Try.prog 34 [(AV.ro 5 (p1.map o47))] (B r2), litA (B r2) = true, (!r2) = false, Meets Try.prog 48 [(AV.ro 5 (p1.map o47))] (AV.own 71 4 (r5.map o71)), noRo (AV.own 71 4 (r5.map o71)) = true, treeLL ((r5.map o71).take (List.length (r5.map o71))) = true, (r5.map o71).take (List.length (r5.map o71)) = (r5.map o71), noRoLL (r5.map o71) = true, (B true) = (B true), litA (B true) = true]) (by kernel_rfl) ⟨(impl_GoodTrace_m hr2), rfl, c4, (impl_unders_m hr5), (by simp only [noRo, noRoL, noRoM n71, Bool.and_self]), (treeT t71), takeM, (noRoM n71), rfl, rfl, trivial⟩
noncomputable def body37 : Code := match Try.f37.body with | some c => c | none => .skip
noncomputable def laws_eqEvent (p1 : GEvent) (p2 : GEvent) : Option Bool :=
  if (p1.Thread != p2.Thread) = true then
    some false
  else
    if (p1.Kind != p2.Kind) = true then
      some false
    else
      if (p1.Obj != p2.Obj) = true then
        some false
      else
        if (p1.Lock != p2.Lock) = true then
          some false
        else
          if (p1.Pc != p2.Pc) = true then
            some false
          else
            some true
theorem laws_eqEvent_m {p1 : GEvent} {p2 : GEvent} {r : Bool} (h : laws_eqEvent p1 p2 = some r) : Meets Try.prog 37 [(AV.agg ((o47 p1))), (AV.agg ((o47 p2)))] (B r) := by
  refine meets_ofC Θ_ok Try.func37 rfl (c := body37) (by kernel_rfl) (Nat.le_of_ble_eq_true rfl) ?_
  intro E hP hn hx
  replace hn : E.n = 30 := hn
  have hm : E.P.follows .mixedOrders = true := by rw [hP]; exact mixed
  have hΘ : TOK E.P Θ := by rw [hP]; exact Θ_ok
  unfold laws_eqEvent at h
  show WAt E body37 (FQ (RetE Θ Try.f37.results.toList [] [] (B r) E)) [] ⟨[(0, (AV.agg ((o47 p1)))), (1, (AV.agg ((o47 p2))))], [], [JJ]⟩
  rcases itS h with ⟨c3, h⟩ | ⟨c4, h⟩
  · have h := Option.some.inj h
    subst h
    exact go_ret hΘ hm hP hn (hs := [⟨0, .new 1001, none⟩, ⟨1, .new 1002, none⟩, ⟨8, .br true, none⟩]) (rh := []) (ph := .raw) (ps := [(p1.Thread != p2.Thread) = true, (B false) = (B false), litA (B false) = true]) (by kernel_rfl) ⟨c3, rfl, rfl, trivial⟩
  · rcases itS h with ⟨c5, h⟩ | ⟨c6, h⟩
    · have h := Option.some.inj h
      subst h
      exact go_ret hΘ hm hP hn (hs := [⟨0, .new 1001, none⟩, ⟨1, .new 1002, none⟩, ⟨8, .br false, none⟩, ⟨14, .br true, none⟩]) (rh := []) (ph := .raw) (ps := [(p1.Thread != p2.Thread) = false, (p1.Kind != p2.Kind) = true, (B false) = (B false), litA (B false) = true]) (by kernel_rfl) ⟨c4, c5, rfl, rfl, trivial⟩
    · rcases itS h with ⟨c7, h⟩ | ⟨c8, h⟩
      · have h := Option.some.inj h
        subst h
        exact go_ret hΘ hm hP hn (hs := [⟨0, .new 1001, none⟩, ⟨1, .new 1002, none⟩, ⟨8, .br false, none⟩, ⟨14, .br false, none⟩, ⟨20, .br true, none⟩]) (rh := []) (ph := .raw) (ps := [(p1.Thread != p2.Thread) = false, (p1.Kind != p2.Kind) = false, (p1.Obj != p2.Obj) = true, (B false) = (B false), litA (B false) = true]) (by kernel_rfl) ⟨c4, c6, c7, rfl, rfl, trivial⟩
      · rcases itS h with ⟨c9, h⟩ | ⟨c10, h⟩
        · have h := Option.some.inj h
          subst h
          exact go_ret hΘ hm hP hn (hs := [⟨0, .new 1001, none⟩, ⟨1, .new 1002, none⟩, ⟨8, .br false, none⟩, ⟨14, .br false, none⟩, ⟨20, .br false, none⟩, ⟨26, .br true, none⟩]) (rh := []) (ph := .raw) (ps := [(p1.Thread != p2.Thread) = false, (p1.Kind != p2.Kind) = false, (p1.Obj != p2.Obj) = false, (p1.Lock != p2.Lock) = true, (B false) = (B false), litA (B false) = true]) (by kernel_rfl) ⟨c4, c6, c8, c9, rfl, rfl, trivial⟩
        · rcases itS h with ⟨c11, h⟩ | ⟨c12, h⟩
          · have h := Option.some.inj h
            subst h
            exact go_ret hΘ hm hP hn (hs := [⟨0, .new 1001, none⟩, ⟨1, .new 1002, none⟩, ⟨8, .br false, none⟩, ⟨14, .br false, none⟩, ⟨20, .br false, none⟩, ⟨26, .br false, none⟩, ⟨32, .br true, none⟩]) (rh := []) (ph := .raw) (ps := [(p1.Thread != p2.Thread) = false, (p1.Kind != p2.Kind) = false, (p1.Obj != p2.Obj) = false, (p1.Lock != p2.Lock) = false, (p1.Pc != p2.Pc) = true, (B false) = (B false), litA (B false) = true]) (by kernel_rfl) ⟨c4, c6, c8, c10, c11, rfl, rfl, trivial⟩
          · have h := Option.some.inj h
            subst h
            exact go_ret hΘ hm hP hn (hs := [⟨0, .new 1001, none⟩, ⟨1, .new 1002, none⟩, ⟨8, .br false, none⟩, ⟨14, .br false, none⟩, ⟨20, .br false, none⟩, ⟨26, .br false, none⟩, ⟨32, .br false, none⟩]) (rh := []) (ph := .raw) (ps := [(p1.Thread != p2.Thread) = false, (p1.Kind != p2.Kind) = false, (p1.Obj != p2.Obj) = false, (p1.Lock != p2.Lock) = false, (p1.Pc != p2.Pc) = false, (B true) = (B true), litA (B true) = true]) (by kernel_rfl) ⟨c4, c6, c8, c10, c12, rfl, rfl, trivial⟩
noncomputable def body13 : Code := match Try.f13.body with | some c => c | none => .skip
noncomputable def laws_eqEventS_l0  (p1 : (List GEvent)) (p2 : (List GEvent)) : Nat → Int → Option Bool
  | 0, _ => none
  | n + 1, v5 =>
  if (decide (v5 < (p1.length : Int))) = true then
    Option.bind (rd p1 v5) fun x7 =>
    Option.bind (rd p2 v5) fun x8 =>
    Option.bind (laws_eqEvent x7 x8) fun r9 =>
    if (!r9) = true then
      some false
    else
      laws_eqEventS_l0 p1 p2 n (w64 (v5 + 1))
  else
    some true
theorem laws_eqEventS_l0_m {E : Env} (hP : E.P = Try.prog) (hn : E.n = 27) (hx : ∀ p, p ∈ E.fx → p.1 ∈ ([] : List Nat)) (p1 : (List GEvent)) (p2 : (List GEvent))  : ∀ (n : Nat) (v5 : Int) (r : Bool), laws_eqEventS_l0 p1 p2 n v5 = some r → WAt E body13 (FQ (RetE Θ Try.f13.results.toList [] [] (B r) E)) [true, true, false, true, false] ⟨[(0, (AV.ro 5 (p1.map o47))), (1, (AV.ro 5 (p2.map o47))), (5, (I v5))], [], [JJ]⟩ := by
  have hm : E.P.follows .mixedOrders = true := by rw [hP]; exact mixed
  have hΘ : TOK E.P Θ := by rw [hP]; exact Θ_ok
  intro n
  induction n with
  | zero => intro v5 r h; simp only [laws_eqEventS_l0] at h; cases h
  | succ n ih =>
    intro v5 r h
    simp only [laws_eqEventS_l0] at h
    rcases itS h with ⟨c6, h⟩ | ⟨c12, h⟩
    · obtain ⟨x7, hx7, h⟩ := bnS h
      obtain ⟨x8, hx8, h⟩ := bnS h
      obtain ⟨r9, hr9, h⟩ := bnS h
      rcases itS h with ⟨c10, h⟩ | ⟨c11, h⟩
      · have h := Option.some.inj h
        subst h
        exact go_ret hΘ hm hP hn (hs := [⟨2, .no, some (I (p1.length : Int))⟩, ⟨4, .br true, none⟩, ⟨7, .row (o47 x7), none⟩, ⟨11, .row (o47 x8), none⟩, ⟨13, .callV [[], []] (B r9), none⟩, ⟨15, .br true, none⟩]) (rh := []) (ph := .raw) (ps := [AV.lit (.int .i64 (((p1.map o47).length : Nat) : Int)) = (I (p1.length : Int)), (decide (v5 < (p1.length : Int))) = true, (0 : Int) ≤ v5, (p1.map o47)[(Int.toNat v5)]? = some (o47 x7), (0 : Int) ≤ v5, (p2.map o47)[(Int.toNat v5)]? = some (o47 x8), Meets Try.prog 37 [(AV.agg ((o47 x7))), (AV.agg ((o47 x8)))] (B r9), litA (B r9) = true, (!r9) = true, (B false) = (B false), litA (B false) = true]) (by kernel_rfl) ⟨(lenM o47), c6, (rd0 hx7), (rdM o47 hx7), (rd0 hx8), (rdM o47 hx8), (laws_eqEvent_m hr9), rfl, c10, rfl, rfl, trivial⟩
      · exact go_to hΘ hm hx hP hn (hs := [⟨2, .no, some (I (p1.length : Int))⟩, ⟨4, .br true, none⟩, ⟨7, .row (o47 x7), none⟩, ⟨11, .row (o47 x8), none⟩, ⟨13, .callV [[], []] (B r9), none⟩, ⟨15, .br false, none⟩]) (π := []) (ts := [0, 1, 5]) (kp := []) (ps := [AV.lit (.int .i64 (((p1.map o47).length : Nat) : Int)) = (I (p1.length : Int)), (decide (v5 < (p1.length : Int))) = true, (0 : Int) ≤ v5, (p1.map o47)[(Int.toNat v5)]? = some (o47 x7), (0 : Int) ≤ v5, (p2.map o47)[(Int.toNat v5)]? = some (o47 x8), Meets Try.prog 37 [(AV.agg ((o47 x7))), (AV.agg ((o47 x8)))] (B r9), litA (B r9) = true, (!r9) = false]) (by kernel_rfl) ⟨(lenM o47), c6, (rd0 hx7), (rdM o47 hx7), (rd0 hx8), (rdM o47 hx8), (laws_eqEvent_m hr9), rfl, c11, trivial⟩ (ih (w64 (v5 + 1)) _ h)
    · have h := Option.some.inj h
      subst h
      exact go_ret hΘ hm hP hn (hs := [⟨2, .no, some (I (p1.length : Int))⟩, ⟨4, .br false, none⟩]) (rh := []) (ph := .raw) (ps := [AV.lit (.int .i64 (((p1.map o47).length : Nat) : Int)) = (I (p1.length : Int)), (decide (v5 < (p1.length : Int))) = false, (B true) = (B true), litA (B true) = true]) (by kernel_rfl) ⟨(lenM o47), c12, rfl, rfl, trivial⟩
noncomputable def laws_eqEventS (p1 : (List GEvent)) (p2 : (List GEvent)) : Option Bool :=
  if ((p1.length : Int) != (p2.length : Int)) = true then
    some false
  else
    laws_eqEventS_l0 p1 p2 FU 0
theorem laws_eqEventS_m {p1 : (List GEvent)} {p2 : (List GEvent)} {r : Bool} (h : laws_eqEventS p1 p2 = some r) : Meets Try.prog 13 [(AV.ro 5 (p1.map o47)), (AV.ro 5 (p2.map o47))] (B r) := by
  refine meets_ofC Θ_ok Try.func13 rfl (c := body13) (by kernel_rfl) (Nat.le_of_ble_eq_true rfl) ?_
  intro E hP hn hx
  replace hn : E.n = 27 := hn
  have hm : E.P.follows .mixedOrders = true := by rw [hP]; exact mixed
  have hΘ : TOK E.P Θ := by rw [hP]; exact Θ_ok
  unfold laws_eqEventS at h
  show WAt E body13 (FQ (RetE Θ Try.f13.results.toList [] [] (B r) E)) [] ⟨[(0, (AV.ro 5 (p1.map o47))), (1, (AV.ro 5 (p2.map o47)))], [], [JJ]⟩
  rcases itS h with ⟨c3, h⟩ | ⟨c4, h⟩
  · have h := Option.some.inj h
    subst h
    exact go_ret hΘ hm hP hn (hs := [⟨2, .no, some (I (p1.length : Int))⟩, ⟨4, .no, some (I (p2.length : Int))⟩, ⟨6, .br true, none⟩]) (rh := []) (ph := .raw) (ps := [AV.lit (.int .i64 (((p1.map o47).length : Nat) : Int)) = (I (p1.length : Int)), AV.lit (.int .i64 (((p2.map o47).length : Nat) : Int)) = (I (p2.length : Int)), ((p1.length : Int) != (p2.length : Int)) = true, (B false) = (B false), litA (B false) = true]) (by kernel_rfl) ⟨(lenM o47), (lenM o47), c3, rfl, rfl, trivial⟩
  · exact go_to hΘ hm hx hP hn (hs := [⟨2, .no, some (I (p1.length : Int))⟩, ⟨4, .no, some (I (p2.length : Int))⟩, ⟨6, .br false, none⟩]) (π := []) (ts := [0, 1, 5]) (kp := []) (ps := [AV.lit (.int .i64 (((p1.map o47).length : Nat) : Int)) = (I (p1.length : Int)), AV.lit (.int .i64 (((p2.map o47).length : Nat) : Int)) = (I (p2.length : Int)), ((p1.length : Int) != (p2.length : Int)) = false]) (by kernel_rfl) ⟨(lenM o47), (lenM o47), c4, trivial⟩ (laws_eqEventS_l0_m hP hn hx p1 p2 FU 0 _ h)
noncomputable def body49 : Code := match Try.f49.body with | some c => c | none => .skip
noncomputable def laws_eqUnder (p1 : GUnder) (p2 : GUnder) : Option Bool :=
  if (p1.Had != p2.Had) = true then
    some false
  else
    if (p1.Taken != p2.Taken) = true then
      some false
    else
      if (p1.Thread != p2.Thread) = true then
        some false
      else
        if (p1.At != p2.At) = true then
          some false
        else
          some true
theorem laws_eqUnder_m {p1 : GUnder} {p2 : GUnder} {r : Bool} (h : laws_eqUnder p1 p2 = some r) : Meets Try.prog 49 [(AV.agg ((o71 p1))), (AV.agg ((o71 p2)))] (B r) := by
  refine meets_ofC Θ_ok Try.func49 rfl (c := body49) (by kernel_rfl) (Nat.le_of_ble_eq_true rfl) ?_
  intro E hP hn hx
  replace hn : E.n = 25 := hn
  have hm : E.P.follows .mixedOrders = true := by rw [hP]; exact mixed
  have hΘ : TOK E.P Θ := by rw [hP]; exact Θ_ok
  unfold laws_eqUnder at h
  show WAt E body49 (FQ (RetE Θ Try.f49.results.toList [] [] (B r) E)) [] ⟨[(0, (AV.agg ((o71 p1)))), (1, (AV.agg ((o71 p2))))], [], [JJ]⟩
  rcases itS h with ⟨c3, h⟩ | ⟨c4, h⟩
  · have h := Option.some.inj h
    subst h
    exact go_ret hΘ hm hP hn (hs := [⟨0, .new 1001, none⟩, ⟨1, .new 1002, none⟩, ⟨8, .br true, none⟩]) (rh := []) (ph := .raw) (ps := [(p1.Had != p2.Had) = true, (B false) = (B false), litA (B false) = true]) (by kernel_rfl) ⟨c3, rfl, rfl, trivial⟩
  · rcases itS h with ⟨c5, h⟩ | ⟨c6, h⟩
    · have h := Option.some.inj h
      subst h
      exact go_ret hΘ hm hP hn (hs := [⟨0, .new 1001, none⟩, ⟨1, .new 1002, none⟩, ⟨8, .br false, none⟩, ⟨14, .br true, none⟩]) (rh := []) (ph := .raw) (ps := [(p1.Had != p2.Had) = false, (p1.Taken != p2.Taken) = true, (B false) = (B false), litA (B false) = true]) (by kernel_rfl) ⟨c4, c5, rfl, rfl, trivial⟩
    · rcases itS h with ⟨c7, h⟩ | ⟨c8, h⟩
      · have h := Option.some.inj h
        subst h
        exact go_ret hΘ hm hP hn (hs := [⟨0, .new 1001, none⟩, ⟨1, .new 1002, none⟩, ⟨8, .br false, none⟩, ⟨14, .br false, none⟩, ⟨20, .br true, none⟩]) (rh := []) (ph := .raw) (ps := [(p1.Had != p2.Had) = false, (p1.Taken != p2.Taken) = false, (p1.Thread != p2.Thread) = true, (B false) = (B false), litA (B false) = true]) (by kernel_rfl) ⟨c4, c6, c7, rfl, rfl, trivial⟩
      · rcases itS h with ⟨c9, h⟩ | ⟨c10, h⟩
        · have h := Option.some.inj h
          subst h
          exact go_ret hΘ hm hP hn (hs := [⟨0, .new 1001, none⟩, ⟨1, .new 1002, none⟩, ⟨8, .br false, none⟩, ⟨14, .br false, none⟩, ⟨20, .br false, none⟩, ⟨26, .br true, none⟩]) (rh := []) (ph := .raw) (ps := [(p1.Had != p2.Had) = false, (p1.Taken != p2.Taken) = false, (p1.Thread != p2.Thread) = false, (p1.At != p2.At) = true, (B false) = (B false), litA (B false) = true]) (by kernel_rfl) ⟨c4, c6, c8, c9, rfl, rfl, trivial⟩
        · have h := Option.some.inj h
          subst h
          exact go_ret hΘ hm hP hn (hs := [⟨0, .new 1001, none⟩, ⟨1, .new 1002, none⟩, ⟨8, .br false, none⟩, ⟨14, .br false, none⟩, ⟨20, .br false, none⟩, ⟨26, .br false, none⟩]) (rh := []) (ph := .raw) (ps := [(p1.Had != p2.Had) = false, (p1.Taken != p2.Taken) = false, (p1.Thread != p2.Thread) = false, (p1.At != p2.At) = false, (B true) = (B true), litA (B true) = true]) (by kernel_rfl) ⟨c4, c6, c8, c10, rfl, rfl, trivial⟩
noncomputable def body26 : Code := match Try.f26.body with | some c => c | none => .skip
noncomputable def laws_eqUnderS_l0  (p1 : (List GUnder)) (p2 : (List GUnder)) : Nat → Int → Option Bool
  | 0, _ => none
  | n + 1, v5 =>
  if (decide (v5 < (p1.length : Int))) = true then
    Option.bind (rd p1 v5) fun x7 =>
    Option.bind (rd p2 v5) fun x8 =>
    Option.bind (laws_eqUnder x7 x8) fun r9 =>
    if (!r9) = true then
      some false
    else
      laws_eqUnderS_l0 p1 p2 n (w64 (v5 + 1))
  else
    some true
theorem laws_eqUnderS_l0_m {E : Env} (hP : E.P = Try.prog) (hn : E.n = 27) (hx : ∀ p, p ∈ E.fx → p.1 ∈ ([] : List Nat)) (p1 : (List GUnder)) (p2 : (List GUnder))  : ∀ (n : Nat) (v5 : Int) (r : Bool), laws_eqUnderS_l0 p1 p2 n v5 = some r → WAt E body26 (FQ (RetE Θ Try.f26.results.toList [] [] (B r) E)) [true, true, false, true, false] ⟨[(0, (AV.ro 4 (p1.map o71))), (1, (AV.ro 4 (p2.map o71))), (5, (I v5))], [], [JJ]⟩ := by
  have hm : E.P.follows .mixedOrders = true := by rw [hP]; exact mixed
  have hΘ : TOK E.P Θ := by rw [hP]; exact Θ_ok
  intro n
  induction n with
  | zero => intro v5 r h; simp only [laws_eqUnderS_l0] at h; cases h
  | succ n ih =>
    intro v5 r h
    simp only [laws_eqUnderS_l0] at h
    rcases itS h with ⟨c6, h⟩ | ⟨c12, h⟩
    · obtain ⟨x7, hx7, h⟩ := bnS h
      obtain ⟨x8, hx8, h⟩ := bnS h
      obtain ⟨r9, hr9, h⟩ := bnS h
      rcases itS h with ⟨c10, h⟩ | ⟨c11, h⟩
      · have h := Option.some.inj h
        subst h
        exact go_ret hΘ hm hP hn (hs := [⟨2, .no, some (I (p1.length : Int))⟩, ⟨4, .br true, none⟩, ⟨7, .row (o71 x7), none⟩, ⟨11, .row (o71 x8), none⟩, ⟨13, .callV [[], []] (B r9), none⟩, ⟨15, .br true, none⟩]) (rh := []) (ph := .raw) (ps := [AV.lit (.int .i64 (((p1.map o71).length : Nat) : Int)) = (I (p1.length : Int)), (decide (v5 < (p1.length : Int))) = true, (0 : Int) ≤ v5, (p1.map o71)[(Int.toNat v5)]? = some (o71 x7), (0 : Int) ≤ v5, (p2.map o71)[(Int.toNat v5)]? = some (o71 x8), Meets Try.prog 49 [(AV.agg ((o71 x7))), (AV.agg ((o71 x8)))] (B r9), litA (B r9) = true, (!r9) = true, (B false) = (B false), litA (B false) = true]) (by kernel_rfl) ⟨(lenM o71), c6, (rd0 hx7), (rdM o71 hx7), (rd0 hx8), (rdM o71 hx8), (laws_eqUnder_m hr9), rfl, c10, rfl, rfl, trivial⟩
      · exact go_to hΘ hm hx hP hn (hs := [⟨2, .no, some (I (p1.length : Int))⟩, ⟨4, .br true, none⟩, ⟨7, .row (o71 x7), none⟩, ⟨11, .row (o71 x8), none⟩, ⟨13, .callV [[], []] (B r9), none⟩, ⟨15, .br false, none⟩]) (π := []) (ts := [0, 1, 5]) (kp := []) (ps := [AV.lit (.int .i64 (((p1.map o71).length : Nat) : Int)) = (I (p1.length : Int)), (decide (v5 < (p1.length : Int))) = true, (0 : Int) ≤ v5, (p1.map o71)[(Int.toNat v5)]? = some (o71 x7), (0 : Int) ≤ v5, (p2.map o71)[(Int.toNat v5)]? = some (o71 x8), Meets Try.prog 49 [(AV.agg ((o71 x7))), (AV.agg ((o71 x8)))] (B r9), litA (B r9) = true, (!r9) = false]) (by kernel_rfl) ⟨(lenM o71), c6, (rd0 hx7), (rdM o71 hx7), (rd0 hx8), (rdM o71 hx8), (laws_eqUnder_m hr9), rfl, c11, trivial⟩ (ih (w64 (v5 + 1)) _ h)
    · have h := Option.some.inj h
      subst h
      exact go_ret hΘ hm hP hn (hs := [⟨2, .no, some (I (p1.length : Int))⟩, ⟨4, .br false, none⟩]) (rh := []) (ph := .raw) (ps := [AV.lit (.int .i64 (((p1.map o71).length : Nat) : Int)) = (I (p1.length : Int)), (decide (v5 < (p1.length : Int))) = false, (B true) = (B true), litA (B true) = true]) (by kernel_rfl) ⟨(lenM o71), c12, rfl, rfl, trivial⟩
noncomputable def laws_eqUnderS (p1 : (List GUnder)) (p2 : (List GUnder)) : Option Bool :=
  if ((p1.length : Int) != (p2.length : Int)) = true then
    some false
  else
    laws_eqUnderS_l0 p1 p2 FU 0
theorem laws_eqUnderS_m {p1 : (List GUnder)} {p2 : (List GUnder)} {r : Bool} (h : laws_eqUnderS p1 p2 = some r) : Meets Try.prog 26 [(AV.ro 4 (p1.map o71)), (AV.ro 4 (p2.map o71))] (B r) := by
  refine meets_ofC Θ_ok Try.func26 rfl (c := body26) (by kernel_rfl) (Nat.le_of_ble_eq_true rfl) ?_
  intro E hP hn hx
  replace hn : E.n = 27 := hn
  have hm : E.P.follows .mixedOrders = true := by rw [hP]; exact mixed
  have hΘ : TOK E.P Θ := by rw [hP]; exact Θ_ok
  unfold laws_eqUnderS at h
  show WAt E body26 (FQ (RetE Θ Try.f26.results.toList [] [] (B r) E)) [] ⟨[(0, (AV.ro 4 (p1.map o71))), (1, (AV.ro 4 (p2.map o71)))], [], [JJ]⟩
  rcases itS h with ⟨c3, h⟩ | ⟨c4, h⟩
  · have h := Option.some.inj h
    subst h
    exact go_ret hΘ hm hP hn (hs := [⟨2, .no, some (I (p1.length : Int))⟩, ⟨4, .no, some (I (p2.length : Int))⟩, ⟨6, .br true, none⟩]) (rh := []) (ph := .raw) (ps := [AV.lit (.int .i64 (((p1.map o71).length : Nat) : Int)) = (I (p1.length : Int)), AV.lit (.int .i64 (((p2.map o71).length : Nat) : Int)) = (I (p2.length : Int)), ((p1.length : Int) != (p2.length : Int)) = true, (B false) = (B false), litA (B false) = true]) (by kernel_rfl) ⟨(lenM o71), (lenM o71), c3, rfl, rfl, trivial⟩
  · exact go_to hΘ hm hx hP hn (hs := [⟨2, .no, some (I (p1.length : Int))⟩, ⟨4, .no, some (I (p2.length : Int))⟩, ⟨6, .br false, none⟩]) (π := []) (ts := [0, 1, 5]) (kp := []) (ps := [AV.lit (.int .i64 (((p1.map o71).length : Nat) : Int)) = (I (p1.length : Int)), AV.lit (.int .i64 (((p2.map o71).length : Nat) : Int)) = (I (p2.length : Int)), ((p1.length : Int) != (p2.length : Int)) = false]) (by kernel_rfl) ⟨(lenM o71), (lenM o71), c4, trivial⟩ (laws_eqUnderS_l0_m hP hn hx p1 p2 FU 0 _ h)
noncomputable def body28 : Code := match Try.f28.body with | some c => c | none => .skip
noncomputable def laws_heldUnderS_l0  (p1 : (List GUnder)) : Nat → Int → Int → Option Int
  | 0, _, _ => none
  | n + 1, v3, v4 =>
  if (decide (v4 < (p1.length : Int))) = true then
    Option.bind (rd p1 v4) fun x6 =>
    if (x6.Had != v3) = true then
      some (-1)
    else
      if (x6.Taken != (w64 (v3 + 1))) = true then
        some (-1)
      else
        if (x6.Thread != (w64 ((w64 (v3 + 1)) + 1))) = true then
          some (-1)
        else
          if (x6.At != (w64 ((w64 ((w64 (v3 + 1)) + 1)) + 1))) = true then
            some (-1)
          else
            laws_heldUnderS_l0 p1 n (w64 ((w64 ((w64 ((w64 (v3 + 1)) + 1)) + 1)) + 1)) (w64 (v4 + 1))
  else
    some v3
theorem laws_heldUnderS_l0_m {E : Env} (hP : E.P = Try.prog) (hn : E.n = 49) (hx : ∀ p, p ∈ E.fx → p.1 ∈ ([] : List Nat)) (p1 : (List GUnder))  : ∀ (n : Nat) (v3 : Int) (v4 : Int) (r : Int), laws_heldUnderS_l0 p1 n v3 v4 = some r → WAt E body28 (FQ (RetE Θ Try.f28.results.toList [] [] (I r) E)) [true, false, true, false] ⟨[(0, (AV.ro 4 (p1.map o71))), (1, (I v3)), (5, (I v4))], [], [JJ]⟩ := by
  have hm : E.P.follows .mixedOrders = true := by rw [hP]; exact mixed
  have hΘ : TOK E.P Θ := by rw [hP]; exact Θ_ok
  intro n
  induction n with
  | zero => intro v3 v4 r h; simp only [laws_heldUnderS_l0] at h; cases h
  | succ n ih =>
    intro v3 v4 r h
    simp only [laws_heldUnderS_l0] at h
    rcases itS h with ⟨c5, h⟩ | ⟨c15, h⟩
    · obtain ⟨x6, hx6, h⟩ := bnS h
      rcases itS h with ⟨c7, h⟩ | ⟨c8, h⟩
      · have h := Option.some.inj h
        subst h
        exact go_ret hΘ hm hP hn (hs := [⟨2, .no, some (I (p1.length : Int))⟩, ⟨4, .br true, none⟩, ⟨7, .row (o71 x6), none⟩, ⟨12, .br true, none⟩]) (rh := []) (ph := .raw) (ps := [AV.lit (.int .i64 (((p1.map o71).length : Nat) : Int)) = (I (p1.length : Int)), (decide (v4 < (p1.length : Int))) = true, (0 : Int) ≤ v4, (p1.map o71)[(Int.toNat v4)]? = some (o71 x6), (x6.Had != v3) = true, (I (-1)) = (I (-1)), litA (I (-1)) = true]) (by kernel_rfl) ⟨(lenM o71), c5, (rd0 hx6), (rdM o71 hx6), c7, rfl, rfl, trivial⟩
      · rcases itS h with ⟨c9, h⟩ | ⟨c10, h⟩
        · have h := Option.some.inj h
          subst h
          exact go_ret hΘ hm hP hn (hs := [⟨2, .no, some (I (p1.length : Int))⟩, ⟨4, .br true, none⟩, ⟨7, .row (o71 x6), none⟩, ⟨12, .br false, none⟩, ⟨18, .row (o71 x6), none⟩, ⟨23, .br true, none⟩]) (rh := []) (ph := .raw) (ps := [AV.lit (.int .i64 (((p1.map o71).length : Nat) : Int)) = (I (p1.length : Int)), (decide (v4 < (p1.length : Int))) = true, (0 : Int) ≤ v4, (p1.map o71)[(Int.toNat v4)]? = some (o71 x6), (x6.Had != v3) = false, (0 : Int) ≤ v4, (p1.map o71)[(Int.toNat v4)]? = some (o71 x6), (x6.Taken != (w64 (v3 + 1))) = true, (I (-1)) = (I (-1)), litA (I (-1)) = true]) (by kernel_rfl) ⟨(lenM o71), c5, (rd0 hx6), (rdM o71 hx6), c8, (rd0 hx6), (rdM o71 hx6), c9, rfl, rfl, trivial⟩
        · rcases itS h with ⟨c11, h⟩ | ⟨c12, h⟩
          · have h := Option.some.inj h
            subst h
            exact go_ret hΘ hm hP hn (hs := [⟨2, .no, some (I (p1.length : Int))⟩, ⟨4, .br true, none⟩, ⟨7, .row (o71 x6), none⟩, ⟨12, .br false, none⟩, ⟨18, .row (o71 x6), none⟩, ⟨23, .br false, none⟩, ⟨29, .row (o71 x6), none⟩, ⟨34, .br true, none⟩]) (rh := []) (ph := .raw) (ps := [AV.lit (.int .i64 (((p1.map o71).length : Nat) : Int)) = (I (p1.length : Int)), (decide (v4 < (p1.length : Int))) = true, (0 : Int) ≤ v4, (p1.map o71)[(Int.toNat v4)]? = some (o71 x6), (x6.Had != v3) = false, (0 : Int) ≤ v4, (p1.map o71)[(Int.toNat v4)]? = some (o71 x6), (x6.Taken != (w64 (v3 + 1))) = false, (0 : Int) ≤ v4, (p1.map o71)[(Int.toNat v4)]? = some (o71 x6), (x6.Thread != (w64 ((w64 (v3 + 1)) + 1))) = true, (I (-1)) = (I (-1)), litA (I (-1)) = true]) (by kernel_rfl) ⟨(lenM o71), c5, (rd0 hx6), (rdM o71 hx6), c8, (rd0 hx6), (rdM o71 hx6), c10, (rd0 hx6), (rdM o71 hx6), c11, rfl, rfl, trivial⟩
          · rcases itS h with ⟨c13, h⟩ | ⟨c14, h⟩
            · have h := Option.some.inj h
              subst h
              exact go_ret hΘ hm hP hn (hs := [⟨2, .no, some (I (p1.length : Int))⟩, ⟨4, .br true, none⟩, ⟨7, .row (o71 x6), none⟩, ⟨12, .br false, none⟩, ⟨18, .row (o71 x6), none⟩, ⟨23, .br false, none⟩, ⟨29, .row (o71 x6), none⟩, ⟨34, .br false, none⟩, ⟨40, .row (o71 x6), none⟩, ⟨45, .br true, none⟩]) (rh := []) (ph := .raw) (ps := [AV.lit (.int .i64 (((p1.map o71).length : Nat) : Int)) = (I (p1.length : Int)), (decide (v4 < (p1.length : Int))) = true, (0 : Int) ≤ v4, (p1.map o71)[(Int.toNat v4)]? = some (o71 x6), (x6.Had != v3) = false, (0 : Int) ≤ v4, (p1.map o71)[(Int.toNat v4)]? = some (o71 x6), (x6.Taken != (w64 (v3 + 1))) = false, (0 : Int) ≤ v4, (p1.map o71)[(Int.toNat v4)]? = some (o71 x6), (x6.Thread != (w64 ((w64 (v3 + 1)) + 1))) = false, (0 : Int) ≤ v4, (p1.map o71)[(Int.toNat v4)]? = some (o71 x6), (x6.At != (w64 ((w64 ((w64 (v3 + 1)) + 1)) + 1))) = true, (I (-1)) = (I (-1)), litA (I (-1)) = true]) (by kernel_rfl) ⟨(lenM o71), c5, (rd0 hx6), (rdM o71 hx6), c8, (rd0 hx6), (rdM o71 hx6), c10, (rd0 hx6), (rdM o71 hx6), c12, (rd0 hx6), (rdM o71 hx6), c13, rfl, rfl, trivial⟩
            · exact go_to hΘ hm hx hP hn (hs := [⟨2, .no, some (I (p1.length : Int))⟩, ⟨4, .br true, none⟩, ⟨7, .row (o71 x6), none⟩, ⟨12, .br false, none⟩, ⟨18, .row (o71 x6), none⟩, ⟨23, .br false, none⟩, ⟨29, .row (o71 x6), none⟩, ⟨34, .br false, none⟩, ⟨40, .row (o71 x6), none⟩, ⟨45, .br false, none⟩]) (π := []) (ts := [0, 1, 5]) (kp := []) (ps := [AV.lit (.int .i64 (((p1.map o71).length : Nat) : Int)) = (I (p1.length : Int)), (decide (v4 < (p1.length : Int))) = true, (0 : Int) ≤ v4, (p1.map o71)[(Int.toNat v4)]? = some (o71 x6), (x6.Had != v3) = false, (0 : Int) ≤ v4, (p1.map o71)[(Int.toNat v4)]? = some (o71 x6), (x6.Taken != (w64 (v3 + 1))) = false, (0 : Int) ≤ v4, (p1.map o71)[(Int.toNat v4)]? = some (o71 x6), (x6.Thread != (w64 ((w64 (v3 + 1)) + 1))) = false, (0 : Int) ≤ v4, (p1.map o71)[(Int.toNat v4)]? = some (o71 x6), (x6.At != (w64 ((w64 ((w64 (v3 + 1)) + 1)) + 1))) = false]) (by kernel_rfl) ⟨(lenM o71), c5, (rd0 hx6), (rdM o71 hx6), c8, (rd0 hx6), (rdM o71 hx6), c10, (rd0 hx6), (rdM o71 hx6), c12, (rd0 hx6), (rdM o71 hx6), c14, trivial⟩ (ih (w64 ((w64 ((w64 ((w64 (v3 + 1)) + 1)) + 1)) + 1)) (w64 (v4 + 1)) _ h)
    · have h := Option.some.inj h
      subst h
      exact go_ret hΘ hm hP hn (hs := [⟨2, .no, some (I (p1.length : Int))⟩, ⟨4, .br false, none⟩]) (rh := []) (ph := .raw) (ps := [AV.lit (.int .i64 (((p1.map o71).length : Nat) : Int)) = (I (p1.length : Int)), (decide (v4 < (p1.length : Int))) = false, (I v3) = (I v3), litA (I v3) = true]) (by kernel_rfl) ⟨(lenM o71), c15, rfl, rfl, trivial⟩
noncomputable def laws_heldUnderS (p1 : (List GUnder)) (p2 : Int) : Option Int :=
  laws_heldUnderS_l0 p1 FU p2 0
theorem laws_heldUnderS_m {p1 : (List GUnder)} {p2 : Int} {r : Int} (h : laws_heldUnderS p1 p2 = some r) : Meets Try.prog 28 [(AV.ro 4 (p1.map o71)), (I p2)] (I r) := by
  refine meets_ofC Θ_ok Try.func28 rfl (c := body28) (by kernel_rfl) (Nat.le_of_ble_eq_true rfl) ?_
  intro E hP hn hx
  replace hn : E.n = 49 := hn
  have hm : E.P.follows .mixedOrders = true := by rw [hP]; exact mixed
  have hΘ : TOK E.P Θ := by rw [hP]; exact Θ_ok
  unfold laws_heldUnderS at h
  show WAt E body28 (FQ (RetE Θ Try.f28.results.toList [] [] (I r) E)) [] ⟨[(0, (AV.ro 4 (p1.map o71))), (1, (I p2))], [], [JJ]⟩
  exact go_to hΘ hm hx hP hn (hs := []) (π := []) (ts := [0, 1, 5]) (kp := []) (ps := []) (by kernel_rfl) trivial (laws_heldUnderS_l0_m hP hn hx p1 FU p2 0 _ h)
noncomputable def body14 : Code := match Try.f14.body with | some c => c | none => .skip
noncomputable def laws_markEventS_l0   : Nat → (List GEvent) → Int → Int → Option (Int × (List GEvent))
  | 0, _, _, _ => none
  | n + 1, a3, v4, v5 =>
  if (decide (v5 < (a3.length : Int))) = true then
    Option.bind (rd a3 v5) fun x7 =>
    laws_markEventS_l0 n (a3.set (Int.toNat v5) (GEvent.mk v4 (w64 (v4 + 1)) (w64 ((w64 (v4 + 1)) + 1)) (w64 ((w64 ((w64 (v4 + 1)) + 1)) + 1)) (w64 ((w64 ((w64 ((w64 (v4 + 1)) + 1)) + 1)) + 1)))) (w64 ((w64 ((w64 ((w64 ((w64 (v4 + 1)) + 1)) + 1)) + 1)) + 1)) (w64 (v5 + 1))
  else
    some (v4, a3)
theorem laws_markEventS_l0_m {E : Env} (hP : E.P = Try.prog) (hn : E.n = 48) (hx : ∀ p, p ∈ E.fx → p.1 ∈ ([0] : List Nat))   : ∀ (n : Nat) (a3 : (List GEvent)) (v4 : Int) (v5 : Int) (r : (Int × (List GEvent))), laws_markEventS_l0  n a3 v4 v5 = some r → WAt E body14 (FQ (RetE Θ Try.f14.results.toList [true] [⟨47, 5, (r.2.map o47)⟩] (I r.1) E)) [true, false, true, false] ⟨[(0, (AV.sl 0 0 (List.length (a3.map o47)))), (1, (I v4)), (5, (I v5))], [(0, some ⟨47, 5, (a3.map o47)⟩)], [0, JJ]⟩ := by
  have hm : E.P.follows .mixedOrders = true := by rw [hP]; exact mixed
  have hΘ : TOK E.P Θ := by rw [hP]; exact Θ_ok
  intro n
  induction n with
  | zero => intro a3 v4 v5 r h; simp only [laws_markEventS_l0] at h; cases h
  | succ n ih =>
    intro a3 v4 v5 r h
    simp only [laws_markEventS_l0] at h
    rcases itS h with ⟨c6, h⟩ | ⟨c8, h⟩
    · obtain ⟨x7, hx7, h⟩ := bnS h
      exact go_to hΘ hm hx hP hn (hs := [⟨2, .no, some (I (a3.length : Int))⟩, ⟨4, .br true, none⟩, ⟨10, .sto ((o47 x7)) ((a3.set (Int.toNat v5) (GEvent.mk v4 x7.Kind x7.Obj x7.Lock x7.Pc)).map o47), none⟩, ⟨14, .slen 0 (List.length ((a3.set (Int.toNat v5) (GEvent.mk v4 x7.Kind x7.Obj x7.Lock x7.Pc)).map o47)), none⟩, ⟨19, .sto [(I v4), (I x7.Kind), (I x7.Obj), (I x7.Lock), (I x7.Pc)] ((a3.set (Int.toNat v5) (GEvent.mk v4 (w64 (v4 + 1)) x7.Obj x7.Lock x7.Pc)).map o47), none⟩, ⟨23, .slen 0 (List.length ((a3.set (Int.toNat v5) (GEvent.mk v4 (w64 (v4 + 1)) x7.Obj x7.Lock x7.Pc)).map o47)), none⟩, ⟨28, .sto [(I v4), (I (w64 (v4 + 1))), (I x7.Obj), (I x7.Lock), (I x7.Pc)] ((a3.set (Int.toNat v5) (GEvent.mk v4 (w64 (v4 + 1)) (w64 ((w64 (v4 + 1)) + 1)) x7.Lock x7.Pc)).map o47), none⟩, ⟨32, .slen 0 (List.length ((a3.set (Int.toNat v5) (GEvent.mk v4 (w64 (v4 + 1)) (w64 ((w64 (v4 + 1)) + 1)) x7.Lock x7.Pc)).map o47)), none⟩, ⟨37, .sto [(I v4), (I (w64 (v4 + 1))), (I (w64 ((w64 (v4 + 1)) + 1))), (I x7.Lock), (I x7.Pc)] ((a3.set (Int.toNat v5) (GEvent.mk v4 (w64 (v4 + 1)) (w64 ((w64 (v4 + 1)) + 1)) (w64 ((w64 ((w64 (v4 + 1)) + 1)) + 1)) x7.Pc)).map o47), none⟩, ⟨41, .slen 0 (List.length ((a3.set (Int.toNat v5) (GEvent.mk v4 (w64 (v4 + 1)) (w64 ((w64 (v4 + 1)) + 1)) (w64 ((w64 ((w64 (v4 + 1)) + 1)) + 1)) x7.Pc)).map o47)), none⟩, ⟨46, .sto [(I v4), (I (w64 (v4 + 1))), (I (w64 ((w64 (v4 + 1)) + 1))), (I (w64 ((w64 ((w64 (v4 + 1)) + 1)) + 1))), (I x7.Pc)] ((a3.set (Int.toNat v5) (GEvent.mk v4 (w64 (v4 + 1)) (w64 ((w64 (v4 + 1)) + 1)) (w64 ((w64 ((w64 (v4 + 1)) + 1)) + 1)) (w64 ((w64 ((w64 ((w64 (v4 + 1)) + 1)) + 1)) + 1)))).map o47), none⟩, ⟨53, .slen 0 (List.length ((a3.set (Int.toNat v5) (GEvent.mk v4 (w64 (v4 + 1)) (w64 ((w64 (v4 + 1)) + 1)) (w64 ((w64 ((w64 (v4 + 1)) + 1)) + 1)) (w64 ((w64 ((w64 ((w64 (v4 + 1)) + 1)) + 1)) + 1)))).map o47)), none⟩]) (π := [(0, 0)]) (ts := [0, 1, 5]) (kp := []) (ps := [AV.lit (.int .i64 (((List.length (a3.map o47)) : Nat) : Int)) = (I (a3.length : Int)), (decide (v5 < (a3.length : Int))) = true, (0 : Int) ≤ v5, v5 < (((List.length (a3.map o47)) : Nat) : Int), (a3.map o47)[(Int.toNat v5)]? = some ((o47 x7)), (a3.map o47).set (Int.toNat v5) (wr ((o47 x7)) 0 [(I v4)]) = ((a3.set (Int.toNat v5) (GEvent.mk v4 x7.Kind x7.Obj x7.Lock x7.Pc)).map o47), [(I v4)].length = 1, 0 + [(I v4)].length ≤ ((o47 x7)).length, (List.length (a3.map o47)) = (List.length ((a3.set (Int.toNat v5) (GEvent.mk v4 x7.Kind x7.Obj x7.Lock x7.Pc)).map o47)), (0 : Int) ≤ v5, v5 < (((List.length ((a3.set (Int.toNat v5) (GEvent.mk v4 x7.Kind x7.Obj x7.Lock x7.Pc)).map o47)) : Nat) : Int), ((a3.set (Int.toNat v5) (GEvent.mk v4 x7.Kind x7.Obj x7.Lock x7.Pc)).map o47)[(Int.toNat v5)]? = some [(I v4), (I x7.Kind), (I x7.Obj), (I x7.Lock), (I x7.Pc)], ((a3.set (Int.toNat v5) (GEvent.mk v4 x7.Kind x7.Obj x7.Lock x7.Pc)).map o47).set (Int.toNat v5) (wr [(I v4), (I x7.Kind), (I x7.Obj), (I x7.Lock), (I x7.Pc)] 1 [(I (w64 (v4 + 1)))]) = ((a3.set (Int.toNat v5) (GEvent.mk v4 (w64 (v4 + 1)) x7.Obj x7.Lock x7.Pc)).map o47), [(I (w64 (v4 + 1)))].length = 1, 1 + [(I (w64 (v4 + 1)))].length ≤ [(I v4), (I x7.Kind), (I x7.Obj), (I x7.Lock), (I x7.Pc)].length, (List.length ((a3.set (Int.toNat v5) (GEvent.mk v4 x7.Kind x7.Obj x7.Lock x7.Pc)).map o47)) = (List.length ((a3.set (Int.toNat v5) (GEvent.mk v4 (w64 (v4 + 1)) x7.Obj x7.Lock x7.Pc)).map o47)), (0 : Int) ≤ v5, v5 < (((List.length ((a3.set (Int.toNat v5) (GEvent.mk v4 (w64 (v4 + 1)) x7.Obj x7.Lock x7.Pc)).map o47)) : Nat) : Int), ((a3.set (Int.toNat v5) (GEvent.mk v4 (w64 (v4 + 1)) x7.Obj x7.Lock x7.Pc)).map o47)[(Int.toNat v5)]? = some [(I v4), (I (w64 (v4 + 1))), (I x7.Obj), (I x7.Lock), (I x7.Pc)], ((a3.set (Int.toNat v5) (GEvent.mk v4 (w64 (v4 + 1)) x7.Obj x7.Lock x7.Pc)).map o47).set (Int.toNat v5) (wr [(I v4), (I (w64 (v4 + 1))), (I x7.Obj), (I x7.Lock), (I x7.Pc)] 2 [(I (w64 ((w64 (v4 + 1)) + 1)))]) = ((a3.set (Int.toNat v5) (GEvent.mk v4 (w64 (v4 + 1)) (w64 ((w64 (v4 + 1)) + 1)) x7.Lock x7.Pc)).map o47), [(I (w64 ((w64 (v4 + 1)) + 1)))].length = 1, 2 + [(I (w64 ((w64 (v4 + 1)) + 1)))].length ≤ [(I v4), (I (w64 (v4 + 1))), (I x7.Obj), (I x7.Lock), (I x7.Pc)].length, (List.length ((a3.set (Int.toNat v5) (GEvent.mk v4 (w64 (v4 + 1)) x7.Obj x7.Lock x7.Pc)).map o47)) = (List.length ((a3.set (Int.toNat v5) (GEvent.mk v4 (w64 (v4 + 1)) (w64 ((w64 (v4 + 1)) + 1)) x7.Lock x7.Pc)).map o47)), (0 : Int) ≤ v5, v5 < (((List.length ((a3.set (Int.toNat v5) (GEvent.mk v4 (w64 (v4 + 1)) (w64 ((w64 (v4 + 1)) + 1)) x7.Lock x7.Pc)).map o47)) : Nat) : Int), ((a3.set (Int.toNat v5) (GEvent.mk v4 (w64 (v4 + 1)) (w64 ((w64 (v4 + 1)) + 1)) x7.Lock x7.Pc)).map o47)[(Int.toNat v5)]? = some [(I v4), (I (w64 (v4 + 1))), (I (w64 ((w64 (v4 + 1)) + 1))), (I x7.Lock), (I x7.Pc)], ((a3.set (Int.toNat v5) (GEvent.mk v4 (w64 (v4 + 1)) (w64 ((w64 (v4 + 1)) + 1)) x7.Lock x7.Pc)).map o47).set (Int.toNat v5) (wr [(I v4), (I (w64 (v4 + 1))), (I (w64 ((w64 (v4 + 1)) + 1))), (I x7.Lock), (I x7.Pc)] 3 [(I (w64 ((w64 ((w64 (v4 + 1)) + 1)) + 1)))]) = ((a3.set (Int.toNat v5) (GEvent.mk v4 (w64 (v4 + 1)) (w64 ((w64 (v4 + 1)) + 1)) (w64 ((w64 ((w64 (v4 + 1)) + 1)) + 1)) x7.Pc)).map o47), [(I (w64 ((w64 ((w64 (v4 + 1)) + 1)) + 1)))].length = 1, 3 + [(I (w64 ((w64 ((w64 (v4 + 1)) + 1)) + 1)))].length ≤ [(I v4), (I (w64 (v4 + 1))), (I (w64 ((w64 (v4 + 1)) + 1))), (I x7.Lock), (I x7.Pc)].length, (List.length ((a3.set (Int.toNat v5) (GEvent.mk v4 (w64 (v4 + 1)) (w64 ((w64 (v4 + 1)) + 1)) x7.Lock x7.Pc)).map o47)) = (List.length ((a3.set (Int.toNat v5) (GEvent.mk v4 (w64 (v4 + 1)) (w64 ((w64 (v4 + 1)) + 1)) (w64 ((w64 ((w64 (v4 + 1)) + 1)) + 1)) x7.Pc)).map o47)), (0 : Int) ≤ v5, v5 < (((List.length ((a3.set (Int.toNat v5) (GEvent.mk v4 (w64 (v4 + 1)) (w64 ((w64 (v4 + 1)) + 1)) (w64 ((w64 ((w64 (v4 + 1)) + 1)) + 1)) x7.Pc)).map o47)) : Nat) : Int), ((a3.set (Int.toNat v5) (GEvent.mk v4 (w64 (v4 + 1)) (w64 ((w64 (v4 + 1)) + 1)) (w64 ((w64 ((w64 (v4 + 1)) + 1)) + 1)) x7.Pc)).map o47)[(Int.toNat v5)]? = some [(I v4), (I (w64 (v4 + 1))), (I (w64 ((w64 (v4 + 1)) + 1))), (I (w64 ((w64 ((w64 (v4 + 1)) + 1)) + 1))), (I x7.Pc)], ((a3.set (Int.toNat v5) (GEvent.mk v4 (w64 (v4 + 1)) (w64 ((w64 (v4 + 1)) + 1)) (w64 ((w64 ((w64 (v4 + 1)) + 1)) + 1)) x7.Pc)).map o47).set (Int.toNat v5) (wr [(I v4), (I (w64 (v4 + 1))), (I (w64 ((w64 (v4 + 1)) + 1))), (I (w64 ((w64 ((w64 (v4 + 1)) + 1)) + 1))), (I x7.Pc)] 4 [(I (w64 ((w64 ((w64 ((w64 (v4 + 1)) + 1)) + 1)) + 1)))]) = ((a3.set (Int.toNat v5) (GEvent.mk v4 (w64 (v4 + 1)) (w64 ((w64 (v4 + 1)) + 1)) (w64 ((w64 ((w64 (v4 + 1)) + 1)) + 1)) (w64 ((w64 ((w64 ((w64 (v4 + 1)) + 1)) + 1)) + 1)))).map o47), [(I (w64 ((w64 ((w64 ((w64 (v4 + 1)) + 1)) + 1)) + 1)))].length = 1, 4 + [(I (w64 ((w64 ((w64 ((w64 (v4 + 1)) + 1)) + 1)) + 1)))].length ≤ [(I v4), (I (w64 (v4 + 1))), (I (w64 ((w64 (v4 + 1)) + 1))), (I (w64 ((w64 ((w64 (v4 + 1)) + 1)) + 1))), (I x7.Pc)].length, (List.length ((a3.set (Int.toNat v5) (GEvent.mk v4 (w64 (v4 + 1)) (w64 ((w64 (v4 + 1)) + 1)) (w64 ((w64 ((w64 (v4 + 1)) + 1)) + 1)) x7.Pc)).map o47)) = (List.length ((a3.set (Int.toNat v5) (GEvent.mk v4 (w64 (v4 + 1)) (w64 ((w64 (v4 + 1)) + 1)) (w64 ((w64 ((w64 (v4 + 1)) + 1)) + 1)) (w64 ((w64 ((w64 ((w64 (v4 + 1)) + 1)) + 1)) + 1)))).map o47)), RenOK [(0, 0)] ((a3.set (Int.toNat v5) (GEvent.mk v4 (w64 (v4 + 1)) (w64 ((w64 (v4 + 1)) + 1)) (w64 ((w64 ((w64 (v4 + 1)) + 1)) + 1)) (w64 ((w64 ((w64 ((w64 (v4 + 1)) + 1)) + 1)) + 1)))).map o47)]) (by kernel_rfl) ⟨(lenM o47), c6, (rd0 hx7), (rdL o47 hx7), (rdM o47 hx7), (setMr o47 (by kernel_rfl)), rfl, (Nat.le_of_ble_eq_true rfl), (by first | exact lnSet _ | exact lnSet2 _ | simp only [List.length_map, List.length_set, List.length_cons, List.length_nil]), (rd0 hx7), (rdL o47 (rdS (y := (GEvent.mk v4 x7.Kind x7.Obj x7.Lock x7.Pc)) hx7)), (rdM o47 (rdS (y := (GEvent.mk v4 x7.Kind x7.Obj x7.Lock x7.Pc)) hx7)), (setSS o47 (by kernel_rfl)), rfl, (Nat.le_of_ble_eq_true rfl), (by first | exact lnSet _ | exact lnSet2 _ | simp only [List.length_map, List.length_set, List.length_cons, List.length_nil]), (rd0 hx7), (rdL o47 (rdS (y := (GEvent.mk v4 (w64 (v4 + 1)) x7.Obj x7.Lock x7.Pc)) hx7)), (rdM o47 (rdS (y := (GEvent.mk v4 (w64 (v4 + 1)) x7.Obj x7.Lock x7.Pc)) hx7)), (setSS o47 (by kernel_rfl)), rfl, (Nat.le_of_ble_eq_true rfl), (by first | exact lnSet _ | exact lnSet2 _ | simp only [List.length_map, List.length_set, List.length_cons, List.length_nil]), (rd0 hx7), (rdL o47 (rdS (y := (GEvent.mk v4 (w64 (v4 + 1)) (w64 ((w64 (v4 + 1)) + 1)) x7.Lock x7.Pc)) hx7)), (rdM o47 (rdS (y := (GEvent.mk v4 (w64 (v4 + 1)) (w64 ((w64 (v4 + 1)) + 1)) x7.Lock x7.Pc)) hx7)), (setSS o47 (by kernel_rfl)), rfl, (Nat.le_of_ble_eq_true rfl), (by first | exact lnSet _ | exact lnSet2 _ | simp only [List.length_map, List.length_set, List.length_cons, List.length_nil]), (rd0 hx7), (rdL o47 (rdS (y := (GEvent.mk v4 (w64 (v4 + 1)) (w64 ((w64 (v4 + 1)) + 1)) (w64 ((w64 ((w64 (v4 + 1)) + 1)) + 1)) x7.Pc)) hx7)), (rdM o47 (rdS (y := (GEvent.mk v4 (w64 (v4 + 1)) (w64 ((w64 (v4 + 1)) + 1)) (w64 ((w64 ((w64 (v4 + 1)) + 1)) + 1)) x7.Pc)) hx7)), (setSS o47 (by kernel_rfl)), rfl, (Nat.le_of_ble_eq_true rfl), (by first | exact lnSet _ | exact lnSet2 _ | simp only [List.length_map, List.length_set, List.length_cons, List.length_nil]), (rok (treeM t47)), trivial⟩ (ih (a3.set (Int.toNat v5) (GEvent.mk v4 (w64 (v4 + 1)) (w64 ((w64 (v4 + 1)) + 1)) (w64 ((w64 ((w64 (v4 + 1)) + 1)) + 1)) (w64 ((w64 ((w64 ((w64 (v4 + 1)) + 1)) + 1)) + 1)))) (w64 ((w64 ((w64 ((w64 ((w64 (v4 + 1)) + 1)) + 1)) + 1)) + 1)) (w64 (v5 + 1)) _ h)
    · have h := Option.some.inj h
      subst h
      exact go_ret hΘ hm hP hn (hs := [⟨2, .no, some (I (a3.length : Int))⟩, ⟨4, .br false, none⟩]) (rh := []) (ph := .raw) (ps := [AV.lit (.int .i64 (((List.length (a3.map o47)) : Nat) : Int)) = (I (a3.length : Int)), (decide (v5 < (a3.length : Int))) = false, (a3.map o47) = (a3.map o47), treeLL (a3.map o47) = true, noRoLL (a3.map o47) = true, (I v4) = (I v4), litA (I v4) = true]) (by kernel_rfl) ⟨(lenM o47), c8, rfl, (treeM t47), (noRoM n47), rfl, rfl, trivial⟩
noncomputable def laws_markEventS (p1 : (List GEvent)) (p2 : Int) : Option (Int × (List GEvent)) :=
  laws_markEventS_l0 FU p1 p2 0
theorem laws_markEventS_m {p1 : (List GEvent)} {p2 : Int} {r : (Int × (List GEvent))} (h : laws_markEventS p1 p2 = some r) : MeetsR Try.prog 14 [⟨47, 5, (p1.map o47)⟩] [(AV.sl 0 0 (List.length (p1.map o47))), (I p2)] [true] [⟨47, 5, (r.2.map o47)⟩] (I r.1) := by
  refine meetsR_of Θ_ok Try.func14 rfl (c := body14) (by kernel_rfl) (Nat.le_of_ble_eq_true rfl) rfl (Nat.le_of_ble_eq_true rfl) rfl (fr := [0]) (frI rfl) ?_
  intro E hP hn hx
  replace hn : E.n = 48 := hn
  have hm : E.P.follows .mixedOrders = true := by rw [hP]; exact mixed
  have hΘ : TOK E.P Θ := by rw [hP]; exact Θ_ok
  unfold laws_markEventS at h
  show WAt E body14 (FQ (RetE Θ Try.f14.results.toList [true] [⟨47, 5, (r.2.map o47)⟩] (I r.1) E)) [] ⟨[(0, (AV.sl 0 0 (List.length (p1.map o47)))), (1, (I p2))], [(0, some ⟨47, 5, (p1.map o47)⟩)], [0, JJ]⟩
  exact go_to hΘ hm hx hP hn (hs := []) (π := [(0, 0)]) (ts := [0, 1, 5]) (kp := []) (ps := [RenOK [(0, 0)] (p1.map o47)]) (by kernel_rfl) ⟨(rok (treeM t47)), trivial⟩ (laws_markEventS_l0_m hP hn hx FU p1 p2 0 _ h)
noncomputable def body27 : Code := match Try.f27.body with | some c => c | none => .skip
noncomputable def laws_markUnderS_l0   : Nat → (List GUnder) → Int → Int → Option (Int × (List GUnder))
  | 0, _, _, _ => none
  | n + 1, a3, v4, v5 =>
  if (decide (v5 < (a3.length : Int))) = true then
    Option.bind (rd a3 v5) fun x7 =>
    laws_markUnderS_l0 n (a3.set (Int.toNat v5) (GUnder.mk v4 (w64 (v4 + 1)) (w64 ((w64 (v4 + 1)) + 1)) (w64 ((w64 ((w64 (v4 + 1)) + 1)) + 1)))) (w64 ((w64 ((w64 ((w64 (v4 + 1)) + 1)) + 1)) + 1)) (w64 (v5 + 1))
  else
    some (v4, a3)
theorem laws_markUnderS_l0_m {E : Env} (hP : E.P = Try.prog) (hn : E.n = 41) (hx : ∀ p, p ∈ E.fx → p.1 ∈ ([0] : List Nat))   : ∀ (n : Nat) (a3 : (List GUnder)) (v4 : Int) (v5 : Int) (r : (Int × (List GUnder))), laws_markUnderS_l0  n a3 v4 v5 = some r → WAt E body27 (FQ (RetE Θ Try.f27.results.toList [true] [⟨71, 4, (r.2.map o71)⟩] (I r.1) E)) [true, false, true, false] ⟨[(0, (AV.sl 0 0 (List.length (a3.map o71)))), (1, (I v4)), (5, (I v5))], [(0, some ⟨71, 4, (a3.map o71)⟩)], [0, JJ]⟩ := by
  have hm : E.P.follows .mixedOrders = true := by rw [hP]; exact mixed
  have hΘ : TOK E.P Θ := by rw [hP]; exact Θ_ok
  intro n
  induction n with
  | zero => intro a3 v4 v5 r h; simp only [laws_markUnderS_l0] at h; cases h
  | succ n ih =>
    intro a3 v4 v5 r h
    simp only [laws_markUnderS_l0] at h
    rcases itS h with ⟨c6, h⟩ | ⟨c8, h⟩
    · obtain ⟨x7, hx7, h⟩ := bnS h
      exact go_to hΘ hm hx hP hn (hs := [⟨2, .no, some (I (a3.length : Int))⟩, ⟨4, .br true, none⟩, ⟨10, .sto ((o71 x7)) ((a3.set (Int.toNat v5) (GUnder.mk v4 x7.Taken x7.Thread x7.At)).map o71), none⟩, ⟨14, .slen 0 (List.length ((a3.set (Int.toNat v5) (GUnder.mk v4 x7.Taken x7.Thread x7.At)).map o71)), none⟩, ⟨19, .sto [(I v4), (I x7.Taken), (I x7.Thread), (I x7.At)] ((a3.set (Int.toNat v5) (GUnder.mk v4 (w64 (v4 + 1)) x7.Thread x7.At)).map o71), none⟩, ⟨23, .slen 0 (List.length ((a3.set (Int.toNat v5) (GUnder.mk v4 (w64 (v4 + 1)) x7.Thread x7.At)).map o71)), none⟩, ⟨28, .sto [(I v4), (I (w64 (v4 + 1))), (I x7.Thread), (I x7.At)] ((a3.set (Int.toNat v5) (GUnder.mk v4 (w64 (v4 + 1)) (w64 ((w64 (v4 + 1)) + 1)) x7.At)).map o71), none⟩, ⟨32, .slen 0 (List.length ((a3.set (Int.toNat v5) (GUnder.mk v4 (w64 (v4 + 1)) (w64 ((w64 (v4 + 1)) + 1)) x7.At)).map o71)), none⟩, ⟨37, .sto [(I v4), (I (w64 (v4 + 1))), (I (w64 ((w64 (v4 + 1)) + 1))), (I x7.At)] ((a3.set (Int.toNat v5) (GUnder.mk v4 (w64 (v4 + 1)) (w64 ((w64 (v4 + 1)) + 1)) (w64 ((w64 ((w64 (v4 + 1)) + 1)) + 1)))).map o71), none⟩, ⟨44, .slen 0 (List.length ((a3.set (Int.toNat v5) (GUnder.mk v4 (w64 (v4 + 1)) (w64 ((w64 (v4 + 1)) + 1)) (w64 ((w64 ((w64 (v4 + 1)) + 1)) + 1)))).map o71)), none⟩]) (π := [(0, 0)]) (ts := [0, 1, 5]) (kp := []) (ps := [AV.lit (.int .i64 (((List.length (a3.map o71)) : Nat) : Int)) = (I (a3.length : Int)), (decide (v5 < (a3.length : Int))) = true, (0 : Int) ≤ v5, v5 < (((List.length (a3.map o71)) : Nat) : Int), (a3.map o71)[(Int.toNat v5)]? = some ((o71 x7)), (a3.map o71).set (Int.toNat v5) (wr ((o71 x7)) 0 [(I v4)]) = ((a3.set (Int.toNat v5) (GUnder.mk v4 x7.Taken x7.Thread x7.At)).map o71), [(I v4)].length = 1, 0 + [(I v4)].length ≤ ((o71 x7)).length, (List.length (a3.map o71)) = (List.length ((a3.set (Int.toNat v5) (GUnder.mk v4 x7.Taken x7.Thread x7.At)).map o71)), (0 : Int) ≤ v5, v5 < (((List.length ((a3.set (Int.toNat v5) (GUnder.mk v4 x7.Taken x7.Thread x7.At)).map o71)) : Nat) : Int), ((a3.set (Int.toNat v5) (GUnder.mk v4 x7.Taken x7.Thread x7.At)).map o71)[(Int.toNat v5)]? = some [(I v4), (I x7.Taken), (I x7.Thread), (I x7.At)], ((a3.set (Int.toNat v5) (GUnder.mk v4 x7.Taken x7.Thread x7.At)).map o71).set (Int.toNat v5) (wr [(I v4), (I x7.Taken), (I x7.Thread), (I x7.At)] 1 [(I (w64 (v4 + 1)))]) = ((a3.set (Int.toNat v5) (GUnder.mk v4 (w64 (v4 + 1)) x7.Thread x7.At)).map o71), [(I (w64 (v4 + 1)))].length = 1, 1 + [(I (w64 (v4 + 1)))].length ≤ [(I v4), (I x7.Taken), (I x7.Thread), (I x7.At)].length, (List.length ((a3.set (Int.toNat v5) (GUnder.mk v4 x7.Taken x7.Thread x7.At)).map o71)) = (List.length ((a3.set (Int.toNat v5) (GUnder.mk v4 (w64 (v4 + 1)) x7.Thread x7.At)).map o71)), (0 : Int) ≤ v5, v5 < (((List.length ((a3.set (Int.toNat v5) (GUnder.mk v4 (w64 (v4 + 1)) x7.Thread x7.At)).map o71)) : Nat) : Int), ((a3.set (Int.toNat v5) (GUnder.mk v4 (w64 (v4 + 1)) x7.Thread x7.At)).map o71)[(Int.toNat v5)]? = some [(I v4), (I (w64 (v4 + 1))), (I x7.Thread), (I x7.At)], ((a3.set (Int.toNat v5) (GUnder.mk v4 (w64 (v4 + 1)) x7.Thread x7.At)).map o71).set (Int.toNat v5) (wr [(I v4), (I (w64 (v4 + 1))), (I x7.Thread), (I x7.At)] 2 [(I (w64 ((w64 (v4 + 1)) + 1)))]) = ((a3.set (Int.toNat v5) (GUnder.mk v4 (w64 (v4 + 1)) (w64 ((w64 (v4 + 1)) + 1)) x7.At)).map o71), [(I (w64 ((w64 (v4 + 1)) + 1)))].length = 1, 2 + [(I (w64 ((w64 (v4 + 1)) + 1)))].length ≤ [(I v4), (I (w64 (v4 + 1))), (I x7.Thread), (I x7.At)].length, (List.length ((a3.set (Int.toNat v5) (GUnder.mk v4 (w64 (v4 + 1)) x7.Thread x7.At)).map o71)) = (List.length ((a3.set (Int.toNat v5) (GUnder.mk v4 (w64 (v4 + 1)) (w64 ((w64 (v4 + 1)) + 1)) x7.At)).map o71)), (0 : Int) ≤ v5, v5 < (((List.length ((a3.set (Int.toNat v5) (GUnder.mk v4 (w64 (v4 + 1)) (w64 ((w64 (v4 + 1)) + 1)) x7.At)).map o71)) : Nat) : Int), ((a3.set (Int.toNat v5) (GUnder.mk v4 (w64 (v4 + 1)) (w64 ((w64 (v4 + 1)) + 1)) x7.At)).map o71)[(Int.toNat v5)]? = some [(I v4), (I (w64 (v4 + 1))), (I (w64 ((w64 (v4 + 1)) + 1))), (I x7.At)], ((a3.set (Int.toNat v5) (GUnder.mk v4 (w64 (v4 + 1)) (w64 ((w64 (v4 + 1)) + 1)) x7.At)).map o71).set (Int.toNat v5) (wr [(I v4), (I (w64 (v4 + 1))), (I (w64 ((w64 (v4 + 1)) + 1))), (I x7.At)] 3 [(I (w64 ((w64 ((w64 (v4 + 1)) + 1)) + 1)))]) = ((a3.set (Int.toNat v5) (GUnder.mk v4 (w64 (v4 + 1)) (w64 ((w64 (v4 + 1)) + 1)) (w64 ((w64 ((w64 (v4 + 1)) + 1)) + 1)))).map o71), [(I (w64 ((w64 ((w64 (v4 + 1)) + 1)) + 1)))].length = 1, 3 + [(I (w64 ((w64 ((w64 (v4 + 1)) + 1)) + 1)))].length ≤ [(I v4), (I (w64 (v4 + 1))), (I (w64 ((w64 (v4 + 1)) + 1))), (I x7.At)].length, (List.length ((a3.set (Int.toNat v5) (GUnder.mk v4 (w64 (v4 + 1)) (w64 ((w64 (v4 + 1)) + 1)) x7.At)).map o71)) = (List.length ((a3.set (Int.toNat v5) (GUnder.mk v4 (w64 (v4 + 1)) (w64 ((w64 (v4 + 1)) + 1)) (w64 ((w64 ((w64 (v4 + 1)) + 1)) + 1)))).map o71)), RenOK [(0, 0)] ((a3.set (Int.toNat v5) (GUnder.mk v4 (w64 (v4 + 1)) (w64 ((w64 (v4 + 1)) + 1)) (w64 ((w64 ((w64 (v4 + 1)) + 1)) + 1)))).map o71)]) (by kernel_rfl) ⟨(lenM o71), c6, (rd0 hx7), (rdL o71 hx7), (rdM o71 hx7), (setMr o71 (by kernel_rfl)), rfl, (Nat.le_of_ble_eq_true rfl), (by first | exact lnSet _ | exact lnSet2 _ | simp only [List.length_map, List.length_set, List.length_cons, List.length_nil]), (rd0 hx7), (rdL o71 (rdS (y := (GUnder.mk v4 x7.Taken x7.Thread x7.At)) hx7)), (rdM o71 (rdS (y := (GUnder.mk v4 x7.Taken x7.Thread x7.At)) hx7)), (setSS o71 (by kernel_rfl)), rfl, (Nat.le_of_ble_eq_true rfl), (by first | exact lnSet _ | exact lnSet2 _ | simp only [List.length_map, List.length_set, List.length_cons, List.length_nil]), (rd0 hx7), (rdL o71 (rdS (y := (GUnder.mk v4 (w64 (v4 + 1)) x7.Thread x7.At)) hx7)), (rdM o71 (rdS (y := (GUnder.mk v4 (w64 (v4 + 1)) x7.Thread x7.At)) hx7)), (setSS o71 (by kernel_rfl)), rfl, (Nat.le_of_ble_eq_true rfl), (by first | exact lnSet _ | exact lnSet2 _ | simp only [List.length_map, List.length_set, List.length_cons, List.length_nil]), (rd0 hx7), (rdL o71 (rdS (y := (GUnder.mk v4 (w64 (v4 + 1)) (w64 ((w64 (v4 + 1)) + 1)) x7.At)) hx7)), (rdM o71 (rdS (y := (GUnder.mk v4 (w64 (v4 + 1)) (w64 ((w64 (v4 + 1)) + 1)) x7.At)) hx7)), (setSS o71 (by kernel_rfl)), rfl, (Nat.le_of_ble_eq_true rfl), (by first | exact lnSet _ | exact lnSet2 _ | simp only [List.length_map, List.length_set, List.length_cons, List.length_nil]), (rok (treeM t71)), trivial⟩ (ih (a3.set (Int.toNat v5) (GUnder.mk v4 (w64 (v4 + 1)) (w64 ((w64 (v4 + 1)) + 1)) (w64 ((w64 ((w64 (v4 + 1)) + 1)) + 1)))) (w64 ((w64 ((w64 ((w64 (v4 + 1)) + 1)) + 1)) + 1)) (w64 (v5 + 1)) _ h)
    · have h := Option.some.inj h
      subst h
      exact go_ret hΘ hm hP hn (hs := [⟨2, .no, some (I (a3.length : Int))⟩, ⟨4, .br false, none⟩]) (rh := []) (ph := .raw) (ps := [AV.lit (.int .i64 (((List.length (a3.map o71)) : Nat) : Int)) = (I (a3.length : Int)), (decide (v5 < (a3.length : Int))) = false, (a3.map o71) = (a3.map o71), treeLL (a3.map o71) = true, noRoLL (a3.map o71) = true, (I v4) = (I v4), litA (I v4) = true]) (by kernel_rfl) ⟨(lenM o71), c8, rfl, (treeM t71), (noRoM n71), rfl, rfl, trivial⟩
noncomputable def laws_markUnderS (p1 : (List GUnder)) (p2 : Int) : Option (Int × (List GUnder)) :=
  laws_markUnderS_l0 FU p1 p2 0
theorem laws_markUnderS_m {p1 : (List GUnder)} {p2 : Int} {r : (Int × (List GUnder))} (h : laws_markUnderS p1 p2 = some r) : MeetsR Try.prog 27 [⟨71, 4, (p1.map o71)⟩] [(AV.sl 0 0 (List.length (p1.map o71))), (I p2)] [true] [⟨71, 4, (r.2.map o71)⟩] (I r.1) := by
  refine meetsR_of Θ_ok Try.func27 rfl (c := body27) (by kernel_rfl) (Nat.le_of_ble_eq_true rfl) rfl (Nat.le_of_ble_eq_true rfl) rfl (fr := [0]) (frI rfl) ?_
  intro E hP hn hx
  replace hn : E.n = 41 := hn
  have hm : E.P.follows .mixedOrders = true := by rw [hP]; exact mixed
  have hΘ : TOK E.P Θ := by rw [hP]; exact Θ_ok
  unfold laws_markUnderS at h
  show WAt E body27 (FQ (RetE Θ Try.f27.results.toList [true] [⟨71, 4, (r.2.map o71)⟩] (I r.1) E)) [] ⟨[(0, (AV.sl 0 0 (List.length (p1.map o71)))), (1, (I p2))], [(0, some ⟨71, 4, (p1.map o71)⟩)], [0, JJ]⟩
  exact go_to hΘ hm hx hP hn (hs := []) (π := [(0, 0)]) (ts := [0, 1, 5]) (kp := []) (ps := [RenOK [(0, 0)] (p1.map o71)]) (by kernel_rfl) ⟨(rok (treeM t71)), trivial⟩ (laws_markUnderS_l0_m hP hn hx FU p1 p2 0 _ h)
noncomputable def body8 : Code := match Try.f8.body with | some c => c | none => .skip
noncomputable def laws_szEventS (p1 : (List GEvent)) (p2 : Int) : Option Int :=
  if (decide ((w64 (p2 - (p1.length : Int))) < 0)) = true then
    some (-1)
  else
    some (w64 (p2 - (p1.length : Int)))
theorem laws_szEventS_m {p1 : (List GEvent)} {p2 : Int} {r : Int} (h : laws_szEventS p1 p2 = some r) : Meets Try.prog 8 [(AV.ro 5 (p1.map o49)), (I p2)] (I r) := by
  refine meets_ofC Θ_ok Try.func8 rfl (c := body8) (by kernel_rfl) (Nat.le_of_ble_eq_true rfl) ?_
  intro E hP hn hx
  replace hn : E.n = 12 := hn
  have hm : E.P.follows .mixedOrders = true := by rw [hP]; exact mixed
  have hΘ : TOK E.P Θ := by rw [hP]; exact Θ_ok
  unfold laws_szEventS at h
  show WAt E body8 (FQ (RetE Θ Try.f8.results.toList [] [] (I r) E)) [] ⟨[(0, (AV.ro 5 (p1.map o49))), (1, (I p2))], [], [JJ]⟩
  rcases itS h with ⟨c3, h⟩ | ⟨c4, h⟩
  · have h := Option.some.inj h
    subst h
    exact go_ret hΘ hm hP hn (hs := [⟨3, .no, some (I (p1.length : Int))⟩, ⟨8, .br true, none⟩]) (rh := []) (ph := .raw) (ps := [AV.lit (.int .i64 (((p1.map o49).length : Nat) : Int)) = (I (p1.length : Int)), (decide ((w64 (p2 - (p1.length : Int))) < 0)) = true, (I (-1)) = (I (-1)), litA (I (-1)) = true]) (by kernel_rfl) ⟨(lenM o49), c3, rfl, rfl, trivial⟩
  · have h := Option.some.inj h
    subst h
    exact go_ret hΘ hm hP hn (hs := [⟨3, .no, some (I (p1.length : Int))⟩, ⟨8, .br false, none⟩]) (rh := []) (ph := .raw) (ps := [AV.lit (.int .i64 (((p1.map o49).length : Nat) : Int)) = (I (p1.length : Int)), (decide ((w64 (p2 - (p1.length : Int))) < 0)) = false, (I (w64 (p2 - (p1.length : Int)))) = (I (w64 (p2 - (p1.length : Int)))), litA (I (w64 (p2 - (p1.length : Int)))) = true]) (by kernel_rfl) ⟨(lenM o49), c4, rfl, rfl, trivial⟩
noncomputable def body33 : Code := match Try.f33.body with | some c => c | none => .skip
noncomputable def laws_toEvent (p1 : GEvent) : Option GEvent :=
  some (GEvent.mk p1.Thread p1.Kind p1.Obj p1.Lock p1.Pc)
theorem laws_toEvent_m {p1 : GEvent} {r : GEvent} (h : laws_toEvent p1 = some r) : Meets Try.prog 33 [(AV.agg ((o49 p1)))] (AV.agg (o47 r)) := by
  refine meets_ofC Θ_ok Try.func33 rfl (c := body33) (by kernel_rfl) (Nat.le_of_ble_eq_true rfl) ?_
  intro E hP hn hx
  replace hn : E.n = 20 := hn
  have hm : E.P.follows .mixedOrders = true := by rw [hP]; exact mixed
  have hΘ : TOK E.P Θ := by rw [hP]; exact Θ_ok
  unfold laws_toEvent at h
  show WAt E body33 (FQ (RetE Θ Try.f33.results.toList [] [] (AV.agg (o47 r)) E)) [] ⟨[(0, (AV.agg ((o49 p1))))], [], [JJ]⟩
  have h := Option.some.inj h
  subst h
  exact go_ret hΘ hm hP hn (hs := [⟨0, .new 1001, none⟩, ⟨1, .new 1002, none⟩, ⟨2, .new 1003, none⟩]) (rh := []) (ph := .raw) (ps := [(AV.agg [(I p1.Thread), (I p1.Kind), (I p1.Obj), (I p1.Lock), (I p1.Pc)]) = (AV.agg [(I p1.Thread), (I p1.Kind), (I p1.Obj), (I p1.Lock), (I p1.Pc)]), litA (AV.agg [(I p1.Thread), (I p1.Kind), (I p1.Obj), (I p1.Lock), (I p1.Pc)]) = true]) (by kernel_rfl) ⟨rfl, rfl, trivial⟩
noncomputable def body10 : Code := match Try.f10.body with | some c => c | none => .skip
noncomputable def laws_toEventS_l0  (p1 : (List GEvent)) : Nat → (List GEvent) → Int → Option (List GEvent)
  | 0, _, _ => none
  | n + 1, a3, v4 =>
  if (decide (v4 < (p1.length : Int))) = true then
    Option.bind (rd p1 v4) fun x6 =>
    Option.bind (laws_toEvent x6) fun r7 =>
    Option.bind (rd a3 v4) fun x8 =>
    laws_toEventS_l0 p1 n (a3.set (Int.toNat v4) r7) (w64 (v4 + 1))
  else
    some a3
theorem laws_toEventS_l0_m {E : Env} (hP : E.P = Try.prog) (hn : E.n = 23) (hx : ∀ p, p ∈ E.fx → p.1 ∈ ([] : List Nat)) (p1 : (List GEvent))  : ∀ (n : Nat) (a3 : (List GEvent)) (v4 : Int) (r : (List GEvent)), laws_toEventS_l0 p1 n a3 v4 = some r → WAt E body10 (FQ (RetE Θ Try.f10.results.toList [] [] (AV.own 47 5 (r.map o47)) E)) [true, true, false, true, false] ⟨[(0, (AV.ro 5 (p1.map o49))), (3, (AV.sl 1 0 (List.length (a3.map o47)))), (4, (I v4))], [(1, some ⟨47, 5, (a3.map o47)⟩)], [1, JJ]⟩ := by
  have hm : E.P.follows .mixedOrders = true := by rw [hP]; exact mixed
  have hΘ : TOK E.P Θ := by rw [hP]; exact Θ_ok
  intro n
  induction n with
  | zero => intro a3 v4 r h; simp only [laws_toEventS_l0] at h; cases h
  | succ n ih =>
    intro a3 v4 r h
    simp only [laws_toEventS_l0] at h
    rcases itS h with ⟨c5, h⟩ | ⟨c9, h⟩
    · obtain ⟨x6, hx6, h⟩ := bnS h
      obtain ⟨r7, hr7, h⟩ := bnS h
      obtain ⟨x8, hx8, h⟩ := bnS h
      exact go_to hΘ hm hx hP hn (hs := [⟨2, .no, some (I (p1.length : Int))⟩, ⟨4, .br true, none⟩, ⟨9, .row (o49 x6), none⟩, ⟨11, .callV [[]] (AV.agg (o47 r7)), none⟩, ⟨13, .sto ((o47 x8)) ((a3.set (Int.toNat v4) r7).map o47), none⟩, ⟨17, .slen 3 (List.length ((a3.set (Int.toNat v4) r7).map o47)), none⟩]) (π := [(1, 1)]) (ts := [0, 3, 4]) (kp := []) (ps := [AV.lit (.int .i64 (((p1.map o49).length : Nat) : Int)) = (I (p1.length : Int)), (decide (v4 < (p1.length : Int))) = true, (0 : Int) ≤ v4, (p1.map o49)[(Int.toNat v4)]? = some (o49 x6), Meets Try.prog 33 [(AV.agg ((o49 x6)))] (AV.agg (o47 r7)), litA (AV.agg (o47 r7)) = true, (0 : Int) ≤ v4, v4 < (((List.length (a3.map o47)) : Nat) : Int), (a3.map o47)[(Int.toNat v4)]? = some ((o47 x8)), (a3.map o47).set (Int.toNat v4) (wr ((o47 x8)) 0 ((o47 r7))) = ((a3.set (Int.toNat v4) r7).map o47), ((o47 r7)).length = 5, 0 + ((o47 r7)).length ≤ ((o47 x8)).length, (List.length (a3.map o47)) = (List.length ((a3.set (Int.toNat v4) r7).map o47)), RenOK [(1, 1)] ((a3.set (Int.toNat v4) r7).map o47)]) (by kernel_rfl) ⟨(lenM o49), c5, (rd0 hx6), (rdM o49 hx6), (laws_toEvent_m hr7), rfl, (rd0 hx8), (rdL o47 hx8), (rdM o47 hx8), (setMr o47 (by kernel_rfl)), rfl, (Nat.le_of_ble_eq_true rfl), (by first | exact lnSet _ | exact lnSet2 _ | simp only [List.length_map, List.length_set, List.length_cons, List.length_nil]), (rok (treeM t47)), trivial⟩ (ih (a3.set (Int.toNat v4) r7) (w64 (v4 + 1)) _ h)
    · have h := Option.some.inj h
      subst h
      exact go_ret hΘ hm hP hn (hs := [⟨2, .no, some (I (p1.length : Int))⟩, ⟨4, .br false, none⟩]) (rh := []) (ph := .own) (ps := [AV.lit (.int .i64 (((p1.map o49).length : Nat) : Int)) = (I (p1.length : Int)), (decide (v4 < (p1.length : Int))) = false, treeLL ((a3.map o47).take (List.length (a3.map o47))) = true, (a3.map o47).take (List.length (a3.map o47)) = (a3.map o47), noRoLL (a3.map o47) = true]) (by kernel_rfl) ⟨(lenM o49), c9, (treeT t47), takeM, (noRoM n47), trivial⟩
noncomputable def laws_toEventS (p1 : (List GEvent)) : Option (List GEvent) :=
  Option.bind (mk (GEvent.mk 0 0 0 0 0) (p1.length : Int)) fun l2 =>
  laws_toEventS_l0 p1 FU l2 0
theorem laws_toEventS_m {p1 : (List GEvent)} {r : (List GEvent)} (h : laws_toEventS p1 = some r) : Meets Try.prog 10 [(AV.ro 5 (p1.map o49))] (AV.own 47 5 (r.map o47)) := by
  refine meets_ofC Θ_ok Try.func10 rfl (c := body10) (by kernel_rfl) (Nat.le_of_ble_eq_true rfl) ?_
  intro E hP hn hx
  replace hn : E.n = 23 := hn
  have hm : E.P.follows .mixedOrders = true := by rw [hP]; exact mixed
  have hΘ : TOK E.P Θ := by rw [hP]; exact Θ_ok
  unfold laws_toEventS at h
  show WAt E body10 (FQ (RetE Θ Try.f10.results.toList [] [] (AV.own 47 5 (r.map o47)) E)) [] ⟨[(0, (AV.ro 5 (p1.map o49)))], [], [JJ]⟩
  obtain ⟨l2, hl2, h⟩ := bnS h
  exact go_to hΘ hm hx hP hn (hs := [⟨2, .no, some (I (p1.length : Int))⟩, ⟨3, .nw 1001 (l2.map o47), some (AV.sl 1001 0 (List.length (l2.map o47)))⟩]) (π := [(1001, 1)]) (ts := [0, 3, 4]) (kp := []) (ps := [AV.lit (.int .i64 (((p1.map o49).length : Nat) : Int)) = (I (p1.length : Int)), List.replicate (Int.toNat (p1.length : Int)) [.lit (.int .i64 0), .lit (.int .i64 0), .lit (.int .i64 0), .lit (.int .i64 0), .lit (.int .i64 0)] = (l2.map o47), AV.sl 1001 0 (Int.toNat (p1.length : Int)) = (AV.sl 1001 0 (List.length (l2.map o47))), (p1.length : Int) = (p1.length : Int), (0 : Int) ≤ (p1.length : Int), (p1.length : Int) * ((40 : Nat) : Int) ≤ 140737488355328, (p1.length : Int) ≤ 140737488355328, RenOK [(1001, 1)] (l2.map o47)]) (by kernel_rfl) ⟨(lenM o49), (mkM o47 hl2), (mkS o47 hl2), rfl, (mk0 hl2), (mkB hl2 (by decide)), (mkC hl2), (rok (treeM t47)), trivial⟩ (laws_toEventS_l0_m hP hn hx p1 FU l2 0 _ h)
noncomputable def body72 : Code := match Try.f72.body with | some c => c | none => .skip
noncomputable def spec_l1In (p1 : Int) (p2 : Int) (p3 : Int) : Option Bool :=
  if (decide (p1 ≥ p2)) = true then
    some (decide (p1 ≤ p3))
  else
    some false
theorem spec_l1In_m {p1 : Int} {p2 : Int} {p3 : Int} {r : Bool} (h : spec_l1In p1 p2 p3 = some r) : Meets Try.prog 72 [(I p1), (I p2), (I p3)] (B r) := by
  refine meets_ofC Θ_ok Try.func72 rfl (c := body72) (by kernel_rfl) (Nat.le_of_ble_eq_true rfl) ?_
  intro E hP hn hx
  replace hn : E.n = 15 := hn
  have hm : E.P.follows .mixedOrders = true := by rw [hP]; exact mixed
  have hΘ : TOK E.P Θ := by rw [hP]; exact Θ_ok
  unfold spec_l1In at h
  show WAt E body72 (FQ (RetE Θ Try.f72.results.toList [] [] (B r) E)) [] ⟨[(0, (I p1)), (1, (I p2)), (2, (I p3))], [], [JJ]⟩
  rcases itS h with ⟨c4, h⟩ | ⟨c5, h⟩
  · have h := Option.some.inj h
    subst h
    exact go_ret hΘ hm hP hn (hs := [⟨4, .no, some (B true)⟩]) (rh := []) (ph := .raw) (ps := [(B (decide (p1 ≥ p2))) = (B true), (B (decide (p1 ≤ p3))) = (B (decide (p1 ≤ p3))), litA (B (decide (p1 ≤ p3))) = true]) (by kernel_rfl) ⟨(litB c4), rfl, rfl, trivial⟩
  · have h := Option.some.inj h
    subst h
    exact go_ret hΘ hm hP hn (hs := [⟨4, .no, some (B false)⟩]) (rh := []) (ph := .raw) (ps := [(B (decide (p1 ≥ p2))) = (B false), (B false) = (B false), litA (B false) = true]) (by kernel_rfl) ⟨(litB c5), rfl, rfl, trivial⟩
noncomputable def body57 : Code := match Try.f57.body with | some c => c | none => .skip
noncomputable def spec_l6Event_j0  (p1 : GEvent)  : Option Bool :=
  Option.bind (spec_l1In p1.Thread 0 4) fun r9 =>
  if r9 = true then
    Option.bind (spec_l1In p1.Kind 1 12) fun r11 =>
    if r11 = true then
      Option.bind (spec_l1In p1.Obj (-1) 99) fun r13 =>
      if r13 = true then
        Option.bind (spec_l1In p1.Lock (-1) 99) fun r15 =>
        if r15 = true then
          Option.bind (spec_l1In p1.Pc 0 99) fun r17 =>
          some r17
        else
          some false
      else
        some false
    else
      some false
  else
    some false
theorem spec_l6Event_j0_m {E : Env} (hP : E.P = Try.prog) (hn : E.n = 49) (hx : ∀ p, p ∈ E.fx → p.1 ∈ ([] : List Nat)) (p1 : GEvent)   (r : Bool) (h : spec_l6Event_j0 p1  = some r) : WAt E body57 (FQ (RetE Θ Try.f57.results.toList [] [] (B r) E)) [true, false, true, true] ⟨[(1, (AV.ptr 1 0 0))], [(1, some ⟨47, 5, [((o47 p1))]⟩)], [1, JJ]⟩ := by
  have hm : E.P.follows .mixedOrders = true := by rw [hP]; exact mixed
  have hΘ : TOK E.P Θ := by rw [hP]; exact Θ_ok
  unfold spec_l6Event_j0 at h
  obtain ⟨r9, hr9, h⟩ := bnS h
  rcases itS h with ⟨c10, h⟩ | ⟨c21, h⟩
  · obtain ⟨r11, hr11, h⟩ := bnS h
    rcases itS h with ⟨c12, h⟩ | ⟨c20, h⟩
    · obtain ⟨r13, hr13, h⟩ := bnS h
      rcases itS h with ⟨c14, h⟩ | ⟨c19, h⟩
      · obtain ⟨r15, hr15, h⟩ := bnS h
        rcases itS h with ⟨c16, h⟩ | ⟨c18, h⟩
        · obtain ⟨r17, hr17, h⟩ := bnS h
          have h := Option.some.inj h
          subst h
          exact go_ret hΘ hm hP hn (hs := [⟨2, .callV [] (B r9), none⟩, ⟨3, .no, some (B true)⟩, ⟨6, .callV [] (B r11), none⟩, ⟨8, .no, some (B true)⟩, ⟨11, .callV [] (B r13), none⟩, ⟨13, .no, some (B true)⟩, ⟨16, .callV [] (B r15), none⟩, ⟨18, .no, some (B true)⟩, ⟨21, .callV [] (B r17), none⟩]) (rh := []) (ph := .raw) (ps := [Meets Try.prog 72 [(I p1.Thread), (I 0), (I 4)] (B r9), litA (B r9) = true, (B r9) = (B true), Meets Try.prog 72 [(I p1.Kind), (I 1), (I 12)] (B r11), litA (B r11) = true, (B r11) = (B true), Meets Try.prog 72 [(I p1.Obj), (I (-1)), (I 99)] (B r13), litA (B r13) = true, (B r13) = (B true), Meets Try.prog 72 [(I p1.Lock), (I (-1)), (I 99)] (B r15), litA (B r15) = true, (B r15) = (B true), Meets Try.prog 72 [(I p1.Pc), (I 0), (I 99)] (B r17), litA (B r17) = true, (B r17) = (B r17), litA (B r17) = true]) (by kernel_rfl) ⟨(spec_l1In_m hr9), rfl, (litB c10), (spec_l1In_m hr11), rfl, (litB c12), (spec_l1In_m hr13), rfl, (litB c14), (spec_l1In_m hr15), rfl, (litB c16), (spec_l1In_m hr17), rfl, rfl, rfl, trivial⟩
        · have h := Option.some.inj h
          subst h
          exact go_ret hΘ hm hP hn (hs := [⟨2, .callV [] (B r9), none⟩, ⟨3, .no, some (B true)⟩, ⟨6, .callV [] (B r11), none⟩, ⟨8, .no, some (B true)⟩, ⟨11, .callV [] (B r13), none⟩, ⟨13, .no, some (B true)⟩, ⟨16, .callV [] (B r15), none⟩, ⟨18, .no, some (B false)⟩]) (rh := []) (ph := .raw) (ps := [Meets Try.prog 72 [(I p1.Thread), (I 0), (I 4)] (B r9), litA (B r9) = true, (B r9) = (B true), Meets Try.prog 72 [(I p1.Kind), (I 1), (I 12)] (B r11), litA (B r11) = true, (B r11) = (B true), Meets Try.prog 72 [(I p1.Obj), (I (-1)), (I 99)] (B r13), litA (B r13) = true, (B r13) = (B true), Meets Try.prog 72 [(I p1.Lock), (I (-1)), (I 99)] (B r15), litA (B r15) = true, (B r15) = (B false), (B false) = (B false), litA (B false) = true]) (by kernel_rfl) ⟨(spec_l1In_m hr9), rfl, (litB c10), (spec_l1In_m hr11), rfl, (litB c12), (spec_l1In_m hr13), rfl, (litB c14), (spec_l1In_m hr15), rfl, (litB c18), rfl, rfl, trivial⟩
      · have h := Option.some.inj h
        subst h
        exact go_ret hΘ hm hP hn (hs := [⟨2, .callV [] (B r9), none⟩, ⟨3, .no, some (B true)⟩, ⟨6, .callV [] (B r11), none⟩, ⟨8, .no, some (B true)⟩, ⟨11, .callV [] (B r13), none⟩, ⟨13, .no, some (B false)⟩]) (rh := []) (ph := .raw) (ps := [Meets Try.prog 72 [(I p1.Thread), (I 0), (I 4)] (B r9), litA (B r9) = true, (B r9) = (B true), Meets Try.prog 72 [(I p1.Kind), (I 1), (I 12)] (B r11), litA (B r11) = true, (B r11) = (B true), Meets Try.prog 72 [(I p1.Obj), (I (-1)), (I 99)] (B r13), litA (B r13) = true, (B r13) = (B false), (B false) = (B false), litA (B false) = true]) (by kernel_rfl) ⟨(spec_l1In_m hr9), rfl, (litB c10), (spec_l1In_m hr11), rfl, (litB c12), (spec_l1In_m hr13), rfl, (litB c19), rfl, rfl, trivial⟩
    · have h := Option.some.inj h
      subst h
      exact go_ret hΘ hm hP hn (hs := [⟨2, .callV [] (B r9), none⟩, ⟨3, .no, some (B true)⟩, ⟨6, .callV [] (B r11), none⟩, ⟨8, .no, some (B false)⟩]) (rh := []) (ph := .raw) (ps := [Meets Try.prog 72 [(I p1.Thread), (I 0), (I 4)] (B r9), litA (B r9) = true, (B r9) = (B true), Meets Try.prog 72 [(I p1.Kind), (I 1), (I 12)] (B r11), litA (B r11) = true, (B r11) = (B false), (B false) = (B false), litA (B false) = true]) (by kernel_rfl) ⟨(spec_l1In_m hr9), rfl, (litB c10), (spec_l1In_m hr11), rfl, (litB c20), rfl, rfl, trivial⟩
  · have h := Option.some.inj h
    subst h
    exact go_ret hΘ hm hP hn (hs := [⟨2, .callV [] (B r9), none⟩, ⟨3, .no, some (B false)⟩]) (rh := []) (ph := .raw) (ps := [Meets Try.prog 72 [(I p1.Thread), (I 0), (I 4)] (B r9), litA (B r9) = true, (B r9) = (B false), (B false) = (B false), litA (B false) = true]) (by kernel_rfl) ⟨(spec_l1In_m hr9), rfl, (litB c21), rfl, rfl, trivial⟩
noncomputable def spec_l6Event (p1 : GEvent) : Option Bool :=
  Option.bind (spec_l1In p1.Kind 2 10) fun r2 =>
  if r2 = true then
    if (decide (p1.Obj < 0)) = true then
      some false
    else
      if (p1.Kind == 8) = true then
        if (decide (p1.Lock < 0)) = true then
          some false
        else
          spec_l6Event_j0 p1
      else
        if (p1.Kind == 9) = true then
          if (decide (p1.Lock < 0)) = true then
            some false
          else
            spec_l6Event_j0 p1
        else
          spec_l6Event_j0 p1
  else
    if (p1.Kind == 8) = true then
      if (decide (p1.Lock < 0)) = true then
        some false
      else
        spec_l6Event_j0 p1
    else
      if (p1.Kind == 9) = true then
        if (decide (p1.Lock < 0)) = true then
          some false
        else
          spec_l6Event_j0 p1
      else
        spec_l6Event_j0 p1
theorem spec_l6Event_m {p1 : GEvent} {r : Bool} (h : spec_l6Event p1 = some r) : Meets Try.prog 57 [(AV.agg ((o47 p1)))] (B r) := by
  refine meets_ofC Θ_ok Try.func57 rfl (c := body57) (by kernel_rfl) (Nat.le_of_ble_eq_true rfl) ?_
  intro E hP hn hx
  replace hn : E.n = 49 := hn
  have hm : E.P.follows .mixedOrders = true := by rw [hP]; exact mixed
  have hΘ : TOK E.P Θ := by rw [hP]; exact Θ_ok
  unfold spec_l6Event at h
  show WAt E body57 (FQ (RetE Θ Try.f57.results.toList [] [] (B r) E)) [] ⟨[(0, (AV.agg ((o47 p1))))], [], [JJ]⟩
  obtain ⟨r2, hr2, h⟩ := bnS h
  rcases itS h with ⟨c3, h⟩ | ⟨c27, h⟩
  · rcases itS h with ⟨c4, h⟩ | ⟨c5, h⟩
    · have h := Option.some.inj h
      subst h
      exact go_ret hΘ hm hP hn (hs := [⟨0, .new 1001, none⟩, ⟨4, .callV [] (B r2), none⟩, ⟨5, .no, some (B true)⟩, ⟨10, .no, some (B true)⟩]) (rh := []) (ph := .raw) (ps := [Meets Try.prog 72 [(I p1.Kind), (I 2), (I 10)] (B r2), litA (B r2) = true, (B r2) = (B true), (B (decide (p1.Obj < 0))) = (B true), (B false) = (B false), litA (B false) = true]) (by kernel_rfl) ⟨(spec_l1In_m hr2), rfl, (litB c3), (litB c4), rfl, rfl, trivial⟩
    · rcases itS h with ⟨c6, h⟩ | ⟨c22, h⟩
      · rcases itS h with ⟨c7, h⟩ | ⟨c8, h⟩
        · have h := Option.some.inj h
          subst h
          exact go_ret hΘ hm hP hn (hs := [⟨0, .new 1001, none⟩, ⟨4, .callV [] (B r2), none⟩, ⟨5, .no, some (B true)⟩, ⟨10, .no, some (B false)⟩, ⟨14, .no, some (B true)⟩, ⟨25, .br true, none⟩]) (rh := []) (ph := .raw) (ps := [Meets Try.prog 72 [(I p1.Kind), (I 2), (I 10)] (B r2), litA (B r2) = true, (B r2) = (B true), (B (decide (p1.Obj < 0))) = (B false), (B (p1.Kind == 8)) = (B true), (decide (p1.Lock < 0)) = true, (B false) = (B false), litA (B false) = true]) (by kernel_rfl) ⟨(spec_l1In_m hr2), rfl, (litB c3), (litB c5), (litB c6), c7, rfl, rfl, trivial⟩
        · exact go_to hΘ hm hx hP hn (hs := [⟨0, .new 1001, none⟩, ⟨4, .callV [] (B r2), none⟩, ⟨5, .no, some (B true)⟩, ⟨10, .no, some (B false)⟩, ⟨14, .no, some (B true)⟩, ⟨25, .br false, none⟩]) (π := [(1001, 1)]) (ts := [1]) (kp := []) (ps := [Meets Try.prog 72 [(I p1.Kind), (I 2), (I 10)] (B r2), litA (B r2) = true, (B r2) = (B true), (B (decide (p1.Obj < 0))) = (B false), (B (p1.Kind == 8)) = (B true), (decide (p1.Lock < 0)) = false, RenOK [(1001, 1)] [((o47 p1))]]) (by kernel_rfl) ⟨(spec_l1In_m hr2), rfl, (litB c3), (litB c5), (litB c6), c8, (rok rfl), trivial⟩ (spec_l6Event_j0_m hP hn hx p1  _ h)
      · rcases itS h with ⟨c23, h⟩ | ⟨c26, h⟩
        · rcases itS h with ⟨c24, h⟩ | ⟨c25, h⟩
          · have h := Option.some.inj h
            subst h
            exact go_ret hΘ hm hP hn (hs := [⟨0, .new 1001, none⟩, ⟨4, .callV [] (B r2), none⟩, ⟨5, .no, some (B true)⟩, ⟨10, .no, some (B false)⟩, ⟨14, .no, some (B false)⟩, ⟨19, .no, some (B true)⟩, ⟨25, .br true, none⟩]) (rh := []) (ph := .raw) (ps := [Meets Try.prog 72 [(I p1.Kind), (I 2), (I 10)] (B r2), litA (B r2) = true, (B r2) = (B true), (B (decide (p1.Obj < 0))) = (B false), (B (p1.Kind == 8)) = (B false), (B (p1.Kind == 9)) = (B true), (decide (p1.Lock < 0)) = true, (B false) = (B false), litA (B false) = true]) (by kernel_rfl) ⟨(spec_l1In_m hr2), rfl, (litB c3), (litB c5), (litB c22), (litB c23), c24, rfl, rfl, trivial⟩
          · exact go_to hΘ hm hx hP hn (hs := [⟨0, .new 1001, none⟩, ⟨4, .callV [] (B r2), none⟩, ⟨5, .no, some (B true)⟩, ⟨10, .no, some (B false)⟩, ⟨14, .no, some (B false)⟩, ⟨19, .no, some (B true)⟩, ⟨25, .br false, none⟩]) (π := [(1001, 1)]) (ts := [1]) (kp := []) (ps := [Meets Try.prog 72 [(I p1.Kind), (I 2), (I 10)] (B r2), litA (B r2) = true, (B r2) = (B true), (B (decide (p1.Obj < 0))) = (B false), (B (p1.Kind == 8)) = (B false), (B (p1.Kind == 9)) = (B true), (decide (p1.Lock < 0)) = false, RenOK [(1001, 1)] [((o47 p1))]]) (by kernel_rfl) ⟨(spec_l1In_m hr2), rfl, (litB c3), (litB c5), (litB c22), (litB c23), c25, (rok rfl), trivial⟩ (spec_l6Event_j0_m hP hn hx p1  _ h)
        · exact go_to hΘ hm hx hP hn (hs := [⟨0, .new 1001, none⟩, ⟨4, .callV [] (B r2), none⟩, ⟨5, .no, some (B true)⟩, ⟨10, .no, some (B false)⟩, ⟨14, .no, some (B false)⟩, ⟨19, .no, some (B false)⟩]) (π := [(1001, 1)]) (ts := [1]) (kp := []) (ps := [Meets Try.prog 72 [(I p1.Kind), (I 2), (I 10)] (B r2), litA (B r2) = true, (B r2) = (B true), (B (decide (p1.Obj < 0))) = (B false), (B (p1.Kind == 8)) = (B false), (B (p1.Kind == 9)) = (B false), RenOK [(1001, 1)] [((o47 p1))]]) (by kernel_rfl) ⟨(spec_l1In_m hr2), rfl, (litB c3), (litB c5), (litB c22), (litB c26), (rok rfl), trivial⟩ (spec_l6Event_j0_m hP hn hx p1  _ h)
  · rcases itS h with ⟨c28, h⟩ | ⟨c31, h⟩
    · rcases itS h with ⟨c29, h⟩ | ⟨c30, h⟩
      · have h := Option.some.inj h
        subst h
        exact go_ret hΘ hm hP hn (hs := [⟨0, .new 1001, none⟩, ⟨4, .callV [] (B r2), none⟩, ⟨5, .no, some (B false)⟩, ⟨14, .no, some (B true)⟩, ⟨25, .br true, none⟩]) (rh := []) (ph := .raw) (ps := [Meets Try.prog 72 [(I p1.Kind), (I 2), (I 10)] (B r2), litA (B r2) = true, (B r2) = (B false), (B (p1.Kind == 8)) = (B true), (decide (p1.Lock < 0)) = true, (B false) = (B false), litA (B false) = true]) (by kernel_rfl) ⟨(spec_l1In_m hr2), rfl, (litB c27), (litB c28), c29, rfl, rfl, trivial⟩
      · exact go_to hΘ hm hx hP hn (hs := [⟨0, .new 1001, none⟩, ⟨4, .callV [] (B r2), none⟩, ⟨5, .no, some (B false)⟩, ⟨14, .no, some (B true)⟩, ⟨25, .br false, none⟩]) (π := [(1001, 1)]) (ts := [1]) (kp := []) (ps := [Meets Try.prog 72 [(I p1.Kind), (I 2), (I 10)] (B r2), litA (B r2) = true, (B r2) = (B false), (B (p1.Kind == 8)) = (B true), (decide (p1.Lock < 0)) = false, RenOK [(1001, 1)] [((o47 p1))]]) (by kernel_rfl) ⟨(spec_l1In_m hr2), rfl, (litB c27), (litB c28), c30, (rok rfl), trivial⟩ (spec_l6Event_j0_m hP hn hx p1  _ h)
    · rcases itS h with ⟨c32, h⟩ | ⟨c35, h⟩
      · rcases itS h with ⟨c33, h⟩ | ⟨c34, h⟩
        · have h := Option.some.inj h
          subst h
          exact go_ret hΘ hm hP hn (hs := [⟨0, .new 1001, none⟩, ⟨4, .callV [] (B r2), none⟩, ⟨5, .no, some (B false)⟩, ⟨14, .no, some (B false)⟩, ⟨19, .no, some (B true)⟩, ⟨25, .br true, none⟩]) (rh := []) (ph := .raw) (ps := [Meets Try.prog 72 [(I p1.Kind), (I 2), (I 10)] (B r2), litA (B r2) = true, (B r2) = (B false), (B (p1.Kind == 8)) = (B false), (B (p1.Kind == 9)) = (B true), (decide (p1.Lock < 0)) = true, (B false) = (B false), litA (B false) = true]) (by kernel_rfl) ⟨(spec_l1In_m hr2), rfl, (litB c27), (litB c31), (litB c32), c33, rfl, rfl, trivial⟩
        · exact go_to hΘ hm hx hP hn (hs := [⟨0, .new 1001, none⟩, ⟨4, .callV [] (B r2), none⟩, ⟨5, .no, some (B false)⟩, ⟨14, .no, some (B false)⟩, ⟨19, .no, some (B true)⟩, ⟨25, .br false, none⟩]) (π := [(1001, 1)]) (ts := [1]) (kp := []) (ps := [Meets Try.prog 72 [(I p1.Kind), (I 2), (I 10)] (B r2), litA (B r2) = true, (B r2) = (B false), (B (p1.Kind == 8)) = (B false), (B (p1.Kind == 9)) = (B true), (decide (p1.Lock < 0)) = false, RenOK [(1001, 1)] [((o47 p1))]]) (by kernel_rfl) ⟨(spec_l1In_m hr2), rfl, (litB c27), (litB c31), (litB c32), c34, (rok rfl), trivial⟩ (spec_l6Event_j0_m hP hn hx p1  _ h)
      · exact go_to hΘ hm hx hP hn (hs := [⟨0, .new 1001, none⟩, ⟨4, .callV [] (B r2), none⟩, ⟨5, .no, some (B false)⟩, ⟨14, .no, some (B false)⟩, ⟨19, .no, some (B false)⟩]) (π := [(1001, 1)]) (ts := [1]) (kp := []) (ps := [Meets Try.prog 72 [(I p1.Kind), (I 2), (I 10)] (B r2), litA (B r2) = true, (B r2) = (B false), (B (p1.Kind == 8)) = (B false), (B (p1.Kind == 9)) = (B false), RenOK [(1001, 1)] [((o47 p1))]]) (by kernel_rfl) ⟨(spec_l1In_m hr2), rfl, (litB c27), (litB c31), (litB c35), (rok rfl), trivial⟩ (spec_l6Event_j0_m hP hn hx p1  _ h)
noncomputable def body31 : Code := match Try.f31.body with | some c => c | none => .skip
noncomputable def spec_l6Trace_l0  (p1 : (List GEvent)) : Nat → Int → Option Bool
  | 0, _ => none
  | n + 1, v2 =>
  if (decide (v2 < (p1.length : Int))) = true then
    Option.bind (rd p1 v2) fun x4 =>
    Option.bind (spec_l6Event x4) fun r5 =>
    if (!r5) = true then
      some false
    else
      spec_l6Trace_l0 p1 n (w64 (v2 + 1))
  else
    some (decide ((p1.length : Int) ≤ 200))
theorem spec_l6Trace_l0_m {E : Env} (hP : E.P = Try.prog) (hn : E.n = 18) (hx : ∀ p, p ∈ E.fx → p.1 ∈ ([] : List Nat)) (p1 : (List GEvent))  : ∀ (n : Nat) (v2 : Int) (r : Bool), spec_l6Trace_l0 p1 n v2 = some r → WAt E body31 (FQ (RetE Θ Try.f31.results.toList [] [] (B r) E)) [true, false, true, false] ⟨[(0, (AV.ro 5 (p1.map o47))), (5, (AV.ro 5 (p1.map o47))), (6, (I (p1.length : Int))), (7, (I v2))], [], [JJ]⟩ := by
  have hm : E.P.follows .mixedOrders = true := by rw [hP]; exact mixed
  have hΘ : TOK E.P Θ := by rw [hP]; exact Θ_ok
  intro n
  induction n with
  | zero => intro v2 r h; simp only [spec_l6Trace_l0] at h; cases h
  | succ n ih =>
    intro v2 r h
    simp only [spec_l6Trace_l0] at h
    rcases itS h with ⟨c3, h⟩ | ⟨c8, h⟩
    · obtain ⟨x4, hx4, h⟩ := bnS h
      obtain ⟨r5, hr5, h⟩ := bnS h
      rcases itS h with ⟨c6, h⟩ | ⟨c7, h⟩
      · have h := Option.some.inj h
        subst h
        exact go_ret hΘ hm hP hn (hs := [⟨1, .br true, none⟩, ⟨2, .row (o47 x4), none⟩, ⟨4, .new 1001, none⟩, ⟨7, .callV [[]] (B r5), none⟩, ⟨9, .br true, none⟩]) (rh := []) (ph := .raw) (ps := [(decide (v2 < (p1.length : Int))) = true, (0 : Int) ≤ v2, (p1.map o47)[(Int.toNat v2)]? = some (o47 x4), Meets Try.prog 57 [(AV.agg ((o47 x4)))] (B r5), litA (B r5) = true, (!r5) = true, (B false) = (B false), litA (B false) = true]) (by kernel_rfl) ⟨c3, (rd0 hx4), (rdM o47 hx4), (spec_l6Event_m hr5), rfl, c6, rfl, rfl, trivial⟩
      · exact go_to hΘ hm hx hP hn (hs := [⟨1, .br true, none⟩, ⟨2, .row (o47 x4), none⟩, ⟨4, .new 1001, none⟩, ⟨7, .callV [[]] (B r5), none⟩, ⟨9, .br false, none⟩]) (π := []) (ts := [0, 5, 6, 7]) (kp := []) (ps := [(decide (v2 < (p1.length : Int))) = true, (0 : Int) ≤ v2, (p1.map o47)[(Int.toNat v2)]? = some (o47 x4), Meets Try.prog 57 [(AV.agg ((o47 x4)))] (B r5), litA (B r5) = true, (!r5) = false]) (by kernel_rfl) ⟨c3, (rd0 hx4), (rdM o47 hx4), (spec_l6Event_m hr5), rfl, c7, trivial⟩ (ih (w64 (v2 + 1)) _ h)
    · have h := Option.some.inj h
      subst h
      exact go_ret hΘ hm hP hn (hs := [⟨1, .br false, none⟩, ⟨3, .no, some (I (p1.length : Int))⟩]) (rh := []) (ph := .raw) (ps := [(decide (v2 < (p1.length : Int))) = false, AV.lit (.int .i64 (((p1.map o47).length : Nat) : Int)) = (I (p1.length : Int)), (B (decide ((p1.length : Int) ≤ 200))) = (B (decide ((p1.length : Int) ≤ 200))), litA (B (decide ((p1.length : Int) ≤ 200))) = true]) (by kernel_rfl) ⟨c8, (lenM o47), rfl, rfl, trivial⟩
noncomputable def spec_l6Trace (p1 : (List GEvent)) : Option Bool :=
  spec_l6Trace_l0 p1 FU 0
theorem spec_l6Trace_m {p1 : (List GEvent)} {r : Bool} (h : spec_l6Trace p1 = some r) : Meets Try.prog 31 [(AV.ro 5 (p1.map o47))] (B r) := by
  refine meets_ofC Θ_ok Try.func31 rfl (c := body31) (by kernel_rfl) (Nat.le_of_ble_eq_true rfl) ?_
  intro E hP hn hx
  replace hn : E.n = 18 := hn
  have hm : E.P.follows .mixedOrders = true := by rw [hP]; exact mixed
  have hΘ : TOK E.P Θ := by rw [hP]; exact Θ_ok
  unfold spec_l6Trace at h
  show WAt E body31 (FQ (RetE Θ Try.f31.results.toList [] [] (B r) E)) [] ⟨[(0, (AV.ro 5 (p1.map o47)))], [], [JJ]⟩
  exact go_to hΘ hm hx hP hn (hs := [⟨2, .no, some (I (p1.length : Int))⟩]) (π := []) (ts := [0, 5, 6, 7]) (kp := []) (ps := [AV.lit (.int .i64 (((p1.map o47).length : Nat) : Int)) = (I (p1.length : Int))]) (by kernel_rfl) ⟨(lenM o47), trivial⟩ (spec_l6Trace_l0_m hP hn hx p1 FU 0 _ h)
noncomputable def body65 : Code := match Try.f65.body with | some c => c | none => .skip
noncomputable def spec_l6Takes (p1 : GEvent) : Option Int :=
  if (p1.Kind == 4) = true then
    some p1.Obj
  else
    if (p1.Kind == 9) = true then
      some p1.Lock
    else
      some (-3)
theorem spec_l6Takes_m {p1 : GEvent} {r : Int} (h : spec_l6Takes p1 = some r) : Meets Try.prog 65 [(AV.agg ((o47 p1)))] (I r) := by
  refine meets_ofC Θ_ok Try.func65 rfl (c := body65) (by kernel_rfl) (Nat.le_of_ble_eq_true rfl) ?_
  intro E hP hn hx
  replace hn : E.n = 13 := hn
  have hm : E.P.follows .mixedOrders = true := by rw [hP]; exact mixed
  have hΘ : TOK E.P Θ := by rw [hP]; exact Θ_ok
  unfold spec_l6Takes at h
  show WAt E body65 (FQ (RetE Θ Try.f65.results.toList [] [] (I r) E)) [] ⟨[(0, (AV.agg ((o47 p1))))], [], [JJ]⟩
  rcases itS h with ⟨c2, h⟩ | ⟨c3, h⟩
  · have h := Option.some.inj h
    subst h
    exact go_ret hΘ hm hP hn (hs := [⟨0, .new 1001, none⟩, ⟨6, .br true, none⟩]) (rh := []) (ph := .raw) (ps := [(p1.Kind == 4) = true, (I p1.Obj) = (I p1.Obj), litA (I p1.Obj) = true]) (by kernel_rfl) ⟨c2, rfl, rfl, trivial⟩
  · rcases itS h with ⟨c4, h⟩ | ⟨c5, h⟩
    · have h := Option.some.inj h
      subst h
      exact go_ret hΘ hm hP hn (hs := [⟨0, .new 1001, none⟩, ⟨6, .br false, none⟩, ⟨9, .br true, none⟩]) (rh := []) (ph := .raw) (ps := [(p1.Kind == 4) = false, (p1.Kind == 9) = true, (I p1.Lock) = (I p1.Lock), litA (I p1.Lock) = true]) (by kernel_rfl) ⟨c3, c4, rfl, rfl, trivial⟩
    · have h := Option.some.inj h
      subst h
      exact go_ret hΘ hm hP hn (hs := [⟨0, .new 1001, none⟩, ⟨6, .br false, none⟩, ⟨9, .br false, none⟩]) (rh := []) (ph := .raw) (ps := [(p1.Kind == 4) = false, (p1.Kind == 9) = false, (I (-3)) = (I (-3)), litA (I (-3)) = true]) (by kernel_rfl) ⟨c3, c5, rfl, rfl, trivial⟩
noncomputable def body68 : Code := match Try.f68.body with | some c => c | none => .skip
noncomputable def spec_l6Gives (p1 : GEvent) : Option Int :=
  if (p1.Kind == 5) = true then
    some p1.Obj
  else
    if (p1.Kind == 8) = true then
      some p1.Lock
    else
      some (-2)
theorem spec_l6Gives_m {p1 : GEvent} {r : Int} (h : spec_l6Gives p1 = some r) : Meets Try.prog 68 [(AV.agg ((o47 p1)))] (I r) := by
  refine meets_ofC Θ_ok Try.func68 rfl (c := body68) (by kernel_rfl) (Nat.le_of_ble_eq_true rfl) ?_
  intro E hP hn hx
  replace hn : E.n = 13 := hn
  have hm : E.P.follows .mixedOrders = true := by rw [hP]; exact mixed
  have hΘ : TOK E.P Θ := by rw [hP]; exact Θ_ok
  unfold spec_l6Gives at h
  show WAt E body68 (FQ (RetE Θ Try.f68.results.toList [] [] (I r) E)) [] ⟨[(0, (AV.agg ((o47 p1))))], [], [JJ]⟩
  rcases itS h with ⟨c2, h⟩ | ⟨c3, h⟩
  · have h := Option.some.inj h
    subst h
    exact go_ret hΘ hm hP hn (hs := [⟨0, .new 1001, none⟩, ⟨6, .br true, none⟩]) (rh := []) (ph := .raw) (ps := [(p1.Kind == 5) = true, (I p1.Obj) = (I p1.Obj), litA (I p1.Obj) = true]) (by kernel_rfl) ⟨c2, rfl, rfl, trivial⟩
  · rcases itS h with ⟨c4, h⟩ | ⟨c5, h⟩
    · have h := Option.some.inj h
      subst h
      exact go_ret hΘ hm hP hn (hs := [⟨0, .new 1001, none⟩, ⟨6, .br false, none⟩, ⟨9, .br true, none⟩]) (rh := []) (ph := .raw) (ps := [(p1.Kind == 5) = false, (p1.Kind == 8) = true, (I p1.Lock) = (I p1.Lock), litA (I p1.Lock) = true]) (by kernel_rfl) ⟨c3, c4, rfl, rfl, trivial⟩
    · have h := Option.some.inj h
      subst h
      exact go_ret hΘ hm hP hn (hs := [⟨0, .new 1001, none⟩, ⟨6, .br false, none⟩, ⟨9, .br false, none⟩]) (rh := []) (ph := .raw) (ps := [(p1.Kind == 5) = false, (p1.Kind == 8) = false, (I (-2)) = (I (-2)), litA (I (-2)) = true]) (by kernel_rfl) ⟨c3, c5, rfl, rfl, trivial⟩
noncomputable def body69 : Code := match Try.f69.body with | some c => c | none => .skip
noncomputable def spec_l7Drop_l0  (p1 : (List Int)) (p2 : Int) : Nat → (List Int) → Int → Option (List Int)
  | 0, _, _ => none
  | n + 1, a3, v4 =>
  if (decide (v4 < (p1.length : Int))) = true then
    Option.bind (rd p1 v4) fun x6 =>
    if (x6 != p2) = true then
      Option.bind (app a3 [x6]) fun l8 =>
      spec_l7Drop_l0 p1 p2 n l8 (w64 (v4 + 1))
    else
      spec_l7Drop_l0 p1 p2 n a3 (w64 (v4 + 1))
  else
    some a3
theorem spec_l7Drop_l0_m {E : Env} (hP : E.P = Try.prog) (hn : E.n = 23) (hx : ∀ p, p ∈ E.fx → p.1 ∈ ([] : List Nat)) (p1 : (List Int)) (p2 : Int)  : ∀ (n : Nat) (a3 : (List Int)) (v4 : Int) (r : (List Int)), spec_l7Drop_l0 p1 p2 n a3 v4 = some r → WAt E body69 (FQ (RetE Θ Try.f69.results.toList [] [] (AV.own 3 1 (r.map o3)) E)) [true, true, false, true, false] ⟨[(1, (I p2)), (5, (AV.sl 1 0 (List.length (a3.map o3)))), (8, (AV.ro 1 (p1.map o3))), (9, (I (p1.length : Int))), (10, (I v4))], [(1, some ⟨3, 1, (a3.map o3)⟩)], [1, JJ]⟩ := by
  have hm : E.P.follows .mixedOrders = true := by rw [hP]; exact mixed
  have hΘ : TOK E.P Θ := by rw [hP]; exact Θ_ok
  intro n
  induction n with
  | zero => intro a3 v4 r h; simp only [spec_l7Drop_l0] at h; cases h
  | succ n ih =>
    intro a3 v4 r h
    simp only [spec_l7Drop_l0] at h
    rcases itS h with ⟨c5, h⟩ | ⟨c10, h⟩
    · obtain ⟨x6, hx6, h⟩ := bnS h
      rcases itS h with ⟨c7, h⟩ | ⟨c9, h⟩
      · obtain ⟨l8, hl8, h⟩ := bnS h
        exact go_to hΘ hm hx hP hn (hs := [⟨1, .br true, none⟩, ⟨2, .row (o3 x6), none⟩, ⟨8, .br true, none⟩, ⟨11, .new 1001, none⟩, ⟨12, .app 1002 (l8.map o3), none⟩]) (π := [(1002, 1)]) (ts := [1, 5, 8, 9, 10]) (kp := []) (ps := [(decide (v4 < (p1.length : Int))) = true, (0 : Int) ≤ v4, (p1.map o3)[(Int.toNat v4)]? = some (o3 x6), (x6 != p2) = true, (a3.map o3).take (List.length (a3.map o3)) ++ ((([x6].map o3).drop 0).take (List.length ([x6].map o3))) = (l8.map o3), ((([x6].map o3).drop 0).take (List.length ([x6].map o3))).all (fun r => r.all AV.plain) = true, (List.length (l8.map o3)) * 8 ≤ 140737488355328, (List.length (l8.map o3)) ≤ 140737488355328, RenOK [(1002, 1)] (l8.map o3)]) (by kernel_rfl) ⟨c5, (rd0 hx6), (rdM o3 hx6), c7, (appTD o3 hl8), (plD p3), (appB o3 hl8 (by decide)), (appC o3 hl8), (rok (treeM t3)), trivial⟩ (ih l8 (w64 (v4 + 1)) _ h)
      · exact go_to hΘ hm hx hP hn (hs := [⟨1, .br true, none⟩, ⟨2, .row (o3 x6), none⟩, ⟨8, .br false, none⟩]) (π := [(1, 1)]) (ts := [1, 5, 8, 9, 10]) (kp := []) (ps := [(decide (v4 < (p1.length : Int))) = true, (0 : Int) ≤ v4, (p1.map o3)[(Int.toNat v4)]? = some (o3 x6), (x6 != p2) = false, RenOK [(1, 1)] (a3.map o3)]) (by kernel_rfl) ⟨c5, (rd0 hx6), (rdM o3 hx6), c9, (rok (treeM t3)), trivial⟩ (ih a3 (w64 (v4 + 1)) _ h)
    · have h := Option.some.inj h
      subst h
      exact go_ret hΘ hm hP hn (hs := [⟨1, .br false, none⟩]) (rh := []) (ph := .own) (ps := [(decide (v4 < (p1.length : Int))) = false, treeLL ((a3.map o3).take (List.length (a3.map o3))) = true, (a3.map o3).take (List.length (a3.map o3)) = (a3.map o3), noRoLL (a3.map o3) = true]) (by kernel_rfl) ⟨c10, (treeT t3), takeM, (noRoM n3), trivial⟩
noncomputable def spec_l7Drop (p1 : (List Int)) (p2 : Int) : Option (List Int) :=
  spec_l7Drop_l0 p1 p2 FU [] 0
theorem spec_l7Drop_m {p1 : (List Int)} {p2 : Int} {r : (List Int)} (h : spec_l7Drop p1 p2 = some r) : Meets Try.prog 69 [(AV.ro 1 (p1.map o3)), (I p2)] (AV.own 3 1 (r.map o3)) := by
  refine meets_ofC Θ_ok Try.func69 rfl (c := body69) (by kernel_rfl) (Nat.le_of_ble_eq_true rfl) ?_
  intro E hP hn hx
  replace hn : E.n = 23 := hn
  have hm : E.P.follows .mixedOrders = true := by rw [hP]; exact mixed
  have hΘ : TOK E.P Θ := by rw [hP]; exact Θ_ok
  unfold spec_l7Drop at h
  show WAt E body69 (FQ (RetE Θ Try.f69.results.toList [] [] (AV.own 3 1 (r.map o3)) E)) [] ⟨[(0, (AV.ro 1 (p1.map o3))), (1, (I p2))], [], [JJ]⟩
  exact go_to hΘ hm hx hP hn (hs := [⟨3, .no, some (I (p1.length : Int))⟩, ⟨5, .nil 5 1001 3 1, none⟩]) (π := [(1001, 1)]) (ts := [1, 5, 8, 9, 10]) (kp := []) (ps := [AV.lit (.int .i64 (((p1.map o3).length : Nat) : Int)) = (I (p1.length : Int)), RenOK [(1001, 1)] ([].map o3)]) (by kernel_rfl) ⟨(lenM o3), (rok (treeM t3)), trivial⟩ (spec_l7Drop_l0_m hP hn hx p1 p2 FU [] 0 _ h)
noncomputable def body51 : Code := match Try.f51.body with | some c => c | none => .skip
noncomputable def spec_l1Put_j2  (p1 : (List Int)) (p2 : Int) (v3 : Int)  : Option (List Int) :=
  Option.bind (slc p1 0 v3) fun l12 =>
  Option.bind (app [] l12) fun l13 =>
  Option.bind (app l13 [p2]) fun l14 =>
  Option.bind (slc p1 v3 (p1.length : Int)) fun l15 =>
  Option.bind (app l14 l15) fun l16 =>
  some l16
theorem spec_l1Put_j2_m {E : Env} (hP : E.P = Try.prog) (hn : E.n = 48) (hx : ∀ p, p ∈ E.fx → p.1 ∈ ([] : List Nat)) (p1 : (List Int)) (p2 : Int) (v3 : Int)   (r : (List Int)) (h : spec_l1Put_j2 p1 p2 v3  = some r) : WAt E body51 (FQ (RetE Θ Try.f51.results.toList [false] [⟨3, 1, (p1.map o3)⟩] (AV.own 3 1 (r.map o3)) E)) [true, true, true, false, true, true] ⟨[(0, (AV.sl 1 0 (List.length (p1.map o3)))), (1, (I p2)), (5, (I v3))], [(1, some ⟨3, 1, (p1.map o3)⟩)], [1, JJ]⟩ := by
  have hm : E.P.follows .mixedOrders = true := by rw [hP]; exact mixed
  have hΘ : TOK E.P Θ := by rw [hP]; exact Θ_ok
  unfold spec_l1Put_j2 at h
  obtain ⟨l12, hl12, h⟩ := bnS h
  obtain ⟨l13, hl13, h⟩ := bnS h
  obtain ⟨l14, hl14, h⟩ := bnS h
  obtain ⟨l15, hl15, h⟩ := bnS h
  obtain ⟨l16, hl16, h⟩ := bnS h
  have h := Option.some.inj h
  subst h
  exact go_ret hΘ hm hP hn (hs := [⟨0, .new 1001, none⟩, ⟨4, .app 1002 (l13.map o3), none⟩, ⟨8, .new 1003, none⟩, ⟨9, .app 1004 (l14.map o3), none⟩, ⟨15, .app 1005 (l16.map o3), none⟩]) (rh := []) (ph := .own) (ps := [(0 : Int) ≤ 0, 0 ≤ v3, v3 ≤ (((List.length (p1.map o3)) : Nat) : Int), ([].map o3).take (List.length ([].map o3)) ++ (((p1.map o3).drop 0).take (Int.toNat v3)) = (l13.map o3), (((p1.map o3).drop 0).take (Int.toNat v3)).all (fun r => r.all AV.plain) = true, (List.length (l13.map o3)) * 8 ≤ 140737488355328, (List.length (l13.map o3)) ≤ 140737488355328, (l13.map o3).take (List.length (l13.map o3)) ++ ((([p2].map o3).drop 0).take (List.length ([p2].map o3))) = (l14.map o3), ((([p2].map o3).drop 0).take (List.length ([p2].map o3))).all (fun r => r.all AV.plain) = true, (List.length (l14.map o3)) * 8 ≤ 140737488355328, (List.length (l14.map o3)) ≤ 140737488355328, (0 : Int) ≤ v3, v3 ≤ (((p1.map o3).length : Nat) : Int), (((p1.map o3).length : Nat) : Int) ≤ (((List.length (p1.map o3)) : Nat) : Int), (l14.map o3).take (List.length (l14.map o3)) ++ (((p1.map o3).drop (Int.toNat v3)).take (subO (Int.toNat (((p1.map o3).length : Nat) : Int)) (Int.toNat v3))) = (l16.map o3), (((p1.map o3).drop (Int.toNat v3)).take (subO (Int.toNat (((p1.map o3).length : Nat) : Int)) (Int.toNat v3))).all (fun r => r.all AV.plain) = true, (List.length (l16.map o3)) * 8 ≤ 140737488355328, (List.length (l16.map o3)) ≤ 140737488355328, treeLL ((l16.map o3).take (List.length (l16.map o3))) = true, (l16.map o3).take (List.length (l16.map o3)) = (l16.map o3), noRoLL (l16.map o3) = true]) (by kernel_rfl) ⟨(sl0 hl12), (sl1 hl12), (sl2 o3 hl12), (appTDS0 o3 hl13 hl12), (plD p3), (appB o3 hl13 (by decide)), (appC o3 hl13), (appTD o3 hl14), (plD p3), (appB o3 hl14 (by decide)), (appC o3 hl14), (sl0 hl15), (sl1e o3 hl15), (Int.le_refl _), (appTDSe o3 hl16 hl15), (plD p3), (appB o3 hl16 (by decide)), (appC o3 hl16), (treeT t3), takeM, (noRoM n3), trivial⟩
noncomputable def spec_l1Put_j1 (K0 : Int → Option (List Int)) (p1 : (List Int)) (p2 : Int) (v3 : Int)  : Option (List Int) :=
  if (decide (v3 < (p1.length : Int))) = true then
    Option.bind (rd p1 v3) fun x9 =>
    if (x9 == p2) = true then
      some p1
    else
      spec_l1Put_j2 p1 p2 v3
  else
    spec_l1Put_j2 p1 p2 v3
theorem spec_l1Put_j1_m {E : Env} (hP : E.P = Try.prog) (hn : E.n = 48) (hx : ∀ p, p ∈ E.fx → p.1 ∈ ([] : List Nat)) (p1 : (List Int)) (p2 : Int) (v3 : Int) {K0 : Int → Option (List Int)} (hK0 : ∀ (v3 : Int) (r : (List Int)), K0 v3 = some r → WAt E body51 (FQ (RetE Θ Try.f51.results.toList [false] [⟨3, 1, (p1.map o3)⟩] (AV.own 3 1 (r.map o3)) E)) [true, true, false, false] ⟨[(0, (AV.sl 1 0 (List.length (p1.map o3)))), (1, (I p2)), (5, (I v3))], [(1, some ⟨3, 1, (p1.map o3)⟩)], [1, JJ]⟩)  (r : (List Int)) (h : spec_l1Put_j1 K0 p1 p2 v3  = some r) : WAt E body51 (FQ (RetE Θ Try.f51.results.toList [false] [⟨3, 1, (p1.map o3)⟩] (AV.own 3 1 (r.map o3)) E)) [true, true, false, false, false, false, true, true] ⟨[(0, (AV.sl 1 0 (List.length (p1.map o3)))), (1, (I p2)), (5, (I v3))], [(1, some ⟨3, 1, (p1.map o3)⟩)], [1, JJ]⟩ := by
  have hm : E.P.follows .mixedOrders = true := by rw [hP]; exact mixed
  have hΘ : TOK E.P Θ := by rw [hP]; exact Θ_ok
  unfold spec_l1Put_j1 at h
  rcases itS h with ⟨c8, h⟩ | ⟨c17, h⟩
  · obtain ⟨x9, hx9, h⟩ := bnS h
    rcases itS h with ⟨c10, h⟩ | ⟨c11, h⟩
    · have h := Option.some.inj h
      subst h
      exact go_ret hΘ hm hP hn (hs := [⟨2, .no, some (I (p1.length : Int))⟩, ⟨4, .no, some (B true)⟩, ⟨8, .row [(I x9)], none⟩, ⟨12, .br true, none⟩]) (rh := []) (ph := .own) (ps := [AV.lit (.int .i64 (((List.length (p1.map o3)) : Nat) : Int)) = (I (p1.length : Int)), (B (decide (v3 < (p1.length : Int)))) = (B true), (0 : Int) ≤ v3, v3 < (((List.length (p1.map o3)) : Nat) : Int), (p1.map o3)[(Int.toNat v3)]? = some [(I x9)], (x9 == p2) = true, treeLL ((p1.map o3).take (List.length (p1.map o3))) = true, (p1.map o3).take (List.length (p1.map o3)) = (p1.map o3), noRoLL (p1.map o3) = true]) (by kernel_rfl) ⟨(lenM o3), (litB c8), (rd0 hx9), (rdL o3 hx9), (rdM o3 hx9), c10, (treeT t3), takeM, (noRoM n3), trivial⟩
    · exact go_to hΘ hm hx hP hn (hs := [⟨2, .no, some (I (p1.length : Int))⟩, ⟨4, .no, some (B true)⟩, ⟨8, .row [(I x9)], none⟩, ⟨12, .br false, none⟩]) (π := [(1, 1)]) (ts := [0, 1, 5]) (kp := []) (ps := [AV.lit (.int .i64 (((List.length (p1.map o3)) : Nat) : Int)) = (I (p1.length : Int)), (B (decide (v3 < (p1.length : Int)))) = (B true), (0 : Int) ≤ v3, v3 < (((List.length (p1.map o3)) : Nat) : Int), (p1.map o3)[(Int.toNat v3)]? = some [(I x9)], (x9 == p2) = false, RenOK [(1, 1)] (p1.map o3)]) (by kernel_rfl) ⟨(lenM o3), (litB c8), (rd0 hx9), (rdL o3 hx9), (rdM o3 hx9), c11, (rok (treeM t3)), trivial⟩ (spec_l1Put_j2_m hP hn hx p1 p2 v3  _ h)
  · exact go_to hΘ hm hx hP hn (hs := [⟨2, .no, some (I (p1.length : Int))⟩, ⟨4, .no, some (B false)⟩]) (π := [(1, 1)]) (ts := [0, 1, 5]) (kp := []) (ps := [AV.lit (.int .i64 (((List.length (p1.map o3)) : Nat) : Int)) = (I (p1.length : Int)), (B (decide (v3 < (p1.length : Int)))) = (B false), RenOK [(1, 1)] (p1.map o3)]) (by kernel_rfl) ⟨(lenM o3), (litB c17), (rok (treeM t3)), trivial⟩ (spec_l1Put_j2_m hP hn hx p1 p2 v3  _ h)
noncomputable def spec_l1Put_l0  (p1 : (List Int)) (p2 : Int) : Nat → Int → Option (List Int)
  | 0, _ => none
  | n + 1, v3 =>
  if (decide (v3 < (p1.length : Int))) = true then
    Option.bind (rd p1 v3) fun x5 =>
    if (decide (x5 < p2)) = true then
      spec_l1Put_l0 p1 p2 n (w64 (v3 + 1))
    else
      spec_l1Put_j1 (spec_l1Put_l0 p1 p2 n) p1 p2 v3
  else
    spec_l1Put_j1 (spec_l1Put_l0 p1 p2 n) p1 p2 v3
theorem spec_l1Put_l0_m {E : Env} (hP : E.P = Try.prog) (hn : E.n = 48) (hx : ∀ p, p ∈ E.fx → p.1 ∈ ([] : List Nat)) (p1 : (List Int)) (p2 : Int)  : ∀ (n : Nat) (v3 : Int) (r : (List Int)), spec_l1Put_l0 p1 p2 n v3 = some r → WAt E body51 (FQ (RetE Θ Try.f51.results.toList [false] [⟨3, 1, (p1.map o3)⟩] (AV.own 3 1 (r.map o3)) E)) [true, true, false, false] ⟨[(0, (AV.sl 1 0 (List.length (p1.map o3)))), (1, (I p2)), (5, (I v3))], [(1, some ⟨3, 1, (p1.map o3)⟩)], [1, JJ]⟩ := by
  have hm : E.P.follows .mixedOrders = true := by rw [hP]; exact mixed
  have hΘ : TOK E.P Θ := by rw [hP]; exact Θ_ok
  intro n
  induction n with
  | zero => intro v3 r h; simp only [spec_l1Put_l0] at h; cases h
  | succ n ih =>
    intro v3 r h
    simp only [spec_l1Put_l0] at h
    rcases itS h with ⟨c4, h⟩ | ⟨c18, h⟩
    · obtain ⟨x5, hx5, h⟩ := bnS h
      rcases itS h with ⟨c6, h⟩ | ⟨c7, h⟩
      · exact go_to hΘ hm hx hP hn (hs := [⟨2, .no, some (I (p1.length : Int))⟩, ⟨4, .no, some (B true)⟩, ⟨8, .row [(I x5)], none⟩, ⟨12, .br true, none⟩]) (π := [(1, 1)]) (ts := [0, 1, 5]) (kp := []) (ps := [AV.lit (.int .i64 (((List.length (p1.map o3)) : Nat) : Int)) = (I (p1.length : Int)), (B (decide (v3 < (p1.length : Int)))) = (B true), (0 : Int) ≤ v3, v3 < (((List.length (p1.map o3)) : Nat) : Int), (p1.map o3)[(Int.toNat v3)]? = some [(I x5)], (decide (x5 < p2)) = true, RenOK [(1, 1)] (p1.map o3)]) (by kernel_rfl) ⟨(lenM o3), (litB c4), (rd0 hx5), (rdL o3 hx5), (rdM o3 hx5), c6, (rok (treeM t3)), trivial⟩ (ih (w64 (v3 + 1)) _ h)
      · exact go_to hΘ hm hx hP hn (hs := [⟨2, .no, some (I (p1.length : Int))⟩, ⟨4, .no, some (B true)⟩, ⟨8, .row [(I x5)], none⟩, ⟨12, .br false, none⟩]) (π := [(1, 1)]) (ts := [0, 1, 5]) (kp := []) (ps := [AV.lit (.int .i64 (((List.length (p1.map o3)) : Nat) : Int)) = (I (p1.length : Int)), (B (decide (v3 < (p1.length : Int)))) = (B true), (0 : Int) ≤ v3, v3 < (((List.length (p1.map o3)) : Nat) : Int), (p1.map o3)[(Int.toNat v3)]? = some [(I x5)], (decide (x5 < p2)) = false, RenOK [(1, 1)] (p1.map o3)]) (by kernel_rfl) ⟨(lenM o3), (litB c4), (rd0 hx5), (rdL o3 hx5), (rdM o3 hx5), c7, (rok (treeM t3)), trivial⟩ (spec_l1Put_j1_m hP hn hx p1 p2 v3 ih  _ h)
    · exact go_to hΘ hm hx hP hn (hs := [⟨2, .no, some (I (p1.length : Int))⟩, ⟨4, .no, some (B false)⟩]) (π := [(1, 1)]) (ts := [0, 1, 5]) (kp := []) (ps := [AV.lit (.int .i64 (((List.length (p1.map o3)) : Nat) : Int)) = (I (p1.length : Int)), (B (decide (v3 < (p1.length : Int)))) = (B false), RenOK [(1, 1)] (p1.map o3)]) (by kernel_rfl) ⟨(lenM o3), (litB c18), (rok (treeM t3)), trivial⟩ (spec_l1Put_j1_m hP hn hx p1 p2 v3 ih  _ h)
noncomputable def spec_l1Put (p1 : (List Int)) (p2 : Int) : Option (List Int) :=
  spec_l1Put_l0 p1 p2 FU 0
theorem spec_l1Put_m {p1 : (List Int)} {p2 : Int} {r : (List Int)} (h : spec_l1Put p1 p2 = some r) : MeetsR Try.prog 51 [⟨3, 1, (p1.map o3)⟩] [(AV.sl 0 0 (List.length (p1.map o3))), (I p2)] [false] [⟨3, 1, (p1.map o3)⟩] (AV.own 3 1 (r.map o3)) := by
  refine meetsR_of Θ_ok Try.func51 rfl (c := body51) (by kernel_rfl) (Nat.le_of_ble_eq_true rfl) rfl (Nat.le_of_ble_eq_true rfl) rfl (fr := []) (frI rfl) ?_
  intro E hP hn hx
  replace hn : E.n = 48 := hn
  have hm : E.P.follows .mixedOrders = true := by rw [hP]; exact mixed
  have hΘ : TOK E.P Θ := by rw [hP]; exact Θ_ok
  unfold spec_l1Put at h
  show WAt E body51 (FQ (RetE Θ Try.f51.results.toList [false] [⟨3, 1, (p1.map o3)⟩] (AV.own 3 1 (r.map o3)) E)) [] ⟨[(0, (AV.sl 0 0 (List.length (p1.map o3)))), (1, (I p2))], [(0, some ⟨3, 1, (p1.map o3)⟩)], [0, JJ]⟩
  exact go_to hΘ hm hx hP hn (hs := []) (π := [(0, 1)]) (ts := [0, 1, 5]) (kp := []) (ps := [RenOK [(0, 1)] (p1.map o3)]) (by kernel_rfl) ⟨(rok (treeM t3)), trivial⟩ (spec_l1Put_l0_m hP hn hx p1 p2 FU 0 _ h)
noncomputable def body52 : Code := match Try.f52.body with | some c => c | none => .skip
noncomputable def spec_l7Held_j1 (K0 : (List Int) → Int → Option (List Int)) (p1 : (List GEvent)) (p2 : Int) (l3 : (List GEvent)) (v5 : Int) (a14 : (List Int)) (a15 : GEvent) : Option (List Int) :=
  Option.bind (spec_l6Gives a15) fun r16 =>
  if (decide (r16 ≥ 0)) = true then
    Option.bind (spec_l7Drop a14 r16) fun r18 =>
    K0 r18 (w64 (v5 + 1))
  else
    K0 a14 (w64 (v5 + 1))
theorem spec_l7Held_j1_m {E : Env} (hP : E.P = Try.prog) (hn : E.n = 43) (hx : ∀ p, p ∈ E.fx → p.1 ∈ ([] : List Nat)) (p1 : (List GEvent)) (p2 : Int) (l3 : (List GEvent)) (v5 : Int) {K0 : (List Int) → Int → Option (List Int)} (hK0 : ∀ (a4 : (List Int)) (v5 : Int) (r : (List Int)), K0 a4 v5 = some r → WAt E body52 (FQ (RetE Θ Try.f52.results.toList [] [] (AV.own 3 1 (r.map o3)) E)) [true, true, false, true, false] ⟨[(0, (AV.ro 5 (p1.map o47))), (1, (I p2)), (5, (AV.sl 1 0 (List.length (a4.map o3)))), (13, (AV.ro 5 (l3.map o47))), (14, (I (l3.length : Int))), (15, (I v5))], [(1, some ⟨3, 1, (a4.map o3)⟩)], [1, JJ]⟩) (a14 : (List Int)) (a15 : GEvent) (r : (List Int)) (h : spec_l7Held_j1 K0 p1 p2 l3 v5 a14 a15 = some r) : WAt E body52 (FQ (RetE Θ Try.f52.results.toList [] [] (AV.own 3 1 (r.map o3)) E)) [true, true, false, true, false, false, true, true, false, false, true, true, true] ⟨[(0, (AV.ro 5 (p1.map o47))), (1, (I p2)), (5, (AV.sl 1 0 (List.length (a14.map o3)))), (7, (AV.ptr 2 0 0)), (13, (AV.ro 5 (l3.map o47))), (14, (I (l3.length : Int))), (15, (I v5))], [(1, some ⟨3, 1, (a14.map o3)⟩), (2, some ⟨47, 5, [((o47 a15))]⟩)], [1, 2, JJ]⟩ := by
  have hm : E.P.follows .mixedOrders = true := by rw [hP]; exact mixed
  have hΘ : TOK E.P Θ := by rw [hP]; exact Θ_ok
  unfold spec_l7Held_j1 at h
  obtain ⟨r16, hr16, h⟩ := bnS h
  rcases itS h with ⟨c17, h⟩ | ⟨c19, h⟩
  · obtain ⟨r18, hr18, h⟩ := bnS h
    exact go_to hΘ hm hx hP hn (hs := [⟨1, .callV [[]] (I r16), none⟩, ⟨5, .br true, none⟩, ⟨8, .call [(a14.map o3)] (AV.own 3 1 (r18.map o3)) [1001], none⟩]) (π := [(1001, 1)]) (ts := [0, 1, 5, 13, 14, 15]) (kp := []) (ps := [Meets Try.prog 68 [(AV.agg ((o47 a15)))] (I r16), litA (I r16) = true, (decide (r16 ≥ 0)) = true, Meets Try.prog 69 [(AV.ro 1 (a14.map o3)), (I r16)] (AV.own 3 1 (r18.map o3)), noRo (AV.own 3 1 (r18.map o3)) = true, Frz (((a14.map o3).drop 0).take (List.length (a14.map o3))) (a14.map o3), RenOK [(1001, 1)] (r18.map o3)]) (by kernel_rfl) ⟨(spec_l6Gives_m hr16), rfl, c17, (spec_l7Drop_m hr18), (by simp only [noRo, noRoL, noRoM n3, Bool.and_self]), (frzF t3 z3), (rok (treeM t3)), trivial⟩ (hK0 r18 (w64 (v5 + 1)) _ h)
  · exact go_to hΘ hm hx hP hn (hs := [⟨1, .callV [[]] (I r16), none⟩, ⟨5, .br false, none⟩]) (π := [(1, 1)]) (ts := [0, 1, 5, 13, 14, 15]) (kp := []) (ps := [Meets Try.prog 68 [(AV.agg ((o47 a15)))] (I r16), litA (I r16) = true, (decide (r16 ≥ 0)) = false, RenOK [(1, 1)] (a14.map o3)]) (by kernel_rfl) ⟨(spec_l6Gives_m hr16), rfl, c19, (rok (treeM t3)), trivial⟩ (hK0 a14 (w64 (v5 + 1)) _ h)
noncomputable def spec_l7Held_l0  (p1 : (List GEvent)) (p2 : Int) (l3 : (List GEvent)) : Nat → (List Int) → Int → Option (List Int)
  | 0, _, _ => none
  | n + 1, a4, v5 =>
  if (decide (v5 < (l3.length : Int))) = true then
    Option.bind (rd l3 v5) fun x7 =>
    Option.bind (rd p1 p2) fun x8 =>
    if (x7.Thread != x8.Thread) = true then
      spec_l7Held_l0 p1 p2 l3 n a4 (w64 (v5 + 1))
    else
      Option.bind (spec_l6Takes x7) fun r11 =>
      if (decide (r11 ≥ 0)) = true then
        Option.bind (spec_l1Put a4 r11) fun r13 =>
        spec_l7Held_j1 (spec_l7Held_l0 p1 p2 l3 n) p1 p2 l3 v5 r13 x7
      else
        spec_l7Held_j1 (spec_l7Held_l0 p1 p2 l3 n) p1 p2 l3 v5 a4 x7
  else
    some a4
theorem spec_l7Held_l0_m {E : Env} (hP : E.P = Try.prog) (hn : E.n = 43) (hx : ∀ p, p ∈ E.fx → p.1 ∈ ([] : List Nat)) (p1 : (List GEvent)) (p2 : Int) (l3 : (List GEvent))  : ∀ (n : Nat) (a4 : (List Int)) (v5 : Int) (r : (List Int)), spec_l7Held_l0 p1 p2 l3 n a4 v5 = some r → WAt E body52 (FQ (RetE Θ Try.f52.results.toList [] [] (AV.own 3 1 (r.map o3)) E)) [true, true, false, true, false] ⟨[(0, (AV.ro 5 (p1.map o47))), (1, (I p2)), (5, (AV.sl 1 0 (List.length (a4.map o3)))), (13, (AV.ro 5 (l3.map o47))), (14, (I (l3.length : Int))), (15, (I v5))], [(1, some ⟨3, 1, (a4.map o3)⟩)], [1, JJ]⟩ := by
  have hm : E.P.follows .mixedOrders = true := by rw [hP]; exact mixed
  have hΘ : TOK E.P Θ := by rw [hP]; exact Θ_ok
  intro n
  induction n with
  | zero => intro a4 v5 r h; simp only [spec_l7Held_l0] at h; cases h
  | succ n ih =>
    intro a4 v5 r h
    simp only [spec_l7Held_l0] at h
    rcases itS h with ⟨c6, h⟩ | ⟨c21, h⟩
    · obtain ⟨x7, hx7, h⟩ := bnS h
      obtain ⟨x8, hx8, h⟩ := bnS h
      rcases itS h with ⟨c9, h⟩ | ⟨c10, h⟩
      · exact go_to hΘ hm hx hP hn (hs := [⟨1, .br true, none⟩, ⟨2, .row (o47 x7), none⟩, ⟨4, .new 1001, none⟩, ⟨10, .row (o47 x8), none⟩, ⟨14, .br true, none⟩]) (π := [(1, 1)]) (ts := [0, 1, 5, 13, 14, 15]) (kp := []) (ps := [(decide (v5 < (l3.length : Int))) = true, (0 : Int) ≤ v5, (l3.map o47)[(Int.toNat v5)]? = some (o47 x7), (0 : Int) ≤ p2, (p1.map o47)[(Int.toNat p2)]? = some (o47 x8), (x7.Thread != x8.Thread) = true, RenOK [(1, 1)] (a4.map o3)]) (by kernel_rfl) ⟨c6, (rd0 hx7), (rdM o47 hx7), (rd0 hx8), (rdM o47 hx8), c9, (rok (treeM t3)), trivial⟩ (ih a4 (w64 (v5 + 1)) _ h)
      · obtain ⟨r11, hr11, h⟩ := bnS h
        rcases itS h with ⟨c12, h⟩ | ⟨c20, h⟩
        · obtain ⟨r13, hr13, h⟩ := bnS h
          exact go_to hΘ hm hx hP hn (hs := [⟨1, .br true, none⟩, ⟨2, .row (o47 x7), none⟩, ⟨4, .new 1001, none⟩, ⟨10, .row (o47 x8), none⟩, ⟨14, .br false, none⟩, ⟨16, .callV [[]] (I r11), none⟩, ⟨20, .br true, none⟩, ⟨23, .callX [1] [false] [⟨3, 1, (a4.map o3)⟩] [⟨3, 1, (a4.map o3)⟩] [] (AV.own 3 1 (r13.map o3)) [1002] (AV.sl 1002 0 (List.length (r13.map o3))) [(1002, ⟨3, 1, (r13.map o3)⟩)], none⟩]) (π := [(1002, 1), (1001, 2)]) (ts := [0, 1, 5, 7, 13, 14, 15]) (kp := []) (ps := [(decide (v5 < (l3.length : Int))) = true, (0 : Int) ≤ v5, (l3.map o47)[(Int.toNat v5)]? = some (o47 x7), (0 : Int) ≤ p2, (p1.map o47)[(Int.toNat p2)]? = some (o47 x8), (x7.Thread != x8.Thread) = false, Meets Try.prog 65 [(AV.agg ((o47 x7)))] (I r11), litA (I r11) = true, (decide (r11 ≥ 0)) = true, MeetsR Try.prog 51 [⟨3, 1, (a4.map o3)⟩] [(AV.sl 0 0 (List.length (a4.map o3))), (I r11)] [false] [⟨3, 1, (a4.map o3)⟩] (AV.own 3 1 (r13.map o3)), (some (Root.mk 3 1 (a4.map o3)) = some (Root.mk 3 1 (a4.map o3))) ∧ True, (treeLL (a4.map o3) = true ∧ noRoLL (a4.map o3) = true) ∧ True, ((a4.map o3).length = (a4.map o3).length) ∧ True, (rtf (renA [] (AV.own 3 1 (r13.map o3))) [1002]).1 = (AV.sl 1002 0 (List.length (r13.map o3))), (rtf (renA [] (AV.own 3 1 (r13.map o3))) [1002]).2.1 = [(1002, ⟨3, 1, (r13.map o3)⟩)], RenOK [(1002, 1), (1001, 2)] (r13.map o3), RenOK [(1002, 1), (1001, 2)] [((o47 x7))]]) (by kernel_rfl) ⟨c6, (rd0 hx7), (rdM o47 hx7), (rd0 hx8), (rdM o47 hx8), c10, (spec_l6Takes_m hr11), rfl, c12, (spec_l1Put_m hr13), ⟨rfl, trivial⟩, ⟨⟨treeM t3, noRoM n3⟩, trivial⟩, ⟨rfl, trivial⟩, rfl, rfl, (rok (treeM t3)), (rok rfl), trivial⟩ (spec_l7Held_j1_m hP hn hx p1 p2 l3 v5 ih r13 x7 _ h)
        · exact go_to hΘ hm hx hP hn (hs := [⟨1, .br true, none⟩, ⟨2, .row (o47 x7), none⟩, ⟨4, .new 1001, none⟩, ⟨10, .row (o47 x8), none⟩, ⟨14, .br false, none⟩, ⟨16, .callV [[]] (I r11), none⟩, ⟨20, .br false, none⟩]) (π := [(1, 1), (1001, 2)]) (ts := [0, 1, 5, 7, 13, 14, 15]) (kp := []) (ps := [(decide (v5 < (l3.length : Int))) = true, (0 : Int) ≤ v5, (l3.map o47)[(Int.toNat v5)]? = some (o47 x7), (0 : Int) ≤ p2, (p1.map o47)[(Int.toNat p2)]? = some (o47 x8), (x7.Thread != x8.Thread) = false, Meets Try.prog 65 [(AV.agg ((o47 x7)))] (I r11), litA (I r11) = true, (decide (r11 ≥ 0)) = false, RenOK [(1, 1), (1001, 2)] (a4.map o3), RenOK [(1, 1), (1001, 2)] [((o47 x7))]]) (by kernel_rfl) ⟨c6, (rd0 hx7), (rdM o47 hx7), (rd0 hx8), (rdM o47 hx8), c10, (spec_l6Takes_m hr11), rfl, c20, (rok (treeM t3)), (rok rfl), trivial⟩ (spec_l7Held_j1_m hP hn hx p1 p2 l3 v5 ih a4 x7 _ h)
    · have h := Option.some.inj h
      subst h
      exact go_ret hΘ hm hP hn (hs := [⟨1, .br false, none⟩]) (rh := []) (ph := .own) (ps := [(decide (v5 < (l3.length : Int))) = false, treeLL ((a4.map o3).take (List.length (a4.map o3))) = true, (a4.map o3).take (List.length (a4.map o3)) = (a4.map o3), noRoLL (a4.map o3) = true]) (by kernel_rfl) ⟨c21, (treeT t3), takeM, (noRoM n3), trivial⟩
noncomputable def spec_l7Held (p1 : (List GEvent)) (p2 : Int) : Option (List Int) :=
  Option.bind (slc p1 0 (w64 (p2 + 1))) fun l3 =>
  spec_l7Held_l0 p1 p2 l3 FU [] 0
theorem spec_l7Held_m {p1 : (List GEvent)} {p2 : Int} {r : (List Int)} (h : spec_l7Held p1 p2 = some r) : Meets Try.prog 52 [(AV.ro 5 (p1.map o47)), (I p2)] (AV.own 3 1 (r.map o3)) := by
  refine meets_ofC Θ_ok Try.func52 rfl (c := body52) (by kernel_rfl) (Nat.le_of_ble_eq_true rfl) ?_
  intro E hP hn hx
  replace hn : E.n = 43 := hn
  have hm : E.P.follows .mixedOrders = true := by rw [hP]; exact mixed
  have hΘ : TOK E.P Θ := by rw [hP]; exact Θ_ok
  unfold spec_l7Held at h
  show WAt E body52 (FQ (RetE Θ Try.f52.results.toList [] [] (AV.own 3 1 (r.map o3)) E)) [] ⟨[(0, (AV.ro 5 (p1.map o47))), (1, (I p2))], [], [JJ]⟩
  obtain ⟨l3, hl3, h⟩ := bnS h
  exact go_to hΘ hm hx hP hn (hs := [⟨5, .no, some (AV.ro 5 (l3.map o47))⟩, ⟨6, .no, some (I (l3.length : Int))⟩, ⟨8, .nil 5 1001 3 1, none⟩]) (π := [(1001, 1)]) (ts := [0, 1, 5, 13, 14, 15]) (kp := []) (ps := [AV.ro 5 (((p1.map o47).drop (Int.toNat 0)).take (subO (Int.toNat (w64 (p2 + 1))) (Int.toNat 0))) = (AV.ro 5 (l3.map o47)), (0 : Int) ≤ 0, 0 ≤ (w64 (p2 + 1)), (w64 (p2 + 1)) ≤ (((p1.map o47).length : Nat) : Int), AV.lit (.int .i64 (((l3.map o47).length : Nat) : Int)) = (I (l3.length : Int)), RenOK [(1001, 1)] ([].map o3)]) (by kernel_rfl) ⟨(slM 5 o47 hl3), (sl0 hl3), (sl1 hl3), (sl2 o47 hl3), (lenM o47), (rok (treeM t3)), trivial⟩ (spec_l7Held_l0_m hP hn hx p1 p2 l3 FU [] 0 _ h)
noncomputable def body66 : Code := match Try.f66.body with | some c => c | none => .skip
noncomputable def spec_l8Before_j1 (K0 : Bool → Int → Option (List Int)) (p1 : (List GEvent)) (p2 : Int) (r3 : (List Int)) (r5 : Int) (v8 : Int) (v16 : Bool) : Option (List Int) :=
  Option.bind (rd p1 v8) fun x17 =>
  Option.bind (spec_l6Gives x17) fun r18 =>
  if (r18 == r5) = true then
    K0 false (w64 (v8 + 1))
  else
    K0 v16 (w64 (v8 + 1))
theorem spec_l8Before_j1_m {E : Env} (hP : E.P = Try.prog) (hn : E.n = 55) (hx : ∀ p, p ∈ E.fx → p.1 ∈ ([] : List Nat)) (p1 : (List GEvent)) (p2 : Int) (r3 : (List Int)) (r5 : Int) (v8 : Int) {K0 : Bool → Int → Option (List Int)} (hK0 : ∀ (v7 : Bool) (v8 : Int) (r : (List Int)), K0 v7 v8 = some r → WAt E body66 (FQ (RetE Θ Try.f66.results.toList [] [] (AV.own 3 1 (r.map o3)) E)) [true, true, false, true, true, false, true, false, true, false] ⟨[(0, (AV.ro 5 (p1.map o47))), (1, (I p2)), (5, (AV.sl 1 0 (List.length (r3.map o3)))), (6, (I r5)), (7, (B v7)), (8, (I v8))], [(1, some ⟨3, 1, (r3.map o3)⟩)], [1, JJ]⟩) (v16 : Bool) (r : (List Int)) (h : spec_l8Before_j1 K0 p1 p2 r3 r5 v8 v16 = some r) : WAt E body66 (FQ (RetE Θ Try.f66.results.toList [] [] (AV.own 3 1 (r.map o3)) E)) [true, true, false, true, true, false, true, false, true, false, false, true, false, false, true, true] ⟨[(0, (AV.ro 5 (p1.map o47))), (1, (I p2)), (5, (AV.sl 1 0 (List.length (r3.map o3)))), (6, (I r5)), (7, (B v16)), (8, (I v8))], [(1, some ⟨3, 1, (r3.map o3)⟩)], [1, JJ]⟩ := by
  have hm : E.P.follows .mixedOrders = true := by rw [hP]; exact mixed
  have hΘ : TOK E.P Θ := by rw [hP]; exact Θ_ok
  unfold spec_l8Before_j1 at h
  obtain ⟨x17, hx17, h⟩ := bnS h
  obtain ⟨r18, hr18, h⟩ := bnS h
  rcases itS h with ⟨c19, h⟩ | ⟨c20, h⟩
  · exact go_to hΘ hm hx hP hn (hs := [⟨2, .row (o47 x17), none⟩, ⟨4, .callV [[]] (I r18), none⟩, ⟨7, .br true, none⟩]) (π := [(1, 1)]) (ts := [0, 1, 5, 6, 7, 8]) (kp := []) (ps := [(0 : Int) ≤ v8, (p1.map o47)[(Int.toNat v8)]? = some (o47 x17), Meets Try.prog 68 [(AV.agg ((o47 x17)))] (I r18), litA (I r18) = true, (r18 == r5) = true, RenOK [(1, 1)] (r3.map o3)]) (by kernel_rfl) ⟨(rd0 hx17), (rdM o47 hx17), (spec_l6Gives_m hr18), rfl, c19, (rok (treeM t3)), trivial⟩ (hK0 false (w64 (v8 + 1)) _ h)
  · exact go_to hΘ hm hx hP hn (hs := [⟨2, .row (o47 x17), none⟩, ⟨4, .callV [[]] (I r18), none⟩, ⟨7, .br false, none⟩]) (π := [(1, 1)]) (ts := [0, 1, 5, 6, 7, 8]) (kp := []) (ps := [(0 : Int) ≤ v8, (p1.map o47)[(Int.toNat v8)]? = some (o47 x17), Meets Try.prog 68 [(AV.agg ((o47 x17)))] (I r18), litA (I r18) = true, (r18 == r5) = false, RenOK [(1, 1)] (r3.map o3)]) (by kernel_rfl) ⟨(rd0 hx17), (rdM o47 hx17), (spec_l6Gives_m hr18), rfl, c20, (rok (treeM t3)), trivial⟩ (hK0 v16 (w64 (v8 + 1)) _ h)
noncomputable def spec_l8Before_l0  (p1 : (List GEvent)) (p2 : Int) (r3 : (List Int)) (r5 : Int) : Nat → Bool → Int → Option (List Int)
  | 0, _, _ => none
  | n + 1, v7, v8 =>
  if (decide (v8 < p2)) = true then
    Option.bind (rd p1 v8) fun x10 =>
    Option.bind (rd p1 p2) fun x11 =>
    if (x10.Thread != x11.Thread) = true then
      spec_l8Before_l0 p1 p2 r3 r5 n v7 (w64 (v8 + 1))
    else
      Option.bind (spec_l6Takes x10) fun r14 =>
      if (r14 == r5) = true then
        spec_l8Before_j1 (spec_l8Before_l0 p1 p2 r3 r5 n) p1 p2 r3 r5 v8 true
      else
        spec_l8Before_j1 (spec_l8Before_l0 p1 p2 r3 r5 n) p1 p2 r3 r5 v8 v7
  else
    if (!v7) = true then
      Option.bind (spec_l7Drop r3 r5) fun r24 =>
      some r24
    else
      some r3
theorem spec_l8Before_l0_m {E : Env} (hP : E.P = Try.prog) (hn : E.n = 55) (hx : ∀ p, p ∈ E.fx → p.1 ∈ ([] : List Nat)) (p1 : (List GEvent)) (p2 : Int) (r3 : (List Int)) (r5 : Int)  : ∀ (n : Nat) (v7 : Bool) (v8 : Int) (r : (List Int)), spec_l8Before_l0 p1 p2 r3 r5 n v7 v8 = some r → WAt E body66 (FQ (RetE Θ Try.f66.results.toList [] [] (AV.own 3 1 (r.map o3)) E)) [true, true, false, true, true, false, true, false, true, false] ⟨[(0, (AV.ro 5 (p1.map o47))), (1, (I p2)), (5, (AV.sl 1 0 (List.length (r3.map o3)))), (6, (I r5)), (7, (B v7)), (8, (I v8))], [(1, some ⟨3, 1, (r3.map o3)⟩)], [1, JJ]⟩ := by
  have hm : E.P.follows .mixedOrders = true := by rw [hP]; exact mixed
  have hΘ : TOK E.P Θ := by rw [hP]; exact Θ_ok
  intro n
  induction n with
  | zero => intro v7 v8 r h; simp only [spec_l8Before_l0] at h; cases h
  | succ n ih =>
    intro v7 v8 r h
    simp only [spec_l8Before_l0] at h
    rcases itS h with ⟨c9, h⟩ | ⟨c22, h⟩
    · obtain ⟨x10, hx10, h⟩ := bnS h
      obtain ⟨x11, hx11, h⟩ := bnS h
      rcases itS h with ⟨c12, h⟩ | ⟨c13, h⟩
      · exact go_to hΘ hm hx hP hn (hs := [⟨3, .br true, none⟩, ⟨6, .row (o47 x10), none⟩, ⟨11, .row (o47 x11), none⟩, ⟨15, .br true, none⟩]) (π := [(1, 1)]) (ts := [0, 1, 5, 6, 7, 8]) (kp := []) (ps := [(decide (v8 < p2)) = true, (0 : Int) ≤ v8, (p1.map o47)[(Int.toNat v8)]? = some (o47 x10), (0 : Int) ≤ p2, (p1.map o47)[(Int.toNat p2)]? = some (o47 x11), (x10.Thread != x11.Thread) = true, RenOK [(1, 1)] (r3.map o3)]) (by kernel_rfl) ⟨c9, (rd0 hx10), (rdM o47 hx10), (rd0 hx11), (rdM o47 hx11), c12, (rok (treeM t3)), trivial⟩ (ih v7 (w64 (v8 + 1)) _ h)
      · obtain ⟨r14, hr14, h⟩ := bnS h
        rcases itS h with ⟨c15, h⟩ | ⟨c21, h⟩
        · exact go_to hΘ hm hx hP hn (hs := [⟨3, .br true, none⟩, ⟨6, .row (o47 x10), none⟩, ⟨11, .row (o47 x11), none⟩, ⟨15, .br false, none⟩, ⟨18, .row (o47 x10), none⟩, ⟨20, .callV [[]] (I r14), none⟩, ⟨23, .br true, none⟩]) (π := [(1, 1)]) (ts := [0, 1, 5, 6, 7, 8]) (kp := []) (ps := [(decide (v8 < p2)) = true, (0 : Int) ≤ v8, (p1.map o47)[(Int.toNat v8)]? = some (o47 x10), (0 : Int) ≤ p2, (p1.map o47)[(Int.toNat p2)]? = some (o47 x11), (x10.Thread != x11.Thread) = false, (0 : Int) ≤ v8, (p1.map o47)[(Int.toNat v8)]? = some (o47 x10), Meets Try.prog 65 [(AV.agg ((o47 x10)))] (I r14), litA (I r14) = true, (r14 == r5) = true, RenOK [(1, 1)] (r3.map o3)]) (by kernel_rfl) ⟨c9, (rd0 hx10), (rdM o47 hx10), (rd0 hx11), (rdM o47 hx11), c13, (rd0 hx10), (rdM o47 hx10), (spec_l6Takes_m hr14), rfl, c15, (rok (treeM t3)), trivial⟩ (spec_l8Before_j1_m hP hn hx p1 p2 r3 r5 v8 ih true _ h)
        · exact go_to hΘ hm hx hP hn (hs := [⟨3, .br true, none⟩, ⟨6, .row (o47 x10), none⟩, ⟨11, .row (o47 x11), none⟩, ⟨15, .br false, none⟩, ⟨18, .row (o47 x10), none⟩, ⟨20, .callV [[]] (I r14), none⟩, ⟨23, .br false, none⟩]) (π := [(1, 1)]) (ts := [0, 1, 5, 6, 7, 8]) (kp := []) (ps := [(decide (v8 < p2)) = true, (0 : Int) ≤ v8, (p1.map o47)[(Int.toNat v8)]? = some (o47 x10), (0 : Int) ≤ p2, (p1.map o47)[(Int.toNat p2)]? = some (o47 x11), (x10.Thread != x11.Thread) = false, (0 : Int) ≤ v8, (p1.map o47)[(Int.toNat v8)]? = some (o47 x10), Meets Try.prog 65 [(AV.agg ((o47 x10)))] (I r14), litA (I r14) = true, (r14 == r5) = false, RenOK [(1, 1)] (r3.map o3)]) (by kernel_rfl) ⟨c9, (rd0 hx10), (rdM o47 hx10), (rd0 hx11), (rdM o47 hx11), c13, (rd0 hx10), (rdM o47 hx10), (spec_l6Takes_m hr14), rfl, c21, (rok (treeM t3)), trivial⟩ (spec_l8Before_j1_m hP hn hx p1 p2 r3 r5 v8 ih v7 _ h)
    · rcases itS h with ⟨c23, h⟩ | ⟨c25, h⟩
      · obtain ⟨r24, hr24, h⟩ := bnS h
        have h := Option.some.inj h
        subst h
        exact go_ret hΘ hm hP hn (hs := [⟨3, .br false, none⟩, ⟨6, .br true, none⟩, ⟨9, .call [(r3.map o3)] (AV.own 3 1 (r24.map o3)) [1001], none⟩]) (rh := []) (ph := .own) (ps := [(decide (v8 < p2)) = false, (!v7) = true, Meets Try.prog 69 [(AV.ro 1 (r3.map o3)), (I r5)] (AV.own 3 1 (r24.map o3)), noRo (AV.own 3 1 (r24.map o3)) = true, Frz (((r3.map o3).drop 0).take (List.length (r3.map o3))) (r3.map o3), treeLL ((r24.map o3).take (List.length (r24.map o3))) = true, (r24.map o3).take (List.length (r24.map o3)) = (r24.map o3), noRoLL (r24.map o3) = true]) (by kernel_rfl) ⟨c22, c23, (spec_l7Drop_m hr24), (by simp only [noRo, noRoL, noRoM n3, Bool.and_self]), (frzF t3 z3), (treeT t3), takeM, (noRoM n3), trivial⟩
      · have h := Option.some.inj h
        subst h
        exact go_ret hΘ hm hP hn (hs := [⟨3, .br false, none⟩, ⟨6, .br false, none⟩]) (rh := []) (ph := .own) (ps := [(decide (v8 < p2)) = false, (!v7) = false, treeLL ((r3.map o3).take (List.length (r3.map o3))) = true, (r3.map o3).take (List.length (r3.map o3)) = (r3.map o3), noRoLL (r3.map o3) = true]) (by kernel_rfl) ⟨c22, c25, (treeT t3), takeM, (noRoM n3), trivial⟩
noncomputable def spec_l8Before (p1 : (List GEvent)) (p2 : Int) : Option (List Int) :=
  Option.bind (spec_l7Held p1 p2) fun r3 =>
  Option.bind (rd p1 p2) fun x4 =>
  Option.bind (spec_l6Takes x4) fun r5 =>
  if (decide (r5 ≥ 0)) = true then
    spec_l8Before_l0 p1 p2 r3 r5 FU false 0
  else
    some r3
theorem spec_l8Before_m {p1 : (List GEvent)} {p2 : Int} {r : (List Int)} (h : spec_l8Before p1 p2 = some r) : Meets Try.prog 66 [(AV.ro 5 (p1.map o47)), (I p2)] (AV.own 3 1 (r.map o3)) := by
  refine meets_ofC Θ_ok Try.func66 rfl (c := body66) (by kernel_rfl) (Nat.le_of_ble_eq_true rfl) ?_
  intro E hP hn hx
  replace hn : E.n = 55 := hn
  have hm : E.P.follows .mixedOrders = true := by rw [hP]; exact mixed
  have hΘ : TOK E.P Θ := by rw [hP]; exact Θ_ok
  unfold spec_l8Before at h
  show WAt E body66 (FQ (RetE Θ Try.f66.results.toList [] [] (AV.own 3 1 (r.map o3)) E)) [] ⟨[(0, (AV.ro 5 (p1.map o47))), (1, (I p2))], [], [JJ]⟩
  obtain ⟨r3, hr3, h⟩ := bnS h
  obtain ⟨x4, hx4, h⟩ := bnS h
  obtain ⟨r5, hr5, h⟩ := bnS h
  rcases itS h with ⟨c6, h⟩ | ⟨c26, h⟩
  · exact go_to hΘ hm hx hP hn (hs := [⟨3, .call [] (AV.own 3 1 (r3.map o3)) [1001], none⟩, ⟨7, .row (o47 x4), none⟩, ⟨9, .callV [[]] (I r5), none⟩, ⟨13, .br true, none⟩]) (π := [(1001, 1)]) (ts := [0, 1, 5, 6, 7, 8]) (kp := []) (ps := [Meets Try.prog 52 [(AV.ro 5 (p1.map o47)), (I p2)] (AV.own 3 1 (r3.map o3)), noRo (AV.own 3 1 (r3.map o3)) = true, (0 : Int) ≤ p2, (p1.map o47)[(Int.toNat p2)]? = some (o47 x4), Meets Try.prog 65 [(AV.agg ((o47 x4)))] (I r5), litA (I r5) = true, (decide (r5 ≥ 0)) = true, RenOK [(1001, 1)] (r3.map o3)]) (by kernel_rfl) ⟨(spec_l7Held_m hr3), (by simp only [noRo, noRoL, noRoM n3, Bool.and_self]), (rd0 hx4), (rdM o47 hx4), (spec_l6Takes_m hr5), rfl, c6, (rok (treeM t3)), trivial⟩ (spec_l8Before_l0_m hP hn hx p1 p2 r3 r5 FU false 0 _ h)
  · have h := Option.some.inj h
    subst h
    exact go_ret hΘ hm hP hn (hs := [⟨3, .call [] (AV.own 3 1 (r3.map o3)) [1001], none⟩, ⟨7, .row (o47 x4), none⟩, ⟨9, .callV [[]] (I r5), none⟩, ⟨13, .br false, none⟩]) (rh := []) (ph := .own) (ps := [Meets Try.prog 52 [(AV.ro 5 (p1.map o47)), (I p2)] (AV.own 3 1 (r3.map o3)), noRo (AV.own 3 1 (r3.map o3)) = true, (0 : Int) ≤ p2, (p1.map o47)[(Int.toNat p2)]? = some (o47 x4), Meets Try.prog 65 [(AV.agg ((o47 x4)))] (I r5), litA (I r5) = true, (decide (r5 ≥ 0)) = false, treeLL ((r3.map o3).take (List.length (r3.map o3))) = true, (r3.map o3).take (List.length (r3.map o3)) = (r3.map o3), noRoLL (r3.map o3) = true]) (by kernel_rfl) ⟨(spec_l7Held_m hr3), (by simp only [noRo, noRoL, noRoM n3, Bool.and_self]), (rd0 hx4), (rdM o47 hx4), (spec_l6Takes_m hr5), rfl, c26, (treeT t3), takeM, (noRoM n3), trivial⟩
noncomputable def body47 : Code := match Try.f47.body with | some c => c | none => .skip
noncomputable def spec_l8Unders_l1 (K0 : (List GUnder) → Int → Option (List GUnder)) (p1 : (List GEvent)) (v3 : Int) (r6 : Int) (r9 : (List Int)) : Nat → (List GUnder) → GEvent → (List Int) → Int → Option (List GUnder)
  | 0, _, _, _, _ => none
  | n + 1, a10, a11, a12, v13 =>
  if (decide (v13 < (r9.length : Int))) = true then
    Option.bind (rd a12 v13) fun x15 =>
    Option.bind (app a10 [(GUnder.mk x15 r6 a11.Thread v3)]) fun l16 =>
    spec_l8Unders_l1 K0 p1 v3 r6 r9 n l16 a11 a12 (w64 (v13 + 1))
  else
    K0 a10 (w64 (v3 + 1))
theorem spec_l8Unders_l1_m {E : Env} (hP : E.P = Try.prog) (hn : E.n = 40) (hx : ∀ p, p ∈ E.fx → p.1 ∈ ([] : List Nat)) (p1 : (List GEvent)) (v3 : Int) (r6 : Int) (r9 : (List Int)) {K0 : (List GUnder) → Int → Option (List GUnder)} (hK0 : ∀ (a2 : (List GUnder)) (v3 : Int) (r : (List GUnder)), K0 a2 v3 = some r → WAt E body47 (FQ (RetE Θ Try.f47.results.toList [] [] (AV.own 71 4 (r.map o71)) E)) [true, true, false, true, false] ⟨[(0, (AV.ro 5 (p1.map o47))), (3, (AV.sl 1 0 (List.length (a2.map o71)))), (9, (AV.ro 5 (p1.map o47))), (10, (I (p1.length : Int))), (11, (I v3))], [(1, some ⟨71, 4, (a2.map o71)⟩)], [1, JJ]⟩) : ∀ (n : Nat) (a10 : (List GUnder)) (a11 : GEvent) (a12 : (List Int)) (v13 : Int) (r : (List GUnder)), spec_l8Unders_l1 K0 p1 v3 r6 r9 n a10 a11 a12 v13 = some r → WAt E body47 (FQ (RetE Θ Try.f47.results.toList [] [] (AV.own 71 4 (r.map o71)) E)) [true, true, false, true, false, false, true, true, false, false, true, true, true, true, false] ⟨[(0, (AV.ro 5 (p1.map o47))), (3, (AV.sl 1 0 (List.length (a10.map o71)))), (4, (I v3)), (5, (AV.ptr 2 0 0)), (6, (I r6)), (9, (AV.ro 5 (p1.map o47))), (10, (I (p1.length : Int))), (11, (I v3)), (22, (AV.sl 3 0 (List.length (a12.map o3)))), (23, (I (r9.length : Int))), (24, (I v13))], [(1, some ⟨71, 4, (a10.map o71)⟩), (2, some ⟨47, 5, [((o47 a11))]⟩), (3, some ⟨3, 1, (a12.map o3)⟩)], [1, 2, 3, JJ]⟩ := by
  have hm : E.P.follows .mixedOrders = true := by rw [hP]; exact mixed
  have hΘ : TOK E.P Θ := by rw [hP]; exact Θ_ok
  intro n
  induction n with
  | zero => intro a10 a11 a12 v13 r h; simp only [spec_l8Unders_l1] at h; cases h
  | succ n ih =>
    intro a10 a11 a12 v13 r h
    simp only [spec_l8Unders_l1] at h
    rcases itS h with ⟨c14, h⟩ | ⟨c17, h⟩
    · obtain ⟨x15, hx15, h⟩ := bnS h
      obtain ⟨l16, hl16, h⟩ := bnS h
      exact go_to hΘ hm hx hP hn (hs := [⟨1, .br true, none⟩, ⟨3, .row [(I x15)], none⟩, ⟨12, .new 1001, none⟩, ⟨13, .app 1002 (l16.map o71), none⟩]) (π := [(1002, 1), (2, 2), (3, 3)]) (ts := [0, 3, 4, 5, 6, 9, 10, 11, 22, 23, 24]) (kp := []) (ps := [(decide (v13 < (r9.length : Int))) = true, (0 : Int) ≤ v13, v13 < (((List.length (a12.map o3)) : Nat) : Int), (a12.map o3)[(Int.toNat v13)]? = some [(I x15)], (a10.map o71).take (List.length (a10.map o71)) ++ ((([(GUnder.mk x15 r6 a11.Thread v3)].map o71).drop 0).take (List.length ([(GUnder.mk x15 r6 a11.Thread v3)].map o71))) = (l16.map o71), ((([(GUnder.mk x15 r6 a11.Thread v3)].map o71).drop 0).take (List.length ([(GUnder.mk x15 r6 a11.Thread v3)].map o71))).all (fun r => r.all AV.plain) = true, (List.length (l16.map o71)) * 32 ≤ 140737488355328, (List.length (l16.map o71)) ≤ 140737488355328, RenOK [(1002, 1), (2, 2), (3, 3)] (l16.map o71), RenOK [(1002, 1), (2, 2), (3, 3)] [((o47 a11))], RenOK [(1002, 1), (2, 2), (3, 3)] (a12.map o3)]) (by kernel_rfl) ⟨c14, (rd0 hx15), (rdL o3 hx15), (rdM o3 hx15), (appTD o71 hl16), (plD p71), (appB o71 hl16 (by decide)), (appC o71 hl16), (rok (treeM t71)), (rok rfl), (rok (treeM t3)), trivial⟩ (ih l16 a11 a12 (w64 (v13 + 1)) _ h)
    · exact go_to hΘ hm hx hP hn (hs := [⟨1, .br false, none⟩]) (π := [(1, 1)]) (ts := [0, 3, 9, 10, 11]) (kp := []) (ps := [(decide (v13 < (r9.length : Int))) = false, RenOK [(1, 1)] (a10.map o71)]) (by kernel_rfl) ⟨c17, (rok (treeM t71)), trivial⟩ (hK0 a10 (w64 (v3 + 1)) _ h)
noncomputable def spec_l8Unders_l0  (p1 : (List GEvent)) : Nat → (List GUnder) → Int → Option (List GUnder)
  | 0, _, _ => none
  | n + 1, a2, v3 =>
  if (decide (v3 < (p1.length : Int))) = true then
    Option.bind (rd p1 v3) fun x5 =>
    Option.bind (spec_l6Takes x5) fun r6 =>
    if (decide (r6 < 0)) = true then
      spec_l8Unders_l0 p1 n a2 (w64 (v3 + 1))
    else
      Option.bind (spec_l8Before p1 v3) fun r9 =>
      spec_l8Unders_l1 (spec_l8Unders_l0 p1 n) p1 v3 r6 r9 FU a2 x5 r9 0
  else
    some a2
theorem spec_l8Unders_l0_m {E : Env} (hP : E.P = Try.prog) (hn : E.n = 40) (hx : ∀ p, p ∈ E.fx → p.1 ∈ ([] : List Nat)) (p1 : (List GEvent))  : ∀ (n : Nat) (a2 : (List GUnder)) (v3 : Int) (r : (List GUnder)), spec_l8Unders_l0 p1 n a2 v3 = some r → WAt E body47 (FQ (RetE Θ Try.f47.results.toList [] [] (AV.own 71 4 (r.map o71)) E)) [true, true, false, true, false] ⟨[(0, (AV.ro 5 (p1.map o47))), (3, (AV.sl 1 0 (List.length (a2.map o71)))), (9, (AV.ro 5 (p1.map o47))), (10, (I (p1.length : Int))), (11, (I v3))], [(1, some ⟨71, 4, (a2.map o71)⟩)], [1, JJ]⟩ := by
  have hm : E.P.follows .mixedOrders = true := by rw [hP]; exact mixed
  have hΘ : TOK E.P Θ := by rw [hP]; exact Θ_ok
  intro n
  induction n with
  | zero => intro a2 v3 r h; simp only [spec_l8Unders_l0] at h; cases h
  | succ n ih =>
    intro a2 v3 r h
    simp only [spec_l8Unders_l0] at h
    rcases itS h with ⟨c4, h⟩ | ⟨c18, h⟩
    · obtain ⟨x5, hx5, h⟩ := bnS h
      obtain ⟨r6, hr6, h⟩ := bnS h
      rcases itS h with ⟨c7, h⟩ | ⟨c8, h⟩
      · exact go_to hΘ hm hx hP hn (hs := [⟨1, .br true, none⟩, ⟨3, .row (o47 x5), none⟩, ⟨5, .new 1001, none⟩, ⟨9, .callV [[]] (I r6), none⟩, ⟨13, .br true, none⟩]) (π := [(1, 1)]) (ts := [0, 3, 9, 10, 11]) (kp := []) (ps := [(decide (v3 < (p1.length : Int))) = true, (0 : Int) ≤ v3, (p1.map o47)[(Int.toNat v3)]? = some (o47 x5), Meets Try.prog 65 [(AV.agg ((o47 x5)))] (I r6), litA (I r6) = true, (decide (r6 < 0)) = true, RenOK [(1, 1)] (a2.map o71)]) (by kernel_rfl) ⟨c4, (rd0 hx5), (rdM o47 hx5), (spec_l6Takes_m hr6), rfl, c7, (rok (treeM t71)), trivial⟩ (ih a2 (w64 (v3 + 1)) _ h)
      · obtain ⟨r9, hr9, h⟩ := bnS h
        exact go_to hΘ hm hx hP hn (hs := [⟨1, .br true, none⟩, ⟨3, .row (o47 x5), none⟩, ⟨5, .new 1001, none⟩, ⟨9, .callV [[]] (I r6), none⟩, ⟨13, .br false, none⟩, ⟨16, .call [] (AV.own 3 1 (r9.map o3)) [1002], none⟩, ⟨17, .no, some (I (r9.length : Int))⟩]) (π := [(1, 1), (1001, 2), (1002, 3)]) (ts := [0, 3, 4, 5, 6, 9, 10, 11, 22, 23, 24]) (kp := []) (ps := [(decide (v3 < (p1.length : Int))) = true, (0 : Int) ≤ v3, (p1.map o47)[(Int.toNat v3)]? = some (o47 x5), Meets Try.prog 65 [(AV.agg ((o47 x5)))] (I r6), litA (I r6) = true, (decide (r6 < 0)) = false, Meets Try.prog 66 [(AV.ro 5 (p1.map o47)), (I v3)] (AV.own 3 1 (r9.map o3)), noRo (AV.own 3 1 (r9.map o3)) = true, AV.lit (.int .i64 (((List.length (r9.map o3)) : Nat) : Int)) = (I (r9.length : Int)), RenOK [(1, 1), (1001, 2), (1002, 3)] (a2.map o71), RenOK [(1, 1), (1001, 2), (1002, 3)] [((o47 x5))], RenOK [(1, 1), (1001, 2), (1002, 3)] (r9.map o3)]) (by kernel_rfl) ⟨c4, (rd0 hx5), (rdM o47 hx5), (spec_l6Takes_m hr6), rfl, c8, (spec_l8Before_m hr9), (by simp only [noRo, noRoL, noRoM n3, Bool.and_self]), (lenM o3), (rok (treeM t71)), (rok rfl), (rok (treeM t3)), trivial⟩ (spec_l8Unders_l1_m hP hn hx p1 v3 r6 r9 ih FU a2 x5 r9 0 _ h)
    · have h := Option.some.inj h
      subst h
      exact go_ret hΘ hm hP hn (hs := [⟨1, .br false, none⟩]) (rh := []) (ph := .own) (ps := [(decide (v3 < (p1.length : Int))) = false, treeLL ((a2.map o71).take (List.length (a2.map o71))) = true, (a2.map o71).take (List.length (a2.map o71)) = (a2.map o71), noRoLL (a2.map o71) = true]) (by kernel_rfl) ⟨c18, (treeT t71), takeM, (noRoM n71), trivial⟩
noncomputable def spec_l8Unders (p1 : (List GEvent)) : Option (List GUnder) :=
  spec_l8Unders_l0 p1 FU [] 0
theorem spec_l8Unders_m {p1 : (List GEvent)} {r : (List GUnder)} (h : spec_l8Unders p1 = some r) : Meets Try.prog 47 [(AV.ro 5 (p1.map o47))] (AV.own 71 4 (r.map o71)) := by
  refine meets_ofC Θ_ok Try.func47 rfl (c := body47) (by kernel_rfl) (Nat.le_of_ble_eq_true rfl) ?_
  intro E hP hn hx
  replace hn : E.n = 40 := hn
  have hm : E.P.follows .mixedOrders = true := by rw [hP]; exact mixed
  have hΘ : TOK E.P Θ := by rw [hP]; exact Θ_ok
  unfold spec_l8Unders at h
  show WAt E body47 (FQ (RetE Θ Try.f47.results.toList [] [] (AV.own 71 4 (r.map o71)) E)) [] ⟨[(0, (AV.ro 5 (p1.map o47)))], [], [JJ]⟩
  exact go_to hΘ hm hx hP hn (hs := [⟨3, .no, some (I (p1.length : Int))⟩, ⟨5, .nil 3 1001 71 4, none⟩]) (π := [(1001, 1)]) (ts := [0, 3, 9, 10, 11]) (kp := []) (ps := [AV.lit (.int .i64 (((p1.map o47).length : Nat) : Int)) = (I (p1.length : Int)), RenOK [(1001, 1)] ([].map o71)]) (by kernel_rfl) ⟨(lenM o47), (rok (treeM t71)), trivial⟩ (spec_l8Unders_l0_m hP hn hx p1 FU [] 0 _ h)
noncomputable def body24 : Code := match Try.f24.body with | some c => c | none => .skip
noncomputable def spec_UndersIn (p1 : (List GEvent)) : Option ((List GUnder) × Bool) :=
  Option.bind (spec_l6Trace p1) fun r2 =>
  if (!r2) = true then
    some ([], false)
  else
    Option.bind (spec_l8Unders p1) fun r5 =>
    some (r5, true)
theorem spec_UndersIn_m {p1 : (List GEvent)} {r : ((List GUnder) × Bool)} (h : spec_UndersIn p1 = some r) : Meets Try.prog 24 [(AV.ro 5 (p1.map o47))] (AV.tup [(AV.own 71 4 (r.1.map o71)), (B r.2)]) := by
  refine meets_ofC Θ_ok Try.func24 rfl (c := body24) (by kernel_rfl) (Nat.le_of_ble_eq_true rfl) ?_
  intro E hP hn hx
  replace hn : E.n = 9 := hn
  have hm : E.P.follows .mixedOrders = true := by rw [hP]; exact mixed
  have hΘ : TOK E.P Θ := by rw [hP]; exact Θ_ok
  unfold spec_UndersIn at h
  show WAt E body24 (FQ (RetE Θ Try.f24.results.toList [] [] (AV.tup [(AV.own 71 4 (r.1.map o71)), (B r.2)]) E)) [] ⟨[(0, (AV.ro 5 (p1.map o47)))], [], [JJ]⟩
  obtain ⟨r2, hr2, h⟩ := bnS h
  rcases itS h with ⟨c3, h⟩ | ⟨c4, h⟩
  · have h := Option.some.inj h
    subst h
    exact go_ret hΘ hm hP hn (hs := [⟨3, .callV [] (B r2), none⟩, ⟨5, .br true, none⟩]) (rh := []) (ph := .agg [.own, .raw]) (ps := [Meets Try.prog 31 [(AV.ro 5 (p1.map o47))] (B r2), litA (B r2) = true, (!r2) = true, (B false) = (B false), litA (B false) = true]) (by kernel_rfl) ⟨(spec_l6Trace_m hr2), rfl, c3, rfl, rfl, trivial⟩
  · obtain ⟨r5, hr5, h⟩ := bnS h
    have h := Option.some.inj h
    subst h
    exact go_ret hΘ hm hP hn (hs := [⟨3, .callV [] (B r2), none⟩, ⟨5, .br false, none⟩, ⟨7, .call [] (AV.own 71 4 (r5.map o71)) [1001], none⟩]) (rh := []) (ph := .agg [.own, .raw]) (ps := [Meets Try.prog 31 [(AV.ro 5 (p1.map o47))] (B r2), litA (B r2) = true, (!r2) = false, Meets Try.prog 47 [(AV.ro 5 (p1.map o47))] (AV.own 71 4 (r5.map o71)), noRo (AV.own 71 4 (r5.map o71)) = true, treeLL ((r5.map o71).take (List.length (r5.map o71))) = true, (r5.map o71).take (List.length (r5.map o71)) = (r5.map o71), noRoLL (r5.map o71) = true, (B true) = (B true), litA (B true) = true]) (by kernel_rfl) ⟨(spec_l6Trace_m hr2), rfl, c4, (spec_l8Unders_m hr5), (by simp only [noRo, noRoL, noRoM n71, Bool.and_self]), (treeT t71), takeM, (noRoM n71), rfl, rfl, trivial⟩
noncomputable def body6 : Code := match Try.f6.body with | some c => c | none => .skip
noncomputable def laws_FnExactUndersIn_j2  (r27 : (Int × (List GUnder)))  : Option Bool :=
  Option.bind (laws_heldUnderS r27.2 1) fun r41 =>
  if (decide (r41 < 0)) = true then
    some false
  else
    if (r41 != r27.1) = true then
      some false
    else
      some true
theorem laws_FnExactUndersIn_j2_m {E : Env} (hP : E.P = Try.prog) (hn : E.n = 96) (hx : ∀ p, p ∈ E.fx → p.1 ∈ ([] : List Nat)) (r27 : (Int × (List GUnder)))   (r : Bool) (h : laws_FnExactUndersIn_j2 r27  = some r) : WAt E body6 (FQ (RetE Θ Try.f6.results.toList [] [] (B r) E)) [true, true, true, true, true, true, true, true, true, true, true, true, true, true, true, true, true, true, true, false, true, true] ⟨[(7, (AV.sl 1 0 (List.length (r27.2.map o71)))), (10, (I r27.1))], [(1, some ⟨71, 4, (r27.2.map o71)⟩)], [1, JJ]⟩ := by
  have hm : E.P.follows .mixedOrders = true := by rw [hP]; exact mixed
  have hΘ : TOK E.P Θ := by rw [hP]; exact Θ_ok
  unfold laws_FnExactUndersIn_j2 at h
  obtain ⟨r41, hr41, h⟩ := bnS h
  rcases itS h with ⟨c42, h⟩ | ⟨c43, h⟩
  · have h := Option.some.inj h
    subst h
    exact go_ret hΘ hm hP hn (hs := [⟨3, .callV [(r27.2.map o71)] (I r41), none⟩, ⟨7, .br true, none⟩]) (rh := []) (ph := .raw) (ps := [Meets Try.prog 28 [(AV.ro 4 (r27.2.map o71)), (I 1)] (I r41), litA (I r41) = true, Frz (((r27.2.map o71).drop 0).take (List.length (r27.2.map o71))) (r27.2.map o71), (decide (r41 < 0)) = true, (B false) = (B false), litA (B false) = true]) (by kernel_rfl) ⟨(laws_heldUnderS_m hr41), rfl, (frzF t71 z71), c42, rfl, rfl, trivial⟩
  · rcases itS h with ⟨c44, h⟩ | ⟨c45, h⟩
    · have h := Option.some.inj h
      subst h
      exact go_ret hΘ hm hP hn (hs := [⟨3, .callV [(r27.2.map o71)] (I r41), none⟩, ⟨7, .br false, none⟩, ⟨11, .br true, none⟩]) (rh := []) (ph := .raw) (ps := [Meets Try.prog 28 [(AV.ro 4 (r27.2.map o71)), (I 1)] (I r41), litA (I r41) = true, Frz (((r27.2.map o71).drop 0).take (List.length (r27.2.map o71))) (r27.2.map o71), (decide (r41 < 0)) = false, (r41 != r27.1) = true, (B false) = (B false), litA (B false) = true]) (by kernel_rfl) ⟨(laws_heldUnderS_m hr41), rfl, (frzF t71 z71), c43, c44, rfl, rfl, trivial⟩
    · have h := Option.some.inj h
      subst h
      exact go_ret hΘ hm hP hn (hs := [⟨3, .callV [(r27.2.map o71)] (I r41), none⟩, ⟨7, .br false, none⟩, ⟨11, .br false, none⟩]) (rh := []) (ph := .raw) (ps := [Meets Try.prog 28 [(AV.ro 4 (r27.2.map o71)), (I 1)] (I r41), litA (I r41) = true, Frz (((r27.2.map o71).drop 0).take (List.length (r27.2.map o71))) (r27.2.map o71), (decide (r41 < 0)) = false, (r41 != r27.1) = false, (B true) = (B true), litA (B true) = true]) (by kernel_rfl) ⟨(laws_heldUnderS_m hr41), rfl, (frzF t71 z71), c43, c45, rfl, rfl, trivial⟩
noncomputable def laws_FnExactUndersIn_j1  (p1 : (List GEvent)) (r6 : ((List GUnder) × Bool)) (r8 : ((List GUnder) × Bool))  : Option Bool :=
  Option.bind (laws_markUnderS r8.1 1) fun r27 =>
  Option.bind (sameLen r8.1 r27.2) fun q28 =>
  Option.bind (laws_heldUnderS r27.2 1) fun r29 =>
  if (decide (r29 < 0)) = true then
    some false
  else
    if (r29 != r27.1) = true then
      some false
    else
      Option.bind (laws_toEventS p1) fun r34 =>
      Option.bind (impl_UndersIn r34) fun r35 =>
      Option.bind (laws_eqUnderS r35.1 r6.1) fun r36 =>
      if (!r36) = true then
        some false
      else
        if (!(r35.2 == r6.2)) = true then
          some false
        else
          laws_FnExactUndersIn_j2 r27
theorem laws_FnExactUndersIn_j1_m {E : Env} (hP : E.P = Try.prog) (hn : E.n = 96) (hx : ∀ p, p ∈ E.fx → p.1 ∈ ([] : List Nat)) (p1 : (List GEvent)) (r6 : ((List GUnder) × Bool)) (r8 : ((List GUnder) × Bool))   (r : Bool) (h : laws_FnExactUndersIn_j1 p1 r6 r8  = some r) : WAt E body6 (FQ (RetE Θ Try.f6.results.toList [] [] (B r) E)) [true, true, true, true, true, true, true, true, true, true, true, false, true, true] ⟨[(0, (AV.ro 5 (p1.map o49))), (4, (AV.sl 1 0 (List.length (r6.1.map o71)))), (5, (B r6.2)), (7, (AV.sl 2 0 (List.length (r8.1.map o71))))], [(1, some ⟨71, 4, (r6.1.map o71)⟩), (2, some ⟨71, 4, (r8.1.map o71)⟩)], [1, 2, JJ]⟩ := by
  have hm : E.P.follows .mixedOrders = true := by rw [hP]; exact mixed
  have hΘ : TOK E.P Θ := by rw [hP]; exact Θ_ok
  unfold laws_FnExactUndersIn_j1 at h
  obtain ⟨r27, hr27, h⟩ := bnS h
  obtain ⟨q28, hq28, h⟩ := bnS h
  obtain ⟨r29, hr29, h⟩ := bnS h
  rcases itS h with ⟨c30, h⟩ | ⟨c31, h⟩
  · have h := Option.some.inj h
    subst h
    exact go_ret hΘ hm hP hn (hs := [⟨3, .callX [2] [true] [⟨71, 4, (r8.1.map o71)⟩] [⟨71, 4, (r27.2.map o71)⟩] [] (I r27.1) [] (I r27.1) [], none⟩, ⟨6, .slen 7 (List.length (r27.2.map o71)), none⟩, ⟨8, .callV [(r27.2.map o71)] (I r29), none⟩, ⟨12, .br true, none⟩]) (rh := []) (ph := .raw) (ps := [MeetsR Try.prog 27 [⟨71, 4, (r8.1.map o71)⟩] [(AV.sl 0 0 (List.length (r8.1.map o71))), (I 1)] [true] [⟨71, 4, (r27.2.map o71)⟩] (I r27.1), (some (Root.mk 71 4 (r8.1.map o71)) = some (Root.mk 71 4 (r8.1.map o71))) ∧ True, (treeLL (r8.1.map o71) = true ∧ noRoLL (r8.1.map o71) = true) ∧ True, ((r27.2.map o71).length = (r8.1.map o71).length) ∧ True, (rtf (renA [(0, 2)] (I r27.1)) []).1 = (I r27.1), (rtf (renA [(0, 2)] (I r27.1)) []).2.1 = [], (List.length (r8.1.map o71)) = (List.length (r27.2.map o71)), Meets Try.prog 28 [(AV.ro 4 (r27.2.map o71)), (I 1)] (I r29), litA (I r29) = true, Frz (((r27.2.map o71).drop 0).take (List.length (r27.2.map o71))) (r27.2.map o71), (decide (r29 < 0)) = true, (B false) = (B false), litA (B false) = true]) (by kernel_rfl) ⟨(laws_markUnderS_m hr27), ⟨rfl, trivial⟩, ⟨⟨treeM t71, noRoM n71⟩, trivial⟩, ⟨(sameLenE o71 hq28), trivial⟩, rfl, rfl, (sameLenE o71 hq28).symm, (laws_heldUnderS_m hr29), rfl, (frzF t71 z71), c30, rfl, rfl, trivial⟩
  · rcases itS h with ⟨c32, h⟩ | ⟨c33, h⟩
    · have h := Option.some.inj h
      subst h
      exact go_ret hΘ hm hP hn (hs := [⟨3, .callX [2] [true] [⟨71, 4, (r8.1.map o71)⟩] [⟨71, 4, (r27.2.map o71)⟩] [] (I r27.1) [] (I r27.1) [], none⟩, ⟨6, .slen 7 (List.length (r27.2.map o71)), none⟩, ⟨8, .callV [(r27.2.map o71)] (I r29), none⟩, ⟨12, .br false, none⟩, ⟨16, .br true, none⟩]) (rh := []) (ph := .raw) (ps := [MeetsR Try.prog 27 [⟨71, 4, (r8.1.map o71)⟩] [(AV.sl 0 0 (List.length (r8.1.map o71))), (I 1)] [true] [⟨71, 4, (r27.2.map o71)⟩] (I r27.1), (some (Root.mk 71 4 (r8.1.map o71)) = some (Root.mk 71 4 (r8.1.map o71))) ∧ True, (treeLL (r8.1.map o71) = true ∧ noRoLL (r8.1.map o71) = true) ∧ True, ((r27.2.map o71).length = (r8.1.map o71).length) ∧ True, (rtf (renA [(0, 2)] (I r27.1)) []).1 = (I r27.1), (rtf (renA [(0, 2)] (I r27.1)) []).2.1 = [], (List.length (r8.1.map o71)) = (List.length (r27.2.map o71)), Meets Try.prog 28 [(AV.ro 4 (r27.2.map o71)), (I 1)] (I r29), litA (I r29) = true, Frz (((r27.2.map o71).drop 0).take (List.length (r27.2.map o71))) (r27.2.map o71), (decide (r29 < 0)) = false, (r29 != r27.1) = true, (B false) = (B false), litA (B false) = true]) (by kernel_rfl) ⟨(laws_markUnderS_m hr27), ⟨rfl, trivial⟩, ⟨⟨treeM t71, noRoM n71⟩, trivial⟩, ⟨(sameLenE o71 hq28), trivial⟩, rfl, rfl, (sameLenE o71 hq28).symm, (laws_heldUnderS_m hr29), rfl, (frzF t71 z71), c31, c32, rfl, rfl, trivial⟩
    · obtain ⟨r34, hr34, h⟩ := bnS h
      obtain ⟨r35, hr35, h⟩ := bnS h
      obtain ⟨r36, hr36, h⟩ := bnS h
      rcases itS h with ⟨c37, h⟩ | ⟨c38, h⟩
      · have h := Option.some.inj h
        subst h
        exact go_ret hΘ hm hP hn (hs := [⟨3, .callX [2] [true] [⟨71, 4, (r8.1.map o71)⟩] [⟨71, 4, (r27.2.map o71)⟩] [] (I r27.1) [] (I r27.1) [], none⟩, ⟨6, .slen 7 (List.length (r27.2.map o71)), none⟩, ⟨8, .callV [(r27.2.map o71)] (I r29), none⟩, ⟨12, .br false, none⟩, ⟨16, .br false, none⟩, ⟨18, .call [] (AV.own 47 5 (r34.map o47)) [1001], none⟩, ⟨19, .call [(r34.map o47)] (AV.tup [(AV.own 71 4 (r35.1.map o71)), (B r35.2)]) [1002], none⟩, ⟨27, .callV [(r35.1.map o71), (r6.1.map o71)] (B r36), none⟩, ⟨29, .no, some (B true)⟩]) (rh := []) (ph := .raw) (ps := [MeetsR Try.prog 27 [⟨71, 4, (r8.1.map o71)⟩] [(AV.sl 0 0 (List.length (r8.1.map o71))), (I 1)] [true] [⟨71, 4, (r27.2.map o71)⟩] (I r27.1), (some (Root.mk 71 4 (r8.1.map o71)) = some (Root.mk 71 4 (r8.1.map o71))) ∧ True, (treeLL (r8.1.map o71) = true ∧ noRoLL (r8.1.map o71) = true) ∧ True, ((r27.2.map o71).length = (r8.1.map o71).length) ∧ True, (rtf (renA [(0, 2)] (I r27.1)) []).1 = (I r27.1), (rtf (renA [(0, 2)] (I r27.1)) []).2.1 = [], (List.length (r8.1.map o71)) = (List.length (r27.2.map o71)), Meets Try.prog 28 [(AV.ro 4 (r27.2.map o71)), (I 1)] (I r29), litA (I r29) = true, Frz (((r27.2.map o71).drop 0).take (List.length (r27.2.map o71))) (r27.2.map o71), (decide (r29 < 0)) = false, (r29 != r27.1) = false, Meets Try.prog 10 [(AV.ro 5 (p1.map o49))] (AV.own 47 5 (r34.map o47)), noRo (AV.own 47 5 (r34.map o47)) = true, Meets Try.prog 25 [(AV.ro 5 (r34.map o47))] (AV.tup [(AV.own 71 4 (r35.1.map o71)), (B r35.2)]), noRo (AV.tup [(AV.own 71 4 (r35.1.map o71)), (B r35.2)]) = true, Frz (((r34.map o47).drop 0).take (List.length (r34.map o47))) (r34.map o47), Meets Try.prog 26 [(AV.ro 4 (r35.1.map o71)), (AV.ro 4 (r6.1.map o71))] (B r36), litA (B r36) = true, Frz (((r35.1.map o71).drop 0).take (List.length (r35.1.map o71))) (r35.1.map o71), Frz (((r6.1.map o71).drop 0).take (List.length (r6.1.map o71))) (r6.1.map o71), (B (!r36)) = (B true), (B false) = (B false), litA (B false) = true]) (by kernel_rfl) ⟨(laws_markUnderS_m hr27), ⟨rfl, trivial⟩, ⟨⟨treeM t71, noRoM n71⟩, trivial⟩, ⟨(sameLenE o71 hq28), trivial⟩, rfl, rfl, (sameLenE o71 hq28).symm, (laws_heldUnderS_m hr29), rfl, (frzF t71 z71), c31, c33, (laws_toEventS_m hr34), (by simp only [noRo, noRoL, noRoM n47, Bool.and_self]), (impl_UndersIn_m hr35), (by simp only [noRo, noRoL, noRoM n71, Bool.and_self]), (frzF t47 z47), (laws_eqUnderS_m hr36), rfl, (frzF t71 z71), (frzF t71 z71), (litB c37), rfl, rfl, trivial⟩
      · rcases itS h with ⟨c39, h⟩ | ⟨c40, h⟩
        · have h := Option.some.inj h
          subst h
          exact go_ret hΘ hm hP hn (hs := [⟨3, .callX [2] [true] [⟨71, 4, (r8.1.map o71)⟩] [⟨71, 4, (r27.2.map o71)⟩] [] (I r27.1) [] (I r27.1) [], none⟩, ⟨6, .slen 7 (List.length (r27.2.map o71)), none⟩, ⟨8, .callV [(r27.2.map o71)] (I r29), none⟩, ⟨12, .br false, none⟩, ⟨16, .br false, none⟩, ⟨18, .call [] (AV.own 47 5 (r34.map o47)) [1001], none⟩, ⟨19, .call [(r34.map o47)] (AV.tup [(AV.own 71 4 (r35.1.map o71)), (B r35.2)]) [1002], none⟩, ⟨27, .callV [(r35.1.map o71), (r6.1.map o71)] (B r36), none⟩, ⟨29, .no, some (B false)⟩, ⟨34, .br true, none⟩]) (rh := []) (ph := .raw) (ps := [MeetsR Try.prog 27 [⟨71, 4, (r8.1.map o71)⟩] [(AV.sl 0 0 (List.length (r8.1.map o71))), (I 1)] [true] [⟨71, 4, (r27.2.map o71)⟩] (I r27.1), (some (Root.mk 71 4 (r8.1.map o71)) = some (Root.mk 71 4 (r8.1.map o71))) ∧ True, (treeLL (r8.1.map o71) = true ∧ noRoLL (r8.1.map o71) = true) ∧ True, ((r27.2.map o71).length = (r8.1.map o71).length) ∧ True, (rtf (renA [(0, 2)] (I r27.1)) []).1 = (I r27.1), (rtf (renA [(0, 2)] (I r27.1)) []).2.1 = [], (List.length (r8.1.map o71)) = (List.length (r27.2.map o71)), Meets Try.prog 28 [(AV.ro 4 (r27.2.map o71)), (I 1)] (I r29), litA (I r29) = true, Frz (((r27.2.map o71).drop 0).take (List.length (r27.2.map o71))) (r27.2.map o71), (decide (r29 < 0)) = false, (r29 != r27.1) = false, Meets Try.prog 10 [(AV.ro 5 (p1.map o49))] (AV.own 47 5 (r34.map o47)), noRo (AV.own 47 5 (r34.map o47)) = true, Meets Try.prog 25 [(AV.ro 5 (r34.map o47))] (AV.tup [(AV.own 71 4 (r35.1.map o71)), (B r35.2)]), noRo (AV.tup [(AV.own 71 4 (r35.1.map o71)), (B r35.2)]) = true, Frz (((r34.map o47).drop 0).take (List.length (r34.map o47))) (r34.map o47), Meets Try.prog 26 [(AV.ro 4 (r35.1.map o71)), (AV.ro 4 (r6.1.map o71))] (B r36), litA (B r36) = true, Frz (((r35.1.map o71).drop 0).take (List.length (r35.1.map o71))) (r35.1.map o71), Frz (((r6.1.map o71).drop 0).take (List.length (r6.1.map o71))) (r6.1.map o71), (B (!r36)) = (B false), (!(r35.2 == r6.2)) = true, (B false) = (B false), litA (B false) = true]) (by kernel_rfl) ⟨(laws_markUnderS_m hr27), ⟨rfl, trivial⟩, ⟨⟨treeM t71, noRoM n71⟩, trivial⟩, ⟨(sameLenE o71 hq28), trivial⟩, rfl, rfl, (sameLenE o71 hq28).symm, (laws_heldUnderS_m hr29), rfl, (frzF t71 z71), c31, c33, (laws_toEventS_m hr34), (by simp only [noRo, noRoL, noRoM n47, Bool.and_self]), (impl_UndersIn_m hr35), (by simp only [noRo, noRoL, noRoM n71, Bool.and_self]), (frzF t47 z47), (laws_eqUnderS_m hr36), rfl, (frzF t71 z71), (frzF t71 z71), (litB c38), c39, rfl, rfl, trivial⟩
        · exact go_to hΘ hm hx hP hn (hs := [⟨3, .callX [2] [true] [⟨71, 4, (r8.1.map o71)⟩] [⟨71, 4, (r27.2.map o71)⟩] [] (I r27.1) [] (I r27.1) [], none⟩, ⟨6, .slen 7 (List.length (r27.2.map o71)), none⟩, ⟨8, .callV [(r27.2.map o71)] (I r29), none⟩, ⟨12, .br false, none⟩, ⟨16, .br false, none⟩, ⟨18, .call [] (AV.own 47 5 (r34.map o47)) [1001], none⟩, ⟨19, .call [(r34.map o47)] (AV.tup [(AV.own 71 4 (r35.1.map o71)), (B r35.2)]) [1002], none⟩, ⟨27, .callV [(r35.1.map o71), (r6.1.map o71)] (B r36), none⟩, ⟨29, .no, some (B false)⟩, ⟨34, .br false, none⟩]) (π := [(2, 1)]) (ts := [7, 10]) (kp := []) (ps := [MeetsR Try.prog 27 [⟨71, 4, (r8.1.map o71)⟩] [(AV.sl 0 0 (List.length (r8.1.map o71))), (I 1)] [true] [⟨71, 4, (r27.2.map o71)⟩] (I r27.1), (some (Root.mk 71 4 (r8.1.map o71)) = some (Root.mk 71 4 (r8.1.map o71))) ∧ True, (treeLL (r8.1.map o71) = true ∧ noRoLL (r8.1.map o71) = true) ∧ True, ((r27.2.map o71).length = (r8.1.map o71).length) ∧ True, (rtf (renA [(0, 2)] (I r27.1)) []).1 = (I r27.1), (rtf (renA [(0, 2)] (I r27.1)) []).2.1 = [], (List.length (r8.1.map o71)) = (List.length (r27.2.map o71)), Meets Try.prog 28 [(AV.ro 4 (r27.2.map o71)), (I 1)] (I r29), litA (I r29) = true, Frz (((r27.2.map o71).drop 0).take (List.length (r27.2.map o71))) (r27.2.map o71), (decide (r29 < 0)) = false, (r29 != r27.1) = false, Meets Try.prog 10 [(AV.ro 5 (p1.map o49))] (AV.own 47 5 (r34.map o47)), noRo (AV.own 47 5 (r34.map o47)) = true, Meets Try.prog 25 [(AV.ro 5 (r34.map o47))] (AV.tup [(AV.own 71 4 (r35.1.map o71)), (B r35.2)]), noRo (AV.tup [(AV.own 71 4 (r35.1.map o71)), (B r35.2)]) = true, Frz (((r34.map o47).drop 0).take (List.length (r34.map o47))) (r34.map o47), Meets Try.prog 26 [(AV.ro 4 (r35.1.map o71)), (AV.ro 4 (r6.1.map o71))] (B r36), litA (B r36) = true, Frz (((r35.1.map o71).drop 0).take (List.length (r35.1.map o71))) (r35.1.map o71), Frz (((r6.1.map o71).drop 0).take (List.length (r6.1.map o71))) (r6.1.map o71), (B (!r36)) = (B false), (!(r35.2 == r6.2)) = false, RenOK [(2, 1)] (r27.2.map o71)]) (by kernel_rfl) ⟨(laws_markUnderS_m hr27), ⟨rfl, trivial⟩, ⟨⟨treeM t71, noRoM n71⟩, trivial⟩, ⟨(sameLenE o71 hq28), trivial⟩, rfl, rfl, (sameLenE o71 hq28).symm, (laws_heldUnderS_m hr29), rfl, (frzF t71 z71), c31, c33, (laws_toEventS_m hr34), (by simp only [noRo, noRoL, noRoM n47, Bool.and_self]), (impl_UndersIn_m hr35), (by simp only [noRo, noRoL, noRoM n71, Bool.and_self]), (frzF t47 z47), (laws_eqUnderS_m hr36), rfl, (frzF t71 z71), (frzF t71 z71), (litB c38), c40, (rok (treeM t71)), trivial⟩ (laws_FnExactUndersIn_j2_m hP hn hx r27  _ h)
noncomputable def laws_FnExactUndersIn_j0  (p1 : (List GEvent)) (r6 : ((List GUnder) × Bool)) (r7 : (List GEvent)) (r8 : ((List GUnder) × Bool))  : Option Bool :=
  Option.bind (laws_toEventS p1) fun r14 =>
  Option.bind (laws_eqEventS r7 r14) fun r15 =>
  if (!r15) = true then
    some false
  else
    Option.bind (laws_markEventS r7 1) fun r18 =>
    Option.bind (sameLen r7 r18.2) fun q19 =>
    if (decide (r18.1 < 0)) = true then
      some false
    else
      Option.bind (laws_eqUnderS r8.1 r6.1) fun r22 =>
      if (!r22) = true then
        some false
      else
        if (!(r8.2 == r6.2)) = true then
          some false
        else
          laws_FnExactUndersIn_j1 p1 r6 r8
theorem laws_FnExactUndersIn_j0_m {E : Env} (hP : E.P = Try.prog) (hn : E.n = 96) (hx : ∀ p, p ∈ E.fx → p.1 ∈ ([] : List Nat)) (p1 : (List GEvent)) (r6 : ((List GUnder) × Bool)) (r7 : (List GEvent)) (r8 : ((List GUnder) × Bool))   (r : Bool) (h : laws_FnExactUndersIn_j0 p1 r6 r7 r8  = some r) : WAt E body6 (FQ (RetE Θ Try.f6.results.toList [] [] (B r) E)) [true, true, true, true, true, true, true, false, true, true] ⟨[(0, (AV.ro 5 (p1.map o49))), (4, (AV.sl 1 0 (List.length (r6.1.map o71)))), (5, (B r6.2)), (6, (AV.sl 2 0 (List.length (r7.map o47)))), (7, (AV.sl 3 0 (List.length (r8.1.map o71)))), (8, (B r8.2))], [(1, some ⟨71, 4, (r6.1.map o71)⟩), (2, some ⟨47, 5, (r7.map o47)⟩), (3, some ⟨71, 4, (r8.1.map o71)⟩)], [1, 2, 3, JJ]⟩ := by
  have hm : E.P.follows .mixedOrders = true := by rw [hP]; exact mixed
  have hΘ : TOK E.P Θ := by rw [hP]; exact Θ_ok
  unfold laws_FnExactUndersIn_j0 at h
  obtain ⟨r14, hr14, h⟩ := bnS h
  obtain ⟨r15, hr15, h⟩ := bnS h
  rcases itS h with ⟨c16, h⟩ | ⟨c17, h⟩
  · have h := Option.some.inj h
    subst h
    exact go_ret hΘ hm hP hn (hs := [⟨2, .call [] (AV.own 47 5 (r14.map o47)) [1001], none⟩, ⟨3, .callV [(r7.map o47), (r14.map o47)] (B r15), none⟩, ⟨5, .br true, none⟩]) (rh := []) (ph := .raw) (ps := [Meets Try.prog 10 [(AV.ro 5 (p1.map o49))] (AV.own 47 5 (r14.map o47)), noRo (AV.own 47 5 (r14.map o47)) = true, Meets Try.prog 13 [(AV.ro 5 (r7.map o47)), (AV.ro 5 (r14.map o47))] (B r15), litA (B r15) = true, Frz (((r7.map o47).drop 0).take (List.length (r7.map o47))) (r7.map o47), Frz (((r14.map o47).drop 0).take (List.length (r14.map o47))) (r14.map o47), (!r15) = true, (B false) = (B false), litA (B false) = true]) (by kernel_rfl) ⟨(laws_toEventS_m hr14), (by simp only [noRo, noRoL, noRoM n47, Bool.and_self]), (laws_eqEventS_m hr15), rfl, (frzF t47 z47), (frzF t47 z47), c16, rfl, rfl, trivial⟩
  · obtain ⟨r18, hr18, h⟩ := bnS h
    obtain ⟨q19, hq19, h⟩ := bnS h
    rcases itS h with ⟨c20, h⟩ | ⟨c21, h⟩
    · have h := Option.some.inj h
      subst h
      exact go_ret hΘ hm hP hn (hs := [⟨2, .call [] (AV.own 47 5 (r14.map o47)) [1001], none⟩, ⟨3, .callV [(r7.map o47), (r14.map o47)] (B r15), none⟩, ⟨5, .br false, none⟩, ⟨9, .callX [2] [true] [⟨47, 5, (r7.map o47)⟩] [⟨47, 5, (r18.2.map o47)⟩] [] (I r18.1) [] (I r18.1) [], none⟩, ⟨13, .no, some (B true)⟩]) (rh := []) (ph := .raw) (ps := [Meets Try.prog 10 [(AV.ro 5 (p1.map o49))] (AV.own 47 5 (r14.map o47)), noRo (AV.own 47 5 (r14.map o47)) = true, Meets Try.prog 13 [(AV.ro 5 (r7.map o47)), (AV.ro 5 (r14.map o47))] (B r15), litA (B r15) = true, Frz (((r7.map o47).drop 0).take (List.length (r7.map o47))) (r7.map o47), Frz (((r14.map o47).drop 0).take (List.length (r14.map o47))) (r14.map o47), (!r15) = false, MeetsR Try.prog 14 [⟨47, 5, (r7.map o47)⟩] [(AV.sl 0 0 (List.length (r7.map o47))), (I 1)] [true] [⟨47, 5, (r18.2.map o47)⟩] (I r18.1), (some (Root.mk 47 5 (r7.map o47)) = some (Root.mk 47 5 (r7.map o47))) ∧ True, (treeLL (r7.map o47) = true ∧ noRoLL (r7.map o47) = true) ∧ True, ((r18.2.map o47).length = (r7.map o47).length) ∧ True, (rtf (renA [(0, 2)] (I r18.1)) []).1 = (I r18.1), (rtf (renA [(0, 2)] (I r18.1)) []).2.1 = [], (B (decide (r18.1 < 0))) = (B true), (B false) = (B false), litA (B false) = true]) (by kernel_rfl) ⟨(laws_toEventS_m hr14), (by simp only [noRo, noRoL, noRoM n47, Bool.and_self]), (laws_eqEventS_m hr15), rfl, (frzF t47 z47), (frzF t47 z47), c17, (laws_markEventS_m hr18), ⟨rfl, trivial⟩, ⟨⟨treeM t47, noRoM n47⟩, trivial⟩, ⟨(sameLenE o47 hq19), trivial⟩, rfl, rfl, (litB c20), rfl, rfl, trivial⟩
    · obtain ⟨r22, hr22, h⟩ := bnS h
      rcases itS h with ⟨c23, h⟩ | ⟨c24, h⟩
      · have h := Option.some.inj h
        subst h
        exact go_ret hΘ hm hP hn (hs := [⟨2, .call [] (AV.own 47 5 (r14.map o47)) [1001], none⟩, ⟨3, .callV [(r7.map o47), (r14.map o47)] (B r15), none⟩, ⟨5, .br false, none⟩, ⟨9, .callX [2] [true] [⟨47, 5, (r7.map o47)⟩] [⟨47, 5, (r18.2.map o47)⟩] [] (I r18.1) [] (I r18.1) [], none⟩, ⟨13, .no, some (B false)⟩, ⟨16, .callV [(r8.1.map o71), (r6.1.map o71)] (B r22), none⟩, ⟨19, .no, some (B true)⟩]) (rh := []) (ph := .raw) (ps := [Meets Try.prog 10 [(AV.ro 5 (p1.map o49))] (AV.own 47 5 (r14.map o47)), noRo (AV.own 47 5 (r14.map o47)) = true, Meets Try.prog 13 [(AV.ro 5 (r7.map o47)), (AV.ro 5 (r14.map o47))] (B r15), litA (B r15) = true, Frz (((r7.map o47).drop 0).take (List.length (r7.map o47))) (r7.map o47), Frz (((r14.map o47).drop 0).take (List.length (r14.map o47))) (r14.map o47), (!r15) = false, MeetsR Try.prog 14 [⟨47, 5, (r7.map o47)⟩] [(AV.sl 0 0 (List.length (r7.map o47))), (I 1)] [true] [⟨47, 5, (r18.2.map o47)⟩] (I r18.1), (some (Root.mk 47 5 (r7.map o47)) = some (Root.mk 47 5 (r7.map o47))) ∧ True, (treeLL (r7.map o47) = true ∧ noRoLL (r7.map o47) = true) ∧ True, ((r18.2.map o47).length = (r7.map o47).length) ∧ True, (rtf (renA [(0, 2)] (I r18.1)) []).1 = (I r18.1), (rtf (renA [(0, 2)] (I r18.1)) []).2.1 = [], (B (decide (r18.1 < 0))) = (B false), Meets Try.prog 26 [(AV.ro 4 (r8.1.map o71)), (AV.ro 4 (r6.1.map o71))] (B r22), litA (B r22) = true, Frz (((r8.1.map o71).drop 0).take (List.length (r8.1.map o71))) (r8.1.map o71), Frz (((r6.1.map o71).drop 0).take (List.length (r6.1.map o71))) (r6.1.map o71), (B (!r22)) = (B true), (B false) = (B false), litA (B false) = true]) (by kernel_rfl) ⟨(laws_toEventS_m hr14), (by simp only [noRo, noRoL, noRoM n47, Bool.and_self]), (laws_eqEventS_m hr15), rfl, (frzF t47 z47), (frzF t47 z47), c17, (laws_markEventS_m hr18), ⟨rfl, trivial⟩, ⟨⟨treeM t47, noRoM n47⟩, trivial⟩, ⟨(sameLenE o47 hq19), trivial⟩, rfl, rfl, (litB c21), (laws_eqUnderS_m hr22), rfl, (frzF t71 z71), (frzF t71 z71), (litB c23), rfl, rfl, trivial⟩
      · rcases itS h with ⟨c25, h⟩ | ⟨c26, h⟩
        · have h := Option.some.inj h
          subst h
          exact go_ret hΘ hm hP hn (hs := [⟨2, .call [] (AV.own 47 5 (r14.map o47)) [1001], none⟩, ⟨3, .callV [(r7.map o47), (r14.map o47)] (B r15), none⟩, ⟨5, .br false, none⟩, ⟨9, .callX [2] [true] [⟨47, 5, (r7.map o47)⟩] [⟨47, 5, (r18.2.map o47)⟩] [] (I r18.1) [] (I r18.1) [], none⟩, ⟨13, .no, some (B false)⟩, ⟨16, .callV [(r8.1.map o71), (r6.1.map o71)] (B r22), none⟩, ⟨19, .no, some (B false)⟩, ⟨24, .br true, none⟩]) (rh := []) (ph := .raw) (ps := [Meets Try.prog 10 [(AV.ro 5 (p1.map o49))] (AV.own 47 5 (r14.map o47)), noRo (AV.own 47 5 (r14.map o47)) = true, Meets Try.prog 13 [(AV.ro 5 (r7.map o47)), (AV.ro 5 (r14.map o47))] (B r15), litA (B r15) = true, Frz (((r7.map o47).drop 0).take (List.length (r7.map o47))) (r7.map o47), Frz (((r14.map o47).drop 0).take (List.length (r14.map o47))) (r14.map o47), (!r15) = false, MeetsR Try.prog 14 [⟨47, 5, (r7.map o47)⟩] [(AV.sl 0 0 (List.length (r7.map o47))), (I 1)] [true] [⟨47, 5, (r18.2.map o47)⟩] (I r18.1), (some (Root.mk 47 5 (r7.map o47)) = some (Root.mk 47 5 (r7.map o47))) ∧ True, (treeLL (r7.map o47) = true ∧ noRoLL (r7.map o47) = true) ∧ True, ((r18.2.map o47).length = (r7.map o47).length) ∧ True, (rtf (renA [(0, 2)] (I r18.1)) []).1 = (I r18.1), (rtf (renA [(0, 2)] (I r18.1)) []).2.1 = [], (B (decide (r18.1 < 0))) = (B false), Meets Try.prog 26 [(AV.ro 4 (r8.1.map o71)), (AV.ro 4 (r6.1.map o71))] (B r22), litA (B r22) = true, Frz (((r8.1.map o71).drop 0).take (List.length (r8.1.map o71))) (r8.1.map o71), Frz (((r6.1.map o71).drop 0).take (List.length (r6.1.map o71))) (r6.1.map o71), (B (!r22)) = (B false), (!(r8.2 == r6.2)) = true, (B false) = (B false), litA (B false) = true]) (by kernel_rfl) ⟨(laws_toEventS_m hr14), (by simp only [noRo, noRoL, noRoM n47, Bool.and_self]), (laws_eqEventS_m hr15), rfl, (frzF t47 z47), (frzF t47 z47), c17, (laws_markEventS_m hr18), ⟨rfl, trivial⟩, ⟨⟨treeM t47, noRoM n47⟩, trivial⟩, ⟨(sameLenE o47 hq19), trivial⟩, rfl, rfl, (litB c21), (laws_eqUnderS_m hr22), rfl, (frzF t71 z71), (frzF t71 z71), (litB c24), c25, rfl, rfl, trivial⟩
        · exact go_to hΘ hm hx hP hn (hs := [⟨2, .call [] (AV.own 47 5 (r14.map o47)) [1001], none⟩, ⟨3, .callV [(r7.map o47), (r14.map o47)] (B r15), none⟩, ⟨5, .br false, none⟩, ⟨9, .callX [2] [true] [⟨47, 5, (r7.map o47)⟩] [⟨47, 5, (r18.2.map o47)⟩] [] (I r18.1) [] (I r18.1) [], none⟩, ⟨13, .no, some (B false)⟩, ⟨16, .callV [(r8.1.map o71), (r6.1.map o71)] (B r22), none⟩, ⟨19, .no, some (B false)⟩, ⟨24, .br false, none⟩]) (π := [(1, 1), (3, 2)]) (ts := [0, 4, 5, 7]) (kp := []) (ps := [Meets Try.prog 10 [(AV.ro 5 (p1.map o49))] (AV.own 47 5 (r14.map o47)), noRo (AV.own 47 5 (r14.map o47)) = true, Meets Try.prog 13 [(AV.ro 5 (r7.map o47)), (AV.ro 5 (r14.map o47))] (B r15), litA (B r15) = true, Frz (((r7.map o47).drop 0).take (List.length (r7.map o47))) (r7.map o47), Frz (((r14.map o47).drop 0).take (List.length (r14.map o47))) (r14.map o47), (!r15) = false, MeetsR Try.prog 14 [⟨47, 5, (r7.map o47)⟩] [(AV.sl 0 0 (List.length (r7.map o47))), (I 1)] [true] [⟨47, 5, (r18.2.map o47)⟩] (I r18.1), (some (Root.mk 47 5 (r7.map o47)) = some (Root.mk 47 5 (r7.map o47))) ∧ True, (treeLL (r7.map o47) = true ∧ noRoLL (r7.map o47) = true) ∧ True, ((r18.2.map o47).length = (r7.map o47).length) ∧ True, (rtf (renA [(0, 2)] (I r18.1)) []).1 = (I r18.1), (rtf (renA [(0, 2)] (I r18.1)) []).2.1 = [], (B (decide (r18.1 < 0))) = (B false), Meets Try.prog 26 [(AV.ro 4 (r8.1.map o71)), (AV.ro 4 (r6.1.map o71))] (B r22), litA (B r22) = true, Frz (((r8.1.map o71).drop 0).take (List.length (r8.1.map o71))) (r8.1.map o71), Frz (((r6.1.map o71).drop 0).take (List.length (r6.1.map o71))) (r6.1.map o71), (B (!r22)) = (B false), (!(r8.2 == r6.2)) = false, RenOK [(1, 1), (3, 2)] (r6.1.map o71), RenOK [(1, 1), (3, 2)] (r8.1.map o71)]) (by kernel_rfl) ⟨(laws_toEventS_m hr14), (by simp only [noRo, noRoL, noRoM n47, Bool.and_self]), (laws_eqEventS_m hr15), rfl, (frzF t47 z47), (frzF t47 z47), c17, (laws_markEventS_m hr18), ⟨rfl, trivial⟩, ⟨⟨treeM t47, noRoM n47⟩, trivial⟩, ⟨(sameLenE o47 hq19), trivial⟩, rfl, rfl, (litB c21), (laws_eqUnderS_m hr22), rfl, (frzF t71 z71), (frzF t71 z71), (litB c24), c26, (rok (treeM t71)), (rok (treeM t71)), trivial⟩ (laws_FnExactUndersIn_j1_m hP hn hx p1 r6 r8  _ h)
noncomputable def laws_FnExactUndersIn (p1 : (List GEvent)) : Option Bool :=
  Option.bind (laws_szEventS p1 1048576) fun r2 =>
  if (decide (r2 < 0)) = true then
    some true
  else
    Option.bind (laws_toEventS p1) fun r5 =>
    Option.bind (spec_UndersIn r5) fun r6 =>
    Option.bind (laws_toEventS p1) fun r7 =>
    Option.bind (impl_UndersIn r7) fun r8 =>
    Option.bind (laws_eqUnderS r8.1 r6.1) fun r9 =>
    if (!r9) = true then
      some false
    else
      if (!(r8.2 == r6.2)) = true then
        some false
      else
        laws_FnExactUndersIn_j0 p1 r6 r7 r8
theorem laws_FnExactUndersIn_m {p1 : (List GEvent)} {r : Bool} (h : laws_FnExactUndersIn p1 = some r) : Meets Try.prog 6 [(AV.ro 5 (p1.map o49))] (B r) := by
  refine meets_ofC Θ_ok Try.func6 rfl (c := body6) (by kernel_rfl) (Nat.le_of_ble_eq_true rfl) ?_
  intro E hP hn hx
  replace hn : E.n = 96 := hn
  have hm : E.P.follows .mixedOrders = true := by rw [hP]; exact mixed
  have hΘ : TOK E.P Θ := by rw [hP]; exact Θ_ok
  unfold laws_FnExactUndersIn at h
  show WAt E body6 (FQ (RetE Θ Try.f6.results.toList [] [] (B r) E)) [] ⟨[(0, (AV.ro 5 (p1.map o49)))], [], [JJ]⟩
  obtain ⟨r2, hr2, h⟩ := bnS h
  rcases itS h with ⟨c3, h⟩ | ⟨c4, h⟩
  · have h := Option.some.inj h
    subst h
    exact go_ret hΘ hm hP hn (hs := [⟨4, .callV [] (I r2), none⟩, ⟨8, .br true, none⟩]) (rh := []) (ph := .raw) (ps := [Meets Try.prog 8 [(AV.ro 5 (p1.map o49)), (I 1048576)] (I r2), litA (I r2) = true, (decide (r2 < 0)) = true, (B true) = (B true), litA (B true) = true]) (by kernel_rfl) ⟨(laws_szEventS_m hr2), rfl, c3, rfl, rfl, trivial⟩
  · obtain ⟨r5, hr5, h⟩ := bnS h
    obtain ⟨r6, hr6, h⟩ := bnS h
    obtain ⟨r7, hr7, h⟩ := bnS h
    obtain ⟨r8, hr8, h⟩ := bnS h
    obtain ⟨r9, hr9, h⟩ := bnS h
    rcases itS h with ⟨c10, h⟩ | ⟨c11, h⟩
    · have h := Option.some.inj h
      subst h
      exact go_ret hΘ hm hP hn (hs := [⟨4, .callV [] (I r2), none⟩, ⟨8, .br false, none⟩, ⟨10, .call [] (AV.own 47 5 (r5.map o47)) [1001], none⟩, ⟨11, .call [(r5.map o47)] (AV.tup [(AV.own 71 4 (r6.1.map o71)), (B r6.2)]) [1002], none⟩, ⟨18, .call [] (AV.own 47 5 (r7.map o47)) [1003], none⟩, ⟨21, .call [(r7.map o47)] (AV.tup [(AV.own 71 4 (r8.1.map o71)), (B r8.2)]) [1004], none⟩, ⟨29, .callV [(r8.1.map o71), (r6.1.map o71)] (B r9), none⟩, ⟨31, .no, some (B true)⟩]) (rh := []) (ph := .raw) (ps := [Meets Try.prog 8 [(AV.ro 5 (p1.map o49)), (I 1048576)] (I r2), litA (I r2) = true, (decide (r2 < 0)) = false, Meets Try.prog 10 [(AV.ro 5 (p1.map o49))] (AV.own 47 5 (r5.map o47)), noRo (AV.own 47 5 (r5.map o47)) = true, Meets Try.prog 24 [(AV.ro 5 (r5.map o47))] (AV.tup [(AV.own 71 4 (r6.1.map o71)), (B r6.2)]), noRo (AV.tup [(AV.own 71 4 (r6.1.map o71)), (B r6.2)]) = true, Frz (((r5.map o47).drop 0).take (List.length (r5.map o47))) (r5.map o47), Meets Try.prog 10 [(AV.ro 5 (p1.map o49))] (AV.own 47 5 (r7.map o47)), noRo (AV.own 47 5 (r7.map o47)) = true, Meets Try.prog 25 [(AV.ro 5 (r7.map o47))] (AV.tup [(AV.own 71 4 (r8.1.map o71)), (B r8.2)]), noRo (AV.tup [(AV.own 71 4 (r8.1.map o71)), (B r8.2)]) = true, Frz (((r7.map o47).drop 0).take (List.length (r7.map o47))) (r7.map o47), Meets Try.prog 26 [(AV.ro 4 (r8.1.map o71)), (AV.ro 4 (r6.1.map o71))] (B r9), litA (B r9) = true, Frz (((r8.1.map o71).drop 0).take (List.length (r8.1.map o71))) (r8.1.map o71), Frz (((r6.1.map o71).drop 0).take (List.length (r6.1.map o71))) (r6.1.map o71), (B (!r9)) = (B true), (B false) = (B false), litA (B false) = true]) (by kernel_rfl) ⟨(laws_szEventS_m hr2), rfl, c4, (laws_toEventS_m hr5), (by simp only [noRo, noRoL, noRoM n47, Bool.and_self]), (spec_UndersIn_m hr6), (by simp only [noRo, noRoL, noRoM n71, Bool.and_self]), (frzF t47 z47), (laws_toEventS_m hr7), (by simp only [noRo, noRoL, noRoM n47, Bool.and_self]), (impl_UndersIn_m hr8), (by simp only [noRo, noRoL, noRoM n71, Bool.and_self]), (frzF t47 z47), (laws_eqUnderS_m hr9), rfl, (frzF t71 z71), (frzF t71 z71), (litB c10), rfl, rfl, trivial⟩
    · rcases itS h with ⟨c12, h⟩ | ⟨c13, h⟩
      · have h := Option.some.inj h
        subst h
        exact go_ret hΘ hm hP hn (hs := [⟨4, .callV [] (I r2), none⟩, ⟨8, .br false, none⟩, ⟨10, .call [] (AV.own 47 5 (r5.map o47)) [1001], none⟩, ⟨11, .call [(r5.map o47)] (AV.tup [(AV.own 71 4 (r6.1.map o71)), (B r6.2)]) [1002], none⟩, ⟨18, .call [] (AV.own 47 5 (r7.map o47)) [1003], none⟩, ⟨21, .call [(r7.map o47)] (AV.tup [(AV.own 71 4 (r8.1.map o71)), (B r8.2)]) [1004], none⟩, ⟨29, .callV [(r8.1.map o71), (r6.1.map o71)] (B r9), none⟩, ⟨31, .no, some (B false)⟩, ⟨36, .br true, none⟩]) (rh := []) (ph := .raw) (ps := [Meets Try.prog 8 [(AV.ro 5 (p1.map o49)), (I 1048576)] (I r2), litA (I r2) = true, (decide (r2 < 0)) = false, Meets Try.prog 10 [(AV.ro 5 (p1.map o49))] (AV.own 47 5 (r5.map o47)), noRo (AV.own 47 5 (r5.map o47)) = true, Meets Try.prog 24 [(AV.ro 5 (r5.map o47))] (AV.tup [(AV.own 71 4 (r6.1.map o71)), (B r6.2)]), noRo (AV.tup [(AV.own 71 4 (r6.1.map o71)), (B r6.2)]) = true, Frz (((r5.map o47).drop 0).take (List.length (r5.map o47))) (r5.map o47), Meets Try.prog 10 [(AV.ro 5 (p1.map o49))] (AV.own 47 5 (r7.map o47)), noRo (AV.own 47 5 (r7.map o47)) = true, Meets Try.prog 25 [(AV.ro 5 (r7.map o47))] (AV.tup [(AV.own 71 4 (r8.1.map o71)), (B r8.2)]), noRo (AV.tup [(AV.own 71 4 (r8.1.map o71)), (B r8.2)]) = true, Frz (((r7.map o47).drop 0).take (List.length (r7.map o47))) (r7.map o47), Meets Try.prog 26 [(AV.ro 4 (r8.1.map o71)), (AV.ro 4 (r6.1.map o71))] (B r9), litA (B r9) = true, Frz (((r8.1.map o71).drop 0).take (List.length (r8.1.map o71))) (r8.1.map o71), Frz (((r6.1.map o71).drop 0).take (List.length (r6.1.map o71))) (r6.1.map o71), (B (!r9)) = (B false), (!(r8.2 == r6.2)) = true, (B false) = (B false), litA (B false) = true]) (by kernel_rfl) ⟨(laws_szEventS_m hr2), rfl, c4, (laws_toEventS_m hr5), (by simp only [noRo, noRoL, noRoM n47, Bool.and_self]), (spec_UndersIn_m hr6), (by simp only [noRo, noRoL, noRoM n71, Bool.and_self]), (frzF t47 z47), (laws_toEventS_m hr7), (by simp only [noRo, noRoL, noRoM n47, Bool.and_self]), (impl_UndersIn_m hr8), (by simp only [noRo, noRoL, noRoM n71, Bool.and_self]), (frzF t47 z47), (laws_eqUnderS_m hr9), rfl, (frzF t71 z71), (frzF t71 z71), (litB c11), c12, rfl, rfl, trivial⟩
      · exact go_to hΘ hm hx hP hn (hs := [⟨4, .callV [] (I r2), none⟩, ⟨8, .br false, none⟩, ⟨10, .call [] (AV.own 47 5 (r5.map o47)) [1001], none⟩, ⟨11, .call [(r5.map o47)] (AV.tup [(AV.own 71 4 (r6.1.map o71)), (B r6.2)]) [1002], none⟩, ⟨18, .call [] (AV.own 47 5 (r7.map o47)) [1003], none⟩, ⟨21, .call [(r7.map o47)] (AV.tup [(AV.own 71 4 (r8.1.map o71)), (B r8.2)]) [1004], none⟩, ⟨29, .callV [(r8.1.map o71), (r6.1.map o71)] (B r9), none⟩, ⟨31, .no, some (B false)⟩, ⟨36, .br false, none⟩]) (π := [(1002, 1), (1003, 2), (1004, 3)]) (ts := [0, 4, 5, 6, 7, 8]) (kp := []) (ps := [Meets Try.prog 8 [(AV.ro 5 (p1.map o49)), (I 1048576)] (I r2), litA (I r2) = true, (decide (r2 < 0)) = false, Meets Try.prog 10 [(AV.ro 5 (p1.map o49))] (AV.own 47 5 (r5.map o47)), noRo (AV.own 47 5 (r5.map o47)) = true, Meets Try.prog 24 [(AV.ro 5 (r5.map o47))] (AV.tup [(AV.own 71 4 (r6.1.map o71)), (B r6.2)]), noRo (AV.tup [(AV.own 71 4 (r6.1.map o71)), (B r6.2)]) = true, Frz (((r5.map o47).drop 0).take (List.length (r5.map o47))) (r5.map o47), Meets Try.prog 10 [(AV.ro 5 (p1.map o49))] (AV.own 47 5 (r7.map o47)), noRo (AV.own 47 5 (r7.map o47)) = true, Meets Try.prog 25 [(AV.ro 5 (r7.map o47))] (AV.tup [(AV.own 71 4 (r8.1.map o71)), (B r8.2)]), noRo (AV.tup [(AV.own 71 4 (r8.1.map o71)), (B r8.2)]) = true, Frz (((r7.map o47).drop 0).take (List.length (r7.map o47))) (r7.map o47), Meets Try.prog 26 [(AV.ro 4 (r8.1.map o71)), (AV.ro 4 (r6.1.map o71))] (B r9), litA (B r9) = true, Frz (((r8.1.map o71).drop 0).take (List.length (r8.1.map o71))) (r8.1.map o71), Frz (((r6.1.map o71).drop 0).take (List.length (r6.1.map o71))) (r6.1.map o71), (B (!r9)) = (B false), (!(r8.2 == r6.2)) = false, RenOK [(1002, 1), (1003, 2), (1004, 3)] (r6.1.map o71), RenOK [(1002, 1), (1003, 2), (1004, 3)] (r7.map o47), RenOK [(1002, 1), (1003, 2), (1004, 3)] (r8.1.map o71)]) (by kernel_rfl) ⟨(laws_szEventS_m hr2), rfl, c4, (laws_toEventS_m hr5), (by simp only [noRo, noRoL, noRoM n47, Bool.and_self]), (spec_UndersIn_m hr6), (by simp only [noRo, noRoL, noRoM n71, Bool.and_self]), (frzF t47 z47), (laws_toEventS_m hr7), (by simp only [noRo, noRoL, noRoM n47, Bool.and_self]), (impl_UndersIn_m hr8), (by simp only [noRo, noRoL, noRoM n71, Bool.and_self]), (frzF t47 z47), (laws_eqUnderS_m hr9), rfl, (frzF t71 z71), (frzF t71 z71), (litB c11), c13, (rok (treeM t71)), (rok (treeM t47)), (rok (treeM t71)), trivial⟩ (laws_FnExactUndersIn_j0_m hP hn hx p1 r6 r7 r8  _ h)
end Go.Proofs.Ytkmjbfmmcijojaa
