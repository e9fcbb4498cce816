/- Functions as plain data, and that the code comes to them; no condition. -/

import Derived.Test.YtfanhncmpbncpaaGT
set_option linter.unusedVariables false
set_option maxRecDepth 100000
namespace Go.Proofs.Ytfanhncmpbncpaa
open Go Go.T
noncomputable def body67 : Code := match Try.f67.body with | some c => c | none => .skip
noncomputable def impl_in (p1 : Int) (p2 : Int) (p3 : Int) : Option Bool :=
  if (decide (p2 ≤ p1)) = true then
    some (decide (p1 ≤ p3))
  else
    some false
theorem impl_in_m {p1 : Int} {p2 : Int} {p3 : Int} {r : Bool} (h : impl_in p1 p2 p3 = some r) : Meets Try.prog 67 [(I p1), (I p2), (I p3)] (B r) := by
  refine meets_ofC Θ_ok Try.func67 rfl (c := body67) (by kernel_rfl) (Nat.le_of_ble_eq_true rfl) ?_
  intro E hP hn hx
  replace hn : E.n = 15 := hn
  have hm : E.P.follows .mixedOrders = true := by rw [hP]; exact mixed
  have hΘ : TOK E.P Θ := by rw [hP]; exact Θ_ok
  unfold impl_in at h
  show WAt E body67 (FQ (RetE Θ Try.f67.results.toList [] [] (B r) E)) [] ⟨[(0, (I p1)), (1, (I p2)), (2, (I p3))], [], [JJ]⟩
  rcases itS h with ⟨c4, h⟩ | ⟨c5, h⟩
  · have h := Option.some.inj h
    subst h
    exact go_ret hΘ hm hP hn (hs := [⟨4, .no, some (B true)⟩]) (rh := []) (ph := .raw) (ps := [(B (decide (p2 ≤ p1))) = (B true), (B (decide (p1 ≤ p3))) = (B (decide (p1 ≤ p3))), litA (B (decide (p1 ≤ p3))) = true]) (by kernel_rfl) ⟨(litB c4), rfl, rfl, trivial⟩
  · have h := Option.some.inj h
    subst h
    exact go_ret hΘ hm hP hn (hs := [⟨4, .no, some (B false)⟩]) (rh := []) (ph := .raw) (ps := [(B (decide (p2 ≤ p1))) = (B false), (B false) = (B false), litA (B false) = true]) (by kernel_rfl) ⟨(litB c5), rfl, rfl, trivial⟩
noncomputable def body59 : Code := match Try.f59.body with | some c => c | none => .skip
noncomputable def impl_Event_isGood_j0  (p1 : GEvent)  : Option Bool :=
  if (decide (p1.Obj ≥ 0)) = true then
    if (decide (p1.Lock ≥ 0)) = true then
      some true
    else
      if (p1.Kind != 8) = true then
        some (p1.Kind != 9)
      else
        some false
  else
    Option.bind (impl_in p1.Kind 2 10) fun r23 =>
    if (!r23) = true then
      if (decide (p1.Lock ≥ 0)) = true then
        some true
      else
        if (p1.Kind != 8) = true then
          some (p1.Kind != 9)
        else
          some false
    else
      some false
theorem impl_Event_isGood_j0_m {E : Env} (hP : E.P = Try.prog) (hn : E.n = 55) (hx : ∀ p, p ∈ E.fx → p.1 ∈ ([] : List Nat)) (p1 : GEvent)   (r : Bool) (h : impl_Event_isGood_j0 p1  = some r) : WAt E body59 (FQ (RetE Θ Try.f59.results.toList [] [] (B r) E)) [true, false, true, true] ⟨[(1, (AV.ptr 1 0 0))], [(1, some ⟨50, 5, [((o50 p1))]⟩)], [1, JJ]⟩ := by
  have hm : E.P.follows .mixedOrders = true := by rw [hP]; exact mixed
  have hΘ : TOK E.P Θ := by rw [hP]; exact Θ_ok
  unfold impl_Event_isGood_j0 at h
  rcases itS h with ⟨c17, h⟩ | ⟨c22, h⟩
  · rcases itS h with ⟨c18, h⟩ | ⟨c19, h⟩
    · have h := Option.some.inj h
      subst h
      exact go_ret hΘ hm hP hn (hs := [⟨3, .no, some (B true)⟩, ⟨13, .no, some (B true)⟩]) (rh := []) (ph := .raw) (ps := [(B (decide (p1.Obj ≥ 0))) = (B true), (B (decide (p1.Lock ≥ 0))) = (B true), (B true) = (B true), litA (B true) = true]) (by kernel_rfl) ⟨(litB c17), (litB c18), rfl, rfl, trivial⟩
    · rcases itS h with ⟨c20, h⟩ | ⟨c21, h⟩
      · have h := Option.some.inj h
        subst h
        exact go_ret hΘ hm hP hn (hs := [⟨3, .no, some (B true)⟩, ⟨13, .no, some (B false)⟩, ⟨17, .no, some (B true)⟩]) (rh := []) (ph := .raw) (ps := [(B (decide (p1.Obj ≥ 0))) = (B true), (B (decide (p1.Lock ≥ 0))) = (B false), (B (p1.Kind != 8)) = (B true), (B (p1.Kind != 9)) = (B (p1.Kind != 9)), litA (B (p1.Kind != 9)) = true]) (by kernel_rfl) ⟨(litB c17), (litB c19), (litB c20), rfl, rfl, trivial⟩
      · have h := Option.some.inj h
        subst h
        exact go_ret hΘ hm hP hn (hs := [⟨3, .no, some (B true)⟩, ⟨13, .no, some (B false)⟩, ⟨17, .no, some (B false)⟩]) (rh := []) (ph := .raw) (ps := [(B (decide (p1.Obj ≥ 0))) = (B true), (B (decide (p1.Lock ≥ 0))) = (B false), (B (p1.Kind != 8)) = (B false), (B false) = (B false), litA (B false) = true]) (by kernel_rfl) ⟨(litB c17), (litB c19), (litB c21), rfl, rfl, trivial⟩
  · obtain ⟨r23, hr23, h⟩ := bnS h
    rcases itS h with ⟨c24, h⟩ | ⟨c29, h⟩
    · rcases itS h with ⟨c25, h⟩ | ⟨c26, h⟩
      · have h := Option.some.inj h
        subst h
        exact go_ret hΘ hm hP hn (hs := [⟨3, .no, some (B false)⟩, ⟨6, .callV [] (B r23), none⟩, ⟨9, .no, some (B true)⟩, ⟨13, .no, some (B true)⟩]) (rh := []) (ph := .raw) (ps := [(B (decide (p1.Obj ≥ 0))) = (B false), Meets Try.prog 67 [(I p1.Kind), (I 2), (I 10)] (B r23), litA (B r23) = true, (B (!r23)) = (B true), (B (decide (p1.Lock ≥ 0))) = (B true), (B true) = (B true), litA (B true) = true]) (by kernel_rfl) ⟨(litB c22), (impl_in_m hr23), rfl, (litB c24), (litB c25), rfl, rfl, trivial⟩
      · rcases itS h with ⟨c27, h⟩ | ⟨c28, h⟩
        · have h := Option.some.inj h
          subst h
          exact go_ret hΘ hm hP hn (hs := [⟨3, .no, some (B false)⟩, ⟨6, .callV [] (B r23), none⟩, ⟨9, .no, some (B true)⟩, ⟨13, .no, some (B false)⟩, ⟨17, .no, some (B true)⟩]) (rh := []) (ph := .raw) (ps := [(B (decide (p1.Obj ≥ 0))) = (B false), Meets Try.prog 67 [(I p1.Kind), (I 2), (I 10)] (B r23), litA (B r23) = true, (B (!r23)) = (B true), (B (decide (p1.Lock ≥ 0))) = (B false), (B (p1.Kind != 8)) = (B true), (B (p1.Kind != 9)) = (B (p1.Kind != 9)), litA (B (p1.Kind != 9)) = true]) (by kernel_rfl) ⟨(litB c22), (impl_in_m hr23), rfl, (litB c24), (litB c26), (litB c27), rfl, rfl, trivial⟩
        · have h := Option.some.inj h
          subst h
          exact go_ret hΘ hm hP hn (hs := [⟨3, .no, some (B false)⟩, ⟨6, .callV [] (B r23), none⟩, ⟨9, .no, some (B true)⟩, ⟨13, .no, some (B false)⟩, ⟨17, .no, some (B false)⟩]) (rh := []) (ph := .raw) (ps := [(B (decide (p1.Obj ≥ 0))) = (B false), Meets Try.prog 67 [(I p1.Kind), (I 2), (I 10)] (B r23), litA (B r23) = true, (B (!r23)) = (B true), (B (decide (p1.Lock ≥ 0))) = (B false), (B (p1.Kind != 8)) = (B false), (B false) = (B false), litA (B false) = true]) (by kernel_rfl) ⟨(litB c22), (impl_in_m hr23), rfl, (litB c24), (litB c26), (litB c28), rfl, rfl, trivial⟩
    · have h := Option.some.inj h
      subst h
      exact go_ret hΘ hm hP hn (hs := [⟨3, .no, some (B false)⟩, ⟨6, .callV [] (B r23), none⟩, ⟨9, .no, some (B false)⟩]) (rh := []) (ph := .raw) (ps := [(B (decide (p1.Obj ≥ 0))) = (B false), Meets Try.prog 67 [(I p1.Kind), (I 2), (I 10)] (B r23), litA (B r23) = true, (B (!r23)) = (B false), (B false) = (B false), litA (B false) = true]) (by kernel_rfl) ⟨(litB c22), (impl_in_m hr23), rfl, (litB c29), rfl, rfl, trivial⟩
noncomputable def impl_Event_isGood (p1 : GEvent) : Option Bool :=
  Option.bind (impl_in p1.Thread 0 4) fun r2 =>
  if (!r2) = true then
    some false
  else
    Option.bind (impl_in p1.Kind 1 12) fun r5 =>
    if (!r5) = true then
      some false
    else
      Option.bind (impl_in p1.Obj (-1) 99) fun r8 =>
      if (!r8) = true then
        some false
      else
        Option.bind (impl_in p1.Lock (-1) 99) fun r11 =>
        if (!r11) = true then
          some false
        else
          Option.bind (impl_in p1.Pc 0 99) fun r14 =>
          if (!r14) = true then
            some false
          else
            impl_Event_isGood_j0 p1
theorem impl_Event_isGood_m {p1 : GEvent} {r : Bool} (h : impl_Event_isGood p1 = some r) : Meets Try.prog 59 [(AV.agg ((o50 p1)))] (B r) := by
  refine meets_ofC Θ_ok Try.func59 rfl (c := body59) (by kernel_rfl) (Nat.le_of_ble_eq_true rfl) ?_
  intro E hP hn hx
  replace hn : E.n = 55 := hn
  have hm : E.P.follows .mixedOrders = true := by rw [hP]; exact mixed
  have hΘ : TOK E.P Θ := by rw [hP]; exact Θ_ok
  unfold impl_Event_isGood at h
  show WAt E body59 (FQ (RetE Θ Try.f59.results.toList [] [] (B r) E)) [] ⟨[(0, (AV.agg ((o50 p1))))], [], [JJ]⟩
  obtain ⟨r2, hr2, h⟩ := bnS h
  rcases itS h with ⟨c3, h⟩ | ⟨c4, h⟩
  · have h := Option.some.inj h
    subst h
    exact go_ret hΘ hm hP hn (hs := [⟨0, .new 1001, none⟩, ⟨4, .callV [] (B r2), none⟩, ⟨6, .no, some (B true)⟩]) (rh := []) (ph := .raw) (ps := [Meets Try.prog 67 [(I p1.Thread), (I 0), (I 4)] (B r2), litA (B r2) = true, (B (!r2)) = (B true), (B false) = (B false), litA (B false) = true]) (by kernel_rfl) ⟨(impl_in_m hr2), rfl, (litB c3), rfl, rfl, trivial⟩
  · obtain ⟨r5, hr5, h⟩ := bnS h
    rcases itS h with ⟨c6, h⟩ | ⟨c7, h⟩
    · have h := Option.some.inj h
      subst h
      exact go_ret hΘ hm hP hn (hs := [⟨0, .new 1001, none⟩, ⟨4, .callV [] (B r2), none⟩, ⟨6, .no, some (B false)⟩, ⟨9, .callV [] (B r5), none⟩, ⟨12, .no, some (B true)⟩]) (rh := []) (ph := .raw) (ps := [Meets Try.prog 67 [(I p1.Thread), (I 0), (I 4)] (B r2), litA (B r2) = true, (B (!r2)) = (B false), Meets Try.prog 67 [(I p1.Kind), (I 1), (I 12)] (B r5), litA (B r5) = true, (B (!r5)) = (B true), (B false) = (B false), litA (B false) = true]) (by kernel_rfl) ⟨(impl_in_m hr2), rfl, (litB c4), (impl_in_m hr5), rfl, (litB c6), rfl, rfl, trivial⟩
    · obtain ⟨r8, hr8, h⟩ := bnS h
      rcases itS h with ⟨c9, h⟩ | ⟨c10, h⟩
      · have h := Option.some.inj h
        subst h
        exact go_ret hΘ hm hP hn (hs := [⟨0, .new 1001, none⟩, ⟨4, .callV [] (B r2), none⟩, ⟨6, .no, some (B false)⟩, ⟨9, .callV [] (B r5), none⟩, ⟨12, .no, some (B false)⟩, ⟨15, .callV [] (B r8), none⟩, ⟨18, .no, some (B true)⟩]) (rh := []) (ph := .raw) (ps := [Meets Try.prog 67 [(I p1.Thread), (I 0), (I 4)] (B r2), litA (B r2) = true, (B (!r2)) = (B false), Meets Try.prog 67 [(I p1.Kind), (I 1), (I 12)] (B r5), litA (B r5) = true, (B (!r5)) = (B false), Meets Try.prog 67 [(I p1.Obj), (I (-1)), (I 99)] (B r8), litA (B r8) = true, (B (!r8)) = (B true), (B false) = (B false), litA (B false) = true]) (by kernel_rfl) ⟨(impl_in_m hr2), rfl, (litB c4), (impl_in_m hr5), rfl, (litB c7), (impl_in_m hr8), rfl, (litB c9), rfl, rfl, trivial⟩
      · obtain ⟨r11, hr11, h⟩ := bnS h
        rcases itS h with ⟨c12, h⟩ | ⟨c13, h⟩
        · have h := Option.some.inj h
          subst h
          exact go_ret hΘ hm hP hn (hs := [⟨0, .new 1001, none⟩, ⟨4, .callV [] (B r2), none⟩, ⟨6, .no, some (B false)⟩, ⟨9, .callV [] (B r5), none⟩, ⟨12, .no, some (B false)⟩, ⟨15, .callV [] (B r8), none⟩, ⟨18, .no, some (B false)⟩, ⟨21, .callV [] (B r11), none⟩, ⟨24, .no, some (B true)⟩]) (rh := []) (ph := .raw) (ps := [Meets Try.prog 67 [(I p1.Thread), (I 0), (I 4)] (B r2), litA (B r2) = true, (B (!r2)) = (B false), Meets Try.prog 67 [(I p1.Kind), (I 1), (I 12)] (B r5), litA (B r5) = true, (B (!r5)) = (B false), Meets Try.prog 67 [(I p1.Obj), (I (-1)), (I 99)] (B r8), litA (B r8) = true, (B (!r8)) = (B false), Meets Try.prog 67 [(I p1.Lock), (I (-1)), (I 99)] (B r11), litA (B r11) = true, (B (!r11)) = (B true), (B false) = (B false), litA (B false) = true]) (by kernel_rfl) ⟨(impl_in_m hr2), rfl, (litB c4), (impl_in_m hr5), rfl, (litB c7), (impl_in_m hr8), rfl, (litB c10), (impl_in_m hr11), rfl, (litB c12), rfl, rfl, trivial⟩
        · obtain ⟨r14, hr14, h⟩ := bnS h
          rcases itS h with ⟨c15, h⟩ | ⟨c16, h⟩
          · have h := Option.some.inj h
            subst h
            exact go_ret hΘ hm hP hn (hs := [⟨0, .new 1001, none⟩, ⟨4, .callV [] (B r2), none⟩, ⟨6, .no, some (B false)⟩, ⟨9, .callV [] (B r5), none⟩, ⟨12, .no, some (B false)⟩, ⟨15, .callV [] (B r8), none⟩, ⟨18, .no, some (B false)⟩, ⟨21, .callV [] (B r11), none⟩, ⟨24, .no, some (B false)⟩, ⟨27, .callV [] (B r14), none⟩, ⟨30, .br true, none⟩]) (rh := []) (ph := .raw) (ps := [Meets Try.prog 67 [(I p1.Thread), (I 0), (I 4)] (B r2), litA (B r2) = true, (B (!r2)) = (B false), Meets Try.prog 67 [(I p1.Kind), (I 1), (I 12)] (B r5), litA (B r5) = true, (B (!r5)) = (B false), Meets Try.prog 67 [(I p1.Obj), (I (-1)), (I 99)] (B r8), litA (B r8) = true, (B (!r8)) = (B false), Meets Try.prog 67 [(I p1.Lock), (I (-1)), (I 99)] (B r11), litA (B r11) = true, (B (!r11)) = (B false), Meets Try.prog 67 [(I p1.Pc), (I 0), (I 99)] (B r14), litA (B r14) = true, (!r14) = true, (B false) = (B false), litA (B false) = true]) (by kernel_rfl) ⟨(impl_in_m hr2), rfl, (litB c4), (impl_in_m hr5), rfl, (litB c7), (impl_in_m hr8), rfl, (litB c10), (impl_in_m hr11), rfl, (litB c13), (impl_in_m hr14), rfl, c15, rfl, rfl, trivial⟩
          · exact go_to hΘ hm hx hP hn (hs := [⟨0, .new 1001, none⟩, ⟨4, .callV [] (B r2), none⟩, ⟨6, .no, some (B false)⟩, ⟨9, .callV [] (B r5), none⟩, ⟨12, .no, some (B false)⟩, ⟨15, .callV [] (B r8), none⟩, ⟨18, .no, some (B false)⟩, ⟨21, .callV [] (B r11), none⟩, ⟨24, .no, some (B false)⟩, ⟨27, .callV [] (B r14), none⟩, ⟨30, .br false, none⟩]) (π := [(1001, 1)]) (ts := [1]) (kp := []) (ps := [Meets Try.prog 67 [(I p1.Thread), (I 0), (I 4)] (B r2), litA (B r2) = true, (B (!r2)) = (B false), Meets Try.prog 67 [(I p1.Kind), (I 1), (I 12)] (B r5), litA (B r5) = true, (B (!r5)) = (B false), Meets Try.prog 67 [(I p1.Obj), (I (-1)), (I 99)] (B r8), litA (B r8) = true, (B (!r8)) = (B false), Meets Try.prog 67 [(I p1.Lock), (I (-1)), (I 99)] (B r11), litA (B r11) = true, (B (!r11)) = (B false), Meets Try.prog 67 [(I p1.Pc), (I 0), (I 99)] (B r14), litA (B r14) = true, (!r14) = false, RenOK [(1001, 1)] [((o50 p1))]]) (by kernel_rfl) ⟨(impl_in_m hr2), rfl, (litB c4), (impl_in_m hr5), rfl, (litB c7), (impl_in_m hr8), rfl, (litB c10), (impl_in_m hr11), rfl, (litB c13), (impl_in_m hr14), rfl, c16, (rok rfl), trivial⟩ (impl_Event_isGood_j0_m hP hn hx p1  _ h)
noncomputable def body58 : Code := match Try.f58.body with | some c => c | none => .skip
noncomputable def impl_GoodTrace_1 (p1 : GEvent) : Option Bool :=
  Option.bind (impl_Event_isGood p1) fun r2 =>
  some (!r2)
theorem impl_GoodTrace_1_m {p1 : GEvent} {r : Bool} (h : impl_GoodTrace_1 p1 = some r) : Meets Try.prog 58 [(AV.agg ((o50 p1)))] (B r) := by
  refine meets_ofC Θ_ok Try.func58 rfl (c := body58) (by kernel_rfl) (Nat.le_of_ble_eq_true rfl) ?_
  intro E hP hn hx
  replace hn : E.n = 6 := hn
  have hm : E.P.follows .mixedOrders = true := by rw [hP]; exact mixed
  have hΘ : TOK E.P Θ := by rw [hP]; exact Θ_ok
  unfold impl_GoodTrace_1 at h
  show WAt E body58 (FQ (RetE Θ Try.f58.results.toList [] [] (B r) E)) [] ⟨[(0, (AV.agg ((o50 p1))))], [], [JJ]⟩
  obtain ⟨r2, hr2, h⟩ := bnS h
  have h := Option.some.inj h
  subst h
  exact go_ret hΘ hm hP hn (hs := [⟨0, .new 1001, none⟩, ⟨3, .callV [[]] (B r2), none⟩]) (rh := []) (ph := .raw) (ps := [Meets Try.prog 59 [(AV.agg ((o50 p1)))] (B r2), litA (B r2) = true, (B (!r2)) = (B (!r2)), litA (B (!r2)) = true]) (by kernel_rfl) ⟨(impl_Event_isGood_m hr2), rfl, rfl, rfl, trivial⟩
noncomputable def body76 : Code := match Try.f76.body with | some c => c | none => .skip
noncomputable def slices_IndexFunc_Event_Event__impl_GoodTrace_1_l0  (p1 : (List GEvent)) : Nat → Int → Option Int
  | 0, _ => none
  | n + 1, v2 =>
  if (decide (v2 < (p1.length : Int))) = true then
    Option.bind (rd p1 v2) fun x4 =>
    Option.bind (impl_GoodTrace_1 x4) fun r5 =>
    if r5 = true then
      some v2
    else
      slices_IndexFunc_Event_Event__impl_GoodTrace_1_l0 p1 n (w64 (v2 + 1))
  else
    some (-1)
theorem slices_IndexFunc_Event_Event__impl_GoodTrace_1_l0_m {E : Env} (hP : E.P = Try.prog) (hn : E.n = 19) (hx : ∀ p, p ∈ E.fx → p.1 ∈ ([] : List Nat)) (p1 : (List GEvent))  : ∀ (n : Nat) (v2 : Int) (r : Int), slices_IndexFunc_Event_Event__impl_GoodTrace_1_l0 p1 n v2 = some r → WAt E body76 (FQ (RetE Θ Try.f76.results.toList [] [] (I r) E)) [true, false, true, false] ⟨[(0, (AV.ro 5 (p1.map o50))), (1, (AV.fn 58 [])), (7, (I (p1.length : Int))), (8, (I v2))], [], [JJ]⟩ := by
  have hm : E.P.follows .mixedOrders = true := by rw [hP]; exact mixed
  have hΘ : TOK E.P Θ := by rw [hP]; exact Θ_ok
  intro n
  induction n with
  | zero => intro v2 r h; simp only [slices_IndexFunc_Event_Event__impl_GoodTrace_1_l0] at h; cases h
  | succ n ih =>
    intro v2 r h
    simp only [slices_IndexFunc_Event_Event__impl_GoodTrace_1_l0] at h
    rcases itS h with ⟨c3, h⟩ | ⟨c8, h⟩
    · obtain ⟨x4, hx4, h⟩ := bnS h
      obtain ⟨r5, hr5, h⟩ := bnS h
      rcases itS h with ⟨c6, h⟩ | ⟨c7, h⟩
      · have h := Option.some.inj h
        subst h
        exact go_ret hΘ hm hP hn (hs := [⟨1, .br true, none⟩, ⟨7, .row (o50 x4), none⟩, ⟨9, .callV [[]] (B r5), none⟩, ⟨10, .br true, none⟩]) (rh := []) (ph := .raw) (ps := [(decide (v2 < (p1.length : Int))) = true, (0 : Int) ≤ v2, (p1.map o50)[(Int.toNat v2)]? = some (o50 x4), Meets Try.prog 58 [(AV.agg ((o50 x4)))] (B r5), litA (B r5) = true, r5 = true, (I v2) = (I v2), litA (I v2) = true]) (by kernel_rfl) ⟨c3, (rd0 hx4), (rdM o50 hx4), (impl_GoodTrace_1_m hr5), rfl, c6, rfl, rfl, trivial⟩
      · exact go_to hΘ hm hx hP hn (hs := [⟨1, .br true, none⟩, ⟨7, .row (o50 x4), none⟩, ⟨9, .callV [[]] (B r5), none⟩, ⟨10, .br false, none⟩]) (π := []) (ts := [0, 1, 7, 8]) (kp := []) (ps := [(decide (v2 < (p1.length : Int))) = true, (0 : Int) ≤ v2, (p1.map o50)[(Int.toNat v2)]? = some (o50 x4), Meets Try.prog 58 [(AV.agg ((o50 x4)))] (B r5), litA (B r5) = true, r5 = false]) (by kernel_rfl) ⟨c3, (rd0 hx4), (rdM o50 hx4), (impl_GoodTrace_1_m hr5), rfl, c7, trivial⟩ (ih (w64 (v2 + 1)) _ h)
    · have h := Option.some.inj h
      subst h
      exact go_ret hΘ hm hP hn (hs := [⟨1, .br false, none⟩]) (rh := []) (ph := .raw) (ps := [(decide (v2 < (p1.length : Int))) = false, (I (-1)) = (I (-1)), litA (I (-1)) = true]) (by kernel_rfl) ⟨c8, rfl, rfl, trivial⟩
noncomputable def slices_IndexFunc_Event_Event__impl_GoodTrace_1 (p1 : (List GEvent)) : Option Int :=
  slices_IndexFunc_Event_Event__impl_GoodTrace_1_l0 p1 FU 0
theorem slices_IndexFunc_Event_Event__impl_GoodTrace_1_m {p1 : (List GEvent)} {r : Int} (h : slices_IndexFunc_Event_Event__impl_GoodTrace_1 p1 = some r) : Meets Try.prog 76 [(AV.ro 5 (p1.map o50)), (AV.fn 58 [])] (I r) := by
  refine meets_ofC Θ_ok Try.func76 rfl (c := body76) (by kernel_rfl) (Nat.le_of_ble_eq_true rfl) ?_
  intro E hP hn hx
  replace hn : E.n = 19 := hn
  have hm : E.P.follows .mixedOrders = true := by rw [hP]; exact mixed
  have hΘ : TOK E.P Θ := by rw [hP]; exact Θ_ok
  unfold slices_IndexFunc_Event_Event__impl_GoodTrace_1 at h
  show WAt E body76 (FQ (RetE Θ Try.f76.results.toList [] [] (I r) E)) [] ⟨[(0, (AV.ro 5 (p1.map o50))), (1, (AV.fn 58 []))], [], [JJ]⟩
  exact go_to hΘ hm hx hP hn (hs := [⟨2, .no, some (I (p1.length : Int))⟩]) (π := []) (ts := [0, 1, 7, 8]) (kp := []) (ps := [AV.lit (.int .i64 (((p1.map o50).length : Nat) : Int)) = (I (p1.length : Int))]) (by kernel_rfl) ⟨(lenM o50), trivial⟩ (slices_IndexFunc_Event_Event__impl_GoodTrace_1_l0_m hP hn hx p1 FU 0 _ h)
noncomputable def body57 : Code := match Try.f57.body with | some c => c | none => .skip
noncomputable def slices_ContainsFunc_Event_Event__impl_GoodTrace_1 (p1 : (List GEvent)) : Option Bool :=
  Option.bind (slices_IndexFunc_Event_Event__impl_GoodTrace_1 p1) fun r2 =>
  some (decide (r2 ≥ 0))
theorem slices_ContainsFunc_Event_Event__impl_GoodTrace_1_m {p1 : (List GEvent)} {r : Bool} (h : slices_ContainsFunc_Event_Event__impl_GoodTrace_1 p1 = some r) : Meets Try.prog 57 [(AV.ro 5 (p1.map o50)), (AV.fn 58 [])] (B r) := by
  refine meets_ofC Θ_ok Try.func57 rfl (c := body57) (by kernel_rfl) (Nat.le_of_ble_eq_true rfl) ?_
  intro E hP hn hx
  replace hn : E.n = 9 := hn
  have hm : E.P.follows .mixedOrders = true := by rw [hP]; exact mixed
  have hΘ : TOK E.P Θ := by rw [hP]; exact Θ_ok
  unfold slices_ContainsFunc_Event_Event__impl_GoodTrace_1 at h
  show WAt E body57 (FQ (RetE Θ Try.f57.results.toList [] [] (B r) E)) [] ⟨[(0, (AV.ro 5 (p1.map o50))), (1, (AV.fn 58 []))], [], [JJ]⟩
  obtain ⟨r2, hr2, h⟩ := bnS h
  have h := Option.some.inj h
  subst h
  exact go_ret hΘ hm hP hn (hs := [⟨3, .callV [] (I r2), none⟩]) (rh := []) (ph := .raw) (ps := [Meets Try.prog 76 [(AV.ro 5 (p1.map o50)), (AV.fn 58 [])] (I r2), litA (I r2) = true, (B (decide (r2 ≥ 0))) = (B (decide (r2 ≥ 0))), litA (B (decide (r2 ≥ 0))) = true]) (by kernel_rfl) ⟨(slices_IndexFunc_Event_Event__impl_GoodTrace_1_m hr2), rfl, rfl, rfl, trivial⟩
noncomputable def body35 : Code := match Try.f35.body with | some c => c | none => .skip
noncomputable def impl_GoodTrace (p1 : (List GEvent)) : Option Bool :=
  if (decide ((p1.length : Int) ≤ 200)) = true then
    Option.bind (slices_ContainsFunc_Event_Event__impl_GoodTrace_1 p1) fun r3 =>
    some (!r3)
  else
    some false
theorem impl_GoodTrace_m {p1 : (List GEvent)} {r : Bool} (h : impl_GoodTrace p1 = some r) : Meets Try.prog 35 [(AV.ro 5 (p1.map o50))] (B r) := by
  refine meets_ofC Θ_ok Try.func35 rfl (c := body35) (by kernel_rfl) (Nat.le_of_ble_eq_true rfl) ?_
  intro E hP hn hx
  replace hn : E.n = 11 := hn
  have hm : E.P.follows .mixedOrders = true := by rw [hP]; exact mixed
  have hΘ : TOK E.P Θ := by rw [hP]; exact Θ_ok
  unfold impl_GoodTrace at h
  show WAt E body35 (FQ (RetE Θ Try.f35.results.toList [] [] (B r) E)) [] ⟨[(0, (AV.ro 5 (p1.map o50)))], [], [JJ]⟩
  rcases itS h with ⟨c2, h⟩ | ⟨c4, h⟩
  · obtain ⟨r3, hr3, h⟩ := bnS h
    have h := Option.some.inj h
    subst h
    exact go_ret hΘ hm hP hn (hs := [⟨2, .no, some (I (p1.length : Int))⟩, ⟨4, .no, some (B true)⟩, ⟨6, .callV [] (B r3), none⟩]) (rh := []) (ph := .raw) (ps := [AV.lit (.int .i64 (((p1.map o50).length : Nat) : Int)) = (I (p1.length : Int)), (B (decide ((p1.length : Int) ≤ 200))) = (B true), Meets Try.prog 57 [(AV.ro 5 (p1.map o50)), (AV.fn 58 [])] (B r3), litA (B r3) = true, (B (!r3)) = (B (!r3)), litA (B (!r3)) = true]) (by kernel_rfl) ⟨(lenM o50), (litB c2), (slices_ContainsFunc_Event_Event__impl_GoodTrace_1_m hr3), rfl, rfl, rfl, trivial⟩
  · have h := Option.some.inj h
    subst h
    exact go_ret hΘ hm hP hn (hs := [⟨2, .no, some (I (p1.length : Int))⟩, ⟨4, .no, some (B false)⟩]) (rh := []) (ph := .raw) (ps := [AV.lit (.int .i64 (((p1.map o50).length : Nat) : Int)) = (I (p1.length : Int)), (B (decide ((p1.length : Int) ≤ 200))) = (B false), (B false) = (B false), litA (B false) = true]) (by kernel_rfl) ⟨(lenM o50), (litB c4), rfl, rfl, trivial⟩
noncomputable def body66 : Code := match Try.f66.body with | some c => c | none => .skip
noncomputable def impl_areCounts_1 (p1 : Int) : Option Bool :=
  Option.bind (impl_in p1 0 200) fun r2 =>
  some (!r2)
theorem impl_areCounts_1_m {p1 : Int} {r : Bool} (h : impl_areCounts_1 p1 = some r) : Meets Try.prog 66 [(I p1)] (B r) := by
  refine meets_ofC Θ_ok Try.func66 rfl (c := body66) (by kernel_rfl) (Nat.le_of_ble_eq_true rfl) ?_
  intro E hP hn hx
  replace hn : E.n = 6 := hn
  have hm : E.P.follows .mixedOrders = true := by rw [hP]; exact mixed
  have hΘ : TOK E.P Θ := by rw [hP]; exact Θ_ok
  unfold impl_areCounts_1 at h
  show WAt E body66 (FQ (RetE Θ Try.f66.results.toList [] [] (B r) E)) [] ⟨[(0, (I p1))], [], [JJ]⟩
  obtain ⟨r2, hr2, h⟩ := bnS h
  have h := Option.some.inj h
  subst h
  exact go_ret hΘ hm hP hn (hs := [⟨2, .callV [] (B r2), none⟩]) (rh := []) (ph := .raw) (ps := [Meets Try.prog 67 [(I p1), (I 0), (I 200)] (B r2), litA (B r2) = true, (B (!r2)) = (B (!r2)), litA (B (!r2)) = true]) (by kernel_rfl) ⟨(impl_in_m hr2), rfl, rfl, rfl, trivial⟩
noncomputable def body79 : Code := match Try.f79.body with | some c => c | none => .skip
noncomputable def slices_IndexFunc_int_int__impl_areCounts_1_l0  (p1 : (List Int)) : Nat → Int → Option Int
  | 0, _ => none
  | n + 1, v2 =>
  if (decide (v2 < (p1.length : Int))) = true then
    Option.bind (rd p1 v2) fun x4 =>
    Option.bind (impl_areCounts_1 x4) fun r5 =>
    if r5 = true then
      some v2
    else
      slices_IndexFunc_int_int__impl_areCounts_1_l0 p1 n (w64 (v2 + 1))
  else
    some (-1)
theorem slices_IndexFunc_int_int__impl_areCounts_1_l0_m {E : Env} (hP : E.P = Try.prog) (hn : E.n = 19) (hx : ∀ p, p ∈ E.fx → p.1 ∈ ([] : List Nat)) (p1 : (List Int))  : ∀ (n : Nat) (v2 : Int) (r : Int), slices_IndexFunc_int_int__impl_areCounts_1_l0 p1 n v2 = some r → WAt E body79 (FQ (RetE Θ Try.f79.results.toList [] [] (I r) E)) [true, false, true, false] ⟨[(0, (AV.ro 1 (p1.map o3))), (1, (AV.fn 66 [])), (7, (I (p1.length : Int))), (8, (I v2))], [], [JJ]⟩ := by
  have hm : E.P.follows .mixedOrders = true := by rw [hP]; exact mixed
  have hΘ : TOK E.P Θ := by rw [hP]; exact Θ_ok
  intro n
  induction n with
  | zero => intro v2 r h; simp only [slices_IndexFunc_int_int__impl_areCounts_1_l0] at h; cases h
  | succ n ih =>
    intro v2 r h
    simp only [slices_IndexFunc_int_int__impl_areCounts_1_l0] at h
    rcases itS h with ⟨c3, h⟩ | ⟨c8, h⟩
    · obtain ⟨x4, hx4, h⟩ := bnS h
      obtain ⟨r5, hr5, h⟩ := bnS h
      rcases itS h with ⟨c6, h⟩ | ⟨c7, h⟩
      · have h := Option.some.inj h
        subst h
        exact go_ret hΘ hm hP hn (hs := [⟨1, .br true, none⟩, ⟨7, .row (o3 x4), none⟩, ⟨9, .callV [] (B r5), none⟩, ⟨10, .br true, none⟩]) (rh := []) (ph := .raw) (ps := [(decide (v2 < (p1.length : Int))) = true, (0 : Int) ≤ v2, (p1.map o3)[(Int.toNat v2)]? = some (o3 x4), Meets Try.prog 66 [(I x4)] (B r5), litA (B r5) = true, r5 = true, (I v2) = (I v2), litA (I v2) = true]) (by kernel_rfl) ⟨c3, (rd0 hx4), (rdM o3 hx4), (impl_areCounts_1_m hr5), rfl, c6, rfl, rfl, trivial⟩
      · exact go_to hΘ hm hx hP hn (hs := [⟨1, .br true, none⟩, ⟨7, .row (o3 x4), none⟩, ⟨9, .callV [] (B r5), none⟩, ⟨10, .br false, none⟩]) (π := []) (ts := [0, 1, 7, 8]) (kp := []) (ps := [(decide (v2 < (p1.length : Int))) = true, (0 : Int) ≤ v2, (p1.map o3)[(Int.toNat v2)]? = some (o3 x4), Meets Try.prog 66 [(I x4)] (B r5), litA (B r5) = true, r5 = false]) (by kernel_rfl) ⟨c3, (rd0 hx4), (rdM o3 hx4), (impl_areCounts_1_m hr5), rfl, c7, trivial⟩ (ih (w64 (v2 + 1)) _ h)
    · have h := Option.some.inj h
      subst h
      exact go_ret hΘ hm hP hn (hs := [⟨1, .br false, none⟩]) (rh := []) (ph := .raw) (ps := [(decide (v2 < (p1.length : Int))) = false, (I (-1)) = (I (-1)), litA (I (-1)) = true]) (by kernel_rfl) ⟨c8, rfl, rfl, trivial⟩
noncomputable def slices_IndexFunc_int_int__impl_areCounts_1 (p1 : (List Int)) : Option Int :=
  slices_IndexFunc_int_int__impl_areCounts_1_l0 p1 FU 0
theorem slices_IndexFunc_int_int__impl_areCounts_1_m {p1 : (List Int)} {r : Int} (h : slices_IndexFunc_int_int__impl_areCounts_1 p1 = some r) : Meets Try.prog 79 [(AV.ro 1 (p1.map o3)), (AV.fn 66 [])] (I r) := by
  refine meets_ofC Θ_ok Try.func79 rfl (c := body79) (by kernel_rfl) (Nat.le_of_ble_eq_true rfl) ?_
  intro E hP hn hx
  replace hn : E.n = 19 := hn
  have hm : E.P.follows .mixedOrders = true := by rw [hP]; exact mixed
  have hΘ : TOK E.P Θ := by rw [hP]; exact Θ_ok
  unfold slices_IndexFunc_int_int__impl_areCounts_1 at h
  show WAt E body79 (FQ (RetE Θ Try.f79.results.toList [] [] (I r) E)) [] ⟨[(0, (AV.ro 1 (p1.map o3))), (1, (AV.fn 66 []))], [], [JJ]⟩
  exact go_to hΘ hm hx hP hn (hs := [⟨2, .no, some (I (p1.length : Int))⟩]) (π := []) (ts := [0, 1, 7, 8]) (kp := []) (ps := [AV.lit (.int .i64 (((p1.map o3).length : Nat) : Int)) = (I (p1.length : Int))]) (by kernel_rfl) ⟨(lenM o3), trivial⟩ (slices_IndexFunc_int_int__impl_areCounts_1_l0_m hP hn hx p1 FU 0 _ h)
noncomputable def body65 : Code := match Try.f65.body with | some c => c | none => .skip
noncomputable def slices_ContainsFunc_int_int__impl_areCounts_1 (p1 : (List Int)) : Option Bool :=
  Option.bind (slices_IndexFunc_int_int__impl_areCounts_1 p1) fun r2 =>
  some (decide (r2 ≥ 0))
theorem slices_ContainsFunc_int_int__impl_areCounts_1_m {p1 : (List Int)} {r : Bool} (h : slices_ContainsFunc_int_int__impl_areCounts_1 p1 = some r) : Meets Try.prog 65 [(AV.ro 1 (p1.map o3)), (AV.fn 66 [])] (B r) := by
  refine meets_ofC Θ_ok Try.func65 rfl (c := body65) (by kernel_rfl) (Nat.le_of_ble_eq_true rfl) ?_
  intro E hP hn hx
  replace hn : E.n = 9 := hn
  have hm : E.P.follows .mixedOrders = true := by rw [hP]; exact mixed
  have hΘ : TOK E.P Θ := by rw [hP]; exact Θ_ok
  unfold slices_ContainsFunc_int_int__impl_areCounts_1 at h
  show WAt E body65 (FQ (RetE Θ Try.f65.results.toList [] [] (B r) E)) [] ⟨[(0, (AV.ro 1 (p1.map o3))), (1, (AV.fn 66 []))], [], [JJ]⟩
  obtain ⟨r2, hr2, h⟩ := bnS h
  have h := Option.some.inj h
  subst h
  exact go_ret hΘ hm hP hn (hs := [⟨3, .callV [] (I r2), none⟩]) (rh := []) (ph := .raw) (ps := [Meets Try.prog 79 [(AV.ro 1 (p1.map o3)), (AV.fn 66 [])] (I r2), litA (I r2) = true, (B (decide (r2 ≥ 0))) = (B (decide (r2 ≥ 0))), litA (B (decide (r2 ≥ 0))) = true]) (by kernel_rfl) ⟨(slices_IndexFunc_int_int__impl_areCounts_1_m hr2), rfl, rfl, rfl, trivial⟩
noncomputable def body42 : Code := match Try.f42.body with | some c => c | none => .skip
noncomputable def impl_areCounts (p1 : (List Int)) : Option Bool :=
  if ((p1.length : Int) == 5) = true then
    Option.bind (slices_ContainsFunc_int_int__impl_areCounts_1 p1) fun r3 =>
    some (!r3)
  else
    some false
theorem impl_areCounts_m {p1 : (List Int)} {r : Bool} (h : impl_areCounts p1 = some r) : Meets Try.prog 42 [(AV.ro 1 (p1.map o3))] (B r) := by
  refine meets_ofC Θ_ok Try.func42 rfl (c := body42) (by kernel_rfl) (Nat.le_of_ble_eq_true rfl) ?_
  intro E hP hn hx
  replace hn : E.n = 11 := hn
  have hm : E.P.follows .mixedOrders = true := by rw [hP]; exact mixed
  have hΘ : TOK E.P Θ := by rw [hP]; exact Θ_ok
  unfold impl_areCounts at h
  show WAt E body42 (FQ (RetE Θ Try.f42.results.toList [] [] (B r) E)) [] ⟨[(0, (AV.ro 1 (p1.map o3)))], [], [JJ]⟩
  rcases itS h with ⟨c2, h⟩ | ⟨c4, h⟩
  · obtain ⟨r3, hr3, h⟩ := bnS h
    have h := Option.some.inj h
    subst h
    exact go_ret hΘ hm hP hn (hs := [⟨2, .no, some (I (p1.length : Int))⟩, ⟨4, .no, some (B true)⟩, ⟨6, .callV [] (B r3), none⟩]) (rh := []) (ph := .raw) (ps := [AV.lit (.int .i64 (((p1.map o3).length : Nat) : Int)) = (I (p1.length : Int)), (B ((p1.length : Int) == 5)) = (B true), Meets Try.prog 65 [(AV.ro 1 (p1.map o3)), (AV.fn 66 [])] (B r3), litA (B r3) = true, (B (!r3)) = (B (!r3)), litA (B (!r3)) = true]) (by kernel_rfl) ⟨(lenM o3), (litB c2), (slices_ContainsFunc_int_int__impl_areCounts_1_m hr3), rfl, rfl, rfl, trivial⟩
  · have h := Option.some.inj h
    subst h
    exact go_ret hΘ hm hP hn (hs := [⟨2, .no, some (I (p1.length : Int))⟩, ⟨4, .no, some (B false)⟩]) (rh := []) (ph := .raw) (ps := [AV.lit (.int .i64 (((p1.map o3).length : Nat) : Int)) = (I (p1.length : Int)), (B ((p1.length : Int) == 5)) = (B false), (B false) = (B false), litA (B false) = true]) (by kernel_rfl) ⟨(lenM o3), (litB c4), rfl, rfl, trivial⟩
noncomputable def body68 : Code := match Try.f68.body with | some c => c | none => .skip
noncomputable def impl_numbers_l0  (p1 : (List GEvent)) : Nat → (Vector Int 5) → (List Int) → (Vector Int 5) → Int → Option ((List Int) × (Vector Int 5))
  | 0, _, _, _, _ => none
  | n + 1, a2, a3, a4, v5 =>
  if (decide (v5 < (p1.length : Int))) = true then
    Option.bind (rd p1 v5) fun x7 =>
    Option.bind (rdv a4 x7.Thread) fun x8 =>
    Option.bind (app a3 [x8]) fun l9 =>
    Option.bind (rdv a4 x7.Thread) fun x10 =>
    Option.bind (rdv a4 x7.Thread) fun x11 =>
    impl_numbers_l0 p1 n a2 l9 (a4.setIfInBounds (Int.toNat x7.Thread) (w64 (x10 + 1))) (w64 (v5 + 1))
  else
    some (a3, a4)
theorem impl_numbers_l0_m {E : Env} (hP : E.P = Try.prog) (hn : E.n = 32) (hx : ∀ p, p ∈ E.fx → p.1 ∈ ([] : List Nat)) (p1 : (List GEvent))  : ∀ (n : Nat) (a2 : (Vector Int 5)) (a3 : (List Int)) (a4 : (Vector Int 5)) (v5 : Int) (r : ((List Int) × (Vector Int 5))), impl_numbers_l0 p1 n a2 a3 a4 v5 = some r → WAt E body68 (FQ (RetE Θ Try.f68.results.toList [] [] (AV.tup [(AV.own 3 1 (r.1.map o3)), (AV.agg (o66 r.2))]) E)) [true, true, false, true, false] ⟨[(3, (AV.ptr 1 0 0)), (4, (AV.sl 2 0 (List.length (a3.map o3)))), (5, (AV.ptr 3 0 0)), (10, (AV.ro 5 (p1.map o50))), (11, (I (p1.length : Int))), (12, (I v5))], [(1, some ⟨66, 5, [((o66 a2))]⟩), (2, some ⟨3, 1, (a3.map o3)⟩), (3, some ⟨66, 5, [((o66 a4))]⟩)], [1, 2, 3, JJ]⟩ := by
  have hm : E.P.follows .mixedOrders = true := by rw [hP]; exact mixed
  have hΘ : TOK E.P Θ := by rw [hP]; exact Θ_ok
  intro n
  induction n with
  | zero => intro a2 a3 a4 v5 r h; simp only [impl_numbers_l0] at h; cases h
  | succ n ih =>
    intro a2 a3 a4 v5 r h
    simp only [impl_numbers_l0] at h
    rcases itS h with ⟨c6, h⟩ | ⟨c12, h⟩
    · obtain ⟨x7, hx7, h⟩ := bnS h
      obtain ⟨x8, hx8, h⟩ := bnS h
      obtain ⟨l9, hl9, h⟩ := bnS h
      obtain ⟨x10, hx10, h⟩ := bnS h
      obtain ⟨x11, hx11, h⟩ := bnS h
      exact go_to hΘ hm hx hP hn (hs := [⟨1, .br true, none⟩, ⟨2, .row (o50 x7), none⟩, ⟨4, .new 1001, none⟩, ⟨10, .cel ((o66 a4)) (I x8), none⟩, ⟨11, .new 1002, none⟩, ⟨12, .app 1003 (l9.map o3), none⟩, ⟨17, .cel ((o66 a4)) (I x10), none⟩, ⟨20, .sto ((o66 a4)) [((o66 (a4.setIfInBounds (Int.toNat x7.Thread) (w64 (x10 + 1)))))], none⟩]) (π := [(1, 1), (1003, 2), (3, 3)]) (ts := [3, 4, 5, 10, 11, 12]) (kp := []) (ps := [(decide (v5 < (p1.length : Int))) = true, (0 : Int) ≤ v5, (p1.map o50)[(Int.toNat v5)]? = some (o50 x7), (0 : Int) ≤ x7.Thread, x7.Thread < ((5 : Nat) : Int), ((o66 a4))[(Int.toNat x7.Thread)]? = some (I x8), [((o66 a4))][0]? = some ((o66 a4)), (a3.map o3).take (List.length (a3.map o3)) ++ ((([x8].map o3).drop 0).take (List.length ([x8].map o3))) = (l9.map o3), ((([x8].map o3).drop 0).take (List.length ([x8].map o3))).all (fun r => r.all AV.plain) = true, (List.length (l9.map o3)) * 8 ≤ 140737488355328, (List.length (l9.map o3)) ≤ 140737488355328, (0 : Int) ≤ x7.Thread, x7.Thread < ((5 : Nat) : Int), ((o66 a4))[(Int.toNat x7.Thread)]? = some (I x10), [((o66 a4))][0]? = some ((o66 a4)), (0 : Int) ≤ x7.Thread, x7.Thread < ((5 : Nat) : Int), [((o66 a4))][0]? = some ((o66 a4)), [((o66 a4))].set 0 (wr ((o66 a4)) (Int.toNat x7.Thread) [(I (w64 (x10 + 1)))]) = [((o66 (a4.setIfInBounds (Int.toNat x7.Thread) (w64 (x10 + 1)))))], [(I (w64 (x10 + 1)))].length = 1, (Int.toNat x7.Thread) + [(I (w64 (x10 + 1)))].length ≤ ((o66 a4)).length, RenOK [(1, 1), (1003, 2), (3, 3)] [((o66 a2))], RenOK [(1, 1), (1003, 2), (3, 3)] (l9.map o3), RenOK [(1, 1), (1003, 2), (3, 3)] [((o66 (a4.setIfInBounds (Int.toNat x7.Thread) (w64 (x10 + 1)))))]]) (by kernel_rfl) ⟨c6, (rd0 hx7), (rdM o50 hx7), (rv0 hx8), (rvL hx8), (rvM k3 hx8), rfl, (appTD o3 hl9), (plD p3), (appB o3 hl9 (by decide)), (appC o3 hl9), (rv0 hx10), (rvL hx10), (rvM k3 hx10), rfl, (rv0 hx11), (rvL hx11), rfl, (vecWr k3 _ (rvLt hx11)), rfl, (vecLe k3 hx11), (rok (treeB t66 a2)), (rok (treeM t3)), (rok (treeB t66 (a4.setIfInBounds (Int.toNat x7.Thread) (w64 (x10 + 1))))), trivial⟩ (ih a2 l9 (a4.setIfInBounds (Int.toNat x7.Thread) (w64 (x10 + 1))) (w64 (v5 + 1)) _ h)
    · have h := Option.some.inj h
      subst h
      exact go_ret hΘ hm hP hn (hs := [⟨1, .br false, none⟩, ⟨3, .agg ((o66 a4)) ((o66 a4)), none⟩, ⟨5, .stoS ((o66 a2)) [((o66 a4))], none⟩]) (rh := [.no, .agg ((o66 a4)) ((o66 a4))]) (ph := .agg [.own, .raw]) (ps := [(decide (v5 < (p1.length : Int))) = false, 0 + 5 ≤ ((o66 a4)).length, (((o66 a4)).drop 0).take 5 = ((o66 a4)), ((o66 a4)).all AV.plain = true, [((o66 a4))][0]? = some ((o66 a4)), [((o66 a2))][0]? = some ((o66 a2)), [((o66 a2))].set 0 (wr ((o66 a2)) 0 ((o66 a4))) = [((o66 a4))], ((o66 a4)).length = 5, 0 + ((o66 a4)).length ≤ ((o66 a2)).length, ((o66 a4)).all okLit = true, 0 + 5 ≤ ((o66 a4)).length, (((o66 a4)).drop 0).take 5 = ((o66 a4)), ((o66 a4)).all AV.plain = true, [((o66 a4))][0]? = some ((o66 a4)), treeLL ((a3.map o3).take (List.length (a3.map o3))) = true, (a3.map o3).take (List.length (a3.map o3)) = (a3.map o3), noRoLL (a3.map o3) = true, (AV.agg ((o66 a4))) = (AV.agg ((o66 a4))), litA (AV.agg ((o66 a4))) = true]) (by kernel_rfl) ⟨c12, (vecLe0 k3), (vecAgg k3), (p66 _), rfl, rfl, (vecSt k3 k3), (vecLen k3), (vecLL k3 k3), (vecAll k3 (fun _ => rfl)), (vecLe0 k3), (vecAgg k3), (p66 _), rfl, (treeT t3), takeM, (noRoM n3), rfl, (vecLit k3 (fun _ => rfl)), trivial⟩
noncomputable def impl_numbers (p1 : (List GEvent)) : Option ((List Int) × (Vector Int 5)) :=
  impl_numbers_l0 p1 FU (Vector.replicate 5 0) [] (Vector.replicate 5 0) 0
theorem impl_numbers_m {p1 : (List GEvent)} {r : ((List Int) × (Vector Int 5))} (h : impl_numbers p1 = some r) : Meets Try.prog 68 [(AV.ro 5 (p1.map o50))] (AV.tup [(AV.own 3 1 (r.1.map o3)), (AV.agg (o66 r.2))]) := by
  refine meets_ofC Θ_ok Try.func68 rfl (c := body68) (by kernel_rfl) (Nat.le_of_ble_eq_true rfl) ?_
  intro E hP hn hx
  replace hn : E.n = 32 := hn
  have hm : E.P.follows .mixedOrders = true := by rw [hP]; exact mixed
  have hΘ : TOK E.P Θ := by rw [hP]; exact Θ_ok
  unfold impl_numbers at h
  show WAt E body68 (FQ (RetE Θ Try.f68.results.toList [] [] (AV.tup [(AV.own 3 1 (r.1.map o3)), (AV.agg (o66 r.2))]) E)) [] ⟨[(0, (AV.ro 5 (p1.map o50)))], [], [JJ]⟩
  exact go_to hΘ hm hx hP hn (hs := [⟨1, .nw 1001 [((o66 (Vector.replicate 5 0)))], none⟩, ⟨2, .new 1002, none⟩, ⟨3, .no, some (AV.agg ((o66 (Vector.replicate 5 0))))⟩, ⟨4, .nw 1003 [((o66 (Vector.replicate 5 0)))], none⟩, ⟨6, .stoS ((o66 (Vector.replicate 5 0))) [((o66 (Vector.replicate 5 0)))], none⟩, ⟨8, .no, some (I (p1.length : Int))⟩]) (π := [(1001, 1), (1002, 2), (1003, 3)]) (ts := [3, 4, 5, 10, 11, 12]) (kp := []) (ps := [[litL [.int .i64 0, .int .i64 0, .int .i64 0, .int .i64 0, .int .i64 0]] = [((o66 (Vector.replicate 5 0)))], AV.agg (litL [.int .i64 0, .int .i64 0, .int .i64 0, .int .i64 0, .int .i64 0]) = (AV.agg ((o66 (Vector.replicate 5 0)))), [litL [.int .i64 0, .int .i64 0, .int .i64 0, .int .i64 0, .int .i64 0]] = [((o66 (Vector.replicate 5 0)))], [((o66 (Vector.replicate 5 0)))][0]? = some ((o66 (Vector.replicate 5 0))), [((o66 (Vector.replicate 5 0)))].set 0 (wr ((o66 (Vector.replicate 5 0))) 0 ((o66 (Vector.replicate 5 0)))) = [((o66 (Vector.replicate 5 0)))], ((o66 (Vector.replicate 5 0))).length = 5, 0 + ((o66 (Vector.replicate 5 0))).length ≤ ((o66 (Vector.replicate 5 0))).length, ((o66 (Vector.replicate 5 0))).all okLit = true, AV.lit (.int .i64 (((p1.map o50).length : Nat) : Int)) = (I (p1.length : Int)), RenOK [(1001, 1), (1002, 2), (1003, 3)] [((o66 (Vector.replicate 5 0)))], RenOK [(1001, 1), (1002, 2), (1003, 3)] ([].map o3), RenOK [(1001, 1), (1002, 2), (1003, 3)] [((o66 (Vector.replicate 5 0)))]]) (by kernel_rfl) ⟨rfl, rfl, rfl, rfl, (vecSt k3 k3), (vecLen k3), (vecLL k3 k3), (vecAll k3 (fun _ => rfl)), (lenM o50), (rok (treeB t66 (Vector.replicate 5 0))), (rok (treeM t3)), (rok (treeB t66 (Vector.replicate 5 0))), trivial⟩ (impl_numbers_l0_m hP hn hx p1 FU (Vector.replicate 5 0) [] (Vector.replicate 5 0) 0 _ h)
noncomputable def body43 : Code := match Try.f43.body with | some c => c | none => .skip
noncomputable def impl_areOf_l0  (p2 : (List Int)) (r3 : ((List Int) × (Vector Int 5))) : Nat → Int → Option Bool
  | 0, _ => none
  | n + 1, v4 =>
  if (decide (v4 < (p2.length : Int))) = true then
    Option.bind (rd p2 v4) fun x6 =>
    Option.bind (rdv r3.2 v4) fun x7 =>
    if (decide (x6 > x7)) = true then
      some false
    else
      impl_areOf_l0 p2 r3 n (w64 (v4 + 1))
  else
    some true
theorem impl_areOf_l0_m {E : Env} (hP : E.P = Try.prog) (hn : E.n = 27) (hx : ∀ p, p ∈ E.fx → p.1 ∈ ([] : List Nat)) (p2 : (List Int)) (r3 : ((List Int) × (Vector Int 5)))  : ∀ (n : Nat) (v4 : Int) (r : Bool), impl_areOf_l0 p2 r3 n v4 = some r → WAt E body43 (FQ (RetE Θ Try.f43.results.toList [] [] (B r) E)) [true, true, false, true, false] ⟨[(6, (AV.ptr 1 0 0)), (14, (AV.ro 1 (p2.map o3))), (15, (I (p2.length : Int))), (16, (I v4))], [(1, some ⟨66, 5, [((o66 r3.2))]⟩)], [1, JJ]⟩ := by
  have hm : E.P.follows .mixedOrders = true := by rw [hP]; exact mixed
  have hΘ : TOK E.P Θ := by rw [hP]; exact Θ_ok
  intro n
  induction n with
  | zero => intro v4 r h; simp only [impl_areOf_l0] at h; cases h
  | succ n ih =>
    intro v4 r h
    simp only [impl_areOf_l0] at h
    rcases itS h with ⟨c5, h⟩ | ⟨c10, h⟩
    · obtain ⟨x6, hx6, h⟩ := bnS h
      obtain ⟨x7, hx7, h⟩ := bnS h
      rcases itS h with ⟨c8, h⟩ | ⟨c9, h⟩
      · have h := Option.some.inj h
        subst h
        exact go_ret hΘ hm hP hn (hs := [⟨1, .br true, none⟩, ⟨3, .row (o3 x6), none⟩, ⟨10, .cel ((o66 r3.2)) (I x7), none⟩, ⟨12, .br true, none⟩]) (rh := []) (ph := .raw) (ps := [(decide (v4 < (p2.length : Int))) = true, (0 : Int) ≤ v4, (p2.map o3)[(Int.toNat v4)]? = some (o3 x6), (0 : Int) ≤ v4, v4 < ((5 : Nat) : Int), ((o66 r3.2))[(Int.toNat v4)]? = some (I x7), [((o66 r3.2))][0]? = some ((o66 r3.2)), (decide (x6 > x7)) = true, (B false) = (B false), litA (B false) = true]) (by kernel_rfl) ⟨c5, (rd0 hx6), (rdM o3 hx6), (rv0 hx7), (rvL hx7), (rvM k3 hx7), rfl, c8, rfl, rfl, trivial⟩
      · exact go_to hΘ hm hx hP hn (hs := [⟨1, .br true, none⟩, ⟨3, .row (o3 x6), none⟩, ⟨10, .cel ((o66 r3.2)) (I x7), none⟩, ⟨12, .br false, none⟩]) (π := [(1, 1)]) (ts := [6, 14, 15, 16]) (kp := []) (ps := [(decide (v4 < (p2.length : Int))) = true, (0 : Int) ≤ v4, (p2.map o3)[(Int.toNat v4)]? = some (o3 x6), (0 : Int) ≤ v4, v4 < ((5 : Nat) : Int), ((o66 r3.2))[(Int.toNat v4)]? = some (I x7), [((o66 r3.2))][0]? = some ((o66 r3.2)), (decide (x6 > x7)) = false, RenOK [(1, 1)] [((o66 r3.2))]]) (by kernel_rfl) ⟨c5, (rd0 hx6), (rdM o3 hx6), (rv0 hx7), (rvL hx7), (rvM k3 hx7), rfl, c9, (rok (treeB t66 r3.2)), trivial⟩ (ih (w64 (v4 + 1)) _ h)
    · have h := Option.some.inj h
      subst h
      exact go_ret hΘ hm hP hn (hs := [⟨1, .br false, none⟩]) (rh := []) (ph := .raw) (ps := [(decide (v4 < (p2.length : Int))) = false, (B true) = (B true), litA (B true) = true]) (by kernel_rfl) ⟨c10, rfl, rfl, trivial⟩
noncomputable def impl_areOf (p1 : (List GEvent)) (p2 : (List Int)) : Option Bool :=
  Option.bind (impl_numbers p1) fun r3 =>
  impl_areOf_l0 p2 r3 FU 0
theorem impl_areOf_m {p1 : (List GEvent)} {p2 : (List Int)} {r : Bool} (h : impl_areOf p1 p2 = some r) : Meets Try.prog 43 [(AV.ro 5 (p1.map o50)), (AV.ro 1 (p2.map o3))] (B r) := by
  refine meets_ofC Θ_ok Try.func43 rfl (c := body43) (by kernel_rfl) (Nat.le_of_ble_eq_true rfl) ?_
  intro E hP hn hx
  replace hn : E.n = 27 := hn
  have hm : E.P.follows .mixedOrders = true := by rw [hP]; exact mixed
  have hΘ : TOK E.P Θ := by rw [hP]; exact Θ_ok
  unfold impl_areOf at h
  show WAt E body43 (FQ (RetE Θ Try.f43.results.toList [] [] (B r) E)) [] ⟨[(0, (AV.ro 5 (p1.map o50))), (1, (AV.ro 1 (p2.map o3)))], [], [JJ]⟩
  obtain ⟨r3, hr3, h⟩ := bnS h
  exact go_to hΘ hm hx hP hn (hs := [⟨2, .callR [] (AV.tup [(AV.own 3 1 (r3.1.map o3)), (AV.agg (o66 r3.2))]) [1001] (AV.tup [(AV.sl 1001 0 (List.length (r3.1.map o3))), (AV.agg ((o66 r3.2)))]) [(1001, ⟨3, 1, (r3.1.map o3)⟩)], none⟩, ⟨6, .nw 1002 [((o66 (Vector.replicate 5 0)))], none⟩, ⟨8, .stoS ((o66 (Vector.replicate 5 0))) [((o66 r3.2))], none⟩, ⟨10, .no, some (I (p2.length : Int))⟩]) (π := [(1002, 1)]) (ts := [6, 14, 15, 16]) (kp := []) (ps := [Meets Try.prog 68 [(AV.ro 5 (p1.map o50))] (AV.tup [(AV.own 3 1 (r3.1.map o3)), (AV.agg (o66 r3.2))]), noRo (AV.tup [(AV.own 3 1 (r3.1.map o3)), (AV.agg (o66 r3.2))]) = true, (rtf (AV.tup [(AV.own 3 1 (r3.1.map o3)), (AV.agg (o66 r3.2))]) [1001]).1 = (AV.tup [(AV.sl 1001 0 (List.length (r3.1.map o3))), (AV.agg ((o66 r3.2)))]), (rtf (AV.tup [(AV.own 3 1 (r3.1.map o3)), (AV.agg (o66 r3.2))]) [1001]).2.1 = [(1001, ⟨3, 1, (r3.1.map o3)⟩)], [litL [.int .i64 0, .int .i64 0, .int .i64 0, .int .i64 0, .int .i64 0]] = [((o66 (Vector.replicate 5 0)))], [((o66 (Vector.replicate 5 0)))][0]? = some ((o66 (Vector.replicate 5 0))), [((o66 (Vector.replicate 5 0)))].set 0 (wr ((o66 (Vector.replicate 5 0))) 0 ((o66 r3.2))) = [((o66 r3.2))], ((o66 r3.2)).length = 5, 0 + ((o66 r3.2)).length ≤ ((o66 (Vector.replicate 5 0))).length, ((o66 r3.2)).all okLit = true, AV.lit (.int .i64 (((p2.map o3).length : Nat) : Int)) = (I (p2.length : Int)), RenOK [(1002, 1)] [((o66 r3.2))]]) (by kernel_rfl) ⟨(impl_numbers_m hr3), (by simp only [noRo, noRoL, noRoM n3, n66, Bool.and_self]), (by simp [rtf, rtfL, o66, rtfLV k3 (fun _ => rfl)]), (by simp [rtf, rtfL, o66, rtfLV k3 (fun _ => rfl)]), rfl, rfl, (vecSt k3 k3), (vecLen k3), (vecLL k3 k3), (vecAll k3 (fun _ => rfl)), (lenM o3), (rok (treeB t66 r3.2)), trivial⟩ (impl_areOf_l0_m hP hn hx p2 r3 FU 0 _ h)
noncomputable def body82 : Code := match Try.f82.body with | some c => c | none => .skip
noncomputable def impl_Event_gives (p1 : GEvent) : Option Int :=
  if (p1.Kind == 5) = true then
    some p1.Obj
  else
    if (p1.Kind == 8) = true then
      some p1.Lock
    else
      some (-1)
theorem impl_Event_gives_m {p1 : GEvent} {r : Int} (h : impl_Event_gives p1 = some r) : Meets Try.prog 82 [(AV.agg ((o50 p1)))] (I r) := by
  refine meets_ofC Θ_ok Try.func82 rfl (c := body82) (by kernel_rfl) (Nat.le_of_ble_eq_true rfl) ?_
  intro E hP hn hx
  replace hn : E.n = 13 := hn
  have hm : E.P.follows .mixedOrders = true := by rw [hP]; exact mixed
  have hΘ : TOK E.P Θ := by rw [hP]; exact Θ_ok
  unfold impl_Event_gives at h
  show WAt E body82 (FQ (RetE Θ Try.f82.results.toList [] [] (I r) E)) [] ⟨[(0, (AV.agg ((o50 p1))))], [], [JJ]⟩
  rcases itS h with ⟨c2, h⟩ | ⟨c3, h⟩
  · have h := Option.some.inj h
    subst h
    exact go_ret hΘ hm hP hn (hs := [⟨0, .new 1001, none⟩, ⟨6, .br true, none⟩]) (rh := []) (ph := .raw) (ps := [(p1.Kind == 5) = true, (I p1.Obj) = (I p1.Obj), litA (I p1.Obj) = true]) (by kernel_rfl) ⟨c2, rfl, rfl, trivial⟩
  · rcases itS h with ⟨c4, h⟩ | ⟨c5, h⟩
    · have h := Option.some.inj h
      subst h
      exact go_ret hΘ hm hP hn (hs := [⟨0, .new 1001, none⟩, ⟨6, .br false, none⟩, ⟨9, .br true, none⟩]) (rh := []) (ph := .raw) (ps := [(p1.Kind == 5) = false, (p1.Kind == 8) = true, (I p1.Lock) = (I p1.Lock), litA (I p1.Lock) = true]) (by kernel_rfl) ⟨c3, c4, rfl, rfl, trivial⟩
    · have h := Option.some.inj h
      subst h
      exact go_ret hΘ hm hP hn (hs := [⟨0, .new 1001, none⟩, ⟨6, .br false, none⟩, ⟨9, .br false, none⟩]) (rh := []) (ph := .raw) (ps := [(p1.Kind == 5) = false, (p1.Kind == 8) = false, (I (-1)) = (I (-1)), litA (I (-1)) = true]) (by kernel_rfl) ⟨c3, c5, rfl, rfl, trivial⟩
noncomputable def body83 : Code := match Try.f83.body with | some c => c | none => .skip
noncomputable def impl_Event_takes (p1 : GEvent) : Option Int :=
  if (p1.Kind == 4) = true then
    some p1.Obj
  else
    if (p1.Kind == 9) = true then
      some p1.Lock
    else
      some (-1)
theorem impl_Event_takes_m {p1 : GEvent} {r : Int} (h : impl_Event_takes p1 = some r) : Meets Try.prog 83 [(AV.agg ((o50 p1)))] (I r) := by
  refine meets_ofC Θ_ok Try.func83 rfl (c := body83) (by kernel_rfl) (Nat.le_of_ble_eq_true rfl) ?_
  intro E hP hn hx
  replace hn : E.n = 13 := hn
  have hm : E.P.follows .mixedOrders = true := by rw [hP]; exact mixed
  have hΘ : TOK E.P Θ := by rw [hP]; exact Θ_ok
  unfold impl_Event_takes at h
  show WAt E body83 (FQ (RetE Θ Try.f83.results.toList [] [] (I r) E)) [] ⟨[(0, (AV.agg ((o50 p1))))], [], [JJ]⟩
  rcases itS h with ⟨c2, h⟩ | ⟨c3, h⟩
  · have h := Option.some.inj h
    subst h
    exact go_ret hΘ hm hP hn (hs := [⟨0, .new 1001, none⟩, ⟨6, .br true, none⟩]) (rh := []) (ph := .raw) (ps := [(p1.Kind == 4) = true, (I p1.Obj) = (I p1.Obj), litA (I p1.Obj) = true]) (by kernel_rfl) ⟨c2, rfl, rfl, trivial⟩
  · rcases itS h with ⟨c4, h⟩ | ⟨c5, h⟩
    · have h := Option.some.inj h
      subst h
      exact go_ret hΘ hm hP hn (hs := [⟨0, .new 1001, none⟩, ⟨6, .br false, none⟩, ⟨9, .br true, none⟩]) (rh := []) (ph := .raw) (ps := [(p1.Kind == 4) = false, (p1.Kind == 9) = true, (I p1.Lock) = (I p1.Lock), litA (I p1.Lock) = true]) (by kernel_rfl) ⟨c3, c4, rfl, rfl, trivial⟩
    · have h := Option.some.inj h
      subst h
      exact go_ret hΘ hm hP hn (hs := [⟨0, .new 1001, none⟩, ⟨6, .br false, none⟩, ⟨9, .br false, none⟩]) (rh := []) (ph := .raw) (ps := [(p1.Kind == 4) = false, (p1.Kind == 9) = false, (I (-1)) = (I (-1)), litA (I (-1)) = true]) (by kernel_rfl) ⟨c3, c5, rfl, rfl, trivial⟩
noncomputable def body78 : Code := match Try.f78.body with | some c => c | none => .skip
noncomputable def impl_Event_lockOf (p1 : GEvent) : Option Int :=
  Option.bind (impl_Event_gives p1) fun r2 =>
  Option.bind (impl_Event_takes p1) fun r3 =>
  some (imax r2 r3)
theorem impl_Event_lockOf_m {p1 : GEvent} {r : Int} (h : impl_Event_lockOf p1 = some r) : Meets Try.prog 78 [(AV.agg ((o50 p1)))] (I r) := by
  refine meets_ofC Θ_ok Try.func78 rfl (c := body78) (by kernel_rfl) (Nat.le_of_ble_eq_true rfl) ?_
  intro E hP hn hx
  replace hn : E.n = 8 := hn
  have hm : E.P.follows .mixedOrders = true := by rw [hP]; exact mixed
  have hΘ : TOK E.P Θ := by rw [hP]; exact Θ_ok
  unfold impl_Event_lockOf at h
  show WAt E body78 (FQ (RetE Θ Try.f78.results.toList [] [] (I r) E)) [] ⟨[(0, (AV.agg ((o50 p1))))], [], [JJ]⟩
  obtain ⟨r2, hr2, h⟩ := bnS h
  obtain ⟨r3, hr3, h⟩ := bnS h
  have h := Option.some.inj h
  subst h
  exact go_ret hΘ hm hP hn (hs := [⟨0, .new 1001, none⟩, ⟨3, .callV [[]] (I r2), none⟩, ⟨5, .callV [[]] (I r3), none⟩]) (rh := []) (ph := .raw) (ps := [Meets Try.prog 82 [(AV.agg ((o50 p1)))] (I r2), litA (I r2) = true, Meets Try.prog 83 [(AV.agg ((o50 p1)))] (I r3), litA (I r3) = true, (I (imax r2 r3)) = (I (imax r2 r3)), litA (I (imax r2 r3)) = true]) (by kernel_rfl) ⟨(impl_Event_gives_m hr2), rfl, (impl_Event_takes_m hr3), rfl, rfl, rfl, trivial⟩
noncomputable def body85 : Code := match Try.f85.body with | some c => c | none => .skip
noncomputable def impl_Event_isCond (p1 : GEvent) : Option Bool :=
  if (p1.Kind == 8) = true then
    some true
  else
    if (p1.Kind == 9) = true then
      some true
    else
      some (p1.Kind == 10)
theorem impl_Event_isCond_m {p1 : GEvent} {r : Bool} (h : impl_Event_isCond p1 = some r) : Meets Try.prog 85 [(AV.agg ((o50 p1)))] (B r) := by
  refine meets_ofC Θ_ok Try.func85 rfl (c := body85) (by kernel_rfl) (Nat.le_of_ble_eq_true rfl) ?_
  intro E hP hn hx
  replace hn : E.n = 16 := hn
  have hm : E.P.follows .mixedOrders = true := by rw [hP]; exact mixed
  have hΘ : TOK E.P Θ := by rw [hP]; exact Θ_ok
  unfold impl_Event_isCond at h
  show WAt E body85 (FQ (RetE Θ Try.f85.results.toList [] [] (B r) E)) [] ⟨[(0, (AV.agg ((o50 p1))))], [], [JJ]⟩
  rcases itS h with ⟨c2, h⟩ | ⟨c3, h⟩
  · have h := Option.some.inj h
    subst h
    exact go_ret hΘ hm hP hn (hs := [⟨0, .new 1001, none⟩, ⟨5, .no, some (B true)⟩]) (rh := []) (ph := .raw) (ps := [(B (p1.Kind == 8)) = (B true), (B true) = (B true), litA (B true) = true]) (by kernel_rfl) ⟨(litB c2), rfl, rfl, trivial⟩
  · rcases itS h with ⟨c4, h⟩ | ⟨c5, h⟩
    · have h := Option.some.inj h
      subst h
      exact go_ret hΘ hm hP hn (hs := [⟨0, .new 1001, none⟩, ⟨5, .no, some (B false)⟩, ⟨10, .no, some (B true)⟩]) (rh := []) (ph := .raw) (ps := [(B (p1.Kind == 8)) = (B false), (B (p1.Kind == 9)) = (B true), (B true) = (B true), litA (B true) = true]) (by kernel_rfl) ⟨(litB c3), (litB c4), rfl, rfl, trivial⟩
    · have h := Option.some.inj h
      subst h
      exact go_ret hΘ hm hP hn (hs := [⟨0, .new 1001, none⟩, ⟨5, .no, some (B false)⟩, ⟨10, .no, some (B false)⟩]) (rh := []) (ph := .raw) (ps := [(B (p1.Kind == 8)) = (B false), (B (p1.Kind == 9)) = (B false), (B (p1.Kind == 10)) = (B (p1.Kind == 10)), litA (B (p1.Kind == 10)) = true]) (by kernel_rfl) ⟨(litB c3), (litB c5), rfl, rfl, trivial⟩
noncomputable def body49 : Code := match Try.f49.body with | some c => c | none => .skip
noncomputable def impl_Event_touches (p1 : GEvent) : Option Bool :=
  if (p1.Kind == 2) = true then
    some true
  else
    some (p1.Kind == 3)
theorem impl_Event_touches_m {p1 : GEvent} {r : Bool} (h : impl_Event_touches p1 = some r) : Meets Try.prog 49 [(AV.agg ((o50 p1)))] (B r) := by
  refine meets_ofC Θ_ok Try.func49 rfl (c := body49) (by kernel_rfl) (Nat.le_of_ble_eq_true rfl) ?_
  intro E hP hn hx
  replace hn : E.n = 11 := hn
  have hm : E.P.follows .mixedOrders = true := by rw [hP]; exact mixed
  have hΘ : TOK E.P Θ := by rw [hP]; exact Θ_ok
  unfold impl_Event_touches at h
  show WAt E body49 (FQ (RetE Θ Try.f49.results.toList [] [] (B r) E)) [] ⟨[(0, (AV.agg ((o50 p1))))], [], [JJ]⟩
  rcases itS h with ⟨c2, h⟩ | ⟨c3, h⟩
  · have h := Option.some.inj h
    subst h
    exact go_ret hΘ hm hP hn (hs := [⟨0, .new 1001, none⟩, ⟨5, .no, some (B true)⟩]) (rh := []) (ph := .raw) (ps := [(B (p1.Kind == 2)) = (B true), (B true) = (B true), litA (B true) = true]) (by kernel_rfl) ⟨(litB c2), rfl, rfl, trivial⟩
  · have h := Option.some.inj h
    subst h
    exact go_ret hΘ hm hP hn (hs := [⟨0, .new 1001, none⟩, ⟨5, .no, some (B false)⟩]) (rh := []) (ph := .raw) (ps := [(B (p1.Kind == 2)) = (B false), (B (p1.Kind == 3)) = (B (p1.Kind == 3)), litA (B (p1.Kind == 3)) = true]) (by kernel_rfl) ⟨(litB c3), rfl, rfl, trivial⟩
noncomputable def body77 : Code := match Try.f77.body with | some c => c | none => .skip
noncomputable def impl_binds (p1 : GEvent) (p2 : GEvent) : Option Bool :=
  if (p1.Kind == 3) = true then
    Option.bind (impl_Event_touches p2) fun r4 =>
    if r4 = true then
      some (p1.Obj == p2.Obj)
    else
      some false
  else
    if (p1.Kind == 6) = true then
      if (p2.Kind == 6) = true then
        some true
      else
        some (p2.Thread == p1.Obj)
    else
      if (p1.Kind == 7) = true then
        if (p2.Kind == 11) = true then
          some (p2.Thread == p1.Obj)
        else
          some false
      else
        if (p1.Kind == 10) = true then
          if (p2.Thread == p1.Lock) = true then
            some true
          else
            Option.bind (impl_Event_isCond p2) fun r19 =>
            if r19 = true then
              some (p1.Obj == p2.Obj)
            else
              some false
        else
          if (p1.Kind == 8) = true then
            Option.bind (impl_Event_isCond p2) fun r24 =>
            if r24 = true then
              some (p1.Obj == p2.Obj)
            else
              some false
          else
            if (p1.Kind == 12) = true then
              some true
            else
              some false
theorem impl_binds_m {p1 : GEvent} {p2 : GEvent} {r : Bool} (h : impl_binds p1 p2 = some r) : Meets Try.prog 77 [(AV.agg ((o50 p1))), (AV.agg ((o50 p2)))] (B r) := by
  refine meets_ofC Θ_ok Try.func77 rfl (c := body77) (by kernel_rfl) (Nat.le_of_ble_eq_true rfl) ?_
  intro E hP hn hx
  replace hn : E.n = 73 := hn
  have hm : E.P.follows .mixedOrders = true := by rw [hP]; exact mixed
  have hΘ : TOK E.P Θ := by rw [hP]; exact Θ_ok
  unfold impl_binds at h
  show WAt E body77 (FQ (RetE Θ Try.f77.results.toList [] [] (B r) E)) [] ⟨[(0, (AV.agg ((o50 p1)))), (1, (AV.agg ((o50 p2))))], [], [JJ]⟩
  rcases itS h with ⟨c3, h⟩ | ⟨c7, h⟩
  · obtain ⟨r4, hr4, h⟩ := bnS h
    rcases itS h with ⟨c5, h⟩ | ⟨c6, h⟩
    · have h := Option.some.inj h
      subst h
      exact go_ret hΘ hm hP hn (hs := [⟨0, .new 1001, none⟩, ⟨1, .new 1002, none⟩, ⟨7, .br true, none⟩, ⟨9, .callV [[]] (B r4), none⟩, ⟨10, .no, some (B true)⟩]) (rh := []) (ph := .raw) (ps := [(p1.Kind == 3) = true, Meets Try.prog 49 [(AV.agg ((o50 p2)))] (B r4), litA (B r4) = true, (B r4) = (B true), (B (p1.Obj == p2.Obj)) = (B (p1.Obj == p2.Obj)), litA (B (p1.Obj == p2.Obj)) = true]) (by kernel_rfl) ⟨c3, (impl_Event_touches_m hr4), rfl, (litB c5), rfl, rfl, trivial⟩
    · have h := Option.some.inj h
      subst h
      exact go_ret hΘ hm hP hn (hs := [⟨0, .new 1001, none⟩, ⟨1, .new 1002, none⟩, ⟨7, .br true, none⟩, ⟨9, .callV [[]] (B r4), none⟩, ⟨10, .no, some (B false)⟩]) (rh := []) (ph := .raw) (ps := [(p1.Kind == 3) = true, Meets Try.prog 49 [(AV.agg ((o50 p2)))] (B r4), litA (B r4) = true, (B r4) = (B false), (B false) = (B false), litA (B false) = true]) (by kernel_rfl) ⟨c3, (impl_Event_touches_m hr4), rfl, (litB c6), rfl, rfl, trivial⟩
  · rcases itS h with ⟨c8, h⟩ | ⟨c11, h⟩
    · rcases itS h with ⟨c9, h⟩ | ⟨c10, h⟩
      · have h := Option.some.inj h
        subst h
        exact go_ret hΘ hm hP hn (hs := [⟨0, .new 1001, none⟩, ⟨1, .new 1002, none⟩, ⟨7, .br false, none⟩, ⟨10, .br true, none⟩, ⟨14, .no, some (B true)⟩]) (rh := []) (ph := .raw) (ps := [(p1.Kind == 3) = false, (p1.Kind == 6) = true, (B (p2.Kind == 6)) = (B true), (B true) = (B true), litA (B true) = true]) (by kernel_rfl) ⟨c7, c8, (litB c9), rfl, rfl, trivial⟩
      · have h := Option.some.inj h
        subst h
        exact go_ret hΘ hm hP hn (hs := [⟨0, .new 1001, none⟩, ⟨1, .new 1002, none⟩, ⟨7, .br false, none⟩, ⟨10, .br true, none⟩, ⟨14, .no, some (B false)⟩]) (rh := []) (ph := .raw) (ps := [(p1.Kind == 3) = false, (p1.Kind == 6) = true, (B (p2.Kind == 6)) = (B false), (B (p2.Thread == p1.Obj)) = (B (p2.Thread == p1.Obj)), litA (B (p2.Thread == p1.Obj)) = true]) (by kernel_rfl) ⟨c7, c8, (litB c10), rfl, rfl, trivial⟩
    · rcases itS h with ⟨c12, h⟩ | ⟨c15, h⟩
      · rcases itS h with ⟨c13, h⟩ | ⟨c14, h⟩
        · have h := Option.some.inj h
          subst h
          exact go_ret hΘ hm hP hn (hs := [⟨0, .new 1001, none⟩, ⟨1, .new 1002, none⟩, ⟨7, .br false, none⟩, ⟨10, .br false, none⟩, ⟨13, .br true, none⟩, ⟨17, .no, some (B true)⟩]) (rh := []) (ph := .raw) (ps := [(p1.Kind == 3) = false, (p1.Kind == 6) = false, (p1.Kind == 7) = true, (B (p2.Kind == 11)) = (B true), (B (p2.Thread == p1.Obj)) = (B (p2.Thread == p1.Obj)), litA (B (p2.Thread == p1.Obj)) = true]) (by kernel_rfl) ⟨c7, c11, c12, (litB c13), rfl, rfl, trivial⟩
        · have h := Option.some.inj h
          subst h
          exact go_ret hΘ hm hP hn (hs := [⟨0, .new 1001, none⟩, ⟨1, .new 1002, none⟩, ⟨7, .br false, none⟩, ⟨10, .br false, none⟩, ⟨13, .br true, none⟩, ⟨17, .no, some (B false)⟩]) (rh := []) (ph := .raw) (ps := [(p1.Kind == 3) = false, (p1.Kind == 6) = false, (p1.Kind == 7) = true, (B (p2.Kind == 11)) = (B false), (B false) = (B false), litA (B false) = true]) (by kernel_rfl) ⟨c7, c11, c12, (litB c14), rfl, rfl, trivial⟩
      · rcases itS h with ⟨c16, h⟩ | ⟨c22, h⟩
        · rcases itS h with ⟨c17, h⟩ | ⟨c18, h⟩
          · have h := Option.some.inj h
            subst h
            exact go_ret hΘ hm hP hn (hs := [⟨0, .new 1001, none⟩, ⟨1, .new 1002, none⟩, ⟨7, .br false, none⟩, ⟨10, .br false, none⟩, ⟨13, .br false, none⟩, ⟨16, .br true, none⟩, ⟨22, .no, some (B true)⟩]) (rh := []) (ph := .raw) (ps := [(p1.Kind == 3) = false, (p1.Kind == 6) = false, (p1.Kind == 7) = false, (p1.Kind == 10) = true, (B (p2.Thread == p1.Lock)) = (B true), (B true) = (B true), litA (B true) = true]) (by kernel_rfl) ⟨c7, c11, c15, c16, (litB c17), rfl, rfl, trivial⟩
          · obtain ⟨r19, hr19, h⟩ := bnS h
            rcases itS h with ⟨c20, h⟩ | ⟨c21, h⟩
            · have h := Option.some.inj h
              subst h
              exact go_ret hΘ hm hP hn (hs := [⟨0, .new 1001, none⟩, ⟨1, .new 1002, none⟩, ⟨7, .br false, none⟩, ⟨10, .br false, none⟩, ⟨13, .br false, none⟩, ⟨16, .br true, none⟩, ⟨22, .no, some (B false)⟩, ⟨24, .callV [[]] (B r19), none⟩, ⟨25, .no, some (B true)⟩]) (rh := []) (ph := .raw) (ps := [(p1.Kind == 3) = false, (p1.Kind == 6) = false, (p1.Kind == 7) = false, (p1.Kind == 10) = true, (B (p2.Thread == p1.Lock)) = (B false), Meets Try.prog 85 [(AV.agg ((o50 p2)))] (B r19), litA (B r19) = true, (B r19) = (B true), (B (p1.Obj == p2.Obj)) = (B (p1.Obj == p2.Obj)), litA (B (p1.Obj == p2.Obj)) = true]) (by kernel_rfl) ⟨c7, c11, c15, c16, (litB c18), (impl_Event_isCond_m hr19), rfl, (litB c20), rfl, rfl, trivial⟩
            · have h := Option.some.inj h
              subst h
              exact go_ret hΘ hm hP hn (hs := [⟨0, .new 1001, none⟩, ⟨1, .new 1002, none⟩, ⟨7, .br false, none⟩, ⟨10, .br false, none⟩, ⟨13, .br false, none⟩, ⟨16, .br true, none⟩, ⟨22, .no, some (B false)⟩, ⟨24, .callV [[]] (B r19), none⟩, ⟨25, .no, some (B false)⟩]) (rh := []) (ph := .raw) (ps := [(p1.Kind == 3) = false, (p1.Kind == 6) = false, (p1.Kind == 7) = false, (p1.Kind == 10) = true, (B (p2.Thread == p1.Lock)) = (B false), Meets Try.prog 85 [(AV.agg ((o50 p2)))] (B r19), litA (B r19) = true, (B r19) = (B false), (B false) = (B false), litA (B false) = true]) (by kernel_rfl) ⟨c7, c11, c15, c16, (litB c18), (impl_Event_isCond_m hr19), rfl, (litB c21), rfl, rfl, trivial⟩
        · rcases itS h with ⟨c23, h⟩ | ⟨c27, h⟩
          · obtain ⟨r24, hr24, h⟩ := bnS h
            rcases itS h with ⟨c25, h⟩ | ⟨c26, h⟩
            · have h := Option.some.inj h
              subst h
              exact go_ret hΘ hm hP hn (hs := [⟨0, .new 1001, none⟩, ⟨1, .new 1002, none⟩, ⟨7, .br false, none⟩, ⟨10, .br false, none⟩, ⟨13, .br false, none⟩, ⟨16, .br false, none⟩, ⟨19, .br true, none⟩, ⟨21, .callV [[]] (B r24), none⟩, ⟨22, .no, some (B true)⟩]) (rh := []) (ph := .raw) (ps := [(p1.Kind == 3) = false, (p1.Kind == 6) = false, (p1.Kind == 7) = false, (p1.Kind == 10) = false, (p1.Kind == 8) = true, Meets Try.prog 85 [(AV.agg ((o50 p2)))] (B r24), litA (B r24) = true, (B r24) = (B true), (B (p1.Obj == p2.Obj)) = (B (p1.Obj == p2.Obj)), litA (B (p1.Obj == p2.Obj)) = true]) (by kernel_rfl) ⟨c7, c11, c15, c22, c23, (impl_Event_isCond_m hr24), rfl, (litB c25), rfl, rfl, trivial⟩
            · have h := Option.some.inj h
              subst h
              exact go_ret hΘ hm hP hn (hs := [⟨0, .new 1001, none⟩, ⟨1, .new 1002, none⟩, ⟨7, .br false, none⟩, ⟨10, .br false, none⟩, ⟨13, .br false, none⟩, ⟨16, .br false, none⟩, ⟨19, .br true, none⟩, ⟨21, .callV [[]] (B r24), none⟩, ⟨22, .no, some (B false)⟩]) (rh := []) (ph := .raw) (ps := [(p1.Kind == 3) = false, (p1.Kind == 6) = false, (p1.Kind == 7) = false, (p1.Kind == 10) = false, (p1.Kind == 8) = true, Meets Try.prog 85 [(AV.agg ((o50 p2)))] (B r24), litA (B r24) = true, (B r24) = (B false), (B false) = (B false), litA (B false) = true]) (by kernel_rfl) ⟨c7, c11, c15, c22, c23, (impl_Event_isCond_m hr24), rfl, (litB c26), rfl, rfl, trivial⟩
          · rcases itS h with ⟨c28, h⟩ | ⟨c29, h⟩
            · have h := Option.some.inj h
              subst h
              exact go_ret hΘ hm hP hn (hs := [⟨0, .new 1001, none⟩, ⟨1, .new 1002, none⟩, ⟨7, .br false, none⟩, ⟨10, .br false, none⟩, ⟨13, .br false, none⟩, ⟨16, .br false, none⟩, ⟨19, .br false, none⟩, ⟨22, .br true, none⟩]) (rh := []) (ph := .raw) (ps := [(p1.Kind == 3) = false, (p1.Kind == 6) = false, (p1.Kind == 7) = false, (p1.Kind == 10) = false, (p1.Kind == 8) = false, (p1.Kind == 12) = true, (B true) = (B true), litA (B true) = true]) (by kernel_rfl) ⟨c7, c11, c15, c22, c27, c28, rfl, rfl, trivial⟩
            · have h := Option.some.inj h
              subst h
              exact go_ret hΘ hm hP hn (hs := [⟨0, .new 1001, none⟩, ⟨1, .new 1002, none⟩, ⟨7, .br false, none⟩, ⟨10, .br false, none⟩, ⟨13, .br false, none⟩, ⟨16, .br false, none⟩, ⟨19, .br false, none⟩, ⟨22, .br false, none⟩]) (rh := []) (ph := .raw) (ps := [(p1.Kind == 3) = false, (p1.Kind == 6) = false, (p1.Kind == 7) = false, (p1.Kind == 10) = false, (p1.Kind == 8) = false, (p1.Kind == 12) = false, (B false) = (B false), litA (B false) = true]) (by kernel_rfl) ⟨c7, c11, c15, c22, c27, c29, rfl, rfl, trivial⟩
noncomputable def body62 : Code := match Try.f62.body with | some c => c | none => .skip
noncomputable def impl_hang (p1 : GEvent) (p2 : GEvent) : Option Bool :=
  if (p1.Thread == p2.Thread) = true then
    some true
  else
    Option.bind (impl_binds p1 p2) fun r5 =>
    if r5 = true then
      some true
    else
      Option.bind (impl_binds p2 p1) fun r8 =>
      if r8 = true then
        some true
      else
        Option.bind (impl_Event_lockOf p1) fun r11 =>
        if (decide (r11 ≥ 0)) = true then
          Option.bind (impl_Event_lockOf p1) fun r13 =>
          Option.bind (impl_Event_lockOf p2) fun r14 =>
          some (r13 == r14)
        else
          some false
theorem impl_hang_m {p1 : GEvent} {p2 : GEvent} {r : Bool} (h : impl_hang p1 p2 = some r) : Meets Try.prog 62 [(AV.agg ((o50 p1))), (AV.agg ((o50 p2)))] (B r) := by
  refine meets_ofC Θ_ok Try.func62 rfl (c := body62) (by kernel_rfl) (Nat.le_of_ble_eq_true rfl) ?_
  intro E hP hn hx
  replace hn : E.n = 32 := hn
  have hm : E.P.follows .mixedOrders = true := by rw [hP]; exact mixed
  have hΘ : TOK E.P Θ := by rw [hP]; exact Θ_ok
  unfold impl_hang at h
  show WAt E body62 (FQ (RetE Θ Try.f62.results.toList [] [] (B r) E)) [] ⟨[(0, (AV.agg ((o50 p1)))), (1, (AV.agg ((o50 p2))))], [], [JJ]⟩
  rcases itS h with ⟨c3, h⟩ | ⟨c4, h⟩
  · have h := Option.some.inj h
    subst h
    exact go_ret hΘ hm hP hn (hs := [⟨0, .new 1001, none⟩, ⟨1, .new 1002, none⟩, ⟨8, .no, some (B true)⟩]) (rh := []) (ph := .raw) (ps := [(B (p1.Thread == p2.Thread)) = (B true), (B true) = (B true), litA (B true) = true]) (by kernel_rfl) ⟨(litB c3), rfl, rfl, trivial⟩
  · obtain ⟨r5, hr5, h⟩ := bnS h
    rcases itS h with ⟨c6, h⟩ | ⟨c7, h⟩
    · have h := Option.some.inj h
      subst h
      exact go_ret hΘ hm hP hn (hs := [⟨0, .new 1001, none⟩, ⟨1, .new 1002, none⟩, ⟨8, .no, some (B false)⟩, ⟨11, .callV [[], []] (B r5), none⟩, ⟨13, .no, some (B true)⟩]) (rh := []) (ph := .raw) (ps := [(B (p1.Thread == p2.Thread)) = (B false), Meets Try.prog 77 [(AV.agg ((o50 p1))), (AV.agg ((o50 p2)))] (B r5), litA (B r5) = true, (B r5) = (B true), (B true) = (B true), litA (B true) = true]) (by kernel_rfl) ⟨(litB c4), (impl_binds_m hr5), rfl, (litB c6), rfl, rfl, trivial⟩
    · obtain ⟨r8, hr8, h⟩ := bnS h
      rcases itS h with ⟨c9, h⟩ | ⟨c10, h⟩
      · have h := Option.some.inj h
        subst h
        exact go_ret hΘ hm hP hn (hs := [⟨0, .new 1001, none⟩, ⟨1, .new 1002, none⟩, ⟨8, .no, some (B false)⟩, ⟨11, .callV [[], []] (B r5), none⟩, ⟨13, .no, some (B false)⟩, ⟨16, .callV [[], []] (B r8), none⟩, ⟨18, .no, some (B true)⟩]) (rh := []) (ph := .raw) (ps := [(B (p1.Thread == p2.Thread)) = (B false), Meets Try.prog 77 [(AV.agg ((o50 p1))), (AV.agg ((o50 p2)))] (B r5), litA (B r5) = true, (B r5) = (B false), Meets Try.prog 77 [(AV.agg ((o50 p2))), (AV.agg ((o50 p1)))] (B r8), litA (B r8) = true, (B r8) = (B true), (B true) = (B true), litA (B true) = true]) (by kernel_rfl) ⟨(litB c4), (impl_binds_m hr5), rfl, (litB c7), (impl_binds_m hr8), rfl, (litB c9), rfl, rfl, trivial⟩
      · obtain ⟨r11, hr11, h⟩ := bnS h
        rcases itS h with ⟨c12, h⟩ | ⟨c15, h⟩
        · obtain ⟨r13, hr13, h⟩ := bnS h
          obtain ⟨r14, hr14, h⟩ := bnS h
          have h := Option.some.inj h
          subst h
          exact go_ret hΘ hm hP hn (hs := [⟨0, .new 1001, none⟩, ⟨1, .new 1002, none⟩, ⟨8, .no, some (B false)⟩, ⟨11, .callV [[], []] (B r5), none⟩, ⟨13, .no, some (B false)⟩, ⟨16, .callV [[], []] (B r8), none⟩, ⟨18, .no, some (B false)⟩, ⟨20, .callV [[]] (I r11), none⟩, ⟨22, .no, some (B true)⟩, ⟨24, .callV [[]] (I r13), none⟩, ⟨26, .callV [[]] (I r14), none⟩]) (rh := []) (ph := .raw) (ps := [(B (p1.Thread == p2.Thread)) = (B false), Meets Try.prog 77 [(AV.agg ((o50 p1))), (AV.agg ((o50 p2)))] (B r5), litA (B r5) = true, (B r5) = (B false), Meets Try.prog 77 [(AV.agg ((o50 p2))), (AV.agg ((o50 p1)))] (B r8), litA (B r8) = true, (B r8) = (B false), Meets Try.prog 78 [(AV.agg ((o50 p1)))] (I r11), litA (I r11) = true, (B (decide (r11 ≥ 0))) = (B true), Meets Try.prog 78 [(AV.agg ((o50 p1)))] (I r13), litA (I r13) = true, Meets Try.prog 78 [(AV.agg ((o50 p2)))] (I r14), litA (I r14) = true, (B (r13 == r14)) = (B (r13 == r14)), litA (B (r13 == r14)) = true]) (by kernel_rfl) ⟨(litB c4), (impl_binds_m hr5), rfl, (litB c7), (impl_binds_m hr8), rfl, (litB c10), (impl_Event_lockOf_m hr11), rfl, (litB c12), (impl_Event_lockOf_m hr13), rfl, (impl_Event_lockOf_m hr14), rfl, rfl, rfl, trivial⟩
        · have h := Option.some.inj h
          subst h
          exact go_ret hΘ hm hP hn (hs := [⟨0, .new 1001, none⟩, ⟨1, .new 1002, none⟩, ⟨8, .no, some (B false)⟩, ⟨11, .callV [[], []] (B r5), none⟩, ⟨13, .no, some (B false)⟩, ⟨16, .callV [[], []] (B r8), none⟩, ⟨18, .no, some (B false)⟩, ⟨20, .callV [[]] (I r11), none⟩, ⟨22, .no, some (B false)⟩]) (rh := []) (ph := .raw) (ps := [(B (p1.Thread == p2.Thread)) = (B false), Meets Try.prog 77 [(AV.agg ((o50 p1))), (AV.agg ((o50 p2)))] (B r5), litA (B r5) = true, (B r5) = (B false), Meets Try.prog 77 [(AV.agg ((o50 p2))), (AV.agg ((o50 p1)))] (B r8), litA (B r8) = true, (B r8) = (B false), Meets Try.prog 78 [(AV.agg ((o50 p1)))] (I r11), litA (I r11) = true, (B (decide (r11 ≥ 0))) = (B false), (B false) = (B false), litA (B false) = true]) (by kernel_rfl) ⟨(litB c4), (impl_binds_m hr5), rfl, (litB c7), (impl_binds_m hr8), rfl, (litB c10), (impl_Event_lockOf_m hr11), rfl, (litB c15), rfl, rfl, trivial⟩
noncomputable def body44 : Code := match Try.f44.body with | some c => c | none => .skip
noncomputable def impl_isCut_l1 (K0 : (List Int) → Int → Option Bool) (p1 : (List GEvent)) (p2 : (List Int)) (v5 : Int) (l12 : (List GEvent)) : Nat → (List Int) → GEvent → Int → Option Bool
  | 0, _, _, _ => none
  | n + 1, a13, a14, v15 =>
  if (decide (v15 < (l12.length : Int))) = true then
    Option.bind (rd l12 v15) fun x17 =>
    Option.bind (impl_hang x17 a14) fun r18 =>
    if r18 = true then
      Option.bind (rd a13 v15) fun x20 =>
      Option.bind (rd p2 x17.Thread) fun x21 =>
      if (decide (x20 ≥ x21)) = true then
        some false
      else
        impl_isCut_l1 K0 p1 p2 v5 l12 n a13 a14 (w64 (v15 + 1))
    else
      impl_isCut_l1 K0 p1 p2 v5 l12 n a13 a14 (w64 (v15 + 1))
  else
    K0 a13 (w64 (v5 + 1))
theorem impl_isCut_l1_m {E : Env} (hP : E.P = Try.prog) (hn : E.n = 59) (hx : ∀ p, p ∈ E.fx → p.1 ∈ ([] : List Nat)) (p1 : (List GEvent)) (p2 : (List Int)) (v5 : Int) (l12 : (List GEvent)) {K0 : (List Int) → Int → Option Bool} (hK0 : ∀ (a4 : (List Int)) (v5 : Int) (r : Bool), K0 a4 v5 = some r → WAt E body44 (FQ (RetE Θ Try.f44.results.toList [] [] (B r) E)) [true, true, false, true, false] ⟨[(0, (AV.ro 5 (p1.map o50))), (1, (AV.ro 1 (p2.map o3))), (5, (AV.sl 1 0 (List.length (a4.map o3)))), (16, (AV.ro 5 (p1.map o50))), (17, (I (p1.length : Int))), (18, (I v5))], [(1, some ⟨3, 1, (a4.map o3)⟩)], [1, JJ]⟩) : ∀ (n : Nat) (a13 : (List Int)) (a14 : GEvent) (v15 : Int) (r : Bool), impl_isCut_l1 K0 p1 p2 v5 l12 n a13 a14 v15 = some r → WAt E body44 (FQ (RetE Θ Try.f44.results.toList [] [] (B r) E)) [true, true, false, true, false, false, true, true, false, false, true, true, true, false] ⟨[(0, (AV.ro 5 (p1.map o50))), (1, (AV.ro 1 (p2.map o3))), (5, (AV.sl 1 0 (List.length (a13.map o3)))), (8, (AV.ptr 2 0 0)), (16, (AV.ro 5 (p1.map o50))), (17, (I (p1.length : Int))), (18, (I v5)), (35, (AV.ro 5 (l12.map o50))), (36, (I (l12.length : Int))), (37, (I v15))], [(1, some ⟨3, 1, (a13.map o3)⟩), (2, some ⟨50, 5, [((o50 a14))]⟩)], [1, 2, JJ]⟩ := by
  have hm : E.P.follows .mixedOrders = true := by rw [hP]; exact mixed
  have hΘ : TOK E.P Θ := by rw [hP]; exact Θ_ok
  intro n
  induction n with
  | zero => intro a13 a14 v15 r h; simp only [impl_isCut_l1] at h; cases h
  | succ n ih =>
    intro a13 a14 v15 r h
    simp only [impl_isCut_l1] at h
    rcases itS h with ⟨c16, h⟩ | ⟨c25, h⟩
    · obtain ⟨x17, hx17, h⟩ := bnS h
      obtain ⟨r18, hr18, h⟩ := bnS h
      rcases itS h with ⟨c19, h⟩ | ⟨c24, h⟩
      · obtain ⟨x20, hx20, h⟩ := bnS h
        obtain ⟨x21, hx21, h⟩ := bnS h
        rcases itS h with ⟨c22, h⟩ | ⟨c23, h⟩
        · have h := Option.some.inj h
          subst h
          exact go_ret hΘ hm hP hn (hs := [⟨1, .br true, none⟩, ⟨3, .row (o50 x17), none⟩, ⟨5, .new 1001, none⟩, ⟨10, .callV [[], []] (B r18), none⟩, ⟨11, .no, some (B true)⟩, ⟨15, .row [(I x20)], none⟩, ⟨19, .row (o3 x21), none⟩, ⟨23, .br true, none⟩]) (rh := []) (ph := .raw) (ps := [(decide (v15 < (l12.length : Int))) = true, (0 : Int) ≤ v15, (l12.map o50)[(Int.toNat v15)]? = some (o50 x17), Meets Try.prog 62 [(AV.agg ((o50 x17))), (AV.agg ((o50 a14)))] (B r18), litA (B r18) = true, (B r18) = (B true), (0 : Int) ≤ v15, v15 < (((List.length (a13.map o3)) : Nat) : Int), (a13.map o3)[(Int.toNat v15)]? = some [(I x20)], (0 : Int) ≤ x17.Thread, (p2.map o3)[(Int.toNat x17.Thread)]? = some (o3 x21), (decide (x20 ≥ x21)) = true, (B false) = (B false), litA (B false) = true]) (by kernel_rfl) ⟨c16, (rd0 hx17), (rdM o50 hx17), (impl_hang_m hr18), rfl, (litB c19), (rd0 hx20), (rdL o3 hx20), (rdM o3 hx20), (rd0 hx21), (rdM o3 hx21), c22, rfl, rfl, trivial⟩
        · exact go_to hΘ hm hx hP hn (hs := [⟨1, .br true, none⟩, ⟨3, .row (o50 x17), none⟩, ⟨5, .new 1001, none⟩, ⟨10, .callV [[], []] (B r18), none⟩, ⟨11, .no, some (B true)⟩, ⟨15, .row [(I x20)], none⟩, ⟨19, .row (o3 x21), none⟩, ⟨23, .br false, none⟩]) (π := [(1, 1), (2, 2)]) (ts := [0, 1, 5, 8, 16, 17, 18, 35, 36, 37]) (kp := []) (ps := [(decide (v15 < (l12.length : Int))) = true, (0 : Int) ≤ v15, (l12.map o50)[(Int.toNat v15)]? = some (o50 x17), Meets Try.prog 62 [(AV.agg ((o50 x17))), (AV.agg ((o50 a14)))] (B r18), litA (B r18) = true, (B r18) = (B true), (0 : Int) ≤ v15, v15 < (((List.length (a13.map o3)) : Nat) : Int), (a13.map o3)[(Int.toNat v15)]? = some [(I x20)], (0 : Int) ≤ x17.Thread, (p2.map o3)[(Int.toNat x17.Thread)]? = some (o3 x21), (decide (x20 ≥ x21)) = false, RenOK [(1, 1), (2, 2)] (a13.map o3), RenOK [(1, 1), (2, 2)] [((o50 a14))]]) (by kernel_rfl) ⟨c16, (rd0 hx17), (rdM o50 hx17), (impl_hang_m hr18), rfl, (litB c19), (rd0 hx20), (rdL o3 hx20), (rdM o3 hx20), (rd0 hx21), (rdM o3 hx21), c23, (rok (treeM t3)), (rok rfl), trivial⟩ (ih a13 a14 (w64 (v15 + 1)) _ h)
      · exact go_to hΘ hm hx hP hn (hs := [⟨1, .br true, none⟩, ⟨3, .row (o50 x17), none⟩, ⟨5, .new 1001, none⟩, ⟨10, .callV [[], []] (B r18), none⟩, ⟨11, .no, some (B false)⟩]) (π := [(1, 1), (2, 2)]) (ts := [0, 1, 5, 8, 16, 17, 18, 35, 36, 37]) (kp := []) (ps := [(decide (v15 < (l12.length : Int))) = true, (0 : Int) ≤ v15, (l12.map o50)[(Int.toNat v15)]? = some (o50 x17), Meets Try.prog 62 [(AV.agg ((o50 x17))), (AV.agg ((o50 a14)))] (B r18), litA (B r18) = true, (B r18) = (B false), RenOK [(1, 1), (2, 2)] (a13.map o3), RenOK [(1, 1), (2, 2)] [((o50 a14))]]) (by kernel_rfl) ⟨c16, (rd0 hx17), (rdM o50 hx17), (impl_hang_m hr18), rfl, (litB c24), (rok (treeM t3)), (rok rfl), trivial⟩ (ih a13 a14 (w64 (v15 + 1)) _ h)
    · exact go_to hΘ hm hx hP hn (hs := [⟨1, .br false, none⟩]) (π := [(1, 1)]) (ts := [0, 1, 5, 16, 17, 18]) (kp := []) (ps := [(decide (v15 < (l12.length : Int))) = false, RenOK [(1, 1)] (a13.map o3)]) (by kernel_rfl) ⟨c25, (rok (treeM t3)), trivial⟩ (hK0 a13 (w64 (v5 + 1)) _ h)
noncomputable def impl_isCut_l0  (p1 : (List GEvent)) (p2 : (List Int)) : Nat → (List Int) → Int → Option Bool
  | 0, _, _ => none
  | n + 1, a4, v5 =>
  if (decide (v5 < (p1.length : Int))) = true then
    Option.bind (rd p1 v5) fun x7 =>
    Option.bind (rd a4 v5) fun x8 =>
    Option.bind (rd p2 x7.Thread) fun x9 =>
    if (decide (x8 ≥ x9)) = true then
      impl_isCut_l0 p1 p2 n a4 (w64 (v5 + 1))
    else
      Option.bind (slc p1 0 v5) fun l12 =>
      impl_isCut_l1 (impl_isCut_l0 p1 p2 n) p1 p2 v5 l12 FU a4 x7 0
  else
    some true
theorem impl_isCut_l0_m {E : Env} (hP : E.P = Try.prog) (hn : E.n = 59) (hx : ∀ p, p ∈ E.fx → p.1 ∈ ([] : List Nat)) (p1 : (List GEvent)) (p2 : (List Int))  : ∀ (n : Nat) (a4 : (List Int)) (v5 : Int) (r : Bool), impl_isCut_l0 p1 p2 n a4 v5 = some r → WAt E body44 (FQ (RetE Θ Try.f44.results.toList [] [] (B r) E)) [true, true, false, true, false] ⟨[(0, (AV.ro 5 (p1.map o50))), (1, (AV.ro 1 (p2.map o3))), (5, (AV.sl 1 0 (List.length (a4.map o3)))), (16, (AV.ro 5 (p1.map o50))), (17, (I (p1.length : Int))), (18, (I v5))], [(1, some ⟨3, 1, (a4.map o3)⟩)], [1, JJ]⟩ := by
  have hm : E.P.follows .mixedOrders = true := by rw [hP]; exact mixed
  have hΘ : TOK E.P Θ := by rw [hP]; exact Θ_ok
  intro n
  induction n with
  | zero => intro a4 v5 r h; simp only [impl_isCut_l0] at h; cases h
  | succ n ih =>
    intro a4 v5 r h
    simp only [impl_isCut_l0] at h
    rcases itS h with ⟨c6, h⟩ | ⟨c26, h⟩
    · obtain ⟨x7, hx7, h⟩ := bnS h
      obtain ⟨x8, hx8, h⟩ := bnS h
      obtain ⟨x9, hx9, h⟩ := bnS h
      rcases itS h with ⟨c10, h⟩ | ⟨c11, h⟩
      · exact go_to hΘ hm hx hP hn (hs := [⟨1, .br true, none⟩, ⟨3, .row (o50 x7), none⟩, ⟨5, .new 1001, none⟩, ⟨11, .row [(I x8)], none⟩, ⟨15, .row (o3 x9), none⟩, ⟨18, .br true, none⟩]) (π := [(1, 1)]) (ts := [0, 1, 5, 16, 17, 18]) (kp := []) (ps := [(decide (v5 < (p1.length : Int))) = true, (0 : Int) ≤ v5, (p1.map o50)[(Int.toNat v5)]? = some (o50 x7), (0 : Int) ≤ v5, v5 < (((List.length (a4.map o3)) : Nat) : Int), (a4.map o3)[(Int.toNat v5)]? = some [(I x8)], (0 : Int) ≤ x7.Thread, (p2.map o3)[(Int.toNat x7.Thread)]? = some (o3 x9), (decide (x8 ≥ x9)) = true, RenOK [(1, 1)] (a4.map o3)]) (by kernel_rfl) ⟨c6, (rd0 hx7), (rdM o50 hx7), (rd0 hx8), (rdL o3 hx8), (rdM o3 hx8), (rd0 hx9), (rdM o3 hx9), c10, (rok (treeM t3)), trivial⟩ (ih a4 (w64 (v5 + 1)) _ h)
      · obtain ⟨l12, hl12, h⟩ := bnS h
        exact go_to hΘ hm hx hP hn (hs := [⟨1, .br true, none⟩, ⟨3, .row (o50 x7), none⟩, ⟨5, .new 1001, none⟩, ⟨11, .row [(I x8)], none⟩, ⟨15, .row (o3 x9), none⟩, ⟨18, .br false, none⟩, ⟨21, .no, some (AV.ro 5 (l12.map o50))⟩, ⟨22, .no, some (I (l12.length : Int))⟩]) (π := [(1, 1), (1001, 2)]) (ts := [0, 1, 5, 8, 16, 17, 18, 35, 36, 37]) (kp := []) (ps := [(decide (v5 < (p1.length : Int))) = true, (0 : Int) ≤ v5, (p1.map o50)[(Int.toNat v5)]? = some (o50 x7), (0 : Int) ≤ v5, v5 < (((List.length (a4.map o3)) : Nat) : Int), (a4.map o3)[(Int.toNat v5)]? = some [(I x8)], (0 : Int) ≤ x7.Thread, (p2.map o3)[(Int.toNat x7.Thread)]? = some (o3 x9), (decide (x8 ≥ x9)) = false, AV.ro 5 (((p1.map o50).drop (Int.toNat 0)).take (subO (Int.toNat v5) (Int.toNat 0))) = (AV.ro 5 (l12.map o50)), (0 : Int) ≤ 0, 0 ≤ v5, v5 ≤ (((p1.map o50).length : Nat) : Int), AV.lit (.int .i64 (((l12.map o50).length : Nat) : Int)) = (I (l12.length : Int)), RenOK [(1, 1), (1001, 2)] (a4.map o3), RenOK [(1, 1), (1001, 2)] [((o50 x7))]]) (by kernel_rfl) ⟨c6, (rd0 hx7), (rdM o50 hx7), (rd0 hx8), (rdL o3 hx8), (rdM o3 hx8), (rd0 hx9), (rdM o3 hx9), c11, (slM 5 o50 hl12), (sl0 hl12), (sl1 hl12), (sl2 o50 hl12), (lenM o50), (rok (treeM t3)), (rok rfl), trivial⟩ (impl_isCut_l1_m hP hn hx p1 p2 v5 l12 ih FU a4 x7 0 _ h)
    · have h := Option.some.inj h
      subst h
      exact go_ret hΘ hm hP hn (hs := [⟨1, .br false, none⟩]) (rh := []) (ph := .raw) (ps := [(decide (v5 < (p1.length : Int))) = false, (B true) = (B true), litA (B true) = true]) (by kernel_rfl) ⟨c26, rfl, rfl, trivial⟩
noncomputable def impl_isCut (p1 : (List GEvent)) (p2 : (List Int)) : Option Bool :=
  Option.bind (impl_numbers p1) fun r3 =>
  impl_isCut_l0 p1 p2 FU r3.1 0
theorem impl_isCut_m {p1 : (List GEvent)} {p2 : (List Int)} {r : Bool} (h : impl_isCut p1 p2 = some r) : Meets Try.prog 44 [(AV.ro 5 (p1.map o50)), (AV.ro 1 (p2.map o3))] (B r) := by
  refine meets_ofC Θ_ok Try.func44 rfl (c := body44) (by kernel_rfl) (Nat.le_of_ble_eq_true rfl) ?_
  intro E hP hn hx
  replace hn : E.n = 59 := hn
  have hm : E.P.follows .mixedOrders = true := by rw [hP]; exact mixed
  have hΘ : TOK E.P Θ := by rw [hP]; exact Θ_ok
  unfold impl_isCut at h
  show WAt E body44 (FQ (RetE Θ Try.f44.results.toList [] [] (B r) E)) [] ⟨[(0, (AV.ro 5 (p1.map o50))), (1, (AV.ro 1 (p2.map o3)))], [], [JJ]⟩
  obtain ⟨r3, hr3, h⟩ := bnS h
  exact go_to hΘ hm hx hP hn (hs := [⟨2, .callR [] (AV.tup [(AV.own 3 1 (r3.1.map o3)), (AV.agg (o66 r3.2))]) [1001] (AV.tup [(AV.sl 1001 0 (List.length (r3.1.map o3))), (AV.agg ((o66 r3.2)))]) [(1001, ⟨3, 1, (r3.1.map o3)⟩)], none⟩, ⟨6, .nw 1002 [((o66 (Vector.replicate 5 0)))], none⟩, ⟨8, .stoS ((o66 (Vector.replicate 5 0))) [((o66 r3.2))], none⟩, ⟨10, .no, some (I (p1.length : Int))⟩]) (π := [(1001, 1)]) (ts := [0, 1, 5, 16, 17, 18]) (kp := []) (ps := [Meets Try.prog 68 [(AV.ro 5 (p1.map o50))] (AV.tup [(AV.own 3 1 (r3.1.map o3)), (AV.agg (o66 r3.2))]), noRo (AV.tup [(AV.own 3 1 (r3.1.map o3)), (AV.agg (o66 r3.2))]) = true, (rtf (AV.tup [(AV.own 3 1 (r3.1.map o3)), (AV.agg (o66 r3.2))]) [1001]).1 = (AV.tup [(AV.sl 1001 0 (List.length (r3.1.map o3))), (AV.agg ((o66 r3.2)))]), (rtf (AV.tup [(AV.own 3 1 (r3.1.map o3)), (AV.agg (o66 r3.2))]) [1001]).2.1 = [(1001, ⟨3, 1, (r3.1.map o3)⟩)], [litL [.int .i64 0, .int .i64 0, .int .i64 0, .int .i64 0, .int .i64 0]] = [((o66 (Vector.replicate 5 0)))], [((o66 (Vector.replicate 5 0)))][0]? = some ((o66 (Vector.replicate 5 0))), [((o66 (Vector.replicate 5 0)))].set 0 (wr ((o66 (Vector.replicate 5 0))) 0 ((o66 r3.2))) = [((o66 r3.2))], ((o66 r3.2)).length = 5, 0 + ((o66 r3.2)).length ≤ ((o66 (Vector.replicate 5 0))).length, ((o66 r3.2)).all okLit = true, AV.lit (.int .i64 (((p1.map o50).length : Nat) : Int)) = (I (p1.length : Int)), RenOK [(1001, 1)] (r3.1.map o3)]) (by kernel_rfl) ⟨(impl_numbers_m hr3), (by simp only [noRo, noRoL, noRoM n3, n66, Bool.and_self]), (by simp [rtf, rtfL, o66, rtfLV k3 (fun _ => rfl)]), (by simp [rtf, rtfL, o66, rtfLV k3 (fun _ => rfl)]), rfl, rfl, (vecSt k3 k3), (vecLen k3), (vecLL k3 k3), (vecAll k3 (fun _ => rfl)), (lenM o50), (rok (treeM t3)), trivial⟩ (impl_isCut_l0_m hP hn hx p1 p2 FU r3.1 0 _ h)
noncomputable def body18 : Code := match Try.f18.body with | some c => c | none => .skip
noncomputable def impl_IsCut (p1 : (List GEvent)) (p2 : (List Int)) : Option (Bool × Bool) :=
  Option.bind (impl_GoodTrace p1) fun r3 =>
  if (!r3) = true then
    some (false, false)
  else
    Option.bind (impl_areCounts p2) fun r6 =>
    if (!r6) = true then
      some (false, false)
    else
      Option.bind (impl_areOf p1 p2) fun r9 =>
      if (!r9) = true then
        some (false, false)
      else
        Option.bind (impl_isCut p1 p2) fun r12 =>
        some (r12, true)
theorem impl_IsCut_m {p1 : (List GEvent)} {p2 : (List Int)} {r : (Bool × Bool)} (h : impl_IsCut p1 p2 = some r) : Meets Try.prog 18 [(AV.ro 5 (p1.map o50)), (AV.ro 1 (p2.map o3))] (AV.tup [(B r.1), (B r.2)]) := by
  refine meets_ofC Θ_ok Try.func18 rfl (c := body18) (by kernel_rfl) (Nat.le_of_ble_eq_true rfl) ?_
  intro E hP hn hx
  replace hn : E.n = 23 := hn
  have hm : E.P.follows .mixedOrders = true := by rw [hP]; exact mixed
  have hΘ : TOK E.P Θ := by rw [hP]; exact Θ_ok
  unfold impl_IsCut at h
  show WAt E body18 (FQ (RetE Θ Try.f18.results.toList [] [] (AV.tup [(B r.1), (B r.2)]) E)) [] ⟨[(0, (AV.ro 5 (p1.map o50))), (1, (AV.ro 1 (p2.map o3)))], [], [JJ]⟩
  obtain ⟨r3, hr3, h⟩ := bnS h
  rcases itS h with ⟨c4, h⟩ | ⟨c5, h⟩
  · have h := Option.some.inj h
    subst h
    exact go_ret hΘ hm hP hn (hs := [⟨3, .callV [] (B r3), none⟩, ⟨5, .no, some (B true)⟩]) (rh := []) (ph := .agg [.raw, .raw]) (ps := [Meets Try.prog 35 [(AV.ro 5 (p1.map o50))] (B r3), litA (B r3) = true, (B (!r3)) = (B true), (B false) = (B false), litA (B false) = true, (B false) = (B false), litA (B false) = true]) (by kernel_rfl) ⟨(impl_GoodTrace_m hr3), rfl, (litB c4), rfl, rfl, rfl, rfl, trivial⟩
  · obtain ⟨r6, hr6, h⟩ := bnS h
    rcases itS h with ⟨c7, h⟩ | ⟨c8, h⟩
    · have h := Option.some.inj h
      subst h
      exact go_ret hΘ hm hP hn (hs := [⟨3, .callV [] (B r3), none⟩, ⟨5, .no, some (B false)⟩, ⟨7, .callV [] (B r6), none⟩, ⟨10, .no, some (B true)⟩]) (rh := []) (ph := .agg [.raw, .raw]) (ps := [Meets Try.prog 35 [(AV.ro 5 (p1.map o50))] (B r3), litA (B r3) = true, (B (!r3)) = (B false), Meets Try.prog 42 [(AV.ro 1 (p2.map o3))] (B r6), litA (B r6) = true, (B (!r6)) = (B true), (B false) = (B false), litA (B false) = true, (B false) = (B false), litA (B false) = true]) (by kernel_rfl) ⟨(impl_GoodTrace_m hr3), rfl, (litB c5), (impl_areCounts_m hr6), rfl, (litB c7), rfl, rfl, rfl, rfl, trivial⟩
    · obtain ⟨r9, hr9, h⟩ := bnS h
      rcases itS h with ⟨c10, h⟩ | ⟨c11, h⟩
      · have h := Option.some.inj h
        subst h
        exact go_ret hΘ hm hP hn (hs := [⟨3, .callV [] (B r3), none⟩, ⟨5, .no, some (B false)⟩, ⟨7, .callV [] (B r6), none⟩, ⟨10, .no, some (B false)⟩, ⟨13, .callV [] (B r9), none⟩, ⟨16, .br true, none⟩]) (rh := []) (ph := .agg [.raw, .raw]) (ps := [Meets Try.prog 35 [(AV.ro 5 (p1.map o50))] (B r3), litA (B r3) = true, (B (!r3)) = (B false), Meets Try.prog 42 [(AV.ro 1 (p2.map o3))] (B r6), litA (B r6) = true, (B (!r6)) = (B false), Meets Try.prog 43 [(AV.ro 5 (p1.map o50)), (AV.ro 1 (p2.map o3))] (B r9), litA (B r9) = true, (!r9) = true, (B false) = (B false), litA (B false) = true, (B false) = (B false), litA (B false) = true]) (by kernel_rfl) ⟨(impl_GoodTrace_m hr3), rfl, (litB c5), (impl_areCounts_m hr6), rfl, (litB c8), (impl_areOf_m hr9), rfl, c10, rfl, rfl, rfl, rfl, trivial⟩
      · obtain ⟨r12, hr12, h⟩ := bnS h
        have h := Option.some.inj h
        subst h
        exact go_ret hΘ hm hP hn (hs := [⟨3, .callV [] (B r3), none⟩, ⟨5, .no, some (B false)⟩, ⟨7, .callV [] (B r6), none⟩, ⟨10, .no, some (B false)⟩, ⟨13, .callV [] (B r9), none⟩, ⟨16, .br false, none⟩, ⟨19, .callV [] (B r12), none⟩]) (rh := []) (ph := .agg [.raw, .raw]) (ps := [Meets Try.prog 35 [(AV.ro 5 (p1.map o50))] (B r3), litA (B r3) = true, (B (!r3)) = (B false), Meets Try.prog 42 [(AV.ro 1 (p2.map o3))] (B r6), litA (B r6) = true, (B (!r6)) = (B false), Meets Try.prog 43 [(AV.ro 5 (p1.map o50)), (AV.ro 1 (p2.map o3))] (B r9), litA (B r9) = true, (!r9) = false, Meets Try.prog 44 [(AV.ro 5 (p1.map o50)), (AV.ro 1 (p2.map o3))] (B r12), litA (B r12) = true, (B r12) = (B r12), litA (B r12) = true, (B true) = (B true), litA (B true) = true]) (by kernel_rfl) ⟨(impl_GoodTrace_m hr3), rfl, (litB c5), (impl_areCounts_m hr6), rfl, (litB c8), (impl_areOf_m hr9), rfl, c11, (impl_isCut_m hr12), rfl, rfl, rfl, rfl, rfl, trivial⟩
noncomputable def body38 : Code := match Try.f38.body with | some c => c | none => .skip
noncomputable def laws_eqEvent (p1 : GEvent) (p2 : GEvent) : Option Bool :=
  if (p1.Thread != p2.Thread) = true then
    some false
  else
    if (p1.Kind != p2.Kind) = true then
      some false
    else
      if (p1.Obj != p2.Obj) = true then
        some false
      else
        if (p1.Lock != p2.Lock) = true then
          some false
        else
          if (p1.Pc != p2.Pc) = true then
            some false
          else
            some true
theorem laws_eqEvent_m {p1 : GEvent} {p2 : GEvent} {r : Bool} (h : laws_eqEvent p1 p2 = some r) : Meets Try.prog 38 [(AV.agg ((o50 p1))), (AV.agg ((o50 p2)))] (B r) := by
  refine meets_ofC Θ_ok Try.func38 rfl (c := body38) (by kernel_rfl) (Nat.le_of_ble_eq_true rfl) ?_
  intro E hP hn hx
  replace hn : E.n = 30 := hn
  have hm : E.P.follows .mixedOrders = true := by rw [hP]; exact mixed
  have hΘ : TOK E.P Θ := by rw [hP]; exact Θ_ok
  unfold laws_eqEvent at h
  show WAt E body38 (FQ (RetE Θ Try.f38.results.toList [] [] (B r) E)) [] ⟨[(0, (AV.agg ((o50 p1)))), (1, (AV.agg ((o50 p2))))], [], [JJ]⟩
  rcases itS h with ⟨c3, h⟩ | ⟨c4, h⟩
  · have h := Option.some.inj h
    subst h
    exact go_ret hΘ hm hP hn (hs := [⟨0, .new 1001, none⟩, ⟨1, .new 1002, none⟩, ⟨8, .br true, none⟩]) (rh := []) (ph := .raw) (ps := [(p1.Thread != p2.Thread) = true, (B false) = (B false), litA (B false) = true]) (by kernel_rfl) ⟨c3, rfl, rfl, trivial⟩
  · rcases itS h with ⟨c5, h⟩ | ⟨c6, h⟩
    · have h := Option.some.inj h
      subst h
      exact go_ret hΘ hm hP hn (hs := [⟨0, .new 1001, none⟩, ⟨1, .new 1002, none⟩, ⟨8, .br false, none⟩, ⟨14, .br true, none⟩]) (rh := []) (ph := .raw) (ps := [(p1.Thread != p2.Thread) = false, (p1.Kind != p2.Kind) = true, (B false) = (B false), litA (B false) = true]) (by kernel_rfl) ⟨c4, c5, rfl, rfl, trivial⟩
    · rcases itS h with ⟨c7, h⟩ | ⟨c8, h⟩
      · have h := Option.some.inj h
        subst h
        exact go_ret hΘ hm hP hn (hs := [⟨0, .new 1001, none⟩, ⟨1, .new 1002, none⟩, ⟨8, .br false, none⟩, ⟨14, .br false, none⟩, ⟨20, .br true, none⟩]) (rh := []) (ph := .raw) (ps := [(p1.Thread != p2.Thread) = false, (p1.Kind != p2.Kind) = false, (p1.Obj != p2.Obj) = true, (B false) = (B false), litA (B false) = true]) (by kernel_rfl) ⟨c4, c6, c7, rfl, rfl, trivial⟩
      · rcases itS h with ⟨c9, h⟩ | ⟨c10, h⟩
        · have h := Option.some.inj h
          subst h
          exact go_ret hΘ hm hP hn (hs := [⟨0, .new 1001, none⟩, ⟨1, .new 1002, none⟩, ⟨8, .br false, none⟩, ⟨14, .br false, none⟩, ⟨20, .br false, none⟩, ⟨26, .br true, none⟩]) (rh := []) (ph := .raw) (ps := [(p1.Thread != p2.Thread) = false, (p1.Kind != p2.Kind) = false, (p1.Obj != p2.Obj) = false, (p1.Lock != p2.Lock) = true, (B false) = (B false), litA (B false) = true]) (by kernel_rfl) ⟨c4, c6, c8, c9, rfl, rfl, trivial⟩
        · rcases itS h with ⟨c11, h⟩ | ⟨c12, h⟩
          · have h := Option.some.inj h
            subst h
            exact go_ret hΘ hm hP hn (hs := [⟨0, .new 1001, none⟩, ⟨1, .new 1002, none⟩, ⟨8, .br false, none⟩, ⟨14, .br false, none⟩, ⟨20, .br false, none⟩, ⟨26, .br false, none⟩, ⟨32, .br true, none⟩]) (rh := []) (ph := .raw) (ps := [(p1.Thread != p2.Thread) = false, (p1.Kind != p2.Kind) = false, (p1.Obj != p2.Obj) = false, (p1.Lock != p2.Lock) = false, (p1.Pc != p2.Pc) = true, (B false) = (B false), litA (B false) = true]) (by kernel_rfl) ⟨c4, c6, c8, c10, c11, rfl, rfl, trivial⟩
          · have h := Option.some.inj h
            subst h
            exact go_ret hΘ hm hP hn (hs := [⟨0, .new 1001, none⟩, ⟨1, .new 1002, none⟩, ⟨8, .br false, none⟩, ⟨14, .br false, none⟩, ⟨20, .br false, none⟩, ⟨26, .br false, none⟩, ⟨32, .br false, none⟩]) (rh := []) (ph := .raw) (ps := [(p1.Thread != p2.Thread) = false, (p1.Kind != p2.Kind) = false, (p1.Obj != p2.Obj) = false, (p1.Lock != p2.Lock) = false, (p1.Pc != p2.Pc) = false, (B true) = (B true), litA (B true) = true]) (by kernel_rfl) ⟨c4, c6, c8, c10, c12, rfl, rfl, trivial⟩
noncomputable def body13 : Code := match Try.f13.body with | some c => c | none => .skip
noncomputable def laws_eqEventS_l0  (p1 : (List GEvent)) (p2 : (List GEvent)) : Nat → Int → Option Bool
  | 0, _ => none
  | n + 1, v5 =>
  if (decide (v5 < (p1.length : Int))) = true then
    Option.bind (rd p1 v5) fun x7 =>
    Option.bind (rd p2 v5) fun x8 =>
    Option.bind (laws_eqEvent x7 x8) fun r9 =>
    if (!r9) = true then
      some false
    else
      laws_eqEventS_l0 p1 p2 n (w64 (v5 + 1))
  else
    some true
theorem laws_eqEventS_l0_m {E : Env} (hP : E.P = Try.prog) (hn : E.n = 27) (hx : ∀ p, p ∈ E.fx → p.1 ∈ ([] : List Nat)) (p1 : (List GEvent)) (p2 : (List GEvent))  : ∀ (n : Nat) (v5 : Int) (r : Bool), laws_eqEventS_l0 p1 p2 n v5 = some r → WAt E body13 (FQ (RetE Θ Try.f13.results.toList [] [] (B r) E)) [true, true, false, true, false] ⟨[(0, (AV.ro 5 (p1.map o50))), (1, (AV.ro 5 (p2.map o50))), (5, (I v5))], [], [JJ]⟩ := by
  have hm : E.P.follows .mixedOrders = true := by rw [hP]; exact mixed
  have hΘ : TOK E.P Θ := by rw [hP]; exact Θ_ok
  intro n
  induction n with
  | zero => intro v5 r h; simp only [laws_eqEventS_l0] at h; cases h
  | succ n ih =>
    intro v5 r h
    simp only [laws_eqEventS_l0] at h
    rcases itS h with ⟨c6, h⟩ | ⟨c12, h⟩
    · obtain ⟨x7, hx7, h⟩ := bnS h
      obtain ⟨x8, hx8, h⟩ := bnS h
      obtain ⟨r9, hr9, h⟩ := bnS h
      rcases itS h with ⟨c10, h⟩ | ⟨c11, h⟩
      · have h := Option.some.inj h
        subst h
        exact go_ret hΘ hm hP hn (hs := [⟨2, .no, some (I (p1.length : Int))⟩, ⟨4, .br true, none⟩, ⟨7, .row (o50 x7), none⟩, ⟨11, .row (o50 x8), none⟩, ⟨13, .callV [[], []] (B r9), none⟩, ⟨15, .br true, none⟩]) (rh := []) (ph := .raw) (ps := [AV.lit (.int .i64 (((p1.map o50).length : Nat) : Int)) = (I (p1.length : Int)), (decide (v5 < (p1.length : Int))) = true, (0 : Int) ≤ v5, (p1.map o50)[(Int.toNat v5)]? = some (o50 x7), (0 : Int) ≤ v5, (p2.map o50)[(Int.toNat v5)]? = some (o50 x8), Meets Try.prog 38 [(AV.agg ((o50 x7))), (AV.agg ((o50 x8)))] (B r9), litA (B r9) = true, (!r9) = true, (B false) = (B false), litA (B false) = true]) (by kernel_rfl) ⟨(lenM o50), c6, (rd0 hx7), (rdM o50 hx7), (rd0 hx8), (rdM o50 hx8), (laws_eqEvent_m hr9), rfl, c10, rfl, rfl, trivial⟩
      · exact go_to hΘ hm hx hP hn (hs := [⟨2, .no, some (I (p1.length : Int))⟩, ⟨4, .br true, none⟩, ⟨7, .row (o50 x7), none⟩, ⟨11, .row (o50 x8), none⟩, ⟨13, .callV [[], []] (B r9), none⟩, ⟨15, .br false, none⟩]) (π := []) (ts := [0, 1, 5]) (kp := []) (ps := [AV.lit (.int .i64 (((p1.map o50).length : Nat) : Int)) = (I (p1.length : Int)), (decide (v5 < (p1.length : Int))) = true, (0 : Int) ≤ v5, (p1.map o50)[(Int.toNat v5)]? = some (o50 x7), (0 : Int) ≤ v5, (p2.map o50)[(Int.toNat v5)]? = some (o50 x8), Meets Try.prog 38 [(AV.agg ((o50 x7))), (AV.agg ((o50 x8)))] (B r9), litA (B r9) = true, (!r9) = false]) (by kernel_rfl) ⟨(lenM o50), c6, (rd0 hx7), (rdM o50 hx7), (rd0 hx8), (rdM o50 hx8), (laws_eqEvent_m hr9), rfl, c11, trivial⟩ (ih (w64 (v5 + 1)) _ h)
    · have h := Option.some.inj h
      subst h
      exact go_ret hΘ hm hP hn (hs := [⟨2, .no, some (I (p1.length : Int))⟩, ⟨4, .br false, none⟩]) (rh := []) (ph := .raw) (ps := [AV.lit (.int .i64 (((p1.map o50).length : Nat) : Int)) = (I (p1.length : Int)), (decide (v5 < (p1.length : Int))) = false, (B true) = (B true), litA (B true) = true]) (by kernel_rfl) ⟨(lenM o50), c12, rfl, rfl, trivial⟩
noncomputable def laws_eqEventS (p1 : (List GEvent)) (p2 : (List GEvent)) : Option Bool :=
  if ((p1.length : Int) != (p2.length : Int)) = true then
    some false
  else
    laws_eqEventS_l0 p1 p2 FU 0
theorem laws_eqEventS_m {p1 : (List GEvent)} {p2 : (List GEvent)} {r : Bool} (h : laws_eqEventS p1 p2 = some r) : Meets Try.prog 13 [(AV.ro 5 (p1.map o50)), (AV.ro 5 (p2.map o50))] (B r) := by
  refine meets_ofC Θ_ok Try.func13 rfl (c := body13) (by kernel_rfl) (Nat.le_of_ble_eq_true rfl) ?_
  intro E hP hn hx
  replace hn : E.n = 27 := hn
  have hm : E.P.follows .mixedOrders = true := by rw [hP]; exact mixed
  have hΘ : TOK E.P Θ := by rw [hP]; exact Θ_ok
  unfold laws_eqEventS at h
  show WAt E body13 (FQ (RetE Θ Try.f13.results.toList [] [] (B r) E)) [] ⟨[(0, (AV.ro 5 (p1.map o50))), (1, (AV.ro 5 (p2.map o50)))], [], [JJ]⟩
  rcases itS h with ⟨c3, h⟩ | ⟨c4, h⟩
  · have h := Option.some.inj h
    subst h
    exact go_ret hΘ hm hP hn (hs := [⟨2, .no, some (I (p1.length : Int))⟩, ⟨4, .no, some (I (p2.length : Int))⟩, ⟨6, .br true, none⟩]) (rh := []) (ph := .raw) (ps := [AV.lit (.int .i64 (((p1.map o50).length : Nat) : Int)) = (I (p1.length : Int)), AV.lit (.int .i64 (((p2.map o50).length : Nat) : Int)) = (I (p2.length : Int)), ((p1.length : Int) != (p2.length : Int)) = true, (B false) = (B false), litA (B false) = true]) (by kernel_rfl) ⟨(lenM o50), (lenM o50), c3, rfl, rfl, trivial⟩
  · exact go_to hΘ hm hx hP hn (hs := [⟨2, .no, some (I (p1.length : Int))⟩, ⟨4, .no, some (I (p2.length : Int))⟩, ⟨6, .br false, none⟩]) (π := []) (ts := [0, 1, 5]) (kp := []) (ps := [AV.lit (.int .i64 (((p1.map o50).length : Nat) : Int)) = (I (p1.length : Int)), AV.lit (.int .i64 (((p2.map o50).length : Nat) : Int)) = (I (p2.length : Int)), ((p1.length : Int) != (p2.length : Int)) = false]) (by kernel_rfl) ⟨(lenM o50), (lenM o50), c4, trivial⟩ (laws_eqEventS_l0_m hP hn hx p1 p2 FU 0 _ h)
noncomputable def body19 : Code := match Try.f19.body with | some c => c | none => .skip
noncomputable def laws_eqIntS_l0  (p1 : (List Int)) (p2 : (List Int)) : Nat → Int → Option Bool
  | 0, _ => none
  | n + 1, v5 =>
  if (decide (v5 < (p1.length : Int))) = true then
    Option.bind (rd p1 v5) fun x7 =>
    Option.bind (rd p2 v5) fun x8 =>
    if (x7 != x8) = true then
      some false
    else
      laws_eqIntS_l0 p1 p2 n (w64 (v5 + 1))
  else
    some true
theorem laws_eqIntS_l0_m {E : Env} (hP : E.P = Try.prog) (hn : E.n = 26) (hx : ∀ p, p ∈ E.fx → p.1 ∈ ([] : List Nat)) (p1 : (List Int)) (p2 : (List Int))  : ∀ (n : Nat) (v5 : Int) (r : Bool), laws_eqIntS_l0 p1 p2 n v5 = some r → WAt E body19 (FQ (RetE Θ Try.f19.results.toList [] [] (B r) E)) [true, true, false, true, false] ⟨[(0, (AV.ro 1 (p1.map o3))), (1, (AV.ro 1 (p2.map o3))), (5, (I v5))], [], [JJ]⟩ := by
  have hm : E.P.follows .mixedOrders = true := by rw [hP]; exact mixed
  have hΘ : TOK E.P Θ := by rw [hP]; exact Θ_ok
  intro n
  induction n with
  | zero => intro v5 r h; simp only [laws_eqIntS_l0] at h; cases h
  | succ n ih =>
    intro v5 r h
    simp only [laws_eqIntS_l0] at h
    rcases itS h with ⟨c6, h⟩ | ⟨c11, h⟩
    · obtain ⟨x7, hx7, h⟩ := bnS h
      obtain ⟨x8, hx8, h⟩ := bnS h
      rcases itS h with ⟨c9, h⟩ | ⟨c10, h⟩
      · have h := Option.some.inj h
        subst h
        exact go_ret hΘ hm hP hn (hs := [⟨2, .no, some (I (p1.length : Int))⟩, ⟨4, .br true, none⟩, ⟨7, .row (o3 x7), none⟩, ⟨11, .row (o3 x8), none⟩, ⟨14, .br true, none⟩]) (rh := []) (ph := .raw) (ps := [AV.lit (.int .i64 (((p1.map o3).length : Nat) : Int)) = (I (p1.length : Int)), (decide (v5 < (p1.length : Int))) = true, (0 : Int) ≤ v5, (p1.map o3)[(Int.toNat v5)]? = some (o3 x7), (0 : Int) ≤ v5, (p2.map o3)[(Int.toNat v5)]? = some (o3 x8), (x7 != x8) = true, (B false) = (B false), litA (B false) = true]) (by kernel_rfl) ⟨(lenM o3), c6, (rd0 hx7), (rdM o3 hx7), (rd0 hx8), (rdM o3 hx8), c9, rfl, rfl, trivial⟩
      · exact go_to hΘ hm hx hP hn (hs := [⟨2, .no, some (I (p1.length : Int))⟩, ⟨4, .br true, none⟩, ⟨7, .row (o3 x7), none⟩, ⟨11, .row (o3 x8), none⟩, ⟨14, .br false, none⟩]) (π := []) (ts := [0, 1, 5]) (kp := []) (ps := [AV.lit (.int .i64 (((p1.map o3).length : Nat) : Int)) = (I (p1.length : Int)), (decide (v5 < (p1.length : Int))) = true, (0 : Int) ≤ v5, (p1.map o3)[(Int.toNat v5)]? = some (o3 x7), (0 : Int) ≤ v5, (p2.map o3)[(Int.toNat v5)]? = some (o3 x8), (x7 != x8) = false]) (by kernel_rfl) ⟨(lenM o3), c6, (rd0 hx7), (rdM o3 hx7), (rd0 hx8), (rdM o3 hx8), c10, trivial⟩ (ih (w64 (v5 + 1)) _ h)
    · have h := Option.some.inj h
      subst h
      exact go_ret hΘ hm hP hn (hs := [⟨2, .no, some (I (p1.length : Int))⟩, ⟨4, .br false, none⟩]) (rh := []) (ph := .raw) (ps := [AV.lit (.int .i64 (((p1.map o3).length : Nat) : Int)) = (I (p1.length : Int)), (decide (v5 < (p1.length : Int))) = false, (B true) = (B true), litA (B true) = true]) (by kernel_rfl) ⟨(lenM o3), c11, rfl, rfl, trivial⟩
noncomputable def laws_eqIntS (p1 : (List Int)) (p2 : (List Int)) : Option Bool :=
  if ((p1.length : Int) != (p2.length : Int)) = true then
    some false
  else
    laws_eqIntS_l0 p1 p2 FU 0
theorem laws_eqIntS_m {p1 : (List Int)} {p2 : (List Int)} {r : Bool} (h : laws_eqIntS p1 p2 = some r) : Meets Try.prog 19 [(AV.ro 1 (p1.map o3)), (AV.ro 1 (p2.map o3))] (B r) := by
  refine meets_ofC Θ_ok Try.func19 rfl (c := body19) (by kernel_rfl) (Nat.le_of_ble_eq_true rfl) ?_
  intro E hP hn hx
  replace hn : E.n = 26 := hn
  have hm : E.P.follows .mixedOrders = true := by rw [hP]; exact mixed
  have hΘ : TOK E.P Θ := by rw [hP]; exact Θ_ok
  unfold laws_eqIntS at h
  show WAt E body19 (FQ (RetE Θ Try.f19.results.toList [] [] (B r) E)) [] ⟨[(0, (AV.ro 1 (p1.map o3))), (1, (AV.ro 1 (p2.map o3)))], [], [JJ]⟩
  rcases itS h with ⟨c3, h⟩ | ⟨c4, h⟩
  · have h := Option.some.inj h
    subst h
    exact go_ret hΘ hm hP hn (hs := [⟨2, .no, some (I (p1.length : Int))⟩, ⟨4, .no, some (I (p2.length : Int))⟩, ⟨6, .br true, none⟩]) (rh := []) (ph := .raw) (ps := [AV.lit (.int .i64 (((p1.map o3).length : Nat) : Int)) = (I (p1.length : Int)), AV.lit (.int .i64 (((p2.map o3).length : Nat) : Int)) = (I (p2.length : Int)), ((p1.length : Int) != (p2.length : Int)) = true, (B false) = (B false), litA (B false) = true]) (by kernel_rfl) ⟨(lenM o3), (lenM o3), c3, rfl, rfl, trivial⟩
  · exact go_to hΘ hm hx hP hn (hs := [⟨2, .no, some (I (p1.length : Int))⟩, ⟨4, .no, some (I (p2.length : Int))⟩, ⟨6, .br false, none⟩]) (π := []) (ts := [0, 1, 5]) (kp := []) (ps := [AV.lit (.int .i64 (((p1.map o3).length : Nat) : Int)) = (I (p1.length : Int)), AV.lit (.int .i64 (((p2.map o3).length : Nat) : Int)) = (I (p2.length : Int)), ((p1.length : Int) != (p2.length : Int)) = false]) (by kernel_rfl) ⟨(lenM o3), (lenM o3), c4, trivial⟩ (laws_eqIntS_l0_m hP hn hx p1 p2 FU 0 _ h)
noncomputable def body9 : Code := match Try.f9.body with | some c => c | none => .skip
noncomputable def laws_szEventS (p1 : (List GEvent)) (p2 : Int) : Option Int :=
  if (decide ((w64 (p2 - (p1.length : Int))) < 0)) = true then
    some (-1)
  else
    some (w64 (p2 - (p1.length : Int)))
theorem laws_szEventS_m {p1 : (List GEvent)} {p2 : Int} {r : Int} (h : laws_szEventS p1 p2 = some r) : Meets Try.prog 9 [(AV.ro 5 (p1.map o52)), (I p2)] (I r) := by
  refine meets_ofC Θ_ok Try.func9 rfl (c := body9) (by kernel_rfl) (Nat.le_of_ble_eq_true rfl) ?_
  intro E hP hn hx
  replace hn : E.n = 12 := hn
  have hm : E.P.follows .mixedOrders = true := by rw [hP]; exact mixed
  have hΘ : TOK E.P Θ := by rw [hP]; exact Θ_ok
  unfold laws_szEventS at h
  show WAt E body9 (FQ (RetE Θ Try.f9.results.toList [] [] (I r) E)) [] ⟨[(0, (AV.ro 5 (p1.map o52))), (1, (I p2))], [], [JJ]⟩
  rcases itS h with ⟨c3, h⟩ | ⟨c4, h⟩
  · have h := Option.some.inj h
    subst h
    exact go_ret hΘ hm hP hn (hs := [⟨3, .no, some (I (p1.length : Int))⟩, ⟨8, .br true, none⟩]) (rh := []) (ph := .raw) (ps := [AV.lit (.int .i64 (((p1.map o52).length : Nat) : Int)) = (I (p1.length : Int)), (decide ((w64 (p2 - (p1.length : Int))) < 0)) = true, (I (-1)) = (I (-1)), litA (I (-1)) = true]) (by kernel_rfl) ⟨(lenM o52), c3, rfl, rfl, trivial⟩
  · have h := Option.some.inj h
    subst h
    exact go_ret hΘ hm hP hn (hs := [⟨3, .no, some (I (p1.length : Int))⟩, ⟨8, .br false, none⟩]) (rh := []) (ph := .raw) (ps := [AV.lit (.int .i64 (((p1.map o52).length : Nat) : Int)) = (I (p1.length : Int)), (decide ((w64 (p2 - (p1.length : Int))) < 0)) = false, (I (w64 (p2 - (p1.length : Int)))) = (I (w64 (p2 - (p1.length : Int)))), litA (I (w64 (p2 - (p1.length : Int)))) = true]) (by kernel_rfl) ⟨(lenM o52), c4, rfl, rfl, trivial⟩
noncomputable def body34 : Code := match Try.f34.body with | some c => c | none => .skip
noncomputable def laws_toEvent (p1 : GEvent) : Option GEvent :=
  some (GEvent.mk p1.Thread p1.Kind p1.Obj p1.Lock p1.Pc)
theorem laws_toEvent_m {p1 : GEvent} {r : GEvent} (h : laws_toEvent p1 = some r) : Meets Try.prog 34 [(AV.agg ((o52 p1)))] (AV.agg (o50 r)) := by
  refine meets_ofC Θ_ok Try.func34 rfl (c := body34) (by kernel_rfl) (Nat.le_of_ble_eq_true rfl) ?_
  intro E hP hn hx
  replace hn : E.n = 20 := hn
  have hm : E.P.follows .mixedOrders = true := by rw [hP]; exact mixed
  have hΘ : TOK E.P Θ := by rw [hP]; exact Θ_ok
  unfold laws_toEvent at h
  show WAt E body34 (FQ (RetE Θ Try.f34.results.toList [] [] (AV.agg (o50 r)) E)) [] ⟨[(0, (AV.agg ((o52 p1))))], [], [JJ]⟩
  have h := Option.some.inj h
  subst h
  exact go_ret hΘ hm hP hn (hs := [⟨0, .new 1001, none⟩, ⟨1, .new 1002, none⟩, ⟨2, .new 1003, none⟩]) (rh := []) (ph := .raw) (ps := [(AV.agg [(I p1.Thread), (I p1.Kind), (I p1.Obj), (I p1.Lock), (I p1.Pc)]) = (AV.agg [(I p1.Thread), (I p1.Kind), (I p1.Obj), (I p1.Lock), (I p1.Pc)]), litA (AV.agg [(I p1.Thread), (I p1.Kind), (I p1.Obj), (I p1.Lock), (I p1.Pc)]) = true]) (by kernel_rfl) ⟨rfl, rfl, trivial⟩
noncomputable def body11 : Code := match Try.f11.body with | some c => c | none => .skip
noncomputable def laws_toEventS_l0  (p1 : (List GEvent)) : Nat → (List GEvent) → Int → Option (List GEvent)
  | 0, _, _ => none
  | n + 1, a3, v4 =>
  if (decide (v4 < (p1.length : Int))) = true then
    Option.bind (rd p1 v4) fun x6 =>
    Option.bind (laws_toEvent x6) fun r7 =>
    Option.bind (rd a3 v4) fun x8 =>
    laws_toEventS_l0 p1 n (a3.set (Int.toNat v4) r7) (w64 (v4 + 1))
  else
    some a3
theorem laws_toEventS_l0_m {E : Env} (hP : E.P = Try.prog) (hn : E.n = 23) (hx : ∀ p, p ∈ E.fx → p.1 ∈ ([] : List Nat)) (p1 : (List GEvent))  : ∀ (n : Nat) (a3 : (List GEvent)) (v4 : Int) (r : (List GEvent)), laws_toEventS_l0 p1 n a3 v4 = some r → WAt E body11 (FQ (RetE Θ Try.f11.results.toList [] [] (AV.own 50 5 (r.map o50)) E)) [true, true, false, true, false] ⟨[(0, (AV.ro 5 (p1.map o52))), (3, (AV.sl 1 0 (List.length (a3.map o50)))), (4, (I v4))], [(1, some ⟨50, 5, (a3.map o50)⟩)], [1, JJ]⟩ := by
  have hm : E.P.follows .mixedOrders = true := by rw [hP]; exact mixed
  have hΘ : TOK E.P Θ := by rw [hP]; exact Θ_ok
  intro n
  induction n with
  | zero => intro a3 v4 r h; simp only [laws_toEventS_l0] at h; cases h
  | succ n ih =>
    intro a3 v4 r h
    simp only [laws_toEventS_l0] at h
    rcases itS h with ⟨c5, h⟩ | ⟨c9, h⟩
    · obtain ⟨x6, hx6, h⟩ := bnS h
      obtain ⟨r7, hr7, h⟩ := bnS h
      obtain ⟨x8, hx8, h⟩ := bnS h
      exact go_to hΘ hm hx hP hn (hs := [⟨2, .no, some (I (p1.length : Int))⟩, ⟨4, .br true, none⟩, ⟨9, .row (o52 x6), none⟩, ⟨11, .callV [[]] (AV.agg (o50 r7)), none⟩, ⟨13, .sto ((o50 x8)) ((a3.set (Int.toNat v4) r7).map o50), none⟩, ⟨17, .slen 3 (List.length ((a3.set (Int.toNat v4) r7).map o50)), none⟩]) (π := [(1, 1)]) (ts := [0, 3, 4]) (kp := []) (ps := [AV.lit (.int .i64 (((p1.map o52).length : Nat) : Int)) = (I (p1.length : Int)), (decide (v4 < (p1.length : Int))) = true, (0 : Int) ≤ v4, (p1.map o52)[(Int.toNat v4)]? = some (o52 x6), Meets Try.prog 34 [(AV.agg ((o52 x6)))] (AV.agg (o50 r7)), litA (AV.agg (o50 r7)) = true, (0 : Int) ≤ v4, v4 < (((List.length (a3.map o50)) : Nat) : Int), (a3.map o50)[(Int.toNat v4)]? = some ((o50 x8)), (a3.map o50).set (Int.toNat v4) (wr ((o50 x8)) 0 ((o50 r7))) = ((a3.set (Int.toNat v4) r7).map o50), ((o50 r7)).length = 5, 0 + ((o50 r7)).length ≤ ((o50 x8)).length, (List.length (a3.map o50)) = (List.length ((a3.set (Int.toNat v4) r7).map o50)), RenOK [(1, 1)] ((a3.set (Int.toNat v4) r7).map o50)]) (by kernel_rfl) ⟨(lenM o52), c5, (rd0 hx6), (rdM o52 hx6), (laws_toEvent_m hr7), rfl, (rd0 hx8), (rdL o50 hx8), (rdM o50 hx8), (setMr o50 (by kernel_rfl)), rfl, (Nat.le_of_ble_eq_true rfl), (by first | exact lnSet _ | exact lnSet2 _ | simp only [List.length_map, List.length_set, List.length_cons, List.length_nil]), (rok (treeM t50)), trivial⟩ (ih (a3.set (Int.toNat v4) r7) (w64 (v4 + 1)) _ h)
    · have h := Option.some.inj h
      subst h
      exact go_ret hΘ hm hP hn (hs := [⟨2, .no, some (I (p1.length : Int))⟩, ⟨4, .br false, none⟩]) (rh := []) (ph := .own) (ps := [AV.lit (.int .i64 (((p1.map o52).length : Nat) : Int)) = (I (p1.length : Int)), (decide (v4 < (p1.length : Int))) = false, treeLL ((a3.map o50).take (List.length (a3.map o50))) = true, (a3.map o50).take (List.length (a3.map o50)) = (a3.map o50), noRoLL (a3.map o50) = true]) (by kernel_rfl) ⟨(lenM o52), c9, (treeT t50), takeM, (noRoM n50), trivial⟩
noncomputable def laws_toEventS (p1 : (List GEvent)) : Option (List GEvent) :=
  Option.bind (mk (GEvent.mk 0 0 0 0 0) (p1.length : Int)) fun l2 =>
  laws_toEventS_l0 p1 FU l2 0
theorem laws_toEventS_m {p1 : (List GEvent)} {r : (List GEvent)} (h : laws_toEventS p1 = some r) : Meets Try.prog 11 [(AV.ro 5 (p1.map o52))] (AV.own 50 5 (r.map o50)) := by
  refine meets_ofC Θ_ok Try.func11 rfl (c := body11) (by kernel_rfl) (Nat.le_of_ble_eq_true rfl) ?_
  intro E hP hn hx
  replace hn : E.n = 23 := hn
  have hm : E.P.follows .mixedOrders = true := by rw [hP]; exact mixed
  have hΘ : TOK E.P Θ := by rw [hP]; exact Θ_ok
  unfold laws_toEventS at h
  show WAt E body11 (FQ (RetE Θ Try.f11.results.toList [] [] (AV.own 50 5 (r.map o50)) E)) [] ⟨[(0, (AV.ro 5 (p1.map o52)))], [], [JJ]⟩
  obtain ⟨l2, hl2, h⟩ := bnS h
  exact go_to hΘ hm hx hP hn (hs := [⟨2, .no, some (I (p1.length : Int))⟩, ⟨3, .nw 1001 (l2.map o50), some (AV.sl 1001 0 (List.length (l2.map o50)))⟩]) (π := [(1001, 1)]) (ts := [0, 3, 4]) (kp := []) (ps := [AV.lit (.int .i64 (((p1.map o52).length : Nat) : Int)) = (I (p1.length : Int)), List.replicate (Int.toNat (p1.length : Int)) [.lit (.int .i64 0), .lit (.int .i64 0), .lit (.int .i64 0), .lit (.int .i64 0), .lit (.int .i64 0)] = (l2.map o50), AV.sl 1001 0 (Int.toNat (p1.length : Int)) = (AV.sl 1001 0 (List.length (l2.map o50))), (p1.length : Int) = (p1.length : Int), (0 : Int) ≤ (p1.length : Int), (p1.length : Int) * ((40 : Nat) : Int) ≤ 140737488355328, (p1.length : Int) ≤ 140737488355328, RenOK [(1001, 1)] (l2.map o50)]) (by kernel_rfl) ⟨(lenM o52), (mkM o50 hl2), (mkS o50 hl2), rfl, (mk0 hl2), (mkB hl2 (by decide)), (mkC hl2), (rok (treeM t50)), trivial⟩ (laws_toEventS_l0_m hP hn hx p1 FU l2 0 _ h)
noncomputable def body17 : Code := match Try.f17.body with | some c => c | none => .skip
noncomputable def laws_toIntS_l0  (p1 : (List Int)) : Nat → (List Int) → Int → Option (List Int)
  | 0, _, _ => none
  | n + 1, a3, v4 =>
  if (decide (v4 < (p1.length : Int))) = true then
    Option.bind (rd p1 v4) fun x6 =>
    Option.bind (rd a3 v4) fun x7 =>
    laws_toIntS_l0 p1 n (a3.set (Int.toNat v4) x6) (w64 (v4 + 1))
  else
    some a3
theorem laws_toIntS_l0_m {E : Env} (hP : E.P = Try.prog) (hn : E.n = 22) (hx : ∀ p, p ∈ E.fx → p.1 ∈ ([] : List Nat)) (p1 : (List Int))  : ∀ (n : Nat) (a3 : (List Int)) (v4 : Int) (r : (List Int)), laws_toIntS_l0 p1 n a3 v4 = some r → WAt E body17 (FQ (RetE Θ Try.f17.results.toList [] [] (AV.own 3 1 (r.map o3)) E)) [true, true, false, true, false] ⟨[(0, (AV.ro 1 (p1.map o3))), (3, (AV.sl 1 0 (List.length (a3.map o3)))), (4, (I v4))], [(1, some ⟨3, 1, (a3.map o3)⟩)], [1, JJ]⟩ := by
  have hm : E.P.follows .mixedOrders = true := by rw [hP]; exact mixed
  have hΘ : TOK E.P Θ := by rw [hP]; exact Θ_ok
  intro n
  induction n with
  | zero => intro a3 v4 r h; simp only [laws_toIntS_l0] at h; cases h
  | succ n ih =>
    intro a3 v4 r h
    simp only [laws_toIntS_l0] at h
    rcases itS h with ⟨c5, h⟩ | ⟨c8, h⟩
    · obtain ⟨x6, hx6, h⟩ := bnS h
      obtain ⟨x7, hx7, h⟩ := bnS h
      exact go_to hΘ hm hx hP hn (hs := [⟨2, .no, some (I (p1.length : Int))⟩, ⟨4, .br true, none⟩, ⟨9, .row (o3 x6), none⟩, ⟨12, .sto [(I x7)] ((a3.set (Int.toNat v4) x6).map o3), none⟩, ⟨16, .slen 3 (List.length ((a3.set (Int.toNat v4) x6).map o3)), none⟩]) (π := [(1, 1)]) (ts := [0, 3, 4]) (kp := []) (ps := [AV.lit (.int .i64 (((p1.map o3).length : Nat) : Int)) = (I (p1.length : Int)), (decide (v4 < (p1.length : Int))) = true, (0 : Int) ≤ v4, (p1.map o3)[(Int.toNat v4)]? = some (o3 x6), (0 : Int) ≤ v4, v4 < (((List.length (a3.map o3)) : Nat) : Int), (a3.map o3)[(Int.toNat v4)]? = some [(I x7)], (a3.map o3).set (Int.toNat v4) (wr [(I x7)] 0 [(I x6)]) = ((a3.set (Int.toNat v4) x6).map o3), [(I x6)].length = 1, 0 + [(I x6)].length ≤ [(I x7)].length, (List.length (a3.map o3)) = (List.length ((a3.set (Int.toNat v4) x6).map o3)), RenOK [(1, 1)] ((a3.set (Int.toNat v4) x6).map o3)]) (by kernel_rfl) ⟨(lenM o3), c5, (rd0 hx6), (rdM o3 hx6), (rd0 hx7), (rdL o3 hx7), (rdM o3 hx7), (setM o3), rfl, (Nat.le_of_ble_eq_true rfl), (by first | exact lnSet _ | exact lnSet2 _ | simp only [List.length_map, List.length_set, List.length_cons, List.length_nil]), (rok (treeM t3)), trivial⟩ (ih (a3.set (Int.toNat v4) x6) (w64 (v4 + 1)) _ h)
    · have h := Option.some.inj h
      subst h
      exact go_ret hΘ hm hP hn (hs := [⟨2, .no, some (I (p1.length : Int))⟩, ⟨4, .br false, none⟩]) (rh := []) (ph := .own) (ps := [AV.lit (.int .i64 (((p1.map o3).length : Nat) : Int)) = (I (p1.length : Int)), (decide (v4 < (p1.length : Int))) = false, treeLL ((a3.map o3).take (List.length (a3.map o3))) = true, (a3.map o3).take (List.length (a3.map o3)) = (a3.map o3), noRoLL (a3.map o3) = true]) (by kernel_rfl) ⟨(lenM o3), c8, (treeT t3), takeM, (noRoM n3), trivial⟩
noncomputable def laws_toIntS (p1 : (List Int)) : Option (List Int) :=
  Option.bind (mk 0 (p1.length : Int)) fun l2 =>
  laws_toIntS_l0 p1 FU l2 0
theorem laws_toIntS_m {p1 : (List Int)} {r : (List Int)} (h : laws_toIntS p1 = some r) : Meets Try.prog 17 [(AV.ro 1 (p1.map o3))] (AV.own 3 1 (r.map o3)) := by
  refine meets_ofC Θ_ok Try.func17 rfl (c := body17) (by kernel_rfl) (Nat.le_of_ble_eq_true rfl) ?_
  intro E hP hn hx
  replace hn : E.n = 22 := hn
  have hm : E.P.follows .mixedOrders = true := by rw [hP]; exact mixed
  have hΘ : TOK E.P Θ := by rw [hP]; exact Θ_ok
  unfold laws_toIntS at h
  show WAt E body17 (FQ (RetE Θ Try.f17.results.toList [] [] (AV.own 3 1 (r.map o3)) E)) [] ⟨[(0, (AV.ro 1 (p1.map o3)))], [], [JJ]⟩
  obtain ⟨l2, hl2, h⟩ := bnS h
  exact go_to hΘ hm hx hP hn (hs := [⟨2, .no, some (I (p1.length : Int))⟩, ⟨3, .nw 1001 (l2.map o3), some (AV.sl 1001 0 (List.length (l2.map o3)))⟩]) (π := [(1001, 1)]) (ts := [0, 3, 4]) (kp := []) (ps := [AV.lit (.int .i64 (((p1.map o3).length : Nat) : Int)) = (I (p1.length : Int)), List.replicate (Int.toNat (p1.length : Int)) [.lit (.int .i64 0)] = (l2.map o3), AV.sl 1001 0 (Int.toNat (p1.length : Int)) = (AV.sl 1001 0 (List.length (l2.map o3))), (p1.length : Int) = (p1.length : Int), (0 : Int) ≤ (p1.length : Int), (p1.length : Int) * ((8 : Nat) : Int) ≤ 140737488355328, (p1.length : Int) ≤ 140737488355328, RenOK [(1001, 1)] (l2.map o3)]) (by kernel_rfl) ⟨(lenM o3), (mkM o3 hl2), (mkS o3 hl2), rfl, (mk0 hl2), (mkB hl2 (by decide)), (mkC hl2), (rok (treeM t3)), trivial⟩ (laws_toIntS_l0_m hP hn hx p1 FU l2 0 _ h)
noncomputable def body73 : Code := match Try.f73.body with | some c => c | none => .skip
noncomputable def spec_l1In (p1 : Int) (p2 : Int) (p3 : Int) : Option Bool :=
  if (decide (p1 ≥ p2)) = true then
    some (decide (p1 ≤ p3))
  else
    some false
theorem spec_l1In_m {p1 : Int} {p2 : Int} {p3 : Int} {r : Bool} (h : spec_l1In p1 p2 p3 = some r) : Meets Try.prog 73 [(I p1), (I p2), (I p3)] (B r) := by
  refine meets_ofC Θ_ok Try.func73 rfl (c := body73) (by kernel_rfl) (Nat.le_of_ble_eq_true rfl) ?_
  intro E hP hn hx
  replace hn : E.n = 15 := hn
  have hm : E.P.follows .mixedOrders = true := by rw [hP]; exact mixed
  have hΘ : TOK E.P Θ := by rw [hP]; exact Θ_ok
  unfold spec_l1In at h
  show WAt E body73 (FQ (RetE Θ Try.f73.results.toList [] [] (B r) E)) [] ⟨[(0, (I p1)), (1, (I p2)), (2, (I p3))], [], [JJ]⟩
  rcases itS h with ⟨c4, h⟩ | ⟨c5, h⟩
  · have h := Option.some.inj h
    subst h
    exact go_ret hΘ hm hP hn (hs := [⟨4, .no, some (B true)⟩]) (rh := []) (ph := .raw) (ps := [(B (decide (p1 ≥ p2))) = (B true), (B (decide (p1 ≤ p3))) = (B (decide (p1 ≤ p3))), litA (B (decide (p1 ≤ p3))) = true]) (by kernel_rfl) ⟨(litB c4), rfl, rfl, trivial⟩
  · have h := Option.some.inj h
    subst h
    exact go_ret hΘ hm hP hn (hs := [⟨4, .no, some (B false)⟩]) (rh := []) (ph := .raw) (ps := [(B (decide (p1 ≥ p2))) = (B false), (B false) = (B false), litA (B false) = true]) (by kernel_rfl) ⟨(litB c5), rfl, rfl, trivial⟩
noncomputable def body64 : Code := match Try.f64.body with | some c => c | none => .skip
noncomputable def spec_l1All_l0  (p1 : (List Int)) (p2 : Int) (p3 : Int) : Nat → Int → Option Bool
  | 0, _ => none
  | n + 1, v4 =>
  if (decide (v4 < (p1.length : Int))) = true then
    Option.bind (rd p1 v4) fun x6 =>
    Option.bind (spec_l1In x6 p2 p3) fun r7 =>
    if (!r7) = true then
      some false
    else
      spec_l1All_l0 p1 p2 p3 n (w64 (v4 + 1))
  else
    some true
theorem spec_l1All_l0_m {E : Env} (hP : E.P = Try.prog) (hn : E.n = 21) (hx : ∀ p, p ∈ E.fx → p.1 ∈ ([] : List Nat)) (p1 : (List Int)) (p2 : Int) (p3 : Int)  : ∀ (n : Nat) (v4 : Int) (r : Bool), spec_l1All_l0 p1 p2 p3 n v4 = some r → WAt E body64 (FQ (RetE Θ Try.f64.results.toList [] [] (B r) E)) [true, false, true, false] ⟨[(1, (I p2)), (2, (I p3)), (9, (AV.ro 1 (p1.map o3))), (10, (I (p1.length : Int))), (11, (I v4))], [], [JJ]⟩ := by
  have hm : E.P.follows .mixedOrders = true := by rw [hP]; exact mixed
  have hΘ : TOK E.P Θ := by rw [hP]; exact Θ_ok
  intro n
  induction n with
  | zero => intro v4 r h; simp only [spec_l1All_l0] at h; cases h
  | succ n ih =>
    intro v4 r h
    simp only [spec_l1All_l0] at h
    rcases itS h with ⟨c5, h⟩ | ⟨c10, h⟩
    · obtain ⟨x6, hx6, h⟩ := bnS h
      obtain ⟨r7, hr7, h⟩ := bnS h
      rcases itS h with ⟨c8, h⟩ | ⟨c9, h⟩
      · have h := Option.some.inj h
        subst h
        exact go_ret hΘ hm hP hn (hs := [⟨1, .br true, none⟩, ⟨2, .row (o3 x6), none⟩, ⟨8, .callV [] (B r7), none⟩, ⟨10, .br true, none⟩]) (rh := []) (ph := .raw) (ps := [(decide (v4 < (p1.length : Int))) = true, (0 : Int) ≤ v4, (p1.map o3)[(Int.toNat v4)]? = some (o3 x6), Meets Try.prog 73 [(I x6), (I p2), (I p3)] (B r7), litA (B r7) = true, (!r7) = true, (B false) = (B false), litA (B false) = true]) (by kernel_rfl) ⟨c5, (rd0 hx6), (rdM o3 hx6), (spec_l1In_m hr7), rfl, c8, rfl, rfl, trivial⟩
      · exact go_to hΘ hm hx hP hn (hs := [⟨1, .br true, none⟩, ⟨2, .row (o3 x6), none⟩, ⟨8, .callV [] (B r7), none⟩, ⟨10, .br false, none⟩]) (π := []) (ts := [1, 2, 9, 10, 11]) (kp := []) (ps := [(decide (v4 < (p1.length : Int))) = true, (0 : Int) ≤ v4, (p1.map o3)[(Int.toNat v4)]? = some (o3 x6), Meets Try.prog 73 [(I x6), (I p2), (I p3)] (B r7), litA (B r7) = true, (!r7) = false]) (by kernel_rfl) ⟨c5, (rd0 hx6), (rdM o3 hx6), (spec_l1In_m hr7), rfl, c9, trivial⟩ (ih (w64 (v4 + 1)) _ h)
    · have h := Option.some.inj h
      subst h
      exact go_ret hΘ hm hP hn (hs := [⟨1, .br false, none⟩]) (rh := []) (ph := .raw) (ps := [(decide (v4 < (p1.length : Int))) = false, (B true) = (B true), litA (B true) = true]) (by kernel_rfl) ⟨c10, rfl, rfl, trivial⟩
noncomputable def spec_l1All (p1 : (List Int)) (p2 : Int) (p3 : Int) : Option Bool :=
  spec_l1All_l0 p1 p2 p3 FU 0
theorem spec_l1All_m {p1 : (List Int)} {p2 : Int} {p3 : Int} {r : Bool} (h : spec_l1All p1 p2 p3 = some r) : Meets Try.prog 64 [(AV.ro 1 (p1.map o3)), (I p2), (I p3)] (B r) := by
  refine meets_ofC Θ_ok Try.func64 rfl (c := body64) (by kernel_rfl) (Nat.le_of_ble_eq_true rfl) ?_
  intro E hP hn hx
  replace hn : E.n = 21 := hn
  have hm : E.P.follows .mixedOrders = true := by rw [hP]; exact mixed
  have hΘ : TOK E.P Θ := by rw [hP]; exact Θ_ok
  unfold spec_l1All at h
  show WAt E body64 (FQ (RetE Θ Try.f64.results.toList [] [] (B r) E)) [] ⟨[(0, (AV.ro 1 (p1.map o3))), (1, (I p2)), (2, (I p3))], [], [JJ]⟩
  exact go_to hΘ hm hx hP hn (hs := [⟨2, .no, some (I (p1.length : Int))⟩]) (π := []) (ts := [1, 2, 9, 10, 11]) (kp := []) (ps := [AV.lit (.int .i64 (((p1.map o3).length : Nat) : Int)) = (I (p1.length : Int))]) (by kernel_rfl) ⟨(lenM o3), trivial⟩ (spec_l1All_l0_m hP hn hx p1 p2 p3 FU 0 _ h)
noncomputable def body39 : Code := match Try.f39.body with | some c => c | none => .skip
noncomputable def spec_l18Counts (p1 : (List Int)) : Option Bool :=
  if ((p1.length : Int) == 5) = true then
    Option.bind (spec_l1All p1 0 200) fun r3 =>
    some r3
  else
    some false
theorem spec_l18Counts_m {p1 : (List Int)} {r : Bool} (h : spec_l18Counts p1 = some r) : Meets Try.prog 39 [(AV.ro 1 (p1.map o3))] (B r) := by
  refine meets_ofC Θ_ok Try.func39 rfl (c := body39) (by kernel_rfl) (Nat.le_of_ble_eq_true rfl) ?_
  intro E hP hn hx
  replace hn : E.n = 10 := hn
  have hm : E.P.follows .mixedOrders = true := by rw [hP]; exact mixed
  have hΘ : TOK E.P Θ := by rw [hP]; exact Θ_ok
  unfold spec_l18Counts at h
  show WAt E body39 (FQ (RetE Θ Try.f39.results.toList [] [] (B r) E)) [] ⟨[(0, (AV.ro 1 (p1.map o3)))], [], [JJ]⟩
  rcases itS h with ⟨c2, h⟩ | ⟨c4, h⟩
  · obtain ⟨r3, hr3, h⟩ := bnS h
    have h := Option.some.inj h
    subst h
    exact go_ret hΘ hm hP hn (hs := [⟨2, .no, some (I (p1.length : Int))⟩, ⟨4, .no, some (B true)⟩, ⟨6, .callV [] (B r3), none⟩]) (rh := []) (ph := .raw) (ps := [AV.lit (.int .i64 (((p1.map o3).length : Nat) : Int)) = (I (p1.length : Int)), (B ((p1.length : Int) == 5)) = (B true), Meets Try.prog 64 [(AV.ro 1 (p1.map o3)), (I 0), (I 200)] (B r3), litA (B r3) = true, (B r3) = (B r3), litA (B r3) = true]) (by kernel_rfl) ⟨(lenM o3), (litB c2), (spec_l1All_m hr3), rfl, rfl, rfl, trivial⟩
  · have h := Option.some.inj h
    subst h
    exact go_ret hΘ hm hP hn (hs := [⟨2, .no, some (I (p1.length : Int))⟩, ⟨4, .no, some (B false)⟩]) (rh := []) (ph := .raw) (ps := [AV.lit (.int .i64 (((p1.map o3).length : Nat) : Int)) = (I (p1.length : Int)), (B ((p1.length : Int) == 5)) = (B false), (B false) = (B false), litA (B false) = true]) (by kernel_rfl) ⟨(lenM o3), (litB c4), rfl, rfl, trivial⟩
noncomputable def body74 : Code := match Try.f74.body with | some c => c | none => .skip
noncomputable def spec_l9Lock_j1  (p1 : GEvent) (v7 : Bool) : Option Int :=
  if v7 = true then
    some p1.Lock
  else
    some (-2)
theorem spec_l9Lock_j1_m {E : Env} (hP : E.P = Try.prog) (hn : E.n = 15) (hx : ∀ p, p ∈ E.fx → p.1 ∈ ([] : List Nat)) (p1 : GEvent)  (v7 : Bool) (r : Int) (h : spec_l9Lock_j1 p1 v7 = some r) : WAt E body74 (FQ (RetE Θ Try.f74.results.toList [] [] (I r) E)) [true, false, true, false, true, true, true] ⟨[(1, (AV.ptr 1 0 0)), (10, (B v7))], [(1, some ⟨50, 5, [((o50 p1))]⟩)], [1, JJ]⟩ := by
  have hm : E.P.follows .mixedOrders = true := by rw [hP]; exact mixed
  have hΘ : TOK E.P Θ := by rw [hP]; exact Θ_ok
  unfold spec_l9Lock_j1 at h
  rcases itS h with ⟨c8, h⟩ | ⟨c9, h⟩
  · have h := Option.some.inj h
    subst h
    exact go_ret hΘ hm hP hn (hs := [⟨0, .br true, none⟩]) (rh := []) (ph := .raw) (ps := [v7 = true, (I p1.Lock) = (I p1.Lock), litA (I p1.Lock) = true]) (by kernel_rfl) ⟨c8, rfl, rfl, trivial⟩
  · have h := Option.some.inj h
    subst h
    exact go_ret hΘ hm hP hn (hs := [⟨0, .br false, none⟩]) (rh := []) (ph := .raw) (ps := [v7 = false, (I (-2)) = (I (-2)), litA (I (-2)) = true]) (by kernel_rfl) ⟨c9, rfl, rfl, trivial⟩
noncomputable def spec_l9Lock_j0  (p1 : GEvent) (v3 : Bool) : Option Int :=
  if v3 = true then
    some p1.Obj
  else
    if (p1.Kind == 8) = true then
      spec_l9Lock_j1 p1 (p1.Kind == 8)
    else
      spec_l9Lock_j1 p1 (p1.Kind == 9)
theorem spec_l9Lock_j0_m {E : Env} (hP : E.P = Try.prog) (hn : E.n = 15) (hx : ∀ p, p ∈ E.fx → p.1 ∈ ([] : List Nat)) (p1 : GEvent)  (v3 : Bool) (r : Int) (h : spec_l9Lock_j0 p1 v3 = some r) : WAt E body74 (FQ (RetE Θ Try.f74.results.toList [] [] (I r) E)) [true, false, true, false, true] ⟨[(1, (AV.ptr 1 0 0)), (4, (I p1.Kind)), (5, (B v3))], [(1, some ⟨50, 5, [((o50 p1))]⟩)], [1, JJ]⟩ := by
  have hm : E.P.follows .mixedOrders = true := by rw [hP]; exact mixed
  have hΘ : TOK E.P Θ := by rw [hP]; exact Θ_ok
  unfold spec_l9Lock_j0 at h
  rcases itS h with ⟨c4, h⟩ | ⟨c5, h⟩
  · have h := Option.some.inj h
    subst h
    exact go_ret hΘ hm hP hn (hs := [⟨0, .br true, none⟩]) (rh := []) (ph := .raw) (ps := [v3 = true, (I p1.Obj) = (I p1.Obj), litA (I p1.Obj) = true]) (by kernel_rfl) ⟨c4, rfl, rfl, trivial⟩
  · rcases itS h with ⟨c6, h⟩ | ⟨c10, h⟩
    · exact go_to hΘ hm hx hP hn (hs := [⟨0, .br false, none⟩, ⟨3, .br true, none⟩]) (π := [(1, 1)]) (ts := [1, 10]) (kp := []) (ps := [v3 = false, (p1.Kind == 8) = true, RenOK [(1, 1)] [((o50 p1))]]) (by kernel_rfl) ⟨c5, c6, (rok rfl), trivial⟩ (spec_l9Lock_j1_m hP hn hx p1 (p1.Kind == 8) _ h)
    · exact go_to hΘ hm hx hP hn (hs := [⟨0, .br false, none⟩, ⟨3, .br false, none⟩]) (π := [(1, 1)]) (ts := [1, 10]) (kp := []) (ps := [v3 = false, (p1.Kind == 8) = false, RenOK [(1, 1)] [((o50 p1))]]) (by kernel_rfl) ⟨c5, c10, (rok rfl), trivial⟩ (spec_l9Lock_j1_m hP hn hx p1 (p1.Kind == 9) _ h)
noncomputable def spec_l9Lock (p1 : GEvent) : Option Int :=
  if (p1.Kind == 4) = true then
    spec_l9Lock_j0 p1 (p1.Kind == 4)
  else
    spec_l9Lock_j0 p1 (p1.Kind == 5)
theorem spec_l9Lock_m {p1 : GEvent} {r : Int} (h : spec_l9Lock p1 = some r) : Meets Try.prog 74 [(AV.agg ((o50 p1)))] (I r) := by
  refine meets_ofC Θ_ok Try.func74 rfl (c := body74) (by kernel_rfl) (Nat.le_of_ble_eq_true rfl) ?_
  intro E hP hn hx
  replace hn : E.n = 15 := hn
  have hm : E.P.follows .mixedOrders = true := by rw [hP]; exact mixed
  have hΘ : TOK E.P Θ := by rw [hP]; exact Θ_ok
  unfold spec_l9Lock at h
  show WAt E body74 (FQ (RetE Θ Try.f74.results.toList [] [] (I r) E)) [] ⟨[(0, (AV.agg ((o50 p1))))], [], [JJ]⟩
  rcases itS h with ⟨c2, h⟩ | ⟨c11, h⟩
  · exact go_to hΘ hm hx hP hn (hs := [⟨0, .new 1001, none⟩, ⟨6, .br true, none⟩]) (π := [(1001, 1)]) (ts := [1, 4, 5]) (kp := []) (ps := [(p1.Kind == 4) = true, RenOK [(1001, 1)] [((o50 p1))]]) (by kernel_rfl) ⟨c2, (rok rfl), trivial⟩ (spec_l9Lock_j0_m hP hn hx p1 (p1.Kind == 4) _ h)
  · exact go_to hΘ hm hx hP hn (hs := [⟨0, .new 1001, none⟩, ⟨6, .br false, none⟩]) (π := [(1001, 1)]) (ts := [1, 4, 5]) (kp := []) (ps := [(p1.Kind == 4) = false, RenOK [(1001, 1)] [((o50 p1))]]) (by kernel_rfl) ⟨c11, (rok rfl), trivial⟩ (spec_l9Lock_j0_m hP hn hx p1 (p1.Kind == 5) _ h)
noncomputable def body46 : Code := match Try.f46.body with | some c => c | none => .skip
noncomputable def spec_l7Touch (p1 : GEvent) : Option Bool :=
  if (p1.Kind == 2) = true then
    some true
  else
    some (p1.Kind == 3)
theorem spec_l7Touch_m {p1 : GEvent} {r : Bool} (h : spec_l7Touch p1 = some r) : Meets Try.prog 46 [(AV.agg ((o50 p1)))] (B r) := by
  refine meets_ofC Θ_ok Try.func46 rfl (c := body46) (by kernel_rfl) (Nat.le_of_ble_eq_true rfl) ?_
  intro E hP hn hx
  replace hn : E.n = 11 := hn
  have hm : E.P.follows .mixedOrders = true := by rw [hP]; exact mixed
  have hΘ : TOK E.P Θ := by rw [hP]; exact Θ_ok
  unfold spec_l7Touch at h
  show WAt E body46 (FQ (RetE Θ Try.f46.results.toList [] [] (B r) E)) [] ⟨[(0, (AV.agg ((o50 p1))))], [], [JJ]⟩
  rcases itS h with ⟨c2, h⟩ | ⟨c3, h⟩
  · have h := Option.some.inj h
    subst h
    exact go_ret hΘ hm hP hn (hs := [⟨0, .new 1001, none⟩, ⟨5, .no, some (B true)⟩]) (rh := []) (ph := .raw) (ps := [(B (p1.Kind == 2)) = (B true), (B true) = (B true), litA (B true) = true]) (by kernel_rfl) ⟨(litB c2), rfl, rfl, trivial⟩
  · have h := Option.some.inj h
    subst h
    exact go_ret hΘ hm hP hn (hs := [⟨0, .new 1001, none⟩, ⟨5, .no, some (B false)⟩]) (rh := []) (ph := .raw) (ps := [(B (p1.Kind == 2)) = (B false), (B (p1.Kind == 3)) = (B (p1.Kind == 3)), litA (B (p1.Kind == 3)) = true]) (by kernel_rfl) ⟨(litB c3), rfl, rfl, trivial⟩
noncomputable def body84 : Code := match Try.f84.body with | some c => c | none => .skip
noncomputable def spec_l9Cond (p1 : GEvent) : Option Bool :=
  if (p1.Kind == 8) = true then
    some true
  else
    if (p1.Kind == 9) = true then
      some true
    else
      some (p1.Kind == 10)
theorem spec_l9Cond_m {p1 : GEvent} {r : Bool} (h : spec_l9Cond p1 = some r) : Meets Try.prog 84 [(AV.agg ((o50 p1)))] (B r) := by
  refine meets_ofC Θ_ok Try.func84 rfl (c := body84) (by kernel_rfl) (Nat.le_of_ble_eq_true rfl) ?_
  intro E hP hn hx
  replace hn : E.n = 16 := hn
  have hm : E.P.follows .mixedOrders = true := by rw [hP]; exact mixed
  have hΘ : TOK E.P Θ := by rw [hP]; exact Θ_ok
  unfold spec_l9Cond at h
  show WAt E body84 (FQ (RetE Θ Try.f84.results.toList [] [] (B r) E)) [] ⟨[(0, (AV.agg ((o50 p1))))], [], [JJ]⟩
  rcases itS h with ⟨c2, h⟩ | ⟨c3, h⟩
  · have h := Option.some.inj h
    subst h
    exact go_ret hΘ hm hP hn (hs := [⟨0, .new 1001, none⟩, ⟨5, .no, some (B true)⟩]) (rh := []) (ph := .raw) (ps := [(B (p1.Kind == 8)) = (B true), (B true) = (B true), litA (B true) = true]) (by kernel_rfl) ⟨(litB c2), rfl, rfl, trivial⟩
  · rcases itS h with ⟨c4, h⟩ | ⟨c5, h⟩
    · have h := Option.some.inj h
      subst h
      exact go_ret hΘ hm hP hn (hs := [⟨0, .new 1001, none⟩, ⟨5, .no, some (B false)⟩, ⟨10, .no, some (B true)⟩]) (rh := []) (ph := .raw) (ps := [(B (p1.Kind == 8)) = (B false), (B (p1.Kind == 9)) = (B true), (B true) = (B true), litA (B true) = true]) (by kernel_rfl) ⟨(litB c3), (litB c4), rfl, rfl, trivial⟩
    · have h := Option.some.inj h
      subst h
      exact go_ret hΘ hm hP hn (hs := [⟨0, .new 1001, none⟩, ⟨5, .no, some (B false)⟩, ⟨10, .no, some (B false)⟩]) (rh := []) (ph := .raw) (ps := [(B (p1.Kind == 8)) = (B false), (B (p1.Kind == 9)) = (B false), (B (p1.Kind == 10)) = (B (p1.Kind == 10)), litA (B (p1.Kind == 10)) = true]) (by kernel_rfl) ⟨(litB c3), (litB c5), rfl, rfl, trivial⟩
noncomputable def body75 : Code := match Try.f75.body with | some c => c | none => .skip
noncomputable def spec_l9One (p1 : GEvent) (p2 : GEvent) : Option Bool :=
  if (p1.Kind == 3) = true then
    Option.bind (spec_l7Touch p2) fun r4 =>
    if r4 = true then
      some (p1.Obj == p2.Obj)
    else
      some false
  else
    if (p1.Kind == 6) = true then
      if (p2.Kind == 6) = true then
        some true
      else
        some (p2.Thread == p1.Obj)
    else
      if (p1.Kind == 7) = true then
        if (p2.Kind == 11) = true then
          some (p2.Thread == p1.Obj)
        else
          some false
      else
        if (p1.Kind == 10) = true then
          Option.bind (spec_l9Cond p2) fun r17 =>
          if r17 = true then
            if (p1.Obj == p2.Obj) = true then
              some true
            else
              some (p2.Thread == p1.Lock)
          else
            some (p2.Thread == p1.Lock)
        else
          if (p1.Kind == 8) = true then
            Option.bind (spec_l9Cond p2) fun r24 =>
            if r24 = true then
              some (p1.Obj == p2.Obj)
            else
              some false
          else
            some (p1.Kind == 12)
theorem spec_l9One_m {p1 : GEvent} {p2 : GEvent} {r : Bool} (h : spec_l9One p1 p2 = some r) : Meets Try.prog 75 [(AV.agg ((o50 p1))), (AV.agg ((o50 p2)))] (B r) := by
  refine meets_ofC Θ_ok Try.func75 rfl (c := body75) (by kernel_rfl) (Nat.le_of_ble_eq_true rfl) ?_
  intro E hP hn hx
  replace hn : E.n = 74 := hn
  have hm : E.P.follows .mixedOrders = true := by rw [hP]; exact mixed
  have hΘ : TOK E.P Θ := by rw [hP]; exact Θ_ok
  unfold spec_l9One at h
  show WAt E body75 (FQ (RetE Θ Try.f75.results.toList [] [] (B r) E)) [] ⟨[(0, (AV.agg ((o50 p1)))), (1, (AV.agg ((o50 p2))))], [], [JJ]⟩
  rcases itS h with ⟨c3, h⟩ | ⟨c7, h⟩
  · obtain ⟨r4, hr4, h⟩ := bnS h
    rcases itS h with ⟨c5, h⟩ | ⟨c6, h⟩
    · have h := Option.some.inj h
      subst h
      exact go_ret hΘ hm hP hn (hs := [⟨0, .new 1001, none⟩, ⟨1, .new 1002, none⟩, ⟨7, .br true, none⟩, ⟨9, .callV [[]] (B r4), none⟩, ⟨10, .no, some (B true)⟩]) (rh := []) (ph := .raw) (ps := [(p1.Kind == 3) = true, Meets Try.prog 46 [(AV.agg ((o50 p2)))] (B r4), litA (B r4) = true, (B r4) = (B true), (B (p1.Obj == p2.Obj)) = (B (p1.Obj == p2.Obj)), litA (B (p1.Obj == p2.Obj)) = true]) (by kernel_rfl) ⟨c3, (spec_l7Touch_m hr4), rfl, (litB c5), rfl, rfl, trivial⟩
    · have h := Option.some.inj h
      subst h
      exact go_ret hΘ hm hP hn (hs := [⟨0, .new 1001, none⟩, ⟨1, .new 1002, none⟩, ⟨7, .br true, none⟩, ⟨9, .callV [[]] (B r4), none⟩, ⟨10, .no, some (B false)⟩]) (rh := []) (ph := .raw) (ps := [(p1.Kind == 3) = true, Meets Try.prog 46 [(AV.agg ((o50 p2)))] (B r4), litA (B r4) = true, (B r4) = (B false), (B false) = (B false), litA (B false) = true]) (by kernel_rfl) ⟨c3, (spec_l7Touch_m hr4), rfl, (litB c6), rfl, rfl, trivial⟩
  · rcases itS h with ⟨c8, h⟩ | ⟨c11, h⟩
    · rcases itS h with ⟨c9, h⟩ | ⟨c10, h⟩
      · have h := Option.some.inj h
        subst h
        exact go_ret hΘ hm hP hn (hs := [⟨0, .new 1001, none⟩, ⟨1, .new 1002, none⟩, ⟨7, .br false, none⟩, ⟨10, .br true, none⟩, ⟨14, .no, some (B true)⟩]) (rh := []) (ph := .raw) (ps := [(p1.Kind == 3) = false, (p1.Kind == 6) = true, (B (p2.Kind == 6)) = (B true), (B true) = (B true), litA (B true) = true]) (by kernel_rfl) ⟨c7, c8, (litB c9), rfl, rfl, trivial⟩
      · have h := Option.some.inj h
        subst h
        exact go_ret hΘ hm hP hn (hs := [⟨0, .new 1001, none⟩, ⟨1, .new 1002, none⟩, ⟨7, .br false, none⟩, ⟨10, .br true, none⟩, ⟨14, .no, some (B false)⟩]) (rh := []) (ph := .raw) (ps := [(p1.Kind == 3) = false, (p1.Kind == 6) = true, (B (p2.Kind == 6)) = (B false), (B (p2.Thread == p1.Obj)) = (B (p2.Thread == p1.Obj)), litA (B (p2.Thread == p1.Obj)) = true]) (by kernel_rfl) ⟨c7, c8, (litB c10), rfl, rfl, trivial⟩
    · rcases itS h with ⟨c12, h⟩ | ⟨c15, h⟩
      · rcases itS h with ⟨c13, h⟩ | ⟨c14, h⟩
        · have h := Option.some.inj h
          subst h
          exact go_ret hΘ hm hP hn (hs := [⟨0, .new 1001, none⟩, ⟨1, .new 1002, none⟩, ⟨7, .br false, none⟩, ⟨10, .br false, none⟩, ⟨13, .br true, none⟩, ⟨17, .no, some (B true)⟩]) (rh := []) (ph := .raw) (ps := [(p1.Kind == 3) = false, (p1.Kind == 6) = false, (p1.Kind == 7) = true, (B (p2.Kind == 11)) = (B true), (B (p2.Thread == p1.Obj)) = (B (p2.Thread == p1.Obj)), litA (B (p2.Thread == p1.Obj)) = true]) (by kernel_rfl) ⟨c7, c11, c12, (litB c13), rfl, rfl, trivial⟩
        · have h := Option.some.inj h
          subst h
          exact go_ret hΘ hm hP hn (hs := [⟨0, .new 1001, none⟩, ⟨1, .new 1002, none⟩, ⟨7, .br false, none⟩, ⟨10, .br false, none⟩, ⟨13, .br true, none⟩, ⟨17, .no, some (B false)⟩]) (rh := []) (ph := .raw) (ps := [(p1.Kind == 3) = false, (p1.Kind == 6) = false, (p1.Kind == 7) = true, (B (p2.Kind == 11)) = (B false), (B false) = (B false), litA (B false) = true]) (by kernel_rfl) ⟨c7, c11, c12, (litB c14), rfl, rfl, trivial⟩
      · rcases itS h with ⟨c16, h⟩ | ⟨c22, h⟩
        · obtain ⟨r17, hr17, h⟩ := bnS h
          rcases itS h with ⟨c18, h⟩ | ⟨c21, h⟩
          · rcases itS h with ⟨c19, h⟩ | ⟨c20, h⟩
            · have h := Option.some.inj h
              subst h
              exact go_ret hΘ hm hP hn (hs := [⟨0, .new 1001, none⟩, ⟨1, .new 1002, none⟩, ⟨7, .br false, none⟩, ⟨10, .br false, none⟩, ⟨13, .br false, none⟩, ⟨16, .br true, none⟩, ⟨18, .callV [[]] (B r17), none⟩, ⟨19, .no, some (B true)⟩, ⟨26, .no, some (B true)⟩]) (rh := []) (ph := .raw) (ps := [(p1.Kind == 3) = false, (p1.Kind == 6) = false, (p1.Kind == 7) = false, (p1.Kind == 10) = true, Meets Try.prog 84 [(AV.agg ((o50 p2)))] (B r17), litA (B r17) = true, (B r17) = (B true), (B (p1.Obj == p2.Obj)) = (B true), (B true) = (B true), litA (B true) = true]) (by kernel_rfl) ⟨c7, c11, c15, c16, (spec_l9Cond_m hr17), rfl, (litB c18), (litB c19), rfl, rfl, trivial⟩
            · have h := Option.some.inj h
              subst h
              exact go_ret hΘ hm hP hn (hs := [⟨0, .new 1001, none⟩, ⟨1, .new 1002, none⟩, ⟨7, .br false, none⟩, ⟨10, .br false, none⟩, ⟨13, .br false, none⟩, ⟨16, .br true, none⟩, ⟨18, .callV [[]] (B r17), none⟩, ⟨19, .no, some (B true)⟩, ⟨26, .no, some (B false)⟩]) (rh := []) (ph := .raw) (ps := [(p1.Kind == 3) = false, (p1.Kind == 6) = false, (p1.Kind == 7) = false, (p1.Kind == 10) = true, Meets Try.prog 84 [(AV.agg ((o50 p2)))] (B r17), litA (B r17) = true, (B r17) = (B true), (B (p1.Obj == p2.Obj)) = (B false), (B (p2.Thread == p1.Lock)) = (B (p2.Thread == p1.Lock)), litA (B (p2.Thread == p1.Lock)) = true]) (by kernel_rfl) ⟨c7, c11, c15, c16, (spec_l9Cond_m hr17), rfl, (litB c18), (litB c20), rfl, rfl, trivial⟩
          · have h := Option.some.inj h
            subst h
            exact go_ret hΘ hm hP hn (hs := [⟨0, .new 1001, none⟩, ⟨1, .new 1002, none⟩, ⟨7, .br false, none⟩, ⟨10, .br false, none⟩, ⟨13, .br false, none⟩, ⟨16, .br true, none⟩, ⟨18, .callV [[]] (B r17), none⟩, ⟨19, .no, some (B false)⟩]) (rh := []) (ph := .raw) (ps := [(p1.Kind == 3) = false, (p1.Kind == 6) = false, (p1.Kind == 7) = false, (p1.Kind == 10) = true, Meets Try.prog 84 [(AV.agg ((o50 p2)))] (B r17), litA (B r17) = true, (B r17) = (B false), (B (p2.Thread == p1.Lock)) = (B (p2.Thread == p1.Lock)), litA (B (p2.Thread == p1.Lock)) = true]) (by kernel_rfl) ⟨c7, c11, c15, c16, (spec_l9Cond_m hr17), rfl, (litB c21), rfl, rfl, trivial⟩
        · rcases itS h with ⟨c23, h⟩ | ⟨c27, h⟩
          · obtain ⟨r24, hr24, h⟩ := bnS h
            rcases itS h with ⟨c25, h⟩ | ⟨c26, h⟩
            · have h := Option.some.inj h
              subst h
              exact go_ret hΘ hm hP hn (hs := [⟨0, .new 1001, none⟩, ⟨1, .new 1002, none⟩, ⟨7, .br false, none⟩, ⟨10, .br false, none⟩, ⟨13, .br false, none⟩, ⟨16, .br false, none⟩, ⟨19, .br true, none⟩, ⟨21, .callV [[]] (B r24), none⟩, ⟨22, .no, some (B true)⟩]) (rh := []) (ph := .raw) (ps := [(p1.Kind == 3) = false, (p1.Kind == 6) = false, (p1.Kind == 7) = false, (p1.Kind == 10) = false, (p1.Kind == 8) = true, Meets Try.prog 84 [(AV.agg ((o50 p2)))] (B r24), litA (B r24) = true, (B r24) = (B true), (B (p1.Obj == p2.Obj)) = (B (p1.Obj == p2.Obj)), litA (B (p1.Obj == p2.Obj)) = true]) (by kernel_rfl) ⟨c7, c11, c15, c22, c23, (spec_l9Cond_m hr24), rfl, (litB c25), rfl, rfl, trivial⟩
            · have h := Option.some.inj h
              subst h
              exact go_ret hΘ hm hP hn (hs := [⟨0, .new 1001, none⟩, ⟨1, .new 1002, none⟩, ⟨7, .br false, none⟩, ⟨10, .br false, none⟩, ⟨13, .br false, none⟩, ⟨16, .br false, none⟩, ⟨19, .br true, none⟩, ⟨21, .callV [[]] (B r24), none⟩, ⟨22, .no, some (B false)⟩]) (rh := []) (ph := .raw) (ps := [(p1.Kind == 3) = false, (p1.Kind == 6) = false, (p1.Kind == 7) = false, (p1.Kind == 10) = false, (p1.Kind == 8) = true, Meets Try.prog 84 [(AV.agg ((o50 p2)))] (B r24), litA (B r24) = true, (B r24) = (B false), (B false) = (B false), litA (B false) = true]) (by kernel_rfl) ⟨c7, c11, c15, c22, c23, (spec_l9Cond_m hr24), rfl, (litB c26), rfl, rfl, trivial⟩
          · have h := Option.some.inj h
            subst h
            exact go_ret hΘ hm hP hn (hs := [⟨0, .new 1001, none⟩, ⟨1, .new 1002, none⟩, ⟨7, .br false, none⟩, ⟨10, .br false, none⟩, ⟨13, .br false, none⟩, ⟨16, .br false, none⟩, ⟨19, .br false, none⟩]) (rh := []) (ph := .raw) (ps := [(p1.Kind == 3) = false, (p1.Kind == 6) = false, (p1.Kind == 7) = false, (p1.Kind == 10) = false, (p1.Kind == 8) = false, (B (p1.Kind == 12)) = (B (p1.Kind == 12)), litA (B (p1.Kind == 12)) = true]) (by kernel_rfl) ⟨c7, c11, c15, c22, c27, rfl, rfl, trivial⟩
noncomputable def body56 : Code := match Try.f56.body with | some c => c | none => .skip
noncomputable def spec_l9Hang_j0  (p1 : GEvent) (p2 : GEvent)  : Option Bool :=
  Option.bind (spec_l9One p1 p2) fun r11 =>
  if r11 = true then
    some true
  else
    Option.bind (spec_l9One p2 p1) fun r14 =>
    some r14
theorem spec_l9Hang_j0_m {E : Env} (hP : E.P = Try.prog) (hn : E.n = 30) (hx : ∀ p, p ∈ E.fx → p.1 ∈ ([] : List Nat)) (p1 : GEvent) (p2 : GEvent)   (r : Bool) (h : spec_l9Hang_j0 p1 p2  = some r) : WAt E body56 (FQ (RetE Θ Try.f56.results.toList [] [] (B r) E)) [true, false, true, true] ⟨[(2, (AV.ptr 1 0 0)), (3, (AV.ptr 2 0 0))], [(1, some ⟨50, 5, [((o50 p1))]⟩), (2, some ⟨50, 5, [((o50 p2))]⟩)], [1, 2, JJ]⟩ := by
  have hm : E.P.follows .mixedOrders = true := by rw [hP]; exact mixed
  have hΘ : TOK E.P Θ := by rw [hP]; exact Θ_ok
  unfold spec_l9Hang_j0 at h
  obtain ⟨r11, hr11, h⟩ := bnS h
  rcases itS h with ⟨c12, h⟩ | ⟨c13, h⟩
  · have h := Option.some.inj h
    subst h
    exact go_ret hΘ hm hP hn (hs := [⟨2, .callV [[], []] (B r11), none⟩, ⟨3, .no, some (B true)⟩]) (rh := []) (ph := .raw) (ps := [Meets Try.prog 75 [(AV.agg ((o50 p1))), (AV.agg ((o50 p2)))] (B r11), litA (B r11) = true, (B r11) = (B true), (B true) = (B true), litA (B true) = true]) (by kernel_rfl) ⟨(spec_l9One_m hr11), rfl, (litB c12), rfl, rfl, trivial⟩
  · obtain ⟨r14, hr14, h⟩ := bnS h
    have h := Option.some.inj h
    subst h
    exact go_ret hΘ hm hP hn (hs := [⟨2, .callV [[], []] (B r11), none⟩, ⟨3, .no, some (B false)⟩, ⟨6, .callV [[], []] (B r14), none⟩]) (rh := []) (ph := .raw) (ps := [Meets Try.prog 75 [(AV.agg ((o50 p1))), (AV.agg ((o50 p2)))] (B r11), litA (B r11) = true, (B r11) = (B false), Meets Try.prog 75 [(AV.agg ((o50 p2))), (AV.agg ((o50 p1)))] (B r14), litA (B r14) = true, (B r14) = (B r14), litA (B r14) = true]) (by kernel_rfl) ⟨(spec_l9One_m hr11), rfl, (litB c13), (spec_l9One_m hr14), rfl, rfl, rfl, trivial⟩
noncomputable def spec_l9Hang (p1 : GEvent) (p2 : GEvent) : Option Bool :=
  if (p1.Thread == p2.Thread) = true then
    some true
  else
    Option.bind (spec_l9Lock p1) fun r5 =>
    Option.bind (spec_l9Lock p2) fun r6 =>
    if (r5 == r6) = true then
      Option.bind (spec_l9Lock p1) fun r8 =>
      if (r8 != (-2)) = true then
        some true
      else
        spec_l9Hang_j0 p1 p2
    else
      spec_l9Hang_j0 p1 p2
theorem spec_l9Hang_m {p1 : GEvent} {p2 : GEvent} {r : Bool} (h : spec_l9Hang p1 p2 = some r) : Meets Try.prog 56 [(AV.agg ((o50 p1))), (AV.agg ((o50 p2)))] (B r) := by
  refine meets_ofC Θ_ok Try.func56 rfl (c := body56) (by kernel_rfl) (Nat.le_of_ble_eq_true rfl) ?_
  intro E hP hn hx
  replace hn : E.n = 30 := hn
  have hm : E.P.follows .mixedOrders = true := by rw [hP]; exact mixed
  have hΘ : TOK E.P Θ := by rw [hP]; exact Θ_ok
  unfold spec_l9Hang at h
  show WAt E body56 (FQ (RetE Θ Try.f56.results.toList [] [] (B r) E)) [] ⟨[(0, (AV.agg ((o50 p1)))), (1, (AV.agg ((o50 p2))))], [], [JJ]⟩
  rcases itS h with ⟨c3, h⟩ | ⟨c4, h⟩
  · have h := Option.some.inj h
    subst h
    exact go_ret hΘ hm hP hn (hs := [⟨0, .new 1001, none⟩, ⟨1, .new 1002, none⟩, ⟨8, .no, some (B true)⟩]) (rh := []) (ph := .raw) (ps := [(B (p1.Thread == p2.Thread)) = (B true), (B true) = (B true), litA (B true) = true]) (by kernel_rfl) ⟨(litB c3), rfl, rfl, trivial⟩
  · obtain ⟨r5, hr5, h⟩ := bnS h
    obtain ⟨r6, hr6, h⟩ := bnS h
    rcases itS h with ⟨c7, h⟩ | ⟨c15, h⟩
    · obtain ⟨r8, hr8, h⟩ := bnS h
      rcases itS h with ⟨c9, h⟩ | ⟨c10, h⟩
      · have h := Option.some.inj h
        subst h
        exact go_ret hΘ hm hP hn (hs := [⟨0, .new 1001, none⟩, ⟨1, .new 1002, none⟩, ⟨8, .no, some (B false)⟩, ⟨10, .callV [[]] (I r5), none⟩, ⟨12, .callV [[]] (I r6), none⟩, ⟨14, .no, some (B true)⟩, ⟨16, .callV [[]] (I r8), none⟩, ⟨20, .br true, none⟩]) (rh := []) (ph := .raw) (ps := [(B (p1.Thread == p2.Thread)) = (B false), Meets Try.prog 74 [(AV.agg ((o50 p1)))] (I r5), litA (I r5) = true, Meets Try.prog 74 [(AV.agg ((o50 p2)))] (I r6), litA (I r6) = true, (B (r5 == r6)) = (B true), Meets Try.prog 74 [(AV.agg ((o50 p1)))] (I r8), litA (I r8) = true, (r8 != (-2)) = true, (B true) = (B true), litA (B true) = true]) (by kernel_rfl) ⟨(litB c4), (spec_l9Lock_m hr5), rfl, (spec_l9Lock_m hr6), rfl, (litB c7), (spec_l9Lock_m hr8), rfl, c9, rfl, rfl, trivial⟩
      · exact go_to hΘ hm hx hP hn (hs := [⟨0, .new 1001, none⟩, ⟨1, .new 1002, none⟩, ⟨8, .no, some (B false)⟩, ⟨10, .callV [[]] (I r5), none⟩, ⟨12, .callV [[]] (I r6), none⟩, ⟨14, .no, some (B true)⟩, ⟨16, .callV [[]] (I r8), none⟩, ⟨20, .br false, none⟩]) (π := [(1001, 1), (1002, 2)]) (ts := [2, 3]) (kp := []) (ps := [(B (p1.Thread == p2.Thread)) = (B false), Meets Try.prog 74 [(AV.agg ((o50 p1)))] (I r5), litA (I r5) = true, Meets Try.prog 74 [(AV.agg ((o50 p2)))] (I r6), litA (I r6) = true, (B (r5 == r6)) = (B true), Meets Try.prog 74 [(AV.agg ((o50 p1)))] (I r8), litA (I r8) = true, (r8 != (-2)) = false, RenOK [(1001, 1), (1002, 2)] [((o50 p1))], RenOK [(1001, 1), (1002, 2)] [((o50 p2))]]) (by kernel_rfl) ⟨(litB c4), (spec_l9Lock_m hr5), rfl, (spec_l9Lock_m hr6), rfl, (litB c7), (spec_l9Lock_m hr8), rfl, c10, (rok rfl), (rok rfl), trivial⟩ (spec_l9Hang_j0_m hP hn hx p1 p2  _ h)
    · exact go_to hΘ hm hx hP hn (hs := [⟨0, .new 1001, none⟩, ⟨1, .new 1002, none⟩, ⟨8, .no, some (B false)⟩, ⟨10, .callV [[]] (I r5), none⟩, ⟨12, .callV [[]] (I r6), none⟩, ⟨14, .no, some (B false)⟩]) (π := [(1001, 1), (1002, 2)]) (ts := [2, 3]) (kp := []) (ps := [(B (p1.Thread == p2.Thread)) = (B false), Meets Try.prog 74 [(AV.agg ((o50 p1)))] (I r5), litA (I r5) = true, Meets Try.prog 74 [(AV.agg ((o50 p2)))] (I r6), litA (I r6) = true, (B (r5 == r6)) = (B false), RenOK [(1001, 1), (1002, 2)] [((o50 p1))], RenOK [(1001, 1), (1002, 2)] [((o50 p2))]]) (by kernel_rfl) ⟨(litB c4), (spec_l9Lock_m hr5), rfl, (spec_l9Lock_m hr6), rfl, (litB c15), (rok rfl), (rok rfl), trivial⟩ (spec_l9Hang_j0_m hP hn hx p1 p2  _ h)
noncomputable def body41 : Code := match Try.f41.body with | some c => c | none => .skip
noncomputable def spec_l18Is_l1 (K0 : Int → Option Bool) (p1 : (List GEvent)) (p2 : (List Bool)) (v3 : Int) (l6 : (List GEvent)) : Nat → GEvent → Int → Option Bool
  | 0, _, _ => none
  | n + 1, a7, v8 =>
  if (decide (v8 < (l6.length : Int))) = true then
    Option.bind (rd l6 v8) fun x10 =>
    Option.bind (rd p2 v3) fun x11 =>
    if x11 = true then
      Option.bind (rd p2 v8) fun x13 =>
      if (!x13) = true then
        Option.bind (spec_l9Hang x10 a7) fun r15 =>
        if r15 = true then
          some false
        else
          spec_l18Is_l1 K0 p1 p2 v3 l6 n a7 (w64 (v8 + 1))
      else
        spec_l18Is_l1 K0 p1 p2 v3 l6 n a7 (w64 (v8 + 1))
    else
      spec_l18Is_l1 K0 p1 p2 v3 l6 n a7 (w64 (v8 + 1))
  else
    K0 (w64 (v3 + 1))
theorem spec_l18Is_l1_m {E : Env} (hP : E.P = Try.prog) (hn : E.n = 43) (hx : ∀ p, p ∈ E.fx → p.1 ∈ ([] : List Nat)) (p1 : (List GEvent)) (p2 : (List Bool)) (v3 : Int) (l6 : (List GEvent)) {K0 : Int → Option Bool} (hK0 : ∀ (v3 : Int) (r : Bool), K0 v3 = some r → WAt E body41 (FQ (RetE Θ Try.f41.results.toList [] [] (B r) E)) [true, false, true, false] ⟨[(0, (AV.ro 5 (p1.map o50))), (1, (AV.ro 1 (p2.map o4))), (9, (AV.ro 5 (p1.map o50))), (10, (I (p1.length : Int))), (11, (I v3))], [], [JJ]⟩) : ∀ (n : Nat) (a7 : GEvent) (v8 : Int) (r : Bool), spec_l18Is_l1 K0 p1 p2 v3 l6 n a7 v8 = some r → WAt E body41 (FQ (RetE Θ Try.f41.results.toList [] [] (B r) E)) [true, false, true, false, false, true, true, false, false, true, true, false] ⟨[(0, (AV.ro 5 (p1.map o50))), (1, (AV.ro 1 (p2.map o4))), (5, (I v3)), (6, (AV.ptr 1 0 0)), (9, (AV.ro 5 (p1.map o50))), (10, (I (p1.length : Int))), (11, (I v3)), (18, (AV.ro 5 (l6.map o50))), (19, (I (l6.length : Int))), (20, (I v8))], [(1, some ⟨50, 5, [((o50 a7))]⟩)], [1, JJ]⟩ := by
  have hm : E.P.follows .mixedOrders = true := by rw [hP]; exact mixed
  have hΘ : TOK E.P Θ := by rw [hP]; exact Θ_ok
  intro n
  induction n with
  | zero => intro a7 v8 r h; simp only [spec_l18Is_l1] at h; cases h
  | succ n ih =>
    intro a7 v8 r h
    simp only [spec_l18Is_l1] at h
    rcases itS h with ⟨c9, h⟩ | ⟨c20, h⟩
    · obtain ⟨x10, hx10, h⟩ := bnS h
      obtain ⟨x11, hx11, h⟩ := bnS h
      rcases itS h with ⟨c12, h⟩ | ⟨c19, h⟩
      · obtain ⟨x13, hx13, h⟩ := bnS h
        rcases itS h with ⟨c14, h⟩ | ⟨c18, h⟩
        · obtain ⟨r15, hr15, h⟩ := bnS h
          rcases itS h with ⟨c16, h⟩ | ⟨c17, h⟩
          · have h := Option.some.inj h
            subst h
            exact go_ret hΘ hm hP hn (hs := [⟨1, .br true, none⟩, ⟨3, .row (o50 x10), none⟩, ⟨5, .new 1001, none⟩, ⟨10, .row (o4 x11), none⟩, ⟨12, .no, some (B true)⟩, ⟨15, .row (o4 x13), none⟩, ⟨19, .no, some (B true)⟩, ⟨22, .callV [[], []] (B r15), none⟩, ⟨24, .br true, none⟩]) (rh := []) (ph := .raw) (ps := [(decide (v8 < (l6.length : Int))) = true, (0 : Int) ≤ v8, (l6.map o50)[(Int.toNat v8)]? = some (o50 x10), (0 : Int) ≤ v3, (p2.map o4)[(Int.toNat v3)]? = some (o4 x11), (B x11) = (B true), (0 : Int) ≤ v8, (p2.map o4)[(Int.toNat v8)]? = some (o4 x13), (B (!x13)) = (B true), Meets Try.prog 56 [(AV.agg ((o50 x10))), (AV.agg ((o50 a7)))] (B r15), litA (B r15) = true, r15 = true, (B false) = (B false), litA (B false) = true]) (by kernel_rfl) ⟨c9, (rd0 hx10), (rdM o50 hx10), (rd0 hx11), (rdM o4 hx11), (litB c12), (rd0 hx13), (rdM o4 hx13), (litB c14), (spec_l9Hang_m hr15), rfl, c16, rfl, rfl, trivial⟩
          · exact go_to hΘ hm hx hP hn (hs := [⟨1, .br true, none⟩, ⟨3, .row (o50 x10), none⟩, ⟨5, .new 1001, none⟩, ⟨10, .row (o4 x11), none⟩, ⟨12, .no, some (B true)⟩, ⟨15, .row (o4 x13), none⟩, ⟨19, .no, some (B true)⟩, ⟨22, .callV [[], []] (B r15), none⟩, ⟨24, .br false, none⟩]) (π := [(1, 1)]) (ts := [0, 1, 5, 6, 9, 10, 11, 18, 19, 20]) (kp := []) (ps := [(decide (v8 < (l6.length : Int))) = true, (0 : Int) ≤ v8, (l6.map o50)[(Int.toNat v8)]? = some (o50 x10), (0 : Int) ≤ v3, (p2.map o4)[(Int.toNat v3)]? = some (o4 x11), (B x11) = (B true), (0 : Int) ≤ v8, (p2.map o4)[(Int.toNat v8)]? = some (o4 x13), (B (!x13)) = (B true), Meets Try.prog 56 [(AV.agg ((o50 x10))), (AV.agg ((o50 a7)))] (B r15), litA (B r15) = true, r15 = false, RenOK [(1, 1)] [((o50 a7))]]) (by kernel_rfl) ⟨c9, (rd0 hx10), (rdM o50 hx10), (rd0 hx11), (rdM o4 hx11), (litB c12), (rd0 hx13), (rdM o4 hx13), (litB c14), (spec_l9Hang_m hr15), rfl, c17, (rok rfl), trivial⟩ (ih a7 (w64 (v8 + 1)) _ h)
        · exact go_to hΘ hm hx hP hn (hs := [⟨1, .br true, none⟩, ⟨3, .row (o50 x10), none⟩, ⟨5, .new 1001, none⟩, ⟨10, .row (o4 x11), none⟩, ⟨12, .no, some (B true)⟩, ⟨15, .row (o4 x13), none⟩, ⟨19, .no, some (B false)⟩]) (π := [(1, 1)]) (ts := [0, 1, 5, 6, 9, 10, 11, 18, 19, 20]) (kp := []) (ps := [(decide (v8 < (l6.length : Int))) = true, (0 : Int) ≤ v8, (l6.map o50)[(Int.toNat v8)]? = some (o50 x10), (0 : Int) ≤ v3, (p2.map o4)[(Int.toNat v3)]? = some (o4 x11), (B x11) = (B true), (0 : Int) ≤ v8, (p2.map o4)[(Int.toNat v8)]? = some (o4 x13), (B (!x13)) = (B false), RenOK [(1, 1)] [((o50 a7))]]) (by kernel_rfl) ⟨c9, (rd0 hx10), (rdM o50 hx10), (rd0 hx11), (rdM o4 hx11), (litB c12), (rd0 hx13), (rdM o4 hx13), (litB c18), (rok rfl), trivial⟩ (ih a7 (w64 (v8 + 1)) _ h)
      · exact go_to hΘ hm hx hP hn (hs := [⟨1, .br true, none⟩, ⟨3, .row (o50 x10), none⟩, ⟨5, .new 1001, none⟩, ⟨10, .row (o4 x11), none⟩, ⟨12, .no, some (B false)⟩]) (π := [(1, 1)]) (ts := [0, 1, 5, 6, 9, 10, 11, 18, 19, 20]) (kp := []) (ps := [(decide (v8 < (l6.length : Int))) = true, (0 : Int) ≤ v8, (l6.map o50)[(Int.toNat v8)]? = some (o50 x10), (0 : Int) ≤ v3, (p2.map o4)[(Int.toNat v3)]? = some (o4 x11), (B x11) = (B false), RenOK [(1, 1)] [((o50 a7))]]) (by kernel_rfl) ⟨c9, (rd0 hx10), (rdM o50 hx10), (rd0 hx11), (rdM o4 hx11), (litB c19), (rok rfl), trivial⟩ (ih a7 (w64 (v8 + 1)) _ h)
    · exact go_to hΘ hm hx hP hn (hs := [⟨1, .br false, none⟩]) (π := []) (ts := [0, 1, 9, 10, 11]) (kp := []) (ps := [(decide (v8 < (l6.length : Int))) = false]) (by kernel_rfl) ⟨c20, trivial⟩ (hK0 (w64 (v3 + 1)) _ h)
noncomputable def spec_l18Is_l0  (p1 : (List GEvent)) (p2 : (List Bool)) : Nat → Int → Option Bool
  | 0, _ => none
  | n + 1, v3 =>
  if (decide (v3 < (p1.length : Int))) = true then
    Option.bind (rd p1 v3) fun x5 =>
    Option.bind (slc p1 0 v3) fun l6 =>
    spec_l18Is_l1 (spec_l18Is_l0 p1 p2 n) p1 p2 v3 l6 FU x5 0
  else
    some true
theorem spec_l18Is_l0_m {E : Env} (hP : E.P = Try.prog) (hn : E.n = 43) (hx : ∀ p, p ∈ E.fx → p.1 ∈ ([] : List Nat)) (p1 : (List GEvent)) (p2 : (List Bool))  : ∀ (n : Nat) (v3 : Int) (r : Bool), spec_l18Is_l0 p1 p2 n v3 = some r → WAt E body41 (FQ (RetE Θ Try.f41.results.toList [] [] (B r) E)) [true, false, true, false] ⟨[(0, (AV.ro 5 (p1.map o50))), (1, (AV.ro 1 (p2.map o4))), (9, (AV.ro 5 (p1.map o50))), (10, (I (p1.length : Int))), (11, (I v3))], [], [JJ]⟩ := by
  have hm : E.P.follows .mixedOrders = true := by rw [hP]; exact mixed
  have hΘ : TOK E.P Θ := by rw [hP]; exact Θ_ok
  intro n
  induction n with
  | zero => intro v3 r h; simp only [spec_l18Is_l0] at h; cases h
  | succ n ih =>
    intro v3 r h
    simp only [spec_l18Is_l0] at h
    rcases itS h with ⟨c4, h⟩ | ⟨c21, h⟩
    · obtain ⟨x5, hx5, h⟩ := bnS h
      obtain ⟨l6, hl6, h⟩ := bnS h
      exact go_to hΘ hm hx hP hn (hs := [⟨1, .br true, none⟩, ⟨3, .row (o50 x5), none⟩, ⟨5, .new 1001, none⟩, ⟨10, .no, some (AV.ro 5 (l6.map o50))⟩, ⟨11, .no, some (I (l6.length : Int))⟩]) (π := [(1001, 1)]) (ts := [0, 1, 5, 6, 9, 10, 11, 18, 19, 20]) (kp := []) (ps := [(decide (v3 < (p1.length : Int))) = true, (0 : Int) ≤ v3, (p1.map o50)[(Int.toNat v3)]? = some (o50 x5), AV.ro 5 (((p1.map o50).drop (Int.toNat 0)).take (subO (Int.toNat v3) (Int.toNat 0))) = (AV.ro 5 (l6.map o50)), (0 : Int) ≤ 0, 0 ≤ v3, v3 ≤ (((p1.map o50).length : Nat) : Int), AV.lit (.int .i64 (((l6.map o50).length : Nat) : Int)) = (I (l6.length : Int)), RenOK [(1001, 1)] [((o50 x5))]]) (by kernel_rfl) ⟨c4, (rd0 hx5), (rdM o50 hx5), (slM 5 o50 hl6), (sl0 hl6), (sl1 hl6), (sl2 o50 hl6), (lenM o50), (rok rfl), trivial⟩ (spec_l18Is_l1_m hP hn hx p1 p2 v3 l6 ih FU x5 0 _ h)
    · have h := Option.some.inj h
      subst h
      exact go_ret hΘ hm hP hn (hs := [⟨1, .br false, none⟩]) (rh := []) (ph := .raw) (ps := [(decide (v3 < (p1.length : Int))) = false, (B true) = (B true), litA (B true) = true]) (by kernel_rfl) ⟨c21, rfl, rfl, trivial⟩
noncomputable def spec_l18Is (p1 : (List GEvent)) (p2 : (List Bool)) : Option Bool :=
  spec_l18Is_l0 p1 p2 FU 0
theorem spec_l18Is_m {p1 : (List GEvent)} {p2 : (List Bool)} {r : Bool} (h : spec_l18Is p1 p2 = some r) : Meets Try.prog 41 [(AV.ro 5 (p1.map o50)), (AV.ro 1 (p2.map o4))] (B r) := by
  refine meets_ofC Θ_ok Try.func41 rfl (c := body41) (by kernel_rfl) (Nat.le_of_ble_eq_true rfl) ?_
  intro E hP hn hx
  replace hn : E.n = 43 := hn
  have hm : E.P.follows .mixedOrders = true := by rw [hP]; exact mixed
  have hΘ : TOK E.P Θ := by rw [hP]; exact Θ_ok
  unfold spec_l18Is at h
  show WAt E body41 (FQ (RetE Θ Try.f41.results.toList [] [] (B r) E)) [] ⟨[(0, (AV.ro 5 (p1.map o50))), (1, (AV.ro 1 (p2.map o4)))], [], [JJ]⟩
  exact go_to hΘ hm hx hP hn (hs := [⟨2, .no, some (I (p1.length : Int))⟩]) (π := []) (ts := [0, 1, 9, 10, 11]) (kp := []) (ps := [AV.lit (.int .i64 (((p1.map o50).length : Nat) : Int)) = (I (p1.length : Int))]) (by kernel_rfl) ⟨(lenM o50), trivial⟩ (spec_l18Is_l0_m hP hn hx p1 p2 FU 0 _ h)
noncomputable def body40 : Code := match Try.f40.body with | some c => c | none => .skip
noncomputable def spec_l18Within_l1  (p2 : (List Int)) (a4 : (List Int)) (a5 : (List Bool)) : Nat → Int → Option ((List Bool) × Bool)
  | 0, _ => none
  | n + 1, v13 =>
  if (decide (v13 < (p2.length : Int))) = true then
    Option.bind (rd p2 v13) fun x15 =>
    Option.bind (rd a4 v13) fun x16 =>
    if (decide (x15 > x16)) = true then
      some ([], false)
    else
      spec_l18Within_l1 p2 a4 a5 n (w64 (v13 + 1))
  else
    some (a5, true)
theorem spec_l18Within_l1_m {E : Env} (hP : E.P = Try.prog) (hn : E.n = 56) (hx : ∀ p, p ∈ E.fx → p.1 ∈ ([] : List Nat)) (p2 : (List Int)) (a4 : (List Int)) (a5 : (List Bool))  : ∀ (n : Nat) (v13 : Int) (r : ((List Bool) × Bool)), spec_l18Within_l1 p2 a4 a5 n v13 = some r → WAt E body40 (FQ (RetE Θ Try.f40.results.toList [] [] (AV.tup [(AV.own 4 1 (r.1.map o4)), (B r.2)]) E)) [true, true, true, true, false, true, false] ⟨[(6, (AV.sl 1 0 (List.length (a4.map o3)))), (7, (AV.sl 2 0 (List.length (a5.map o4)))), (41, (AV.ro 1 (p2.map o3))), (42, (I (p2.length : Int))), (43, (I v13))], [(1, some ⟨3, 1, (a4.map o3)⟩), (2, some ⟨4, 1, (a5.map o4)⟩)], [1, 2, JJ]⟩ := by
  have hm : E.P.follows .mixedOrders = true := by rw [hP]; exact mixed
  have hΘ : TOK E.P Θ := by rw [hP]; exact Θ_ok
  intro n
  induction n with
  | zero => intro v13 r h; simp only [spec_l18Within_l1] at h; cases h
  | succ n ih =>
    intro v13 r h
    simp only [spec_l18Within_l1] at h
    rcases itS h with ⟨c14, h⟩ | ⟨c19, h⟩
    · obtain ⟨x15, hx15, h⟩ := bnS h
      obtain ⟨x16, hx16, h⟩ := bnS h
      rcases itS h with ⟨c17, h⟩ | ⟨c18, h⟩
      · have h := Option.some.inj h
        subst h
        exact go_ret hΘ hm hP hn (hs := [⟨1, .br true, none⟩, ⟨3, .row (o3 x15), none⟩, ⟨11, .row [(I x16)], none⟩, ⟨13, .br true, none⟩]) (rh := []) (ph := .agg [.own, .raw]) (ps := [(decide (v13 < (p2.length : Int))) = true, (0 : Int) ≤ v13, (p2.map o3)[(Int.toNat v13)]? = some (o3 x15), (0 : Int) ≤ v13, v13 < (((List.length (a4.map o3)) : Nat) : Int), (a4.map o3)[(Int.toNat v13)]? = some [(I x16)], (decide (x15 > x16)) = true, (B false) = (B false), litA (B false) = true]) (by kernel_rfl) ⟨c14, (rd0 hx15), (rdM o3 hx15), (rd0 hx16), (rdL o3 hx16), (rdM o3 hx16), c17, rfl, rfl, trivial⟩
      · exact go_to hΘ hm hx hP hn (hs := [⟨1, .br true, none⟩, ⟨3, .row (o3 x15), none⟩, ⟨11, .row [(I x16)], none⟩, ⟨13, .br false, none⟩]) (π := [(1, 1), (2, 2)]) (ts := [6, 7, 41, 42, 43]) (kp := []) (ps := [(decide (v13 < (p2.length : Int))) = true, (0 : Int) ≤ v13, (p2.map o3)[(Int.toNat v13)]? = some (o3 x15), (0 : Int) ≤ v13, v13 < (((List.length (a4.map o3)) : Nat) : Int), (a4.map o3)[(Int.toNat v13)]? = some [(I x16)], (decide (x15 > x16)) = false, RenOK [(1, 1), (2, 2)] (a4.map o3), RenOK [(1, 1), (2, 2)] (a5.map o4)]) (by kernel_rfl) ⟨c14, (rd0 hx15), (rdM o3 hx15), (rd0 hx16), (rdL o3 hx16), (rdM o3 hx16), c18, (rok (treeM t3)), (rok (treeM t4)), trivial⟩ (ih (w64 (v13 + 1)) _ h)
    · have h := Option.some.inj h
      subst h
      exact go_ret hΘ hm hP hn (hs := [⟨1, .br false, none⟩]) (rh := []) (ph := .agg [.own, .raw]) (ps := [(decide (v13 < (p2.length : Int))) = false, treeLL ((a5.map o4).take (List.length (a5.map o4))) = true, (a5.map o4).take (List.length (a5.map o4)) = (a5.map o4), noRoLL (a5.map o4) = true, (B true) = (B true), litA (B true) = true]) (by kernel_rfl) ⟨c19, (treeT t4), takeM, (noRoM n4), rfl, rfl, trivial⟩
noncomputable def spec_l18Within_l0  (p1 : (List GEvent)) (p2 : (List Int)) : Nat → (List Int) → (List Bool) → Int → Option ((List Bool) × Bool)
  | 0, _, _, _ => none
  | n + 1, a4, a5, v6 =>
  if (decide (v6 < (p1.length : Int))) = true then
    Option.bind (rd p1 v6) fun x8 =>
    Option.bind (rd a4 x8.Thread) fun x9 =>
    Option.bind (rd p2 x8.Thread) fun x10 =>
    Option.bind (app a5 [(decide ((w64 (x9 + 1)) ≤ x10))]) fun l11 =>
    spec_l18Within_l0 p1 p2 n (a4.set (Int.toNat x8.Thread) (w64 (x9 + 1))) l11 (w64 (v6 + 1))
  else
    spec_l18Within_l1 p2 a4 a5 FU 0
theorem spec_l18Within_l0_m {E : Env} (hP : E.P = Try.prog) (hn : E.n = 56) (hx : ∀ p, p ∈ E.fx → p.1 ∈ ([] : List Nat)) (p1 : (List GEvent)) (p2 : (List Int))  : ∀ (n : Nat) (a4 : (List Int)) (a5 : (List Bool)) (v6 : Int) (r : ((List Bool) × Bool)), spec_l18Within_l0 p1 p2 n a4 a5 v6 = some r → WAt E body40 (FQ (RetE Θ Try.f40.results.toList [] [] (AV.tup [(AV.own 4 1 (r.1.map o4)), (B r.2)]) E)) [true, true, true, false, true, false] ⟨[(1, (AV.ro 1 (p2.map o3))), (6, (AV.sl 1 0 (List.length (a4.map o3)))), (7, (AV.sl 2 0 (List.length (a5.map o4)))), (13, (AV.ro 5 (p1.map o50))), (14, (I (p1.length : Int))), (15, (I v6))], [(1, some ⟨3, 1, (a4.map o3)⟩), (2, some ⟨4, 1, (a5.map o4)⟩)], [1, 2, JJ]⟩ := by
  have hm : E.P.follows .mixedOrders = true := by rw [hP]; exact mixed
  have hΘ : TOK E.P Θ := by rw [hP]; exact Θ_ok
  intro n
  induction n with
  | zero => intro a4 a5 v6 r h; simp only [spec_l18Within_l0] at h; cases h
  | succ n ih =>
    intro a4 a5 v6 r h
    simp only [spec_l18Within_l0] at h
    rcases itS h with ⟨c7, h⟩ | ⟨c12, h⟩
    · obtain ⟨x8, hx8, h⟩ := bnS h
      obtain ⟨x9, hx9, h⟩ := bnS h
      obtain ⟨x10, hx10, h⟩ := bnS h
      obtain ⟨l11, hl11, h⟩ := bnS h
      exact go_to hΘ hm hx hP hn (hs := [⟨1, .br true, none⟩, ⟨2, .row (o50 x8), none⟩, ⟨4, .new 1001, none⟩, ⟨10, .row [(I x9)], none⟩, ⟨13, .sto [(I x9)] ((a4.set (Int.toNat x8.Thread) (w64 (x9 + 1))).map o3), none⟩, ⟨14, .slen 6 (List.length ((a4.set (Int.toNat x8.Thread) (w64 (x9 + 1))).map o3)), none⟩, ⟨19, .row [(I (w64 (x9 + 1)))], none⟩, ⟨23, .row (o3 x10), none⟩, ⟨26, .new 1002, none⟩, ⟨28, .app 1003 (l11.map o4), none⟩]) (π := [(1, 1), (1003, 2)]) (ts := [1, 6, 7, 13, 14, 15]) (kp := []) (ps := [(decide (v6 < (p1.length : Int))) = true, (0 : Int) ≤ v6, (p1.map o50)[(Int.toNat v6)]? = some (o50 x8), (0 : Int) ≤ x8.Thread, x8.Thread < (((List.length (a4.map o3)) : Nat) : Int), (a4.map o3)[(Int.toNat x8.Thread)]? = some [(I x9)], (0 : Int) ≤ x8.Thread, x8.Thread < (((List.length (a4.map o3)) : Nat) : Int), (a4.map o3)[(Int.toNat x8.Thread)]? = some [(I x9)], (a4.map o3).set (Int.toNat x8.Thread) (wr [(I x9)] 0 [(I (w64 (x9 + 1)))]) = ((a4.set (Int.toNat x8.Thread) (w64 (x9 + 1))).map o3), [(I (w64 (x9 + 1)))].length = 1, 0 + [(I (w64 (x9 + 1)))].length ≤ [(I x9)].length, (List.length (a4.map o3)) = (List.length ((a4.set (Int.toNat x8.Thread) (w64 (x9 + 1))).map o3)), (0 : Int) ≤ x8.Thread, x8.Thread < (((List.length ((a4.set (Int.toNat x8.Thread) (w64 (x9 + 1))).map o3)) : Nat) : Int), ((a4.set (Int.toNat x8.Thread) (w64 (x9 + 1))).map o3)[(Int.toNat x8.Thread)]? = some [(I (w64 (x9 + 1)))], (0 : Int) ≤ x8.Thread, (p2.map o3)[(Int.toNat x8.Thread)]? = some (o3 x10), (AV.sl 2 0 (List.length (a5.map o4))) = (AV.sl 2 0 (List.length (a5.map o4))), (a5.map o4).take (List.length (a5.map o4)) ++ ((([(decide ((w64 (x9 + 1)) ≤ x10))].map o4).drop 0).take (List.length ([(decide ((w64 (x9 + 1)) ≤ x10))].map o4))) = (l11.map o4), ((([(decide ((w64 (x9 + 1)) ≤ x10))].map o4).drop 0).take (List.length ([(decide ((w64 (x9 + 1)) ≤ x10))].map o4))).all (fun r => r.all AV.plain) = true, (List.length (l11.map o4)) * 1 ≤ 140737488355328, (List.length (l11.map o4)) ≤ 140737488355328, RenOK [(1, 1), (1003, 2)] ((a4.set (Int.toNat x8.Thread) (w64 (x9 + 1))).map o3), RenOK [(1, 1), (1003, 2)] (l11.map o4)]) (by kernel_rfl) ⟨c7, (rd0 hx8), (rdM o50 hx8), (rd0 hx9), (rdL o3 hx9), (rdM o3 hx9), (rd0 hx9), (rdL o3 hx9), (rdM o3 hx9), (setM o3), rfl, (Nat.le_of_ble_eq_true rfl), (by first | exact lnSet _ | exact lnSet2 _ | simp only [List.length_map, List.length_set, List.length_cons, List.length_nil]), (rd0 hx9), (rdL o3 (rdS (y := (w64 (x9 + 1))) hx9)), (rdM o3 (rdS (y := (w64 (x9 + 1))) hx9)), (rd0 hx10), (rdM o3 hx10), rfl, (appTD o4 hl11), (plD p4), (appB o4 hl11 (by decide)), (appC o4 hl11), (rok (treeM t3)), (rok (treeM t4)), trivial⟩ (ih (a4.set (Int.toNat x8.Thread) (w64 (x9 + 1))) l11 (w64 (v6 + 1)) _ h)
    · exact go_to hΘ hm hx hP hn (hs := [⟨1, .br false, none⟩, ⟨3, .no, some (I (p2.length : Int))⟩]) (π := [(1, 1), (2, 2)]) (ts := [6, 7, 41, 42, 43]) (kp := []) (ps := [(decide (v6 < (p1.length : Int))) = false, AV.lit (.int .i64 (((p2.map o3).length : Nat) : Int)) = (I (p2.length : Int)), RenOK [(1, 1), (2, 2)] (a4.map o3), RenOK [(1, 1), (2, 2)] (a5.map o4)]) (by kernel_rfl) ⟨c12, (lenM o3), (rok (treeM t3)), (rok (treeM t4)), trivial⟩ (spec_l18Within_l1_m hP hn hx p2 a4 a5 FU 0 _ h)
noncomputable def spec_l18Within (p1 : (List GEvent)) (p2 : (List Int)) : Option ((List Bool) × Bool) :=
  Option.bind (mk 0 5) fun l3 =>
  spec_l18Within_l0 p1 p2 FU l3 [] 0
theorem spec_l18Within_m {p1 : (List GEvent)} {p2 : (List Int)} {r : ((List Bool) × Bool)} (h : spec_l18Within p1 p2 = some r) : Meets Try.prog 40 [(AV.ro 5 (p1.map o50)), (AV.ro 1 (p2.map o3))] (AV.tup [(AV.own 4 1 (r.1.map o4)), (B r.2)]) := by
  refine meets_ofC Θ_ok Try.func40 rfl (c := body40) (by kernel_rfl) (Nat.le_of_ble_eq_true rfl) ?_
  intro E hP hn hx
  replace hn : E.n = 56 := hn
  have hm : E.P.follows .mixedOrders = true := by rw [hP]; exact mixed
  have hΘ : TOK E.P Θ := by rw [hP]; exact Θ_ok
  unfold spec_l18Within at h
  show WAt E body40 (FQ (RetE Θ Try.f40.results.toList [] [] (AV.tup [(AV.own 4 1 (r.1.map o4)), (B r.2)]) E)) [] ⟨[(0, (AV.ro 5 (p1.map o50))), (1, (AV.ro 1 (p2.map o3)))], [], [JJ]⟩
  obtain ⟨l3, hl3, h⟩ := bnS h
  exact go_to hΘ hm hx hP hn (hs := [⟨2, .nw 1001 (l3.map o3), some (AV.sl 1001 0 (List.length (l3.map o3)))⟩, ⟨6, .no, some (I (p1.length : Int))⟩, ⟨8, .nil 7 1002 4 1, none⟩]) (π := [(1001, 1), (1002, 2)]) (ts := [1, 6, 7, 13, 14, 15]) (kp := []) (ps := [List.replicate (Int.toNat 5) [.lit (.int .i64 0)] = (l3.map o3), AV.sl 1001 0 (Int.toNat 5) = (AV.sl 1001 0 (List.length (l3.map o3))), (5 : Int) = (5 : Int), (0 : Int) ≤ (5 : Int), (5 : Int) * ((8 : Nat) : Int) ≤ 140737488355328, (5 : Int) ≤ 140737488355328, AV.lit (.int .i64 (((p1.map o50).length : Nat) : Int)) = (I (p1.length : Int)), RenOK [(1001, 1), (1002, 2)] (l3.map o3), RenOK [(1001, 1), (1002, 2)] ([].map o4)]) (by kernel_rfl) ⟨(mkM o3 hl3), (mkS o3 hl3), rfl, (mk0 hl3), (mkB hl3 (by decide)), (mkC hl3), (lenM o50), (rok (treeM t3)), (rok (treeM t4)), trivial⟩ (spec_l18Within_l0_m hP hn hx p1 p2 FU l3 [] 0 _ h)
noncomputable def body55 : Code := match Try.f55.body with | some c => c | none => .skip
noncomputable def spec_l6Event_j0  (p1 : GEvent)  : Option Bool :=
  Option.bind (spec_l1In p1.Thread 0 4) fun r9 =>
  if r9 = true then
    Option.bind (spec_l1In p1.Kind 1 12) fun r11 =>
    if r11 = true then
      Option.bind (spec_l1In p1.Obj (-1) 99) fun r13 =>
      if r13 = true then
        Option.bind (spec_l1In p1.Lock (-1) 99) fun r15 =>
        if r15 = true then
          Option.bind (spec_l1In p1.Pc 0 99) fun r17 =>
          some r17
        else
          some false
      else
        some false
    else
      some false
  else
    some false
theorem spec_l6Event_j0_m {E : Env} (hP : E.P = Try.prog) (hn : E.n = 49) (hx : ∀ p, p ∈ E.fx → p.1 ∈ ([] : List Nat)) (p1 : GEvent)   (r : Bool) (h : spec_l6Event_j0 p1  = some r) : WAt E body55 (FQ (RetE Θ Try.f55.results.toList [] [] (B r) E)) [true, false, true, true] ⟨[(1, (AV.ptr 1 0 0))], [(1, some ⟨50, 5, [((o50 p1))]⟩)], [1, JJ]⟩ := by
  have hm : E.P.follows .mixedOrders = true := by rw [hP]; exact mixed
  have hΘ : TOK E.P Θ := by rw [hP]; exact Θ_ok
  unfold spec_l6Event_j0 at h
  obtain ⟨r9, hr9, h⟩ := bnS h
  rcases itS h with ⟨c10, h⟩ | ⟨c21, h⟩
  · obtain ⟨r11, hr11, h⟩ := bnS h
    rcases itS h with ⟨c12, h⟩ | ⟨c20, h⟩
    · obtain ⟨r13, hr13, h⟩ := bnS h
      rcases itS h with ⟨c14, h⟩ | ⟨c19, h⟩
      · obtain ⟨r15, hr15, h⟩ := bnS h
        rcases itS h with ⟨c16, h⟩ | ⟨c18, h⟩
        · obtain ⟨r17, hr17, h⟩ := bnS h
          have h := Option.some.inj h
          subst h
          exact go_ret hΘ hm hP hn (hs := [⟨2, .callV [] (B r9), none⟩, ⟨3, .no, some (B true)⟩, ⟨6, .callV [] (B r11), none⟩, ⟨8, .no, some (B true)⟩, ⟨11, .callV [] (B r13), none⟩, ⟨13, .no, some (B true)⟩, ⟨16, .callV [] (B r15), none⟩, ⟨18, .no, some (B true)⟩, ⟨21, .callV [] (B r17), none⟩]) (rh := []) (ph := .raw) (ps := [Meets Try.prog 73 [(I p1.Thread), (I 0), (I 4)] (B r9), litA (B r9) = true, (B r9) = (B true), Meets Try.prog 73 [(I p1.Kind), (I 1), (I 12)] (B r11), litA (B r11) = true, (B r11) = (B true), Meets Try.prog 73 [(I p1.Obj), (I (-1)), (I 99)] (B r13), litA (B r13) = true, (B r13) = (B true), Meets Try.prog 73 [(I p1.Lock), (I (-1)), (I 99)] (B r15), litA (B r15) = true, (B r15) = (B true), Meets Try.prog 73 [(I p1.Pc), (I 0), (I 99)] (B r17), litA (B r17) = true, (B r17) = (B r17), litA (B r17) = true]) (by kernel_rfl) ⟨(spec_l1In_m hr9), rfl, (litB c10), (spec_l1In_m hr11), rfl, (litB c12), (spec_l1In_m hr13), rfl, (litB c14), (spec_l1In_m hr15), rfl, (litB c16), (spec_l1In_m hr17), rfl, rfl, rfl, trivial⟩
        · have h := Option.some.inj h
          subst h
          exact go_ret hΘ hm hP hn (hs := [⟨2, .callV [] (B r9), none⟩, ⟨3, .no, some (B true)⟩, ⟨6, .callV [] (B r11), none⟩, ⟨8, .no, some (B true)⟩, ⟨11, .callV [] (B r13), none⟩, ⟨13, .no, some (B true)⟩, ⟨16, .callV [] (B r15), none⟩, ⟨18, .no, some (B false)⟩]) (rh := []) (ph := .raw) (ps := [Meets Try.prog 73 [(I p1.Thread), (I 0), (I 4)] (B r9), litA (B r9) = true, (B r9) = (B true), Meets Try.prog 73 [(I p1.Kind), (I 1), (I 12)] (B r11), litA (B r11) = true, (B r11) = (B true), Meets Try.prog 73 [(I p1.Obj), (I (-1)), (I 99)] (B r13), litA (B r13) = true, (B r13) = (B true), Meets Try.prog 73 [(I p1.Lock), (I (-1)), (I 99)] (B r15), litA (B r15) = true, (B r15) = (B false), (B false) = (B false), litA (B false) = true]) (by kernel_rfl) ⟨(spec_l1In_m hr9), rfl, (litB c10), (spec_l1In_m hr11), rfl, (litB c12), (spec_l1In_m hr13), rfl, (litB c14), (spec_l1In_m hr15), rfl, (litB c18), rfl, rfl, trivial⟩
      · have h := Option.some.inj h
        subst h
        exact go_ret hΘ hm hP hn (hs := [⟨2, .callV [] (B r9), none⟩, ⟨3, .no, some (B true)⟩, ⟨6, .callV [] (B r11), none⟩, ⟨8, .no, some (B true)⟩, ⟨11, .callV [] (B r13), none⟩, ⟨13, .no, some (B false)⟩]) (rh := []) (ph := .raw) (ps := [Meets Try.prog 73 [(I p1.Thread), (I 0), (I 4)] (B r9), litA (B r9) = true, (B r9) = (B true), Meets Try.prog 73 [(I p1.Kind), (I 1), (I 12)] (B r11), litA (B r11) = true, (B r11) = (B true), Meets Try.prog 73 [(I p1.Obj), (I (-1)), (I 99)] (B r13), litA (B r13) = true, (B r13) = (B false), (B false) = (B false), litA (B false) = true]) (by kernel_rfl) ⟨(spec_l1In_m hr9), rfl, (litB c10), (spec_l1In_m hr11), rfl, (litB c12), (spec_l1In_m hr13), rfl, (litB c19), rfl, rfl, trivial⟩
    · have h := Option.some.inj h
      subst h
      exact go_ret hΘ hm hP hn (hs := [⟨2, .callV [] (B r9), none⟩, ⟨3, .no, some (B true)⟩, ⟨6, .callV [] (B r11), none⟩, ⟨8, .no, some (B false)⟩]) (rh := []) (ph := .raw) (ps := [Meets Try.prog 73 [(I p1.Thread), (I 0), (I 4)] (B r9), litA (B r9) = true, (B r9) = (B true), Meets Try.prog 73 [(I p1.Kind), (I 1), (I 12)] (B r11), litA (B r11) = true, (B r11) = (B false), (B false) = (B false), litA (B false) = true]) (by kernel_rfl) ⟨(spec_l1In_m hr9), rfl, (litB c10), (spec_l1In_m hr11), rfl, (litB c20), rfl, rfl, trivial⟩
  · have h := Option.some.inj h
    subst h
    exact go_ret hΘ hm hP hn (hs := [⟨2, .callV [] (B r9), none⟩, ⟨3, .no, some (B false)⟩]) (rh := []) (ph := .raw) (ps := [Meets Try.prog 73 [(I p1.Thread), (I 0), (I 4)] (B r9), litA (B r9) = true, (B r9) = (B false), (B false) = (B false), litA (B false) = true]) (by kernel_rfl) ⟨(spec_l1In_m hr9), rfl, (litB c21), rfl, rfl, trivial⟩
noncomputable def spec_l6Event (p1 : GEvent) : Option Bool :=
  Option.bind (spec_l1In p1.Kind 2 10) fun r2 =>
  if r2 = true then
    if (decide (p1.Obj < 0)) = true then
      some false
    else
      if (p1.Kind == 8) = true then
        if (decide (p1.Lock < 0)) = true then
          some false
        else
          spec_l6Event_j0 p1
      else
        if (p1.Kind == 9) = true then
          if (decide (p1.Lock < 0)) = true then
            some false
          else
            spec_l6Event_j0 p1
        else
          spec_l6Event_j0 p1
  else
    if (p1.Kind == 8) = true then
      if (decide (p1.Lock < 0)) = true then
        some false
      else
        spec_l6Event_j0 p1
    else
      if (p1.Kind == 9) = true then
        if (decide (p1.Lock < 0)) = true then
          some false
        else
          spec_l6Event_j0 p1
      else
        spec_l6Event_j0 p1
theorem spec_l6Event_m {p1 : GEvent} {r : Bool} (h : spec_l6Event p1 = some r) : Meets Try.prog 55 [(AV.agg ((o50 p1)))] (B r) := by
  refine meets_ofC Θ_ok Try.func55 rfl (c := body55) (by kernel_rfl) (Nat.le_of_ble_eq_true rfl) ?_
  intro E hP hn hx
  replace hn : E.n = 49 := hn
  have hm : E.P.follows .mixedOrders = true := by rw [hP]; exact mixed
  have hΘ : TOK E.P Θ := by rw [hP]; exact Θ_ok
  unfold spec_l6Event at h
  show WAt E body55 (FQ (RetE Θ Try.f55.results.toList [] [] (B r) E)) [] ⟨[(0, (AV.agg ((o50 p1))))], [], [JJ]⟩
  obtain ⟨r2, hr2, h⟩ := bnS h
  rcases itS h with ⟨c3, h⟩ | ⟨c27, h⟩
  · rcases itS h with ⟨c4, h⟩ | ⟨c5, h⟩
    · have h := Option.some.inj h
      subst h
      exact go_ret hΘ hm hP hn (hs := [⟨0, .new 1001, none⟩, ⟨4, .callV [] (B r2), none⟩, ⟨5, .no, some (B true)⟩, ⟨10, .no, some (B true)⟩]) (rh := []) (ph := .raw) (ps := [Meets Try.prog 73 [(I p1.Kind), (I 2), (I 10)] (B r2), litA (B r2) = true, (B r2) = (B true), (B (decide (p1.Obj < 0))) = (B true), (B false) = (B false), litA (B false) = true]) (by kernel_rfl) ⟨(spec_l1In_m hr2), rfl, (litB c3), (litB c4), rfl, rfl, trivial⟩
    · rcases itS h with ⟨c6, h⟩ | ⟨c22, h⟩
      · rcases itS h with ⟨c7, h⟩ | ⟨c8, h⟩
        · have h := Option.some.inj h
          subst h
          exact go_ret hΘ hm hP hn (hs := [⟨0, .new 1001, none⟩, ⟨4, .callV [] (B r2), none⟩, ⟨5, .no, some (B true)⟩, ⟨10, .no, some (B false)⟩, ⟨14, .no, some (B true)⟩, ⟨25, .br true, none⟩]) (rh := []) (ph := .raw) (ps := [Meets Try.prog 73 [(I p1.Kind), (I 2), (I 10)] (B r2), litA (B r2) = true, (B r2) = (B true), (B (decide (p1.Obj < 0))) = (B false), (B (p1.Kind == 8)) = (B true), (decide (p1.Lock < 0)) = true, (B false) = (B false), litA (B false) = true]) (by kernel_rfl) ⟨(spec_l1In_m hr2), rfl, (litB c3), (litB c5), (litB c6), c7, rfl, rfl, trivial⟩
        · exact go_to hΘ hm hx hP hn (hs := [⟨0, .new 1001, none⟩, ⟨4, .callV [] (B r2), none⟩, ⟨5, .no, some (B true)⟩, ⟨10, .no, some (B false)⟩, ⟨14, .no, some (B true)⟩, ⟨25, .br false, none⟩]) (π := [(1001, 1)]) (ts := [1]) (kp := []) (ps := [Meets Try.prog 73 [(I p1.Kind), (I 2), (I 10)] (B r2), litA (B r2) = true, (B r2) = (B true), (B (decide (p1.Obj < 0))) = (B false), (B (p1.Kind == 8)) = (B true), (decide (p1.Lock < 0)) = false, RenOK [(1001, 1)] [((o50 p1))]]) (by kernel_rfl) ⟨(spec_l1In_m hr2), rfl, (litB c3), (litB c5), (litB c6), c8, (rok rfl), trivial⟩ (spec_l6Event_j0_m hP hn hx p1  _ h)
      · rcases itS h with ⟨c23, h⟩ | ⟨c26, h⟩
        · rcases itS h with ⟨c24, h⟩ | ⟨c25, h⟩
          · have h := Option.some.inj h
            subst h
            exact go_ret hΘ hm hP hn (hs := [⟨0, .new 1001, none⟩, ⟨4, .callV [] (B r2), none⟩, ⟨5, .no, some (B true)⟩, ⟨10, .no, some (B false)⟩, ⟨14, .no, some (B false)⟩, ⟨19, .no, some (B true)⟩, ⟨25, .br true, none⟩]) (rh := []) (ph := .raw) (ps := [Meets Try.prog 73 [(I p1.Kind), (I 2), (I 10)] (B r2), litA (B r2) = true, (B r2) = (B true), (B (decide (p1.Obj < 0))) = (B false), (B (p1.Kind == 8)) = (B false), (B (p1.Kind == 9)) = (B true), (decide (p1.Lock < 0)) = true, (B false) = (B false), litA (B false) = true]) (by kernel_rfl) ⟨(spec_l1In_m hr2), rfl, (litB c3), (litB c5), (litB c22), (litB c23), c24, rfl, rfl, trivial⟩
          · exact go_to hΘ hm hx hP hn (hs := [⟨0, .new 1001, none⟩, ⟨4, .callV [] (B r2), none⟩, ⟨5, .no, some (B true)⟩, ⟨10, .no, some (B false)⟩, ⟨14, .no, some (B false)⟩, ⟨19, .no, some (B true)⟩, ⟨25, .br false, none⟩]) (π := [(1001, 1)]) (ts := [1]) (kp := []) (ps := [Meets Try.prog 73 [(I p1.Kind), (I 2), (I 10)] (B r2), litA (B r2) = true, (B r2) = (B true), (B (decide (p1.Obj < 0))) = (B false), (B (p1.Kind == 8)) = (B false), (B (p1.Kind == 9)) = (B true), (decide (p1.Lock < 0)) = false, RenOK [(1001, 1)] [((o50 p1))]]) (by kernel_rfl) ⟨(spec_l1In_m hr2), rfl, (litB c3), (litB c5), (litB c22), (litB c23), c25, (rok rfl), trivial⟩ (spec_l6Event_j0_m hP hn hx p1  _ h)
        · exact go_to hΘ hm hx hP hn (hs := [⟨0, .new 1001, none⟩, ⟨4, .callV [] (B r2), none⟩, ⟨5, .no, some (B true)⟩, ⟨10, .no, some (B false)⟩, ⟨14, .no, some (B false)⟩, ⟨19, .no, some (B false)⟩]) (π := [(1001, 1)]) (ts := [1]) (kp := []) (ps := [Meets Try.prog 73 [(I p1.Kind), (I 2), (I 10)] (B r2), litA (B r2) = true, (B r2) = (B true), (B (decide (p1.Obj < 0))) = (B false), (B (p1.Kind == 8)) = (B false), (B (p1.Kind == 9)) = (B false), RenOK [(1001, 1)] [((o50 p1))]]) (by kernel_rfl) ⟨(spec_l1In_m hr2), rfl, (litB c3), (litB c5), (litB c22), (litB c26), (rok rfl), trivial⟩ (spec_l6Event_j0_m hP hn hx p1  _ h)
  · rcases itS h with ⟨c28, h⟩ | ⟨c31, h⟩
    · rcases itS h with ⟨c29, h⟩ | ⟨c30, h⟩
      · have h := Option.some.inj h
        subst h
        exact go_ret hΘ hm hP hn (hs := [⟨0, .new 1001, none⟩, ⟨4, .callV [] (B r2), none⟩, ⟨5, .no, some (B false)⟩, ⟨14, .no, some (B true)⟩, ⟨25, .br true, none⟩]) (rh := []) (ph := .raw) (ps := [Meets Try.prog 73 [(I p1.Kind), (I 2), (I 10)] (B r2), litA (B r2) = true, (B r2) = (B false), (B (p1.Kind == 8)) = (B true), (decide (p1.Lock < 0)) = true, (B false) = (B false), litA (B false) = true]) (by kernel_rfl) ⟨(spec_l1In_m hr2), rfl, (litB c27), (litB c28), c29, rfl, rfl, trivial⟩
      · exact go_to hΘ hm hx hP hn (hs := [⟨0, .new 1001, none⟩, ⟨4, .callV [] (B r2), none⟩, ⟨5, .no, some (B false)⟩, ⟨14, .no, some (B true)⟩, ⟨25, .br false, none⟩]) (π := [(1001, 1)]) (ts := [1]) (kp := []) (ps := [Meets Try.prog 73 [(I p1.Kind), (I 2), (I 10)] (B r2), litA (B r2) = true, (B r2) = (B false), (B (p1.Kind == 8)) = (B true), (decide (p1.Lock < 0)) = false, RenOK [(1001, 1)] [((o50 p1))]]) (by kernel_rfl) ⟨(spec_l1In_m hr2), rfl, (litB c27), (litB c28), c30, (rok rfl), trivial⟩ (spec_l6Event_j0_m hP hn hx p1  _ h)
    · rcases itS h with ⟨c32, h⟩ | ⟨c35, h⟩
      · rcases itS h with ⟨c33, h⟩ | ⟨c34, h⟩
        · have h := Option.some.inj h
          subst h
          exact go_ret hΘ hm hP hn (hs := [⟨0, .new 1001, none⟩, ⟨4, .callV [] (B r2), none⟩, ⟨5, .no, some (B false)⟩, ⟨14, .no, some (B false)⟩, ⟨19, .no, some (B true)⟩, ⟨25, .br true, none⟩]) (rh := []) (ph := .raw) (ps := [Meets Try.prog 73 [(I p1.Kind), (I 2), (I 10)] (B r2), litA (B r2) = true, (B r2) = (B false), (B (p1.Kind == 8)) = (B false), (B (p1.Kind == 9)) = (B true), (decide (p1.Lock < 0)) = true, (B false) = (B false), litA (B false) = true]) (by kernel_rfl) ⟨(spec_l1In_m hr2), rfl, (litB c27), (litB c31), (litB c32), c33, rfl, rfl, trivial⟩
        · exact go_to hΘ hm hx hP hn (hs := [⟨0, .new 1001, none⟩, ⟨4, .callV [] (B r2), none⟩, ⟨5, .no, some (B false)⟩, ⟨14, .no, some (B false)⟩, ⟨19, .no, some (B true)⟩, ⟨25, .br false, none⟩]) (π := [(1001, 1)]) (ts := [1]) (kp := []) (ps := [Meets Try.prog 73 [(I p1.Kind), (I 2), (I 10)] (B r2), litA (B r2) = true, (B r2) = (B false), (B (p1.Kind == 8)) = (B false), (B (p1.Kind == 9)) = (B true), (decide (p1.Lock < 0)) = false, RenOK [(1001, 1)] [((o50 p1))]]) (by kernel_rfl) ⟨(spec_l1In_m hr2), rfl, (litB c27), (litB c31), (litB c32), c34, (rok rfl), trivial⟩ (spec_l6Event_j0_m hP hn hx p1  _ h)
      · exact go_to hΘ hm hx hP hn (hs := [⟨0, .new 1001, none⟩, ⟨4, .callV [] (B r2), none⟩, ⟨5, .no, some (B false)⟩, ⟨14, .no, some (B false)⟩, ⟨19, .no, some (B false)⟩]) (π := [(1001, 1)]) (ts := [1]) (kp := []) (ps := [Meets Try.prog 73 [(I p1.Kind), (I 2), (I 10)] (B r2), litA (B r2) = true, (B r2) = (B false), (B (p1.Kind == 8)) = (B false), (B (p1.Kind == 9)) = (B false), RenOK [(1001, 1)] [((o50 p1))]]) (by kernel_rfl) ⟨(spec_l1In_m hr2), rfl, (litB c27), (litB c31), (litB c35), (rok rfl), trivial⟩ (spec_l6Event_j0_m hP hn hx p1  _ h)
noncomputable def body31 : Code := match Try.f31.body with | some c => c | none => .skip
noncomputable def spec_l6Trace_l0  (p1 : (List GEvent)) : Nat → Int → Option Bool
  | 0, _ => none
  | n + 1, v2 =>
  if (decide (v2 < (p1.length : Int))) = true then
    Option.bind (rd p1 v2) fun x4 =>
    Option.bind (spec_l6Event x4) fun r5 =>
    if (!r5) = true then
      some false
    else
      spec_l6Trace_l0 p1 n (w64 (v2 + 1))
  else
    some (decide ((p1.length : Int) ≤ 200))
theorem spec_l6Trace_l0_m {E : Env} (hP : E.P = Try.prog) (hn : E.n = 18) (hx : ∀ p, p ∈ E.fx → p.1 ∈ ([] : List Nat)) (p1 : (List GEvent))  : ∀ (n : Nat) (v2 : Int) (r : Bool), spec_l6Trace_l0 p1 n v2 = some r → WAt E body31 (FQ (RetE Θ Try.f31.results.toList [] [] (B r) E)) [true, false, true, false] ⟨[(0, (AV.ro 5 (p1.map o50))), (5, (AV.ro 5 (p1.map o50))), (6, (I (p1.length : Int))), (7, (I v2))], [], [JJ]⟩ := by
  have hm : E.P.follows .mixedOrders = true := by rw [hP]; exact mixed
  have hΘ : TOK E.P Θ := by rw [hP]; exact Θ_ok
  intro n
  induction n with
  | zero => intro v2 r h; simp only [spec_l6Trace_l0] at h; cases h
  | succ n ih =>
    intro v2 r h
    simp only [spec_l6Trace_l0] at h
    rcases itS h with ⟨c3, h⟩ | ⟨c8, h⟩
    · obtain ⟨x4, hx4, h⟩ := bnS h
      obtain ⟨r5, hr5, h⟩ := bnS h
      rcases itS h with ⟨c6, h⟩ | ⟨c7, h⟩
      · have h := Option.some.inj h
        subst h
        exact go_ret hΘ hm hP hn (hs := [⟨1, .br true, none⟩, ⟨2, .row (o50 x4), none⟩, ⟨4, .new 1001, none⟩, ⟨7, .callV [[]] (B r5), none⟩, ⟨9, .br true, none⟩]) (rh := []) (ph := .raw) (ps := [(decide (v2 < (p1.length : Int))) = true, (0 : Int) ≤ v2, (p1.map o50)[(Int.toNat v2)]? = some (o50 x4), Meets Try.prog 55 [(AV.agg ((o50 x4)))] (B r5), litA (B r5) = true, (!r5) = true, (B false) = (B false), litA (B false) = true]) (by kernel_rfl) ⟨c3, (rd0 hx4), (rdM o50 hx4), (spec_l6Event_m hr5), rfl, c6, rfl, rfl, trivial⟩
      · exact go_to hΘ hm hx hP hn (hs := [⟨1, .br true, none⟩, ⟨2, .row (o50 x4), none⟩, ⟨4, .new 1001, none⟩, ⟨7, .callV [[]] (B r5), none⟩, ⟨9, .br false, none⟩]) (π := []) (ts := [0, 5, 6, 7]) (kp := []) (ps := [(decide (v2 < (p1.length : Int))) = true, (0 : Int) ≤ v2, (p1.map o50)[(Int.toNat v2)]? = some (o50 x4), Meets Try.prog 55 [(AV.agg ((o50 x4)))] (B r5), litA (B r5) = true, (!r5) = false]) (by kernel_rfl) ⟨c3, (rd0 hx4), (rdM o50 hx4), (spec_l6Event_m hr5), rfl, c7, trivial⟩ (ih (w64 (v2 + 1)) _ h)
    · have h := Option.some.inj h
      subst h
      exact go_ret hΘ hm hP hn (hs := [⟨1, .br false, none⟩, ⟨3, .no, some (I (p1.length : Int))⟩]) (rh := []) (ph := .raw) (ps := [(decide (v2 < (p1.length : Int))) = false, AV.lit (.int .i64 (((p1.map o50).length : Nat) : Int)) = (I (p1.length : Int)), (B (decide ((p1.length : Int) ≤ 200))) = (B (decide ((p1.length : Int) ≤ 200))), litA (B (decide ((p1.length : Int) ≤ 200))) = true]) (by kernel_rfl) ⟨c8, (lenM o50), rfl, rfl, trivial⟩
noncomputable def spec_l6Trace (p1 : (List GEvent)) : Option Bool :=
  spec_l6Trace_l0 p1 FU 0
theorem spec_l6Trace_m {p1 : (List GEvent)} {r : Bool} (h : spec_l6Trace p1 = some r) : Meets Try.prog 31 [(AV.ro 5 (p1.map o50))] (B r) := by
  refine meets_ofC Θ_ok Try.func31 rfl (c := body31) (by kernel_rfl) (Nat.le_of_ble_eq_true rfl) ?_
  intro E hP hn hx
  replace hn : E.n = 18 := hn
  have hm : E.P.follows .mixedOrders = true := by rw [hP]; exact mixed
  have hΘ : TOK E.P Θ := by rw [hP]; exact Θ_ok
  unfold spec_l6Trace at h
  show WAt E body31 (FQ (RetE Θ Try.f31.results.toList [] [] (B r) E)) [] ⟨[(0, (AV.ro 5 (p1.map o50)))], [], [JJ]⟩
  exact go_to hΘ hm hx hP hn (hs := [⟨2, .no, some (I (p1.length : Int))⟩]) (π := []) (ts := [0, 5, 6, 7]) (kp := []) (ps := [AV.lit (.int .i64 (((p1.map o50).length : Nat) : Int)) = (I (p1.length : Int))]) (by kernel_rfl) ⟨(lenM o50), trivial⟩ (spec_l6Trace_l0_m hP hn hx p1 FU 0 _ h)
noncomputable def body16 : Code := match Try.f16.body with | some c => c | none => .skip
noncomputable def spec_IsCut_j0  (p1 : (List GEvent)) (p2 : (List Int))  : Option (Bool × Bool) :=
  Option.bind (spec_l18Within p1 p2) fun r9 =>
  if (!r9.2) = true then
    some (false, false)
  else
    Option.bind (spec_l18Is p1 r9.1) fun r12 =>
    some (r12, true)
theorem spec_IsCut_j0_m {E : Env} (hP : E.P = Try.prog) (hn : E.n = 27) (hx : ∀ p, p ∈ E.fx → p.1 ∈ ([] : List Nat)) (p1 : (List GEvent)) (p2 : (List Int))   (r : (Bool × Bool)) (h : spec_IsCut_j0 p1 p2  = some r) : WAt E body16 (FQ (RetE Θ Try.f16.results.toList [] [] (AV.tup [(B r.1), (B r.2)]) E)) [true, false, true, true] ⟨[(0, (AV.ro 5 (p1.map o50))), (1, (AV.ro 1 (p2.map o3)))], [], [JJ]⟩ := by
  have hm : E.P.follows .mixedOrders = true := by rw [hP]; exact mixed
  have hΘ : TOK E.P Θ := by rw [hP]; exact Θ_ok
  unfold spec_IsCut_j0 at h
  obtain ⟨r9, hr9, h⟩ := bnS h
  rcases itS h with ⟨c10, h⟩ | ⟨c11, h⟩
  · have h := Option.some.inj h
    subst h
    exact go_ret hΘ hm hP hn (hs := [⟨2, .call [] (AV.tup [(AV.own 4 1 (r9.1.map o4)), (B r9.2)]) [1001], none⟩, ⟨10, .br true, none⟩]) (rh := []) (ph := .agg [.raw, .raw]) (ps := [Meets Try.prog 40 [(AV.ro 5 (p1.map o50)), (AV.ro 1 (p2.map o3))] (AV.tup [(AV.own 4 1 (r9.1.map o4)), (B r9.2)]), noRo (AV.tup [(AV.own 4 1 (r9.1.map o4)), (B r9.2)]) = true, (!r9.2) = true, (B false) = (B false), litA (B false) = true, (B false) = (B false), litA (B false) = true]) (by kernel_rfl) ⟨(spec_l18Within_m hr9), (by simp only [noRo, noRoL, noRoM n4, Bool.and_self]), c10, rfl, rfl, rfl, rfl, trivial⟩
  · obtain ⟨r12, hr12, h⟩ := bnS h
    have h := Option.some.inj h
    subst h
    exact go_ret hΘ hm hP hn (hs := [⟨2, .call [] (AV.tup [(AV.own 4 1 (r9.1.map o4)), (B r9.2)]) [1001], none⟩, ⟨10, .br false, none⟩, ⟨13, .callV [(r9.1.map o4)] (B r12), none⟩]) (rh := []) (ph := .agg [.raw, .raw]) (ps := [Meets Try.prog 40 [(AV.ro 5 (p1.map o50)), (AV.ro 1 (p2.map o3))] (AV.tup [(AV.own 4 1 (r9.1.map o4)), (B r9.2)]), noRo (AV.tup [(AV.own 4 1 (r9.1.map o4)), (B r9.2)]) = true, (!r9.2) = false, Meets Try.prog 41 [(AV.ro 5 (p1.map o50)), (AV.ro 1 (r9.1.map o4))] (B r12), litA (B r12) = true, Frz (((r9.1.map o4).drop 0).take (List.length (r9.1.map o4))) (r9.1.map o4), (B r12) = (B r12), litA (B r12) = true, (B true) = (B true), litA (B true) = true]) (by kernel_rfl) ⟨(spec_l18Within_m hr9), (by simp only [noRo, noRoL, noRoM n4, Bool.and_self]), c11, (spec_l18Is_m hr12), rfl, (frzF t4 z4), rfl, rfl, rfl, rfl, trivial⟩
noncomputable def spec_IsCut (p1 : (List GEvent)) (p2 : (List Int)) : Option (Bool × Bool) :=
  Option.bind (spec_l6Trace p1) fun r3 =>
  if (!r3) = true then
    some (false, false)
  else
    Option.bind (spec_l18Counts p2) fun r6 =>
    if (!r6) = true then
      some (false, false)
    else
      spec_IsCut_j0 p1 p2
theorem spec_IsCut_m {p1 : (List GEvent)} {p2 : (List Int)} {r : (Bool × Bool)} (h : spec_IsCut p1 p2 = some r) : Meets Try.prog 16 [(AV.ro 5 (p1.map o50)), (AV.ro 1 (p2.map o3))] (AV.tup [(B r.1), (B r.2)]) := by
  refine meets_ofC Θ_ok Try.func16 rfl (c := body16) (by kernel_rfl) (Nat.le_of_ble_eq_true rfl) ?_
  intro E hP hn hx
  replace hn : E.n = 27 := hn
  have hm : E.P.follows .mixedOrders = true := by rw [hP]; exact mixed
  have hΘ : TOK E.P Θ := by rw [hP]; exact Θ_ok
  unfold spec_IsCut at h
  show WAt E body16 (FQ (RetE Θ Try.f16.results.toList [] [] (AV.tup [(B r.1), (B r.2)]) E)) [] ⟨[(0, (AV.ro 5 (p1.map o50))), (1, (AV.ro 1 (p2.map o3)))], [], [JJ]⟩
  obtain ⟨r3, hr3, h⟩ := bnS h
  rcases itS h with ⟨c4, h⟩ | ⟨c5, h⟩
  · have h := Option.some.inj h
    subst h
    exact go_ret hΘ hm hP hn (hs := [⟨3, .callV [] (B r3), none⟩, ⟨5, .no, some (B true)⟩]) (rh := []) (ph := .agg [.raw, .raw]) (ps := [Meets Try.prog 31 [(AV.ro 5 (p1.map o50))] (B r3), litA (B r3) = true, (B (!r3)) = (B true), (B false) = (B false), litA (B false) = true, (B false) = (B false), litA (B false) = true]) (by kernel_rfl) ⟨(spec_l6Trace_m hr3), rfl, (litB c4), rfl, rfl, rfl, rfl, trivial⟩
  · obtain ⟨r6, hr6, h⟩ := bnS h
    rcases itS h with ⟨c7, h⟩ | ⟨c8, h⟩
    · have h := Option.some.inj h
      subst h
      exact go_ret hΘ hm hP hn (hs := [⟨3, .callV [] (B r3), none⟩, ⟨5, .no, some (B false)⟩, ⟨7, .callV [] (B r6), none⟩, ⟨10, .br true, none⟩]) (rh := []) (ph := .agg [.raw, .raw]) (ps := [Meets Try.prog 31 [(AV.ro 5 (p1.map o50))] (B r3), litA (B r3) = true, (B (!r3)) = (B false), Meets Try.prog 39 [(AV.ro 1 (p2.map o3))] (B r6), litA (B r6) = true, (!r6) = true, (B false) = (B false), litA (B false) = true, (B false) = (B false), litA (B false) = true]) (by kernel_rfl) ⟨(spec_l6Trace_m hr3), rfl, (litB c5), (spec_l18Counts_m hr6), rfl, c7, rfl, rfl, rfl, rfl, trivial⟩
    · exact go_to hΘ hm hx hP hn (hs := [⟨3, .callV [] (B r3), none⟩, ⟨5, .no, some (B false)⟩, ⟨7, .callV [] (B r6), none⟩, ⟨10, .br false, none⟩]) (π := []) (ts := [0, 1]) (kp := []) (ps := [Meets Try.prog 31 [(AV.ro 5 (p1.map o50))] (B r3), litA (B r3) = true, (B (!r3)) = (B false), Meets Try.prog 39 [(AV.ro 1 (p2.map o3))] (B r6), litA (B r6) = true, (!r6) = false]) (by kernel_rfl) ⟨(spec_l6Trace_m hr3), rfl, (litB c5), (spec_l18Counts_m hr6), rfl, c8, trivial⟩ (spec_IsCut_j0_m hP hn hx p1 p2  _ h)
noncomputable def body5 : Code := match Try.f5.body with | some c => c | none => .skip
noncomputable def laws_FnExactIsCut_j0  (p1 : (List GEvent)) (p2 : (List Int)) (r11 : (List GEvent)) (r12 : (List Int))  : Option Bool :=
  Option.bind (laws_toEventS p1) fun r18 =>
  Option.bind (laws_eqEventS r11 r18) fun r19 =>
  if (!r19) = true then
    some false
  else
    Option.bind (laws_toIntS p2) fun r22 =>
    Option.bind (laws_eqIntS r12 r22) fun r23 =>
    if (!r23) = true then
      some false
    else
      some true
theorem laws_FnExactIsCut_j0_m {E : Env} (hP : E.P = Try.prog) (hn : E.n = 56) (hx : ∀ p, p ∈ E.fx → p.1 ∈ ([] : List Nat)) (p1 : (List GEvent)) (p2 : (List Int)) (r11 : (List GEvent)) (r12 : (List Int))   (r : Bool) (h : laws_FnExactIsCut_j0 p1 p2 r11 r12  = some r) : WAt E body5 (FQ (RetE Θ Try.f5.results.toList [] [] (B r) E)) [true, true, true, true, true, true, true, true, true, false, true, true] ⟨[(0, (AV.ro 5 (p1.map o52))), (1, (AV.ro 1 (p2.map o3))), (8, (AV.sl 1 0 (List.length (r11.map o50)))), (9, (AV.sl 2 0 (List.length (r12.map o3))))], [(1, some ⟨50, 5, (r11.map o50)⟩), (2, some ⟨3, 1, (r12.map o3)⟩)], [1, 2, JJ]⟩ := by
  have hm : E.P.follows .mixedOrders = true := by rw [hP]; exact mixed
  have hΘ : TOK E.P Θ := by rw [hP]; exact Θ_ok
  unfold laws_FnExactIsCut_j0 at h
  obtain ⟨r18, hr18, h⟩ := bnS h
  obtain ⟨r19, hr19, h⟩ := bnS h
  rcases itS h with ⟨c20, h⟩ | ⟨c21, h⟩
  · have h := Option.some.inj h
    subst h
    exact go_ret hΘ hm hP hn (hs := [⟨2, .call [] (AV.own 50 5 (r18.map o50)) [1001], none⟩, ⟨3, .callV [(r11.map o50), (r18.map o50)] (B r19), none⟩, ⟨5, .br true, none⟩]) (rh := []) (ph := .raw) (ps := [Meets Try.prog 11 [(AV.ro 5 (p1.map o52))] (AV.own 50 5 (r18.map o50)), noRo (AV.own 50 5 (r18.map o50)) = true, Meets Try.prog 13 [(AV.ro 5 (r11.map o50)), (AV.ro 5 (r18.map o50))] (B r19), litA (B r19) = true, Frz (((r11.map o50).drop 0).take (List.length (r11.map o50))) (r11.map o50), Frz (((r18.map o50).drop 0).take (List.length (r18.map o50))) (r18.map o50), (!r19) = true, (B false) = (B false), litA (B false) = true]) (by kernel_rfl) ⟨(laws_toEventS_m hr18), (by simp only [noRo, noRoL, noRoM n50, Bool.and_self]), (laws_eqEventS_m hr19), rfl, (frzF t50 z50), (frzF t50 z50), c20, rfl, rfl, trivial⟩
  · obtain ⟨r22, hr22, h⟩ := bnS h
    obtain ⟨r23, hr23, h⟩ := bnS h
    rcases itS h with ⟨c24, h⟩ | ⟨c25, h⟩
    · have h := Option.some.inj h
      subst h
      exact go_ret hΘ hm hP hn (hs := [⟨2, .call [] (AV.own 50 5 (r18.map o50)) [1001], none⟩, ⟨3, .callV [(r11.map o50), (r18.map o50)] (B r19), none⟩, ⟨5, .br false, none⟩, ⟨8, .call [] (AV.own 3 1 (r22.map o3)) [1002], none⟩, ⟨9, .callV [(r12.map o3), (r22.map o3)] (B r23), none⟩, ⟨11, .br true, none⟩]) (rh := []) (ph := .raw) (ps := [Meets Try.prog 11 [(AV.ro 5 (p1.map o52))] (AV.own 50 5 (r18.map o50)), noRo (AV.own 50 5 (r18.map o50)) = true, Meets Try.prog 13 [(AV.ro 5 (r11.map o50)), (AV.ro 5 (r18.map o50))] (B r19), litA (B r19) = true, Frz (((r11.map o50).drop 0).take (List.length (r11.map o50))) (r11.map o50), Frz (((r18.map o50).drop 0).take (List.length (r18.map o50))) (r18.map o50), (!r19) = false, Meets Try.prog 17 [(AV.ro 1 (p2.map o3))] (AV.own 3 1 (r22.map o3)), noRo (AV.own 3 1 (r22.map o3)) = true, Meets Try.prog 19 [(AV.ro 1 (r12.map o3)), (AV.ro 1 (r22.map o3))] (B r23), litA (B r23) = true, Frz (((r12.map o3).drop 0).take (List.length (r12.map o3))) (r12.map o3), Frz (((r22.map o3).drop 0).take (List.length (r22.map o3))) (r22.map o3), (!r23) = true, (B false) = (B false), litA (B false) = true]) (by kernel_rfl) ⟨(laws_toEventS_m hr18), (by simp only [noRo, noRoL, noRoM n50, Bool.and_self]), (laws_eqEventS_m hr19), rfl, (frzF t50 z50), (frzF t50 z50), c21, (laws_toIntS_m hr22), (by simp only [noRo, noRoL, noRoM n3, Bool.and_self]), (laws_eqIntS_m hr23), rfl, (frzF t3 z3), (frzF t3 z3), c24, rfl, rfl, trivial⟩
    · have h := Option.some.inj h
      subst h
      exact go_ret hΘ hm hP hn (hs := [⟨2, .call [] (AV.own 50 5 (r18.map o50)) [1001], none⟩, ⟨3, .callV [(r11.map o50), (r18.map o50)] (B r19), none⟩, ⟨5, .br false, none⟩, ⟨8, .call [] (AV.own 3 1 (r22.map o3)) [1002], none⟩, ⟨9, .callV [(r12.map o3), (r22.map o3)] (B r23), none⟩, ⟨11, .br false, none⟩]) (rh := []) (ph := .raw) (ps := [Meets Try.prog 11 [(AV.ro 5 (p1.map o52))] (AV.own 50 5 (r18.map o50)), noRo (AV.own 50 5 (r18.map o50)) = true, Meets Try.prog 13 [(AV.ro 5 (r11.map o50)), (AV.ro 5 (r18.map o50))] (B r19), litA (B r19) = true, Frz (((r11.map o50).drop 0).take (List.length (r11.map o50))) (r11.map o50), Frz (((r18.map o50).drop 0).take (List.length (r18.map o50))) (r18.map o50), (!r19) = false, Meets Try.prog 17 [(AV.ro 1 (p2.map o3))] (AV.own 3 1 (r22.map o3)), noRo (AV.own 3 1 (r22.map o3)) = true, Meets Try.prog 19 [(AV.ro 1 (r12.map o3)), (AV.ro 1 (r22.map o3))] (B r23), litA (B r23) = true, Frz (((r12.map o3).drop 0).take (List.length (r12.map o3))) (r12.map o3), Frz (((r22.map o3).drop 0).take (List.length (r22.map o3))) (r22.map o3), (!r23) = false, (B true) = (B true), litA (B true) = true]) (by kernel_rfl) ⟨(laws_toEventS_m hr18), (by simp only [noRo, noRoL, noRoM n50, Bool.and_self]), (laws_eqEventS_m hr19), rfl, (frzF t50 z50), (frzF t50 z50), c21, (laws_toIntS_m hr22), (by simp only [noRo, noRoL, noRoM n3, Bool.and_self]), (laws_eqIntS_m hr23), rfl, (frzF t3 z3), (frzF t3 z3), c25, rfl, rfl, trivial⟩
noncomputable def laws_FnExactIsCut (p1 : (List GEvent)) (p2 : (List Int)) : Option Bool :=
  if (decide ((p2.length : Int) > 1048576)) = true then
    some true
  else
    Option.bind (laws_szEventS p1 1048576) fun r5 =>
    if (decide (r5 < 0)) = true then
      some true
    else
      Option.bind (laws_toEventS p1) fun r8 =>
      Option.bind (laws_toIntS p2) fun r9 =>
      Option.bind (spec_IsCut r8 r9) fun r10 =>
      Option.bind (laws_toEventS p1) fun r11 =>
      Option.bind (laws_toIntS p2) fun r12 =>
      Option.bind (impl_IsCut r11 r12) fun r13 =>
      if (!(r13.1 == r10.1)) = true then
        some false
      else
        if (!(r13.2 == r10.2)) = true then
          some false
        else
          laws_FnExactIsCut_j0 p1 p2 r11 r12
theorem laws_FnExactIsCut_m {p1 : (List GEvent)} {p2 : (List Int)} {r : Bool} (h : laws_FnExactIsCut p1 p2 = some r) : Meets Try.prog 5 [(AV.ro 5 (p1.map o52)), (AV.ro 1 (p2.map o3))] (B r) := by
  refine meets_ofC Θ_ok Try.func5 rfl (c := body5) (by kernel_rfl) (Nat.le_of_ble_eq_true rfl) ?_
  intro E hP hn hx
  replace hn : E.n = 56 := hn
  have hm : E.P.follows .mixedOrders = true := by rw [hP]; exact mixed
  have hΘ : TOK E.P Θ := by rw [hP]; exact Θ_ok
  unfold laws_FnExactIsCut at h
  show WAt E body5 (FQ (RetE Θ Try.f5.results.toList [] [] (B r) E)) [] ⟨[(0, (AV.ro 5 (p1.map o52))), (1, (AV.ro 1 (p2.map o3)))], [], [JJ]⟩
  rcases itS h with ⟨c3, h⟩ | ⟨c4, h⟩
  · have h := Option.some.inj h
    subst h
    exact go_ret hΘ hm hP hn (hs := [⟨2, .no, some (I (p2.length : Int))⟩, ⟨4, .br true, none⟩]) (rh := []) (ph := .raw) (ps := [AV.lit (.int .i64 (((p2.map o3).length : Nat) : Int)) = (I (p2.length : Int)), (decide ((p2.length : Int) > 1048576)) = true, (B true) = (B true), litA (B true) = true]) (by kernel_rfl) ⟨(lenM o3), c3, rfl, rfl, trivial⟩
  · obtain ⟨r5, hr5, h⟩ := bnS h
    rcases itS h with ⟨c6, h⟩ | ⟨c7, h⟩
    · have h := Option.some.inj h
      subst h
      exact go_ret hΘ hm hP hn (hs := [⟨2, .no, some (I (p2.length : Int))⟩, ⟨4, .br false, none⟩, ⟨8, .callV [] (I r5), none⟩, ⟨12, .br true, none⟩]) (rh := []) (ph := .raw) (ps := [AV.lit (.int .i64 (((p2.map o3).length : Nat) : Int)) = (I (p2.length : Int)), (decide ((p2.length : Int) > 1048576)) = false, Meets Try.prog 9 [(AV.ro 5 (p1.map o52)), (I 1048576)] (I r5), litA (I r5) = true, (decide (r5 < 0)) = true, (B true) = (B true), litA (B true) = true]) (by kernel_rfl) ⟨(lenM o3), c4, (laws_szEventS_m hr5), rfl, c6, rfl, rfl, trivial⟩
    · obtain ⟨r8, hr8, h⟩ := bnS h
      obtain ⟨r9, hr9, h⟩ := bnS h
      obtain ⟨r10, hr10, h⟩ := bnS h
      obtain ⟨r11, hr11, h⟩ := bnS h
      obtain ⟨r12, hr12, h⟩ := bnS h
      obtain ⟨r13, hr13, h⟩ := bnS h
      rcases itS h with ⟨c14, h⟩ | ⟨c15, h⟩
      · have h := Option.some.inj h
        subst h
        exact go_ret hΘ hm hP hn (hs := [⟨2, .no, some (I (p2.length : Int))⟩, ⟨4, .br false, none⟩, ⟨8, .callV [] (I r5), none⟩, ⟨12, .br false, none⟩, ⟨14, .call [] (AV.own 50 5 (r8.map o50)) [1001], none⟩, ⟨16, .call [] (AV.own 3 1 (r9.map o3)) [1002], none⟩, ⟨17, .callV [(r8.map o50), (r9.map o3)] (AV.tup [(B r10.1), (B r10.2)]), none⟩, ⟨24, .call [] (AV.own 50 5 (r11.map o50)) [1003], none⟩, ⟨27, .call [] (AV.own 3 1 (r12.map o3)) [1004], none⟩, ⟨31, .callV [(r11.map o50), (r12.map o3)] (AV.tup [(B r13.1), (B r13.2)]), none⟩, ⟨40, .no, some (B true)⟩]) (rh := []) (ph := .raw) (ps := [AV.lit (.int .i64 (((p2.map o3).length : Nat) : Int)) = (I (p2.length : Int)), (decide ((p2.length : Int) > 1048576)) = false, Meets Try.prog 9 [(AV.ro 5 (p1.map o52)), (I 1048576)] (I r5), litA (I r5) = true, (decide (r5 < 0)) = false, Meets Try.prog 11 [(AV.ro 5 (p1.map o52))] (AV.own 50 5 (r8.map o50)), noRo (AV.own 50 5 (r8.map o50)) = true, Meets Try.prog 17 [(AV.ro 1 (p2.map o3))] (AV.own 3 1 (r9.map o3)), noRo (AV.own 3 1 (r9.map o3)) = true, Meets Try.prog 16 [(AV.ro 5 (r8.map o50)), (AV.ro 1 (r9.map o3))] (AV.tup [(B r10.1), (B r10.2)]), litA (AV.tup [(B r10.1), (B r10.2)]) = true, Frz (((r8.map o50).drop 0).take (List.length (r8.map o50))) (r8.map o50), Frz (((r9.map o3).drop 0).take (List.length (r9.map o3))) (r9.map o3), Meets Try.prog 11 [(AV.ro 5 (p1.map o52))] (AV.own 50 5 (r11.map o50)), noRo (AV.own 50 5 (r11.map o50)) = true, Meets Try.prog 17 [(AV.ro 1 (p2.map o3))] (AV.own 3 1 (r12.map o3)), noRo (AV.own 3 1 (r12.map o3)) = true, Meets Try.prog 18 [(AV.ro 5 (r11.map o50)), (AV.ro 1 (r12.map o3))] (AV.tup [(B r13.1), (B r13.2)]), litA (AV.tup [(B r13.1), (B r13.2)]) = true, Frz (((r11.map o50).drop 0).take (List.length (r11.map o50))) (r11.map o50), Frz (((r12.map o3).drop 0).take (List.length (r12.map o3))) (r12.map o3), (B (!(r13.1 == r10.1))) = (B true), (B false) = (B false), litA (B false) = true]) (by kernel_rfl) ⟨(lenM o3), c4, (laws_szEventS_m hr5), rfl, c7, (laws_toEventS_m hr8), (by simp only [noRo, noRoL, noRoM n50, Bool.and_self]), (laws_toIntS_m hr9), (by simp only [noRo, noRoL, noRoM n3, Bool.and_self]), (spec_IsCut_m hr10), rfl, (frzF t50 z50), (frzF t3 z3), (laws_toEventS_m hr11), (by simp only [noRo, noRoL, noRoM n50, Bool.and_self]), (laws_toIntS_m hr12), (by simp only [noRo, noRoL, noRoM n3, Bool.and_self]), (impl_IsCut_m hr13), rfl, (frzF t50 z50), (frzF t3 z3), (litB c14), rfl, rfl, trivial⟩
      · rcases itS h with ⟨c16, h⟩ | ⟨c17, h⟩
        · have h := Option.some.inj h
          subst h
          exact go_ret hΘ hm hP hn (hs := [⟨2, .no, some (I (p2.length : Int))⟩, ⟨4, .br false, none⟩, ⟨8, .callV [] (I r5), none⟩, ⟨12, .br false, none⟩, ⟨14, .call [] (AV.own 50 5 (r8.map o50)) [1001], none⟩, ⟨16, .call [] (AV.own 3 1 (r9.map o3)) [1002], none⟩, ⟨17, .callV [(r8.map o50), (r9.map o3)] (AV.tup [(B r10.1), (B r10.2)]), none⟩, ⟨24, .call [] (AV.own 50 5 (r11.map o50)) [1003], none⟩, ⟨27, .call [] (AV.own 3 1 (r12.map o3)) [1004], none⟩, ⟨31, .callV [(r11.map o50), (r12.map o3)] (AV.tup [(B r13.1), (B r13.2)]), none⟩, ⟨40, .no, some (B false)⟩, ⟨45, .br true, none⟩]) (rh := []) (ph := .raw) (ps := [AV.lit (.int .i64 (((p2.map o3).length : Nat) : Int)) = (I (p2.length : Int)), (decide ((p2.length : Int) > 1048576)) = false, Meets Try.prog 9 [(AV.ro 5 (p1.map o52)), (I 1048576)] (I r5), litA (I r5) = true, (decide (r5 < 0)) = false, Meets Try.prog 11 [(AV.ro 5 (p1.map o52))] (AV.own 50 5 (r8.map o50)), noRo (AV.own 50 5 (r8.map o50)) = true, Meets Try.prog 17 [(AV.ro 1 (p2.map o3))] (AV.own 3 1 (r9.map o3)), noRo (AV.own 3 1 (r9.map o3)) = true, Meets Try.prog 16 [(AV.ro 5 (r8.map o50)), (AV.ro 1 (r9.map o3))] (AV.tup [(B r10.1), (B r10.2)]), litA (AV.tup [(B r10.1), (B r10.2)]) = true, Frz (((r8.map o50).drop 0).take (List.length (r8.map o50))) (r8.map o50), Frz (((r9.map o3).drop 0).take (List.length (r9.map o3))) (r9.map o3), Meets Try.prog 11 [(AV.ro 5 (p1.map o52))] (AV.own 50 5 (r11.map o50)), noRo (AV.own 50 5 (r11.map o50)) = true, Meets Try.prog 17 [(AV.ro 1 (p2.map o3))] (AV.own 3 1 (r12.map o3)), noRo (AV.own 3 1 (r12.map o3)) = true, Meets Try.prog 18 [(AV.ro 5 (r11.map o50)), (AV.ro 1 (r12.map o3))] (AV.tup [(B r13.1), (B r13.2)]), litA (AV.tup [(B r13.1), (B r13.2)]) = true, Frz (((r11.map o50).drop 0).take (List.length (r11.map o50))) (r11.map o50), Frz (((r12.map o3).drop 0).take (List.length (r12.map o3))) (r12.map o3), (B (!(r13.1 == r10.1))) = (B false), (!(r13.2 == r10.2)) = true, (B false) = (B false), litA (B false) = true]) (by kernel_rfl) ⟨(lenM o3), c4, (laws_szEventS_m hr5), rfl, c7, (laws_toEventS_m hr8), (by simp only [noRo, noRoL, noRoM n50, Bool.and_self]), (laws_toIntS_m hr9), (by simp only [noRo, noRoL, noRoM n3, Bool.and_self]), (spec_IsCut_m hr10), rfl, (frzF t50 z50), (frzF t3 z3), (laws_toEventS_m hr11), (by simp only [noRo, noRoL, noRoM n50, Bool.and_self]), (laws_toIntS_m hr12), (by simp only [noRo, noRoL, noRoM n3, Bool.and_self]), (impl_IsCut_m hr13), rfl, (frzF t50 z50), (frzF t3 z3), (litB c15), c16, rfl, rfl, trivial⟩
        · exact go_to hΘ hm hx hP hn (hs := [⟨2, .no, some (I (p2.length : Int))⟩, ⟨4, .br false, none⟩, ⟨8, .callV [] (I r5), none⟩, ⟨12, .br false, none⟩, ⟨14, .call [] (AV.own 50 5 (r8.map o50)) [1001], none⟩, ⟨16, .call [] (AV.own 3 1 (r9.map o3)) [1002], none⟩, ⟨17, .callV [(r8.map o50), (r9.map o3)] (AV.tup [(B r10.1), (B r10.2)]), none⟩, ⟨24, .call [] (AV.own 50 5 (r11.map o50)) [1003], none⟩, ⟨27, .call [] (AV.own 3 1 (r12.map o3)) [1004], none⟩, ⟨31, .callV [(r11.map o50), (r12.map o3)] (AV.tup [(B r13.1), (B r13.2)]), none⟩, ⟨40, .no, some (B false)⟩, ⟨45, .br false, none⟩]) (π := [(1003, 1), (1004, 2)]) (ts := [0, 1, 8, 9]) (kp := []) (ps := [AV.lit (.int .i64 (((p2.map o3).length : Nat) : Int)) = (I (p2.length : Int)), (decide ((p2.length : Int) > 1048576)) = false, Meets Try.prog 9 [(AV.ro 5 (p1.map o52)), (I 1048576)] (I r5), litA (I r5) = true, (decide (r5 < 0)) = false, Meets Try.prog 11 [(AV.ro 5 (p1.map o52))] (AV.own 50 5 (r8.map o50)), noRo (AV.own 50 5 (r8.map o50)) = true, Meets Try.prog 17 [(AV.ro 1 (p2.map o3))] (AV.own 3 1 (r9.map o3)), noRo (AV.own 3 1 (r9.map o3)) = true, Meets Try.prog 16 [(AV.ro 5 (r8.map o50)), (AV.ro 1 (r9.map o3))] (AV.tup [(B r10.1), (B r10.2)]), litA (AV.tup [(B r10.1), (B r10.2)]) = true, Frz (((r8.map o50).drop 0).take (List.length (r8.map o50))) (r8.map o50), Frz (((r9.map o3).drop 0).take (List.length (r9.map o3))) (r9.map o3), Meets Try.prog 11 [(AV.ro 5 (p1.map o52))] (AV.own 50 5 (r11.map o50)), noRo (AV.own 50 5 (r11.map o50)) = true, Meets Try.prog 17 [(AV.ro 1 (p2.map o3))] (AV.own 3 1 (r12.map o3)), noRo (AV.own 3 1 (r12.map o3)) = true, Meets Try.prog 18 [(AV.ro 5 (r11.map o50)), (AV.ro 1 (r12.map o3))] (AV.tup [(B r13.1), (B r13.2)]), litA (AV.tup [(B r13.1), (B r13.2)]) = true, Frz (((r11.map o50).drop 0).take (List.length (r11.map o50))) (r11.map o50), Frz (((r12.map o3).drop 0).take (List.length (r12.map o3))) (r12.map o3), (B (!(r13.1 == r10.1))) = (B false), (!(r13.2 == r10.2)) = false, RenOK [(1003, 1), (1004, 2)] (r11.map o50), RenOK [(1003, 1), (1004, 2)] (r12.map o3)]) (by kernel_rfl) ⟨(lenM o3), c4, (laws_szEventS_m hr5), rfl, c7, (laws_toEventS_m hr8), (by simp only [noRo, noRoL, noRoM n50, Bool.and_self]), (laws_toIntS_m hr9), (by simp only [noRo, noRoL, noRoM n3, Bool.and_self]), (spec_IsCut_m hr10), rfl, (frzF t50 z50), (frzF t3 z3), (laws_toEventS_m hr11), (by simp only [noRo, noRoL, noRoM n50, Bool.and_self]), (laws_toIntS_m hr12), (by simp only [noRo, noRoL, noRoM n3, Bool.and_self]), (impl_IsCut_m hr13), rfl, (frzF t50 z50), (frzF t3 z3), (litB c15), c17, (rok (treeM t50)), (rok (treeM t3)), trivial⟩ (laws_FnExactIsCut_j0_m hP hn hx p1 p2 r11 r12  _ h)
end Go.Proofs.Ytfanhncmpbncpaa
