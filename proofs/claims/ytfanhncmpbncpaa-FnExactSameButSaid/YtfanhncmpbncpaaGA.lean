/- Functions as plain data, and that the code comes to them; no condition. -/

import Derived.Test.YtfanhncmpbncpaaGT
set_option linter.unusedVariables false
set_option maxRecDepth 100000
namespace Go.Proofs.Ytfanhncmpbncpaa
open Go Go.T
noncomputable def body67 : Code := match Try.f67.body with | some c => c | none => .skip
noncomputable def impl_in (p1 : Int) (p2 : Int) (p3 : Int) : Option Bool :=
  if (decide (p2 ≤ p1)) = true then
    some (decide (p1 ≤ p3))
  else
    some false
theorem impl_in_m {p1 : Int} {p2 : Int} {p3 : Int} {r : Bool} (h : impl_in p1 p2 p3 = some r) : Meets Try.prog 67 [(I p1), (I p2), (I p3)] (B r) := by
  refine meets_ofC Θ_ok Try.func67 rfl (c := body67) (by kernel_rfl) (Nat.le_of_ble_eq_true rfl) ?_
  intro E hP hn hx
  replace hn : E.n = 15 := hn
  have hm : E.P.follows .mixedOrders = true := by rw [hP]; exact mixed
  have hΘ : TOK E.P Θ := by rw [hP]; exact Θ_ok
  unfold impl_in at h
  show WAt E body67 (FQ (RetE Θ Try.f67.results.toList [] [] (B r) E)) [] ⟨[(0, (I p1)), (1, (I p2)), (2, (I p3))], [], [JJ]⟩
  rcases itS h with ⟨c4, h⟩ | ⟨c5, h⟩
  · have h := Option.some.inj h
    subst h
    exact go_ret hΘ hm hP hn (hs := [⟨4, .no, some (B true)⟩]) (rh := []) (ph := .raw) (ps := [(B (decide (p2 ≤ p1))) = (B true), (B (decide (p1 ≤ p3))) = (B (decide (p1 ≤ p3))), litA (B (decide (p1 ≤ p3))) = true]) (by kernel_rfl) ⟨(litB c4), rfl, rfl, trivial⟩
  · have h := Option.some.inj h
    subst h
    exact go_ret hΘ hm hP hn (hs := [⟨4, .no, some (B false)⟩]) (rh := []) (ph := .raw) (ps := [(B (decide (p2 ≤ p1))) = (B false), (B false) = (B false), litA (B false) = true]) (by kernel_rfl) ⟨(litB c5), rfl, rfl, trivial⟩
noncomputable def body59 : Code := match Try.f59.body with | some c => c | none => .skip
noncomputable def impl_Event_isGood_j0  (p1 : GEvent)  : Option Bool :=
  if (decide (p1.Obj ≥ 0)) = true then
    if (decide (p1.Lock ≥ 0)) = true then
      some true
    else
      if (p1.Kind != 8) = true then
        some (p1.Kind != 9)
      else
        some false
  else
    Option.bind (impl_in p1.Kind 2 10) fun r23 =>
    if (!r23) = true then
      if (decide (p1.Lock ≥ 0)) = true then
        some true
      else
        if (p1.Kind != 8) = true then
          some (p1.Kind != 9)
        else
          some false
    else
      some false
theorem impl_Event_isGood_j0_m {E : Env} (hP : E.P = Try.prog) (hn : E.n = 55) (hx : ∀ p, p ∈ E.fx → p.1 ∈ ([] : List Nat)) (p1 : GEvent)   (r : Bool) (h : impl_Event_isGood_j0 p1  = some r) : WAt E body59 (FQ (RetE Θ Try.f59.results.toList [] [] (B r) E)) [true, false, true, true] ⟨[(1, (AV.ptr 1 0 0))], [(1, some ⟨50, 5, [((o50 p1))]⟩)], [1, JJ]⟩ := by
  have hm : E.P.follows .mixedOrders = true := by rw [hP]; exact mixed
  have hΘ : TOK E.P Θ := by rw [hP]; exact Θ_ok
  unfold impl_Event_isGood_j0 at h
  rcases itS h with ⟨c17, h⟩ | ⟨c22, h⟩
  · rcases itS h with ⟨c18, h⟩ | ⟨c19, h⟩
    · have h := Option.some.inj h
      subst h
      exact go_ret hΘ hm hP hn (hs := [⟨3, .no, some (B true)⟩, ⟨13, .no, some (B true)⟩]) (rh := []) (ph := .raw) (ps := [(B (decide (p1.Obj ≥ 0))) = (B true), (B (decide (p1.Lock ≥ 0))) = (B true), (B true) = (B true), litA (B true) = true]) (by kernel_rfl) ⟨(litB c17), (litB c18), rfl, rfl, trivial⟩
    · rcases itS h with ⟨c20, h⟩ | ⟨c21, h⟩
      · have h := Option.some.inj h
        subst h
        exact go_ret hΘ hm hP hn (hs := [⟨3, .no, some (B true)⟩, ⟨13, .no, some (B false)⟩, ⟨17, .no, some (B true)⟩]) (rh := []) (ph := .raw) (ps := [(B (decide (p1.Obj ≥ 0))) = (B true), (B (decide (p1.Lock ≥ 0))) = (B false), (B (p1.Kind != 8)) = (B true), (B (p1.Kind != 9)) = (B (p1.Kind != 9)), litA (B (p1.Kind != 9)) = true]) (by kernel_rfl) ⟨(litB c17), (litB c19), (litB c20), rfl, rfl, trivial⟩
      · have h := Option.some.inj h
        subst h
        exact go_ret hΘ hm hP hn (hs := [⟨3, .no, some (B true)⟩, ⟨13, .no, some (B false)⟩, ⟨17, .no, some (B false)⟩]) (rh := []) (ph := .raw) (ps := [(B (decide (p1.Obj ≥ 0))) = (B true), (B (decide (p1.Lock ≥ 0))) = (B false), (B (p1.Kind != 8)) = (B false), (B false) = (B false), litA (B false) = true]) (by kernel_rfl) ⟨(litB c17), (litB c19), (litB c21), rfl, rfl, trivial⟩
  · obtain ⟨r23, hr23, h⟩ := bnS h
    rcases itS h with ⟨c24, h⟩ | ⟨c29, h⟩
    · rcases itS h with ⟨c25, h⟩ | ⟨c26, h⟩
      · have h := Option.some.inj h
        subst h
        exact go_ret hΘ hm hP hn (hs := [⟨3, .no, some (B false)⟩, ⟨6, .callV [] (B r23), none⟩, ⟨9, .no, some (B true)⟩, ⟨13, .no, some (B true)⟩]) (rh := []) (ph := .raw) (ps := [(B (decide (p1.Obj ≥ 0))) = (B false), Meets Try.prog 67 [(I p1.Kind), (I 2), (I 10)] (B r23), litA (B r23) = true, (B (!r23)) = (B true), (B (decide (p1.Lock ≥ 0))) = (B true), (B true) = (B true), litA (B true) = true]) (by kernel_rfl) ⟨(litB c22), (impl_in_m hr23), rfl, (litB c24), (litB c25), rfl, rfl, trivial⟩
      · rcases itS h with ⟨c27, h⟩ | ⟨c28, h⟩
        · have h := Option.some.inj h
          subst h
          exact go_ret hΘ hm hP hn (hs := [⟨3, .no, some (B false)⟩, ⟨6, .callV [] (B r23), none⟩, ⟨9, .no, some (B true)⟩, ⟨13, .no, some (B false)⟩, ⟨17, .no, some (B true)⟩]) (rh := []) (ph := .raw) (ps := [(B (decide (p1.Obj ≥ 0))) = (B false), Meets Try.prog 67 [(I p1.Kind), (I 2), (I 10)] (B r23), litA (B r23) = true, (B (!r23)) = (B true), (B (decide (p1.Lock ≥ 0))) = (B false), (B (p1.Kind != 8)) = (B true), (B (p1.Kind != 9)) = (B (p1.Kind != 9)), litA (B (p1.Kind != 9)) = true]) (by kernel_rfl) ⟨(litB c22), (impl_in_m hr23), rfl, (litB c24), (litB c26), (litB c27), rfl, rfl, trivial⟩
        · have h := Option.some.inj h
          subst h
          exact go_ret hΘ hm hP hn (hs := [⟨3, .no, some (B false)⟩, ⟨6, .callV [] (B r23), none⟩, ⟨9, .no, some (B true)⟩, ⟨13, .no, some (B false)⟩, ⟨17, .no, some (B false)⟩]) (rh := []) (ph := .raw) (ps := [(B (decide (p1.Obj ≥ 0))) = (B false), Meets Try.prog 67 [(I p1.Kind), (I 2), (I 10)] (B r23), litA (B r23) = true, (B (!r23)) = (B true), (B (decide (p1.Lock ≥ 0))) = (B false), (B (p1.Kind != 8)) = (B false), (B false) = (B false), litA (B false) = true]) (by kernel_rfl) ⟨(litB c22), (impl_in_m hr23), rfl, (litB c24), (litB c26), (litB c28), rfl, rfl, trivial⟩
    · have h := Option.some.inj h
      subst h
      exact go_ret hΘ hm hP hn (hs := [⟨3, .no, some (B false)⟩, ⟨6, .callV [] (B r23), none⟩, ⟨9, .no, some (B false)⟩]) (rh := []) (ph := .raw) (ps := [(B (decide (p1.Obj ≥ 0))) = (B false), Meets Try.prog 67 [(I p1.Kind), (I 2), (I 10)] (B r23), litA (B r23) = true, (B (!r23)) = (B false), (B false) = (B false), litA (B false) = true]) (by kernel_rfl) ⟨(litB c22), (impl_in_m hr23), rfl, (litB c29), rfl, rfl, trivial⟩
noncomputable def impl_Event_isGood (p1 : GEvent) : Option Bool :=
  Option.bind (impl_in p1.Thread 0 4) fun r2 =>
  if (!r2) = true then
    some false
  else
    Option.bind (impl_in p1.Kind 1 12) fun r5 =>
    if (!r5) = true then
      some false
    else
      Option.bind (impl_in p1.Obj (-1) 99) fun r8 =>
      if (!r8) = true then
        some false
      else
        Option.bind (impl_in p1.Lock (-1) 99) fun r11 =>
        if (!r11) = true then
          some false
        else
          Option.bind (impl_in p1.Pc 0 99) fun r14 =>
          if (!r14) = true then
            some false
          else
            impl_Event_isGood_j0 p1
theorem impl_Event_isGood_m {p1 : GEvent} {r : Bool} (h : impl_Event_isGood p1 = some r) : Meets Try.prog 59 [(AV.agg ((o50 p1)))] (B r) := by
  refine meets_ofC Θ_ok Try.func59 rfl (c := body59) (by kernel_rfl) (Nat.le_of_ble_eq_true rfl) ?_
  intro E hP hn hx
  replace hn : E.n = 55 := hn
  have hm : E.P.follows .mixedOrders = true := by rw [hP]; exact mixed
  have hΘ : TOK E.P Θ := by rw [hP]; exact Θ_ok
  unfold impl_Event_isGood at h
  show WAt E body59 (FQ (RetE Θ Try.f59.results.toList [] [] (B r) E)) [] ⟨[(0, (AV.agg ((o50 p1))))], [], [JJ]⟩
  obtain ⟨r2, hr2, h⟩ := bnS h
  rcases itS h with ⟨c3, h⟩ | ⟨c4, h⟩
  · have h := Option.some.inj h
    subst h
    exact go_ret hΘ hm hP hn (hs := [⟨0, .new 1001, none⟩, ⟨4, .callV [] (B r2), none⟩, ⟨6, .no, some (B true)⟩]) (rh := []) (ph := .raw) (ps := [Meets Try.prog 67 [(I p1.Thread), (I 0), (I 4)] (B r2), litA (B r2) = true, (B (!r2)) = (B true), (B false) = (B false), litA (B false) = true]) (by kernel_rfl) ⟨(impl_in_m hr2), rfl, (litB c3), rfl, rfl, trivial⟩
  · obtain ⟨r5, hr5, h⟩ := bnS h
    rcases itS h with ⟨c6, h⟩ | ⟨c7, h⟩
    · have h := Option.some.inj h
      subst h
      exact go_ret hΘ hm hP hn (hs := [⟨0, .new 1001, none⟩, ⟨4, .callV [] (B r2), none⟩, ⟨6, .no, some (B false)⟩, ⟨9, .callV [] (B r5), none⟩, ⟨12, .no, some (B true)⟩]) (rh := []) (ph := .raw) (ps := [Meets Try.prog 67 [(I p1.Thread), (I 0), (I 4)] (B r2), litA (B r2) = true, (B (!r2)) = (B false), Meets Try.prog 67 [(I p1.Kind), (I 1), (I 12)] (B r5), litA (B r5) = true, (B (!r5)) = (B true), (B false) = (B false), litA (B false) = true]) (by kernel_rfl) ⟨(impl_in_m hr2), rfl, (litB c4), (impl_in_m hr5), rfl, (litB c6), rfl, rfl, trivial⟩
    · obtain ⟨r8, hr8, h⟩ := bnS h
      rcases itS h with ⟨c9, h⟩ | ⟨c10, h⟩
      · have h := Option.some.inj h
        subst h
        exact go_ret hΘ hm hP hn (hs := [⟨0, .new 1001, none⟩, ⟨4, .callV [] (B r2), none⟩, ⟨6, .no, some (B false)⟩, ⟨9, .callV [] (B r5), none⟩, ⟨12, .no, some (B false)⟩, ⟨15, .callV [] (B r8), none⟩, ⟨18, .no, some (B true)⟩]) (rh := []) (ph := .raw) (ps := [Meets Try.prog 67 [(I p1.Thread), (I 0), (I 4)] (B r2), litA (B r2) = true, (B (!r2)) = (B false), Meets Try.prog 67 [(I p1.Kind), (I 1), (I 12)] (B r5), litA (B r5) = true, (B (!r5)) = (B false), Meets Try.prog 67 [(I p1.Obj), (I (-1)), (I 99)] (B r8), litA (B r8) = true, (B (!r8)) = (B true), (B false) = (B false), litA (B false) = true]) (by kernel_rfl) ⟨(impl_in_m hr2), rfl, (litB c4), (impl_in_m hr5), rfl, (litB c7), (impl_in_m hr8), rfl, (litB c9), rfl, rfl, trivial⟩
      · obtain ⟨r11, hr11, h⟩ := bnS h
        rcases itS h with ⟨c12, h⟩ | ⟨c13, h⟩
        · have h := Option.some.inj h
          subst h
          exact go_ret hΘ hm hP hn (hs := [⟨0, .new 1001, none⟩, ⟨4, .callV [] (B r2), none⟩, ⟨6, .no, some (B false)⟩, ⟨9, .callV [] (B r5), none⟩, ⟨12, .no, some (B false)⟩, ⟨15, .callV [] (B r8), none⟩, ⟨18, .no, some (B false)⟩, ⟨21, .callV [] (B r11), none⟩, ⟨24, .no, some (B true)⟩]) (rh := []) (ph := .raw) (ps := [Meets Try.prog 67 [(I p1.Thread), (I 0), (I 4)] (B r2), litA (B r2) = true, (B (!r2)) = (B false), Meets Try.prog 67 [(I p1.Kind), (I 1), (I 12)] (B r5), litA (B r5) = true, (B (!r5)) = (B false), Meets Try.prog 67 [(I p1.Obj), (I (-1)), (I 99)] (B r8), litA (B r8) = true, (B (!r8)) = (B false), Meets Try.prog 67 [(I p1.Lock), (I (-1)), (I 99)] (B r11), litA (B r11) = true, (B (!r11)) = (B true), (B false) = (B false), litA (B false) = true]) (by kernel_rfl) ⟨(impl_in_m hr2), rfl, (litB c4), (impl_in_m hr5), rfl, (litB c7), (impl_in_m hr8), rfl, (litB c10), (impl_in_m hr11), rfl, (litB c12), rfl, rfl, trivial⟩
        · obtain ⟨r14, hr14, h⟩ := bnS h
          rcases itS h with ⟨c15, h⟩ | ⟨c16, h⟩
          · have h := Option.some.inj h
            subst h
            exact go_ret hΘ hm hP hn (hs := [⟨0, .new 1001, none⟩, ⟨4, .callV [] (B r2), none⟩, ⟨6, .no, some (B false)⟩, ⟨9, .callV [] (B r5), none⟩, ⟨12, .no, some (B false)⟩, ⟨15, .callV [] (B r8), none⟩, ⟨18, .no, some (B false)⟩, ⟨21, .callV [] (B r11), none⟩, ⟨24, .no, some (B false)⟩, ⟨27, .callV [] (B r14), none⟩, ⟨30, .br true, none⟩]) (rh := []) (ph := .raw) (ps := [Meets Try.prog 67 [(I p1.Thread), (I 0), (I 4)] (B r2), litA (B r2) = true, (B (!r2)) = (B false), Meets Try.prog 67 [(I p1.Kind), (I 1), (I 12)] (B r5), litA (B r5) = true, (B (!r5)) = (B false), Meets Try.prog 67 [(I p1.Obj), (I (-1)), (I 99)] (B r8), litA (B r8) = true, (B (!r8)) = (B false), Meets Try.prog 67 [(I p1.Lock), (I (-1)), (I 99)] (B r11), litA (B r11) = true, (B (!r11)) = (B false), Meets Try.prog 67 [(I p1.Pc), (I 0), (I 99)] (B r14), litA (B r14) = true, (!r14) = true, (B false) = (B false), litA (B false) = true]) (by kernel_rfl) ⟨(impl_in_m hr2), rfl, (litB c4), (impl_in_m hr5), rfl, (litB c7), (impl_in_m hr8), rfl, (litB c10), (impl_in_m hr11), rfl, (litB c13), (impl_in_m hr14), rfl, c15, rfl, rfl, trivial⟩
          · exact go_to hΘ hm hx hP hn (hs := [⟨0, .new 1001, none⟩, ⟨4, .callV [] (B r2), none⟩, ⟨6, .no, some (B false)⟩, ⟨9, .callV [] (B r5), none⟩, ⟨12, .no, some (B false)⟩, ⟨15, .callV [] (B r8), none⟩, ⟨18, .no, some (B false)⟩, ⟨21, .callV [] (B r11), none⟩, ⟨24, .no, some (B false)⟩, ⟨27, .callV [] (B r14), none⟩, ⟨30, .br false, none⟩]) (π := [(1001, 1)]) (ts := [1]) (kp := []) (ps := [Meets Try.prog 67 [(I p1.Thread), (I 0), (I 4)] (B r2), litA (B r2) = true, (B (!r2)) = (B false), Meets Try.prog 67 [(I p1.Kind), (I 1), (I 12)] (B r5), litA (B r5) = true, (B (!r5)) = (B false), Meets Try.prog 67 [(I p1.Obj), (I (-1)), (I 99)] (B r8), litA (B r8) = true, (B (!r8)) = (B false), Meets Try.prog 67 [(I p1.Lock), (I (-1)), (I 99)] (B r11), litA (B r11) = true, (B (!r11)) = (B false), Meets Try.prog 67 [(I p1.Pc), (I 0), (I 99)] (B r14), litA (B r14) = true, (!r14) = false, RenOK [(1001, 1)] [((o50 p1))]]) (by kernel_rfl) ⟨(impl_in_m hr2), rfl, (litB c4), (impl_in_m hr5), rfl, (litB c7), (impl_in_m hr8), rfl, (litB c10), (impl_in_m hr11), rfl, (litB c13), (impl_in_m hr14), rfl, c16, (rok rfl), trivial⟩ (impl_Event_isGood_j0_m hP hn hx p1  _ h)
noncomputable def body58 : Code := match Try.f58.body with | some c => c | none => .skip
noncomputable def impl_GoodTrace_1 (p1 : GEvent) : Option Bool :=
  Option.bind (impl_Event_isGood p1) fun r2 =>
  some (!r2)
theorem impl_GoodTrace_1_m {p1 : GEvent} {r : Bool} (h : impl_GoodTrace_1 p1 = some r) : Meets Try.prog 58 [(AV.agg ((o50 p1)))] (B r) := by
  refine meets_ofC Θ_ok Try.func58 rfl (c := body58) (by kernel_rfl) (Nat.le_of_ble_eq_true rfl) ?_
  intro E hP hn hx
  replace hn : E.n = 6 := hn
  have hm : E.P.follows .mixedOrders = true := by rw [hP]; exact mixed
  have hΘ : TOK E.P Θ := by rw [hP]; exact Θ_ok
  unfold impl_GoodTrace_1 at h
  show WAt E body58 (FQ (RetE Θ Try.f58.results.toList [] [] (B r) E)) [] ⟨[(0, (AV.agg ((o50 p1))))], [], [JJ]⟩
  obtain ⟨r2, hr2, h⟩ := bnS h
  have h := Option.some.inj h
  subst h
  exact go_ret hΘ hm hP hn (hs := [⟨0, .new 1001, none⟩, ⟨3, .callV [[]] (B r2), none⟩]) (rh := []) (ph := .raw) (ps := [Meets Try.prog 59 [(AV.agg ((o50 p1)))] (B r2), litA (B r2) = true, (B (!r2)) = (B (!r2)), litA (B (!r2)) = true]) (by kernel_rfl) ⟨(impl_Event_isGood_m hr2), rfl, rfl, rfl, trivial⟩
noncomputable def body76 : Code := match Try.f76.body with | some c => c | none => .skip
noncomputable def slices_IndexFunc_Event_Event__impl_GoodTrace_1_l0  (p1 : (List GEvent)) : Nat → Int → Option Int
  | 0, _ => none
  | n + 1, v2 =>
  if (decide (v2 < (p1.length : Int))) = true then
    Option.bind (rd p1 v2) fun x4 =>
    Option.bind (impl_GoodTrace_1 x4) fun r5 =>
    if r5 = true then
      some v2
    else
      slices_IndexFunc_Event_Event__impl_GoodTrace_1_l0 p1 n (w64 (v2 + 1))
  else
    some (-1)
theorem slices_IndexFunc_Event_Event__impl_GoodTrace_1_l0_m {E : Env} (hP : E.P = Try.prog) (hn : E.n = 19) (hx : ∀ p, p ∈ E.fx → p.1 ∈ ([] : List Nat)) (p1 : (List GEvent))  : ∀ (n : Nat) (v2 : Int) (r : Int), slices_IndexFunc_Event_Event__impl_GoodTrace_1_l0 p1 n v2 = some r → WAt E body76 (FQ (RetE Θ Try.f76.results.toList [] [] (I r) E)) [true, false, true, false] ⟨[(0, (AV.ro 5 (p1.map o50))), (1, (AV.fn 58 [])), (7, (I (p1.length : Int))), (8, (I v2))], [], [JJ]⟩ := by
  have hm : E.P.follows .mixedOrders = true := by rw [hP]; exact mixed
  have hΘ : TOK E.P Θ := by rw [hP]; exact Θ_ok
  intro n
  induction n with
  | zero => intro v2 r h; simp only [slices_IndexFunc_Event_Event__impl_GoodTrace_1_l0] at h; cases h
  | succ n ih =>
    intro v2 r h
    simp only [slices_IndexFunc_Event_Event__impl_GoodTrace_1_l0] at h
    rcases itS h with ⟨c3, h⟩ | ⟨c8, h⟩
    · obtain ⟨x4, hx4, h⟩ := bnS h
      obtain ⟨r5, hr5, h⟩ := bnS h
      rcases itS h with ⟨c6, h⟩ | ⟨c7, h⟩
      · have h := Option.some.inj h
        subst h
        exact go_ret hΘ hm hP hn (hs := [⟨1, .br true, none⟩, ⟨7, .row (o50 x4), none⟩, ⟨9, .callV [[]] (B r5), none⟩, ⟨10, .br true, none⟩]) (rh := []) (ph := .raw) (ps := [(decide (v2 < (p1.length : Int))) = true, (0 : Int) ≤ v2, (p1.map o50)[(Int.toNat v2)]? = some (o50 x4), Meets Try.prog 58 [(AV.agg ((o50 x4)))] (B r5), litA (B r5) = true, r5 = true, (I v2) = (I v2), litA (I v2) = true]) (by kernel_rfl) ⟨c3, (rd0 hx4), (rdM o50 hx4), (impl_GoodTrace_1_m hr5), rfl, c6, rfl, rfl, trivial⟩
      · exact go_to hΘ hm hx hP hn (hs := [⟨1, .br true, none⟩, ⟨7, .row (o50 x4), none⟩, ⟨9, .callV [[]] (B r5), none⟩, ⟨10, .br false, none⟩]) (π := []) (ts := [0, 1, 7, 8]) (kp := []) (ps := [(decide (v2 < (p1.length : Int))) = true, (0 : Int) ≤ v2, (p1.map o50)[(Int.toNat v2)]? = some (o50 x4), Meets Try.prog 58 [(AV.agg ((o50 x4)))] (B r5), litA (B r5) = true, r5 = false]) (by kernel_rfl) ⟨c3, (rd0 hx4), (rdM o50 hx4), (impl_GoodTrace_1_m hr5), rfl, c7, trivial⟩ (ih (w64 (v2 + 1)) _ h)
    · have h := Option.some.inj h
      subst h
      exact go_ret hΘ hm hP hn (hs := [⟨1, .br false, none⟩]) (rh := []) (ph := .raw) (ps := [(decide (v2 < (p1.length : Int))) = false, (I (-1)) = (I (-1)), litA (I (-1)) = true]) (by kernel_rfl) ⟨c8, rfl, rfl, trivial⟩
noncomputable def slices_IndexFunc_Event_Event__impl_GoodTrace_1 (p1 : (List GEvent)) : Option Int :=
  slices_IndexFunc_Event_Event__impl_GoodTrace_1_l0 p1 FU 0
theorem slices_IndexFunc_Event_Event__impl_GoodTrace_1_m {p1 : (List GEvent)} {r : Int} (h : slices_IndexFunc_Event_Event__impl_GoodTrace_1 p1 = some r) : Meets Try.prog 76 [(AV.ro 5 (p1.map o50)), (AV.fn 58 [])] (I r) := by
  refine meets_ofC Θ_ok Try.func76 rfl (c := body76) (by kernel_rfl) (Nat.le_of_ble_eq_true rfl) ?_
  intro E hP hn hx
  replace hn : E.n = 19 := hn
  have hm : E.P.follows .mixedOrders = true := by rw [hP]; exact mixed
  have hΘ : TOK E.P Θ := by rw [hP]; exact Θ_ok
  unfold slices_IndexFunc_Event_Event__impl_GoodTrace_1 at h
  show WAt E body76 (FQ (RetE Θ Try.f76.results.toList [] [] (I r) E)) [] ⟨[(0, (AV.ro 5 (p1.map o50))), (1, (AV.fn 58 []))], [], [JJ]⟩
  exact go_to hΘ hm hx hP hn (hs := [⟨2, .no, some (I (p1.length : Int))⟩]) (π := []) (ts := [0, 1, 7, 8]) (kp := []) (ps := [AV.lit (.int .i64 (((p1.map o50).length : Nat) : Int)) = (I (p1.length : Int))]) (by kernel_rfl) ⟨(lenM o50), trivial⟩ (slices_IndexFunc_Event_Event__impl_GoodTrace_1_l0_m hP hn hx p1 FU 0 _ h)
noncomputable def body57 : Code := match Try.f57.body with | some c => c | none => .skip
noncomputable def slices_ContainsFunc_Event_Event__impl_GoodTrace_1 (p1 : (List GEvent)) : Option Bool :=
  Option.bind (slices_IndexFunc_Event_Event__impl_GoodTrace_1 p1) fun r2 =>
  some (decide (r2 ≥ 0))
theorem slices_ContainsFunc_Event_Event__impl_GoodTrace_1_m {p1 : (List GEvent)} {r : Bool} (h : slices_ContainsFunc_Event_Event__impl_GoodTrace_1 p1 = some r) : Meets Try.prog 57 [(AV.ro 5 (p1.map o50)), (AV.fn 58 [])] (B r) := by
  refine meets_ofC Θ_ok Try.func57 rfl (c := body57) (by kernel_rfl) (Nat.le_of_ble_eq_true rfl) ?_
  intro E hP hn hx
  replace hn : E.n = 9 := hn
  have hm : E.P.follows .mixedOrders = true := by rw [hP]; exact mixed
  have hΘ : TOK E.P Θ := by rw [hP]; exact Θ_ok
  unfold slices_ContainsFunc_Event_Event__impl_GoodTrace_1 at h
  show WAt E body57 (FQ (RetE Θ Try.f57.results.toList [] [] (B r) E)) [] ⟨[(0, (AV.ro 5 (p1.map o50))), (1, (AV.fn 58 []))], [], [JJ]⟩
  obtain ⟨r2, hr2, h⟩ := bnS h
  have h := Option.some.inj h
  subst h
  exact go_ret hΘ hm hP hn (hs := [⟨3, .callV [] (I r2), none⟩]) (rh := []) (ph := .raw) (ps := [Meets Try.prog 76 [(AV.ro 5 (p1.map o50)), (AV.fn 58 [])] (I r2), litA (I r2) = true, (B (decide (r2 ≥ 0))) = (B (decide (r2 ≥ 0))), litA (B (decide (r2 ≥ 0))) = true]) (by kernel_rfl) ⟨(slices_IndexFunc_Event_Event__impl_GoodTrace_1_m hr2), rfl, rfl, rfl, trivial⟩
noncomputable def body35 : Code := match Try.f35.body with | some c => c | none => .skip
noncomputable def impl_GoodTrace (p1 : (List GEvent)) : Option Bool :=
  if (decide ((p1.length : Int) ≤ 200)) = true then
    Option.bind (slices_ContainsFunc_Event_Event__impl_GoodTrace_1 p1) fun r3 =>
    some (!r3)
  else
    some false
theorem impl_GoodTrace_m {p1 : (List GEvent)} {r : Bool} (h : impl_GoodTrace p1 = some r) : Meets Try.prog 35 [(AV.ro 5 (p1.map o50))] (B r) := by
  refine meets_ofC Θ_ok Try.func35 rfl (c := body35) (by kernel_rfl) (Nat.le_of_ble_eq_true rfl) ?_
  intro E hP hn hx
  replace hn : E.n = 11 := hn
  have hm : E.P.follows .mixedOrders = true := by rw [hP]; exact mixed
  have hΘ : TOK E.P Θ := by rw [hP]; exact Θ_ok
  unfold impl_GoodTrace at h
  show WAt E body35 (FQ (RetE Θ Try.f35.results.toList [] [] (B r) E)) [] ⟨[(0, (AV.ro 5 (p1.map o50)))], [], [JJ]⟩
  rcases itS h with ⟨c2, h⟩ | ⟨c4, h⟩
  · obtain ⟨r3, hr3, h⟩ := bnS h
    have h := Option.some.inj h
    subst h
    exact go_ret hΘ hm hP hn (hs := [⟨2, .no, some (I (p1.length : Int))⟩, ⟨4, .no, some (B true)⟩, ⟨6, .callV [] (B r3), none⟩]) (rh := []) (ph := .raw) (ps := [AV.lit (.int .i64 (((p1.map o50).length : Nat) : Int)) = (I (p1.length : Int)), (B (decide ((p1.length : Int) ≤ 200))) = (B true), Meets Try.prog 57 [(AV.ro 5 (p1.map o50)), (AV.fn 58 [])] (B r3), litA (B r3) = true, (B (!r3)) = (B (!r3)), litA (B (!r3)) = true]) (by kernel_rfl) ⟨(lenM o50), (litB c2), (slices_ContainsFunc_Event_Event__impl_GoodTrace_1_m hr3), rfl, rfl, rfl, trivial⟩
  · have h := Option.some.inj h
    subst h
    exact go_ret hΘ hm hP hn (hs := [⟨2, .no, some (I (p1.length : Int))⟩, ⟨4, .no, some (B false)⟩]) (rh := []) (ph := .raw) (ps := [AV.lit (.int .i64 (((p1.map o50).length : Nat) : Int)) = (I (p1.length : Int)), (B (decide ((p1.length : Int) ≤ 200))) = (B false), (B false) = (B false), litA (B false) = true]) (by kernel_rfl) ⟨(lenM o50), (litB c4), rfl, rfl, trivial⟩
noncomputable def body60 : Code := match Try.f60.body with | some c => c | none => .skip
noncomputable def slices_Clone_Event_Event_j0  (p1 : (List GEvent))  : Option (List GEvent) :=
  nilS p1 (
    some []) (
    Option.bind (app [] p1) fun l2 =>
    some l2)
theorem slices_Clone_Event_Event_j0_m {E : Env} (hP : E.P = Try.prog) (hn : E.n = 8) (hx : ∀ p, p ∈ E.fx → p.1 ∈ ([] : List Nat)) (p1 : (List GEvent))   (r : (List GEvent)) (h : slices_Clone_Event_Event_j0 p1  = some r) : WAt E body60 (FQ (RetE Θ Try.f60.results.toList [] [] (AV.own 50 5 (r.map o50)) E)) [true, false, false] ⟨[(0, (AV.ro 5 (p1.map o50)))], [], [JJ]⟩ := by
  have hm : E.P.follows .mixedOrders = true := by rw [hP]; exact mixed
  have hΘ : TOK E.P Θ := by rw [hP]; exact Θ_ok
  unfold slices_Clone_Event_Event_j0 at h
  obtain ⟨h1, h2⟩ := nilSE h
  refine go_nil hΘ hm hP hn (p := [true, false, false]) (q := [true, false, true]) (s' := ⟨[(3, (AV.ro 5 (p1.map o50))), (0, (AV.ro 5 (p1.map o50)))], [], [JJ]⟩) (hs := []) (d := 4) (xs := (p1.map o50)) (ps := []) (by kernel_rfl) trivial (fun c hc => ?_)
  cases c
  · have h := h2
    obtain ⟨l2, hl2, h⟩ := bnS h
    have h := Option.some.inj h
    subst h
    exact go_ret hΘ hm hP hn (hs := [⟨1, .new 1001, none⟩, ⟨3, .app 1002 (l2.map o50), none⟩]) (rh := []) (ph := .own) (ps := [([].map o50).take (List.length ([].map o50)) ++ (p1.map o50) = (l2.map o50), (p1.map o50).all (fun r => r.all AV.plain) = true, (List.length (l2.map o50)) * 40 ≤ 140737488355328, (List.length (l2.map o50)) ≤ 140737488355328, treeLL ((l2.map o50).take (List.length (l2.map o50))) = true, (l2.map o50).take (List.length (l2.map o50)) = (l2.map o50), noRoLL (l2.map o50) = true]) (by kernel_rfl) ⟨(appT o50 hl2), (plM p50), (appB o50 hl2 (by decide)), (appC o50 hl2), (treeT t50), takeM, (noRoM n50), trivial⟩
  · have h := h1 (List.map_eq_nil_iff.1 (hc rfl))
    have h := Option.some.inj h
    subst h
    exact go_ret hΘ hm hP hn (hs := []) (rh := []) (ph := .own) (ps := []) (by kernel_rfl) trivial
noncomputable def slices_Clone_Event_Event (p1 : (List GEvent)) : Option (List GEvent) :=
  slices_Clone_Event_Event_j0 p1
theorem slices_Clone_Event_Event_m {p1 : (List GEvent)} {r : (List GEvent)} (h : slices_Clone_Event_Event p1 = some r) : Meets Try.prog 60 [(AV.ro 5 (p1.map o50))] (AV.own 50 5 (r.map o50)) := by
  refine meets_ofC Θ_ok Try.func60 rfl (c := body60) (by kernel_rfl) (Nat.le_of_ble_eq_true rfl) ?_
  intro E hP hn hx
  replace hn : E.n = 8 := hn
  have hm : E.P.follows .mixedOrders = true := by rw [hP]; exact mixed
  have hΘ : TOK E.P Θ := by rw [hP]; exact Θ_ok
  unfold slices_Clone_Event_Event at h
  show WAt E body60 (FQ (RetE Θ Try.f60.results.toList [] [] (AV.own 50 5 (r.map o50)) E)) [] ⟨[(0, (AV.ro 5 (p1.map o50)))], [], [JJ]⟩
  exact go_to hΘ hm hx hP hn (hs := []) (π := []) (ts := [0]) (kp := []) (ps := []) (by kernel_rfl) trivial (slices_Clone_Event_Event_j0_m hP hn hx p1  _ h)
noncomputable def body82 : Code := match Try.f82.body with | some c => c | none => .skip
noncomputable def impl_Event_gives (p1 : GEvent) : Option Int :=
  if (p1.Kind == 5) = true then
    some p1.Obj
  else
    if (p1.Kind == 8) = true then
      some p1.Lock
    else
      some (-1)
theorem impl_Event_gives_m {p1 : GEvent} {r : Int} (h : impl_Event_gives p1 = some r) : Meets Try.prog 82 [(AV.agg ((o50 p1)))] (I r) := by
  refine meets_ofC Θ_ok Try.func82 rfl (c := body82) (by kernel_rfl) (Nat.le_of_ble_eq_true rfl) ?_
  intro E hP hn hx
  replace hn : E.n = 13 := hn
  have hm : E.P.follows .mixedOrders = true := by rw [hP]; exact mixed
  have hΘ : TOK E.P Θ := by rw [hP]; exact Θ_ok
  unfold impl_Event_gives at h
  show WAt E body82 (FQ (RetE Θ Try.f82.results.toList [] [] (I r) E)) [] ⟨[(0, (AV.agg ((o50 p1))))], [], [JJ]⟩
  rcases itS h with ⟨c2, h⟩ | ⟨c3, h⟩
  · have h := Option.some.inj h
    subst h
    exact go_ret hΘ hm hP hn (hs := [⟨0, .new 1001, none⟩, ⟨6, .br true, none⟩]) (rh := []) (ph := .raw) (ps := [(p1.Kind == 5) = true, (I p1.Obj) = (I p1.Obj), litA (I p1.Obj) = true]) (by kernel_rfl) ⟨c2, rfl, rfl, trivial⟩
  · rcases itS h with ⟨c4, h⟩ | ⟨c5, h⟩
    · have h := Option.some.inj h
      subst h
      exact go_ret hΘ hm hP hn (hs := [⟨0, .new 1001, none⟩, ⟨6, .br false, none⟩, ⟨9, .br true, none⟩]) (rh := []) (ph := .raw) (ps := [(p1.Kind == 5) = false, (p1.Kind == 8) = true, (I p1.Lock) = (I p1.Lock), litA (I p1.Lock) = true]) (by kernel_rfl) ⟨c3, c4, rfl, rfl, trivial⟩
    · have h := Option.some.inj h
      subst h
      exact go_ret hΘ hm hP hn (hs := [⟨0, .new 1001, none⟩, ⟨6, .br false, none⟩, ⟨9, .br false, none⟩]) (rh := []) (ph := .raw) (ps := [(p1.Kind == 5) = false, (p1.Kind == 8) = false, (I (-1)) = (I (-1)), litA (I (-1)) = true]) (by kernel_rfl) ⟨c3, c5, rfl, rfl, trivial⟩
noncomputable def body83 : Code := match Try.f83.body with | some c => c | none => .skip
noncomputable def impl_Event_takes (p1 : GEvent) : Option Int :=
  if (p1.Kind == 4) = true then
    some p1.Obj
  else
    if (p1.Kind == 9) = true then
      some p1.Lock
    else
      some (-1)
theorem impl_Event_takes_m {p1 : GEvent} {r : Int} (h : impl_Event_takes p1 = some r) : Meets Try.prog 83 [(AV.agg ((o50 p1)))] (I r) := by
  refine meets_ofC Θ_ok Try.func83 rfl (c := body83) (by kernel_rfl) (Nat.le_of_ble_eq_true rfl) ?_
  intro E hP hn hx
  replace hn : E.n = 13 := hn
  have hm : E.P.follows .mixedOrders = true := by rw [hP]; exact mixed
  have hΘ : TOK E.P Θ := by rw [hP]; exact Θ_ok
  unfold impl_Event_takes at h
  show WAt E body83 (FQ (RetE Θ Try.f83.results.toList [] [] (I r) E)) [] ⟨[(0, (AV.agg ((o50 p1))))], [], [JJ]⟩
  rcases itS h with ⟨c2, h⟩ | ⟨c3, h⟩
  · have h := Option.some.inj h
    subst h
    exact go_ret hΘ hm hP hn (hs := [⟨0, .new 1001, none⟩, ⟨6, .br true, none⟩]) (rh := []) (ph := .raw) (ps := [(p1.Kind == 4) = true, (I p1.Obj) = (I p1.Obj), litA (I p1.Obj) = true]) (by kernel_rfl) ⟨c2, rfl, rfl, trivial⟩
  · rcases itS h with ⟨c4, h⟩ | ⟨c5, h⟩
    · have h := Option.some.inj h
      subst h
      exact go_ret hΘ hm hP hn (hs := [⟨0, .new 1001, none⟩, ⟨6, .br false, none⟩, ⟨9, .br true, none⟩]) (rh := []) (ph := .raw) (ps := [(p1.Kind == 4) = false, (p1.Kind == 9) = true, (I p1.Lock) = (I p1.Lock), litA (I p1.Lock) = true]) (by kernel_rfl) ⟨c3, c4, rfl, rfl, trivial⟩
    · have h := Option.some.inj h
      subst h
      exact go_ret hΘ hm hP hn (hs := [⟨0, .new 1001, none⟩, ⟨6, .br false, none⟩, ⟨9, .br false, none⟩]) (rh := []) (ph := .raw) (ps := [(p1.Kind == 4) = false, (p1.Kind == 9) = false, (I (-1)) = (I (-1)), litA (I (-1)) = true]) (by kernel_rfl) ⟨c3, c5, rfl, rfl, trivial⟩
noncomputable def body78 : Code := match Try.f78.body with | some c => c | none => .skip
noncomputable def impl_Event_lockOf (p1 : GEvent) : Option Int :=
  Option.bind (impl_Event_gives p1) fun r2 =>
  Option.bind (impl_Event_takes p1) fun r3 =>
  some (imax r2 r3)
theorem impl_Event_lockOf_m {p1 : GEvent} {r : Int} (h : impl_Event_lockOf p1 = some r) : Meets Try.prog 78 [(AV.agg ((o50 p1)))] (I r) := by
  refine meets_ofC Θ_ok Try.func78 rfl (c := body78) (by kernel_rfl) (Nat.le_of_ble_eq_true rfl) ?_
  intro E hP hn hx
  replace hn : E.n = 8 := hn
  have hm : E.P.follows .mixedOrders = true := by rw [hP]; exact mixed
  have hΘ : TOK E.P Θ := by rw [hP]; exact Θ_ok
  unfold impl_Event_lockOf at h
  show WAt E body78 (FQ (RetE Θ Try.f78.results.toList [] [] (I r) E)) [] ⟨[(0, (AV.agg ((o50 p1))))], [], [JJ]⟩
  obtain ⟨r2, hr2, h⟩ := bnS h
  obtain ⟨r3, hr3, h⟩ := bnS h
  have h := Option.some.inj h
  subst h
  exact go_ret hΘ hm hP hn (hs := [⟨0, .new 1001, none⟩, ⟨3, .callV [[]] (I r2), none⟩, ⟨5, .callV [[]] (I r3), none⟩]) (rh := []) (ph := .raw) (ps := [Meets Try.prog 82 [(AV.agg ((o50 p1)))] (I r2), litA (I r2) = true, Meets Try.prog 83 [(AV.agg ((o50 p1)))] (I r3), litA (I r3) = true, (I (imax r2 r3)) = (I (imax r2 r3)), litA (I (imax r2 r3)) = true]) (by kernel_rfl) ⟨(impl_Event_gives_m hr2), rfl, (impl_Event_takes_m hr3), rfl, rfl, rfl, trivial⟩
noncomputable def body85 : Code := match Try.f85.body with | some c => c | none => .skip
noncomputable def impl_Event_isCond (p1 : GEvent) : Option Bool :=
  if (p1.Kind == 8) = true then
    some true
  else
    if (p1.Kind == 9) = true then
      some true
    else
      some (p1.Kind == 10)
theorem impl_Event_isCond_m {p1 : GEvent} {r : Bool} (h : impl_Event_isCond p1 = some r) : Meets Try.prog 85 [(AV.agg ((o50 p1)))] (B r) := by
  refine meets_ofC Θ_ok Try.func85 rfl (c := body85) (by kernel_rfl) (Nat.le_of_ble_eq_true rfl) ?_
  intro E hP hn hx
  replace hn : E.n = 16 := hn
  have hm : E.P.follows .mixedOrders = true := by rw [hP]; exact mixed
  have hΘ : TOK E.P Θ := by rw [hP]; exact Θ_ok
  unfold impl_Event_isCond at h
  show WAt E body85 (FQ (RetE Θ Try.f85.results.toList [] [] (B r) E)) [] ⟨[(0, (AV.agg ((o50 p1))))], [], [JJ]⟩
  rcases itS h with ⟨c2, h⟩ | ⟨c3, h⟩
  · have h := Option.some.inj h
    subst h
    exact go_ret hΘ hm hP hn (hs := [⟨0, .new 1001, none⟩, ⟨5, .no, some (B true)⟩]) (rh := []) (ph := .raw) (ps := [(B (p1.Kind == 8)) = (B true), (B true) = (B true), litA (B true) = true]) (by kernel_rfl) ⟨(litB c2), rfl, rfl, trivial⟩
  · rcases itS h with ⟨c4, h⟩ | ⟨c5, h⟩
    · have h := Option.some.inj h
      subst h
      exact go_ret hΘ hm hP hn (hs := [⟨0, .new 1001, none⟩, ⟨5, .no, some (B false)⟩, ⟨10, .no, some (B true)⟩]) (rh := []) (ph := .raw) (ps := [(B (p1.Kind == 8)) = (B false), (B (p1.Kind == 9)) = (B true), (B true) = (B true), litA (B true) = true]) (by kernel_rfl) ⟨(litB c3), (litB c4), rfl, rfl, trivial⟩
    · have h := Option.some.inj h
      subst h
      exact go_ret hΘ hm hP hn (hs := [⟨0, .new 1001, none⟩, ⟨5, .no, some (B false)⟩, ⟨10, .no, some (B false)⟩]) (rh := []) (ph := .raw) (ps := [(B (p1.Kind == 8)) = (B false), (B (p1.Kind == 9)) = (B false), (B (p1.Kind == 10)) = (B (p1.Kind == 10)), litA (B (p1.Kind == 10)) = true]) (by kernel_rfl) ⟨(litB c3), (litB c5), rfl, rfl, trivial⟩
noncomputable def body49 : Code := match Try.f49.body with | some c => c | none => .skip
noncomputable def impl_Event_touches (p1 : GEvent) : Option Bool :=
  if (p1.Kind == 2) = true then
    some true
  else
    some (p1.Kind == 3)
theorem impl_Event_touches_m {p1 : GEvent} {r : Bool} (h : impl_Event_touches p1 = some r) : Meets Try.prog 49 [(AV.agg ((o50 p1)))] (B r) := by
  refine meets_ofC Θ_ok Try.func49 rfl (c := body49) (by kernel_rfl) (Nat.le_of_ble_eq_true rfl) ?_
  intro E hP hn hx
  replace hn : E.n = 11 := hn
  have hm : E.P.follows .mixedOrders = true := by rw [hP]; exact mixed
  have hΘ : TOK E.P Θ := by rw [hP]; exact Θ_ok
  unfold impl_Event_touches at h
  show WAt E body49 (FQ (RetE Θ Try.f49.results.toList [] [] (B r) E)) [] ⟨[(0, (AV.agg ((o50 p1))))], [], [JJ]⟩
  rcases itS h with ⟨c2, h⟩ | ⟨c3, h⟩
  · have h := Option.some.inj h
    subst h
    exact go_ret hΘ hm hP hn (hs := [⟨0, .new 1001, none⟩, ⟨5, .no, some (B true)⟩]) (rh := []) (ph := .raw) (ps := [(B (p1.Kind == 2)) = (B true), (B true) = (B true), litA (B true) = true]) (by kernel_rfl) ⟨(litB c2), rfl, rfl, trivial⟩
  · have h := Option.some.inj h
    subst h
    exact go_ret hΘ hm hP hn (hs := [⟨0, .new 1001, none⟩, ⟨5, .no, some (B false)⟩]) (rh := []) (ph := .raw) (ps := [(B (p1.Kind == 2)) = (B false), (B (p1.Kind == 3)) = (B (p1.Kind == 3)), litA (B (p1.Kind == 3)) = true]) (by kernel_rfl) ⟨(litB c3), rfl, rfl, trivial⟩
noncomputable def body77 : Code := match Try.f77.body with | some c => c | none => .skip
noncomputable def impl_binds (p1 : GEvent) (p2 : GEvent) : Option Bool :=
  if (p1.Kind == 3) = true then
    Option.bind (impl_Event_touches p2) fun r4 =>
    if r4 = true then
      some (p1.Obj == p2.Obj)
    else
      some false
  else
    if (p1.Kind == 6) = true then
      if (p2.Kind == 6) = true then
        some true
      else
        some (p2.Thread == p1.Obj)
    else
      if (p1.Kind == 7) = true then
        if (p2.Kind == 11) = true then
          some (p2.Thread == p1.Obj)
        else
          some false
      else
        if (p1.Kind == 10) = true then
          if (p2.Thread == p1.Lock) = true then
            some true
          else
            Option.bind (impl_Event_isCond p2) fun r19 =>
            if r19 = true then
              some (p1.Obj == p2.Obj)
            else
              some false
        else
          if (p1.Kind == 8) = true then
            Option.bind (impl_Event_isCond p2) fun r24 =>
            if r24 = true then
              some (p1.Obj == p2.Obj)
            else
              some false
          else
            if (p1.Kind == 12) = true then
              some true
            else
              some false
theorem impl_binds_m {p1 : GEvent} {p2 : GEvent} {r : Bool} (h : impl_binds p1 p2 = some r) : Meets Try.prog 77 [(AV.agg ((o50 p1))), (AV.agg ((o50 p2)))] (B r) := by
  refine meets_ofC Θ_ok Try.func77 rfl (c := body77) (by kernel_rfl) (Nat.le_of_ble_eq_true rfl) ?_
  intro E hP hn hx
  replace hn : E.n = 73 := hn
  have hm : E.P.follows .mixedOrders = true := by rw [hP]; exact mixed
  have hΘ : TOK E.P Θ := by rw [hP]; exact Θ_ok
  unfold impl_binds at h
  show WAt E body77 (FQ (RetE Θ Try.f77.results.toList [] [] (B r) E)) [] ⟨[(0, (AV.agg ((o50 p1)))), (1, (AV.agg ((o50 p2))))], [], [JJ]⟩
  rcases itS h with ⟨c3, h⟩ | ⟨c7, h⟩
  · obtain ⟨r4, hr4, h⟩ := bnS h
    rcases itS h with ⟨c5, h⟩ | ⟨c6, h⟩
    · have h := Option.some.inj h
      subst h
      exact go_ret hΘ hm hP hn (hs := [⟨0, .new 1001, none⟩, ⟨1, .new 1002, none⟩, ⟨7, .br true, none⟩, ⟨9, .callV [[]] (B r4), none⟩, ⟨10, .no, some (B true)⟩]) (rh := []) (ph := .raw) (ps := [(p1.Kind == 3) = true, Meets Try.prog 49 [(AV.agg ((o50 p2)))] (B r4), litA (B r4) = true, (B r4) = (B true), (B (p1.Obj == p2.Obj)) = (B (p1.Obj == p2.Obj)), litA (B (p1.Obj == p2.Obj)) = true]) (by kernel_rfl) ⟨c3, (impl_Event_touches_m hr4), rfl, (litB c5), rfl, rfl, trivial⟩
    · have h := Option.some.inj h
      subst h
      exact go_ret hΘ hm hP hn (hs := [⟨0, .new 1001, none⟩, ⟨1, .new 1002, none⟩, ⟨7, .br true, none⟩, ⟨9, .callV [[]] (B r4), none⟩, ⟨10, .no, some (B false)⟩]) (rh := []) (ph := .raw) (ps := [(p1.Kind == 3) = true, Meets Try.prog 49 [(AV.agg ((o50 p2)))] (B r4), litA (B r4) = true, (B r4) = (B false), (B false) = (B false), litA (B false) = true]) (by kernel_rfl) ⟨c3, (impl_Event_touches_m hr4), rfl, (litB c6), rfl, rfl, trivial⟩
  · rcases itS h with ⟨c8, h⟩ | ⟨c11, h⟩
    · rcases itS h with ⟨c9, h⟩ | ⟨c10, h⟩
      · have h := Option.some.inj h
        subst h
        exact go_ret hΘ hm hP hn (hs := [⟨0, .new 1001, none⟩, ⟨1, .new 1002, none⟩, ⟨7, .br false, none⟩, ⟨10, .br true, none⟩, ⟨14, .no, some (B true)⟩]) (rh := []) (ph := .raw) (ps := [(p1.Kind == 3) = false, (p1.Kind == 6) = true, (B (p2.Kind == 6)) = (B true), (B true) = (B true), litA (B true) = true]) (by kernel_rfl) ⟨c7, c8, (litB c9), rfl, rfl, trivial⟩
      · have h := Option.some.inj h
        subst h
        exact go_ret hΘ hm hP hn (hs := [⟨0, .new 1001, none⟩, ⟨1, .new 1002, none⟩, ⟨7, .br false, none⟩, ⟨10, .br true, none⟩, ⟨14, .no, some (B false)⟩]) (rh := []) (ph := .raw) (ps := [(p1.Kind == 3) = false, (p1.Kind == 6) = true, (B (p2.Kind == 6)) = (B false), (B (p2.Thread == p1.Obj)) = (B (p2.Thread == p1.Obj)), litA (B (p2.Thread == p1.Obj)) = true]) (by kernel_rfl) ⟨c7, c8, (litB c10), rfl, rfl, trivial⟩
    · rcases itS h with ⟨c12, h⟩ | ⟨c15, h⟩
      · rcases itS h with ⟨c13, h⟩ | ⟨c14, h⟩
        · have h := Option.some.inj h
          subst h
          exact go_ret hΘ hm hP hn (hs := [⟨0, .new 1001, none⟩, ⟨1, .new 1002, none⟩, ⟨7, .br false, none⟩, ⟨10, .br false, none⟩, ⟨13, .br true, none⟩, ⟨17, .no, some (B true)⟩]) (rh := []) (ph := .raw) (ps := [(p1.Kind == 3) = false, (p1.Kind == 6) = false, (p1.Kind == 7) = true, (B (p2.Kind == 11)) = (B true), (B (p2.Thread == p1.Obj)) = (B (p2.Thread == p1.Obj)), litA (B (p2.Thread == p1.Obj)) = true]) (by kernel_rfl) ⟨c7, c11, c12, (litB c13), rfl, rfl, trivial⟩
        · have h := Option.some.inj h
          subst h
          exact go_ret hΘ hm hP hn (hs := [⟨0, .new 1001, none⟩, ⟨1, .new 1002, none⟩, ⟨7, .br false, none⟩, ⟨10, .br false, none⟩, ⟨13, .br true, none⟩, ⟨17, .no, some (B false)⟩]) (rh := []) (ph := .raw) (ps := [(p1.Kind == 3) = false, (p1.Kind == 6) = false, (p1.Kind == 7) = true, (B (p2.Kind == 11)) = (B false), (B false) = (B false), litA (B false) = true]) (by kernel_rfl) ⟨c7, c11, c12, (litB c14), rfl, rfl, trivial⟩
      · rcases itS h with ⟨c16, h⟩ | ⟨c22, h⟩
        · rcases itS h with ⟨c17, h⟩ | ⟨c18, h⟩
          · have h := Option.some.inj h
            subst h
            exact go_ret hΘ hm hP hn (hs := [⟨0, .new 1001, none⟩, ⟨1, .new 1002, none⟩, ⟨7, .br false, none⟩, ⟨10, .br false, none⟩, ⟨13, .br false, none⟩, ⟨16, .br true, none⟩, ⟨22, .no, some (B true)⟩]) (rh := []) (ph := .raw) (ps := [(p1.Kind == 3) = false, (p1.Kind == 6) = false, (p1.Kind == 7) = false, (p1.Kind == 10) = true, (B (p2.Thread == p1.Lock)) = (B true), (B true) = (B true), litA (B true) = true]) (by kernel_rfl) ⟨c7, c11, c15, c16, (litB c17), rfl, rfl, trivial⟩
          · obtain ⟨r19, hr19, h⟩ := bnS h
            rcases itS h with ⟨c20, h⟩ | ⟨c21, h⟩
            · have h := Option.some.inj h
              subst h
              exact go_ret hΘ hm hP hn (hs := [⟨0, .new 1001, none⟩, ⟨1, .new 1002, none⟩, ⟨7, .br false, none⟩, ⟨10, .br false, none⟩, ⟨13, .br false, none⟩, ⟨16, .br true, none⟩, ⟨22, .no, some (B false)⟩, ⟨24, .callV [[]] (B r19), none⟩, ⟨25, .no, some (B true)⟩]) (rh := []) (ph := .raw) (ps := [(p1.Kind == 3) = false, (p1.Kind == 6) = false, (p1.Kind == 7) = false, (p1.Kind == 10) = true, (B (p2.Thread == p1.Lock)) = (B false), Meets Try.prog 85 [(AV.agg ((o50 p2)))] (B r19), litA (B r19) = true, (B r19) = (B true), (B (p1.Obj == p2.Obj)) = (B (p1.Obj == p2.Obj)), litA (B (p1.Obj == p2.Obj)) = true]) (by kernel_rfl) ⟨c7, c11, c15, c16, (litB c18), (impl_Event_isCond_m hr19), rfl, (litB c20), rfl, rfl, trivial⟩
            · have h := Option.some.inj h
              subst h
              exact go_ret hΘ hm hP hn (hs := [⟨0, .new 1001, none⟩, ⟨1, .new 1002, none⟩, ⟨7, .br false, none⟩, ⟨10, .br false, none⟩, ⟨13, .br false, none⟩, ⟨16, .br true, none⟩, ⟨22, .no, some (B false)⟩, ⟨24, .callV [[]] (B r19), none⟩, ⟨25, .no, some (B false)⟩]) (rh := []) (ph := .raw) (ps := [(p1.Kind == 3) = false, (p1.Kind == 6) = false, (p1.Kind == 7) = false, (p1.Kind == 10) = true, (B (p2.Thread == p1.Lock)) = (B false), Meets Try.prog 85 [(AV.agg ((o50 p2)))] (B r19), litA (B r19) = true, (B r19) = (B false), (B false) = (B false), litA (B false) = true]) (by kernel_rfl) ⟨c7, c11, c15, c16, (litB c18), (impl_Event_isCond_m hr19), rfl, (litB c21), rfl, rfl, trivial⟩
        · rcases itS h with ⟨c23, h⟩ | ⟨c27, h⟩
          · obtain ⟨r24, hr24, h⟩ := bnS h
            rcases itS h with ⟨c25, h⟩ | ⟨c26, h⟩
            · have h := Option.some.inj h
              subst h
              exact go_ret hΘ hm hP hn (hs := [⟨0, .new 1001, none⟩, ⟨1, .new 1002, none⟩, ⟨7, .br false, none⟩, ⟨10, .br false, none⟩, ⟨13, .br false, none⟩, ⟨16, .br false, none⟩, ⟨19, .br true, none⟩, ⟨21, .callV [[]] (B r24), none⟩, ⟨22, .no, some (B true)⟩]) (rh := []) (ph := .raw) (ps := [(p1.Kind == 3) = false, (p1.Kind == 6) = false, (p1.Kind == 7) = false, (p1.Kind == 10) = false, (p1.Kind == 8) = true, Meets Try.prog 85 [(AV.agg ((o50 p2)))] (B r24), litA (B r24) = true, (B r24) = (B true), (B (p1.Obj == p2.Obj)) = (B (p1.Obj == p2.Obj)), litA (B (p1.Obj == p2.Obj)) = true]) (by kernel_rfl) ⟨c7, c11, c15, c22, c23, (impl_Event_isCond_m hr24), rfl, (litB c25), rfl, rfl, trivial⟩
            · have h := Option.some.inj h
              subst h
              exact go_ret hΘ hm hP hn (hs := [⟨0, .new 1001, none⟩, ⟨1, .new 1002, none⟩, ⟨7, .br false, none⟩, ⟨10, .br false, none⟩, ⟨13, .br false, none⟩, ⟨16, .br false, none⟩, ⟨19, .br true, none⟩, ⟨21, .callV [[]] (B r24), none⟩, ⟨22, .no, some (B false)⟩]) (rh := []) (ph := .raw) (ps := [(p1.Kind == 3) = false, (p1.Kind == 6) = false, (p1.Kind == 7) = false, (p1.Kind == 10) = false, (p1.Kind == 8) = true, Meets Try.prog 85 [(AV.agg ((o50 p2)))] (B r24), litA (B r24) = true, (B r24) = (B false), (B false) = (B false), litA (B false) = true]) (by kernel_rfl) ⟨c7, c11, c15, c22, c23, (impl_Event_isCond_m hr24), rfl, (litB c26), rfl, rfl, trivial⟩
          · rcases itS h with ⟨c28, h⟩ | ⟨c29, h⟩
            · have h := Option.some.inj h
              subst h
              exact go_ret hΘ hm hP hn (hs := [⟨0, .new 1001, none⟩, ⟨1, .new 1002, none⟩, ⟨7, .br false, none⟩, ⟨10, .br false, none⟩, ⟨13, .br false, none⟩, ⟨16, .br false, none⟩, ⟨19, .br false, none⟩, ⟨22, .br true, none⟩]) (rh := []) (ph := .raw) (ps := [(p1.Kind == 3) = false, (p1.Kind == 6) = false, (p1.Kind == 7) = false, (p1.Kind == 10) = false, (p1.Kind == 8) = false, (p1.Kind == 12) = true, (B true) = (B true), litA (B true) = true]) (by kernel_rfl) ⟨c7, c11, c15, c22, c27, c28, rfl, rfl, trivial⟩
            · have h := Option.some.inj h
              subst h
              exact go_ret hΘ hm hP hn (hs := [⟨0, .new 1001, none⟩, ⟨1, .new 1002, none⟩, ⟨7, .br false, none⟩, ⟨10, .br false, none⟩, ⟨13, .br false, none⟩, ⟨16, .br false, none⟩, ⟨19, .br false, none⟩, ⟨22, .br false, none⟩]) (rh := []) (ph := .raw) (ps := [(p1.Kind == 3) = false, (p1.Kind == 6) = false, (p1.Kind == 7) = false, (p1.Kind == 10) = false, (p1.Kind == 8) = false, (p1.Kind == 12) = false, (B false) = (B false), litA (B false) = true]) (by kernel_rfl) ⟨c7, c11, c15, c22, c27, c29, rfl, rfl, trivial⟩
noncomputable def body62 : Code := match Try.f62.body with | some c => c | none => .skip
noncomputable def impl_hang (p1 : GEvent) (p2 : GEvent) : Option Bool :=
  if (p1.Thread == p2.Thread) = true then
    some true
  else
    Option.bind (impl_binds p1 p2) fun r5 =>
    if r5 = true then
      some true
    else
      Option.bind (impl_binds p2 p1) fun r8 =>
      if r8 = true then
        some true
      else
        Option.bind (impl_Event_lockOf p1) fun r11 =>
        if (decide (r11 ≥ 0)) = true then
          Option.bind (impl_Event_lockOf p1) fun r13 =>
          Option.bind (impl_Event_lockOf p2) fun r14 =>
          some (r13 == r14)
        else
          some false
theorem impl_hang_m {p1 : GEvent} {p2 : GEvent} {r : Bool} (h : impl_hang p1 p2 = some r) : Meets Try.prog 62 [(AV.agg ((o50 p1))), (AV.agg ((o50 p2)))] (B r) := by
  refine meets_ofC Θ_ok Try.func62 rfl (c := body62) (by kernel_rfl) (Nat.le_of_ble_eq_true rfl) ?_
  intro E hP hn hx
  replace hn : E.n = 32 := hn
  have hm : E.P.follows .mixedOrders = true := by rw [hP]; exact mixed
  have hΘ : TOK E.P Θ := by rw [hP]; exact Θ_ok
  unfold impl_hang at h
  show WAt E body62 (FQ (RetE Θ Try.f62.results.toList [] [] (B r) E)) [] ⟨[(0, (AV.agg ((o50 p1)))), (1, (AV.agg ((o50 p2))))], [], [JJ]⟩
  rcases itS h with ⟨c3, h⟩ | ⟨c4, h⟩
  · have h := Option.some.inj h
    subst h
    exact go_ret hΘ hm hP hn (hs := [⟨0, .new 1001, none⟩, ⟨1, .new 1002, none⟩, ⟨8, .no, some (B true)⟩]) (rh := []) (ph := .raw) (ps := [(B (p1.Thread == p2.Thread)) = (B true), (B true) = (B true), litA (B true) = true]) (by kernel_rfl) ⟨(litB c3), rfl, rfl, trivial⟩
  · obtain ⟨r5, hr5, h⟩ := bnS h
    rcases itS h with ⟨c6, h⟩ | ⟨c7, h⟩
    · have h := Option.some.inj h
      subst h
      exact go_ret hΘ hm hP hn (hs := [⟨0, .new 1001, none⟩, ⟨1, .new 1002, none⟩, ⟨8, .no, some (B false)⟩, ⟨11, .callV [[], []] (B r5), none⟩, ⟨13, .no, some (B true)⟩]) (rh := []) (ph := .raw) (ps := [(B (p1.Thread == p2.Thread)) = (B false), Meets Try.prog 77 [(AV.agg ((o50 p1))), (AV.agg ((o50 p2)))] (B r5), litA (B r5) = true, (B r5) = (B true), (B true) = (B true), litA (B true) = true]) (by kernel_rfl) ⟨(litB c4), (impl_binds_m hr5), rfl, (litB c6), rfl, rfl, trivial⟩
    · obtain ⟨r8, hr8, h⟩ := bnS h
      rcases itS h with ⟨c9, h⟩ | ⟨c10, h⟩
      · have h := Option.some.inj h
        subst h
        exact go_ret hΘ hm hP hn (hs := [⟨0, .new 1001, none⟩, ⟨1, .new 1002, none⟩, ⟨8, .no, some (B false)⟩, ⟨11, .callV [[], []] (B r5), none⟩, ⟨13, .no, some (B false)⟩, ⟨16, .callV [[], []] (B r8), none⟩, ⟨18, .no, some (B true)⟩]) (rh := []) (ph := .raw) (ps := [(B (p1.Thread == p2.Thread)) = (B false), Meets Try.prog 77 [(AV.agg ((o50 p1))), (AV.agg ((o50 p2)))] (B r5), litA (B r5) = true, (B r5) = (B false), Meets Try.prog 77 [(AV.agg ((o50 p2))), (AV.agg ((o50 p1)))] (B r8), litA (B r8) = true, (B r8) = (B true), (B true) = (B true), litA (B true) = true]) (by kernel_rfl) ⟨(litB c4), (impl_binds_m hr5), rfl, (litB c7), (impl_binds_m hr8), rfl, (litB c9), rfl, rfl, trivial⟩
      · obtain ⟨r11, hr11, h⟩ := bnS h
        rcases itS h with ⟨c12, h⟩ | ⟨c15, h⟩
        · obtain ⟨r13, hr13, h⟩ := bnS h
          obtain ⟨r14, hr14, h⟩ := bnS h
          have h := Option.some.inj h
          subst h
          exact go_ret hΘ hm hP hn (hs := [⟨0, .new 1001, none⟩, ⟨1, .new 1002, none⟩, ⟨8, .no, some (B false)⟩, ⟨11, .callV [[], []] (B r5), none⟩, ⟨13, .no, some (B false)⟩, ⟨16, .callV [[], []] (B r8), none⟩, ⟨18, .no, some (B false)⟩, ⟨20, .callV [[]] (I r11), none⟩, ⟨22, .no, some (B true)⟩, ⟨24, .callV [[]] (I r13), none⟩, ⟨26, .callV [[]] (I r14), none⟩]) (rh := []) (ph := .raw) (ps := [(B (p1.Thread == p2.Thread)) = (B false), Meets Try.prog 77 [(AV.agg ((o50 p1))), (AV.agg ((o50 p2)))] (B r5), litA (B r5) = true, (B r5) = (B false), Meets Try.prog 77 [(AV.agg ((o50 p2))), (AV.agg ((o50 p1)))] (B r8), litA (B r8) = true, (B r8) = (B false), Meets Try.prog 78 [(AV.agg ((o50 p1)))] (I r11), litA (I r11) = true, (B (decide (r11 ≥ 0))) = (B true), Meets Try.prog 78 [(AV.agg ((o50 p1)))] (I r13), litA (I r13) = true, Meets Try.prog 78 [(AV.agg ((o50 p2)))] (I r14), litA (I r14) = true, (B (r13 == r14)) = (B (r13 == r14)), litA (B (r13 == r14)) = true]) (by kernel_rfl) ⟨(litB c4), (impl_binds_m hr5), rfl, (litB c7), (impl_binds_m hr8), rfl, (litB c10), (impl_Event_lockOf_m hr11), rfl, (litB c12), (impl_Event_lockOf_m hr13), rfl, (impl_Event_lockOf_m hr14), rfl, rfl, rfl, trivial⟩
        · have h := Option.some.inj h
          subst h
          exact go_ret hΘ hm hP hn (hs := [⟨0, .new 1001, none⟩, ⟨1, .new 1002, none⟩, ⟨8, .no, some (B false)⟩, ⟨11, .callV [[], []] (B r5), none⟩, ⟨13, .no, some (B false)⟩, ⟨16, .callV [[], []] (B r8), none⟩, ⟨18, .no, some (B false)⟩, ⟨20, .callV [[]] (I r11), none⟩, ⟨22, .no, some (B false)⟩]) (rh := []) (ph := .raw) (ps := [(B (p1.Thread == p2.Thread)) = (B false), Meets Try.prog 77 [(AV.agg ((o50 p1))), (AV.agg ((o50 p2)))] (B r5), litA (B r5) = true, (B r5) = (B false), Meets Try.prog 77 [(AV.agg ((o50 p2))), (AV.agg ((o50 p1)))] (B r8), litA (B r8) = true, (B r8) = (B false), Meets Try.prog 78 [(AV.agg ((o50 p1)))] (I r11), litA (I r11) = true, (B (decide (r11 ≥ 0))) = (B false), (B false) = (B false), litA (B false) = true]) (by kernel_rfl) ⟨(litB c4), (impl_binds_m hr5), rfl, (litB c7), (impl_binds_m hr8), rfl, (litB c10), (impl_Event_lockOf_m hr11), rfl, (litB c15), rfl, rfl, trivial⟩
noncomputable def body61 : Code := match Try.f61.body with | some c => c | none => .skip
noncomputable def impl_firstForm_1 (p1 : GEvent) (p2 : GEvent) : Option Bool :=
  Option.bind (impl_hang p1 p2) fun r3 =>
  some r3
theorem impl_firstForm_1_m {p1 : GEvent} {p2 : GEvent} {r : Bool} (h : impl_firstForm_1 p1 p2 = some r) : Meets Try.prog 61 [(AV.agg ((o50 p1))), (AV.rop (o50 p2) 0)] (B r) := by
  refine meets_ofC Θ_ok Try.func61 rfl (c := body61) (by kernel_rfl) (Nat.le_of_ble_eq_true rfl) ?_
  intro E hP hn hx
  replace hn : E.n = 7 := hn
  have hm : E.P.follows .mixedOrders = true := by rw [hP]; exact mixed
  have hΘ : TOK E.P Θ := by rw [hP]; exact Θ_ok
  unfold impl_firstForm_1 at h
  show WAt E body61 (FQ (RetE Θ Try.f61.results.toList [] [] (B r) E)) [] ⟨[(0, (AV.agg ((o50 p1)))), (1, (AV.rop (o50 p2) 0))], [], [JJ]⟩
  obtain ⟨r3, hr3, h⟩ := bnS h
  have h := Option.some.inj h
  subst h
  exact go_ret hΘ hm hP hn (hs := [⟨0, .new 1001, none⟩, ⟨4, .callV [[], []] (B r3), none⟩]) (rh := []) (ph := .raw) (ps := [Meets Try.prog 62 [(AV.agg ((o50 p1))), (AV.agg ((o50 p2)))] (B r3), litA (B r3) = true, (B r3) = (B r3), litA (B r3) = true]) (by kernel_rfl) ⟨(impl_hang_m hr3), rfl, rfl, rfl, trivial⟩
noncomputable def body76_29 : Code := match Try.f76.body with | some c => c | none => .skip
noncomputable def slices_IndexFunc_Event_Event__impl_firstForm_1_l0  (p1 : (List GEvent)) (p2 : GEvent) : Nat → Int → Option Int
  | 0, _ => none
  | n + 1, v3 =>
  if (decide (v3 < (p1.length : Int))) = true then
    Option.bind (rd p1 v3) fun x5 =>
    Option.bind (impl_firstForm_1 x5 p2) fun r6 =>
    if r6 = true then
      some v3
    else
      slices_IndexFunc_Event_Event__impl_firstForm_1_l0 p1 p2 n (w64 (v3 + 1))
  else
    some (-1)
theorem slices_IndexFunc_Event_Event__impl_firstForm_1_l0_m {E : Env} (hP : E.P = Try.prog) (hn : E.n = 19) (hx : ∀ p, p ∈ E.fx → p.1 ∈ ([] : List Nat)) (p1 : (List GEvent)) (p2 : GEvent)  : ∀ (n : Nat) (v3 : Int) (r : Int), slices_IndexFunc_Event_Event__impl_firstForm_1_l0 p1 p2 n v3 = some r → WAt E body76_29 (FQ (RetE Θ Try.f76.results.toList [] [] (I r) E)) [true, false, true, false] ⟨[(0, (AV.ro 5 (p1.map o50))), (1, (AV.fn 61 [(AV.rop (o50 p2) 0)])), (7, (I (p1.length : Int))), (8, (I v3))], [], [JJ]⟩ := by
  have hm : E.P.follows .mixedOrders = true := by rw [hP]; exact mixed
  have hΘ : TOK E.P Θ := by rw [hP]; exact Θ_ok
  intro n
  induction n with
  | zero => intro v3 r h; simp only [slices_IndexFunc_Event_Event__impl_firstForm_1_l0] at h; cases h
  | succ n ih =>
    intro v3 r h
    simp only [slices_IndexFunc_Event_Event__impl_firstForm_1_l0] at h
    rcases itS h with ⟨c4, h⟩ | ⟨c9, h⟩
    · obtain ⟨x5, hx5, h⟩ := bnS h
      obtain ⟨r6, hr6, h⟩ := bnS h
      rcases itS h with ⟨c7, h⟩ | ⟨c8, h⟩
      · have h := Option.some.inj h
        subst h
        exact go_ret hΘ hm hP hn (hs := [⟨1, .br true, none⟩, ⟨7, .row (o50 x5), none⟩, ⟨9, .callV [[]] (B r6), none⟩, ⟨10, .br true, none⟩]) (rh := []) (ph := .raw) (ps := [(decide (v3 < (p1.length : Int))) = true, (0 : Int) ≤ v3, (p1.map o50)[(Int.toNat v3)]? = some (o50 x5), Meets Try.prog 61 [(AV.agg ((o50 x5))), (AV.rop (o50 p2) 0)] (B r6), litA (B r6) = true, r6 = true, (I v3) = (I v3), litA (I v3) = true]) (by kernel_rfl) ⟨c4, (rd0 hx5), (rdM o50 hx5), (impl_firstForm_1_m hr6), rfl, c7, rfl, rfl, trivial⟩
      · exact go_to hΘ hm hx hP hn (hs := [⟨1, .br true, none⟩, ⟨7, .row (o50 x5), none⟩, ⟨9, .callV [[]] (B r6), none⟩, ⟨10, .br false, none⟩]) (π := []) (ts := [0, 1, 7, 8]) (kp := []) (ps := [(decide (v3 < (p1.length : Int))) = true, (0 : Int) ≤ v3, (p1.map o50)[(Int.toNat v3)]? = some (o50 x5), Meets Try.prog 61 [(AV.agg ((o50 x5))), (AV.rop (o50 p2) 0)] (B r6), litA (B r6) = true, r6 = false]) (by kernel_rfl) ⟨c4, (rd0 hx5), (rdM o50 hx5), (impl_firstForm_1_m hr6), rfl, c8, trivial⟩ (ih (w64 (v3 + 1)) _ h)
    · have h := Option.some.inj h
      subst h
      exact go_ret hΘ hm hP hn (hs := [⟨1, .br false, none⟩]) (rh := []) (ph := .raw) (ps := [(decide (v3 < (p1.length : Int))) = false, (I (-1)) = (I (-1)), litA (I (-1)) = true]) (by kernel_rfl) ⟨c9, rfl, rfl, trivial⟩
noncomputable def slices_IndexFunc_Event_Event__impl_firstForm_1 (p1 : (List GEvent)) (p2 : GEvent) : Option Int :=
  slices_IndexFunc_Event_Event__impl_firstForm_1_l0 p1 p2 FU 0
theorem slices_IndexFunc_Event_Event__impl_firstForm_1_m {p1 : (List GEvent)} {p2 : GEvent} {r : Int} (h : slices_IndexFunc_Event_Event__impl_firstForm_1 p1 p2 = some r) : Meets Try.prog 76 [(AV.ro 5 (p1.map o50)), (AV.fn 61 [(AV.rop (o50 p2) 0)])] (I r) := by
  refine meets_ofC Θ_ok Try.func76 rfl (c := body76_29) (by kernel_rfl) (Nat.le_of_ble_eq_true rfl) ?_
  intro E hP hn hx
  replace hn : E.n = 19 := hn
  have hm : E.P.follows .mixedOrders = true := by rw [hP]; exact mixed
  have hΘ : TOK E.P Θ := by rw [hP]; exact Θ_ok
  unfold slices_IndexFunc_Event_Event__impl_firstForm_1 at h
  show WAt E body76_29 (FQ (RetE Θ Try.f76.results.toList [] [] (I r) E)) [] ⟨[(0, (AV.ro 5 (p1.map o50))), (1, (AV.fn 61 [(AV.rop (o50 p2) 0)]))], [], [JJ]⟩
  exact go_to hΘ hm hx hP hn (hs := [⟨2, .no, some (I (p1.length : Int))⟩]) (π := []) (ts := [0, 1, 7, 8]) (kp := []) (ps := [AV.lit (.int .i64 (((p1.map o50).length : Nat) : Int)) = (I (p1.length : Int))]) (by kernel_rfl) ⟨(lenM o50), trivial⟩ (slices_IndexFunc_Event_Event__impl_firstForm_1_l0_m hP hn hx p1 p2 FU 0 _ h)
noncomputable def body57_30 : Code := match Try.f57.body with | some c => c | none => .skip
noncomputable def slices_ContainsFunc_Event_Event__impl_firstForm_1 (p1 : (List GEvent)) (p2 : GEvent) : Option Bool :=
  Option.bind (slices_IndexFunc_Event_Event__impl_firstForm_1 p1 p2) fun r3 =>
  some (decide (r3 ≥ 0))
theorem slices_ContainsFunc_Event_Event__impl_firstForm_1_m {p1 : (List GEvent)} {p2 : GEvent} {r : Bool} (h : slices_ContainsFunc_Event_Event__impl_firstForm_1 p1 p2 = some r) : Meets Try.prog 57 [(AV.ro 5 (p1.map o50)), (AV.fn 61 [(AV.rop (o50 p2) 0)])] (B r) := by
  refine meets_ofC Θ_ok Try.func57 rfl (c := body57_30) (by kernel_rfl) (Nat.le_of_ble_eq_true rfl) ?_
  intro E hP hn hx
  replace hn : E.n = 9 := hn
  have hm : E.P.follows .mixedOrders = true := by rw [hP]; exact mixed
  have hΘ : TOK E.P Θ := by rw [hP]; exact Θ_ok
  unfold slices_ContainsFunc_Event_Event__impl_firstForm_1 at h
  show WAt E body57_30 (FQ (RetE Θ Try.f57.results.toList [] [] (B r) E)) [] ⟨[(0, (AV.ro 5 (p1.map o50))), (1, (AV.fn 61 [(AV.rop (o50 p2) 0)]))], [], [JJ]⟩
  obtain ⟨r3, hr3, h⟩ := bnS h
  have h := Option.some.inj h
  subst h
  exact go_ret hΘ hm hP hn (hs := [⟨3, .callV [] (I r3), none⟩]) (rh := []) (ph := .raw) (ps := [Meets Try.prog 76 [(AV.ro 5 (p1.map o50)), (AV.fn 61 [(AV.rop (o50 p2) 0)])] (I r3), litA (I r3) = true, (B (decide (r3 ≥ 0))) = (B (decide (r3 ≥ 0))), litA (B (decide (r3 ≥ 0))) = true]) (by kernel_rfl) ⟨(slices_IndexFunc_Event_Event__impl_firstForm_1_m hr3), rfl, rfl, rfl, trivial⟩
noncomputable def body63 : Code := match Try.f63.body with | some c => c | none => .skip
noncomputable def slices_Delete_Event_Event (p1 : (List GEvent)) (p2 : Int) (p3 : Int) : Option (List GEvent) :=
  delL p1 p2 p3
theorem slices_Delete_Event_Event_m {p1 : (List GEvent)} {p2 : Int} {p3 : Int} {r : (List GEvent)} (h : slices_Delete_Event_Event p1 p2 p3 = some r) : MeetsR Try.prog 63 [⟨50, 5, (p1.map o50)⟩] [(AV.sl 0 0 (List.length (p1.map o50))), (I p2), (I p3)] [false] [⟨50, 5, (p1.map o50)⟩] (AV.own 50 5 (r.map o50)) := by
  refine meetsR_of Θ_ok Try.func63 rfl (c := body63) (by kernel_rfl) (Nat.le_of_ble_eq_true rfl) rfl (Nat.le_of_ble_eq_true rfl) rfl (fr := []) (frI rfl) ?_
  intro E hP hn hx
  replace hn : E.n = 33 := hn
  have hm : E.P.follows .mixedOrders = true := by rw [hP]; exact mixed
  have hΘ : TOK E.P Θ := by rw [hP]; exact Θ_ok
  unfold slices_Delete_Event_Event at h
  obtain ⟨d0, d1, d2, rfl⟩ := delE h
  have d2m : p3 ≤ (((List.length (p1.map o50)) : Nat) : Int) := by rw [List.length_map]; exact d2
  have hl : litR (p1.map o50) = true := litR_map (fun _ => rfl) p1
  show WAt E body63 (FQ (RetE Θ Try.f63.results.toList [false] [⟨50, 5, (p1.map o50)⟩] (AV.own 50 5 ((p1.take (Int.toNat p2) ++ p1.drop (Int.toNat p3)).map o50)) E)) [] ⟨[(0, (AV.sl 0 0 (List.length (p1.map o50)))), (1, (I p2)), (2, (I p3))], [(0, some ⟨50, 5, (p1.map o50)⟩)], [0, JJ]⟩
  by_cases c : (p2 == p3) = true
  · exact go_ret hΘ hm hP hn (hs := [⟨6, .sl3, none⟩, ⟨10, .br true, none⟩]) (rh := []) (ph := .own) (ps := [(0 : Int) ≤ p2, p2 ≤ p3, p3 ≤ (((List.length (p1.map o50)) : Nat) : Int), (((List.length (p1.map o50)) : Nat) : Int) ≤ (((List.length (p1.map o50)) : Nat) : Int), (p2 == p3) = true, treeLL ((p1.map o50).take (List.length (p1.map o50))) = true, (p1.map o50).take (List.length (p1.map o50)) = ((p1.take (Int.toNat p2) ++ p1.drop (Int.toNat p3)).map o50), noRoLL ((p1.take (Int.toNat p2) ++ p1.drop (Int.toNat p3)).map o50) = true]) (by kernel_rfl) ⟨d0, d1, d2m, (Int.le_refl _), c, ((delS c).symm ▸ (treeM t50)), (delS c), (noRoM n50), trivial⟩
  · replace c : (p2 == p3) = false := by simpa using c
    exact go_ret hΘ hm hP hn (hs := [⟨6, .sl3, none⟩, ⟨10, .br false, none⟩, ⟨20, .api, none⟩, ⟨26, .slB, none⟩, ⟨27, .clr (ovr_ (ovr_ (p1.map o50) (Int.toNat p2) (((p1.map o50).drop (Int.toNat p3)).take (subO (List.length (p1.map o50)) (Int.toNat p3)))) ((Int.toNat p2) + (subO (List.length (p1.map o50)) (Int.toNat p3))) (List.replicate ((List.length (p1.map o50)) - ((Int.toNat p2) + (subO (List.length (p1.map o50)) (Int.toNat p3)))) (litL ((Θ.lookup 50).getD ⟨0, 0, .bool, []⟩).zero))), none⟩]) (rh := []) (ph := .own) (ps := [(0 : Int) ≤ p2, p2 ≤ p3, p3 ≤ (((List.length (p1.map o50)) : Nat) : Int), (((List.length (p1.map o50)) : Nat) : Int) ≤ (((List.length (p1.map o50)) : Nat) : Int), (p2 == p3) = false, (0 : Int) ≤ 0, 0 ≤ p2, p2 ≤ (((List.length (p1.map o50)) : Nat) : Int), (0 : Int) ≤ p3, p3 ≤ (((List.length (p1.map o50)) : Nat) : Int), (((List.length (p1.map o50)) : Nat) : Int) ≤ (((List.length (p1.map o50)) : Nat) : Int), litR (p1.map o50) = true, (Int.toNat p2) + (subO (List.length (p1.map o50)) (Int.toNat p3)) ≤ (p1.map o50).length, (0 : Int) ≤ (((Int.toNat p2) + (subO (List.length (p1.map o50)) (Int.toNat p3)) : Nat) : Int), (((Int.toNat p2) + (subO (List.length (p1.map o50)) (Int.toNat p3)) : Nat) : Int) ≤ (((List.length (p1.map o50)) : Nat) : Int), (((List.length (p1.map o50)) : Nat) : Int) ≤ (((ovr_ (p1.map o50) (Int.toNat p2) (((p1.map o50).drop (Int.toNat p3)).take (subO (List.length (p1.map o50)) (Int.toNat p3)))).length : Nat) : Int), litR (ovr_ (p1.map o50) (Int.toNat p2) (((p1.map o50).drop (Int.toNat p3)).take (subO (List.length (p1.map o50)) (Int.toNat p3)))) = true, ((Int.toNat p2) + (subO (List.length (p1.map o50)) (Int.toNat p3))) + ((List.length (p1.map o50)) - ((Int.toNat p2) + (subO (List.length (p1.map o50)) (Int.toNat p3)))) ≤ (ovr_ (p1.map o50) (Int.toNat p2) (((p1.map o50).drop (Int.toNat p3)).take (subO (List.length (p1.map o50)) (Int.toNat p3)))).length, (ovr_ (ovr_ (p1.map o50) (Int.toNat p2) (((p1.map o50).drop (Int.toNat p3)).take (subO (List.length (p1.map o50)) (Int.toNat p3)))) ((Int.toNat p2) + (subO (List.length (p1.map o50)) (Int.toNat p3))) (List.replicate ((List.length (p1.map o50)) - ((Int.toNat p2) + (subO (List.length (p1.map o50)) (Int.toNat p3)))) (litL ((Θ.lookup 50).getD ⟨0, 0, .bool, []⟩).zero))) = (ovr_ (ovr_ (p1.map o50) (Int.toNat p2) (((p1.map o50).drop (Int.toNat p3)).take (subO (List.length (p1.map o50)) (Int.toNat p3)))) ((Int.toNat p2) + (subO (List.length (p1.map o50)) (Int.toNat p3))) (List.replicate ((List.length (p1.map o50)) - ((Int.toNat p2) + (subO (List.length (p1.map o50)) (Int.toNat p3)))) (litL ((Θ.lookup 50).getD ⟨0, 0, .bool, []⟩).zero))), treeLL ((ovr_ (ovr_ (p1.map o50) (Int.toNat p2) (((p1.map o50).drop (Int.toNat p3)).take (subO (List.length (p1.map o50)) (Int.toNat p3)))) ((Int.toNat p2) + (subO (List.length (p1.map o50)) (Int.toNat p3))) (List.replicate ((List.length (p1.map o50)) - ((Int.toNat p2) + (subO (List.length (p1.map o50)) (Int.toNat p3)))) (litL ((Θ.lookup 50).getD ⟨0, 0, .bool, []⟩).zero))).take ((Int.toNat p2) + (subO (List.length (p1.map o50)) (Int.toNat p3)))) = true, (ovr_ (ovr_ (p1.map o50) (Int.toNat p2) (((p1.map o50).drop (Int.toNat p3)).take (subO (List.length (p1.map o50)) (Int.toNat p3)))) ((Int.toNat p2) + (subO (List.length (p1.map o50)) (Int.toNat p3))) (List.replicate ((List.length (p1.map o50)) - ((Int.toNat p2) + (subO (List.length (p1.map o50)) (Int.toNat p3)))) (litL ((Θ.lookup 50).getD ⟨0, 0, .bool, []⟩).zero))).take ((Int.toNat p2) + (subO (List.length (p1.map o50)) (Int.toNat p3))) = ((p1.take (Int.toNat p2) ++ p1.drop (Int.toNat p3)).map o50), noRoLL ((p1.take (Int.toNat p2) ++ p1.drop (Int.toNat p3)).map o50) = true]) (by kernel_rfl) ⟨d0, d1, d2m, (Int.le_refl _), c, (Int.le_refl _), d0, (Int.le_trans d1 d2m), (Int.le_trans d0 d1), d2m, (Int.le_refl _), hl, (delA d0 d1 d2), (Int.natCast_nonneg _), (delB d0 d1 d2), (delC d0 d1 d2), (ovr_litS hl), (delD d0 d1 d2), rfl, ((delQ d0 d1 d2).symm ▸ (treeM t50)), (delQ d0 d1 d2), (noRoM n50), trivial⟩
noncomputable def body37 : Code := match Try.f37.body with | some c => c | none => .skip
noncomputable def impl_firstForm_j2 (K0 : (List GEvent) → (List GEvent) → Option (List GEvent)) (K1 : (List GEvent) → (List GEvent) → Int → Int → Option (List GEvent)) (a3 : (List GEvent)) (a6 : (List GEvent)) (a7 : (List GEvent)) (v8 : Int) (v9 : Int) (x11 : GEvent)  : Option (List GEvent) :=
  Option.bind (slc a6 0 v9) fun l16 =>
  Option.bind (slices_ContainsFunc_Event_Event__impl_firstForm_1 l16 x11) fun r17 =>
  if (!r17) = true then
    K1 a6 a7 v9 (w64 (v9 + 1))
  else
    K1 a6 a7 v8 (w64 (v9 + 1))
theorem impl_firstForm_j2_m {E : Env} (hP : E.P = Try.prog) (hn : E.n = 54) (hx : ∀ p, p ∈ E.fx → p.1 ∈ ([] : List Nat)) (a3 : (List GEvent)) (a6 : (List GEvent)) (a7 : (List GEvent)) (v8 : Int) (v9 : Int) (x11 : GEvent) {K0 : (List GEvent) → (List GEvent) → Option (List GEvent)} (hK0 : ∀ (a3 : (List GEvent)) (a4 : (List GEvent)) (r : (List GEvent)), K0 a3 a4 = some r → WAt E body37 (FQ (RetE Θ Try.f37.results.toList [] [] (AV.own 50 5 (r.map o50)) E)) [true, true, false, false] ⟨[(3, (AV.sl 1 0 (List.length (a3.map o50)))), (4, (AV.sl 2 0 (List.length (a4.map o50))))], [(1, some ⟨50, 5, (a3.map o50)⟩), (2, some ⟨50, 5, (a4.map o50)⟩)], [1, 2, JJ]⟩) {K1 : (List GEvent) → (List GEvent) → Int → Int → Option (List GEvent)} (hK1 : ∀ (a6 : (List GEvent)) (a7 : (List GEvent)) (v8 : Int) (v9 : Int) (r : (List GEvent)), K1 a6 a7 v8 v9 = some r → WAt E body37 (FQ (RetE Θ Try.f37.results.toList [] [] (AV.own 50 5 (r.map o50)) E)) [true, true, false, false, false, true, false, true, false, true, false] ⟨[(3, (AV.sl 1 0 (List.length (a6.map o50)))), (4, (AV.sl 2 0 (List.length (a7.map o50)))), (5, (I v8)), (14, (AV.sl 1 0 (List.length (a6.map o50)))), (15, (I (a3.length : Int))), (16, (I v9))], [(1, some ⟨50, 5, (a6.map o50)⟩), (2, some ⟨50, 5, (a7.map o50)⟩)], [1, 2, JJ]⟩)  (r : (List GEvent)) (h : impl_firstForm_j2 K0 K1 a3 a6 a7 v8 v9 x11  = some r) : WAt E body37 (FQ (RetE Θ Try.f37.results.toList [] [] (AV.own 50 5 (r.map o50)) E)) [true, true, false, false, false, true, false, true, false, true, false, false, true, true, false, false, true, false, true, true] ⟨[(3, (AV.sl 1 0 (List.length (a6.map o50)))), (4, (AV.sl 2 0 (List.length (a7.map o50)))), (5, (I v8)), (6, (I v9)), (7, (AV.ptr 3 0 0)), (14, (AV.sl 1 0 (List.length (a6.map o50)))), (15, (I (a3.length : Int))), (16, (I v9))], [(1, some ⟨50, 5, (a6.map o50)⟩), (2, some ⟨50, 5, (a7.map o50)⟩), (3, some ⟨50, 5, [((o50 x11))]⟩)], [1, 2, 3, JJ]⟩ := by
  have hm : E.P.follows .mixedOrders = true := by rw [hP]; exact mixed
  have hΘ : TOK E.P Θ := by rw [hP]; exact Θ_ok
  unfold impl_firstForm_j2 at h
  obtain ⟨l16, hl16, h⟩ := bnS h
  obtain ⟨r17, hr17, h⟩ := bnS h
  rcases itS h with ⟨c18, h⟩ | ⟨c19, h⟩
  · exact go_to hΘ hm hx hP hn (hs := [⟨4, .callV [(l16.map o50), []] (B r17), none⟩, ⟨6, .br true, none⟩]) (π := [(1, 1), (2, 2)]) (ts := [3, 4, 5, 14, 15, 16]) (kp := []) (ps := [(0 : Int) ≤ 0, 0 ≤ v9, v9 ≤ (((List.length (a6.map o50)) : Nat) : Int), Meets Try.prog 57 [(AV.ro 5 (l16.map o50)), (AV.fn 61 [(AV.rop (o50 x11) 0)])] (B r17), litA (B r17) = true, Frz (((a6.map o50).drop 0).take (Int.toNat v9)) (l16.map o50), (!r17) = true, RenOK [(1, 1), (2, 2)] (a6.map o50), RenOK [(1, 1), (2, 2)] (a7.map o50)]) (by kernel_rfl) ⟨(sl0 hl16), (sl1 hl16), (sl2 o50 hl16), (slices_ContainsFunc_Event_Event__impl_firstForm_1_m hr17), rfl, (frzS0 t50 z50 hl16), c18, (rok (treeM t50)), (rok (treeM t50)), trivial⟩ (hK1 a6 a7 v9 (w64 (v9 + 1)) _ h)
  · exact go_to hΘ hm hx hP hn (hs := [⟨4, .callV [(l16.map o50), []] (B r17), none⟩, ⟨6, .br false, none⟩]) (π := [(1, 1), (2, 2)]) (ts := [3, 4, 5, 14, 15, 16]) (kp := []) (ps := [(0 : Int) ≤ 0, 0 ≤ v9, v9 ≤ (((List.length (a6.map o50)) : Nat) : Int), Meets Try.prog 57 [(AV.ro 5 (l16.map o50)), (AV.fn 61 [(AV.rop (o50 x11) 0)])] (B r17), litA (B r17) = true, Frz (((a6.map o50).drop 0).take (Int.toNat v9)) (l16.map o50), (!r17) = false, RenOK [(1, 1), (2, 2)] (a6.map o50), RenOK [(1, 1), (2, 2)] (a7.map o50)]) (by kernel_rfl) ⟨(sl0 hl16), (sl1 hl16), (sl2 o50 hl16), (slices_ContainsFunc_Event_Event__impl_firstForm_1_m hr17), rfl, (frzS0 t50 z50 hl16), c19, (rok (treeM t50)), (rok (treeM t50)), trivial⟩ (hK1 a6 a7 v8 (w64 (v9 + 1)) _ h)
noncomputable def impl_firstForm_l1 (K0 : (List GEvent) → (List GEvent) → Option (List GEvent)) (a3 : (List GEvent)) : Nat → (List GEvent) → (List GEvent) → Int → Int → Option (List GEvent)
  | 0, _, _, _, _ => none
  | n + 1, a6, a7, v8, v9 =>
  if (decide (v9 < (a3.length : Int))) = true then
    Option.bind (rd a6 v9) fun x11 =>
    if (decide (v8 ≥ 0)) = true then
      Option.bind (rd a6 v8) fun x13 =>
      if (decide (x11.Thread ≥ x13.Thread)) = true then
        impl_firstForm_l1 K0 a3 n a6 a7 v8 (w64 (v9 + 1))
      else
        impl_firstForm_j2 K0 (impl_firstForm_l1 K0 a3 n) a3 a6 a7 v8 v9 x11
    else
      impl_firstForm_j2 K0 (impl_firstForm_l1 K0 a3 n) a3 a6 a7 v8 v9 x11
  else
    Option.bind (rd a6 v8) fun x22 =>
    Option.bind (app a7 [x22]) fun l23 =>
    Option.bind (slices_Delete_Event_Event a6 v8 (w64 (v8 + 1))) fun r24 =>
    K0 r24 l23
theorem impl_firstForm_l1_m {E : Env} (hP : E.P = Try.prog) (hn : E.n = 54) (hx : ∀ p, p ∈ E.fx → p.1 ∈ ([] : List Nat)) (a3 : (List GEvent)) {K0 : (List GEvent) → (List GEvent) → Option (List GEvent)} (hK0 : ∀ (a3 : (List GEvent)) (a4 : (List GEvent)) (r : (List GEvent)), K0 a3 a4 = some r → WAt E body37 (FQ (RetE Θ Try.f37.results.toList [] [] (AV.own 50 5 (r.map o50)) E)) [true, true, false, false] ⟨[(3, (AV.sl 1 0 (List.length (a3.map o50)))), (4, (AV.sl 2 0 (List.length (a4.map o50))))], [(1, some ⟨50, 5, (a3.map o50)⟩), (2, some ⟨50, 5, (a4.map o50)⟩)], [1, 2, JJ]⟩) : ∀ (n : Nat) (a6 : (List GEvent)) (a7 : (List GEvent)) (v8 : Int) (v9 : Int) (r : (List GEvent)), impl_firstForm_l1 K0 a3 n a6 a7 v8 v9 = some r → WAt E body37 (FQ (RetE Θ Try.f37.results.toList [] [] (AV.own 50 5 (r.map o50)) E)) [true, true, false, false, false, true, false, true, false, true, false] ⟨[(3, (AV.sl 1 0 (List.length (a6.map o50)))), (4, (AV.sl 2 0 (List.length (a7.map o50)))), (5, (I v8)), (14, (AV.sl 1 0 (List.length (a6.map o50)))), (15, (I (a3.length : Int))), (16, (I v9))], [(1, some ⟨50, 5, (a6.map o50)⟩), (2, some ⟨50, 5, (a7.map o50)⟩)], [1, 2, JJ]⟩ := by
  have hm : E.P.follows .mixedOrders = true := by rw [hP]; exact mixed
  have hΘ : TOK E.P Θ := by rw [hP]; exact Θ_ok
  intro n
  induction n with
  | zero => intro a6 a7 v8 v9 r h; simp only [impl_firstForm_l1] at h; cases h
  | succ n ih =>
    intro a6 a7 v8 v9 r h
    simp only [impl_firstForm_l1] at h
    rcases itS h with ⟨c10, h⟩ | ⟨c21, h⟩
    · obtain ⟨x11, hx11, h⟩ := bnS h
      rcases itS h with ⟨c12, h⟩ | ⟨c20, h⟩
      · obtain ⟨x13, hx13, h⟩ := bnS h
        rcases itS h with ⟨c14, h⟩ | ⟨c15, h⟩
        · exact go_to hΘ hm hx hP hn (hs := [⟨1, .br true, none⟩, ⟨4, .row ((o50 x11)), none⟩, ⟨5, .new 1001, none⟩, ⟨10, .no, some (B true)⟩, ⟨17, .row ((o50 x13)), none⟩, ⟨20, .br true, none⟩]) (π := [(1, 1), (2, 2)]) (ts := [3, 4, 5, 14, 15, 16]) (kp := []) (ps := [(decide (v9 < (a3.length : Int))) = true, (0 : Int) ≤ v9, v9 < (((List.length (a6.map o50)) : Nat) : Int), (a6.map o50)[(Int.toNat v9)]? = some ((o50 x11)), (B (decide (v8 ≥ 0))) = (B true), (0 : Int) ≤ v8, v8 < (((List.length (a6.map o50)) : Nat) : Int), (a6.map o50)[(Int.toNat v8)]? = some ((o50 x13)), (decide (x11.Thread ≥ x13.Thread)) = true, RenOK [(1, 1), (2, 2)] (a6.map o50), RenOK [(1, 1), (2, 2)] (a7.map o50)]) (by kernel_rfl) ⟨c10, (rd0 hx11), (rdL o50 hx11), (rdM o50 hx11), (litB c12), (rd0 hx13), (rdL o50 hx13), (rdM o50 hx13), c14, (rok (treeM t50)), (rok (treeM t50)), trivial⟩ (ih a6 a7 v8 (w64 (v9 + 1)) _ h)
        · exact go_to hΘ hm hx hP hn (hs := [⟨1, .br true, none⟩, ⟨4, .row ((o50 x11)), none⟩, ⟨5, .new 1001, none⟩, ⟨10, .no, some (B true)⟩, ⟨17, .row ((o50 x13)), none⟩, ⟨20, .br false, none⟩]) (π := [(1, 1), (2, 2), (1001, 3)]) (ts := [3, 4, 5, 6, 7, 14, 15, 16]) (kp := []) (ps := [(decide (v9 < (a3.length : Int))) = true, (0 : Int) ≤ v9, v9 < (((List.length (a6.map o50)) : Nat) : Int), (a6.map o50)[(Int.toNat v9)]? = some ((o50 x11)), (B (decide (v8 ≥ 0))) = (B true), (0 : Int) ≤ v8, v8 < (((List.length (a6.map o50)) : Nat) : Int), (a6.map o50)[(Int.toNat v8)]? = some ((o50 x13)), (decide (x11.Thread ≥ x13.Thread)) = false, RenOK [(1, 1), (2, 2), (1001, 3)] (a6.map o50), RenOK [(1, 1), (2, 2), (1001, 3)] (a7.map o50), RenOK [(1, 1), (2, 2), (1001, 3)] [((o50 x11))]]) (by kernel_rfl) ⟨c10, (rd0 hx11), (rdL o50 hx11), (rdM o50 hx11), (litB c12), (rd0 hx13), (rdL o50 hx13), (rdM o50 hx13), c15, (rok (treeM t50)), (rok (treeM t50)), (rok rfl), trivial⟩ (impl_firstForm_j2_m hP hn hx a3 a6 a7 v8 v9 x11 hK0 ih  _ h)
      · exact go_to hΘ hm hx hP hn (hs := [⟨1, .br true, none⟩, ⟨4, .row ((o50 x11)), none⟩, ⟨5, .new 1001, none⟩, ⟨10, .no, some (B false)⟩]) (π := [(1, 1), (2, 2), (1001, 3)]) (ts := [3, 4, 5, 6, 7, 14, 15, 16]) (kp := []) (ps := [(decide (v9 < (a3.length : Int))) = true, (0 : Int) ≤ v9, v9 < (((List.length (a6.map o50)) : Nat) : Int), (a6.map o50)[(Int.toNat v9)]? = some ((o50 x11)), (B (decide (v8 ≥ 0))) = (B false), RenOK [(1, 1), (2, 2), (1001, 3)] (a6.map o50), RenOK [(1, 1), (2, 2), (1001, 3)] (a7.map o50), RenOK [(1, 1), (2, 2), (1001, 3)] [((o50 x11))]]) (by kernel_rfl) ⟨c10, (rd0 hx11), (rdL o50 hx11), (rdM o50 hx11), (litB c20), (rok (treeM t50)), (rok (treeM t50)), (rok rfl), trivial⟩ (impl_firstForm_j2_m hP hn hx a3 a6 a7 v8 v9 x11 hK0 ih  _ h)
    · obtain ⟨x22, hx22, h⟩ := bnS h
      obtain ⟨l23, hl23, h⟩ := bnS h
      obtain ⟨r24, hr24, h⟩ := bnS h
      exact go_to hΘ hm hx hP hn (hs := [⟨1, .br false, none⟩, ⟨6, .row ((o50 x22)), none⟩, ⟨7, .new 1001, none⟩, ⟨8, .app 1002 (l23.map o50), none⟩, ⟨14, .callX [1] [false] [⟨50, 5, (a6.map o50)⟩] [⟨50, 5, (a6.map o50)⟩] [] (AV.own 50 5 (r24.map o50)) [1003] (AV.sl 1003 0 (List.length (r24.map o50))) [(1003, ⟨50, 5, (r24.map o50)⟩)], none⟩]) (π := [(1003, 1), (1002, 2)]) (ts := [3, 4]) (kp := []) (ps := [(decide (v9 < (a3.length : Int))) = false, (0 : Int) ≤ v8, v8 < (((List.length (a6.map o50)) : Nat) : Int), (a6.map o50)[(Int.toNat v8)]? = some ((o50 x22)), (a7.map o50).take (List.length (a7.map o50)) ++ ((([x22].map o50).drop 0).take (List.length ([x22].map o50))) = (l23.map o50), ((([x22].map o50).drop 0).take (List.length ([x22].map o50))).all (fun r => r.all AV.plain) = true, (List.length (l23.map o50)) * 40 ≤ 140737488355328, (List.length (l23.map o50)) ≤ 140737488355328, MeetsR Try.prog 63 [⟨50, 5, (a6.map o50)⟩] [(AV.sl 0 0 (List.length (a6.map o50))), (I v8), (I (w64 (v8 + 1)))] [false] [⟨50, 5, (a6.map o50)⟩] (AV.own 50 5 (r24.map o50)), (some (Root.mk 50 5 (a6.map o50)) = some (Root.mk 50 5 (a6.map o50))) ∧ True, (treeLL (a6.map o50) = true ∧ noRoLL (a6.map o50) = true) ∧ True, ((a6.map o50).length = (a6.map o50).length) ∧ True, (rtf (renA [] (AV.own 50 5 (r24.map o50))) [1003]).1 = (AV.sl 1003 0 (List.length (r24.map o50))), (rtf (renA [] (AV.own 50 5 (r24.map o50))) [1003]).2.1 = [(1003, ⟨50, 5, (r24.map o50)⟩)], RenOK [(1003, 1), (1002, 2)] (r24.map o50), RenOK [(1003, 1), (1002, 2)] (l23.map o50)]) (by kernel_rfl) ⟨c21, (rd0 hx22), (rdL o50 hx22), (rdM o50 hx22), (appTD o50 hl23), (plD p50), (appB o50 hl23 (by decide)), (appC o50 hl23), (slices_Delete_Event_Event_m hr24), ⟨rfl, trivial⟩, ⟨⟨treeM t50, noRoM n50⟩, trivial⟩, ⟨rfl, trivial⟩, rfl, rfl, (rok (treeM t50)), (rok (treeM t50)), trivial⟩ (hK0 r24 l23 _ h)
noncomputable def impl_firstForm_l0   : Nat → (List GEvent) → (List GEvent) → Option (List GEvent)
  | 0, _, _ => none
  | n + 1, a3, a4 =>
  if (decide ((a3.length : Int) > 0)) = true then
    impl_firstForm_l1 (impl_firstForm_l0 n) a3 FU a3 a4 (-1) 0
  else
    some a4
theorem impl_firstForm_l0_m {E : Env} (hP : E.P = Try.prog) (hn : E.n = 54) (hx : ∀ p, p ∈ E.fx → p.1 ∈ ([] : List Nat))   : ∀ (n : Nat) (a3 : (List GEvent)) (a4 : (List GEvent)) (r : (List GEvent)), impl_firstForm_l0  n a3 a4 = some r → WAt E body37 (FQ (RetE Θ Try.f37.results.toList [] [] (AV.own 50 5 (r.map o50)) E)) [true, true, false, false] ⟨[(3, (AV.sl 1 0 (List.length (a3.map o50)))), (4, (AV.sl 2 0 (List.length (a4.map o50))))], [(1, some ⟨50, 5, (a3.map o50)⟩), (2, some ⟨50, 5, (a4.map o50)⟩)], [1, 2, JJ]⟩ := by
  have hm : E.P.follows .mixedOrders = true := by rw [hP]; exact mixed
  have hΘ : TOK E.P Θ := by rw [hP]; exact Θ_ok
  intro n
  induction n with
  | zero => intro a3 a4 r h; simp only [impl_firstForm_l0] at h; cases h
  | succ n ih =>
    intro a3 a4 r h
    simp only [impl_firstForm_l0] at h
    rcases itS h with ⟨c5, h⟩ | ⟨c25, h⟩
    · exact go_to hΘ hm hx hP hn (hs := [⟨1, .no, some (I (a3.length : Int))⟩, ⟨3, .br true, none⟩, ⟨6, .no, some (I (a3.length : Int))⟩]) (π := [(1, 1), (2, 2)]) (ts := [3, 4, 5, 14, 15, 16]) (kp := []) (ps := [AV.lit (.int .i64 (((List.length (a3.map o50)) : Nat) : Int)) = (I (a3.length : Int)), (decide ((a3.length : Int) > 0)) = true, AV.lit (.int .i64 (((List.length (a3.map o50)) : Nat) : Int)) = (I (a3.length : Int)), RenOK [(1, 1), (2, 2)] (a3.map o50), RenOK [(1, 1), (2, 2)] (a4.map o50)]) (by kernel_rfl) ⟨(lenM o50), c5, (lenM o50), (rok (treeM t50)), (rok (treeM t50)), trivial⟩ (impl_firstForm_l1_m hP hn hx a3 ih FU a3 a4 (-1) 0 _ h)
    · have h := Option.some.inj h
      subst h
      exact go_ret hΘ hm hP hn (hs := [⟨1, .no, some (I (a3.length : Int))⟩, ⟨3, .br false, none⟩]) (rh := []) (ph := .own) (ps := [AV.lit (.int .i64 (((List.length (a3.map o50)) : Nat) : Int)) = (I (a3.length : Int)), (decide ((a3.length : Int) > 0)) = false, treeLL ((a4.map o50).take (List.length (a4.map o50))) = true, (a4.map o50).take (List.length (a4.map o50)) = (a4.map o50), noRoLL (a4.map o50) = true]) (by kernel_rfl) ⟨(lenM o50), c25, (treeT t50), takeM, (noRoM n50), trivial⟩
noncomputable def impl_firstForm (p1 : (List GEvent)) : Option (List GEvent) :=
  Option.bind (slices_Clone_Event_Event p1) fun r2 =>
  impl_firstForm_l0 FU r2 []
theorem impl_firstForm_m {p1 : (List GEvent)} {r : (List GEvent)} (h : impl_firstForm p1 = some r) : Meets Try.prog 37 [(AV.ro 5 (p1.map o50))] (AV.own 50 5 (r.map o50)) := by
  refine meets_ofC Θ_ok Try.func37 rfl (c := body37) (by kernel_rfl) (Nat.le_of_ble_eq_true rfl) ?_
  intro E hP hn hx
  replace hn : E.n = 54 := hn
  have hm : E.P.follows .mixedOrders = true := by rw [hP]; exact mixed
  have hΘ : TOK E.P Θ := by rw [hP]; exact Θ_ok
  unfold impl_firstForm at h
  show WAt E body37 (FQ (RetE Θ Try.f37.results.toList [] [] (AV.own 50 5 (r.map o50)) E)) [] ⟨[(0, (AV.ro 5 (p1.map o50)))], [], [JJ]⟩
  obtain ⟨r2, hr2, h⟩ := bnS h
  exact go_to hΘ hm hx hP hn (hs := [⟨2, .call [] (AV.own 50 5 (r2.map o50)) [1001], none⟩, ⟨3, .new 1002, none⟩]) (π := [(1001, 1), (1002, 2)]) (ts := [3, 4]) (kp := []) (ps := [Meets Try.prog 60 [(AV.ro 5 (p1.map o50))] (AV.own 50 5 (r2.map o50)), noRo (AV.own 50 5 (r2.map o50)) = true, RenOK [(1001, 1), (1002, 2)] (r2.map o50), RenOK [(1001, 1), (1002, 2)] ([].map o50)]) (by kernel_rfl) ⟨(slices_Clone_Event_Event_m hr2), (by simp only [noRo, noRoL, noRoM n50, Bool.and_self]), (rok (treeM t50)), (rok (treeM t50)), trivial⟩ (impl_firstForm_l0_m hP hn hx FU r2 [] _ h)
noncomputable def body36 : Code := match Try.f36.body with | some c => c | none => .skip
noncomputable def slices_Equal_Event_Event_l0  (p1 : (List GEvent)) (p2 : (List GEvent)) : Nat → Int → Option Bool
  | 0, _ => none
  | n + 1, v5 =>
  if (decide (v5 < (p1.length : Int))) = true then
    Option.bind (rd p1 v5) fun x7 =>
    Option.bind (rd p2 v5) fun x8 =>
    if (!(decide (x7 = x8))) = true then
      some false
    else
      slices_Equal_Event_Event_l0 p1 p2 n (w64 (v5 + 1))
  else
    some true
theorem slices_Equal_Event_Event_l0_m {E : Env} (hP : E.P = Try.prog) (hn : E.n = 26) (hx : ∀ p, p ∈ E.fx → p.1 ∈ ([] : List Nat)) (p1 : (List GEvent)) (p2 : (List GEvent))  : ∀ (n : Nat) (v5 : Int) (r : Bool), slices_Equal_Event_Event_l0 p1 p2 n v5 = some r → WAt E body36 (FQ (RetE Θ Try.f36.results.toList [] [] (B r) E)) [true, true, false, true, false] ⟨[(0, (AV.ro 5 (p1.map o50))), (1, (AV.ro 5 (p2.map o50))), (12, (I (p1.length : Int))), (13, (I v5))], [], [JJ]⟩ := by
  have hm : E.P.follows .mixedOrders = true := by rw [hP]; exact mixed
  have hΘ : TOK E.P Θ := by rw [hP]; exact Θ_ok
  intro n
  induction n with
  | zero => intro v5 r h; simp only [slices_Equal_Event_Event_l0] at h; cases h
  | succ n ih =>
    intro v5 r h
    simp only [slices_Equal_Event_Event_l0] at h
    rcases itS h with ⟨c6, h⟩ | ⟨c11, h⟩
    · obtain ⟨x7, hx7, h⟩ := bnS h
      obtain ⟨x8, hx8, h⟩ := bnS h
      rcases itS h with ⟨c9, h⟩ | ⟨c10, h⟩
      · have h := Option.some.inj h
        subst h
        exact go_ret hΘ hm hP hn (hs := [⟨1, .br true, none⟩, ⟨6, .row (o50 x7), none⟩, ⟨10, .row (o50 x8), none⟩, ⟨12, .bin (B (!(decide (x7 = x8)))), none⟩, ⟨13, .br true, none⟩]) (rh := []) (ph := .raw) (ps := [(decide (v5 < (p1.length : Int))) = true, (0 : Int) ≤ v5, (p1.map o50)[(Int.toNat v5)]? = some (o50 x7), (0 : Int) ≤ v5, (p2.map o50)[(Int.toNat v5)]? = some (o50 x8), BinS Try.prog .neq 50 (AV.agg ((o50 x7))) (AV.agg ((o50 x8))) (B (!(decide (x7 = x8)))), (!(decide (x7 = x8))) = true, (B false) = (B false), litA (B false) = true]) (by kernel_rfl) ⟨c6, (rd0 hx7), (rdM o50 hx7), (rd0 hx8), (rdM o50 hx8), (nes50 _ _), c9, rfl, rfl, trivial⟩
      · exact go_to hΘ hm hx hP hn (hs := [⟨1, .br true, none⟩, ⟨6, .row (o50 x7), none⟩, ⟨10, .row (o50 x8), none⟩, ⟨12, .bin (B (!(decide (x7 = x8)))), none⟩, ⟨13, .br false, none⟩]) (π := []) (ts := [0, 1, 12, 13]) (kp := []) (ps := [(decide (v5 < (p1.length : Int))) = true, (0 : Int) ≤ v5, (p1.map o50)[(Int.toNat v5)]? = some (o50 x7), (0 : Int) ≤ v5, (p2.map o50)[(Int.toNat v5)]? = some (o50 x8), BinS Try.prog .neq 50 (AV.agg ((o50 x7))) (AV.agg ((o50 x8))) (B (!(decide (x7 = x8)))), (!(decide (x7 = x8))) = false]) (by kernel_rfl) ⟨c6, (rd0 hx7), (rdM o50 hx7), (rd0 hx8), (rdM o50 hx8), (nes50 _ _), c10, trivial⟩ (ih (w64 (v5 + 1)) _ h)
    · have h := Option.some.inj h
      subst h
      exact go_ret hΘ hm hP hn (hs := [⟨1, .br false, none⟩]) (rh := []) (ph := .raw) (ps := [(decide (v5 < (p1.length : Int))) = false, (B true) = (B true), litA (B true) = true]) (by kernel_rfl) ⟨c11, rfl, rfl, trivial⟩
noncomputable def slices_Equal_Event_Event (p1 : (List GEvent)) (p2 : (List GEvent)) : Option Bool :=
  if ((p1.length : Int) != (p2.length : Int)) = true then
    some false
  else
    slices_Equal_Event_Event_l0 p1 p2 FU 0
theorem slices_Equal_Event_Event_m {p1 : (List GEvent)} {p2 : (List GEvent)} {r : Bool} (h : slices_Equal_Event_Event p1 p2 = some r) : Meets Try.prog 36 [(AV.ro 5 (p1.map o50)), (AV.ro 5 (p2.map o50))] (B r) := by
  refine meets_ofC Θ_ok Try.func36 rfl (c := body36) (by kernel_rfl) (Nat.le_of_ble_eq_true rfl) ?_
  intro E hP hn hx
  replace hn : E.n = 26 := hn
  have hm : E.P.follows .mixedOrders = true := by rw [hP]; exact mixed
  have hΘ : TOK E.P Θ := by rw [hP]; exact Θ_ok
  unfold slices_Equal_Event_Event at h
  show WAt E body36 (FQ (RetE Θ Try.f36.results.toList [] [] (B r) E)) [] ⟨[(0, (AV.ro 5 (p1.map o50))), (1, (AV.ro 5 (p2.map o50)))], [], [JJ]⟩
  rcases itS h with ⟨c3, h⟩ | ⟨c4, h⟩
  · have h := Option.some.inj h
    subst h
    exact go_ret hΘ hm hP hn (hs := [⟨2, .no, some (I (p1.length : Int))⟩, ⟨4, .no, some (I (p2.length : Int))⟩, ⟨6, .br true, none⟩]) (rh := []) (ph := .raw) (ps := [AV.lit (.int .i64 (((p1.map o50).length : Nat) : Int)) = (I (p1.length : Int)), AV.lit (.int .i64 (((p2.map o50).length : Nat) : Int)) = (I (p2.length : Int)), ((p1.length : Int) != (p2.length : Int)) = true, (B false) = (B false), litA (B false) = true]) (by kernel_rfl) ⟨(lenM o50), (lenM o50), c3, rfl, rfl, trivial⟩
  · exact go_to hΘ hm hx hP hn (hs := [⟨2, .no, some (I (p1.length : Int))⟩, ⟨4, .no, some (I (p2.length : Int))⟩, ⟨6, .br false, none⟩, ⟨8, .no, some (I (p1.length : Int))⟩]) (π := []) (ts := [0, 1, 12, 13]) (kp := []) (ps := [AV.lit (.int .i64 (((p1.map o50).length : Nat) : Int)) = (I (p1.length : Int)), AV.lit (.int .i64 (((p2.map o50).length : Nat) : Int)) = (I (p2.length : Int)), ((p1.length : Int) != (p2.length : Int)) = false, AV.lit (.int .i64 (((p1.map o50).length : Nat) : Int)) = (I (p1.length : Int))]) (by kernel_rfl) ⟨(lenM o50), (lenM o50), c4, (lenM o50), trivial⟩ (slices_Equal_Event_Event_l0_m hP hn hx p1 p2 FU 0 _ h)
noncomputable def body15 : Code := match Try.f15.body with | some c => c | none => .skip
noncomputable def impl_SameBut (p1 : (List GEvent)) (p2 : (List GEvent)) : Option (Bool × Bool) :=
  Option.bind (impl_GoodTrace p1) fun r3 =>
  if (!r3) = true then
    some (false, false)
  else
    Option.bind (impl_GoodTrace p2) fun r6 =>
    if (!r6) = true then
      some (false, false)
    else
      Option.bind (impl_firstForm p1) fun r9 =>
      Option.bind (impl_firstForm p2) fun r10 =>
      Option.bind (slices_Equal_Event_Event r9 r10) fun r11 =>
      some (r11, true)
theorem impl_SameBut_m {p1 : (List GEvent)} {p2 : (List GEvent)} {r : (Bool × Bool)} (h : impl_SameBut p1 p2 = some r) : Meets Try.prog 15 [(AV.ro 5 (p1.map o50)), (AV.ro 5 (p2.map o50))] (AV.tup [(B r.1), (B r.2)]) := by
  refine meets_ofC Θ_ok Try.func15 rfl (c := body15) (by kernel_rfl) (Nat.le_of_ble_eq_true rfl) ?_
  intro E hP hn hx
  replace hn : E.n = 19 := hn
  have hm : E.P.follows .mixedOrders = true := by rw [hP]; exact mixed
  have hΘ : TOK E.P Θ := by rw [hP]; exact Θ_ok
  unfold impl_SameBut at h
  show WAt E body15 (FQ (RetE Θ Try.f15.results.toList [] [] (AV.tup [(B r.1), (B r.2)]) E)) [] ⟨[(0, (AV.ro 5 (p1.map o50))), (1, (AV.ro 5 (p2.map o50)))], [], [JJ]⟩
  obtain ⟨r3, hr3, h⟩ := bnS h
  rcases itS h with ⟨c4, h⟩ | ⟨c5, h⟩
  · have h := Option.some.inj h
    subst h
    exact go_ret hΘ hm hP hn (hs := [⟨3, .callV [] (B r3), none⟩, ⟨5, .no, some (B true)⟩]) (rh := []) (ph := .agg [.raw, .raw]) (ps := [Meets Try.prog 35 [(AV.ro 5 (p1.map o50))] (B r3), litA (B r3) = true, (B (!r3)) = (B true), (B false) = (B false), litA (B false) = true, (B false) = (B false), litA (B false) = true]) (by kernel_rfl) ⟨(impl_GoodTrace_m hr3), rfl, (litB c4), rfl, rfl, rfl, rfl, trivial⟩
  · obtain ⟨r6, hr6, h⟩ := bnS h
    rcases itS h with ⟨c7, h⟩ | ⟨c8, h⟩
    · have h := Option.some.inj h
      subst h
      exact go_ret hΘ hm hP hn (hs := [⟨3, .callV [] (B r3), none⟩, ⟨5, .no, some (B false)⟩, ⟨7, .callV [] (B r6), none⟩, ⟨10, .br true, none⟩]) (rh := []) (ph := .agg [.raw, .raw]) (ps := [Meets Try.prog 35 [(AV.ro 5 (p1.map o50))] (B r3), litA (B r3) = true, (B (!r3)) = (B false), Meets Try.prog 35 [(AV.ro 5 (p2.map o50))] (B r6), litA (B r6) = true, (!r6) = true, (B false) = (B false), litA (B false) = true, (B false) = (B false), litA (B false) = true]) (by kernel_rfl) ⟨(impl_GoodTrace_m hr3), rfl, (litB c5), (impl_GoodTrace_m hr6), rfl, c7, rfl, rfl, rfl, rfl, trivial⟩
    · obtain ⟨r9, hr9, h⟩ := bnS h
      obtain ⟨r10, hr10, h⟩ := bnS h
      obtain ⟨r11, hr11, h⟩ := bnS h
      have h := Option.some.inj h
      subst h
      exact go_ret hΘ hm hP hn (hs := [⟨3, .callV [] (B r3), none⟩, ⟨5, .no, some (B false)⟩, ⟨7, .callV [] (B r6), none⟩, ⟨10, .br false, none⟩, ⟨12, .call [] (AV.own 50 5 (r9.map o50)) [1001], none⟩, ⟨14, .call [] (AV.own 50 5 (r10.map o50)) [1002], none⟩, ⟨15, .callV [(r9.map o50), (r10.map o50)] (B r11), none⟩]) (rh := []) (ph := .agg [.raw, .raw]) (ps := [Meets Try.prog 35 [(AV.ro 5 (p1.map o50))] (B r3), litA (B r3) = true, (B (!r3)) = (B false), Meets Try.prog 35 [(AV.ro 5 (p2.map o50))] (B r6), litA (B r6) = true, (!r6) = false, Meets Try.prog 37 [(AV.ro 5 (p1.map o50))] (AV.own 50 5 (r9.map o50)), noRo (AV.own 50 5 (r9.map o50)) = true, Meets Try.prog 37 [(AV.ro 5 (p2.map o50))] (AV.own 50 5 (r10.map o50)), noRo (AV.own 50 5 (r10.map o50)) = true, Meets Try.prog 36 [(AV.ro 5 (r9.map o50)), (AV.ro 5 (r10.map o50))] (B r11), litA (B r11) = true, Frz (((r9.map o50).drop 0).take (List.length (r9.map o50))) (r9.map o50), Frz (((r10.map o50).drop 0).take (List.length (r10.map o50))) (r10.map o50), (B r11) = (B r11), litA (B r11) = true, (B true) = (B true), litA (B true) = true]) (by kernel_rfl) ⟨(impl_GoodTrace_m hr3), rfl, (litB c5), (impl_GoodTrace_m hr6), rfl, c8, (impl_firstForm_m hr9), (by simp only [noRo, noRoL, noRoM n50, Bool.and_self]), (impl_firstForm_m hr10), (by simp only [noRo, noRoL, noRoM n50, Bool.and_self]), (slices_Equal_Event_Event_m hr11), rfl, (frzF t50 z50), (frzF t50 z50), rfl, rfl, rfl, rfl, trivial⟩
noncomputable def body38 : Code := match Try.f38.body with | some c => c | none => .skip
noncomputable def laws_eqEvent (p1 : GEvent) (p2 : GEvent) : Option Bool :=
  if (p1.Thread != p2.Thread) = true then
    some false
  else
    if (p1.Kind != p2.Kind) = true then
      some false
    else
      if (p1.Obj != p2.Obj) = true then
        some false
      else
        if (p1.Lock != p2.Lock) = true then
          some false
        else
          if (p1.Pc != p2.Pc) = true then
            some false
          else
            some true
theorem laws_eqEvent_m {p1 : GEvent} {p2 : GEvent} {r : Bool} (h : laws_eqEvent p1 p2 = some r) : Meets Try.prog 38 [(AV.agg ((o50 p1))), (AV.agg ((o50 p2)))] (B r) := by
  refine meets_ofC Θ_ok Try.func38 rfl (c := body38) (by kernel_rfl) (Nat.le_of_ble_eq_true rfl) ?_
  intro E hP hn hx
  replace hn : E.n = 30 := hn
  have hm : E.P.follows .mixedOrders = true := by rw [hP]; exact mixed
  have hΘ : TOK E.P Θ := by rw [hP]; exact Θ_ok
  unfold laws_eqEvent at h
  show WAt E body38 (FQ (RetE Θ Try.f38.results.toList [] [] (B r) E)) [] ⟨[(0, (AV.agg ((o50 p1)))), (1, (AV.agg ((o50 p2))))], [], [JJ]⟩
  rcases itS h with ⟨c3, h⟩ | ⟨c4, h⟩
  · have h := Option.some.inj h
    subst h
    exact go_ret hΘ hm hP hn (hs := [⟨0, .new 1001, none⟩, ⟨1, .new 1002, none⟩, ⟨8, .br true, none⟩]) (rh := []) (ph := .raw) (ps := [(p1.Thread != p2.Thread) = true, (B false) = (B false), litA (B false) = true]) (by kernel_rfl) ⟨c3, rfl, rfl, trivial⟩
  · rcases itS h with ⟨c5, h⟩ | ⟨c6, h⟩
    · have h := Option.some.inj h
      subst h
      exact go_ret hΘ hm hP hn (hs := [⟨0, .new 1001, none⟩, ⟨1, .new 1002, none⟩, ⟨8, .br false, none⟩, ⟨14, .br true, none⟩]) (rh := []) (ph := .raw) (ps := [(p1.Thread != p2.Thread) = false, (p1.Kind != p2.Kind) = true, (B false) = (B false), litA (B false) = true]) (by kernel_rfl) ⟨c4, c5, rfl, rfl, trivial⟩
    · rcases itS h with ⟨c7, h⟩ | ⟨c8, h⟩
      · have h := Option.some.inj h
        subst h
        exact go_ret hΘ hm hP hn (hs := [⟨0, .new 1001, none⟩, ⟨1, .new 1002, none⟩, ⟨8, .br false, none⟩, ⟨14, .br false, none⟩, ⟨20, .br true, none⟩]) (rh := []) (ph := .raw) (ps := [(p1.Thread != p2.Thread) = false, (p1.Kind != p2.Kind) = false, (p1.Obj != p2.Obj) = true, (B false) = (B false), litA (B false) = true]) (by kernel_rfl) ⟨c4, c6, c7, rfl, rfl, trivial⟩
      · rcases itS h with ⟨c9, h⟩ | ⟨c10, h⟩
        · have h := Option.some.inj h
          subst h
          exact go_ret hΘ hm hP hn (hs := [⟨0, .new 1001, none⟩, ⟨1, .new 1002, none⟩, ⟨8, .br false, none⟩, ⟨14, .br false, none⟩, ⟨20, .br false, none⟩, ⟨26, .br true, none⟩]) (rh := []) (ph := .raw) (ps := [(p1.Thread != p2.Thread) = false, (p1.Kind != p2.Kind) = false, (p1.Obj != p2.Obj) = false, (p1.Lock != p2.Lock) = true, (B false) = (B false), litA (B false) = true]) (by kernel_rfl) ⟨c4, c6, c8, c9, rfl, rfl, trivial⟩
        · rcases itS h with ⟨c11, h⟩ | ⟨c12, h⟩
          · have h := Option.some.inj h
            subst h
            exact go_ret hΘ hm hP hn (hs := [⟨0, .new 1001, none⟩, ⟨1, .new 1002, none⟩, ⟨8, .br false, none⟩, ⟨14, .br false, none⟩, ⟨20, .br false, none⟩, ⟨26, .br false, none⟩, ⟨32, .br true, none⟩]) (rh := []) (ph := .raw) (ps := [(p1.Thread != p2.Thread) = false, (p1.Kind != p2.Kind) = false, (p1.Obj != p2.Obj) = false, (p1.Lock != p2.Lock) = false, (p1.Pc != p2.Pc) = true, (B false) = (B false), litA (B false) = true]) (by kernel_rfl) ⟨c4, c6, c8, c10, c11, rfl, rfl, trivial⟩
          · have h := Option.some.inj h
            subst h
            exact go_ret hΘ hm hP hn (hs := [⟨0, .new 1001, none⟩, ⟨1, .new 1002, none⟩, ⟨8, .br false, none⟩, ⟨14, .br false, none⟩, ⟨20, .br false, none⟩, ⟨26, .br false, none⟩, ⟨32, .br false, none⟩]) (rh := []) (ph := .raw) (ps := [(p1.Thread != p2.Thread) = false, (p1.Kind != p2.Kind) = false, (p1.Obj != p2.Obj) = false, (p1.Lock != p2.Lock) = false, (p1.Pc != p2.Pc) = false, (B true) = (B true), litA (B true) = true]) (by kernel_rfl) ⟨c4, c6, c8, c10, c12, rfl, rfl, trivial⟩
noncomputable def body13 : Code := match Try.f13.body with | some c => c | none => .skip
noncomputable def laws_eqEventS_l0  (p1 : (List GEvent)) (p2 : (List GEvent)) : Nat → Int → Option Bool
  | 0, _ => none
  | n + 1, v5 =>
  if (decide (v5 < (p1.length : Int))) = true then
    Option.bind (rd p1 v5) fun x7 =>
    Option.bind (rd p2 v5) fun x8 =>
    Option.bind (laws_eqEvent x7 x8) fun r9 =>
    if (!r9) = true then
      some false
    else
      laws_eqEventS_l0 p1 p2 n (w64 (v5 + 1))
  else
    some true
theorem laws_eqEventS_l0_m {E : Env} (hP : E.P = Try.prog) (hn : E.n = 27) (hx : ∀ p, p ∈ E.fx → p.1 ∈ ([] : List Nat)) (p1 : (List GEvent)) (p2 : (List GEvent))  : ∀ (n : Nat) (v5 : Int) (r : Bool), laws_eqEventS_l0 p1 p2 n v5 = some r → WAt E body13 (FQ (RetE Θ Try.f13.results.toList [] [] (B r) E)) [true, true, false, true, false] ⟨[(0, (AV.ro 5 (p1.map o50))), (1, (AV.ro 5 (p2.map o50))), (5, (I v5))], [], [JJ]⟩ := by
  have hm : E.P.follows .mixedOrders = true := by rw [hP]; exact mixed
  have hΘ : TOK E.P Θ := by rw [hP]; exact Θ_ok
  intro n
  induction n with
  | zero => intro v5 r h; simp only [laws_eqEventS_l0] at h; cases h
  | succ n ih =>
    intro v5 r h
    simp only [laws_eqEventS_l0] at h
    rcases itS h with ⟨c6, h⟩ | ⟨c12, h⟩
    · obtain ⟨x7, hx7, h⟩ := bnS h
      obtain ⟨x8, hx8, h⟩ := bnS h
      obtain ⟨r9, hr9, h⟩ := bnS h
      rcases itS h with ⟨c10, h⟩ | ⟨c11, h⟩
      · have h := Option.some.inj h
        subst h
        exact go_ret hΘ hm hP hn (hs := [⟨2, .no, some (I (p1.length : Int))⟩, ⟨4, .br true, none⟩, ⟨7, .row (o50 x7), none⟩, ⟨11, .row (o50 x8), none⟩, ⟨13, .callV [[], []] (B r9), none⟩, ⟨15, .br true, none⟩]) (rh := []) (ph := .raw) (ps := [AV.lit (.int .i64 (((p1.map o50).length : Nat) : Int)) = (I (p1.length : Int)), (decide (v5 < (p1.length : Int))) = true, (0 : Int) ≤ v5, (p1.map o50)[(Int.toNat v5)]? = some (o50 x7), (0 : Int) ≤ v5, (p2.map o50)[(Int.toNat v5)]? = some (o50 x8), Meets Try.prog 38 [(AV.agg ((o50 x7))), (AV.agg ((o50 x8)))] (B r9), litA (B r9) = true, (!r9) = true, (B false) = (B false), litA (B false) = true]) (by kernel_rfl) ⟨(lenM o50), c6, (rd0 hx7), (rdM o50 hx7), (rd0 hx8), (rdM o50 hx8), (laws_eqEvent_m hr9), rfl, c10, rfl, rfl, trivial⟩
      · exact go_to hΘ hm hx hP hn (hs := [⟨2, .no, some (I (p1.length : Int))⟩, ⟨4, .br true, none⟩, ⟨7, .row (o50 x7), none⟩, ⟨11, .row (o50 x8), none⟩, ⟨13, .callV [[], []] (B r9), none⟩, ⟨15, .br false, none⟩]) (π := []) (ts := [0, 1, 5]) (kp := []) (ps := [AV.lit (.int .i64 (((p1.map o50).length : Nat) : Int)) = (I (p1.length : Int)), (decide (v5 < (p1.length : Int))) = true, (0 : Int) ≤ v5, (p1.map o50)[(Int.toNat v5)]? = some (o50 x7), (0 : Int) ≤ v5, (p2.map o50)[(Int.toNat v5)]? = some (o50 x8), Meets Try.prog 38 [(AV.agg ((o50 x7))), (AV.agg ((o50 x8)))] (B r9), litA (B r9) = true, (!r9) = false]) (by kernel_rfl) ⟨(lenM o50), c6, (rd0 hx7), (rdM o50 hx7), (rd0 hx8), (rdM o50 hx8), (laws_eqEvent_m hr9), rfl, c11, trivial⟩ (ih (w64 (v5 + 1)) _ h)
    · have h := Option.some.inj h
      subst h
      exact go_ret hΘ hm hP hn (hs := [⟨2, .no, some (I (p1.length : Int))⟩, ⟨4, .br false, none⟩]) (rh := []) (ph := .raw) (ps := [AV.lit (.int .i64 (((p1.map o50).length : Nat) : Int)) = (I (p1.length : Int)), (decide (v5 < (p1.length : Int))) = false, (B true) = (B true), litA (B true) = true]) (by kernel_rfl) ⟨(lenM o50), c12, rfl, rfl, trivial⟩
noncomputable def laws_eqEventS (p1 : (List GEvent)) (p2 : (List GEvent)) : Option Bool :=
  if ((p1.length : Int) != (p2.length : Int)) = true then
    some false
  else
    laws_eqEventS_l0 p1 p2 FU 0
theorem laws_eqEventS_m {p1 : (List GEvent)} {p2 : (List GEvent)} {r : Bool} (h : laws_eqEventS p1 p2 = some r) : Meets Try.prog 13 [(AV.ro 5 (p1.map o50)), (AV.ro 5 (p2.map o50))] (B r) := by
  refine meets_ofC Θ_ok Try.func13 rfl (c := body13) (by kernel_rfl) (Nat.le_of_ble_eq_true rfl) ?_
  intro E hP hn hx
  replace hn : E.n = 27 := hn
  have hm : E.P.follows .mixedOrders = true := by rw [hP]; exact mixed
  have hΘ : TOK E.P Θ := by rw [hP]; exact Θ_ok
  unfold laws_eqEventS at h
  show WAt E body13 (FQ (RetE Θ Try.f13.results.toList [] [] (B r) E)) [] ⟨[(0, (AV.ro 5 (p1.map o50))), (1, (AV.ro 5 (p2.map o50)))], [], [JJ]⟩
  rcases itS h with ⟨c3, h⟩ | ⟨c4, h⟩
  · have h := Option.some.inj h
    subst h
    exact go_ret hΘ hm hP hn (hs := [⟨2, .no, some (I (p1.length : Int))⟩, ⟨4, .no, some (I (p2.length : Int))⟩, ⟨6, .br true, none⟩]) (rh := []) (ph := .raw) (ps := [AV.lit (.int .i64 (((p1.map o50).length : Nat) : Int)) = (I (p1.length : Int)), AV.lit (.int .i64 (((p2.map o50).length : Nat) : Int)) = (I (p2.length : Int)), ((p1.length : Int) != (p2.length : Int)) = true, (B false) = (B false), litA (B false) = true]) (by kernel_rfl) ⟨(lenM o50), (lenM o50), c3, rfl, rfl, trivial⟩
  · exact go_to hΘ hm hx hP hn (hs := [⟨2, .no, some (I (p1.length : Int))⟩, ⟨4, .no, some (I (p2.length : Int))⟩, ⟨6, .br false, none⟩]) (π := []) (ts := [0, 1, 5]) (kp := []) (ps := [AV.lit (.int .i64 (((p1.map o50).length : Nat) : Int)) = (I (p1.length : Int)), AV.lit (.int .i64 (((p2.map o50).length : Nat) : Int)) = (I (p2.length : Int)), ((p1.length : Int) != (p2.length : Int)) = false]) (by kernel_rfl) ⟨(lenM o50), (lenM o50), c4, trivial⟩ (laws_eqEventS_l0_m hP hn hx p1 p2 FU 0 _ h)
noncomputable def body9 : Code := match Try.f9.body with | some c => c | none => .skip
noncomputable def laws_szEventS (p1 : (List GEvent)) (p2 : Int) : Option Int :=
  if (decide ((w64 (p2 - (p1.length : Int))) < 0)) = true then
    some (-1)
  else
    some (w64 (p2 - (p1.length : Int)))
theorem laws_szEventS_m {p1 : (List GEvent)} {p2 : Int} {r : Int} (h : laws_szEventS p1 p2 = some r) : Meets Try.prog 9 [(AV.ro 5 (p1.map o52)), (I p2)] (I r) := by
  refine meets_ofC Θ_ok Try.func9 rfl (c := body9) (by kernel_rfl) (Nat.le_of_ble_eq_true rfl) ?_
  intro E hP hn hx
  replace hn : E.n = 12 := hn
  have hm : E.P.follows .mixedOrders = true := by rw [hP]; exact mixed
  have hΘ : TOK E.P Θ := by rw [hP]; exact Θ_ok
  unfold laws_szEventS at h
  show WAt E body9 (FQ (RetE Θ Try.f9.results.toList [] [] (I r) E)) [] ⟨[(0, (AV.ro 5 (p1.map o52))), (1, (I p2))], [], [JJ]⟩
  rcases itS h with ⟨c3, h⟩ | ⟨c4, h⟩
  · have h := Option.some.inj h
    subst h
    exact go_ret hΘ hm hP hn (hs := [⟨3, .no, some (I (p1.length : Int))⟩, ⟨8, .br true, none⟩]) (rh := []) (ph := .raw) (ps := [AV.lit (.int .i64 (((p1.map o52).length : Nat) : Int)) = (I (p1.length : Int)), (decide ((w64 (p2 - (p1.length : Int))) < 0)) = true, (I (-1)) = (I (-1)), litA (I (-1)) = true]) (by kernel_rfl) ⟨(lenM o52), c3, rfl, rfl, trivial⟩
  · have h := Option.some.inj h
    subst h
    exact go_ret hΘ hm hP hn (hs := [⟨3, .no, some (I (p1.length : Int))⟩, ⟨8, .br false, none⟩]) (rh := []) (ph := .raw) (ps := [AV.lit (.int .i64 (((p1.map o52).length : Nat) : Int)) = (I (p1.length : Int)), (decide ((w64 (p2 - (p1.length : Int))) < 0)) = false, (I (w64 (p2 - (p1.length : Int)))) = (I (w64 (p2 - (p1.length : Int)))), litA (I (w64 (p2 - (p1.length : Int)))) = true]) (by kernel_rfl) ⟨(lenM o52), c4, rfl, rfl, trivial⟩
noncomputable def body34 : Code := match Try.f34.body with | some c => c | none => .skip
noncomputable def laws_toEvent (p1 : GEvent) : Option GEvent :=
  some (GEvent.mk p1.Thread p1.Kind p1.Obj p1.Lock p1.Pc)
theorem laws_toEvent_m {p1 : GEvent} {r : GEvent} (h : laws_toEvent p1 = some r) : Meets Try.prog 34 [(AV.agg ((o52 p1)))] (AV.agg (o50 r)) := by
  refine meets_ofC Θ_ok Try.func34 rfl (c := body34) (by kernel_rfl) (Nat.le_of_ble_eq_true rfl) ?_
  intro E hP hn hx
  replace hn : E.n = 20 := hn
  have hm : E.P.follows .mixedOrders = true := by rw [hP]; exact mixed
  have hΘ : TOK E.P Θ := by rw [hP]; exact Θ_ok
  unfold laws_toEvent at h
  show WAt E body34 (FQ (RetE Θ Try.f34.results.toList [] [] (AV.agg (o50 r)) E)) [] ⟨[(0, (AV.agg ((o52 p1))))], [], [JJ]⟩
  have h := Option.some.inj h
  subst h
  exact go_ret hΘ hm hP hn (hs := [⟨0, .new 1001, none⟩, ⟨1, .new 1002, none⟩, ⟨2, .new 1003, none⟩]) (rh := []) (ph := .raw) (ps := [(AV.agg [(I p1.Thread), (I p1.Kind), (I p1.Obj), (I p1.Lock), (I p1.Pc)]) = (AV.agg [(I p1.Thread), (I p1.Kind), (I p1.Obj), (I p1.Lock), (I p1.Pc)]), litA (AV.agg [(I p1.Thread), (I p1.Kind), (I p1.Obj), (I p1.Lock), (I p1.Pc)]) = true]) (by kernel_rfl) ⟨rfl, rfl, trivial⟩
noncomputable def body11 : Code := match Try.f11.body with | some c => c | none => .skip
noncomputable def laws_toEventS_l0  (p1 : (List GEvent)) : Nat → (List GEvent) → Int → Option (List GEvent)
  | 0, _, _ => none
  | n + 1, a3, v4 =>
  if (decide (v4 < (p1.length : Int))) = true then
    Option.bind (rd p1 v4) fun x6 =>
    Option.bind (laws_toEvent x6) fun r7 =>
    Option.bind (rd a3 v4) fun x8 =>
    laws_toEventS_l0 p1 n (a3.set (Int.toNat v4) r7) (w64 (v4 + 1))
  else
    some a3
theorem laws_toEventS_l0_m {E : Env} (hP : E.P = Try.prog) (hn : E.n = 23) (hx : ∀ p, p ∈ E.fx → p.1 ∈ ([] : List Nat)) (p1 : (List GEvent))  : ∀ (n : Nat) (a3 : (List GEvent)) (v4 : Int) (r : (List GEvent)), laws_toEventS_l0 p1 n a3 v4 = some r → WAt E body11 (FQ (RetE Θ Try.f11.results.toList [] [] (AV.own 50 5 (r.map o50)) E)) [true, true, false, true, false] ⟨[(0, (AV.ro 5 (p1.map o52))), (3, (AV.sl 1 0 (List.length (a3.map o50)))), (4, (I v4))], [(1, some ⟨50, 5, (a3.map o50)⟩)], [1, JJ]⟩ := by
  have hm : E.P.follows .mixedOrders = true := by rw [hP]; exact mixed
  have hΘ : TOK E.P Θ := by rw [hP]; exact Θ_ok
  intro n
  induction n with
  | zero => intro a3 v4 r h; simp only [laws_toEventS_l0] at h; cases h
  | succ n ih =>
    intro a3 v4 r h
    simp only [laws_toEventS_l0] at h
    rcases itS h with ⟨c5, h⟩ | ⟨c9, h⟩
    · obtain ⟨x6, hx6, h⟩ := bnS h
      obtain ⟨r7, hr7, h⟩ := bnS h
      obtain ⟨x8, hx8, h⟩ := bnS h
      exact go_to hΘ hm hx hP hn (hs := [⟨2, .no, some (I (p1.length : Int))⟩, ⟨4, .br true, none⟩, ⟨9, .row (o52 x6), none⟩, ⟨11, .callV [[]] (AV.agg (o50 r7)), none⟩, ⟨13, .sto ((o50 x8)) ((a3.set (Int.toNat v4) r7).map o50), none⟩, ⟨17, .slen 3 (List.length ((a3.set (Int.toNat v4) r7).map o50)), none⟩]) (π := [(1, 1)]) (ts := [0, 3, 4]) (kp := []) (ps := [AV.lit (.int .i64 (((p1.map o52).length : Nat) : Int)) = (I (p1.length : Int)), (decide (v4 < (p1.length : Int))) = true, (0 : Int) ≤ v4, (p1.map o52)[(Int.toNat v4)]? = some (o52 x6), Meets Try.prog 34 [(AV.agg ((o52 x6)))] (AV.agg (o50 r7)), litA (AV.agg (o50 r7)) = true, (0 : Int) ≤ v4, v4 < (((List.length (a3.map o50)) : Nat) : Int), (a3.map o50)[(Int.toNat v4)]? = some ((o50 x8)), (a3.map o50).set (Int.toNat v4) (wr ((o50 x8)) 0 ((o50 r7))) = ((a3.set (Int.toNat v4) r7).map o50), ((o50 r7)).length = 5, 0 + ((o50 r7)).length ≤ ((o50 x8)).length, (List.length (a3.map o50)) = (List.length ((a3.set (Int.toNat v4) r7).map o50)), RenOK [(1, 1)] ((a3.set (Int.toNat v4) r7).map o50)]) (by kernel_rfl) ⟨(lenM o52), c5, (rd0 hx6), (rdM o52 hx6), (laws_toEvent_m hr7), rfl, (rd0 hx8), (rdL o50 hx8), (rdM o50 hx8), (setMr o50 (by kernel_rfl)), rfl, (Nat.le_of_ble_eq_true rfl), (by first | exact lnSet _ | exact lnSet2 _ | simp only [List.length_map, List.length_set, List.length_cons, List.length_nil]), (rok (treeM t50)), trivial⟩ (ih (a3.set (Int.toNat v4) r7) (w64 (v4 + 1)) _ h)
    · have h := Option.some.inj h
      subst h
      exact go_ret hΘ hm hP hn (hs := [⟨2, .no, some (I (p1.length : Int))⟩, ⟨4, .br false, none⟩]) (rh := []) (ph := .own) (ps := [AV.lit (.int .i64 (((p1.map o52).length : Nat) : Int)) = (I (p1.length : Int)), (decide (v4 < (p1.length : Int))) = false, treeLL ((a3.map o50).take (List.length (a3.map o50))) = true, (a3.map o50).take (List.length (a3.map o50)) = (a3.map o50), noRoLL (a3.map o50) = true]) (by kernel_rfl) ⟨(lenM o52), c9, (treeT t50), takeM, (noRoM n50), trivial⟩
noncomputable def laws_toEventS (p1 : (List GEvent)) : Option (List GEvent) :=
  Option.bind (mk (GEvent.mk 0 0 0 0 0) (p1.length : Int)) fun l2 =>
  laws_toEventS_l0 p1 FU l2 0
theorem laws_toEventS_m {p1 : (List GEvent)} {r : (List GEvent)} (h : laws_toEventS p1 = some r) : Meets Try.prog 11 [(AV.ro 5 (p1.map o52))] (AV.own 50 5 (r.map o50)) := by
  refine meets_ofC Θ_ok Try.func11 rfl (c := body11) (by kernel_rfl) (Nat.le_of_ble_eq_true rfl) ?_
  intro E hP hn hx
  replace hn : E.n = 23 := hn
  have hm : E.P.follows .mixedOrders = true := by rw [hP]; exact mixed
  have hΘ : TOK E.P Θ := by rw [hP]; exact Θ_ok
  unfold laws_toEventS at h
  show WAt E body11 (FQ (RetE Θ Try.f11.results.toList [] [] (AV.own 50 5 (r.map o50)) E)) [] ⟨[(0, (AV.ro 5 (p1.map o52)))], [], [JJ]⟩
  obtain ⟨l2, hl2, h⟩ := bnS h
  exact go_to hΘ hm hx hP hn (hs := [⟨2, .no, some (I (p1.length : Int))⟩, ⟨3, .nw 1001 (l2.map o50), some (AV.sl 1001 0 (List.length (l2.map o50)))⟩]) (π := [(1001, 1)]) (ts := [0, 3, 4]) (kp := []) (ps := [AV.lit (.int .i64 (((p1.map o52).length : Nat) : Int)) = (I (p1.length : Int)), List.replicate (Int.toNat (p1.length : Int)) [.lit (.int .i64 0), .lit (.int .i64 0), .lit (.int .i64 0), .lit (.int .i64 0), .lit (.int .i64 0)] = (l2.map o50), AV.sl 1001 0 (Int.toNat (p1.length : Int)) = (AV.sl 1001 0 (List.length (l2.map o50))), (p1.length : Int) = (p1.length : Int), (0 : Int) ≤ (p1.length : Int), (p1.length : Int) * ((40 : Nat) : Int) ≤ 140737488355328, (p1.length : Int) ≤ 140737488355328, RenOK [(1001, 1)] (l2.map o50)]) (by kernel_rfl) ⟨(lenM o52), (mkM o50 hl2), (mkS o50 hl2), rfl, (mk0 hl2), (mkB hl2 (by decide)), (mkC hl2), (rok (treeM t50)), trivial⟩ (laws_toEventS_l0_m hP hn hx p1 FU l2 0 _ h)
noncomputable def body32 : Code := match Try.f32.body with | some c => c | none => .skip
noncomputable def spec_l4SameEvents_l0  (p1 : (List GEvent)) (p2 : (List GEvent)) : Nat → Int → Option Bool
  | 0, _ => none
  | n + 1, v5 =>
  if (decide (v5 < (p1.length : Int))) = true then
    Option.bind (rd p1 v5) fun x7 =>
    Option.bind (rd p2 v5) fun x8 =>
    if (!(decide (x7 = x8))) = true then
      some false
    else
      spec_l4SameEvents_l0 p1 p2 n (w64 (v5 + 1))
  else
    some true
theorem spec_l4SameEvents_l0_m {E : Env} (hP : E.P = Try.prog) (hn : E.n = 26) (hx : ∀ p, p ∈ E.fx → p.1 ∈ ([] : List Nat)) (p1 : (List GEvent)) (p2 : (List GEvent))  : ∀ (n : Nat) (v5 : Int) (r : Bool), spec_l4SameEvents_l0 p1 p2 n v5 = some r → WAt E body32 (FQ (RetE Θ Try.f32.results.toList [] [] (B r) E)) [true, true, false, true, false] ⟨[(0, (AV.ro 5 (p1.map o50))), (1, (AV.ro 5 (p2.map o50))), (12, (I (p1.length : Int))), (13, (I v5))], [], [JJ]⟩ := by
  have hm : E.P.follows .mixedOrders = true := by rw [hP]; exact mixed
  have hΘ : TOK E.P Θ := by rw [hP]; exact Θ_ok
  intro n
  induction n with
  | zero => intro v5 r h; simp only [spec_l4SameEvents_l0] at h; cases h
  | succ n ih =>
    intro v5 r h
    simp only [spec_l4SameEvents_l0] at h
    rcases itS h with ⟨c6, h⟩ | ⟨c11, h⟩
    · obtain ⟨x7, hx7, h⟩ := bnS h
      obtain ⟨x8, hx8, h⟩ := bnS h
      rcases itS h with ⟨c9, h⟩ | ⟨c10, h⟩
      · have h := Option.some.inj h
        subst h
        exact go_ret hΘ hm hP hn (hs := [⟨1, .br true, none⟩, ⟨6, .row (o50 x7), none⟩, ⟨10, .row (o50 x8), none⟩, ⟨12, .bin (B (!(decide (x7 = x8)))), none⟩, ⟨13, .br true, none⟩]) (rh := []) (ph := .raw) (ps := [(decide (v5 < (p1.length : Int))) = true, (0 : Int) ≤ v5, (p1.map o50)[(Int.toNat v5)]? = some (o50 x7), (0 : Int) ≤ v5, (p2.map o50)[(Int.toNat v5)]? = some (o50 x8), BinS Try.prog .neq 50 (AV.agg ((o50 x7))) (AV.agg ((o50 x8))) (B (!(decide (x7 = x8)))), (!(decide (x7 = x8))) = true, (B false) = (B false), litA (B false) = true]) (by kernel_rfl) ⟨c6, (rd0 hx7), (rdM o50 hx7), (rd0 hx8), (rdM o50 hx8), (nes50 _ _), c9, rfl, rfl, trivial⟩
      · exact go_to hΘ hm hx hP hn (hs := [⟨1, .br true, none⟩, ⟨6, .row (o50 x7), none⟩, ⟨10, .row (o50 x8), none⟩, ⟨12, .bin (B (!(decide (x7 = x8)))), none⟩, ⟨13, .br false, none⟩]) (π := []) (ts := [0, 1, 12, 13]) (kp := []) (ps := [(decide (v5 < (p1.length : Int))) = true, (0 : Int) ≤ v5, (p1.map o50)[(Int.toNat v5)]? = some (o50 x7), (0 : Int) ≤ v5, (p2.map o50)[(Int.toNat v5)]? = some (o50 x8), BinS Try.prog .neq 50 (AV.agg ((o50 x7))) (AV.agg ((o50 x8))) (B (!(decide (x7 = x8)))), (!(decide (x7 = x8))) = false]) (by kernel_rfl) ⟨c6, (rd0 hx7), (rdM o50 hx7), (rd0 hx8), (rdM o50 hx8), (nes50 _ _), c10, trivial⟩ (ih (w64 (v5 + 1)) _ h)
    · have h := Option.some.inj h
      subst h
      exact go_ret hΘ hm hP hn (hs := [⟨1, .br false, none⟩]) (rh := []) (ph := .raw) (ps := [(decide (v5 < (p1.length : Int))) = false, (B true) = (B true), litA (B true) = true]) (by kernel_rfl) ⟨c11, rfl, rfl, trivial⟩
noncomputable def spec_l4SameEvents (p1 : (List GEvent)) (p2 : (List GEvent)) : Option Bool :=
  if ((p1.length : Int) != (p2.length : Int)) = true then
    some false
  else
    spec_l4SameEvents_l0 p1 p2 FU 0
theorem spec_l4SameEvents_m {p1 : (List GEvent)} {p2 : (List GEvent)} {r : Bool} (h : spec_l4SameEvents p1 p2 = some r) : Meets Try.prog 32 [(AV.ro 5 (p1.map o50)), (AV.ro 5 (p2.map o50))] (B r) := by
  refine meets_ofC Θ_ok Try.func32 rfl (c := body32) (by kernel_rfl) (Nat.le_of_ble_eq_true rfl) ?_
  intro E hP hn hx
  replace hn : E.n = 26 := hn
  have hm : E.P.follows .mixedOrders = true := by rw [hP]; exact mixed
  have hΘ : TOK E.P Θ := by rw [hP]; exact Θ_ok
  unfold spec_l4SameEvents at h
  show WAt E body32 (FQ (RetE Θ Try.f32.results.toList [] [] (B r) E)) [] ⟨[(0, (AV.ro 5 (p1.map o50))), (1, (AV.ro 5 (p2.map o50)))], [], [JJ]⟩
  rcases itS h with ⟨c3, h⟩ | ⟨c4, h⟩
  · have h := Option.some.inj h
    subst h
    exact go_ret hΘ hm hP hn (hs := [⟨2, .no, some (I (p1.length : Int))⟩, ⟨4, .no, some (I (p2.length : Int))⟩, ⟨6, .br true, none⟩]) (rh := []) (ph := .raw) (ps := [AV.lit (.int .i64 (((p1.map o50).length : Nat) : Int)) = (I (p1.length : Int)), AV.lit (.int .i64 (((p2.map o50).length : Nat) : Int)) = (I (p2.length : Int)), ((p1.length : Int) != (p2.length : Int)) = true, (B false) = (B false), litA (B false) = true]) (by kernel_rfl) ⟨(lenM o50), (lenM o50), c3, rfl, rfl, trivial⟩
  · exact go_to hΘ hm hx hP hn (hs := [⟨2, .no, some (I (p1.length : Int))⟩, ⟨4, .no, some (I (p2.length : Int))⟩, ⟨6, .br false, none⟩, ⟨8, .no, some (I (p1.length : Int))⟩]) (π := []) (ts := [0, 1, 12, 13]) (kp := []) (ps := [AV.lit (.int .i64 (((p1.map o50).length : Nat) : Int)) = (I (p1.length : Int)), AV.lit (.int .i64 (((p2.map o50).length : Nat) : Int)) = (I (p2.length : Int)), ((p1.length : Int) != (p2.length : Int)) = false, AV.lit (.int .i64 (((p1.map o50).length : Nat) : Int)) = (I (p1.length : Int))]) (by kernel_rfl) ⟨(lenM o50), (lenM o50), c4, (lenM o50), trivial⟩ (spec_l4SameEvents_l0_m hP hn hx p1 p2 FU 0 _ h)
noncomputable def body73 : Code := match Try.f73.body with | some c => c | none => .skip
noncomputable def spec_l1In (p1 : Int) (p2 : Int) (p3 : Int) : Option Bool :=
  if (decide (p1 ≥ p2)) = true then
    some (decide (p1 ≤ p3))
  else
    some false
theorem spec_l1In_m {p1 : Int} {p2 : Int} {p3 : Int} {r : Bool} (h : spec_l1In p1 p2 p3 = some r) : Meets Try.prog 73 [(I p1), (I p2), (I p3)] (B r) := by
  refine meets_ofC Θ_ok Try.func73 rfl (c := body73) (by kernel_rfl) (Nat.le_of_ble_eq_true rfl) ?_
  intro E hP hn hx
  replace hn : E.n = 15 := hn
  have hm : E.P.follows .mixedOrders = true := by rw [hP]; exact mixed
  have hΘ : TOK E.P Θ := by rw [hP]; exact Θ_ok
  unfold spec_l1In at h
  show WAt E body73 (FQ (RetE Θ Try.f73.results.toList [] [] (B r) E)) [] ⟨[(0, (I p1)), (1, (I p2)), (2, (I p3))], [], [JJ]⟩
  rcases itS h with ⟨c4, h⟩ | ⟨c5, h⟩
  · have h := Option.some.inj h
    subst h
    exact go_ret hΘ hm hP hn (hs := [⟨4, .no, some (B true)⟩]) (rh := []) (ph := .raw) (ps := [(B (decide (p1 ≥ p2))) = (B true), (B (decide (p1 ≤ p3))) = (B (decide (p1 ≤ p3))), litA (B (decide (p1 ≤ p3))) = true]) (by kernel_rfl) ⟨(litB c4), rfl, rfl, trivial⟩
  · have h := Option.some.inj h
    subst h
    exact go_ret hΘ hm hP hn (hs := [⟨4, .no, some (B false)⟩]) (rh := []) (ph := .raw) (ps := [(B (decide (p1 ≥ p2))) = (B false), (B false) = (B false), litA (B false) = true]) (by kernel_rfl) ⟨(litB c5), rfl, rfl, trivial⟩
noncomputable def body55 : Code := match Try.f55.body with | some c => c | none => .skip
noncomputable def spec_l6Event_j0  (p1 : GEvent)  : Option Bool :=
  Option.bind (spec_l1In p1.Thread 0 4) fun r9 =>
  if r9 = true then
    Option.bind (spec_l1In p1.Kind 1 12) fun r11 =>
    if r11 = true then
      Option.bind (spec_l1In p1.Obj (-1) 99) fun r13 =>
      if r13 = true then
        Option.bind (spec_l1In p1.Lock (-1) 99) fun r15 =>
        if r15 = true then
          Option.bind (spec_l1In p1.Pc 0 99) fun r17 =>
          some r17
        else
          some false
      else
        some false
    else
      some false
  else
    some false
theorem spec_l6Event_j0_m {E : Env} (hP : E.P = Try.prog) (hn : E.n = 49) (hx : ∀ p, p ∈ E.fx → p.1 ∈ ([] : List Nat)) (p1 : GEvent)   (r : Bool) (h : spec_l6Event_j0 p1  = some r) : WAt E body55 (FQ (RetE Θ Try.f55.results.toList [] [] (B r) E)) [true, false, true, true] ⟨[(1, (AV.ptr 1 0 0))], [(1, some ⟨50, 5, [((o50 p1))]⟩)], [1, JJ]⟩ := by
  have hm : E.P.follows .mixedOrders = true := by rw [hP]; exact mixed
  have hΘ : TOK E.P Θ := by rw [hP]; exact Θ_ok
  unfold spec_l6Event_j0 at h
  obtain ⟨r9, hr9, h⟩ := bnS h
  rcases itS h with ⟨c10, h⟩ | ⟨c21, h⟩
  · obtain ⟨r11, hr11, h⟩ := bnS h
    rcases itS h with ⟨c12, h⟩ | ⟨c20, h⟩
    · obtain ⟨r13, hr13, h⟩ := bnS h
      rcases itS h with ⟨c14, h⟩ | ⟨c19, h⟩
      · obtain ⟨r15, hr15, h⟩ := bnS h
        rcases itS h with ⟨c16, h⟩ | ⟨c18, h⟩
        · obtain ⟨r17, hr17, h⟩ := bnS h
          have h := Option.some.inj h
          subst h
          exact go_ret hΘ hm hP hn (hs := [⟨2, .callV [] (B r9), none⟩, ⟨3, .no, some (B true)⟩, ⟨6, .callV [] (B r11), none⟩, ⟨8, .no, some (B true)⟩, ⟨11, .callV [] (B r13), none⟩, ⟨13, .no, some (B true)⟩, ⟨16, .callV [] (B r15), none⟩, ⟨18, .no, some (B true)⟩, ⟨21, .callV [] (B r17), none⟩]) (rh := []) (ph := .raw) (ps := [Meets Try.prog 73 [(I p1.Thread), (I 0), (I 4)] (B r9), litA (B r9) = true, (B r9) = (B true), Meets Try.prog 73 [(I p1.Kind), (I 1), (I 12)] (B r11), litA (B r11) = true, (B r11) = (B true), Meets Try.prog 73 [(I p1.Obj), (I (-1)), (I 99)] (B r13), litA (B r13) = true, (B r13) = (B true), Meets Try.prog 73 [(I p1.Lock), (I (-1)), (I 99)] (B r15), litA (B r15) = true, (B r15) = (B true), Meets Try.prog 73 [(I p1.Pc), (I 0), (I 99)] (B r17), litA (B r17) = true, (B r17) = (B r17), litA (B r17) = true]) (by kernel_rfl) ⟨(spec_l1In_m hr9), rfl, (litB c10), (spec_l1In_m hr11), rfl, (litB c12), (spec_l1In_m hr13), rfl, (litB c14), (spec_l1In_m hr15), rfl, (litB c16), (spec_l1In_m hr17), rfl, rfl, rfl, trivial⟩
        · have h := Option.some.inj h
          subst h
          exact go_ret hΘ hm hP hn (hs := [⟨2, .callV [] (B r9), none⟩, ⟨3, .no, some (B true)⟩, ⟨6, .callV [] (B r11), none⟩, ⟨8, .no, some (B true)⟩, ⟨11, .callV [] (B r13), none⟩, ⟨13, .no, some (B true)⟩, ⟨16, .callV [] (B r15), none⟩, ⟨18, .no, some (B false)⟩]) (rh := []) (ph := .raw) (ps := [Meets Try.prog 73 [(I p1.Thread), (I 0), (I 4)] (B r9), litA (B r9) = true, (B r9) = (B true), Meets Try.prog 73 [(I p1.Kind), (I 1), (I 12)] (B r11), litA (B r11) = true, (B r11) = (B true), Meets Try.prog 73 [(I p1.Obj), (I (-1)), (I 99)] (B r13), litA (B r13) = true, (B r13) = (B true), Meets Try.prog 73 [(I p1.Lock), (I (-1)), (I 99)] (B r15), litA (B r15) = true, (B r15) = (B false), (B false) = (B false), litA (B false) = true]) (by kernel_rfl) ⟨(spec_l1In_m hr9), rfl, (litB c10), (spec_l1In_m hr11), rfl, (litB c12), (spec_l1In_m hr13), rfl, (litB c14), (spec_l1In_m hr15), rfl, (litB c18), rfl, rfl, trivial⟩
      · have h := Option.some.inj h
        subst h
        exact go_ret hΘ hm hP hn (hs := [⟨2, .callV [] (B r9), none⟩, ⟨3, .no, some (B true)⟩, ⟨6, .callV [] (B r11), none⟩, ⟨8, .no, some (B true)⟩, ⟨11, .callV [] (B r13), none⟩, ⟨13, .no, some (B false)⟩]) (rh := []) (ph := .raw) (ps := [Meets Try.prog 73 [(I p1.Thread), (I 0), (I 4)] (B r9), litA (B r9) = true, (B r9) = (B true), Meets Try.prog 73 [(I p1.Kind), (I 1), (I 12)] (B r11), litA (B r11) = true, (B r11) = (B true), Meets Try.prog 73 [(I p1.Obj), (I (-1)), (I 99)] (B r13), litA (B r13) = true, (B r13) = (B false), (B false) = (B false), litA (B false) = true]) (by kernel_rfl) ⟨(spec_l1In_m hr9), rfl, (litB c10), (spec_l1In_m hr11), rfl, (litB c12), (spec_l1In_m hr13), rfl, (litB c19), rfl, rfl, trivial⟩
    · have h := Option.some.inj h
      subst h
      exact go_ret hΘ hm hP hn (hs := [⟨2, .callV [] (B r9), none⟩, ⟨3, .no, some (B true)⟩, ⟨6, .callV [] (B r11), none⟩, ⟨8, .no, some (B false)⟩]) (rh := []) (ph := .raw) (ps := [Meets Try.prog 73 [(I p1.Thread), (I 0), (I 4)] (B r9), litA (B r9) = true, (B r9) = (B true), Meets Try.prog 73 [(I p1.Kind), (I 1), (I 12)] (B r11), litA (B r11) = true, (B r11) = (B false), (B false) = (B false), litA (B false) = true]) (by kernel_rfl) ⟨(spec_l1In_m hr9), rfl, (litB c10), (spec_l1In_m hr11), rfl, (litB c20), rfl, rfl, trivial⟩
  · have h := Option.some.inj h
    subst h
    exact go_ret hΘ hm hP hn (hs := [⟨2, .callV [] (B r9), none⟩, ⟨3, .no, some (B false)⟩]) (rh := []) (ph := .raw) (ps := [Meets Try.prog 73 [(I p1.Thread), (I 0), (I 4)] (B r9), litA (B r9) = true, (B r9) = (B false), (B false) = (B false), litA (B false) = true]) (by kernel_rfl) ⟨(spec_l1In_m hr9), rfl, (litB c21), rfl, rfl, trivial⟩
noncomputable def spec_l6Event (p1 : GEvent) : Option Bool :=
  Option.bind (spec_l1In p1.Kind 2 10) fun r2 =>
  if r2 = true then
    if (decide (p1.Obj < 0)) = true then
      some false
    else
      if (p1.Kind == 8) = true then
        if (decide (p1.Lock < 0)) = true then
          some false
        else
          spec_l6Event_j0 p1
      else
        if (p1.Kind == 9) = true then
          if (decide (p1.Lock < 0)) = true then
            some false
          else
            spec_l6Event_j0 p1
        else
          spec_l6Event_j0 p1
  else
    if (p1.Kind == 8) = true then
      if (decide (p1.Lock < 0)) = true then
        some false
      else
        spec_l6Event_j0 p1
    else
      if (p1.Kind == 9) = true then
        if (decide (p1.Lock < 0)) = true then
          some false
        else
          spec_l6Event_j0 p1
      else
        spec_l6Event_j0 p1
theorem spec_l6Event_m {p1 : GEvent} {r : Bool} (h : spec_l6Event p1 = some r) : Meets Try.prog 55 [(AV.agg ((o50 p1)))] (B r) := by
  refine meets_ofC Θ_ok Try.func55 rfl (c := body55) (by kernel_rfl) (Nat.le_of_ble_eq_true rfl) ?_
  intro E hP hn hx
  replace hn : E.n = 49 := hn
  have hm : E.P.follows .mixedOrders = true := by rw [hP]; exact mixed
  have hΘ : TOK E.P Θ := by rw [hP]; exact Θ_ok
  unfold spec_l6Event at h
  show WAt E body55 (FQ (RetE Θ Try.f55.results.toList [] [] (B r) E)) [] ⟨[(0, (AV.agg ((o50 p1))))], [], [JJ]⟩
  obtain ⟨r2, hr2, h⟩ := bnS h
  rcases itS h with ⟨c3, h⟩ | ⟨c27, h⟩
  · rcases itS h with ⟨c4, h⟩ | ⟨c5, h⟩
    · have h := Option.some.inj h
      subst h
      exact go_ret hΘ hm hP hn (hs := [⟨0, .new 1001, none⟩, ⟨4, .callV [] (B r2), none⟩, ⟨5, .no, some (B true)⟩, ⟨10, .no, some (B true)⟩]) (rh := []) (ph := .raw) (ps := [Meets Try.prog 73 [(I p1.Kind), (I 2), (I 10)] (B r2), litA (B r2) = true, (B r2) = (B true), (B (decide (p1.Obj < 0))) = (B true), (B false) = (B false), litA (B false) = true]) (by kernel_rfl) ⟨(spec_l1In_m hr2), rfl, (litB c3), (litB c4), rfl, rfl, trivial⟩
    · rcases itS h with ⟨c6, h⟩ | ⟨c22, h⟩
      · rcases itS h with ⟨c7, h⟩ | ⟨c8, h⟩
        · have h := Option.some.inj h
          subst h
          exact go_ret hΘ hm hP hn (hs := [⟨0, .new 1001, none⟩, ⟨4, .callV [] (B r2), none⟩, ⟨5, .no, some (B true)⟩, ⟨10, .no, some (B false)⟩, ⟨14, .no, some (B true)⟩, ⟨25, .br true, none⟩]) (rh := []) (ph := .raw) (ps := [Meets Try.prog 73 [(I p1.Kind), (I 2), (I 10)] (B r2), litA (B r2) = true, (B r2) = (B true), (B (decide (p1.Obj < 0))) = (B false), (B (p1.Kind == 8)) = (B true), (decide (p1.Lock < 0)) = true, (B false) = (B false), litA (B false) = true]) (by kernel_rfl) ⟨(spec_l1In_m hr2), rfl, (litB c3), (litB c5), (litB c6), c7, rfl, rfl, trivial⟩
        · exact go_to hΘ hm hx hP hn (hs := [⟨0, .new 1001, none⟩, ⟨4, .callV [] (B r2), none⟩, ⟨5, .no, some (B true)⟩, ⟨10, .no, some (B false)⟩, ⟨14, .no, some (B true)⟩, ⟨25, .br false, none⟩]) (π := [(1001, 1)]) (ts := [1]) (kp := []) (ps := [Meets Try.prog 73 [(I p1.Kind), (I 2), (I 10)] (B r2), litA (B r2) = true, (B r2) = (B true), (B (decide (p1.Obj < 0))) = (B false), (B (p1.Kind == 8)) = (B true), (decide (p1.Lock < 0)) = false, RenOK [(1001, 1)] [((o50 p1))]]) (by kernel_rfl) ⟨(spec_l1In_m hr2), rfl, (litB c3), (litB c5), (litB c6), c8, (rok rfl), trivial⟩ (spec_l6Event_j0_m hP hn hx p1  _ h)
      · rcases itS h with ⟨c23, h⟩ | ⟨c26, h⟩
        · rcases itS h with ⟨c24, h⟩ | ⟨c25, h⟩
          · have h := Option.some.inj h
            subst h
            exact go_ret hΘ hm hP hn (hs := [⟨0, .new 1001, none⟩, ⟨4, .callV [] (B r2), none⟩, ⟨5, .no, some (B true)⟩, ⟨10, .no, some (B false)⟩, ⟨14, .no, some (B false)⟩, ⟨19, .no, some (B true)⟩, ⟨25, .br true, none⟩]) (rh := []) (ph := .raw) (ps := [Meets Try.prog 73 [(I p1.Kind), (I 2), (I 10)] (B r2), litA (B r2) = true, (B r2) = (B true), (B (decide (p1.Obj < 0))) = (B false), (B (p1.Kind == 8)) = (B false), (B (p1.Kind == 9)) = (B true), (decide (p1.Lock < 0)) = true, (B false) = (B false), litA (B false) = true]) (by kernel_rfl) ⟨(spec_l1In_m hr2), rfl, (litB c3), (litB c5), (litB c22), (litB c23), c24, rfl, rfl, trivial⟩
          · exact go_to hΘ hm hx hP hn (hs := [⟨0, .new 1001, none⟩, ⟨4, .callV [] (B r2), none⟩, ⟨5, .no, some (B true)⟩, ⟨10, .no, some (B false)⟩, ⟨14, .no, some (B false)⟩, ⟨19, .no, some (B true)⟩, ⟨25, .br false, none⟩]) (π := [(1001, 1)]) (ts := [1]) (kp := []) (ps := [Meets Try.prog 73 [(I p1.Kind), (I 2), (I 10)] (B r2), litA (B r2) = true, (B r2) = (B true), (B (decide (p1.Obj < 0))) = (B false), (B (p1.Kind == 8)) = (B false), (B (p1.Kind == 9)) = (B true), (decide (p1.Lock < 0)) = false, RenOK [(1001, 1)] [((o50 p1))]]) (by kernel_rfl) ⟨(spec_l1In_m hr2), rfl, (litB c3), (litB c5), (litB c22), (litB c23), c25, (rok rfl), trivial⟩ (spec_l6Event_j0_m hP hn hx p1  _ h)
        · exact go_to hΘ hm hx hP hn (hs := [⟨0, .new 1001, none⟩, ⟨4, .callV [] (B r2), none⟩, ⟨5, .no, some (B true)⟩, ⟨10, .no, some (B false)⟩, ⟨14, .no, some (B false)⟩, ⟨19, .no, some (B false)⟩]) (π := [(1001, 1)]) (ts := [1]) (kp := []) (ps := [Meets Try.prog 73 [(I p1.Kind), (I 2), (I 10)] (B r2), litA (B r2) = true, (B r2) = (B true), (B (decide (p1.Obj < 0))) = (B false), (B (p1.Kind == 8)) = (B false), (B (p1.Kind == 9)) = (B false), RenOK [(1001, 1)] [((o50 p1))]]) (by kernel_rfl) ⟨(spec_l1In_m hr2), rfl, (litB c3), (litB c5), (litB c22), (litB c26), (rok rfl), trivial⟩ (spec_l6Event_j0_m hP hn hx p1  _ h)
  · rcases itS h with ⟨c28, h⟩ | ⟨c31, h⟩
    · rcases itS h with ⟨c29, h⟩ | ⟨c30, h⟩
      · have h := Option.some.inj h
        subst h
        exact go_ret hΘ hm hP hn (hs := [⟨0, .new 1001, none⟩, ⟨4, .callV [] (B r2), none⟩, ⟨5, .no, some (B false)⟩, ⟨14, .no, some (B true)⟩, ⟨25, .br true, none⟩]) (rh := []) (ph := .raw) (ps := [Meets Try.prog 73 [(I p1.Kind), (I 2), (I 10)] (B r2), litA (B r2) = true, (B r2) = (B false), (B (p1.Kind == 8)) = (B true), (decide (p1.Lock < 0)) = true, (B false) = (B false), litA (B false) = true]) (by kernel_rfl) ⟨(spec_l1In_m hr2), rfl, (litB c27), (litB c28), c29, rfl, rfl, trivial⟩
      · exact go_to hΘ hm hx hP hn (hs := [⟨0, .new 1001, none⟩, ⟨4, .callV [] (B r2), none⟩, ⟨5, .no, some (B false)⟩, ⟨14, .no, some (B true)⟩, ⟨25, .br false, none⟩]) (π := [(1001, 1)]) (ts := [1]) (kp := []) (ps := [Meets Try.prog 73 [(I p1.Kind), (I 2), (I 10)] (B r2), litA (B r2) = true, (B r2) = (B false), (B (p1.Kind == 8)) = (B true), (decide (p1.Lock < 0)) = false, RenOK [(1001, 1)] [((o50 p1))]]) (by kernel_rfl) ⟨(spec_l1In_m hr2), rfl, (litB c27), (litB c28), c30, (rok rfl), trivial⟩ (spec_l6Event_j0_m hP hn hx p1  _ h)
    · rcases itS h with ⟨c32, h⟩ | ⟨c35, h⟩
      · rcases itS h with ⟨c33, h⟩ | ⟨c34, h⟩
        · have h := Option.some.inj h
          subst h
          exact go_ret hΘ hm hP hn (hs := [⟨0, .new 1001, none⟩, ⟨4, .callV [] (B r2), none⟩, ⟨5, .no, some (B false)⟩, ⟨14, .no, some (B false)⟩, ⟨19, .no, some (B true)⟩, ⟨25, .br true, none⟩]) (rh := []) (ph := .raw) (ps := [Meets Try.prog 73 [(I p1.Kind), (I 2), (I 10)] (B r2), litA (B r2) = true, (B r2) = (B false), (B (p1.Kind == 8)) = (B false), (B (p1.Kind == 9)) = (B true), (decide (p1.Lock < 0)) = true, (B false) = (B false), litA (B false) = true]) (by kernel_rfl) ⟨(spec_l1In_m hr2), rfl, (litB c27), (litB c31), (litB c32), c33, rfl, rfl, trivial⟩
        · exact go_to hΘ hm hx hP hn (hs := [⟨0, .new 1001, none⟩, ⟨4, .callV [] (B r2), none⟩, ⟨5, .no, some (B false)⟩, ⟨14, .no, some (B false)⟩, ⟨19, .no, some (B true)⟩, ⟨25, .br false, none⟩]) (π := [(1001, 1)]) (ts := [1]) (kp := []) (ps := [Meets Try.prog 73 [(I p1.Kind), (I 2), (I 10)] (B r2), litA (B r2) = true, (B r2) = (B false), (B (p1.Kind == 8)) = (B false), (B (p1.Kind == 9)) = (B true), (decide (p1.Lock < 0)) = false, RenOK [(1001, 1)] [((o50 p1))]]) (by kernel_rfl) ⟨(spec_l1In_m hr2), rfl, (litB c27), (litB c31), (litB c32), c34, (rok rfl), trivial⟩ (spec_l6Event_j0_m hP hn hx p1  _ h)
      · exact go_to hΘ hm hx hP hn (hs := [⟨0, .new 1001, none⟩, ⟨4, .callV [] (B r2), none⟩, ⟨5, .no, some (B false)⟩, ⟨14, .no, some (B false)⟩, ⟨19, .no, some (B false)⟩]) (π := [(1001, 1)]) (ts := [1]) (kp := []) (ps := [Meets Try.prog 73 [(I p1.Kind), (I 2), (I 10)] (B r2), litA (B r2) = true, (B r2) = (B false), (B (p1.Kind == 8)) = (B false), (B (p1.Kind == 9)) = (B false), RenOK [(1001, 1)] [((o50 p1))]]) (by kernel_rfl) ⟨(spec_l1In_m hr2), rfl, (litB c27), (litB c31), (litB c35), (rok rfl), trivial⟩ (spec_l6Event_j0_m hP hn hx p1  _ h)
noncomputable def body31 : Code := match Try.f31.body with | some c => c | none => .skip
noncomputable def spec_l6Trace_l0  (p1 : (List GEvent)) : Nat → Int → Option Bool
  | 0, _ => none
  | n + 1, v2 =>
  if (decide (v2 < (p1.length : Int))) = true then
    Option.bind (rd p1 v2) fun x4 =>
    Option.bind (spec_l6Event x4) fun r5 =>
    if (!r5) = true then
      some false
    else
      spec_l6Trace_l0 p1 n (w64 (v2 + 1))
  else
    some (decide ((p1.length : Int) ≤ 200))
theorem spec_l6Trace_l0_m {E : Env} (hP : E.P = Try.prog) (hn : E.n = 18) (hx : ∀ p, p ∈ E.fx → p.1 ∈ ([] : List Nat)) (p1 : (List GEvent))  : ∀ (n : Nat) (v2 : Int) (r : Bool), spec_l6Trace_l0 p1 n v2 = some r → WAt E body31 (FQ (RetE Θ Try.f31.results.toList [] [] (B r) E)) [true, false, true, false] ⟨[(0, (AV.ro 5 (p1.map o50))), (5, (AV.ro 5 (p1.map o50))), (6, (I (p1.length : Int))), (7, (I v2))], [], [JJ]⟩ := by
  have hm : E.P.follows .mixedOrders = true := by rw [hP]; exact mixed
  have hΘ : TOK E.P Θ := by rw [hP]; exact Θ_ok
  intro n
  induction n with
  | zero => intro v2 r h; simp only [spec_l6Trace_l0] at h; cases h
  | succ n ih =>
    intro v2 r h
    simp only [spec_l6Trace_l0] at h
    rcases itS h with ⟨c3, h⟩ | ⟨c8, h⟩
    · obtain ⟨x4, hx4, h⟩ := bnS h
      obtain ⟨r5, hr5, h⟩ := bnS h
      rcases itS h with ⟨c6, h⟩ | ⟨c7, h⟩
      · have h := Option.some.inj h
        subst h
        exact go_ret hΘ hm hP hn (hs := [⟨1, .br true, none⟩, ⟨2, .row (o50 x4), none⟩, ⟨4, .new 1001, none⟩, ⟨7, .callV [[]] (B r5), none⟩, ⟨9, .br true, none⟩]) (rh := []) (ph := .raw) (ps := [(decide (v2 < (p1.length : Int))) = true, (0 : Int) ≤ v2, (p1.map o50)[(Int.toNat v2)]? = some (o50 x4), Meets Try.prog 55 [(AV.agg ((o50 x4)))] (B r5), litA (B r5) = true, (!r5) = true, (B false) = (B false), litA (B false) = true]) (by kernel_rfl) ⟨c3, (rd0 hx4), (rdM o50 hx4), (spec_l6Event_m hr5), rfl, c6, rfl, rfl, trivial⟩
      · exact go_to hΘ hm hx hP hn (hs := [⟨1, .br true, none⟩, ⟨2, .row (o50 x4), none⟩, ⟨4, .new 1001, none⟩, ⟨7, .callV [[]] (B r5), none⟩, ⟨9, .br false, none⟩]) (π := []) (ts := [0, 5, 6, 7]) (kp := []) (ps := [(decide (v2 < (p1.length : Int))) = true, (0 : Int) ≤ v2, (p1.map o50)[(Int.toNat v2)]? = some (o50 x4), Meets Try.prog 55 [(AV.agg ((o50 x4)))] (B r5), litA (B r5) = true, (!r5) = false]) (by kernel_rfl) ⟨c3, (rd0 hx4), (rdM o50 hx4), (spec_l6Event_m hr5), rfl, c7, trivial⟩ (ih (w64 (v2 + 1)) _ h)
    · have h := Option.some.inj h
      subst h
      exact go_ret hΘ hm hP hn (hs := [⟨1, .br false, none⟩, ⟨3, .no, some (I (p1.length : Int))⟩]) (rh := []) (ph := .raw) (ps := [(decide (v2 < (p1.length : Int))) = false, AV.lit (.int .i64 (((p1.map o50).length : Nat) : Int)) = (I (p1.length : Int)), (B (decide ((p1.length : Int) ≤ 200))) = (B (decide ((p1.length : Int) ≤ 200))), litA (B (decide ((p1.length : Int) ≤ 200))) = true]) (by kernel_rfl) ⟨c8, (lenM o50), rfl, rfl, trivial⟩
noncomputable def spec_l6Trace (p1 : (List GEvent)) : Option Bool :=
  spec_l6Trace_l0 p1 FU 0
theorem spec_l6Trace_m {p1 : (List GEvent)} {r : Bool} (h : spec_l6Trace p1 = some r) : Meets Try.prog 31 [(AV.ro 5 (p1.map o50))] (B r) := by
  refine meets_ofC Θ_ok Try.func31 rfl (c := body31) (by kernel_rfl) (Nat.le_of_ble_eq_true rfl) ?_
  intro E hP hn hx
  replace hn : E.n = 18 := hn
  have hm : E.P.follows .mixedOrders = true := by rw [hP]; exact mixed
  have hΘ : TOK E.P Θ := by rw [hP]; exact Θ_ok
  unfold spec_l6Trace at h
  show WAt E body31 (FQ (RetE Θ Try.f31.results.toList [] [] (B r) E)) [] ⟨[(0, (AV.ro 5 (p1.map o50)))], [], [JJ]⟩
  exact go_to hΘ hm hx hP hn (hs := [⟨2, .no, some (I (p1.length : Int))⟩]) (π := []) (ts := [0, 5, 6, 7]) (kp := []) (ps := [AV.lit (.int .i64 (((p1.map o50).length : Nat) : Int)) = (I (p1.length : Int))]) (by kernel_rfl) ⟨(lenM o50), trivial⟩ (spec_l6Trace_l0_m hP hn hx p1 FU 0 _ h)
noncomputable def body74 : Code := match Try.f74.body with | some c => c | none => .skip
noncomputable def spec_l9Lock_j1  (p1 : GEvent) (v7 : Bool) : Option Int :=
  if v7 = true then
    some p1.Lock
  else
    some (-2)
theorem spec_l9Lock_j1_m {E : Env} (hP : E.P = Try.prog) (hn : E.n = 15) (hx : ∀ p, p ∈ E.fx → p.1 ∈ ([] : List Nat)) (p1 : GEvent)  (v7 : Bool) (r : Int) (h : spec_l9Lock_j1 p1 v7 = some r) : WAt E body74 (FQ (RetE Θ Try.f74.results.toList [] [] (I r) E)) [true, false, true, false, true, true, true] ⟨[(1, (AV.ptr 1 0 0)), (10, (B v7))], [(1, some ⟨50, 5, [((o50 p1))]⟩)], [1, JJ]⟩ := by
  have hm : E.P.follows .mixedOrders = true := by rw [hP]; exact mixed
  have hΘ : TOK E.P Θ := by rw [hP]; exact Θ_ok
  unfold spec_l9Lock_j1 at h
  rcases itS h with ⟨c8, h⟩ | ⟨c9, h⟩
  · have h := Option.some.inj h
    subst h
    exact go_ret hΘ hm hP hn (hs := [⟨0, .br true, none⟩]) (rh := []) (ph := .raw) (ps := [v7 = true, (I p1.Lock) = (I p1.Lock), litA (I p1.Lock) = true]) (by kernel_rfl) ⟨c8, rfl, rfl, trivial⟩
  · have h := Option.some.inj h
    subst h
    exact go_ret hΘ hm hP hn (hs := [⟨0, .br false, none⟩]) (rh := []) (ph := .raw) (ps := [v7 = false, (I (-2)) = (I (-2)), litA (I (-2)) = true]) (by kernel_rfl) ⟨c9, rfl, rfl, trivial⟩
noncomputable def spec_l9Lock_j0  (p1 : GEvent) (v3 : Bool) : Option Int :=
  if v3 = true then
    some p1.Obj
  else
    if (p1.Kind == 8) = true then
      spec_l9Lock_j1 p1 (p1.Kind == 8)
    else
      spec_l9Lock_j1 p1 (p1.Kind == 9)
theorem spec_l9Lock_j0_m {E : Env} (hP : E.P = Try.prog) (hn : E.n = 15) (hx : ∀ p, p ∈ E.fx → p.1 ∈ ([] : List Nat)) (p1 : GEvent)  (v3 : Bool) (r : Int) (h : spec_l9Lock_j0 p1 v3 = some r) : WAt E body74 (FQ (RetE Θ Try.f74.results.toList [] [] (I r) E)) [true, false, true, false, true] ⟨[(1, (AV.ptr 1 0 0)), (4, (I p1.Kind)), (5, (B v3))], [(1, some ⟨50, 5, [((o50 p1))]⟩)], [1, JJ]⟩ := by
  have hm : E.P.follows .mixedOrders = true := by rw [hP]; exact mixed
  have hΘ : TOK E.P Θ := by rw [hP]; exact Θ_ok
  unfold spec_l9Lock_j0 at h
  rcases itS h with ⟨c4, h⟩ | ⟨c5, h⟩
  · have h := Option.some.inj h
    subst h
    exact go_ret hΘ hm hP hn (hs := [⟨0, .br true, none⟩]) (rh := []) (ph := .raw) (ps := [v3 = true, (I p1.Obj) = (I p1.Obj), litA (I p1.Obj) = true]) (by kernel_rfl) ⟨c4, rfl, rfl, trivial⟩
  · rcases itS h with ⟨c6, h⟩ | ⟨c10, h⟩
    · exact go_to hΘ hm hx hP hn (hs := [⟨0, .br false, none⟩, ⟨3, .br true, none⟩]) (π := [(1, 1)]) (ts := [1, 10]) (kp := []) (ps := [v3 = false, (p1.Kind == 8) = true, RenOK [(1, 1)] [((o50 p1))]]) (by kernel_rfl) ⟨c5, c6, (rok rfl), trivial⟩ (spec_l9Lock_j1_m hP hn hx p1 (p1.Kind == 8) _ h)
    · exact go_to hΘ hm hx hP hn (hs := [⟨0, .br false, none⟩, ⟨3, .br false, none⟩]) (π := [(1, 1)]) (ts := [1, 10]) (kp := []) (ps := [v3 = false, (p1.Kind == 8) = false, RenOK [(1, 1)] [((o50 p1))]]) (by kernel_rfl) ⟨c5, c10, (rok rfl), trivial⟩ (spec_l9Lock_j1_m hP hn hx p1 (p1.Kind == 9) _ h)
noncomputable def spec_l9Lock (p1 : GEvent) : Option Int :=
  if (p1.Kind == 4) = true then
    spec_l9Lock_j0 p1 (p1.Kind == 4)
  else
    spec_l9Lock_j0 p1 (p1.Kind == 5)
theorem spec_l9Lock_m {p1 : GEvent} {r : Int} (h : spec_l9Lock p1 = some r) : Meets Try.prog 74 [(AV.agg ((o50 p1)))] (I r) := by
  refine meets_ofC Θ_ok Try.func74 rfl (c := body74) (by kernel_rfl) (Nat.le_of_ble_eq_true rfl) ?_
  intro E hP hn hx
  replace hn : E.n = 15 := hn
  have hm : E.P.follows .mixedOrders = true := by rw [hP]; exact mixed
  have hΘ : TOK E.P Θ := by rw [hP]; exact Θ_ok
  unfold spec_l9Lock at h
  show WAt E body74 (FQ (RetE Θ Try.f74.results.toList [] [] (I r) E)) [] ⟨[(0, (AV.agg ((o50 p1))))], [], [JJ]⟩
  rcases itS h with ⟨c2, h⟩ | ⟨c11, h⟩
  · exact go_to hΘ hm hx hP hn (hs := [⟨0, .new 1001, none⟩, ⟨6, .br true, none⟩]) (π := [(1001, 1)]) (ts := [1, 4, 5]) (kp := []) (ps := [(p1.Kind == 4) = true, RenOK [(1001, 1)] [((o50 p1))]]) (by kernel_rfl) ⟨c2, (rok rfl), trivial⟩ (spec_l9Lock_j0_m hP hn hx p1 (p1.Kind == 4) _ h)
  · exact go_to hΘ hm hx hP hn (hs := [⟨0, .new 1001, none⟩, ⟨6, .br false, none⟩]) (π := [(1001, 1)]) (ts := [1, 4, 5]) (kp := []) (ps := [(p1.Kind == 4) = false, RenOK [(1001, 1)] [((o50 p1))]]) (by kernel_rfl) ⟨c11, (rok rfl), trivial⟩ (spec_l9Lock_j0_m hP hn hx p1 (p1.Kind == 5) _ h)
noncomputable def body46 : Code := match Try.f46.body with | some c => c | none => .skip
noncomputable def spec_l7Touch (p1 : GEvent) : Option Bool :=
  if (p1.Kind == 2) = true then
    some true
  else
    some (p1.Kind == 3)
theorem spec_l7Touch_m {p1 : GEvent} {r : Bool} (h : spec_l7Touch p1 = some r) : Meets Try.prog 46 [(AV.agg ((o50 p1)))] (B r) := by
  refine meets_ofC Θ_ok Try.func46 rfl (c := body46) (by kernel_rfl) (Nat.le_of_ble_eq_true rfl) ?_
  intro E hP hn hx
  replace hn : E.n = 11 := hn
  have hm : E.P.follows .mixedOrders = true := by rw [hP]; exact mixed
  have hΘ : TOK E.P Θ := by rw [hP]; exact Θ_ok
  unfold spec_l7Touch at h
  show WAt E body46 (FQ (RetE Θ Try.f46.results.toList [] [] (B r) E)) [] ⟨[(0, (AV.agg ((o50 p1))))], [], [JJ]⟩
  rcases itS h with ⟨c2, h⟩ | ⟨c3, h⟩
  · have h := Option.some.inj h
    subst h
    exact go_ret hΘ hm hP hn (hs := [⟨0, .new 1001, none⟩, ⟨5, .no, some (B true)⟩]) (rh := []) (ph := .raw) (ps := [(B (p1.Kind == 2)) = (B true), (B true) = (B true), litA (B true) = true]) (by kernel_rfl) ⟨(litB c2), rfl, rfl, trivial⟩
  · have h := Option.some.inj h
    subst h
    exact go_ret hΘ hm hP hn (hs := [⟨0, .new 1001, none⟩, ⟨5, .no, some (B false)⟩]) (rh := []) (ph := .raw) (ps := [(B (p1.Kind == 2)) = (B false), (B (p1.Kind == 3)) = (B (p1.Kind == 3)), litA (B (p1.Kind == 3)) = true]) (by kernel_rfl) ⟨(litB c3), rfl, rfl, trivial⟩
noncomputable def body84 : Code := match Try.f84.body with | some c => c | none => .skip
noncomputable def spec_l9Cond (p1 : GEvent) : Option Bool :=
  if (p1.Kind == 8) = true then
    some true
  else
    if (p1.Kind == 9) = true then
      some true
    else
      some (p1.Kind == 10)
theorem spec_l9Cond_m {p1 : GEvent} {r : Bool} (h : spec_l9Cond p1 = some r) : Meets Try.prog 84 [(AV.agg ((o50 p1)))] (B r) := by
  refine meets_ofC Θ_ok Try.func84 rfl (c := body84) (by kernel_rfl) (Nat.le_of_ble_eq_true rfl) ?_
  intro E hP hn hx
  replace hn : E.n = 16 := hn
  have hm : E.P.follows .mixedOrders = true := by rw [hP]; exact mixed
  have hΘ : TOK E.P Θ := by rw [hP]; exact Θ_ok
  unfold spec_l9Cond at h
  show WAt E body84 (FQ (RetE Θ Try.f84.results.toList [] [] (B r) E)) [] ⟨[(0, (AV.agg ((o50 p1))))], [], [JJ]⟩
  rcases itS h with ⟨c2, h⟩ | ⟨c3, h⟩
  · have h := Option.some.inj h
    subst h
    exact go_ret hΘ hm hP hn (hs := [⟨0, .new 1001, none⟩, ⟨5, .no, some (B true)⟩]) (rh := []) (ph := .raw) (ps := [(B (p1.Kind == 8)) = (B true), (B true) = (B true), litA (B true) = true]) (by kernel_rfl) ⟨(litB c2), rfl, rfl, trivial⟩
  · rcases itS h with ⟨c4, h⟩ | ⟨c5, h⟩
    · have h := Option.some.inj h
      subst h
      exact go_ret hΘ hm hP hn (hs := [⟨0, .new 1001, none⟩, ⟨5, .no, some (B false)⟩, ⟨10, .no, some (B true)⟩]) (rh := []) (ph := .raw) (ps := [(B (p1.Kind == 8)) = (B false), (B (p1.Kind == 9)) = (B true), (B true) = (B true), litA (B true) = true]) (by kernel_rfl) ⟨(litB c3), (litB c4), rfl, rfl, trivial⟩
    · have h := Option.some.inj h
      subst h
      exact go_ret hΘ hm hP hn (hs := [⟨0, .new 1001, none⟩, ⟨5, .no, some (B false)⟩, ⟨10, .no, some (B false)⟩]) (rh := []) (ph := .raw) (ps := [(B (p1.Kind == 8)) = (B false), (B (p1.Kind == 9)) = (B false), (B (p1.Kind == 10)) = (B (p1.Kind == 10)), litA (B (p1.Kind == 10)) = true]) (by kernel_rfl) ⟨(litB c3), (litB c5), rfl, rfl, trivial⟩
noncomputable def body75 : Code := match Try.f75.body with | some c => c | none => .skip
noncomputable def spec_l9One (p1 : GEvent) (p2 : GEvent) : Option Bool :=
  if (p1.Kind == 3) = true then
    Option.bind (spec_l7Touch p2) fun r4 =>
    if r4 = true then
      some (p1.Obj == p2.Obj)
    else
      some false
  else
    if (p1.Kind == 6) = true then
      if (p2.Kind == 6) = true then
        some true
      else
        some (p2.Thread == p1.Obj)
    else
      if (p1.Kind == 7) = true then
        if (p2.Kind == 11) = true then
          some (p2.Thread == p1.Obj)
        else
          some false
      else
        if (p1.Kind == 10) = true then
          Option.bind (spec_l9Cond p2) fun r17 =>
          if r17 = true then
            if (p1.Obj == p2.Obj) = true then
              some true
            else
              some (p2.Thread == p1.Lock)
          else
            some (p2.Thread == p1.Lock)
        else
          if (p1.Kind == 8) = true then
            Option.bind (spec_l9Cond p2) fun r24 =>
            if r24 = true then
              some (p1.Obj == p2.Obj)
            else
              some false
          else
            some (p1.Kind == 12)
theorem spec_l9One_m {p1 : GEvent} {p2 : GEvent} {r : Bool} (h : spec_l9One p1 p2 = some r) : Meets Try.prog 75 [(AV.agg ((o50 p1))), (AV.agg ((o50 p2)))] (B r) := by
  refine meets_ofC Θ_ok Try.func75 rfl (c := body75) (by kernel_rfl) (Nat.le_of_ble_eq_true rfl) ?_
  intro E hP hn hx
  replace hn : E.n = 74 := hn
  have hm : E.P.follows .mixedOrders = true := by rw [hP]; exact mixed
  have hΘ : TOK E.P Θ := by rw [hP]; exact Θ_ok
  unfold spec_l9One at h
  show WAt E body75 (FQ (RetE Θ Try.f75.results.toList [] [] (B r) E)) [] ⟨[(0, (AV.agg ((o50 p1)))), (1, (AV.agg ((o50 p2))))], [], [JJ]⟩
  rcases itS h with ⟨c3, h⟩ | ⟨c7, h⟩
  · obtain ⟨r4, hr4, h⟩ := bnS h
    rcases itS h with ⟨c5, h⟩ | ⟨c6, h⟩
    · have h := Option.some.inj h
      subst h
      exact go_ret hΘ hm hP hn (hs := [⟨0, .new 1001, none⟩, ⟨1, .new 1002, none⟩, ⟨7, .br true, none⟩, ⟨9, .callV [[]] (B r4), none⟩, ⟨10, .no, some (B true)⟩]) (rh := []) (ph := .raw) (ps := [(p1.Kind == 3) = true, Meets Try.prog 46 [(AV.agg ((o50 p2)))] (B r4), litA (B r4) = true, (B r4) = (B true), (B (p1.Obj == p2.Obj)) = (B (p1.Obj == p2.Obj)), litA (B (p1.Obj == p2.Obj)) = true]) (by kernel_rfl) ⟨c3, (spec_l7Touch_m hr4), rfl, (litB c5), rfl, rfl, trivial⟩
    · have h := Option.some.inj h
      subst h
      exact go_ret hΘ hm hP hn (hs := [⟨0, .new 1001, none⟩, ⟨1, .new 1002, none⟩, ⟨7, .br true, none⟩, ⟨9, .callV [[]] (B r4), none⟩, ⟨10, .no, some (B false)⟩]) (rh := []) (ph := .raw) (ps := [(p1.Kind == 3) = true, Meets Try.prog 46 [(AV.agg ((o50 p2)))] (B r4), litA (B r4) = true, (B r4) = (B false), (B false) = (B false), litA (B false) = true]) (by kernel_rfl) ⟨c3, (spec_l7Touch_m hr4), rfl, (litB c6), rfl, rfl, trivial⟩
  · rcases itS h with ⟨c8, h⟩ | ⟨c11, h⟩
    · rcases itS h with ⟨c9, h⟩ | ⟨c10, h⟩
      · have h := Option.some.inj h
        subst h
        exact go_ret hΘ hm hP hn (hs := [⟨0, .new 1001, none⟩, ⟨1, .new 1002, none⟩, ⟨7, .br false, none⟩, ⟨10, .br true, none⟩, ⟨14, .no, some (B true)⟩]) (rh := []) (ph := .raw) (ps := [(p1.Kind == 3) = false, (p1.Kind == 6) = true, (B (p2.Kind == 6)) = (B true), (B true) = (B true), litA (B true) = true]) (by kernel_rfl) ⟨c7, c8, (litB c9), rfl, rfl, trivial⟩
      · have h := Option.some.inj h
        subst h
        exact go_ret hΘ hm hP hn (hs := [⟨0, .new 1001, none⟩, ⟨1, .new 1002, none⟩, ⟨7, .br false, none⟩, ⟨10, .br true, none⟩, ⟨14, .no, some (B false)⟩]) (rh := []) (ph := .raw) (ps := [(p1.Kind == 3) = false, (p1.Kind == 6) = true, (B (p2.Kind == 6)) = (B false), (B (p2.Thread == p1.Obj)) = (B (p2.Thread == p1.Obj)), litA (B (p2.Thread == p1.Obj)) = true]) (by kernel_rfl) ⟨c7, c8, (litB c10), rfl, rfl, trivial⟩
    · rcases itS h with ⟨c12, h⟩ | ⟨c15, h⟩
      · rcases itS h with ⟨c13, h⟩ | ⟨c14, h⟩
        · have h := Option.some.inj h
          subst h
          exact go_ret hΘ hm hP hn (hs := [⟨0, .new 1001, none⟩, ⟨1, .new 1002, none⟩, ⟨7, .br false, none⟩, ⟨10, .br false, none⟩, ⟨13, .br true, none⟩, ⟨17, .no, some (B true)⟩]) (rh := []) (ph := .raw) (ps := [(p1.Kind == 3) = false, (p1.Kind == 6) = false, (p1.Kind == 7) = true, (B (p2.Kind == 11)) = (B true), (B (p2.Thread == p1.Obj)) = (B (p2.Thread == p1.Obj)), litA (B (p2.Thread == p1.Obj)) = true]) (by kernel_rfl) ⟨c7, c11, c12, (litB c13), rfl, rfl, trivial⟩
        · have h := Option.some.inj h
          subst h
          exact go_ret hΘ hm hP hn (hs := [⟨0, .new 1001, none⟩, ⟨1, .new 1002, none⟩, ⟨7, .br false, none⟩, ⟨10, .br false, none⟩, ⟨13, .br true, none⟩, ⟨17, .no, some (B false)⟩]) (rh := []) (ph := .raw) (ps := [(p1.Kind == 3) = false, (p1.Kind == 6) = false, (p1.Kind == 7) = true, (B (p2.Kind == 11)) = (B false), (B false) = (B false), litA (B false) = true]) (by kernel_rfl) ⟨c7, c11, c12, (litB c14), rfl, rfl, trivial⟩
      · rcases itS h with ⟨c16, h⟩ | ⟨c22, h⟩
        · obtain ⟨r17, hr17, h⟩ := bnS h
          rcases itS h with ⟨c18, h⟩ | ⟨c21, h⟩
          · rcases itS h with ⟨c19, h⟩ | ⟨c20, h⟩
            · have h := Option.some.inj h
              subst h
              exact go_ret hΘ hm hP hn (hs := [⟨0, .new 1001, none⟩, ⟨1, .new 1002, none⟩, ⟨7, .br false, none⟩, ⟨10, .br false, none⟩, ⟨13, .br false, none⟩, ⟨16, .br true, none⟩, ⟨18, .callV [[]] (B r17), none⟩, ⟨19, .no, some (B true)⟩, ⟨26, .no, some (B true)⟩]) (rh := []) (ph := .raw) (ps := [(p1.Kind == 3) = false, (p1.Kind == 6) = false, (p1.Kind == 7) = false, (p1.Kind == 10) = true, Meets Try.prog 84 [(AV.agg ((o50 p2)))] (B r17), litA (B r17) = true, (B r17) = (B true), (B (p1.Obj == p2.Obj)) = (B true), (B true) = (B true), litA (B true) = true]) (by kernel_rfl) ⟨c7, c11, c15, c16, (spec_l9Cond_m hr17), rfl, (litB c18), (litB c19), rfl, rfl, trivial⟩
            · have h := Option.some.inj h
              subst h
              exact go_ret hΘ hm hP hn (hs := [⟨0, .new 1001, none⟩, ⟨1, .new 1002, none⟩, ⟨7, .br false, none⟩, ⟨10, .br false, none⟩, ⟨13, .br false, none⟩, ⟨16, .br true, none⟩, ⟨18, .callV [[]] (B r17), none⟩, ⟨19, .no, some (B true)⟩, ⟨26, .no, some (B false)⟩]) (rh := []) (ph := .raw) (ps := [(p1.Kind == 3) = false, (p1.Kind == 6) = false, (p1.Kind == 7) = false, (p1.Kind == 10) = true, Meets Try.prog 84 [(AV.agg ((o50 p2)))] (B r17), litA (B r17) = true, (B r17) = (B true), (B (p1.Obj == p2.Obj)) = (B false), (B (p2.Thread == p1.Lock)) = (B (p2.Thread == p1.Lock)), litA (B (p2.Thread == p1.Lock)) = true]) (by kernel_rfl) ⟨c7, c11, c15, c16, (spec_l9Cond_m hr17), rfl, (litB c18), (litB c20), rfl, rfl, trivial⟩
          · have h := Option.some.inj h
            subst h
            exact go_ret hΘ hm hP hn (hs := [⟨0, .new 1001, none⟩, ⟨1, .new 1002, none⟩, ⟨7, .br false, none⟩, ⟨10, .br false, none⟩, ⟨13, .br false, none⟩, ⟨16, .br true, none⟩, ⟨18, .callV [[]] (B r17), none⟩, ⟨19, .no, some (B false)⟩]) (rh := []) (ph := .raw) (ps := [(p1.Kind == 3) = false, (p1.Kind == 6) = false, (p1.Kind == 7) = false, (p1.Kind == 10) = true, Meets Try.prog 84 [(AV.agg ((o50 p2)))] (B r17), litA (B r17) = true, (B r17) = (B false), (B (p2.Thread == p1.Lock)) = (B (p2.Thread == p1.Lock)), litA (B (p2.Thread == p1.Lock)) = true]) (by kernel_rfl) ⟨c7, c11, c15, c16, (spec_l9Cond_m hr17), rfl, (litB c21), rfl, rfl, trivial⟩
        · rcases itS h with ⟨c23, h⟩ | ⟨c27, h⟩
          · obtain ⟨r24, hr24, h⟩ := bnS h
            rcases itS h with ⟨c25, h⟩ | ⟨c26, h⟩
            · have h := Option.some.inj h
              subst h
              exact go_ret hΘ hm hP hn (hs := [⟨0, .new 1001, none⟩, ⟨1, .new 1002, none⟩, ⟨7, .br false, none⟩, ⟨10, .br false, none⟩, ⟨13, .br false, none⟩, ⟨16, .br false, none⟩, ⟨19, .br true, none⟩, ⟨21, .callV [[]] (B r24), none⟩, ⟨22, .no, some (B true)⟩]) (rh := []) (ph := .raw) (ps := [(p1.Kind == 3) = false, (p1.Kind == 6) = false, (p1.Kind == 7) = false, (p1.Kind == 10) = false, (p1.Kind == 8) = true, Meets Try.prog 84 [(AV.agg ((o50 p2)))] (B r24), litA (B r24) = true, (B r24) = (B true), (B (p1.Obj == p2.Obj)) = (B (p1.Obj == p2.Obj)), litA (B (p1.Obj == p2.Obj)) = true]) (by kernel_rfl) ⟨c7, c11, c15, c22, c23, (spec_l9Cond_m hr24), rfl, (litB c25), rfl, rfl, trivial⟩
            · have h := Option.some.inj h
              subst h
              exact go_ret hΘ hm hP hn (hs := [⟨0, .new 1001, none⟩, ⟨1, .new 1002, none⟩, ⟨7, .br false, none⟩, ⟨10, .br false, none⟩, ⟨13, .br false, none⟩, ⟨16, .br false, none⟩, ⟨19, .br true, none⟩, ⟨21, .callV [[]] (B r24), none⟩, ⟨22, .no, some (B false)⟩]) (rh := []) (ph := .raw) (ps := [(p1.Kind == 3) = false, (p1.Kind == 6) = false, (p1.Kind == 7) = false, (p1.Kind == 10) = false, (p1.Kind == 8) = true, Meets Try.prog 84 [(AV.agg ((o50 p2)))] (B r24), litA (B r24) = true, (B r24) = (B false), (B false) = (B false), litA (B false) = true]) (by kernel_rfl) ⟨c7, c11, c15, c22, c23, (spec_l9Cond_m hr24), rfl, (litB c26), rfl, rfl, trivial⟩
          · have h := Option.some.inj h
            subst h
            exact go_ret hΘ hm hP hn (hs := [⟨0, .new 1001, none⟩, ⟨1, .new 1002, none⟩, ⟨7, .br false, none⟩, ⟨10, .br false, none⟩, ⟨13, .br false, none⟩, ⟨16, .br false, none⟩, ⟨19, .br false, none⟩]) (rh := []) (ph := .raw) (ps := [(p1.Kind == 3) = false, (p1.Kind == 6) = false, (p1.Kind == 7) = false, (p1.Kind == 10) = false, (p1.Kind == 8) = false, (B (p1.Kind == 12)) = (B (p1.Kind == 12)), litA (B (p1.Kind == 12)) = true]) (by kernel_rfl) ⟨c7, c11, c15, c22, c27, rfl, rfl, trivial⟩
noncomputable def body56 : Code := match Try.f56.body with | some c => c | none => .skip
noncomputable def spec_l9Hang_j0  (p1 : GEvent) (p2 : GEvent)  : Option Bool :=
  Option.bind (spec_l9One p1 p2) fun r11 =>
  if r11 = true then
    some true
  else
    Option.bind (spec_l9One p2 p1) fun r14 =>
    some r14
theorem spec_l9Hang_j0_m {E : Env} (hP : E.P = Try.prog) (hn : E.n = 30) (hx : ∀ p, p ∈ E.fx → p.1 ∈ ([] : List Nat)) (p1 : GEvent) (p2 : GEvent)   (r : Bool) (h : spec_l9Hang_j0 p1 p2  = some r) : WAt E body56 (FQ (RetE Θ Try.f56.results.toList [] [] (B r) E)) [true, false, true, true] ⟨[(2, (AV.ptr 1 0 0)), (3, (AV.ptr 2 0 0))], [(1, some ⟨50, 5, [((o50 p1))]⟩), (2, some ⟨50, 5, [((o50 p2))]⟩)], [1, 2, JJ]⟩ := by
  have hm : E.P.follows .mixedOrders = true := by rw [hP]; exact mixed
  have hΘ : TOK E.P Θ := by rw [hP]; exact Θ_ok
  unfold spec_l9Hang_j0 at h
  obtain ⟨r11, hr11, h⟩ := bnS h
  rcases itS h with ⟨c12, h⟩ | ⟨c13, h⟩
  · have h := Option.some.inj h
    subst h
    exact go_ret hΘ hm hP hn (hs := [⟨2, .callV [[], []] (B r11), none⟩, ⟨3, .no, some (B true)⟩]) (rh := []) (ph := .raw) (ps := [Meets Try.prog 75 [(AV.agg ((o50 p1))), (AV.agg ((o50 p2)))] (B r11), litA (B r11) = true, (B r11) = (B true), (B true) = (B true), litA (B true) = true]) (by kernel_rfl) ⟨(spec_l9One_m hr11), rfl, (litB c12), rfl, rfl, trivial⟩
  · obtain ⟨r14, hr14, h⟩ := bnS h
    have h := Option.some.inj h
    subst h
    exact go_ret hΘ hm hP hn (hs := [⟨2, .callV [[], []] (B r11), none⟩, ⟨3, .no, some (B false)⟩, ⟨6, .callV [[], []] (B r14), none⟩]) (rh := []) (ph := .raw) (ps := [Meets Try.prog 75 [(AV.agg ((o50 p1))), (AV.agg ((o50 p2)))] (B r11), litA (B r11) = true, (B r11) = (B false), Meets Try.prog 75 [(AV.agg ((o50 p2))), (AV.agg ((o50 p1)))] (B r14), litA (B r14) = true, (B r14) = (B r14), litA (B r14) = true]) (by kernel_rfl) ⟨(spec_l9One_m hr11), rfl, (litB c13), (spec_l9One_m hr14), rfl, rfl, rfl, trivial⟩
noncomputable def spec_l9Hang (p1 : GEvent) (p2 : GEvent) : Option Bool :=
  if (p1.Thread == p2.Thread) = true then
    some true
  else
    Option.bind (spec_l9Lock p1) fun r5 =>
    Option.bind (spec_l9Lock p2) fun r6 =>
    if (r5 == r6) = true then
      Option.bind (spec_l9Lock p1) fun r8 =>
      if (r8 != (-2)) = true then
        some true
      else
        spec_l9Hang_j0 p1 p2
    else
      spec_l9Hang_j0 p1 p2
theorem spec_l9Hang_m {p1 : GEvent} {p2 : GEvent} {r : Bool} (h : spec_l9Hang p1 p2 = some r) : Meets Try.prog 56 [(AV.agg ((o50 p1))), (AV.agg ((o50 p2)))] (B r) := by
  refine meets_ofC Θ_ok Try.func56 rfl (c := body56) (by kernel_rfl) (Nat.le_of_ble_eq_true rfl) ?_
  intro E hP hn hx
  replace hn : E.n = 30 := hn
  have hm : E.P.follows .mixedOrders = true := by rw [hP]; exact mixed
  have hΘ : TOK E.P Θ := by rw [hP]; exact Θ_ok
  unfold spec_l9Hang at h
  show WAt E body56 (FQ (RetE Θ Try.f56.results.toList [] [] (B r) E)) [] ⟨[(0, (AV.agg ((o50 p1)))), (1, (AV.agg ((o50 p2))))], [], [JJ]⟩
  rcases itS h with ⟨c3, h⟩ | ⟨c4, h⟩
  · have h := Option.some.inj h
    subst h
    exact go_ret hΘ hm hP hn (hs := [⟨0, .new 1001, none⟩, ⟨1, .new 1002, none⟩, ⟨8, .no, some (B true)⟩]) (rh := []) (ph := .raw) (ps := [(B (p1.Thread == p2.Thread)) = (B true), (B true) = (B true), litA (B true) = true]) (by kernel_rfl) ⟨(litB c3), rfl, rfl, trivial⟩
  · obtain ⟨r5, hr5, h⟩ := bnS h
    obtain ⟨r6, hr6, h⟩ := bnS h
    rcases itS h with ⟨c7, h⟩ | ⟨c15, h⟩
    · obtain ⟨r8, hr8, h⟩ := bnS h
      rcases itS h with ⟨c9, h⟩ | ⟨c10, h⟩
      · have h := Option.some.inj h
        subst h
        exact go_ret hΘ hm hP hn (hs := [⟨0, .new 1001, none⟩, ⟨1, .new 1002, none⟩, ⟨8, .no, some (B false)⟩, ⟨10, .callV [[]] (I r5), none⟩, ⟨12, .callV [[]] (I r6), none⟩, ⟨14, .no, some (B true)⟩, ⟨16, .callV [[]] (I r8), none⟩, ⟨20, .br true, none⟩]) (rh := []) (ph := .raw) (ps := [(B (p1.Thread == p2.Thread)) = (B false), Meets Try.prog 74 [(AV.agg ((o50 p1)))] (I r5), litA (I r5) = true, Meets Try.prog 74 [(AV.agg ((o50 p2)))] (I r6), litA (I r6) = true, (B (r5 == r6)) = (B true), Meets Try.prog 74 [(AV.agg ((o50 p1)))] (I r8), litA (I r8) = true, (r8 != (-2)) = true, (B true) = (B true), litA (B true) = true]) (by kernel_rfl) ⟨(litB c4), (spec_l9Lock_m hr5), rfl, (spec_l9Lock_m hr6), rfl, (litB c7), (spec_l9Lock_m hr8), rfl, c9, rfl, rfl, trivial⟩
      · exact go_to hΘ hm hx hP hn (hs := [⟨0, .new 1001, none⟩, ⟨1, .new 1002, none⟩, ⟨8, .no, some (B false)⟩, ⟨10, .callV [[]] (I r5), none⟩, ⟨12, .callV [[]] (I r6), none⟩, ⟨14, .no, some (B true)⟩, ⟨16, .callV [[]] (I r8), none⟩, ⟨20, .br false, none⟩]) (π := [(1001, 1), (1002, 2)]) (ts := [2, 3]) (kp := []) (ps := [(B (p1.Thread == p2.Thread)) = (B false), Meets Try.prog 74 [(AV.agg ((o50 p1)))] (I r5), litA (I r5) = true, Meets Try.prog 74 [(AV.agg ((o50 p2)))] (I r6), litA (I r6) = true, (B (r5 == r6)) = (B true), Meets Try.prog 74 [(AV.agg ((o50 p1)))] (I r8), litA (I r8) = true, (r8 != (-2)) = false, RenOK [(1001, 1), (1002, 2)] [((o50 p1))], RenOK [(1001, 1), (1002, 2)] [((o50 p2))]]) (by kernel_rfl) ⟨(litB c4), (spec_l9Lock_m hr5), rfl, (spec_l9Lock_m hr6), rfl, (litB c7), (spec_l9Lock_m hr8), rfl, c10, (rok rfl), (rok rfl), trivial⟩ (spec_l9Hang_j0_m hP hn hx p1 p2  _ h)
    · exact go_to hΘ hm hx hP hn (hs := [⟨0, .new 1001, none⟩, ⟨1, .new 1002, none⟩, ⟨8, .no, some (B false)⟩, ⟨10, .callV [[]] (I r5), none⟩, ⟨12, .callV [[]] (I r6), none⟩, ⟨14, .no, some (B false)⟩]) (π := [(1001, 1), (1002, 2)]) (ts := [2, 3]) (kp := []) (ps := [(B (p1.Thread == p2.Thread)) = (B false), Meets Try.prog 74 [(AV.agg ((o50 p1)))] (I r5), litA (I r5) = true, Meets Try.prog 74 [(AV.agg ((o50 p2)))] (I r6), litA (I r6) = true, (B (r5 == r6)) = (B false), RenOK [(1001, 1), (1002, 2)] [((o50 p1))], RenOK [(1001, 1), (1002, 2)] [((o50 p2))]]) (by kernel_rfl) ⟨(litB c4), (spec_l9Lock_m hr5), rfl, (spec_l9Lock_m hr6), rfl, (litB c15), (rok rfl), (rok rfl), trivial⟩ (spec_l9Hang_j0_m hP hn hx p1 p2  _ h)
noncomputable def body33 : Code := match Try.f33.body with | some c => c | none => .skip
noncomputable def spec_l9Form_l2 (K0 : (List GEvent) → (List GEvent) → Option (List GEvent)) (K1 : (List GEvent) → (List GEvent) → Int → Int → Option (List GEvent)) (a3 : (List GEvent)) (v8 : Int) (v9 : Int) (l12 : (List GEvent)) : Nat → (List GEvent) → (List GEvent) → GEvent → Bool → Int → Option (List GEvent)
  | 0, _, _, _, _, _ => none
  | n + 1, a13, a14, a15, v16, v17 =>
  if (decide (v17 < (l12.length : Int))) = true then
    Option.bind (rdc a13 0 (Int.toNat v9) v17) fun x19 =>
    if v16 = true then
      Option.bind (spec_l9Hang x19 a15) fun r21 =>
      spec_l9Form_l2 K0 K1 a3 v8 v9 l12 n a13 a14 a15 (!r21) (w64 (v17 + 1))
    else
      spec_l9Form_l2 K0 K1 a3 v8 v9 l12 n a13 a14 a15 false (w64 (v17 + 1))
  else
    if v16 = true then
      if (decide (v8 < 0)) = true then
        K1 a13 a14 v9 (w64 (v9 + 1))
      else
        Option.bind (rd a13 v8) fun x27 =>
        if (decide (a15.Thread < x27.Thread)) = true then
          K1 a13 a14 v9 (w64 (v9 + 1))
        else
          K1 a13 a14 v8 (w64 (v9 + 1))
    else
      K1 a13 a14 v8 (w64 (v9 + 1))
theorem spec_l9Form_l2_m {E : Env} (hP : E.P = Try.prog) (hn : E.n = 77) (hx : ∀ p, p ∈ E.fx → p.1 ∈ ([] : List Nat)) (a3 : (List GEvent)) (v8 : Int) (v9 : Int) (l12 : (List GEvent)) {K0 : (List GEvent) → (List GEvent) → Option (List GEvent)} (hK0 : ∀ (a3 : (List GEvent)) (a4 : (List GEvent)) (r : (List GEvent)), K0 a3 a4 = some r → WAt E body33 (FQ (RetE Θ Try.f33.results.toList [] [] (AV.own 50 5 (r.map o50)) E)) [true, true, true, false, false] ⟨[(3, (AV.sl 1 0 (List.length (a3.map o50)))), (4, (AV.sl 2 0 (List.length (a4.map o50))))], [(1, some ⟨50, 5, (a3.map o50)⟩), (2, some ⟨50, 5, (a4.map o50)⟩)], [1, 2, JJ]⟩) {K1 : (List GEvent) → (List GEvent) → Int → Int → Option (List GEvent)} (hK1 : ∀ (a6 : (List GEvent)) (a7 : (List GEvent)) (v8 : Int) (v9 : Int) (r : (List GEvent)), K1 a6 a7 v8 v9 = some r → WAt E body33 (FQ (RetE Θ Try.f33.results.toList [] [] (AV.own 50 5 (r.map o50)) E)) [true, true, true, false, false, false, true, false, true, false, true, false] ⟨[(3, (AV.sl 1 0 (List.length (a6.map o50)))), (4, (AV.sl 2 0 (List.length (a7.map o50)))), (5, (I v8)), (18, (AV.sl 1 0 (List.length (a6.map o50)))), (19, (I (a3.length : Int))), (20, (I v9))], [(1, some ⟨50, 5, (a6.map o50)⟩), (2, some ⟨50, 5, (a7.map o50)⟩)], [1, 2, JJ]⟩) : ∀ (n : Nat) (a13 : (List GEvent)) (a14 : (List GEvent)) (a15 : GEvent) (v16 : Bool) (v17 : Int) (r : (List GEvent)), spec_l9Form_l2 K0 K1 a3 v8 v9 l12 n a13 a14 a15 v16 v17 = some r → WAt E body33 (FQ (RetE Θ Try.f33.results.toList [] [] (AV.own 50 5 (r.map o50)) E)) [true, true, true, false, false, false, true, false, true, false, true, false, false, true, true, false, false, true, true, false, true, false] ⟨[(3, (AV.sl 1 0 (List.length (a13.map o50)))), (4, (AV.sl 2 0 (List.length (a14.map o50)))), (5, (I v8)), (6, (I v9)), (7, (AV.ptr 3 0 0)), (8, (B v16)), (18, (AV.sl 1 0 (List.length (a13.map o50)))), (19, (I (a3.length : Int))), (20, (I v9)), (27, (AV.sl 1 0 (Int.toNat v9))), (28, (I (l12.length : Int))), (29, (I v17))], [(1, some ⟨50, 5, (a13.map o50)⟩), (2, some ⟨50, 5, (a14.map o50)⟩), (3, some ⟨50, 5, [((o50 a15))]⟩)], [1, 2, 3, JJ]⟩ := by
  have hm : E.P.follows .mixedOrders = true := by rw [hP]; exact mixed
  have hΘ : TOK E.P Θ := by rw [hP]; exact Θ_ok
  intro n
  induction n with
  | zero => intro a13 a14 a15 v16 v17 r h; simp only [spec_l9Form_l2] at h; cases h
  | succ n ih =>
    intro a13 a14 a15 v16 v17 r h
    simp only [spec_l9Form_l2] at h
    rcases itS h with ⟨c18, h⟩ | ⟨c23, h⟩
    · obtain ⟨x19, hx19, h⟩ := bnS h
      rcases itS h with ⟨c20, h⟩ | ⟨c22, h⟩
      · obtain ⟨r21, hr21, h⟩ := bnS h
        exact go_to hΘ hm hx hP hn (hs := [⟨1, .br true, none⟩, ⟨3, .row ((o50 x19)), none⟩, ⟨4, .new 1001, none⟩, ⟨7, .no, some (B true)⟩, ⟨10, .callV [[], []] (B r21), none⟩]) (π := [(1, 1), (2, 2), (3, 3)]) (ts := [3, 4, 5, 6, 7, 8, 18, 19, 20, 27, 28, 29]) (kp := []) (ps := [(decide (v17 < (l12.length : Int))) = true, (0 : Int) ≤ v17, v17 < (((Int.toNat v9) : Nat) : Int), (a13.map o50)[(Int.toNat v17)]? = some ((o50 x19)), (B v16) = (B true), Meets Try.prog 56 [(AV.agg ((o50 x19))), (AV.agg ((o50 a15)))] (B r21), litA (B r21) = true, RenOK [(1, 1), (2, 2), (3, 3)] (a13.map o50), RenOK [(1, 1), (2, 2), (3, 3)] (a14.map o50), RenOK [(1, 1), (2, 2), (3, 3)] [((o50 a15))]]) (by kernel_rfl) ⟨c18, (rdc0 hx19), (rdcL hx19), (rdM o50 (rdcR0 hx19)), (litB c20), (spec_l9Hang_m hr21), rfl, (rok (treeM t50)), (rok (treeM t50)), (rok rfl), trivial⟩ (ih a13 a14 a15 (!r21) (w64 (v17 + 1)) _ h)
      · exact go_to hΘ hm hx hP hn (hs := [⟨1, .br true, none⟩, ⟨3, .row ((o50 x19)), none⟩, ⟨4, .new 1001, none⟩, ⟨7, .no, some (B false)⟩]) (π := [(1, 1), (2, 2), (3, 3)]) (ts := [3, 4, 5, 6, 7, 8, 18, 19, 20, 27, 28, 29]) (kp := []) (ps := [(decide (v17 < (l12.length : Int))) = true, (0 : Int) ≤ v17, v17 < (((Int.toNat v9) : Nat) : Int), (a13.map o50)[(Int.toNat v17)]? = some ((o50 x19)), (B v16) = (B false), RenOK [(1, 1), (2, 2), (3, 3)] (a13.map o50), RenOK [(1, 1), (2, 2), (3, 3)] (a14.map o50), RenOK [(1, 1), (2, 2), (3, 3)] [((o50 a15))]]) (by kernel_rfl) ⟨c18, (rdc0 hx19), (rdcL hx19), (rdM o50 (rdcR0 hx19)), (litB c22), (rok (treeM t50)), (rok (treeM t50)), (rok rfl), trivial⟩ (ih a13 a14 a15 false (w64 (v17 + 1)) _ h)
    · rcases itS h with ⟨c24, h⟩ | ⟨c30, h⟩
      · rcases itS h with ⟨c25, h⟩ | ⟨c26, h⟩
        · exact go_to hΘ hm hx hP hn (hs := [⟨1, .br false, none⟩, ⟨3, .no, some (B true)⟩, ⟨6, .no, some (B true)⟩]) (π := [(1, 1), (2, 2)]) (ts := [3, 4, 5, 18, 19, 20]) (kp := []) (ps := [(decide (v17 < (l12.length : Int))) = false, (B v16) = (B true), (B (decide (v8 < 0))) = (B true), RenOK [(1, 1), (2, 2)] (a13.map o50), RenOK [(1, 1), (2, 2)] (a14.map o50)]) (by kernel_rfl) ⟨c23, (litB c24), (litB c25), (rok (treeM t50)), (rok (treeM t50)), trivial⟩ (hK1 a13 a14 v9 (w64 (v9 + 1)) _ h)
        · obtain ⟨x27, hx27, h⟩ := bnS h
          rcases itS h with ⟨c28, h⟩ | ⟨c29, h⟩
          · exact go_to hΘ hm hx hP hn (hs := [⟨1, .br false, none⟩, ⟨3, .no, some (B true)⟩, ⟨6, .no, some (B false)⟩, ⟨13, .row ((o50 x27)), none⟩, ⟨17, .br true, none⟩]) (π := [(1, 1), (2, 2)]) (ts := [3, 4, 5, 18, 19, 20]) (kp := []) (ps := [(decide (v17 < (l12.length : Int))) = false, (B v16) = (B true), (B (decide (v8 < 0))) = (B false), (0 : Int) ≤ v8, v8 < (((List.length (a13.map o50)) : Nat) : Int), (a13.map o50)[(Int.toNat v8)]? = some ((o50 x27)), (decide (a15.Thread < x27.Thread)) = true, RenOK [(1, 1), (2, 2)] (a13.map o50), RenOK [(1, 1), (2, 2)] (a14.map o50)]) (by kernel_rfl) ⟨c23, (litB c24), (litB c26), (rd0 hx27), (rdL o50 hx27), (rdM o50 hx27), c28, (rok (treeM t50)), (rok (treeM t50)), trivial⟩ (hK1 a13 a14 v9 (w64 (v9 + 1)) _ h)
          · exact go_to hΘ hm hx hP hn (hs := [⟨1, .br false, none⟩, ⟨3, .no, some (B true)⟩, ⟨6, .no, some (B false)⟩, ⟨13, .row ((o50 x27)), none⟩, ⟨17, .br false, none⟩]) (π := [(1, 1), (2, 2)]) (ts := [3, 4, 5, 18, 19, 20]) (kp := []) (ps := [(decide (v17 < (l12.length : Int))) = false, (B v16) = (B true), (B (decide (v8 < 0))) = (B false), (0 : Int) ≤ v8, v8 < (((List.length (a13.map o50)) : Nat) : Int), (a13.map o50)[(Int.toNat v8)]? = some ((o50 x27)), (decide (a15.Thread < x27.Thread)) = false, RenOK [(1, 1), (2, 2)] (a13.map o50), RenOK [(1, 1), (2, 2)] (a14.map o50)]) (by kernel_rfl) ⟨c23, (litB c24), (litB c26), (rd0 hx27), (rdL o50 hx27), (rdM o50 hx27), c29, (rok (treeM t50)), (rok (treeM t50)), trivial⟩ (hK1 a13 a14 v8 (w64 (v9 + 1)) _ h)
      · exact go_to hΘ hm hx hP hn (hs := [⟨1, .br false, none⟩, ⟨3, .no, some (B false)⟩]) (π := [(1, 1), (2, 2)]) (ts := [3, 4, 5, 18, 19, 20]) (kp := []) (ps := [(decide (v17 < (l12.length : Int))) = false, (B v16) = (B false), RenOK [(1, 1), (2, 2)] (a13.map o50), RenOK [(1, 1), (2, 2)] (a14.map o50)]) (by kernel_rfl) ⟨c23, (litB c30), (rok (treeM t50)), (rok (treeM t50)), trivial⟩ (hK1 a13 a14 v8 (w64 (v9 + 1)) _ h)
noncomputable def spec_l9Form_l1 (K0 : (List GEvent) → (List GEvent) → Option (List GEvent)) (a3 : (List GEvent)) : Nat → (List GEvent) → (List GEvent) → Int → Int → Option (List GEvent)
  | 0, _, _, _, _ => none
  | n + 1, a6, a7, v8, v9 =>
  if (decide (v9 < (a3.length : Int))) = true then
    Option.bind (rd a6 v9) fun x11 =>
    Option.bind (slc a6 0 v9) fun l12 =>
    spec_l9Form_l2 K0 (spec_l9Form_l1 K0 a3 n) a3 v8 v9 l12 FU a6 a7 x11 true 0
  else
    Option.bind (rd a6 v8) fun x32 =>
    Option.bind (app a7 [x32]) fun l33 =>
    Option.bind (slc a6 0 v8) fun l34 =>
    Option.bind (app [] l34) fun l35 =>
    Option.bind (slc a6 (w64 (v8 + 1)) (a6.length : Int)) fun l36 =>
    Option.bind (app l35 l36) fun l37 =>
    K0 l37 l33
theorem spec_l9Form_l1_m {E : Env} (hP : E.P = Try.prog) (hn : E.n = 77) (hx : ∀ p, p ∈ E.fx → p.1 ∈ ([] : List Nat)) (a3 : (List GEvent)) {K0 : (List GEvent) → (List GEvent) → Option (List GEvent)} (hK0 : ∀ (a3 : (List GEvent)) (a4 : (List GEvent)) (r : (List GEvent)), K0 a3 a4 = some r → WAt E body33 (FQ (RetE Θ Try.f33.results.toList [] [] (AV.own 50 5 (r.map o50)) E)) [true, true, true, false, false] ⟨[(3, (AV.sl 1 0 (List.length (a3.map o50)))), (4, (AV.sl 2 0 (List.length (a4.map o50))))], [(1, some ⟨50, 5, (a3.map o50)⟩), (2, some ⟨50, 5, (a4.map o50)⟩)], [1, 2, JJ]⟩) : ∀ (n : Nat) (a6 : (List GEvent)) (a7 : (List GEvent)) (v8 : Int) (v9 : Int) (r : (List GEvent)), spec_l9Form_l1 K0 a3 n a6 a7 v8 v9 = some r → WAt E body33 (FQ (RetE Θ Try.f33.results.toList [] [] (AV.own 50 5 (r.map o50)) E)) [true, true, true, false, false, false, true, false, true, false, true, false] ⟨[(3, (AV.sl 1 0 (List.length (a6.map o50)))), (4, (AV.sl 2 0 (List.length (a7.map o50)))), (5, (I v8)), (18, (AV.sl 1 0 (List.length (a6.map o50)))), (19, (I (a3.length : Int))), (20, (I v9))], [(1, some ⟨50, 5, (a6.map o50)⟩), (2, some ⟨50, 5, (a7.map o50)⟩)], [1, 2, JJ]⟩ := by
  have hm : E.P.follows .mixedOrders = true := by rw [hP]; exact mixed
  have hΘ : TOK E.P Θ := by rw [hP]; exact Θ_ok
  intro n
  induction n with
  | zero => intro a6 a7 v8 v9 r h; simp only [spec_l9Form_l1] at h; cases h
  | succ n ih =>
    intro a6 a7 v8 v9 r h
    simp only [spec_l9Form_l1] at h
    rcases itS h with ⟨c10, h⟩ | ⟨c31, h⟩
    · obtain ⟨x11, hx11, h⟩ := bnS h
      obtain ⟨l12, hl12, h⟩ := bnS h
      exact go_to hΘ hm hx hP hn (hs := [⟨1, .br true, none⟩, ⟨4, .row ((o50 x11)), none⟩, ⟨5, .new 1001, none⟩, ⟨12, .no, some (I (l12.length : Int))⟩]) (π := [(1, 1), (2, 2), (1001, 3)]) (ts := [3, 4, 5, 6, 7, 8, 18, 19, 20, 27, 28, 29]) (kp := []) (ps := [(decide (v9 < (a3.length : Int))) = true, (0 : Int) ≤ v9, v9 < (((List.length (a6.map o50)) : Nat) : Int), (a6.map o50)[(Int.toNat v9)]? = some ((o50 x11)), (0 : Int) ≤ 0, 0 ≤ v9, v9 ≤ (((List.length (a6.map o50)) : Nat) : Int), AV.lit (.int .i64 (((Int.toNat v9) : Nat) : Int)) = (I (l12.length : Int)), RenOK [(1, 1), (2, 2), (1001, 3)] (a6.map o50), RenOK [(1, 1), (2, 2), (1001, 3)] (a7.map o50), RenOK [(1, 1), (2, 2), (1001, 3)] [((o50 x11))]]) (by kernel_rfl) ⟨c10, (rd0 hx11), (rdL o50 hx11), (rdM o50 hx11), (sl0 hl12), (sl1 hl12), (sl2 o50 hl12), (lenS0 o50 hl12), (rok (treeM t50)), (rok (treeM t50)), (rok rfl), trivial⟩ (spec_l9Form_l2_m hP hn hx a3 v8 v9 l12 hK0 ih FU a6 a7 x11 true 0 _ h)
    · obtain ⟨x32, hx32, h⟩ := bnS h
      obtain ⟨l33, hl33, h⟩ := bnS h
      obtain ⟨l34, hl34, h⟩ := bnS h
      obtain ⟨l35, hl35, h⟩ := bnS h
      obtain ⟨l36, hl36, h⟩ := bnS h
      obtain ⟨l37, hl37, h⟩ := bnS h
      exact go_to hΘ hm hx hP hn (hs := [⟨1, .br false, none⟩, ⟨6, .row ((o50 x32)), none⟩, ⟨7, .new 1002, none⟩, ⟨8, .app 1003 (l33.map o50), none⟩, ⟨10, .new 1004, none⟩, ⟨14, .app 1005 (l35.map o50), none⟩, ⟨21, .app 1006 (l37.map o50), none⟩]) (π := [(1006, 1), (1003, 2)]) (ts := [3, 4]) (kp := []) (ps := [(decide (v9 < (a3.length : Int))) = false, (0 : Int) ≤ v8, v8 < (((List.length (a6.map o50)) : Nat) : Int), (a6.map o50)[(Int.toNat v8)]? = some ((o50 x32)), (a7.map o50).take (List.length (a7.map o50)) ++ ((([x32].map o50).drop 0).take (List.length ([x32].map o50))) = (l33.map o50), ((([x32].map o50).drop 0).take (List.length ([x32].map o50))).all (fun r => r.all AV.plain) = true, (List.length (l33.map o50)) * 40 ≤ 140737488355328, (List.length (l33.map o50)) ≤ 140737488355328, (0 : Int) ≤ 0, 0 ≤ v8, v8 ≤ (((List.length (a6.map o50)) : Nat) : Int), ([].map o50).take (List.length ([].map o50)) ++ (((a6.map o50).drop 0).take (Int.toNat v8)) = (l35.map o50), (((a6.map o50).drop 0).take (Int.toNat v8)).all (fun r => r.all AV.plain) = true, (List.length (l35.map o50)) * 40 ≤ 140737488355328, (List.length (l35.map o50)) ≤ 140737488355328, (0 : Int) ≤ (w64 (v8 + 1)), (w64 (v8 + 1)) ≤ (((a6.map o50).length : Nat) : Int), (((a6.map o50).length : Nat) : Int) ≤ (((List.length (a6.map o50)) : Nat) : Int), (l35.map o50).take (List.length (l35.map o50)) ++ (((a6.map o50).drop (Int.toNat (w64 (v8 + 1)))).take (subO (Int.toNat (((a6.map o50).length : Nat) : Int)) (Int.toNat (w64 (v8 + 1))))) = (l37.map o50), (((a6.map o50).drop (Int.toNat (w64 (v8 + 1)))).take (subO (Int.toNat (((a6.map o50).length : Nat) : Int)) (Int.toNat (w64 (v8 + 1))))).all (fun r => r.all AV.plain) = true, (List.length (l37.map o50)) * 40 ≤ 140737488355328, (List.length (l37.map o50)) ≤ 140737488355328, RenOK [(1006, 1), (1003, 2)] (l37.map o50), RenOK [(1006, 1), (1003, 2)] (l33.map o50)]) (by kernel_rfl) ⟨c31, (rd0 hx32), (rdL o50 hx32), (rdM o50 hx32), (appTD o50 hl33), (plD p50), (appB o50 hl33 (by decide)), (appC o50 hl33), (sl0 hl34), (sl1 hl34), (sl2 o50 hl34), (appTDS0 o50 hl35 hl34), (plD p50), (appB o50 hl35 (by decide)), (appC o50 hl35), (sl0 hl36), (sl1e o50 hl36), (Int.le_refl _), (appTDSe o50 hl37 hl36), (plD p50), (appB o50 hl37 (by decide)), (appC o50 hl37), (rok (treeM t50)), (rok (treeM t50)), trivial⟩ (hK0 l37 l33 _ h)
noncomputable def spec_l9Form_l0   : Nat → (List GEvent) → (List GEvent) → Option (List GEvent)
  | 0, _, _ => none
  | n + 1, a3, a4 =>
  if (decide ((a3.length : Int) > 0)) = true then
    spec_l9Form_l1 (spec_l9Form_l0 n) a3 FU a3 a4 (-1) 0
  else
    some a4
theorem spec_l9Form_l0_m {E : Env} (hP : E.P = Try.prog) (hn : E.n = 77) (hx : ∀ p, p ∈ E.fx → p.1 ∈ ([] : List Nat))   : ∀ (n : Nat) (a3 : (List GEvent)) (a4 : (List GEvent)) (r : (List GEvent)), spec_l9Form_l0  n a3 a4 = some r → WAt E body33 (FQ (RetE Θ Try.f33.results.toList [] [] (AV.own 50 5 (r.map o50)) E)) [true, true, true, false, false] ⟨[(3, (AV.sl 1 0 (List.length (a3.map o50)))), (4, (AV.sl 2 0 (List.length (a4.map o50))))], [(1, some ⟨50, 5, (a3.map o50)⟩), (2, some ⟨50, 5, (a4.map o50)⟩)], [1, 2, JJ]⟩ := by
  have hm : E.P.follows .mixedOrders = true := by rw [hP]; exact mixed
  have hΘ : TOK E.P Θ := by rw [hP]; exact Θ_ok
  intro n
  induction n with
  | zero => intro a3 a4 r h; simp only [spec_l9Form_l0] at h; cases h
  | succ n ih =>
    intro a3 a4 r h
    simp only [spec_l9Form_l0] at h
    rcases itS h with ⟨c5, h⟩ | ⟨c38, h⟩
    · exact go_to hΘ hm hx hP hn (hs := [⟨1, .no, some (I (a3.length : Int))⟩, ⟨3, .br true, none⟩, ⟨6, .no, some (I (a3.length : Int))⟩]) (π := [(1, 1), (2, 2)]) (ts := [3, 4, 5, 18, 19, 20]) (kp := []) (ps := [AV.lit (.int .i64 (((List.length (a3.map o50)) : Nat) : Int)) = (I (a3.length : Int)), (decide ((a3.length : Int) > 0)) = true, AV.lit (.int .i64 (((List.length (a3.map o50)) : Nat) : Int)) = (I (a3.length : Int)), RenOK [(1, 1), (2, 2)] (a3.map o50), RenOK [(1, 1), (2, 2)] (a4.map o50)]) (by kernel_rfl) ⟨(lenM o50), c5, (lenM o50), (rok (treeM t50)), (rok (treeM t50)), trivial⟩ (spec_l9Form_l1_m hP hn hx a3 ih FU a3 a4 (-1) 0 _ h)
    · have h := Option.some.inj h
      subst h
      exact go_ret hΘ hm hP hn (hs := [⟨1, .no, some (I (a3.length : Int))⟩, ⟨3, .br false, none⟩]) (rh := []) (ph := .own) (ps := [AV.lit (.int .i64 (((List.length (a3.map o50)) : Nat) : Int)) = (I (a3.length : Int)), (decide ((a3.length : Int) > 0)) = false, treeLL ((a4.map o50).take (List.length (a4.map o50))) = true, (a4.map o50).take (List.length (a4.map o50)) = (a4.map o50), noRoLL (a4.map o50) = true]) (by kernel_rfl) ⟨(lenM o50), c38, (treeT t50), takeM, (noRoM n50), trivial⟩
noncomputable def spec_l9Form (p1 : (List GEvent)) : Option (List GEvent) :=
  Option.bind (app [] p1) fun l2 =>
  spec_l9Form_l0 FU l2 []
theorem spec_l9Form_m {p1 : (List GEvent)} {r : (List GEvent)} (h : spec_l9Form p1 = some r) : Meets Try.prog 33 [(AV.ro 5 (p1.map o50))] (AV.own 50 5 (r.map o50)) := by
  refine meets_ofC Θ_ok Try.func33 rfl (c := body33) (by kernel_rfl) (Nat.le_of_ble_eq_true rfl) ?_
  intro E hP hn hx
  replace hn : E.n = 77 := hn
  have hm : E.P.follows .mixedOrders = true := by rw [hP]; exact mixed
  have hΘ : TOK E.P Θ := by rw [hP]; exact Θ_ok
  unfold spec_l9Form at h
  show WAt E body33 (FQ (RetE Θ Try.f33.results.toList [] [] (AV.own 50 5 (r.map o50)) E)) [] ⟨[(0, (AV.ro 5 (p1.map o50)))], [], [JJ]⟩
  obtain ⟨l2, hl2, h⟩ := bnS h
  exact go_to hΘ hm hx hP hn (hs := [⟨1, .new 1001, none⟩, ⟨3, .app 1002 (l2.map o50), none⟩, ⟨6, .nil 4 1003 50 5, none⟩]) (π := [(1002, 1), (1003, 2)]) (ts := [3, 4]) (kp := []) (ps := [([].map o50).take (List.length ([].map o50)) ++ (p1.map o50) = (l2.map o50), (p1.map o50).all (fun r => r.all AV.plain) = true, (List.length (l2.map o50)) * 40 ≤ 140737488355328, (List.length (l2.map o50)) ≤ 140737488355328, RenOK [(1002, 1), (1003, 2)] (l2.map o50), RenOK [(1002, 1), (1003, 2)] ([].map o50)]) (by kernel_rfl) ⟨(appT o50 hl2), (plM p50), (appB o50 hl2 (by decide)), (appC o50 hl2), (rok (treeM t50)), (rok (treeM t50)), trivial⟩ (spec_l9Form_l0_m hP hn hx FU l2 [] _ h)
noncomputable def body14 : Code := match Try.f14.body with | some c => c | none => .skip
noncomputable def spec_SameBut (p1 : (List GEvent)) (p2 : (List GEvent)) : Option (Bool × Bool) :=
  Option.bind (spec_l6Trace p1) fun r3 =>
  if (!r3) = true then
    some (false, false)
  else
    Option.bind (spec_l6Trace p2) fun r6 =>
    if (!r6) = true then
      some (false, false)
    else
      Option.bind (spec_l9Form p1) fun r9 =>
      Option.bind (spec_l9Form p2) fun r10 =>
      Option.bind (spec_l4SameEvents r9 r10) fun r11 =>
      some (r11, true)
theorem spec_SameBut_m {p1 : (List GEvent)} {p2 : (List GEvent)} {r : (Bool × Bool)} (h : spec_SameBut p1 p2 = some r) : Meets Try.prog 14 [(AV.ro 5 (p1.map o50)), (AV.ro 5 (p2.map o50))] (AV.tup [(B r.1), (B r.2)]) := by
  refine meets_ofC Θ_ok Try.func14 rfl (c := body14) (by kernel_rfl) (Nat.le_of_ble_eq_true rfl) ?_
  intro E hP hn hx
  replace hn : E.n = 19 := hn
  have hm : E.P.follows .mixedOrders = true := by rw [hP]; exact mixed
  have hΘ : TOK E.P Θ := by rw [hP]; exact Θ_ok
  unfold spec_SameBut at h
  show WAt E body14 (FQ (RetE Θ Try.f14.results.toList [] [] (AV.tup [(B r.1), (B r.2)]) E)) [] ⟨[(0, (AV.ro 5 (p1.map o50))), (1, (AV.ro 5 (p2.map o50)))], [], [JJ]⟩
  obtain ⟨r3, hr3, h⟩ := bnS h
  rcases itS h with ⟨c4, h⟩ | ⟨c5, h⟩
  · have h := Option.some.inj h
    subst h
    exact go_ret hΘ hm hP hn (hs := [⟨3, .callV [] (B r3), none⟩, ⟨5, .no, some (B true)⟩]) (rh := []) (ph := .agg [.raw, .raw]) (ps := [Meets Try.prog 31 [(AV.ro 5 (p1.map o50))] (B r3), litA (B r3) = true, (B (!r3)) = (B true), (B false) = (B false), litA (B false) = true, (B false) = (B false), litA (B false) = true]) (by kernel_rfl) ⟨(spec_l6Trace_m hr3), rfl, (litB c4), rfl, rfl, rfl, rfl, trivial⟩
  · obtain ⟨r6, hr6, h⟩ := bnS h
    rcases itS h with ⟨c7, h⟩ | ⟨c8, h⟩
    · have h := Option.some.inj h
      subst h
      exact go_ret hΘ hm hP hn (hs := [⟨3, .callV [] (B r3), none⟩, ⟨5, .no, some (B false)⟩, ⟨7, .callV [] (B r6), none⟩, ⟨10, .br true, none⟩]) (rh := []) (ph := .agg [.raw, .raw]) (ps := [Meets Try.prog 31 [(AV.ro 5 (p1.map o50))] (B r3), litA (B r3) = true, (B (!r3)) = (B false), Meets Try.prog 31 [(AV.ro 5 (p2.map o50))] (B r6), litA (B r6) = true, (!r6) = true, (B false) = (B false), litA (B false) = true, (B false) = (B false), litA (B false) = true]) (by kernel_rfl) ⟨(spec_l6Trace_m hr3), rfl, (litB c5), (spec_l6Trace_m hr6), rfl, c7, rfl, rfl, rfl, rfl, trivial⟩
    · obtain ⟨r9, hr9, h⟩ := bnS h
      obtain ⟨r10, hr10, h⟩ := bnS h
      obtain ⟨r11, hr11, h⟩ := bnS h
      have h := Option.some.inj h
      subst h
      exact go_ret hΘ hm hP hn (hs := [⟨3, .callV [] (B r3), none⟩, ⟨5, .no, some (B false)⟩, ⟨7, .callV [] (B r6), none⟩, ⟨10, .br false, none⟩, ⟨12, .call [] (AV.own 50 5 (r9.map o50)) [1001], none⟩, ⟨14, .call [] (AV.own 50 5 (r10.map o50)) [1002], none⟩, ⟨15, .callV [(r9.map o50), (r10.map o50)] (B r11), none⟩]) (rh := []) (ph := .agg [.raw, .raw]) (ps := [Meets Try.prog 31 [(AV.ro 5 (p1.map o50))] (B r3), litA (B r3) = true, (B (!r3)) = (B false), Meets Try.prog 31 [(AV.ro 5 (p2.map o50))] (B r6), litA (B r6) = true, (!r6) = false, Meets Try.prog 33 [(AV.ro 5 (p1.map o50))] (AV.own 50 5 (r9.map o50)), noRo (AV.own 50 5 (r9.map o50)) = true, Meets Try.prog 33 [(AV.ro 5 (p2.map o50))] (AV.own 50 5 (r10.map o50)), noRo (AV.own 50 5 (r10.map o50)) = true, Meets Try.prog 32 [(AV.ro 5 (r9.map o50)), (AV.ro 5 (r10.map o50))] (B r11), litA (B r11) = true, Frz (((r9.map o50).drop 0).take (List.length (r9.map o50))) (r9.map o50), Frz (((r10.map o50).drop 0).take (List.length (r10.map o50))) (r10.map o50), (B r11) = (B r11), litA (B r11) = true, (B true) = (B true), litA (B true) = true]) (by kernel_rfl) ⟨(spec_l6Trace_m hr3), rfl, (litB c5), (spec_l6Trace_m hr6), rfl, c8, (spec_l9Form_m hr9), (by simp only [noRo, noRoL, noRoM n50, Bool.and_self]), (spec_l9Form_m hr10), (by simp only [noRo, noRoL, noRoM n50, Bool.and_self]), (spec_l4SameEvents_m hr11), rfl, (frzF t50 z50), (frzF t50 z50), rfl, rfl, rfl, rfl, trivial⟩
noncomputable def body4 : Code := match Try.f4.body with | some c => c | none => .skip
noncomputable def laws_FnExactSameBut_j0  (p1 : (List GEvent)) (p2 : (List GEvent)) (r12 : (List GEvent)) (r13 : (List GEvent))  : Option Bool :=
  Option.bind (laws_toEventS p1) fun r19 =>
  Option.bind (laws_eqEventS r12 r19) fun r20 =>
  if (!r20) = true then
    some false
  else
    Option.bind (laws_toEventS p2) fun r23 =>
    Option.bind (laws_eqEventS r13 r23) fun r24 =>
    if (!r24) = true then
      some false
    else
      some true
theorem laws_FnExactSameBut_j0_m {E : Env} (hP : E.P = Try.prog) (hn : E.n = 58) (hx : ∀ p, p ∈ E.fx → p.1 ∈ ([] : List Nat)) (p1 : (List GEvent)) (p2 : (List GEvent)) (r12 : (List GEvent)) (r13 : (List GEvent))   (r : Bool) (h : laws_FnExactSameBut_j0 p1 p2 r12 r13  = some r) : WAt E body4 (FQ (RetE Θ Try.f4.results.toList [] [] (B r) E)) [true, true, true, true, true, true, true, true, true, true, false, true, true] ⟨[(0, (AV.ro 5 (p1.map o52))), (1, (AV.ro 5 (p2.map o52))), (8, (AV.sl 1 0 (List.length (r12.map o50)))), (9, (AV.sl 2 0 (List.length (r13.map o50))))], [(1, some ⟨50, 5, (r12.map o50)⟩), (2, some ⟨50, 5, (r13.map o50)⟩)], [1, 2, JJ]⟩ := by
  have hm : E.P.follows .mixedOrders = true := by rw [hP]; exact mixed
  have hΘ : TOK E.P Θ := by rw [hP]; exact Θ_ok
  unfold laws_FnExactSameBut_j0 at h
  obtain ⟨r19, hr19, h⟩ := bnS h
  obtain ⟨r20, hr20, h⟩ := bnS h
  rcases itS h with ⟨c21, h⟩ | ⟨c22, h⟩
  · have h := Option.some.inj h
    subst h
    exact go_ret hΘ hm hP hn (hs := [⟨2, .call [] (AV.own 50 5 (r19.map o50)) [1001], none⟩, ⟨3, .callV [(r12.map o50), (r19.map o50)] (B r20), none⟩, ⟨5, .br true, none⟩]) (rh := []) (ph := .raw) (ps := [Meets Try.prog 11 [(AV.ro 5 (p1.map o52))] (AV.own 50 5 (r19.map o50)), noRo (AV.own 50 5 (r19.map o50)) = true, Meets Try.prog 13 [(AV.ro 5 (r12.map o50)), (AV.ro 5 (r19.map o50))] (B r20), litA (B r20) = true, Frz (((r12.map o50).drop 0).take (List.length (r12.map o50))) (r12.map o50), Frz (((r19.map o50).drop 0).take (List.length (r19.map o50))) (r19.map o50), (!r20) = true, (B false) = (B false), litA (B false) = true]) (by kernel_rfl) ⟨(laws_toEventS_m hr19), (by simp only [noRo, noRoL, noRoM n50, Bool.and_self]), (laws_eqEventS_m hr20), rfl, (frzF t50 z50), (frzF t50 z50), c21, rfl, rfl, trivial⟩
  · obtain ⟨r23, hr23, h⟩ := bnS h
    obtain ⟨r24, hr24, h⟩ := bnS h
    rcases itS h with ⟨c25, h⟩ | ⟨c26, h⟩
    · have h := Option.some.inj h
      subst h
      exact go_ret hΘ hm hP hn (hs := [⟨2, .call [] (AV.own 50 5 (r19.map o50)) [1001], none⟩, ⟨3, .callV [(r12.map o50), (r19.map o50)] (B r20), none⟩, ⟨5, .br false, none⟩, ⟨8, .call [] (AV.own 50 5 (r23.map o50)) [1002], none⟩, ⟨9, .callV [(r13.map o50), (r23.map o50)] (B r24), none⟩, ⟨11, .br true, none⟩]) (rh := []) (ph := .raw) (ps := [Meets Try.prog 11 [(AV.ro 5 (p1.map o52))] (AV.own 50 5 (r19.map o50)), noRo (AV.own 50 5 (r19.map o50)) = true, Meets Try.prog 13 [(AV.ro 5 (r12.map o50)), (AV.ro 5 (r19.map o50))] (B r20), litA (B r20) = true, Frz (((r12.map o50).drop 0).take (List.length (r12.map o50))) (r12.map o50), Frz (((r19.map o50).drop 0).take (List.length (r19.map o50))) (r19.map o50), (!r20) = false, Meets Try.prog 11 [(AV.ro 5 (p2.map o52))] (AV.own 50 5 (r23.map o50)), noRo (AV.own 50 5 (r23.map o50)) = true, Meets Try.prog 13 [(AV.ro 5 (r13.map o50)), (AV.ro 5 (r23.map o50))] (B r24), litA (B r24) = true, Frz (((r13.map o50).drop 0).take (List.length (r13.map o50))) (r13.map o50), Frz (((r23.map o50).drop 0).take (List.length (r23.map o50))) (r23.map o50), (!r24) = true, (B false) = (B false), litA (B false) = true]) (by kernel_rfl) ⟨(laws_toEventS_m hr19), (by simp only [noRo, noRoL, noRoM n50, Bool.and_self]), (laws_eqEventS_m hr20), rfl, (frzF t50 z50), (frzF t50 z50), c22, (laws_toEventS_m hr23), (by simp only [noRo, noRoL, noRoM n50, Bool.and_self]), (laws_eqEventS_m hr24), rfl, (frzF t50 z50), (frzF t50 z50), c25, rfl, rfl, trivial⟩
    · have h := Option.some.inj h
      subst h
      exact go_ret hΘ hm hP hn (hs := [⟨2, .call [] (AV.own 50 5 (r19.map o50)) [1001], none⟩, ⟨3, .callV [(r12.map o50), (r19.map o50)] (B r20), none⟩, ⟨5, .br false, none⟩, ⟨8, .call [] (AV.own 50 5 (r23.map o50)) [1002], none⟩, ⟨9, .callV [(r13.map o50), (r23.map o50)] (B r24), none⟩, ⟨11, .br false, none⟩]) (rh := []) (ph := .raw) (ps := [Meets Try.prog 11 [(AV.ro 5 (p1.map o52))] (AV.own 50 5 (r19.map o50)), noRo (AV.own 50 5 (r19.map o50)) = true, Meets Try.prog 13 [(AV.ro 5 (r12.map o50)), (AV.ro 5 (r19.map o50))] (B r20), litA (B r20) = true, Frz (((r12.map o50).drop 0).take (List.length (r12.map o50))) (r12.map o50), Frz (((r19.map o50).drop 0).take (List.length (r19.map o50))) (r19.map o50), (!r20) = false, Meets Try.prog 11 [(AV.ro 5 (p2.map o52))] (AV.own 50 5 (r23.map o50)), noRo (AV.own 50 5 (r23.map o50)) = true, Meets Try.prog 13 [(AV.ro 5 (r13.map o50)), (AV.ro 5 (r23.map o50))] (B r24), litA (B r24) = true, Frz (((r13.map o50).drop 0).take (List.length (r13.map o50))) (r13.map o50), Frz (((r23.map o50).drop 0).take (List.length (r23.map o50))) (r23.map o50), (!r24) = false, (B true) = (B true), litA (B true) = true]) (by kernel_rfl) ⟨(laws_toEventS_m hr19), (by simp only [noRo, noRoL, noRoM n50, Bool.and_self]), (laws_eqEventS_m hr20), rfl, (frzF t50 z50), (frzF t50 z50), c22, (laws_toEventS_m hr23), (by simp only [noRo, noRoL, noRoM n50, Bool.and_self]), (laws_eqEventS_m hr24), rfl, (frzF t50 z50), (frzF t50 z50), c26, rfl, rfl, trivial⟩
noncomputable def laws_FnExactSameBut (p1 : (List GEvent)) (p2 : (List GEvent)) : Option Bool :=
  Option.bind (laws_szEventS p1 1048576) fun r3 =>
  if (decide (r3 < 0)) = true then
    some true
  else
    Option.bind (laws_szEventS p2 r3) fun r6 =>
    if (decide (r6 < 0)) = true then
      some true
    else
      Option.bind (laws_toEventS p1) fun r9 =>
      Option.bind (laws_toEventS p2) fun r10 =>
      Option.bind (spec_SameBut r9 r10) fun r11 =>
      Option.bind (laws_toEventS p1) fun r12 =>
      Option.bind (laws_toEventS p2) fun r13 =>
      Option.bind (impl_SameBut r12 r13) fun r14 =>
      if (!(r14.1 == r11.1)) = true then
        some false
      else
        if (!(r14.2 == r11.2)) = true then
          some false
        else
          laws_FnExactSameBut_j0 p1 p2 r12 r13
theorem laws_FnExactSameBut_m {p1 : (List GEvent)} {p2 : (List GEvent)} {r : Bool} (h : laws_FnExactSameBut p1 p2 = some r) : Meets Try.prog 4 [(AV.ro 5 (p1.map o52)), (AV.ro 5 (p2.map o52))] (B r) := by
  refine meets_ofC Θ_ok Try.func4 rfl (c := body4) (by kernel_rfl) (Nat.le_of_ble_eq_true rfl) ?_
  intro E hP hn hx
  replace hn : E.n = 58 := hn
  have hm : E.P.follows .mixedOrders = true := by rw [hP]; exact mixed
  have hΘ : TOK E.P Θ := by rw [hP]; exact Θ_ok
  unfold laws_FnExactSameBut at h
  show WAt E body4 (FQ (RetE Θ Try.f4.results.toList [] [] (B r) E)) [] ⟨[(0, (AV.ro 5 (p1.map o52))), (1, (AV.ro 5 (p2.map o52)))], [], [JJ]⟩
  obtain ⟨r3, hr3, h⟩ := bnS h
  rcases itS h with ⟨c4, h⟩ | ⟨c5, h⟩
  · have h := Option.some.inj h
    subst h
    exact go_ret hΘ hm hP hn (hs := [⟨4, .callV [] (I r3), none⟩, ⟨8, .br true, none⟩]) (rh := []) (ph := .raw) (ps := [Meets Try.prog 9 [(AV.ro 5 (p1.map o52)), (I 1048576)] (I r3), litA (I r3) = true, (decide (r3 < 0)) = true, (B true) = (B true), litA (B true) = true]) (by kernel_rfl) ⟨(laws_szEventS_m hr3), rfl, c4, rfl, rfl, trivial⟩
  · obtain ⟨r6, hr6, h⟩ := bnS h
    rcases itS h with ⟨c7, h⟩ | ⟨c8, h⟩
    · have h := Option.some.inj h
      subst h
      exact go_ret hΘ hm hP hn (hs := [⟨4, .callV [] (I r3), none⟩, ⟨8, .br false, none⟩, ⟨11, .callV [] (I r6), none⟩, ⟨15, .br true, none⟩]) (rh := []) (ph := .raw) (ps := [Meets Try.prog 9 [(AV.ro 5 (p1.map o52)), (I 1048576)] (I r3), litA (I r3) = true, (decide (r3 < 0)) = false, Meets Try.prog 9 [(AV.ro 5 (p2.map o52)), (I r3)] (I r6), litA (I r6) = true, (decide (r6 < 0)) = true, (B true) = (B true), litA (B true) = true]) (by kernel_rfl) ⟨(laws_szEventS_m hr3), rfl, c5, (laws_szEventS_m hr6), rfl, c7, rfl, rfl, trivial⟩
    · obtain ⟨r9, hr9, h⟩ := bnS h
      obtain ⟨r10, hr10, h⟩ := bnS h
      obtain ⟨r11, hr11, h⟩ := bnS h
      obtain ⟨r12, hr12, h⟩ := bnS h
      obtain ⟨r13, hr13, h⟩ := bnS h
      obtain ⟨r14, hr14, h⟩ := bnS h
      rcases itS h with ⟨c15, h⟩ | ⟨c16, h⟩
      · have h := Option.some.inj h
        subst h
        exact go_ret hΘ hm hP hn (hs := [⟨4, .callV [] (I r3), none⟩, ⟨8, .br false, none⟩, ⟨11, .callV [] (I r6), none⟩, ⟨15, .br false, none⟩, ⟨17, .call [] (AV.own 50 5 (r9.map o50)) [1001], none⟩, ⟨19, .call [] (AV.own 50 5 (r10.map o50)) [1002], none⟩, ⟨20, .callV [(r9.map o50), (r10.map o50)] (AV.tup [(B r11.1), (B r11.2)]), none⟩, ⟨27, .call [] (AV.own 50 5 (r12.map o50)) [1003], none⟩, ⟨30, .call [] (AV.own 50 5 (r13.map o50)) [1004], none⟩, ⟨34, .callV [(r12.map o50), (r13.map o50)] (AV.tup [(B r14.1), (B r14.2)]), none⟩, ⟨43, .no, some (B true)⟩]) (rh := []) (ph := .raw) (ps := [Meets Try.prog 9 [(AV.ro 5 (p1.map o52)), (I 1048576)] (I r3), litA (I r3) = true, (decide (r3 < 0)) = false, Meets Try.prog 9 [(AV.ro 5 (p2.map o52)), (I r3)] (I r6), litA (I r6) = true, (decide (r6 < 0)) = false, Meets Try.prog 11 [(AV.ro 5 (p1.map o52))] (AV.own 50 5 (r9.map o50)), noRo (AV.own 50 5 (r9.map o50)) = true, Meets Try.prog 11 [(AV.ro 5 (p2.map o52))] (AV.own 50 5 (r10.map o50)), noRo (AV.own 50 5 (r10.map o50)) = true, Meets Try.prog 14 [(AV.ro 5 (r9.map o50)), (AV.ro 5 (r10.map o50))] (AV.tup [(B r11.1), (B r11.2)]), litA (AV.tup [(B r11.1), (B r11.2)]) = true, Frz (((r9.map o50).drop 0).take (List.length (r9.map o50))) (r9.map o50), Frz (((r10.map o50).drop 0).take (List.length (r10.map o50))) (r10.map o50), Meets Try.prog 11 [(AV.ro 5 (p1.map o52))] (AV.own 50 5 (r12.map o50)), noRo (AV.own 50 5 (r12.map o50)) = true, Meets Try.prog 11 [(AV.ro 5 (p2.map o52))] (AV.own 50 5 (r13.map o50)), noRo (AV.own 50 5 (r13.map o50)) = true, Meets Try.prog 15 [(AV.ro 5 (r12.map o50)), (AV.ro 5 (r13.map o50))] (AV.tup [(B r14.1), (B r14.2)]), litA (AV.tup [(B r14.1), (B r14.2)]) = true, Frz (((r12.map o50).drop 0).take (List.length (r12.map o50))) (r12.map o50), Frz (((r13.map o50).drop 0).take (List.length (r13.map o50))) (r13.map o50), (B (!(r14.1 == r11.1))) = (B true), (B false) = (B false), litA (B false) = true]) (by kernel_rfl) ⟨(laws_szEventS_m hr3), rfl, c5, (laws_szEventS_m hr6), rfl, c8, (laws_toEventS_m hr9), (by simp only [noRo, noRoL, noRoM n50, Bool.and_self]), (laws_toEventS_m hr10), (by simp only [noRo, noRoL, noRoM n50, Bool.and_self]), (spec_SameBut_m hr11), rfl, (frzF t50 z50), (frzF t50 z50), (laws_toEventS_m hr12), (by simp only [noRo, noRoL, noRoM n50, Bool.and_self]), (laws_toEventS_m hr13), (by simp only [noRo, noRoL, noRoM n50, Bool.and_self]), (impl_SameBut_m hr14), rfl, (frzF t50 z50), (frzF t50 z50), (litB c15), rfl, rfl, trivial⟩
      · rcases itS h with ⟨c17, h⟩ | ⟨c18, h⟩
        · have h := Option.some.inj h
          subst h
          exact go_ret hΘ hm hP hn (hs := [⟨4, .callV [] (I r3), none⟩, ⟨8, .br false, none⟩, ⟨11, .callV [] (I r6), none⟩, ⟨15, .br false, none⟩, ⟨17, .call [] (AV.own 50 5 (r9.map o50)) [1001], none⟩, ⟨19, .call [] (AV.own 50 5 (r10.map o50)) [1002], none⟩, ⟨20, .callV [(r9.map o50), (r10.map o50)] (AV.tup [(B r11.1), (B r11.2)]), none⟩, ⟨27, .call [] (AV.own 50 5 (r12.map o50)) [1003], none⟩, ⟨30, .call [] (AV.own 50 5 (r13.map o50)) [1004], none⟩, ⟨34, .callV [(r12.map o50), (r13.map o50)] (AV.tup [(B r14.1), (B r14.2)]), none⟩, ⟨43, .no, some (B false)⟩, ⟨48, .br true, none⟩]) (rh := []) (ph := .raw) (ps := [Meets Try.prog 9 [(AV.ro 5 (p1.map o52)), (I 1048576)] (I r3), litA (I r3) = true, (decide (r3 < 0)) = false, Meets Try.prog 9 [(AV.ro 5 (p2.map o52)), (I r3)] (I r6), litA (I r6) = true, (decide (r6 < 0)) = false, Meets Try.prog 11 [(AV.ro 5 (p1.map o52))] (AV.own 50 5 (r9.map o50)), noRo (AV.own 50 5 (r9.map o50)) = true, Meets Try.prog 11 [(AV.ro 5 (p2.map o52))] (AV.own 50 5 (r10.map o50)), noRo (AV.own 50 5 (r10.map o50)) = true, Meets Try.prog 14 [(AV.ro 5 (r9.map o50)), (AV.ro 5 (r10.map o50))] (AV.tup [(B r11.1), (B r11.2)]), litA (AV.tup [(B r11.1), (B r11.2)]) = true, Frz (((r9.map o50).drop 0).take (List.length (r9.map o50))) (r9.map o50), Frz (((r10.map o50).drop 0).take (List.length (r10.map o50))) (r10.map o50), Meets Try.prog 11 [(AV.ro 5 (p1.map o52))] (AV.own 50 5 (r12.map o50)), noRo (AV.own 50 5 (r12.map o50)) = true, Meets Try.prog 11 [(AV.ro 5 (p2.map o52))] (AV.own 50 5 (r13.map o50)), noRo (AV.own 50 5 (r13.map o50)) = true, Meets Try.prog 15 [(AV.ro 5 (r12.map o50)), (AV.ro 5 (r13.map o50))] (AV.tup [(B r14.1), (B r14.2)]), litA (AV.tup [(B r14.1), (B r14.2)]) = true, Frz (((r12.map o50).drop 0).take (List.length (r12.map o50))) (r12.map o50), Frz (((r13.map o50).drop 0).take (List.length (r13.map o50))) (r13.map o50), (B (!(r14.1 == r11.1))) = (B false), (!(r14.2 == r11.2)) = true, (B false) = (B false), litA (B false) = true]) (by kernel_rfl) ⟨(laws_szEventS_m hr3), rfl, c5, (laws_szEventS_m hr6), rfl, c8, (laws_toEventS_m hr9), (by simp only [noRo, noRoL, noRoM n50, Bool.and_self]), (laws_toEventS_m hr10), (by simp only [noRo, noRoL, noRoM n50, Bool.and_self]), (spec_SameBut_m hr11), rfl, (frzF t50 z50), (frzF t50 z50), (laws_toEventS_m hr12), (by simp only [noRo, noRoL, noRoM n50, Bool.and_self]), (laws_toEventS_m hr13), (by simp only [noRo, noRoL, noRoM n50, Bool.and_self]), (impl_SameBut_m hr14), rfl, (frzF t50 z50), (frzF t50 z50), (litB c16), c17, rfl, rfl, trivial⟩
        · exact go_to hΘ hm hx hP hn (hs := [⟨4, .callV [] (I r3), none⟩, ⟨8, .br false, none⟩, ⟨11, .callV [] (I r6), none⟩, ⟨15, .br false, none⟩, ⟨17, .call [] (AV.own 50 5 (r9.map o50)) [1001], none⟩, ⟨19, .call [] (AV.own 50 5 (r10.map o50)) [1002], none⟩, ⟨20, .callV [(r9.map o50), (r10.map o50)] (AV.tup [(B r11.1), (B r11.2)]), none⟩, ⟨27, .call [] (AV.own 50 5 (r12.map o50)) [1003], none⟩, ⟨30, .call [] (AV.own 50 5 (r13.map o50)) [1004], none⟩, ⟨34, .callV [(r12.map o50), (r13.map o50)] (AV.tup [(B r14.1), (B r14.2)]), none⟩, ⟨43, .no, some (B false)⟩, ⟨48, .br false, none⟩]) (π := [(1003, 1), (1004, 2)]) (ts := [0, 1, 8, 9]) (kp := []) (ps := [Meets Try.prog 9 [(AV.ro 5 (p1.map o52)), (I 1048576)] (I r3), litA (I r3) = true, (decide (r3 < 0)) = false, Meets Try.prog 9 [(AV.ro 5 (p2.map o52)), (I r3)] (I r6), litA (I r6) = true, (decide (r6 < 0)) = false, Meets Try.prog 11 [(AV.ro 5 (p1.map o52))] (AV.own 50 5 (r9.map o50)), noRo (AV.own 50 5 (r9.map o50)) = true, Meets Try.prog 11 [(AV.ro 5 (p2.map o52))] (AV.own 50 5 (r10.map o50)), noRo (AV.own 50 5 (r10.map o50)) = true, Meets Try.prog 14 [(AV.ro 5 (r9.map o50)), (AV.ro 5 (r10.map o50))] (AV.tup [(B r11.1), (B r11.2)]), litA (AV.tup [(B r11.1), (B r11.2)]) = true, Frz (((r9.map o50).drop 0).take (List.length (r9.map o50))) (r9.map o50), Frz (((r10.map o50).drop 0).take (List.length (r10.map o50))) (r10.map o50), Meets Try.prog 11 [(AV.ro 5 (p1.map o52))] (AV.own 50 5 (r12.map o50)), noRo (AV.own 50 5 (r12.map o50)) = true, Meets Try.prog 11 [(AV.ro 5 (p2.map o52))] (AV.own 50 5 (r13.map o50)), noRo (AV.own 50 5 (r13.map o50)) = true, Meets Try.prog 15 [(AV.ro 5 (r12.map o50)), (AV.ro 5 (r13.map o50))] (AV.tup [(B r14.1), (B r14.2)]), litA (AV.tup [(B r14.1), (B r14.2)]) = true, Frz (((r12.map o50).drop 0).take (List.length (r12.map o50))) (r12.map o50), Frz (((r13.map o50).drop 0).take (List.length (r13.map o50))) (r13.map o50), (B (!(r14.1 == r11.1))) = (B false), (!(r14.2 == r11.2)) = false, RenOK [(1003, 1), (1004, 2)] (r12.map o50), RenOK [(1003, 1), (1004, 2)] (r13.map o50)]) (by kernel_rfl) ⟨(laws_szEventS_m hr3), rfl, c5, (laws_szEventS_m hr6), rfl, c8, (laws_toEventS_m hr9), (by simp only [noRo, noRoL, noRoM n50, Bool.and_self]), (laws_toEventS_m hr10), (by simp only [noRo, noRoL, noRoM n50, Bool.and_self]), (spec_SameBut_m hr11), rfl, (frzF t50 z50), (frzF t50 z50), (laws_toEventS_m hr12), (by simp only [noRo, noRoL, noRoM n50, Bool.and_self]), (laws_toEventS_m hr13), (by simp only [noRo, noRoL, noRoM n50, Bool.and_self]), (impl_SameBut_m hr14), rfl, (frzF t50 z50), (frzF t50 z50), (litB c16), c18, (rok (treeM t50)), (rok (treeM t50)), trivial⟩ (laws_FnExactSameBut_j0_m hP hn hx p1 p2 r12 r13  _ h)
end Go.Proofs.Ytfanhncmpbncpaa
