/- Functions as plain data, and that the code comes to them; no condition. -/

import Derived.Test.YtfanhncmpbncpaaGT
set_option linter.unusedVariables false
set_option maxRecDepth 100000
namespace Go.Proofs.Ytfanhncmpbncpaa
open Go Go.T
noncomputable def body67 : Code := match Try.f67.body with | some c => c | none => .skip
noncomputable def impl_in (p1 : Int) (p2 : Int) (p3 : Int) : Option Bool :=
  if (decide (p2 ≤ p1)) = true then
    some (decide (p1 ≤ p3))
  else
    some false
theorem impl_in_m {p1 : Int} {p2 : Int} {p3 : Int} {r : Bool} (h : impl_in p1 p2 p3 = some r) : Meets Try.prog 67 [(I p1), (I p2), (I p3)] (B r) := by
  refine meets_ofC Θ_ok Try.func67 rfl (c := body67) (by kernel_rfl) (Nat.le_of_ble_eq_true rfl) ?_
  intro E hP hn hx
  replace hn : E.n = 15 := hn
  have hm : E.P.follows .mixedOrders = true := by rw [hP]; exact mixed
  have hΘ : TOK E.P Θ := by rw [hP]; exact Θ_ok
  unfold impl_in at h
  show WAt E body67 (FQ (RetE Θ Try.f67.results.toList [] [] (B r) E)) [] ⟨[(0, (I p1)), (1, (I p2)), (2, (I p3))], [], [JJ]⟩
  rcases itS h with ⟨c4, h⟩ | ⟨c5, h⟩
  · have h := Option.some.inj h
    subst h
    exact go_ret hΘ hm hP hn (hs := [⟨4, .no, some (B true)⟩]) (rh := []) (ph := .raw) (ps := [(B (decide (p2 ≤ p1))) = (B true), (B (decide (p1 ≤ p3))) = (B (decide (p1 ≤ p3))), litA (B (decide (p1 ≤ p3))) = true]) (by kernel_rfl) ⟨(litB c4), rfl, rfl, trivial⟩
  · have h := Option.some.inj h
    subst h
    exact go_ret hΘ hm hP hn (hs := [⟨4, .no, some (B false)⟩]) (rh := []) (ph := .raw) (ps := [(B (decide (p2 ≤ p1))) = (B false), (B false) = (B false), litA (B false) = true]) (by kernel_rfl) ⟨(litB c5), rfl, rfl, trivial⟩
noncomputable def body59 : Code := match Try.f59.body with | some c => c | none => .skip
noncomputable def impl_Event_isGood_j0  (p1 : GEvent)  : Option Bool :=
  if (decide (p1.Obj ≥ 0)) = true then
    if (decide (p1.Lock ≥ 0)) = true then
      some true
    else
      if (p1.Kind != 8) = true then
        some (p1.Kind != 9)
      else
        some false
  else
    Option.bind (impl_in p1.Kind 2 10) fun r23 =>
    if (!r23) = true then
      if (decide (p1.Lock ≥ 0)) = true then
        some true
      else
        if (p1.Kind != 8) = true then
          some (p1.Kind != 9)
        else
          some false
    else
      some false
theorem impl_Event_isGood_j0_m {E : Env} (hP : E.P = Try.prog) (hn : E.n = 55) (hx : ∀ p, p ∈ E.fx → p.1 ∈ ([] : List Nat)) (p1 : GEvent)   (r : Bool) (h : impl_Event_isGood_j0 p1  = some r) : WAt E body59 (FQ (RetE Θ Try.f59.results.toList [] [] (B r) E)) [true, false, true, true] ⟨[(1, (AV.ptr 1 0 0))], [(1, some ⟨50, 5, [((o50 p1))]⟩)], [1, JJ]⟩ := by
  have hm : E.P.follows .mixedOrders = true := by rw [hP]; exact mixed
  have hΘ : TOK E.P Θ := by rw [hP]; exact Θ_ok
  unfold impl_Event_isGood_j0 at h
  rcases itS h with ⟨c17, h⟩ | ⟨c22, h⟩
  · rcases itS h with ⟨c18, h⟩ | ⟨c19, h⟩
    · have h := Option.some.inj h
      subst h
      exact go_ret hΘ hm hP hn (hs := [⟨3, .no, some (B true)⟩, ⟨13, .no, some (B true)⟩]) (rh := []) (ph := .raw) (ps := [(B (decide (p1.Obj ≥ 0))) = (B true), (B (decide (p1.Lock ≥ 0))) = (B true), (B true) = (B true), litA (B true) = true]) (by kernel_rfl) ⟨(litB c17), (litB c18), rfl, rfl, trivial⟩
    · rcases itS h with ⟨c20, h⟩ | ⟨c21, h⟩
      · have h := Option.some.inj h
        subst h
        exact go_ret hΘ hm hP hn (hs := [⟨3, .no, some (B true)⟩, ⟨13, .no, some (B false)⟩, ⟨17, .no, some (B true)⟩]) (rh := []) (ph := .raw) (ps := [(B (decide (p1.Obj ≥ 0))) = (B true), (B (decide (p1.Lock ≥ 0))) = (B false), (B (p1.Kind != 8)) = (B true), (B (p1.Kind != 9)) = (B (p1.Kind != 9)), litA (B (p1.Kind != 9)) = true]) (by kernel_rfl) ⟨(litB c17), (litB c19), (litB c20), rfl, rfl, trivial⟩
      · have h := Option.some.inj h
        subst h
        exact go_ret hΘ hm hP hn (hs := [⟨3, .no, some (B true)⟩, ⟨13, .no, some (B false)⟩, ⟨17, .no, some (B false)⟩]) (rh := []) (ph := .raw) (ps := [(B (decide (p1.Obj ≥ 0))) = (B true), (B (decide (p1.Lock ≥ 0))) = (B false), (B (p1.Kind != 8)) = (B false), (B false) = (B false), litA (B false) = true]) (by kernel_rfl) ⟨(litB c17), (litB c19), (litB c21), rfl, rfl, trivial⟩
  · obtain ⟨r23, hr23, h⟩ := bnS h
    rcases itS h with ⟨c24, h⟩ | ⟨c29, h⟩
    · rcases itS h with ⟨c25, h⟩ | ⟨c26, h⟩
      · have h := Option.some.inj h
        subst h
        exact go_ret hΘ hm hP hn (hs := [⟨3, .no, some (B false)⟩, ⟨6, .callV [] (B r23), none⟩, ⟨9, .no, some (B true)⟩, ⟨13, .no, some (B true)⟩]) (rh := []) (ph := .raw) (ps := [(B (decide (p1.Obj ≥ 0))) = (B false), Meets Try.prog 67 [(I p1.Kind), (I 2), (I 10)] (B r23), litA (B r23) = true, (B (!r23)) = (B true), (B (decide (p1.Lock ≥ 0))) = (B true), (B true) = (B true), litA (B true) = true]) (by kernel_rfl) ⟨(litB c22), (impl_in_m hr23), rfl, (litB c24), (litB c25), rfl, rfl, trivial⟩
      · rcases itS h with ⟨c27, h⟩ | ⟨c28, h⟩
        · have h := Option.some.inj h
          subst h
          exact go_ret hΘ hm hP hn (hs := [⟨3, .no, some (B false)⟩, ⟨6, .callV [] (B r23), none⟩, ⟨9, .no, some (B true)⟩, ⟨13, .no, some (B false)⟩, ⟨17, .no, some (B true)⟩]) (rh := []) (ph := .raw) (ps := [(B (decide (p1.Obj ≥ 0))) = (B false), Meets Try.prog 67 [(I p1.Kind), (I 2), (I 10)] (B r23), litA (B r23) = true, (B (!r23)) = (B true), (B (decide (p1.Lock ≥ 0))) = (B false), (B (p1.Kind != 8)) = (B true), (B (p1.Kind != 9)) = (B (p1.Kind != 9)), litA (B (p1.Kind != 9)) = true]) (by kernel_rfl) ⟨(litB c22), (impl_in_m hr23), rfl, (litB c24), (litB c26), (litB c27), rfl, rfl, trivial⟩
        · have h := Option.some.inj h
          subst h
          exact go_ret hΘ hm hP hn (hs := [⟨3, .no, some (B false)⟩, ⟨6, .callV [] (B r23), none⟩, ⟨9, .no, some (B true)⟩, ⟨13, .no, some (B false)⟩, ⟨17, .no, some (B false)⟩]) (rh := []) (ph := .raw) (ps := [(B (decide (p1.Obj ≥ 0))) = (B false), Meets Try.prog 67 [(I p1.Kind), (I 2), (I 10)] (B r23), litA (B r23) = true, (B (!r23)) = (B true), (B (decide (p1.Lock ≥ 0))) = (B false), (B (p1.Kind != 8)) = (B false), (B false) = (B false), litA (B false) = true]) (by kernel_rfl) ⟨(litB c22), (impl_in_m hr23), rfl, (litB c24), (litB c26), (litB c28), rfl, rfl, trivial⟩
    · have h := Option.some.inj h
      subst h
      exact go_ret hΘ hm hP hn (hs := [⟨3, .no, some (B false)⟩, ⟨6, .callV [] (B r23), none⟩, ⟨9, .no, some (B false)⟩]) (rh := []) (ph := .raw) (ps := [(B (decide (p1.Obj ≥ 0))) = (B false), Meets Try.prog 67 [(I p1.Kind), (I 2), (I 10)] (B r23), litA (B r23) = true, (B (!r23)) = (B false), (B false) = (B false), litA (B false) = true]) (by kernel_rfl) ⟨(litB c22), (impl_in_m hr23), rfl, (litB c29), rfl, rfl, trivial⟩
noncomputable def impl_Event_isGood (p1 : GEvent) : Option Bool :=
  Option.bind (impl_in p1.Thread 0 4) fun r2 =>
  if (!r2) = true then
    some false
  else
    Option.bind (impl_in p1.Kind 1 12) fun r5 =>
    if (!r5) = true then
      some false
    else
      Option.bind (impl_in p1.Obj (-1) 99) fun r8 =>
      if (!r8) = true then
        some false
      else
        Option.bind (impl_in p1.Lock (-1) 99) fun r11 =>
        if (!r11) = true then
          some false
        else
          Option.bind (impl_in p1.Pc 0 99) fun r14 =>
          if (!r14) = true then
            some false
          else
            impl_Event_isGood_j0 p1
theorem impl_Event_isGood_m {p1 : GEvent} {r : Bool} (h : impl_Event_isGood p1 = some r) : Meets Try.prog 59 [(AV.agg ((o50 p1)))] (B r) := by
  refine meets_ofC Θ_ok Try.func59 rfl (c := body59) (by kernel_rfl) (Nat.le_of_ble_eq_true rfl) ?_
  intro E hP hn hx
  replace hn : E.n = 55 := hn
  have hm : E.P.follows .mixedOrders = true := by rw [hP]; exact mixed
  have hΘ : TOK E.P Θ := by rw [hP]; exact Θ_ok
  unfold impl_Event_isGood at h
  show WAt E body59 (FQ (RetE Θ Try.f59.results.toList [] [] (B r) E)) [] ⟨[(0, (AV.agg ((o50 p1))))], [], [JJ]⟩
  obtain ⟨r2, hr2, h⟩ := bnS h
  rcases itS h with ⟨c3, h⟩ | ⟨c4, h⟩
  · have h := Option.some.inj h
    subst h
    exact go_ret hΘ hm hP hn (hs := [⟨0, .new 1001, none⟩, ⟨4, .callV [] (B r2), none⟩, ⟨6, .no, some (B true)⟩]) (rh := []) (ph := .raw) (ps := [Meets Try.prog 67 [(I p1.Thread), (I 0), (I 4)] (B r2), litA (B r2) = true, (B (!r2)) = (B true), (B false) = (B false), litA (B false) = true]) (by kernel_rfl) ⟨(impl_in_m hr2), rfl, (litB c3), rfl, rfl, trivial⟩
  · obtain ⟨r5, hr5, h⟩ := bnS h
    rcases itS h with ⟨c6, h⟩ | ⟨c7, h⟩
    · have h := Option.some.inj h
      subst h
      exact go_ret hΘ hm hP hn (hs := [⟨0, .new 1001, none⟩, ⟨4, .callV [] (B r2), none⟩, ⟨6, .no, some (B false)⟩, ⟨9, .callV [] (B r5), none⟩, ⟨12, .no, some (B true)⟩]) (rh := []) (ph := .raw) (ps := [Meets Try.prog 67 [(I p1.Thread), (I 0), (I 4)] (B r2), litA (B r2) = true, (B (!r2)) = (B false), Meets Try.prog 67 [(I p1.Kind), (I 1), (I 12)] (B r5), litA (B r5) = true, (B (!r5)) = (B true), (B false) = (B false), litA (B false) = true]) (by kernel_rfl) ⟨(impl_in_m hr2), rfl, (litB c4), (impl_in_m hr5), rfl, (litB c6), rfl, rfl, trivial⟩
    · obtain ⟨r8, hr8, h⟩ := bnS h
      rcases itS h with ⟨c9, h⟩ | ⟨c10, h⟩
      · have h := Option.some.inj h
        subst h
        exact go_ret hΘ hm hP hn (hs := [⟨0, .new 1001, none⟩, ⟨4, .callV [] (B r2), none⟩, ⟨6, .no, some (B false)⟩, ⟨9, .callV [] (B r5), none⟩, ⟨12, .no, some (B false)⟩, ⟨15, .callV [] (B r8), none⟩, ⟨18, .no, some (B true)⟩]) (rh := []) (ph := .raw) (ps := [Meets Try.prog 67 [(I p1.Thread), (I 0), (I 4)] (B r2), litA (B r2) = true, (B (!r2)) = (B false), Meets Try.prog 67 [(I p1.Kind), (I 1), (I 12)] (B r5), litA (B r5) = true, (B (!r5)) = (B false), Meets Try.prog 67 [(I p1.Obj), (I (-1)), (I 99)] (B r8), litA (B r8) = true, (B (!r8)) = (B true), (B false) = (B false), litA (B false) = true]) (by kernel_rfl) ⟨(impl_in_m hr2), rfl, (litB c4), (impl_in_m hr5), rfl, (litB c7), (impl_in_m hr8), rfl, (litB c9), rfl, rfl, trivial⟩
      · obtain ⟨r11, hr11, h⟩ := bnS h
        rcases itS h with ⟨c12, h⟩ | ⟨c13, h⟩
        · have h := Option.some.inj h
          subst h
          exact go_ret hΘ hm hP hn (hs := [⟨0, .new 1001, none⟩, ⟨4, .callV [] (B r2), none⟩, ⟨6, .no, some (B false)⟩, ⟨9, .callV [] (B r5), none⟩, ⟨12, .no, some (B false)⟩, ⟨15, .callV [] (B r8), none⟩, ⟨18, .no, some (B false)⟩, ⟨21, .callV [] (B r11), none⟩, ⟨24, .no, some (B true)⟩]) (rh := []) (ph := .raw) (ps := [Meets Try.prog 67 [(I p1.Thread), (I 0), (I 4)] (B r2), litA (B r2) = true, (B (!r2)) = (B false), Meets Try.prog 67 [(I p1.Kind), (I 1), (I 12)] (B r5), litA (B r5) = true, (B (!r5)) = (B false), Meets Try.prog 67 [(I p1.Obj), (I (-1)), (I 99)] (B r8), litA (B r8) = true, (B (!r8)) = (B false), Meets Try.prog 67 [(I p1.Lock), (I (-1)), (I 99)] (B r11), litA (B r11) = true, (B (!r11)) = (B true), (B false) = (B false), litA (B false) = true]) (by kernel_rfl) ⟨(impl_in_m hr2), rfl, (litB c4), (impl_in_m hr5), rfl, (litB c7), (impl_in_m hr8), rfl, (litB c10), (impl_in_m hr11), rfl, (litB c12), rfl, rfl, trivial⟩
        · obtain ⟨r14, hr14, h⟩ := bnS h
          rcases itS h with ⟨c15, h⟩ | ⟨c16, h⟩
          · have h := Option.some.inj h
            subst h
            exact go_ret hΘ hm hP hn (hs := [⟨0, .new 1001, none⟩, ⟨4, .callV [] (B r2), none⟩, ⟨6, .no, some (B false)⟩, ⟨9, .callV [] (B r5), none⟩, ⟨12, .no, some (B false)⟩, ⟨15, .callV [] (B r8), none⟩, ⟨18, .no, some (B false)⟩, ⟨21, .callV [] (B r11), none⟩, ⟨24, .no, some (B false)⟩, ⟨27, .callV [] (B r14), none⟩, ⟨30, .br true, none⟩]) (rh := []) (ph := .raw) (ps := [Meets Try.prog 67 [(I p1.Thread), (I 0), (I 4)] (B r2), litA (B r2) = true, (B (!r2)) = (B false), Meets Try.prog 67 [(I p1.Kind), (I 1), (I 12)] (B r5), litA (B r5) = true, (B (!r5)) = (B false), Meets Try.prog 67 [(I p1.Obj), (I (-1)), (I 99)] (B r8), litA (B r8) = true, (B (!r8)) = (B false), Meets Try.prog 67 [(I p1.Lock), (I (-1)), (I 99)] (B r11), litA (B r11) = true, (B (!r11)) = (B false), Meets Try.prog 67 [(I p1.Pc), (I 0), (I 99)] (B r14), litA (B r14) = true, (!r14) = true, (B false) = (B false), litA (B false) = true]) (by kernel_rfl) ⟨(impl_in_m hr2), rfl, (litB c4), (impl_in_m hr5), rfl, (litB c7), (impl_in_m hr8), rfl, (litB c10), (impl_in_m hr11), rfl, (litB c13), (impl_in_m hr14), rfl, c15, rfl, rfl, trivial⟩
          · exact go_to hΘ hm hx hP hn (hs := [⟨0, .new 1001, none⟩, ⟨4, .callV [] (B r2), none⟩, ⟨6, .no, some (B false)⟩, ⟨9, .callV [] (B r5), none⟩, ⟨12, .no, some (B false)⟩, ⟨15, .callV [] (B r8), none⟩, ⟨18, .no, some (B false)⟩, ⟨21, .callV [] (B r11), none⟩, ⟨24, .no, some (B false)⟩, ⟨27, .callV [] (B r14), none⟩, ⟨30, .br false, none⟩]) (π := [(1001, 1)]) (ts := [1]) (kp := []) (ps := [Meets Try.prog 67 [(I p1.Thread), (I 0), (I 4)] (B r2), litA (B r2) = true, (B (!r2)) = (B false), Meets Try.prog 67 [(I p1.Kind), (I 1), (I 12)] (B r5), litA (B r5) = true, (B (!r5)) = (B false), Meets Try.prog 67 [(I p1.Obj), (I (-1)), (I 99)] (B r8), litA (B r8) = true, (B (!r8)) = (B false), Meets Try.prog 67 [(I p1.Lock), (I (-1)), (I 99)] (B r11), litA (B r11) = true, (B (!r11)) = (B false), Meets Try.prog 67 [(I p1.Pc), (I 0), (I 99)] (B r14), litA (B r14) = true, (!r14) = false, RenOK [(1001, 1)] [((o50 p1))]]) (by kernel_rfl) ⟨(impl_in_m hr2), rfl, (litB c4), (impl_in_m hr5), rfl, (litB c7), (impl_in_m hr8), rfl, (litB c10), (impl_in_m hr11), rfl, (litB c13), (impl_in_m hr14), rfl, c16, (rok rfl), trivial⟩ (impl_Event_isGood_j0_m hP hn hx p1  _ h)
noncomputable def body58 : Code := match Try.f58.body with | some c => c | none => .skip
noncomputable def impl_GoodTrace_1 (p1 : GEvent) : Option Bool :=
  Option.bind (impl_Event_isGood p1) fun r2 =>
  some (!r2)
theorem impl_GoodTrace_1_m {p1 : GEvent} {r : Bool} (h : impl_GoodTrace_1 p1 = some r) : Meets Try.prog 58 [(AV.agg ((o50 p1)))] (B r) := by
  refine meets_ofC Θ_ok Try.func58 rfl (c := body58) (by kernel_rfl) (Nat.le_of_ble_eq_true rfl) ?_
  intro E hP hn hx
  replace hn : E.n = 6 := hn
  have hm : E.P.follows .mixedOrders = true := by rw [hP]; exact mixed
  have hΘ : TOK E.P Θ := by rw [hP]; exact Θ_ok
  unfold impl_GoodTrace_1 at h
  show WAt E body58 (FQ (RetE Θ Try.f58.results.toList [] [] (B r) E)) [] ⟨[(0, (AV.agg ((o50 p1))))], [], [JJ]⟩
  obtain ⟨r2, hr2, h⟩ := bnS h
  have h := Option.some.inj h
  subst h
  exact go_ret hΘ hm hP hn (hs := [⟨0, .new 1001, none⟩, ⟨3, .callV [[]] (B r2), none⟩]) (rh := []) (ph := .raw) (ps := [Meets Try.prog 59 [(AV.agg ((o50 p1)))] (B r2), litA (B r2) = true, (B (!r2)) = (B (!r2)), litA (B (!r2)) = true]) (by kernel_rfl) ⟨(impl_Event_isGood_m hr2), rfl, rfl, rfl, trivial⟩
noncomputable def body76 : Code := match Try.f76.body with | some c => c | none => .skip
noncomputable def slices_IndexFunc_Event_Event__impl_GoodTrace_1_l0  (p1 : (List GEvent)) : Nat → Int → Option Int
  | 0, _ => none
  | n + 1, v2 =>
  if (decide (v2 < (p1.length : Int))) = true then
    Option.bind (rd p1 v2) fun x4 =>
    Option.bind (impl_GoodTrace_1 x4) fun r5 =>
    if r5 = true then
      some v2
    else
      slices_IndexFunc_Event_Event__impl_GoodTrace_1_l0 p1 n (w64 (v2 + 1))
  else
    some (-1)
theorem slices_IndexFunc_Event_Event__impl_GoodTrace_1_l0_m {E : Env} (hP : E.P = Try.prog) (hn : E.n = 19) (hx : ∀ p, p ∈ E.fx → p.1 ∈ ([] : List Nat)) (p1 : (List GEvent))  : ∀ (n : Nat) (v2 : Int) (r : Int), slices_IndexFunc_Event_Event__impl_GoodTrace_1_l0 p1 n v2 = some r → WAt E body76 (FQ (RetE Θ Try.f76.results.toList [] [] (I r) E)) [true, false, true, false] ⟨[(0, (AV.ro 5 (p1.map o50))), (1, (AV.fn 58 [])), (7, (I (p1.length : Int))), (8, (I v2))], [], [JJ]⟩ := by
  have hm : E.P.follows .mixedOrders = true := by rw [hP]; exact mixed
  have hΘ : TOK E.P Θ := by rw [hP]; exact Θ_ok
  intro n
  induction n with
  | zero => intro v2 r h; simp only [slices_IndexFunc_Event_Event__impl_GoodTrace_1_l0] at h; cases h
  | succ n ih =>
    intro v2 r h
    simp only [slices_IndexFunc_Event_Event__impl_GoodTrace_1_l0] at h
    rcases itS h with ⟨c3, h⟩ | ⟨c8, h⟩
    · obtain ⟨x4, hx4, h⟩ := bnS h
      obtain ⟨r5, hr5, h⟩ := bnS h
      rcases itS h with ⟨c6, h⟩ | ⟨c7, h⟩
      · have h := Option.some.inj h
        subst h
        exact go_ret hΘ hm hP hn (hs := [⟨1, .br true, none⟩, ⟨7, .row (o50 x4), none⟩, ⟨9, .callV [[]] (B r5), none⟩, ⟨10, .br true, none⟩]) (rh := []) (ph := .raw) (ps := [(decide (v2 < (p1.length : Int))) = true, (0 : Int) ≤ v2, (p1.map o50)[(Int.toNat v2)]? = some (o50 x4), Meets Try.prog 58 [(AV.agg ((o50 x4)))] (B r5), litA (B r5) = true, r5 = true, (I v2) = (I v2), litA (I v2) = true]) (by kernel_rfl) ⟨c3, (rd0 hx4), (rdM o50 hx4), (impl_GoodTrace_1_m hr5), rfl, c6, rfl, rfl, trivial⟩
      · exact go_to hΘ hm hx hP hn (hs := [⟨1, .br true, none⟩, ⟨7, .row (o50 x4), none⟩, ⟨9, .callV [[]] (B r5), none⟩, ⟨10, .br false, none⟩]) (π := []) (ts := [0, 1, 7, 8]) (kp := []) (ps := [(decide (v2 < (p1.length : Int))) = true, (0 : Int) ≤ v2, (p1.map o50)[(Int.toNat v2)]? = some (o50 x4), Meets Try.prog 58 [(AV.agg ((o50 x4)))] (B r5), litA (B r5) = true, r5 = false]) (by kernel_rfl) ⟨c3, (rd0 hx4), (rdM o50 hx4), (impl_GoodTrace_1_m hr5), rfl, c7, trivial⟩ (ih (w64 (v2 + 1)) _ h)
    · have h := Option.some.inj h
      subst h
      exact go_ret hΘ hm hP hn (hs := [⟨1, .br false, none⟩]) (rh := []) (ph := .raw) (ps := [(decide (v2 < (p1.length : Int))) = false, (I (-1)) = (I (-1)), litA (I (-1)) = true]) (by kernel_rfl) ⟨c8, rfl, rfl, trivial⟩
noncomputable def slices_IndexFunc_Event_Event__impl_GoodTrace_1 (p1 : (List GEvent)) : Option Int :=
  slices_IndexFunc_Event_Event__impl_GoodTrace_1_l0 p1 FU 0
theorem slices_IndexFunc_Event_Event__impl_GoodTrace_1_m {p1 : (List GEvent)} {r : Int} (h : slices_IndexFunc_Event_Event__impl_GoodTrace_1 p1 = some r) : Meets Try.prog 76 [(AV.ro 5 (p1.map o50)), (AV.fn 58 [])] (I r) := by
  refine meets_ofC Θ_ok Try.func76 rfl (c := body76) (by kernel_rfl) (Nat.le_of_ble_eq_true rfl) ?_
  intro E hP hn hx
  replace hn : E.n = 19 := hn
  have hm : E.P.follows .mixedOrders = true := by rw [hP]; exact mixed
  have hΘ : TOK E.P Θ := by rw [hP]; exact Θ_ok
  unfold slices_IndexFunc_Event_Event__impl_GoodTrace_1 at h
  show WAt E body76 (FQ (RetE Θ Try.f76.results.toList [] [] (I r) E)) [] ⟨[(0, (AV.ro 5 (p1.map o50))), (1, (AV.fn 58 []))], [], [JJ]⟩
  exact go_to hΘ hm hx hP hn (hs := [⟨2, .no, some (I (p1.length : Int))⟩]) (π := []) (ts := [0, 1, 7, 8]) (kp := []) (ps := [AV.lit (.int .i64 (((p1.map o50).length : Nat) : Int)) = (I (p1.length : Int))]) (by kernel_rfl) ⟨(lenM o50), trivial⟩ (slices_IndexFunc_Event_Event__impl_GoodTrace_1_l0_m hP hn hx p1 FU 0 _ h)
noncomputable def body57 : Code := match Try.f57.body with | some c => c | none => .skip
noncomputable def slices_ContainsFunc_Event_Event__impl_GoodTrace_1 (p1 : (List GEvent)) : Option Bool :=
  Option.bind (slices_IndexFunc_Event_Event__impl_GoodTrace_1 p1) fun r2 =>
  some (decide (r2 ≥ 0))
theorem slices_ContainsFunc_Event_Event__impl_GoodTrace_1_m {p1 : (List GEvent)} {r : Bool} (h : slices_ContainsFunc_Event_Event__impl_GoodTrace_1 p1 = some r) : Meets Try.prog 57 [(AV.ro 5 (p1.map o50)), (AV.fn 58 [])] (B r) := by
  refine meets_ofC Θ_ok Try.func57 rfl (c := body57) (by kernel_rfl) (Nat.le_of_ble_eq_true rfl) ?_
  intro E hP hn hx
  replace hn : E.n = 9 := hn
  have hm : E.P.follows .mixedOrders = true := by rw [hP]; exact mixed
  have hΘ : TOK E.P Θ := by rw [hP]; exact Θ_ok
  unfold slices_ContainsFunc_Event_Event__impl_GoodTrace_1 at h
  show WAt E body57 (FQ (RetE Θ Try.f57.results.toList [] [] (B r) E)) [] ⟨[(0, (AV.ro 5 (p1.map o50))), (1, (AV.fn 58 []))], [], [JJ]⟩
  obtain ⟨r2, hr2, h⟩ := bnS h
  have h := Option.some.inj h
  subst h
  exact go_ret hΘ hm hP hn (hs := [⟨3, .callV [] (I r2), none⟩]) (rh := []) (ph := .raw) (ps := [Meets Try.prog 76 [(AV.ro 5 (p1.map o50)), (AV.fn 58 [])] (I r2), litA (I r2) = true, (B (decide (r2 ≥ 0))) = (B (decide (r2 ≥ 0))), litA (B (decide (r2 ≥ 0))) = true]) (by kernel_rfl) ⟨(slices_IndexFunc_Event_Event__impl_GoodTrace_1_m hr2), rfl, rfl, rfl, trivial⟩
noncomputable def body35 : Code := match Try.f35.body with | some c => c | none => .skip
noncomputable def impl_GoodTrace (p1 : (List GEvent)) : Option Bool :=
  if (decide ((p1.length : Int) ≤ 200)) = true then
    Option.bind (slices_ContainsFunc_Event_Event__impl_GoodTrace_1 p1) fun r3 =>
    some (!r3)
  else
    some false
theorem impl_GoodTrace_m {p1 : (List GEvent)} {r : Bool} (h : impl_GoodTrace p1 = some r) : Meets Try.prog 35 [(AV.ro 5 (p1.map o50))] (B r) := by
  refine meets_ofC Θ_ok Try.func35 rfl (c := body35) (by kernel_rfl) (Nat.le_of_ble_eq_true rfl) ?_
  intro E hP hn hx
  replace hn : E.n = 11 := hn
  have hm : E.P.follows .mixedOrders = true := by rw [hP]; exact mixed
  have hΘ : TOK E.P Θ := by rw [hP]; exact Θ_ok
  unfold impl_GoodTrace at h
  show WAt E body35 (FQ (RetE Θ Try.f35.results.toList [] [] (B r) E)) [] ⟨[(0, (AV.ro 5 (p1.map o50)))], [], [JJ]⟩
  rcases itS h with ⟨c2, h⟩ | ⟨c4, h⟩
  · obtain ⟨r3, hr3, h⟩ := bnS h
    have h := Option.some.inj h
    subst h
    exact go_ret hΘ hm hP hn (hs := [⟨2, .no, some (I (p1.length : Int))⟩, ⟨4, .no, some (B true)⟩, ⟨6, .callV [] (B r3), none⟩]) (rh := []) (ph := .raw) (ps := [AV.lit (.int .i64 (((p1.map o50).length : Nat) : Int)) = (I (p1.length : Int)), (B (decide ((p1.length : Int) ≤ 200))) = (B true), Meets Try.prog 57 [(AV.ro 5 (p1.map o50)), (AV.fn 58 [])] (B r3), litA (B r3) = true, (B (!r3)) = (B (!r3)), litA (B (!r3)) = true]) (by kernel_rfl) ⟨(lenM o50), (litB c2), (slices_ContainsFunc_Event_Event__impl_GoodTrace_1_m hr3), rfl, rfl, rfl, trivial⟩
  · have h := Option.some.inj h
    subst h
    exact go_ret hΘ hm hP hn (hs := [⟨2, .no, some (I (p1.length : Int))⟩, ⟨4, .no, some (B false)⟩]) (rh := []) (ph := .raw) (ps := [AV.lit (.int .i64 (((p1.map o50).length : Nat) : Int)) = (I (p1.length : Int)), (B (decide ((p1.length : Int) ≤ 200))) = (B false), (B false) = (B false), litA (B false) = true]) (by kernel_rfl) ⟨(lenM o50), (litB c4), rfl, rfl, trivial⟩
noncomputable def body82 : Code := match Try.f82.body with | some c => c | none => .skip
noncomputable def impl_Event_gives (p1 : GEvent) : Option Int :=
  if (p1.Kind == 5) = true then
    some p1.Obj
  else
    if (p1.Kind == 8) = true then
      some p1.Lock
    else
      some (-1)
theorem impl_Event_gives_m {p1 : GEvent} {r : Int} (h : impl_Event_gives p1 = some r) : Meets Try.prog 82 [(AV.agg ((o50 p1)))] (I r) := by
  refine meets_ofC Θ_ok Try.func82 rfl (c := body82) (by kernel_rfl) (Nat.le_of_ble_eq_true rfl) ?_
  intro E hP hn hx
  replace hn : E.n = 13 := hn
  have hm : E.P.follows .mixedOrders = true := by rw [hP]; exact mixed
  have hΘ : TOK E.P Θ := by rw [hP]; exact Θ_ok
  unfold impl_Event_gives at h
  show WAt E body82 (FQ (RetE Θ Try.f82.results.toList [] [] (I r) E)) [] ⟨[(0, (AV.agg ((o50 p1))))], [], [JJ]⟩
  rcases itS h with ⟨c2, h⟩ | ⟨c3, h⟩
  · have h := Option.some.inj h
    subst h
    exact go_ret hΘ hm hP hn (hs := [⟨0, .new 1001, none⟩, ⟨6, .br true, none⟩]) (rh := []) (ph := .raw) (ps := [(p1.Kind == 5) = true, (I p1.Obj) = (I p1.Obj), litA (I p1.Obj) = true]) (by kernel_rfl) ⟨c2, rfl, rfl, trivial⟩
  · rcases itS h with ⟨c4, h⟩ | ⟨c5, h⟩
    · have h := Option.some.inj h
      subst h
      exact go_ret hΘ hm hP hn (hs := [⟨0, .new 1001, none⟩, ⟨6, .br false, none⟩, ⟨9, .br true, none⟩]) (rh := []) (ph := .raw) (ps := [(p1.Kind == 5) = false, (p1.Kind == 8) = true, (I p1.Lock) = (I p1.Lock), litA (I p1.Lock) = true]) (by kernel_rfl) ⟨c3, c4, rfl, rfl, trivial⟩
    · have h := Option.some.inj h
      subst h
      exact go_ret hΘ hm hP hn (hs := [⟨0, .new 1001, none⟩, ⟨6, .br false, none⟩, ⟨9, .br false, none⟩]) (rh := []) (ph := .raw) (ps := [(p1.Kind == 5) = false, (p1.Kind == 8) = false, (I (-1)) = (I (-1)), litA (I (-1)) = true]) (by kernel_rfl) ⟨c3, c5, rfl, rfl, trivial⟩
noncomputable def body83 : Code := match Try.f83.body with | some c => c | none => .skip
noncomputable def impl_Event_takes (p1 : GEvent) : Option Int :=
  if (p1.Kind == 4) = true then
    some p1.Obj
  else
    if (p1.Kind == 9) = true then
      some p1.Lock
    else
      some (-1)
theorem impl_Event_takes_m {p1 : GEvent} {r : Int} (h : impl_Event_takes p1 = some r) : Meets Try.prog 83 [(AV.agg ((o50 p1)))] (I r) := by
  refine meets_ofC Θ_ok Try.func83 rfl (c := body83) (by kernel_rfl) (Nat.le_of_ble_eq_true rfl) ?_
  intro E hP hn hx
  replace hn : E.n = 13 := hn
  have hm : E.P.follows .mixedOrders = true := by rw [hP]; exact mixed
  have hΘ : TOK E.P Θ := by rw [hP]; exact Θ_ok
  unfold impl_Event_takes at h
  show WAt E body83 (FQ (RetE Θ Try.f83.results.toList [] [] (I r) E)) [] ⟨[(0, (AV.agg ((o50 p1))))], [], [JJ]⟩
  rcases itS h with ⟨c2, h⟩ | ⟨c3, h⟩
  · have h := Option.some.inj h
    subst h
    exact go_ret hΘ hm hP hn (hs := [⟨0, .new 1001, none⟩, ⟨6, .br true, none⟩]) (rh := []) (ph := .raw) (ps := [(p1.Kind == 4) = true, (I p1.Obj) = (I p1.Obj), litA (I p1.Obj) = true]) (by kernel_rfl) ⟨c2, rfl, rfl, trivial⟩
  · rcases itS h with ⟨c4, h⟩ | ⟨c5, h⟩
    · have h := Option.some.inj h
      subst h
      exact go_ret hΘ hm hP hn (hs := [⟨0, .new 1001, none⟩, ⟨6, .br false, none⟩, ⟨9, .br true, none⟩]) (rh := []) (ph := .raw) (ps := [(p1.Kind == 4) = false, (p1.Kind == 9) = true, (I p1.Lock) = (I p1.Lock), litA (I p1.Lock) = true]) (by kernel_rfl) ⟨c3, c4, rfl, rfl, trivial⟩
    · have h := Option.some.inj h
      subst h
      exact go_ret hΘ hm hP hn (hs := [⟨0, .new 1001, none⟩, ⟨6, .br false, none⟩, ⟨9, .br false, none⟩]) (rh := []) (ph := .raw) (ps := [(p1.Kind == 4) = false, (p1.Kind == 9) = false, (I (-1)) = (I (-1)), litA (I (-1)) = true]) (by kernel_rfl) ⟨c3, c5, rfl, rfl, trivial⟩
noncomputable def body70 : Code := match Try.f70.body with | some c => c | none => .skip
noncomputable def impl_leads_j0  (p1 : GEvent) (p2 : GEvent)  : Option Bool :=
  if (p1.Kind == 6) = true then
    some (p1.Obj == p2.Thread)
  else
    if (p1.Kind == 11) = true then
      if (p2.Kind == 7) = true then
        some (p2.Obj == p1.Thread)
      else
        some false
    else
      if (p1.Kind == 10) = true then
        if (p2.Kind == 9) = true then
          some (p1.Lock == p2.Thread)
        else
          some false
      else
        some false
theorem impl_leads_j0_m {E : Env} (hP : E.P = Try.prog) (hn : E.n = 60) (hx : ∀ p, p ∈ E.fx → p.1 ∈ ([] : List Nat)) (p1 : GEvent) (p2 : GEvent)   (r : Bool) (h : impl_leads_j0 p1 p2  = some r) : WAt E body70 (FQ (RetE Θ Try.f70.results.toList [] [] (B r) E)) [true, false, false, true, true] ⟨[(2, (AV.ptr 1 0 0)), (3, (AV.ptr 2 0 0))], [(1, some ⟨50, 5, [((o50 p1))]⟩), (2, some ⟨50, 5, [((o50 p2))]⟩)], [1, 2, JJ]⟩ := by
  have hm : E.P.follows .mixedOrders = true := by rw [hP]; exact mixed
  have hΘ : TOK E.P Θ := by rw [hP]; exact Θ_ok
  unfold impl_leads_j0 at h
  rcases itS h with ⟨c11, h⟩ | ⟨c12, h⟩
  · have h := Option.some.inj h
    subst h
    exact go_ret hΘ hm hP hn (hs := [⟨4, .br true, none⟩]) (rh := []) (ph := .raw) (ps := [(p1.Kind == 6) = true, (B (p1.Obj == p2.Thread)) = (B (p1.Obj == p2.Thread)), litA (B (p1.Obj == p2.Thread)) = true]) (by kernel_rfl) ⟨c11, rfl, rfl, trivial⟩
  · rcases itS h with ⟨c13, h⟩ | ⟨c16, h⟩
    · rcases itS h with ⟨c14, h⟩ | ⟨c15, h⟩
      · have h := Option.some.inj h
        subst h
        exact go_ret hΘ hm hP hn (hs := [⟨4, .br false, none⟩, ⟨9, .br true, none⟩, ⟨13, .no, some (B true)⟩]) (rh := []) (ph := .raw) (ps := [(p1.Kind == 6) = false, (p1.Kind == 11) = true, (B (p2.Kind == 7)) = (B true), (B (p2.Obj == p1.Thread)) = (B (p2.Obj == p1.Thread)), litA (B (p2.Obj == p1.Thread)) = true]) (by kernel_rfl) ⟨c12, c13, (litB c14), rfl, rfl, trivial⟩
      · have h := Option.some.inj h
        subst h
        exact go_ret hΘ hm hP hn (hs := [⟨4, .br false, none⟩, ⟨9, .br true, none⟩, ⟨13, .no, some (B false)⟩]) (rh := []) (ph := .raw) (ps := [(p1.Kind == 6) = false, (p1.Kind == 11) = true, (B (p2.Kind == 7)) = (B false), (B false) = (B false), litA (B false) = true]) (by kernel_rfl) ⟨c12, c13, (litB c15), rfl, rfl, trivial⟩
    · rcases itS h with ⟨c17, h⟩ | ⟨c20, h⟩
      · rcases itS h with ⟨c18, h⟩ | ⟨c19, h⟩
        · have h := Option.some.inj h
          subst h
          exact go_ret hΘ hm hP hn (hs := [⟨4, .br false, none⟩, ⟨9, .br false, none⟩, ⟨14, .br true, none⟩, ⟨18, .no, some (B true)⟩]) (rh := []) (ph := .raw) (ps := [(p1.Kind == 6) = false, (p1.Kind == 11) = false, (p1.Kind == 10) = true, (B (p2.Kind == 9)) = (B true), (B (p1.Lock == p2.Thread)) = (B (p1.Lock == p2.Thread)), litA (B (p1.Lock == p2.Thread)) = true]) (by kernel_rfl) ⟨c12, c16, c17, (litB c18), rfl, rfl, trivial⟩
        · have h := Option.some.inj h
          subst h
          exact go_ret hΘ hm hP hn (hs := [⟨4, .br false, none⟩, ⟨9, .br false, none⟩, ⟨14, .br true, none⟩, ⟨18, .no, some (B false)⟩]) (rh := []) (ph := .raw) (ps := [(p1.Kind == 6) = false, (p1.Kind == 11) = false, (p1.Kind == 10) = true, (B (p2.Kind == 9)) = (B false), (B false) = (B false), litA (B false) = true]) (by kernel_rfl) ⟨c12, c16, c17, (litB c19), rfl, rfl, trivial⟩
      · have h := Option.some.inj h
        subst h
        exact go_ret hΘ hm hP hn (hs := [⟨4, .br false, none⟩, ⟨9, .br false, none⟩, ⟨14, .br false, none⟩]) (rh := []) (ph := .raw) (ps := [(p1.Kind == 6) = false, (p1.Kind == 11) = false, (p1.Kind == 10) = false, (B false) = (B false), litA (B false) = true]) (by kernel_rfl) ⟨c12, c16, c20, rfl, rfl, trivial⟩
noncomputable def impl_leads (p1 : GEvent) (p2 : GEvent) : Option Bool :=
  if (p1.Thread == p2.Thread) = true then
    some true
  else
    Option.bind (impl_Event_gives p1) fun r5 =>
    if (decide (r5 ≥ 0)) = true then
      Option.bind (impl_Event_gives p1) fun r7 =>
      Option.bind (impl_Event_takes p2) fun r8 =>
      if (r7 == r8) = true then
        some true
      else
        impl_leads_j0 p1 p2
    else
      impl_leads_j0 p1 p2
theorem impl_leads_m {p1 : GEvent} {p2 : GEvent} {r : Bool} (h : impl_leads p1 p2 = some r) : Meets Try.prog 70 [(AV.agg ((o50 p1))), (AV.agg ((o50 p2)))] (B r) := by
  refine meets_ofC Θ_ok Try.func70 rfl (c := body70) (by kernel_rfl) (Nat.le_of_ble_eq_true rfl) ?_
  intro E hP hn hx
  replace hn : E.n = 60 := hn
  have hm : E.P.follows .mixedOrders = true := by rw [hP]; exact mixed
  have hΘ : TOK E.P Θ := by rw [hP]; exact Θ_ok
  unfold impl_leads at h
  show WAt E body70 (FQ (RetE Θ Try.f70.results.toList [] [] (B r) E)) [] ⟨[(0, (AV.agg ((o50 p1)))), (1, (AV.agg ((o50 p2))))], [], [JJ]⟩
  rcases itS h with ⟨c3, h⟩ | ⟨c4, h⟩
  · have h := Option.some.inj h
    subst h
    exact go_ret hΘ hm hP hn (hs := [⟨0, .new 1001, none⟩, ⟨1, .new 1002, none⟩, ⟨8, .no, some (B true)⟩]) (rh := []) (ph := .raw) (ps := [(B (p1.Thread == p2.Thread)) = (B true), (B true) = (B true), litA (B true) = true]) (by kernel_rfl) ⟨(litB c3), rfl, rfl, trivial⟩
  · obtain ⟨r5, hr5, h⟩ := bnS h
    rcases itS h with ⟨c6, h⟩ | ⟨c21, h⟩
    · obtain ⟨r7, hr7, h⟩ := bnS h
      obtain ⟨r8, hr8, h⟩ := bnS h
      rcases itS h with ⟨c9, h⟩ | ⟨c10, h⟩
      · have h := Option.some.inj h
        subst h
        exact go_ret hΘ hm hP hn (hs := [⟨0, .new 1001, none⟩, ⟨1, .new 1002, none⟩, ⟨8, .no, some (B false)⟩, ⟨10, .callV [[]] (I r5), none⟩, ⟨12, .no, some (B true)⟩, ⟨14, .callV [[]] (I r7), none⟩, ⟨16, .callV [[]] (I r8), none⟩, ⟨21, .br true, none⟩]) (rh := []) (ph := .raw) (ps := [(B (p1.Thread == p2.Thread)) = (B false), Meets Try.prog 82 [(AV.agg ((o50 p1)))] (I r5), litA (I r5) = true, (B (decide (r5 ≥ 0))) = (B true), Meets Try.prog 82 [(AV.agg ((o50 p1)))] (I r7), litA (I r7) = true, Meets Try.prog 83 [(AV.agg ((o50 p2)))] (I r8), litA (I r8) = true, (r7 == r8) = true, (B true) = (B true), litA (B true) = true]) (by kernel_rfl) ⟨(litB c4), (impl_Event_gives_m hr5), rfl, (litB c6), (impl_Event_gives_m hr7), rfl, (impl_Event_takes_m hr8), rfl, c9, rfl, rfl, trivial⟩
      · exact go_to hΘ hm hx hP hn (hs := [⟨0, .new 1001, none⟩, ⟨1, .new 1002, none⟩, ⟨8, .no, some (B false)⟩, ⟨10, .callV [[]] (I r5), none⟩, ⟨12, .no, some (B true)⟩, ⟨14, .callV [[]] (I r7), none⟩, ⟨16, .callV [[]] (I r8), none⟩, ⟨21, .br false, none⟩]) (π := [(1001, 1), (1002, 2)]) (ts := [2, 3]) (kp := []) (ps := [(B (p1.Thread == p2.Thread)) = (B false), Meets Try.prog 82 [(AV.agg ((o50 p1)))] (I r5), litA (I r5) = true, (B (decide (r5 ≥ 0))) = (B true), Meets Try.prog 82 [(AV.agg ((o50 p1)))] (I r7), litA (I r7) = true, Meets Try.prog 83 [(AV.agg ((o50 p2)))] (I r8), litA (I r8) = true, (r7 == r8) = false, RenOK [(1001, 1), (1002, 2)] [((o50 p1))], RenOK [(1001, 1), (1002, 2)] [((o50 p2))]]) (by kernel_rfl) ⟨(litB c4), (impl_Event_gives_m hr5), rfl, (litB c6), (impl_Event_gives_m hr7), rfl, (impl_Event_takes_m hr8), rfl, c10, (rok rfl), (rok rfl), trivial⟩ (impl_leads_j0_m hP hn hx p1 p2  _ h)
    · exact go_to hΘ hm hx hP hn (hs := [⟨0, .new 1001, none⟩, ⟨1, .new 1002, none⟩, ⟨8, .no, some (B false)⟩, ⟨10, .callV [[]] (I r5), none⟩, ⟨12, .no, some (B false)⟩]) (π := [(1001, 1), (1002, 2)]) (ts := [2, 3]) (kp := []) (ps := [(B (p1.Thread == p2.Thread)) = (B false), Meets Try.prog 82 [(AV.agg ((o50 p1)))] (I r5), litA (I r5) = true, (B (decide (r5 ≥ 0))) = (B false), RenOK [(1001, 1), (1002, 2)] [((o50 p1))], RenOK [(1001, 1), (1002, 2)] [((o50 p2))]]) (by kernel_rfl) ⟨(litB c4), (impl_Event_gives_m hr5), rfl, (litB c21), (rok rfl), (rok rfl), trivial⟩ (impl_leads_j0_m hP hn hx p1 p2  _ h)
noncomputable def body72 : Code := match Try.f72.body with | some c => c | none => .skip
noncomputable def impl_places_joined_l0   : Nat → (Vector Int 4) → (Vector Int 4) → (Vector Int 4) → Int → Option (Vector Int 4)
  | 0, _, _, _, _ => none
  | n + 1, a3, a4, a5, v6 =>
  if (decide (v6 < 4)) = true then
    Option.bind (rdv a3 v6) fun x8 =>
    Option.bind (rdv a4 v6) fun x9 =>
    Option.bind (rdv a3 v6) fun x10 =>
    impl_places_joined_l0 n (a3.setIfInBounds (Int.toNat v6) (ior .u64 x8 x9)) a4 a5 (w64 (v6 + 1))
  else
    some a3
theorem impl_places_joined_l0_m {E : Env} (hP : E.P = Try.prog) (hn : E.n = 19) (hx : ∀ p, p ∈ E.fx → p.1 ∈ ([] : List Nat))   : ∀ (n : Nat) (a3 : (Vector Int 4)) (a4 : (Vector Int 4)) (a5 : (Vector Int 4)) (v6 : Int) (r : (Vector Int 4)), impl_places_joined_l0  n a3 a4 a5 v6 = some r → WAt E body72 (FQ (RetE Θ Try.f72.results.toList [] [] (AV.agg (o78 r)) E)) [true, false, true, false] ⟨[(2, (AV.ptr 1 0 0)), (3, (AV.ptr 2 0 0)), (4, (AV.ptr 3 0 0)), (6, (I v6))], [(1, some ⟨78, 4, [((o78 a3))]⟩), (2, some ⟨78, 4, [((o78 a4))]⟩), (3, some ⟨78, 4, [((o78 a5))]⟩)], [1, 2, 3, JJ]⟩ := by
  have hm : E.P.follows .mixedOrders = true := by rw [hP]; exact mixed
  have hΘ : TOK E.P Θ := by rw [hP]; exact Θ_ok
  intro n
  induction n with
  | zero => intro a3 a4 a5 v6 r h; simp only [impl_places_joined_l0] at h; cases h
  | succ n ih =>
    intro a3 a4 a5 v6 r h
    simp only [impl_places_joined_l0] at h
    rcases itS h with ⟨c7, h⟩ | ⟨c11, h⟩
    · obtain ⟨x8, hx8, h⟩ := bnS h
      obtain ⟨x9, hx9, h⟩ := bnS h
      obtain ⟨x10, hx10, h⟩ := bnS h
      exact go_to hΘ hm hx hP hn (hs := [⟨1, .br true, none⟩, ⟨6, .cel ((o78 a3)) (IK .u64 x8), none⟩, ⟨9, .cel ((o78 a4)) (IK .u64 x9), none⟩, ⟨12, .sto ((o78 a3)) [((o78 (a3.setIfInBounds (Int.toNat v6) (ior .u64 x8 x9))))], none⟩]) (π := [(1, 1), (2, 2), (3, 3)]) (ts := [2, 3, 4, 6]) (kp := []) (ps := [(decide (v6 < 4)) = true, (0 : Int) ≤ v6, v6 < ((4 : Nat) : Int), ((o78 a3))[(Int.toNat v6)]? = some (IK .u64 x8), [((o78 a3))][0]? = some ((o78 a3)), (0 : Int) ≤ v6, v6 < ((4 : Nat) : Int), ((o78 a4))[(Int.toNat v6)]? = some (IK .u64 x9), [((o78 a4))][0]? = some ((o78 a4)), (0 : Int) ≤ v6, v6 < ((4 : Nat) : Int), [((o78 a3))][0]? = some ((o78 a3)), [((o78 a3))].set 0 (wr ((o78 a3)) (Int.toNat v6) [(IK .u64 (ior .u64 x8 x9))]) = [((o78 (a3.setIfInBounds (Int.toNat v6) (ior .u64 x8 x9))))], [(IK .u64 (ior .u64 x8 x9))].length = 1, (Int.toNat v6) + [(IK .u64 (ior .u64 x8 x9))].length ≤ ((o78 a3)).length, RenOK [(1, 1), (2, 2), (3, 3)] [((o78 (a3.setIfInBounds (Int.toNat v6) (ior .u64 x8 x9))))], RenOK [(1, 1), (2, 2), (3, 3)] [((o78 a4))], RenOK [(1, 1), (2, 2), (3, 3)] [((o78 a5))]]) (by kernel_rfl) ⟨c7, (rv0 hx8), (rvL hx8), (rvM k76 hx8), rfl, (rv0 hx9), (rvL hx9), (rvM k76 hx9), rfl, (rv0 hx10), (rvL hx10), rfl, (vecWr k76 _ (rvLt hx10)), rfl, (vecLe k76 hx10), (rok (treeB t78 (a3.setIfInBounds (Int.toNat v6) (ior .u64 x8 x9)))), (rok (treeB t78 a4)), (rok (treeB t78 a5)), trivial⟩ (ih (a3.setIfInBounds (Int.toNat v6) (ior .u64 x8 x9)) a4 a5 (w64 (v6 + 1)) _ h)
    · have h := Option.some.inj h
      subst h
      exact go_ret hΘ hm hP hn (hs := [⟨1, .br false, none⟩, ⟨2, .agg ((o78 a3)) ((o78 a3)), none⟩, ⟨3, .stoS ((o78 a5)) [((o78 a3))], none⟩]) (rh := [.agg ((o78 a3)) ((o78 a3))]) (ph := .raw) (ps := [(decide (v6 < 4)) = false, 0 + 4 ≤ ((o78 a3)).length, (((o78 a3)).drop 0).take 4 = ((o78 a3)), ((o78 a3)).all AV.plain = true, [((o78 a3))][0]? = some ((o78 a3)), [((o78 a5))][0]? = some ((o78 a5)), [((o78 a5))].set 0 (wr ((o78 a5)) 0 ((o78 a3))) = [((o78 a3))], ((o78 a3)).length = 4, 0 + ((o78 a3)).length ≤ ((o78 a5)).length, ((o78 a3)).all okLit = true, 0 + 4 ≤ ((o78 a3)).length, (((o78 a3)).drop 0).take 4 = ((o78 a3)), ((o78 a3)).all AV.plain = true, [((o78 a3))][0]? = some ((o78 a3)), (AV.agg ((o78 a3))) = (AV.agg ((o78 a3))), litA (AV.agg ((o78 a3))) = true]) (by kernel_rfl) ⟨c11, (vecLe0 k76), (vecAgg k76), (p78 _), rfl, rfl, (vecSt k76 k76), (vecLen k76), (vecLL k76 k76), (vecAll k76 (fun _ => rfl)), (vecLe0 k76), (vecAgg k76), (p78 _), rfl, rfl, (vecLit k76 (fun _ => rfl)), trivial⟩
noncomputable def impl_places_joined (p1 : (Vector Int 4)) (p2 : (Vector Int 4)) : Option (Vector Int 4) :=
  impl_places_joined_l0 FU p1 p2 (Vector.replicate 4 0) 0
theorem impl_places_joined_m {p1 : (Vector Int 4)} {p2 : (Vector Int 4)} {r : (Vector Int 4)} (h : impl_places_joined p1 p2 = some r) : Meets Try.prog 72 [(AV.agg ((o78 p1))), (AV.agg ((o78 p2)))] (AV.agg (o78 r)) := by
  refine meets_ofC Θ_ok Try.func72 rfl (c := body72) (by kernel_rfl) (Nat.le_of_ble_eq_true rfl) ?_
  intro E hP hn hx
  replace hn : E.n = 19 := hn
  have hm : E.P.follows .mixedOrders = true := by rw [hP]; exact mixed
  have hΘ : TOK E.P Θ := by rw [hP]; exact Θ_ok
  unfold impl_places_joined at h
  show WAt E body72 (FQ (RetE Θ Try.f72.results.toList [] [] (AV.agg (o78 r)) E)) [] ⟨[(0, (AV.agg ((o78 p1)))), (1, (AV.agg ((o78 p2))))], [], [JJ]⟩
  exact go_to hΘ hm hx hP hn (hs := [⟨0, .nw 1001 [((o78 p1))], none⟩, ⟨1, .nw 1002 [((o78 p2))], none⟩, ⟨2, .nw 1003 [((o78 (Vector.replicate 4 0)))], none⟩]) (π := [(1001, 1), (1002, 2), (1003, 3)]) (ts := [2, 3, 4, 6]) (kp := []) (ps := [[((o78 p1))] = [((o78 p1))], ((o78 p1)).length = 4, ((o78 p1)).all okLit = true, 0 < ((o78 p1)).length, [((o78 p2))] = [((o78 p2))], ((o78 p2)).length = 4, ((o78 p2)).all okLit = true, 0 < ((o78 p2)).length, [litL [.int .u64 0, .int .u64 0, .int .u64 0, .int .u64 0]] = [((o78 (Vector.replicate 4 0)))], RenOK [(1001, 1), (1002, 2), (1003, 3)] [((o78 p1))], RenOK [(1001, 1), (1002, 2), (1003, 3)] [((o78 p2))], RenOK [(1001, 1), (1002, 2), (1003, 3)] [((o78 (Vector.replicate 4 0)))]]) (by kernel_rfl) ⟨rfl, (vecLen k76), (vecAll k76 (fun _ => rfl)), (vecPos k76 (by decide)), rfl, (vecLen k76), (vecAll k76 (fun _ => rfl)), (vecPos k76 (by decide)), rfl, (rok (treeB t78 p1)), (rok (treeB t78 p2)), (rok (treeB t78 (Vector.replicate 4 0))), trivial⟩ (impl_places_joined_l0_m hP hn hx FU p1 p2 (Vector.replicate 4 0) 0 _ h)
noncomputable def body71 : Code := match Try.f71.body with | some c => c | none => .skip
noncomputable def impl_places_with (p1 : (Vector Int 4)) (p2 : Int) : Option (Vector Int 4) :=
  Option.bind (rdv p1 (w64 (Int.tdiv p2 64))) fun x3 =>
  Option.bind (ge0 (Int.tmod p2 64)) fun q4 =>
  Option.bind (rdv p1 (w64 (Int.tdiv p2 64))) fun x5 =>
  some (p1.setIfInBounds (Int.toNat (w64 (Int.tdiv p2 64))) (ior .u64 x3 (IntKind.wrap .u64 (1 * 2 ^ (min (Int.toNat (Int.tmod p2 64)) 64)))))
theorem impl_places_with_m {p1 : (Vector Int 4)} {p2 : Int} {r : (Vector Int 4)} (h : impl_places_with p1 p2 = some r) : Meets Try.prog 71 [(AV.agg ((o78 p1))), (I p2)] (AV.agg (o78 r)) := by
  refine meets_ofC Θ_ok Try.func71 rfl (c := body71) (by kernel_rfl) (Nat.le_of_ble_eq_true rfl) ?_
  intro E hP hn hx
  replace hn : E.n = 15 := hn
  have hm : E.P.follows .mixedOrders = true := by rw [hP]; exact mixed
  have hΘ : TOK E.P Θ := by rw [hP]; exact Θ_ok
  unfold impl_places_with at h
  show WAt E body71 (FQ (RetE Θ Try.f71.results.toList [] [] (AV.agg (o78 r)) E)) [] ⟨[(0, (AV.agg ((o78 p1)))), (1, (I p2))], [], [JJ]⟩
  obtain ⟨x3, hx3, h⟩ := bnS h
  obtain ⟨q4, hq4, h⟩ := bnS h
  obtain ⟨x5, hx5, h⟩ := bnS h
  have h := Option.some.inj h
  subst h
  exact go_ret hΘ hm hP hn (hs := [⟨0, .nw 1001 [((o78 p1))], none⟩, ⟨1, .nw 1002 [((o78 (Vector.replicate 4 0)))], none⟩, ⟨5, .cel ((o78 p1)) (IK .u64 x3), none⟩, ⟨11, .sto ((o78 p1)) [((o78 (p1.setIfInBounds (Int.toNat (w64 (Int.tdiv p2 64))) (ior .u64 x3 (IntKind.wrap .u64 (1 * 2 ^ (min (Int.toNat (Int.tmod p2 64)) 64)))))))], none⟩, ⟨12, .agg ((o78 (p1.setIfInBounds (Int.toNat (w64 (Int.tdiv p2 64))) (ior .u64 x3 (IntKind.wrap .u64 (1 * 2 ^ (min (Int.toNat (Int.tmod p2 64)) 64))))))) ((o78 (p1.setIfInBounds (Int.toNat (w64 (Int.tdiv p2 64))) (ior .u64 x3 (IntKind.wrap .u64 (1 * 2 ^ (min (Int.toNat (Int.tmod p2 64)) 64))))))), none⟩, ⟨13, .stoS ((o78 (Vector.replicate 4 0))) [((o78 (p1.setIfInBounds (Int.toNat (w64 (Int.tdiv p2 64))) (ior .u64 x3 (IntKind.wrap .u64 (1 * 2 ^ (min (Int.toNat (Int.tmod p2 64)) 64)))))))], none⟩]) (rh := [.agg ((o78 (p1.setIfInBounds (Int.toNat (w64 (Int.tdiv p2 64))) (ior .u64 x3 (IntKind.wrap .u64 (1 * 2 ^ (min (Int.toNat (Int.tmod p2 64)) 64))))))) ((o78 (p1.setIfInBounds (Int.toNat (w64 (Int.tdiv p2 64))) (ior .u64 x3 (IntKind.wrap .u64 (1 * 2 ^ (min (Int.toNat (Int.tmod p2 64)) 64)))))))]) (ph := .raw) (ps := [[((o78 p1))] = [((o78 p1))], ((o78 p1)).length = 4, ((o78 p1)).all okLit = true, 0 < ((o78 p1)).length, [litL [.int .u64 0, .int .u64 0, .int .u64 0, .int .u64 0]] = [((o78 (Vector.replicate 4 0)))], 64 ≠ (0 : Int), (0 : Int) ≤ (w64 (Int.tdiv p2 64)), (w64 (Int.tdiv p2 64)) < ((4 : Nat) : Int), ((o78 p1))[(Int.toNat (w64 (Int.tdiv p2 64)))]? = some (IK .u64 x3), [((o78 p1))][0]? = some ((o78 p1)), 64 ≠ (0 : Int), ¬ (Int.tmod p2 64) < (0 : Int), (0 : Int) ≤ (w64 (Int.tdiv p2 64)), (w64 (Int.tdiv p2 64)) < ((4 : Nat) : Int), [((o78 p1))][0]? = some ((o78 p1)), [((o78 p1))].set 0 (wr ((o78 p1)) (Int.toNat (w64 (Int.tdiv p2 64))) [(IK .u64 (ior .u64 x3 (IntKind.wrap .u64 (1 * 2 ^ (min (Int.toNat (Int.tmod p2 64)) 64)))))]) = [((o78 (p1.setIfInBounds (Int.toNat (w64 (Int.tdiv p2 64))) (ior .u64 x3 (IntKind.wrap .u64 (1 * 2 ^ (min (Int.toNat (Int.tmod p2 64)) 64)))))))], [(IK .u64 (ior .u64 x3 (IntKind.wrap .u64 (1 * 2 ^ (min (Int.toNat (Int.tmod p2 64)) 64)))))].length = 1, (Int.toNat (w64 (Int.tdiv p2 64))) + [(IK .u64 (ior .u64 x3 (IntKind.wrap .u64 (1 * 2 ^ (min (Int.toNat (Int.tmod p2 64)) 64)))))].length ≤ ((o78 p1)).length, 0 + 4 ≤ ((o78 (p1.setIfInBounds (Int.toNat (w64 (Int.tdiv p2 64))) (ior .u64 x3 (IntKind.wrap .u64 (1 * 2 ^ (min (Int.toNat (Int.tmod p2 64)) 64))))))).length, (((o78 (p1.setIfInBounds (Int.toNat (w64 (Int.tdiv p2 64))) (ior .u64 x3 (IntKind.wrap .u64 (1 * 2 ^ (min (Int.toNat (Int.tmod p2 64)) 64))))))).drop 0).take 4 = ((o78 (p1.setIfInBounds (Int.toNat (w64 (Int.tdiv p2 64))) (ior .u64 x3 (IntKind.wrap .u64 (1 * 2 ^ (min (Int.toNat (Int.tmod p2 64)) 64))))))), ((o78 (p1.setIfInBounds (Int.toNat (w64 (Int.tdiv p2 64))) (ior .u64 x3 (IntKind.wrap .u64 (1 * 2 ^ (min (Int.toNat (Int.tmod p2 64)) 64))))))).all AV.plain = true, [((o78 (p1.setIfInBounds (Int.toNat (w64 (Int.tdiv p2 64))) (ior .u64 x3 (IntKind.wrap .u64 (1 * 2 ^ (min (Int.toNat (Int.tmod p2 64)) 64)))))))][0]? = some ((o78 (p1.setIfInBounds (Int.toNat (w64 (Int.tdiv p2 64))) (ior .u64 x3 (IntKind.wrap .u64 (1 * 2 ^ (min (Int.toNat (Int.tmod p2 64)) 64))))))), [((o78 (Vector.replicate 4 0)))][0]? = some ((o78 (Vector.replicate 4 0))), [((o78 (Vector.replicate 4 0)))].set 0 (wr ((o78 (Vector.replicate 4 0))) 0 ((o78 (p1.setIfInBounds (Int.toNat (w64 (Int.tdiv p2 64))) (ior .u64 x3 (IntKind.wrap .u64 (1 * 2 ^ (min (Int.toNat (Int.tmod p2 64)) 64)))))))) = [((o78 (p1.setIfInBounds (Int.toNat (w64 (Int.tdiv p2 64))) (ior .u64 x3 (IntKind.wrap .u64 (1 * 2 ^ (min (Int.toNat (Int.tmod p2 64)) 64)))))))], ((o78 (p1.setIfInBounds (Int.toNat (w64 (Int.tdiv p2 64))) (ior .u64 x3 (IntKind.wrap .u64 (1 * 2 ^ (min (Int.toNat (Int.tmod p2 64)) 64))))))).length = 4, 0 + ((o78 (p1.setIfInBounds (Int.toNat (w64 (Int.tdiv p2 64))) (ior .u64 x3 (IntKind.wrap .u64 (1 * 2 ^ (min (Int.toNat (Int.tmod p2 64)) 64))))))).length ≤ ((o78 (Vector.replicate 4 0))).length, ((o78 (p1.setIfInBounds (Int.toNat (w64 (Int.tdiv p2 64))) (ior .u64 x3 (IntKind.wrap .u64 (1 * 2 ^ (min (Int.toNat (Int.tmod p2 64)) 64))))))).all okLit = true, 0 + 4 ≤ ((o78 (p1.setIfInBounds (Int.toNat (w64 (Int.tdiv p2 64))) (ior .u64 x3 (IntKind.wrap .u64 (1 * 2 ^ (min (Int.toNat (Int.tmod p2 64)) 64))))))).length, (((o78 (p1.setIfInBounds (Int.toNat (w64 (Int.tdiv p2 64))) (ior .u64 x3 (IntKind.wrap .u64 (1 * 2 ^ (min (Int.toNat (Int.tmod p2 64)) 64))))))).drop 0).take 4 = ((o78 (p1.setIfInBounds (Int.toNat (w64 (Int.tdiv p2 64))) (ior .u64 x3 (IntKind.wrap .u64 (1 * 2 ^ (min (Int.toNat (Int.tmod p2 64)) 64))))))), ((o78 (p1.setIfInBounds (Int.toNat (w64 (Int.tdiv p2 64))) (ior .u64 x3 (IntKind.wrap .u64 (1 * 2 ^ (min (Int.toNat (Int.tmod p2 64)) 64))))))).all AV.plain = true, [((o78 (p1.setIfInBounds (Int.toNat (w64 (Int.tdiv p2 64))) (ior .u64 x3 (IntKind.wrap .u64 (1 * 2 ^ (min (Int.toNat (Int.tmod p2 64)) 64)))))))][0]? = some ((o78 (p1.setIfInBounds (Int.toNat (w64 (Int.tdiv p2 64))) (ior .u64 x3 (IntKind.wrap .u64 (1 * 2 ^ (min (Int.toNat (Int.tmod p2 64)) 64))))))), (AV.agg ((o78 (p1.setIfInBounds (Int.toNat (w64 (Int.tdiv p2 64))) (ior .u64 x3 (IntKind.wrap .u64 (1 * 2 ^ (min (Int.toNat (Int.tmod p2 64)) 64)))))))) = (AV.agg ((o78 (p1.setIfInBounds (Int.toNat (w64 (Int.tdiv p2 64))) (ior .u64 x3 (IntKind.wrap .u64 (1 * 2 ^ (min (Int.toNat (Int.tmod p2 64)) 64)))))))), litA (AV.agg ((o78 (p1.setIfInBounds (Int.toNat (w64 (Int.tdiv p2 64))) (ior .u64 x3 (IntKind.wrap .u64 (1 * 2 ^ (min (Int.toNat (Int.tmod p2 64)) 64)))))))) = true]) (by kernel_rfl) ⟨rfl, (vecLen k76), (vecAll k76 (fun _ => rfl)), (vecPos k76 (by decide)), rfl, (by decide), (rv0 hx3), (rvL hx3), (rvM k76 hx3), rfl, (by decide), (ge0E hq4), (rv0 hx5), (rvL hx5), rfl, (vecWr k76 _ (rvLt hx5)), rfl, (vecLe k76 hx5), (vecLe0 k76), (vecAgg k76), (p78 _), rfl, rfl, (vecSt k76 k76), (vecLen k76), (vecLL k76 k76), (vecAll k76 (fun _ => rfl)), (vecLe0 k76), (vecAgg k76), (p78 _), rfl, rfl, (vecLit k76 (fun _ => rfl)), trivial⟩
noncomputable def body51 : Code := match Try.f51.body with | some c => c | none => .skip
noncomputable def impl_aheadOf_l1 (K0 : (List (Vector Int 4)) → Int → Option (List (Vector Int 4))) (p1 : (List GEvent)) (v4 : Int) : Nat → (List (Vector Int 4)) → Int → Option (List (Vector Int 4))
  | 0, _, _ => none
  | n + 1, a6, v7 =>
  if (decide (v7 < v4)) = true then
    Option.bind (rd p1 v7) fun x9 =>
    Option.bind (rd p1 v4) fun x10 =>
    Option.bind (impl_leads x9 x10) fun r11 =>
    if r11 = true then
      Option.bind (rd a6 v4) fun x13 =>
      Option.bind (impl_places_with x13 v7) fun r14 =>
      Option.bind (rd a6 v7) fun x15 =>
      Option.bind (impl_places_joined r14 x15) fun r16 =>
      impl_aheadOf_l1 K0 p1 v4 n (a6.set (Int.toNat v4) r16) (w64 (v7 + 1))
    else
      impl_aheadOf_l1 K0 p1 v4 n a6 (w64 (v7 + 1))
  else
    K0 a6 (w64 (v4 + 1))
theorem impl_aheadOf_l1_m {E : Env} (hP : E.P = Try.prog) (hn : E.n = 44) (hx : ∀ p, p ∈ E.fx → p.1 ∈ ([] : List Nat)) (p1 : (List GEvent)) (v4 : Int) {K0 : (List (Vector Int 4)) → Int → Option (List (Vector Int 4))} (hK0 : ∀ (a3 : (List (Vector Int 4))) (v4 : Int) (r : (List (Vector Int 4))), K0 a3 v4 = some r → WAt E body51 (FQ (RetE Θ Try.f51.results.toList [] [] (AV.own 78 4 (r.map o78)) E)) [true, true, false, true, false] ⟨[(0, (AV.ro 5 (p1.map o50))), (3, (AV.sl 1 0 (List.length (a3.map o78)))), (10, (I (p1.length : Int))), (11, (I v4))], [(1, some ⟨78, 4, (a3.map o78)⟩)], [1, JJ]⟩) : ∀ (n : Nat) (a6 : (List (Vector Int 4))) (v7 : Int) (r : (List (Vector Int 4))), impl_aheadOf_l1 K0 p1 v4 n a6 v7 = some r → WAt E body51 (FQ (RetE Θ Try.f51.results.toList [] [] (AV.own 78 4 (r.map o78)) E)) [true, true, false, true, false, false, true, true, false, false, true, true, false] ⟨[(0, (AV.ro 5 (p1.map o50))), (3, (AV.sl 1 0 (List.length (a6.map o78)))), (4, (I v4)), (10, (I (p1.length : Int))), (11, (I v4)), (14, (I v4)), (15, (I v7))], [(1, some ⟨78, 4, (a6.map o78)⟩)], [1, JJ]⟩ := by
  have hm : E.P.follows .mixedOrders = true := by rw [hP]; exact mixed
  have hΘ : TOK E.P Θ := by rw [hP]; exact Θ_ok
  intro n
  induction n with
  | zero => intro a6 v7 r h; simp only [impl_aheadOf_l1] at h; cases h
  | succ n ih =>
    intro a6 v7 r h
    simp only [impl_aheadOf_l1] at h
    rcases itS h with ⟨c8, h⟩ | ⟨c18, h⟩
    · obtain ⟨x9, hx9, h⟩ := bnS h
      obtain ⟨x10, hx10, h⟩ := bnS h
      obtain ⟨r11, hr11, h⟩ := bnS h
      rcases itS h with ⟨c12, h⟩ | ⟨c17, h⟩
      · obtain ⟨x13, hx13, h⟩ := bnS h
        obtain ⟨r14, hr14, h⟩ := bnS h
        obtain ⟨x15, hx15, h⟩ := bnS h
        obtain ⟨r16, hr16, h⟩ := bnS h
        exact go_to hΘ hm hx hP hn (hs := [⟨1, .br true, none⟩, ⟨6, .row (o50 x9), none⟩, ⟨10, .row (o50 x10), none⟩, ⟨12, .callV [[], []] (B r11), none⟩, ⟨13, .br true, none⟩, ⟨19, .agg ((o78 x13)) ((o78 x13)), none⟩, ⟨21, .callV [[[AV.dead]]] (AV.agg (o78 r14)), none⟩, ⟨25, .agg ((o78 x15)) ((o78 x15)), none⟩, ⟨26, .callV [[[AV.dead]], [[AV.dead]]] (AV.agg (o78 r16)), none⟩, ⟨28, .stoS ((o78 x13)) ((a6.set (Int.toNat v4) r16).map o78), none⟩, ⟨31, .slen 3 (List.length ((a6.set (Int.toNat v4) r16).map o78)), none⟩]) (π := [(1, 1)]) (ts := [0, 3, 4, 10, 11, 14, 15]) (kp := []) (ps := [(decide (v7 < v4)) = true, (0 : Int) ≤ v7, (p1.map o50)[(Int.toNat v7)]? = some (o50 x9), (0 : Int) ≤ v4, (p1.map o50)[(Int.toNat v4)]? = some (o50 x10), Meets Try.prog 70 [(AV.agg ((o50 x9))), (AV.agg ((o50 x10)))] (B r11), litA (B r11) = true, r11 = true, (0 : Int) ≤ v4, v4 < (((List.length (a6.map o78)) : Nat) : Int), 0 + 4 ≤ ((o78 x13)).length, (((o78 x13)).drop 0).take 4 = ((o78 x13)), ((o78 x13)).all AV.plain = true, (a6.map o78)[(Int.toNat v4)]? = some ((o78 x13)), Meets Try.prog 71 [(AV.agg ((o78 x13))), (I v7)] (AV.agg (o78 r14)), litA (AV.agg (o78 r14)) = true, ((o78 x13)).all okLit = true, (0 : Int) ≤ v7, v7 < (((List.length (a6.map o78)) : Nat) : Int), 0 + 4 ≤ ((o78 x15)).length, (((o78 x15)).drop 0).take 4 = ((o78 x15)), ((o78 x15)).all AV.plain = true, (a6.map o78)[(Int.toNat v7)]? = some ((o78 x15)), Meets Try.prog 72 [(AV.agg ((o78 r14))), (AV.agg ((o78 x15)))] (AV.agg (o78 r16)), litA (AV.agg (o78 r16)) = true, ((o78 r14)).all okLit = true, ((o78 x15)).all okLit = true, (0 : Int) ≤ v4, v4 < (((List.length (a6.map o78)) : Nat) : Int), (a6.map o78)[(Int.toNat v4)]? = some ((o78 x13)), (a6.map o78).set (Int.toNat v4) (wr ((o78 x13)) 0 ((o78 r16))) = ((a6.set (Int.toNat v4) r16).map o78), ((o78 r16)).length = 4, 0 + ((o78 r16)).length ≤ ((o78 x13)).length, ((o78 r16)).all okLit = true, (List.length (a6.map o78)) = (List.length ((a6.set (Int.toNat v4) r16).map o78)), RenOK [(1, 1)] ((a6.set (Int.toNat v4) r16).map o78)]) (by kernel_rfl) ⟨c8, (rd0 hx9), (rdM o50 hx9), (rd0 hx10), (rdM o50 hx10), (impl_leads_m hr11), rfl, c12, (rd0 hx13), (rdL o78 hx13), (vecLe0 k76), (vecAgg k76), (p78 _), (rdM o78 hx13), (impl_places_with_m hr14), (vecLit k76 (fun _ => rfl)), (vecAll k76 (fun _ => rfl)), (rd0 hx15), (rdL o78 hx15), (vecLe0 k76), (vecAgg k76), (p78 _), (rdM o78 hx15), (impl_places_joined_m hr16), (vecLit k76 (fun _ => rfl)), (vecAll k76 (fun _ => rfl)), (vecAll k76 (fun _ => rfl)), (rd0 hx13), (rdL o78 hx13), (rdM o78 hx13), (setV k76 (fun _ => rfl)), (vecLen k76), (vecLL k76 k76), (vecAll k76 (fun _ => rfl)), (by first | exact lnSet _ | exact lnSet2 _ | simp only [List.length_map, List.length_set, List.length_cons, List.length_nil]), (rok (treeM t78)), trivial⟩ (ih (a6.set (Int.toNat v4) r16) (w64 (v7 + 1)) _ h)
      · exact go_to hΘ hm hx hP hn (hs := [⟨1, .br true, none⟩, ⟨6, .row (o50 x9), none⟩, ⟨10, .row (o50 x10), none⟩, ⟨12, .callV [[], []] (B r11), none⟩, ⟨13, .br false, none⟩]) (π := [(1, 1)]) (ts := [0, 3, 4, 10, 11, 14, 15]) (kp := []) (ps := [(decide (v7 < v4)) = true, (0 : Int) ≤ v7, (p1.map o50)[(Int.toNat v7)]? = some (o50 x9), (0 : Int) ≤ v4, (p1.map o50)[(Int.toNat v4)]? = some (o50 x10), Meets Try.prog 70 [(AV.agg ((o50 x9))), (AV.agg ((o50 x10)))] (B r11), litA (B r11) = true, r11 = false, RenOK [(1, 1)] (a6.map o78)]) (by kernel_rfl) ⟨c8, (rd0 hx9), (rdM o50 hx9), (rd0 hx10), (rdM o50 hx10), (impl_leads_m hr11), rfl, c17, (rok (treeM t78)), trivial⟩ (ih a6 (w64 (v7 + 1)) _ h)
    · exact go_to hΘ hm hx hP hn (hs := [⟨1, .br false, none⟩]) (π := [(1, 1)]) (ts := [0, 3, 10, 11]) (kp := []) (ps := [(decide (v7 < v4)) = false, RenOK [(1, 1)] (a6.map o78)]) (by kernel_rfl) ⟨c18, (rok (treeM t78)), trivial⟩ (hK0 a6 (w64 (v4 + 1)) _ h)
noncomputable def impl_aheadOf_l0  (p1 : (List GEvent)) : Nat → (List (Vector Int 4)) → Int → Option (List (Vector Int 4))
  | 0, _, _ => none
  | n + 1, a3, v4 =>
  if (decide (v4 < (p1.length : Int))) = true then
    impl_aheadOf_l1 (impl_aheadOf_l0 p1 n) p1 v4 FU a3 0
  else
    some a3
theorem impl_aheadOf_l0_m {E : Env} (hP : E.P = Try.prog) (hn : E.n = 44) (hx : ∀ p, p ∈ E.fx → p.1 ∈ ([] : List Nat)) (p1 : (List GEvent))  : ∀ (n : Nat) (a3 : (List (Vector Int 4))) (v4 : Int) (r : (List (Vector Int 4))), impl_aheadOf_l0 p1 n a3 v4 = some r → WAt E body51 (FQ (RetE Θ Try.f51.results.toList [] [] (AV.own 78 4 (r.map o78)) E)) [true, true, false, true, false] ⟨[(0, (AV.ro 5 (p1.map o50))), (3, (AV.sl 1 0 (List.length (a3.map o78)))), (10, (I (p1.length : Int))), (11, (I v4))], [(1, some ⟨78, 4, (a3.map o78)⟩)], [1, JJ]⟩ := by
  have hm : E.P.follows .mixedOrders = true := by rw [hP]; exact mixed
  have hΘ : TOK E.P Θ := by rw [hP]; exact Θ_ok
  intro n
  induction n with
  | zero => intro a3 v4 r h; simp only [impl_aheadOf_l0] at h; cases h
  | succ n ih =>
    intro a3 v4 r h
    simp only [impl_aheadOf_l0] at h
    rcases itS h with ⟨c5, h⟩ | ⟨c19, h⟩
    · exact go_to hΘ hm hx hP hn (hs := [⟨1, .br true, none⟩]) (π := [(1, 1)]) (ts := [0, 3, 4, 10, 11, 14, 15]) (kp := []) (ps := [(decide (v4 < (p1.length : Int))) = true, RenOK [(1, 1)] (a3.map o78)]) (by kernel_rfl) ⟨c5, (rok (treeM t78)), trivial⟩ (impl_aheadOf_l1_m hP hn hx p1 v4 ih FU a3 0 _ h)
    · have h := Option.some.inj h
      subst h
      exact go_ret hΘ hm hP hn (hs := [⟨1, .br false, none⟩]) (rh := []) (ph := .own) (ps := [(decide (v4 < (p1.length : Int))) = false, treeLL ((a3.map o78).take (List.length (a3.map o78))) = true, (a3.map o78).take (List.length (a3.map o78)) = (a3.map o78), noRoLL (a3.map o78) = true]) (by kernel_rfl) ⟨c19, (treeT t78), takeM, (noRoM n78), trivial⟩
noncomputable def impl_aheadOf (p1 : (List GEvent)) : Option (List (Vector Int 4)) :=
  Option.bind (mk (Vector.replicate 4 0) (p1.length : Int)) fun l2 =>
  impl_aheadOf_l0 p1 FU l2 0
theorem impl_aheadOf_m {p1 : (List GEvent)} {r : (List (Vector Int 4))} (h : impl_aheadOf p1 = some r) : Meets Try.prog 51 [(AV.ro 5 (p1.map o50))] (AV.own 78 4 (r.map o78)) := by
  refine meets_ofC Θ_ok Try.func51 rfl (c := body51) (by kernel_rfl) (Nat.le_of_ble_eq_true rfl) ?_
  intro E hP hn hx
  replace hn : E.n = 44 := hn
  have hm : E.P.follows .mixedOrders = true := by rw [hP]; exact mixed
  have hΘ : TOK E.P Θ := by rw [hP]; exact Θ_ok
  unfold impl_aheadOf at h
  show WAt E body51 (FQ (RetE Θ Try.f51.results.toList [] [] (AV.own 78 4 (r.map o78)) E)) [] ⟨[(0, (AV.ro 5 (p1.map o50)))], [], [JJ]⟩
  obtain ⟨l2, hl2, h⟩ := bnS h
  exact go_to hΘ hm hx hP hn (hs := [⟨2, .no, some (I (p1.length : Int))⟩, ⟨3, .nw 1001 (l2.map o78), some (AV.sl 1001 0 (List.length (l2.map o78)))⟩, ⟨6, .no, some (I (p1.length : Int))⟩]) (π := [(1001, 1)]) (ts := [0, 3, 10, 11]) (kp := []) (ps := [AV.lit (.int .i64 (((p1.map o50).length : Nat) : Int)) = (I (p1.length : Int)), List.replicate (Int.toNat (p1.length : Int)) [.lit (.int .u64 0), .lit (.int .u64 0), .lit (.int .u64 0), .lit (.int .u64 0)] = (l2.map o78), AV.sl 1001 0 (Int.toNat (p1.length : Int)) = (AV.sl 1001 0 (List.length (l2.map o78))), (p1.length : Int) = (p1.length : Int), (0 : Int) ≤ (p1.length : Int), (p1.length : Int) * ((32 : Nat) : Int) ≤ 140737488355328, (p1.length : Int) ≤ 140737488355328, AV.lit (.int .i64 (((p1.map o50).length : Nat) : Int)) = (I (p1.length : Int)), RenOK [(1001, 1)] (l2.map o78)]) (by kernel_rfl) ⟨(lenM o50), (mkM o78 hl2), (mkS o78 hl2), rfl, (mk0 hl2), (mkB hl2 (by decide)), (mkC hl2), (lenM o50), (rok (treeM t78)), trivial⟩ (impl_aheadOf_l0_m hP hn hx p1 FU l2 0 _ h)
noncomputable def body52 : Code := match Try.f52.body with | some c => c | none => .skip
noncomputable def impl_places_has (p1 : (Vector Int 4)) (p2 : Int) : Option Bool :=
  Option.bind (rdv p1 (w64 (Int.tdiv p2 64))) fun x3 =>
  Option.bind (ge0 (Int.tmod p2 64)) fun q4 =>
  some ((iand .u64 (Int.fdiv x3 (2 ^ (min (Int.toNat (Int.tmod p2 64)) 64))) 1) == 1)
theorem impl_places_has_m {p1 : (Vector Int 4)} {p2 : Int} {r : Bool} (h : impl_places_has p1 p2 = some r) : Meets Try.prog 52 [(AV.agg ((o78 p1))), (I p2)] (B r) := by
  refine meets_ofC Θ_ok Try.func52 rfl (c := body52) (by kernel_rfl) (Nat.le_of_ble_eq_true rfl) ?_
  intro E hP hn hx
  replace hn : E.n = 14 := hn
  have hm : E.P.follows .mixedOrders = true := by rw [hP]; exact mixed
  have hΘ : TOK E.P Θ := by rw [hP]; exact Θ_ok
  unfold impl_places_has at h
  show WAt E body52 (FQ (RetE Θ Try.f52.results.toList [] [] (B r) E)) [] ⟨[(0, (AV.agg ((o78 p1)))), (1, (I p2))], [], [JJ]⟩
  obtain ⟨x3, hx3, h⟩ := bnS h
  obtain ⟨q4, hq4, h⟩ := bnS h
  have h := Option.some.inj h
  subst h
  exact go_ret hΘ hm hP hn (hs := [⟨0, .nw 1001 [((o78 p1))], none⟩, ⟨5, .cel ((o78 p1)) (IK .u64 x3), none⟩]) (rh := []) (ph := .raw) (ps := [[((o78 p1))] = [((o78 p1))], ((o78 p1)).length = 4, ((o78 p1)).all okLit = true, 0 < ((o78 p1)).length, 64 ≠ (0 : Int), (0 : Int) ≤ (w64 (Int.tdiv p2 64)), (w64 (Int.tdiv p2 64)) < ((4 : Nat) : Int), ((o78 p1))[(Int.toNat (w64 (Int.tdiv p2 64)))]? = some (IK .u64 x3), [((o78 p1))][0]? = some ((o78 p1)), 64 ≠ (0 : Int), ¬ (Int.tmod p2 64) < (0 : Int), (B ((iand .u64 (Int.fdiv x3 (2 ^ (min (Int.toNat (Int.tmod p2 64)) 64))) 1) == 1)) = (B ((iand .u64 (Int.fdiv x3 (2 ^ (min (Int.toNat (Int.tmod p2 64)) 64))) 1) == 1)), litA (B ((iand .u64 (Int.fdiv x3 (2 ^ (min (Int.toNat (Int.tmod p2 64)) 64))) 1) == 1)) = true]) (by kernel_rfl) ⟨rfl, (vecLen k76), (vecAll k76 (fun _ => rfl)), (vecPos k76 (by decide)), (by decide), (rv0 hx3), (rvL hx3), (rvM k76 hx3), rfl, (by decide), (ge0E hq4), rfl, rfl, trivial⟩
noncomputable def body27 : Code := match Try.f27.body with | some c => c | none => .skip
noncomputable def impl_SideBySide_l1 (K0 : (List (List Int)) → (List (Vector Int 4)) → Int → Option ((List (List Int)) × Bool)) (p1 : (List GEvent)) (v8 : Int) : Nat → (List (List Int)) → (List (Vector Int 4)) → Int → Option ((List (List Int)) × Bool)
  | 0, _, _, _ => none
  | n + 1, a10, a11, v12 =>
  if (decide (v12 < (p1.length : Int))) = true then
    Option.bind (rd a11 v12) fun x14 =>
    Option.bind (impl_places_has x14 v8) fun r15 =>
    if (!r15) = true then
      Option.bind (app a10 [[v8, v12]]) fun l17 =>
      impl_SideBySide_l1 K0 p1 v8 n l17 a11 (w64 (v12 + 1))
    else
      impl_SideBySide_l1 K0 p1 v8 n a10 a11 (w64 (v12 + 1))
  else
    K0 a10 a11 (w64 (v8 + 1))
theorem impl_SideBySide_l1_m {E : Env} (hP : E.P = Try.prog) (hn : E.n = 42) (hx : ∀ p, p ∈ E.fx → p.1 ∈ ([] : List Nat)) (p1 : (List GEvent)) (v8 : Int) {K0 : (List (List Int)) → (List (Vector Int 4)) → Int → Option ((List (List Int)) × Bool)} (hK0 : ∀ (a6 : (List (List Int))) (a7 : (List (Vector Int 4))) (v8 : Int) (r : ((List (List Int)) × Bool)), K0 a6 a7 v8 = some r → WAt E body27 (FQ (RetE Θ Try.f27.results.toList [] [] (AV.tup [(AV.own 32 1 (r.1.map o32)), (B r.2)]) E)) [true, true, true, false, true, false] ⟨[(0, (AV.ro 5 (p1.map o50))), (4, (AV.sl 1 0 (List.length (a6.map o32)))), (5, (AV.sl 2 0 (List.length (a7.map o78)))), (15, (I (p1.length : Int))), (16, (I v8))], [(1, some ⟨32, 1, (a6.map o32)⟩), (2, some ⟨78, 4, (a7.map o78)⟩)], [1, 2, JJ]⟩) : ∀ (n : Nat) (a10 : (List (List Int))) (a11 : (List (Vector Int 4))) (v12 : Int) (r : ((List (List Int)) × Bool)), impl_SideBySide_l1 K0 p1 v8 n a10 a11 v12 = some r → WAt E body27 (FQ (RetE Θ Try.f27.results.toList [] [] (AV.tup [(AV.own 32 1 (r.1.map o32)), (B r.2)]) E)) [true, true, true, false, true, false, false, true, true, false, false, true, true, false] ⟨[(0, (AV.ro 5 (p1.map o50))), (4, (AV.sl 1 0 (List.length (a10.map o32)))), (5, (AV.sl 2 0 (List.length (a11.map o78)))), (6, (I v8)), (7, (I v12)), (15, (I (p1.length : Int))), (16, (I v8))], [(1, some ⟨32, 1, (a10.map o32)⟩), (2, some ⟨78, 4, (a11.map o78)⟩)], [1, 2, JJ]⟩ := by
  have hm : E.P.follows .mixedOrders = true := by rw [hP]; exact mixed
  have hΘ : TOK E.P Θ := by rw [hP]; exact Θ_ok
  intro n
  induction n with
  | zero => intro a10 a11 v12 r h; simp only [impl_SideBySide_l1] at h; cases h
  | succ n ih =>
    intro a10 a11 v12 r h
    simp only [impl_SideBySide_l1] at h
    rcases itS h with ⟨c13, h⟩ | ⟨c19, h⟩
    · obtain ⟨x14, hx14, h⟩ := bnS h
      obtain ⟨r15, hr15, h⟩ := bnS h
      rcases itS h with ⟨c16, h⟩ | ⟨c18, h⟩
      · obtain ⟨l17, hl17, h⟩ := bnS h
        exact go_to hΘ hm hx hP hn (hs := [⟨2, .no, some (I (p1.length : Int))⟩, ⟨4, .br true, none⟩, ⟨8, .agg ((o78 x14)) ((o78 x14)), none⟩, ⟨10, .callV [[[AV.dead]]] (B r15), none⟩, ⟨12, .br true, none⟩, ⟨16, .new 1001, none⟩, ⟨17, .new 1002, none⟩, ⟨18, .app 1003 ((a10.map o32) ++ [[(AV.sl 1001 0 (List.length ([v8, v12].map o3)))]]), none⟩, ⟨19, .pack 1003 1001 (List.length a10) 0 [(AV.sl 1001 0 (List.length ([v8, v12].map o3)))] (l17.map o32), none⟩, ⟨23, .slen 4 (List.length (l17.map o32)), none⟩]) (π := [(1003, 1), (2, 2)]) (ts := [0, 4, 5, 6, 7, 15, 16]) (kp := []) (ps := [AV.lit (.int .i64 (((p1.map o50).length : Nat) : Int)) = (I (p1.length : Int)), (decide (v12 < (p1.length : Int))) = true, (0 : Int) ≤ v12, v12 < (((List.length (a11.map o78)) : Nat) : Int), 0 + 4 ≤ ((o78 x14)).length, (((o78 x14)).drop 0).take 4 = ((o78 x14)), ((o78 x14)).all AV.plain = true, (a11.map o78)[(Int.toNat v12)]? = some ((o78 x14)), Meets Try.prog 52 [(AV.agg ((o78 x14))), (I v8)] (B r15), litA (B r15) = true, ((o78 x14)).all okLit = true, (!r15) = true, (a10.map o32).take (List.length (a10.map o32)) ++ [[(AV.sl 1001 0 (List.length ([v8, v12].map o3)))]] = ((a10.map o32) ++ [[(AV.sl 1001 0 (List.length ([v8, v12].map o3)))]]), [[(AV.sl 1001 0 (List.length ([v8, v12].map o3)))]].all (fun r => r.all AV.plain) = true, (List.length ((a10.map o32) ++ [[(AV.sl 1001 0 (List.length ([v8, v12].map o3)))]])) * 24 ≤ 140737488355328, (List.length ((a10.map o32) ++ [[(AV.sl 1001 0 (List.length ([v8, v12].map o3)))]])) ≤ 140737488355328, ((a10.map o32) ++ [[(AV.sl 1001 0 (List.length ([v8, v12].map o3)))]])[(List.length a10)]? = some [(AV.sl 1001 0 (List.length ([v8, v12].map o3)))], [(AV.sl 1001 0 (List.length ([v8, v12].map o3)))][0]? = some (AV.sl 1001 0 (List.length ([v8, v12].map o3))), treeLL ([v8, v12].map o3) = true, ((a10.map o32) ++ [[(AV.sl 1001 0 (List.length ([v8, v12].map o3)))]]).set (List.length a10) ([(AV.sl 1001 0 (List.length ([v8, v12].map o3)))].set 0 (AV.own 3 1 ([v8, v12].map o3))) = (l17.map o32), (List.length ((a10.map o32) ++ [[(AV.sl 1001 0 (List.length ([v8, v12].map o3)))]])) = (List.length (l17.map o32)), RenOK [(1003, 1), (2, 2)] (l17.map o32), RenOK [(1003, 1), (2, 2)] (a11.map o78)]) (by kernel_rfl) ⟨(lenM o50), c13, (rd0 hx14), (rdL o78 hx14), (vecLe0 k76), (vecAgg k76), (p78 _), (rdM o78 hx14), (impl_places_has_m hr15), rfl, (vecAll k76 (fun _ => rfl)), c16, (apT o32), rfl, (apB o32 hl17 (by decide)), (apC o32 hl17), (apG o32), rfl, (treeM t3), (apS o32 hl17), (apLn o32 hl17), (rok (treeM t32)), (rok (treeM t78)), trivial⟩ (ih l17 a11 (w64 (v12 + 1)) _ h)
      · exact go_to hΘ hm hx hP hn (hs := [⟨2, .no, some (I (p1.length : Int))⟩, ⟨4, .br true, none⟩, ⟨8, .agg ((o78 x14)) ((o78 x14)), none⟩, ⟨10, .callV [[[AV.dead]]] (B r15), none⟩, ⟨12, .br false, none⟩]) (π := [(1, 1), (2, 2)]) (ts := [0, 4, 5, 6, 7, 15, 16]) (kp := []) (ps := [AV.lit (.int .i64 (((p1.map o50).length : Nat) : Int)) = (I (p1.length : Int)), (decide (v12 < (p1.length : Int))) = true, (0 : Int) ≤ v12, v12 < (((List.length (a11.map o78)) : Nat) : Int), 0 + 4 ≤ ((o78 x14)).length, (((o78 x14)).drop 0).take 4 = ((o78 x14)), ((o78 x14)).all AV.plain = true, (a11.map o78)[(Int.toNat v12)]? = some ((o78 x14)), Meets Try.prog 52 [(AV.agg ((o78 x14))), (I v8)] (B r15), litA (B r15) = true, ((o78 x14)).all okLit = true, (!r15) = false, RenOK [(1, 1), (2, 2)] (a10.map o32), RenOK [(1, 1), (2, 2)] (a11.map o78)]) (by kernel_rfl) ⟨(lenM o50), c13, (rd0 hx14), (rdL o78 hx14), (vecLe0 k76), (vecAgg k76), (p78 _), (rdM o78 hx14), (impl_places_has_m hr15), rfl, (vecAll k76 (fun _ => rfl)), c18, (rok (treeM t32)), (rok (treeM t78)), trivial⟩ (ih a10 a11 (w64 (v12 + 1)) _ h)
    · exact go_to hΘ hm hx hP hn (hs := [⟨2, .no, some (I (p1.length : Int))⟩, ⟨4, .br false, none⟩]) (π := [(1, 1), (2, 2)]) (ts := [0, 4, 5, 15, 16]) (kp := []) (ps := [AV.lit (.int .i64 (((p1.map o50).length : Nat) : Int)) = (I (p1.length : Int)), (decide (v12 < (p1.length : Int))) = false, RenOK [(1, 1), (2, 2)] (a10.map o32), RenOK [(1, 1), (2, 2)] (a11.map o78)]) (by kernel_rfl) ⟨(lenM o50), c19, (rok (treeM t32)), (rok (treeM t78)), trivial⟩ (hK0 a10 a11 (w64 (v8 + 1)) _ h)
noncomputable def impl_SideBySide_l0  (p1 : (List GEvent)) : Nat → (List (List Int)) → (List (Vector Int 4)) → Int → Option ((List (List Int)) × Bool)
  | 0, _, _, _ => none
  | n + 1, a6, a7, v8 =>
  if (decide (v8 < (p1.length : Int))) = true then
    impl_SideBySide_l1 (impl_SideBySide_l0 p1 n) p1 v8 FU a6 a7 (w64 (v8 + 1))
  else
    some (a6, true)
theorem impl_SideBySide_l0_m {E : Env} (hP : E.P = Try.prog) (hn : E.n = 42) (hx : ∀ p, p ∈ E.fx → p.1 ∈ ([] : List Nat)) (p1 : (List GEvent))  : ∀ (n : Nat) (a6 : (List (List Int))) (a7 : (List (Vector Int 4))) (v8 : Int) (r : ((List (List Int)) × Bool)), impl_SideBySide_l0 p1 n a6 a7 v8 = some r → WAt E body27 (FQ (RetE Θ Try.f27.results.toList [] [] (AV.tup [(AV.own 32 1 (r.1.map o32)), (B r.2)]) E)) [true, true, true, false, true, false] ⟨[(0, (AV.ro 5 (p1.map o50))), (4, (AV.sl 1 0 (List.length (a6.map o32)))), (5, (AV.sl 2 0 (List.length (a7.map o78)))), (15, (I (p1.length : Int))), (16, (I v8))], [(1, some ⟨32, 1, (a6.map o32)⟩), (2, some ⟨78, 4, (a7.map o78)⟩)], [1, 2, JJ]⟩ := by
  have hm : E.P.follows .mixedOrders = true := by rw [hP]; exact mixed
  have hΘ : TOK E.P Θ := by rw [hP]; exact Θ_ok
  intro n
  induction n with
  | zero => intro a6 a7 v8 r h; simp only [impl_SideBySide_l0] at h; cases h
  | succ n ih =>
    intro a6 a7 v8 r h
    simp only [impl_SideBySide_l0] at h
    rcases itS h with ⟨c9, h⟩ | ⟨c20, h⟩
    · exact go_to hΘ hm hx hP hn (hs := [⟨1, .br true, none⟩]) (π := [(1, 1), (2, 2)]) (ts := [0, 4, 5, 6, 7, 15, 16]) (kp := []) (ps := [(decide (v8 < (p1.length : Int))) = true, RenOK [(1, 1), (2, 2)] (a6.map o32), RenOK [(1, 1), (2, 2)] (a7.map o78)]) (by kernel_rfl) ⟨c9, (rok (treeM t32)), (rok (treeM t78)), trivial⟩ (impl_SideBySide_l1_m hP hn hx p1 v8 ih FU a6 a7 (w64 (v8 + 1)) _ h)
    · have h := Option.some.inj h
      subst h
      exact go_ret hΘ hm hP hn (hs := [⟨1, .br false, none⟩]) (rh := []) (ph := .agg [.own, .raw]) (ps := [(decide (v8 < (p1.length : Int))) = false, treeLL ((a6.map o32).take (List.length (a6.map o32))) = true, (a6.map o32).take (List.length (a6.map o32)) = (a6.map o32), noRoLL (a6.map o32) = true, (B true) = (B true), litA (B true) = true]) (by kernel_rfl) ⟨c20, (treeT t32), takeM, (noRoM n32), rfl, rfl, trivial⟩
noncomputable def impl_SideBySide (p1 : (List GEvent)) : Option ((List (List Int)) × Bool) :=
  Option.bind (impl_GoodTrace p1) fun r2 =>
  if (!r2) = true then
    some ([], false)
  else
    Option.bind (impl_aheadOf p1) fun r5 =>
    impl_SideBySide_l0 p1 FU [] r5 0
theorem impl_SideBySide_m {p1 : (List GEvent)} {r : ((List (List Int)) × Bool)} (h : impl_SideBySide p1 = some r) : Meets Try.prog 27 [(AV.ro 5 (p1.map o50))] (AV.tup [(AV.own 32 1 (r.1.map o32)), (B r.2)]) := by
  refine meets_ofC Θ_ok Try.func27 rfl (c := body27) (by kernel_rfl) (Nat.le_of_ble_eq_true rfl) ?_
  intro E hP hn hx
  replace hn : E.n = 42 := hn
  have hm : E.P.follows .mixedOrders = true := by rw [hP]; exact mixed
  have hΘ : TOK E.P Θ := by rw [hP]; exact Θ_ok
  unfold impl_SideBySide at h
  show WAt E body27 (FQ (RetE Θ Try.f27.results.toList [] [] (AV.tup [(AV.own 32 1 (r.1.map o32)), (B r.2)]) E)) [] ⟨[(0, (AV.ro 5 (p1.map o50)))], [], [JJ]⟩
  obtain ⟨r2, hr2, h⟩ := bnS h
  rcases itS h with ⟨c3, h⟩ | ⟨c4, h⟩
  · have h := Option.some.inj h
    subst h
    exact go_ret hΘ hm hP hn (hs := [⟨3, .callV [] (B r2), none⟩, ⟨5, .br true, none⟩]) (rh := []) (ph := .agg [.own, .raw]) (ps := [Meets Try.prog 35 [(AV.ro 5 (p1.map o50))] (B r2), litA (B r2) = true, (!r2) = true, (B false) = (B false), litA (B false) = true]) (by kernel_rfl) ⟨(impl_GoodTrace_m hr2), rfl, c3, rfl, rfl, trivial⟩
  · obtain ⟨r5, hr5, h⟩ := bnS h
    exact go_to hΘ hm hx hP hn (hs := [⟨3, .callV [] (B r2), none⟩, ⟨5, .br false, none⟩, ⟨6, .new 1001, none⟩, ⟨8, .call [] (AV.own 78 4 (r5.map o78)) [1002], none⟩, ⟨12, .no, some (I (p1.length : Int))⟩]) (π := [(1001, 1), (1002, 2)]) (ts := [0, 4, 5, 15, 16]) (kp := []) (ps := [Meets Try.prog 35 [(AV.ro 5 (p1.map o50))] (B r2), litA (B r2) = true, (!r2) = false, Meets Try.prog 51 [(AV.ro 5 (p1.map o50))] (AV.own 78 4 (r5.map o78)), noRo (AV.own 78 4 (r5.map o78)) = true, AV.lit (.int .i64 (((p1.map o50).length : Nat) : Int)) = (I (p1.length : Int)), RenOK [(1001, 1), (1002, 2)] ([].map o32), RenOK [(1001, 1), (1002, 2)] (r5.map o78)]) (by kernel_rfl) ⟨(impl_GoodTrace_m hr2), rfl, c4, (impl_aheadOf_m hr5), (by simp only [noRo, noRoL, noRoM n78, Bool.and_self]), (lenM o50), (rok (treeM t32)), (rok (treeM t78)), trivial⟩ (impl_SideBySide_l0_m hP hn hx p1 FU [] r5 0 _ h)
noncomputable def body38 : Code := match Try.f38.body with | some c => c | none => .skip
noncomputable def laws_eqEvent (p1 : GEvent) (p2 : GEvent) : Option Bool :=
  if (p1.Thread != p2.Thread) = true then
    some false
  else
    if (p1.Kind != p2.Kind) = true then
      some false
    else
      if (p1.Obj != p2.Obj) = true then
        some false
      else
        if (p1.Lock != p2.Lock) = true then
          some false
        else
          if (p1.Pc != p2.Pc) = true then
            some false
          else
            some true
theorem laws_eqEvent_m {p1 : GEvent} {p2 : GEvent} {r : Bool} (h : laws_eqEvent p1 p2 = some r) : Meets Try.prog 38 [(AV.agg ((o50 p1))), (AV.agg ((o50 p2)))] (B r) := by
  refine meets_ofC Θ_ok Try.func38 rfl (c := body38) (by kernel_rfl) (Nat.le_of_ble_eq_true rfl) ?_
  intro E hP hn hx
  replace hn : E.n = 30 := hn
  have hm : E.P.follows .mixedOrders = true := by rw [hP]; exact mixed
  have hΘ : TOK E.P Θ := by rw [hP]; exact Θ_ok
  unfold laws_eqEvent at h
  show WAt E body38 (FQ (RetE Θ Try.f38.results.toList [] [] (B r) E)) [] ⟨[(0, (AV.agg ((o50 p1)))), (1, (AV.agg ((o50 p2))))], [], [JJ]⟩
  rcases itS h with ⟨c3, h⟩ | ⟨c4, h⟩
  · have h := Option.some.inj h
    subst h
    exact go_ret hΘ hm hP hn (hs := [⟨0, .new 1001, none⟩, ⟨1, .new 1002, none⟩, ⟨8, .br true, none⟩]) (rh := []) (ph := .raw) (ps := [(p1.Thread != p2.Thread) = true, (B false) = (B false), litA (B false) = true]) (by kernel_rfl) ⟨c3, rfl, rfl, trivial⟩
  · rcases itS h with ⟨c5, h⟩ | ⟨c6, h⟩
    · have h := Option.some.inj h
      subst h
      exact go_ret hΘ hm hP hn (hs := [⟨0, .new 1001, none⟩, ⟨1, .new 1002, none⟩, ⟨8, .br false, none⟩, ⟨14, .br true, none⟩]) (rh := []) (ph := .raw) (ps := [(p1.Thread != p2.Thread) = false, (p1.Kind != p2.Kind) = true, (B false) = (B false), litA (B false) = true]) (by kernel_rfl) ⟨c4, c5, rfl, rfl, trivial⟩
    · rcases itS h with ⟨c7, h⟩ | ⟨c8, h⟩
      · have h := Option.some.inj h
        subst h
        exact go_ret hΘ hm hP hn (hs := [⟨0, .new 1001, none⟩, ⟨1, .new 1002, none⟩, ⟨8, .br false, none⟩, ⟨14, .br false, none⟩, ⟨20, .br true, none⟩]) (rh := []) (ph := .raw) (ps := [(p1.Thread != p2.Thread) = false, (p1.Kind != p2.Kind) = false, (p1.Obj != p2.Obj) = true, (B false) = (B false), litA (B false) = true]) (by kernel_rfl) ⟨c4, c6, c7, rfl, rfl, trivial⟩
      · rcases itS h with ⟨c9, h⟩ | ⟨c10, h⟩
        · have h := Option.some.inj h
          subst h
          exact go_ret hΘ hm hP hn (hs := [⟨0, .new 1001, none⟩, ⟨1, .new 1002, none⟩, ⟨8, .br false, none⟩, ⟨14, .br false, none⟩, ⟨20, .br false, none⟩, ⟨26, .br true, none⟩]) (rh := []) (ph := .raw) (ps := [(p1.Thread != p2.Thread) = false, (p1.Kind != p2.Kind) = false, (p1.Obj != p2.Obj) = false, (p1.Lock != p2.Lock) = true, (B false) = (B false), litA (B false) = true]) (by kernel_rfl) ⟨c4, c6, c8, c9, rfl, rfl, trivial⟩
        · rcases itS h with ⟨c11, h⟩ | ⟨c12, h⟩
          · have h := Option.some.inj h
            subst h
            exact go_ret hΘ hm hP hn (hs := [⟨0, .new 1001, none⟩, ⟨1, .new 1002, none⟩, ⟨8, .br false, none⟩, ⟨14, .br false, none⟩, ⟨20, .br false, none⟩, ⟨26, .br false, none⟩, ⟨32, .br true, none⟩]) (rh := []) (ph := .raw) (ps := [(p1.Thread != p2.Thread) = false, (p1.Kind != p2.Kind) = false, (p1.Obj != p2.Obj) = false, (p1.Lock != p2.Lock) = false, (p1.Pc != p2.Pc) = true, (B false) = (B false), litA (B false) = true]) (by kernel_rfl) ⟨c4, c6, c8, c10, c11, rfl, rfl, trivial⟩
          · have h := Option.some.inj h
            subst h
            exact go_ret hΘ hm hP hn (hs := [⟨0, .new 1001, none⟩, ⟨1, .new 1002, none⟩, ⟨8, .br false, none⟩, ⟨14, .br false, none⟩, ⟨20, .br false, none⟩, ⟨26, .br false, none⟩, ⟨32, .br false, none⟩]) (rh := []) (ph := .raw) (ps := [(p1.Thread != p2.Thread) = false, (p1.Kind != p2.Kind) = false, (p1.Obj != p2.Obj) = false, (p1.Lock != p2.Lock) = false, (p1.Pc != p2.Pc) = false, (B true) = (B true), litA (B true) = true]) (by kernel_rfl) ⟨c4, c6, c8, c10, c12, rfl, rfl, trivial⟩
noncomputable def body13 : Code := match Try.f13.body with | some c => c | none => .skip
noncomputable def laws_eqEventS_l0  (p1 : (List GEvent)) (p2 : (List GEvent)) : Nat → Int → Option Bool
  | 0, _ => none
  | n + 1, v5 =>
  if (decide (v5 < (p1.length : Int))) = true then
    Option.bind (rd p1 v5) fun x7 =>
    Option.bind (rd p2 v5) fun x8 =>
    Option.bind (laws_eqEvent x7 x8) fun r9 =>
    if (!r9) = true then
      some false
    else
      laws_eqEventS_l0 p1 p2 n (w64 (v5 + 1))
  else
    some true
theorem laws_eqEventS_l0_m {E : Env} (hP : E.P = Try.prog) (hn : E.n = 27) (hx : ∀ p, p ∈ E.fx → p.1 ∈ ([] : List Nat)) (p1 : (List GEvent)) (p2 : (List GEvent))  : ∀ (n : Nat) (v5 : Int) (r : Bool), laws_eqEventS_l0 p1 p2 n v5 = some r → WAt E body13 (FQ (RetE Θ Try.f13.results.toList [] [] (B r) E)) [true, true, false, true, false] ⟨[(0, (AV.ro 5 (p1.map o50))), (1, (AV.ro 5 (p2.map o50))), (5, (I v5))], [], [JJ]⟩ := by
  have hm : E.P.follows .mixedOrders = true := by rw [hP]; exact mixed
  have hΘ : TOK E.P Θ := by rw [hP]; exact Θ_ok
  intro n
  induction n with
  | zero => intro v5 r h; simp only [laws_eqEventS_l0] at h; cases h
  | succ n ih =>
    intro v5 r h
    simp only [laws_eqEventS_l0] at h
    rcases itS h with ⟨c6, h⟩ | ⟨c12, h⟩
    · obtain ⟨x7, hx7, h⟩ := bnS h
      obtain ⟨x8, hx8, h⟩ := bnS h
      obtain ⟨r9, hr9, h⟩ := bnS h
      rcases itS h with ⟨c10, h⟩ | ⟨c11, h⟩
      · have h := Option.some.inj h
        subst h
        exact go_ret hΘ hm hP hn (hs := [⟨2, .no, some (I (p1.length : Int))⟩, ⟨4, .br true, none⟩, ⟨7, .row (o50 x7), none⟩, ⟨11, .row (o50 x8), none⟩, ⟨13, .callV [[], []] (B r9), none⟩, ⟨15, .br true, none⟩]) (rh := []) (ph := .raw) (ps := [AV.lit (.int .i64 (((p1.map o50).length : Nat) : Int)) = (I (p1.length : Int)), (decide (v5 < (p1.length : Int))) = true, (0 : Int) ≤ v5, (p1.map o50)[(Int.toNat v5)]? = some (o50 x7), (0 : Int) ≤ v5, (p2.map o50)[(Int.toNat v5)]? = some (o50 x8), Meets Try.prog 38 [(AV.agg ((o50 x7))), (AV.agg ((o50 x8)))] (B r9), litA (B r9) = true, (!r9) = true, (B false) = (B false), litA (B false) = true]) (by kernel_rfl) ⟨(lenM o50), c6, (rd0 hx7), (rdM o50 hx7), (rd0 hx8), (rdM o50 hx8), (laws_eqEvent_m hr9), rfl, c10, rfl, rfl, trivial⟩
      · exact go_to hΘ hm hx hP hn (hs := [⟨2, .no, some (I (p1.length : Int))⟩, ⟨4, .br true, none⟩, ⟨7, .row (o50 x7), none⟩, ⟨11, .row (o50 x8), none⟩, ⟨13, .callV [[], []] (B r9), none⟩, ⟨15, .br false, none⟩]) (π := []) (ts := [0, 1, 5]) (kp := []) (ps := [AV.lit (.int .i64 (((p1.map o50).length : Nat) : Int)) = (I (p1.length : Int)), (decide (v5 < (p1.length : Int))) = true, (0 : Int) ≤ v5, (p1.map o50)[(Int.toNat v5)]? = some (o50 x7), (0 : Int) ≤ v5, (p2.map o50)[(Int.toNat v5)]? = some (o50 x8), Meets Try.prog 38 [(AV.agg ((o50 x7))), (AV.agg ((o50 x8)))] (B r9), litA (B r9) = true, (!r9) = false]) (by kernel_rfl) ⟨(lenM o50), c6, (rd0 hx7), (rdM o50 hx7), (rd0 hx8), (rdM o50 hx8), (laws_eqEvent_m hr9), rfl, c11, trivial⟩ (ih (w64 (v5 + 1)) _ h)
    · have h := Option.some.inj h
      subst h
      exact go_ret hΘ hm hP hn (hs := [⟨2, .no, some (I (p1.length : Int))⟩, ⟨4, .br false, none⟩]) (rh := []) (ph := .raw) (ps := [AV.lit (.int .i64 (((p1.map o50).length : Nat) : Int)) = (I (p1.length : Int)), (decide (v5 < (p1.length : Int))) = false, (B true) = (B true), litA (B true) = true]) (by kernel_rfl) ⟨(lenM o50), c12, rfl, rfl, trivial⟩
noncomputable def laws_eqEventS (p1 : (List GEvent)) (p2 : (List GEvent)) : Option Bool :=
  if ((p1.length : Int) != (p2.length : Int)) = true then
    some false
  else
    laws_eqEventS_l0 p1 p2 FU 0
theorem laws_eqEventS_m {p1 : (List GEvent)} {p2 : (List GEvent)} {r : Bool} (h : laws_eqEventS p1 p2 = some r) : Meets Try.prog 13 [(AV.ro 5 (p1.map o50)), (AV.ro 5 (p2.map o50))] (B r) := by
  refine meets_ofC Θ_ok Try.func13 rfl (c := body13) (by kernel_rfl) (Nat.le_of_ble_eq_true rfl) ?_
  intro E hP hn hx
  replace hn : E.n = 27 := hn
  have hm : E.P.follows .mixedOrders = true := by rw [hP]; exact mixed
  have hΘ : TOK E.P Θ := by rw [hP]; exact Θ_ok
  unfold laws_eqEventS at h
  show WAt E body13 (FQ (RetE Θ Try.f13.results.toList [] [] (B r) E)) [] ⟨[(0, (AV.ro 5 (p1.map o50))), (1, (AV.ro 5 (p2.map o50)))], [], [JJ]⟩
  rcases itS h with ⟨c3, h⟩ | ⟨c4, h⟩
  · have h := Option.some.inj h
    subst h
    exact go_ret hΘ hm hP hn (hs := [⟨2, .no, some (I (p1.length : Int))⟩, ⟨4, .no, some (I (p2.length : Int))⟩, ⟨6, .br true, none⟩]) (rh := []) (ph := .raw) (ps := [AV.lit (.int .i64 (((p1.map o50).length : Nat) : Int)) = (I (p1.length : Int)), AV.lit (.int .i64 (((p2.map o50).length : Nat) : Int)) = (I (p2.length : Int)), ((p1.length : Int) != (p2.length : Int)) = true, (B false) = (B false), litA (B false) = true]) (by kernel_rfl) ⟨(lenM o50), (lenM o50), c3, rfl, rfl, trivial⟩
  · exact go_to hΘ hm hx hP hn (hs := [⟨2, .no, some (I (p1.length : Int))⟩, ⟨4, .no, some (I (p2.length : Int))⟩, ⟨6, .br false, none⟩]) (π := []) (ts := [0, 1, 5]) (kp := []) (ps := [AV.lit (.int .i64 (((p1.map o50).length : Nat) : Int)) = (I (p1.length : Int)), AV.lit (.int .i64 (((p2.map o50).length : Nat) : Int)) = (I (p2.length : Int)), ((p1.length : Int) != (p2.length : Int)) = false]) (by kernel_rfl) ⟨(lenM o50), (lenM o50), c4, trivial⟩ (laws_eqEventS_l0_m hP hn hx p1 p2 FU 0 _ h)
noncomputable def body19 : Code := match Try.f19.body with | some c => c | none => .skip
noncomputable def laws_eqIntS_l0  (p1 : (List Int)) (p2 : (List Int)) : Nat → Int → Option Bool
  | 0, _ => none
  | n + 1, v5 =>
  if (decide (v5 < (p1.length : Int))) = true then
    Option.bind (rd p1 v5) fun x7 =>
    Option.bind (rd p2 v5) fun x8 =>
    if (x7 != x8) = true then
      some false
    else
      laws_eqIntS_l0 p1 p2 n (w64 (v5 + 1))
  else
    some true
theorem laws_eqIntS_l0_m {E : Env} (hP : E.P = Try.prog) (hn : E.n = 26) (hx : ∀ p, p ∈ E.fx → p.1 ∈ ([] : List Nat)) (p1 : (List Int)) (p2 : (List Int))  : ∀ (n : Nat) (v5 : Int) (r : Bool), laws_eqIntS_l0 p1 p2 n v5 = some r → WAt E body19 (FQ (RetE Θ Try.f19.results.toList [] [] (B r) E)) [true, true, false, true, false] ⟨[(0, (AV.ro 1 (p1.map o3))), (1, (AV.ro 1 (p2.map o3))), (5, (I v5))], [], [JJ]⟩ := by
  have hm : E.P.follows .mixedOrders = true := by rw [hP]; exact mixed
  have hΘ : TOK E.P Θ := by rw [hP]; exact Θ_ok
  intro n
  induction n with
  | zero => intro v5 r h; simp only [laws_eqIntS_l0] at h; cases h
  | succ n ih =>
    intro v5 r h
    simp only [laws_eqIntS_l0] at h
    rcases itS h with ⟨c6, h⟩ | ⟨c11, h⟩
    · obtain ⟨x7, hx7, h⟩ := bnS h
      obtain ⟨x8, hx8, h⟩ := bnS h
      rcases itS h with ⟨c9, h⟩ | ⟨c10, h⟩
      · have h := Option.some.inj h
        subst h
        exact go_ret hΘ hm hP hn (hs := [⟨2, .no, some (I (p1.length : Int))⟩, ⟨4, .br true, none⟩, ⟨7, .row (o3 x7), none⟩, ⟨11, .row (o3 x8), none⟩, ⟨14, .br true, none⟩]) (rh := []) (ph := .raw) (ps := [AV.lit (.int .i64 (((p1.map o3).length : Nat) : Int)) = (I (p1.length : Int)), (decide (v5 < (p1.length : Int))) = true, (0 : Int) ≤ v5, (p1.map o3)[(Int.toNat v5)]? = some (o3 x7), (0 : Int) ≤ v5, (p2.map o3)[(Int.toNat v5)]? = some (o3 x8), (x7 != x8) = true, (B false) = (B false), litA (B false) = true]) (by kernel_rfl) ⟨(lenM o3), c6, (rd0 hx7), (rdM o3 hx7), (rd0 hx8), (rdM o3 hx8), c9, rfl, rfl, trivial⟩
      · exact go_to hΘ hm hx hP hn (hs := [⟨2, .no, some (I (p1.length : Int))⟩, ⟨4, .br true, none⟩, ⟨7, .row (o3 x7), none⟩, ⟨11, .row (o3 x8), none⟩, ⟨14, .br false, none⟩]) (π := []) (ts := [0, 1, 5]) (kp := []) (ps := [AV.lit (.int .i64 (((p1.map o3).length : Nat) : Int)) = (I (p1.length : Int)), (decide (v5 < (p1.length : Int))) = true, (0 : Int) ≤ v5, (p1.map o3)[(Int.toNat v5)]? = some (o3 x7), (0 : Int) ≤ v5, (p2.map o3)[(Int.toNat v5)]? = some (o3 x8), (x7 != x8) = false]) (by kernel_rfl) ⟨(lenM o3), c6, (rd0 hx7), (rdM o3 hx7), (rd0 hx8), (rdM o3 hx8), c10, trivial⟩ (ih (w64 (v5 + 1)) _ h)
    · have h := Option.some.inj h
      subst h
      exact go_ret hΘ hm hP hn (hs := [⟨2, .no, some (I (p1.length : Int))⟩, ⟨4, .br false, none⟩]) (rh := []) (ph := .raw) (ps := [AV.lit (.int .i64 (((p1.map o3).length : Nat) : Int)) = (I (p1.length : Int)), (decide (v5 < (p1.length : Int))) = false, (B true) = (B true), litA (B true) = true]) (by kernel_rfl) ⟨(lenM o3), c11, rfl, rfl, trivial⟩
noncomputable def laws_eqIntS (p1 : (List Int)) (p2 : (List Int)) : Option Bool :=
  if ((p1.length : Int) != (p2.length : Int)) = true then
    some false
  else
    laws_eqIntS_l0 p1 p2 FU 0
theorem laws_eqIntS_m {p1 : (List Int)} {p2 : (List Int)} {r : Bool} (h : laws_eqIntS p1 p2 = some r) : Meets Try.prog 19 [(AV.ro 1 (p1.map o3)), (AV.ro 1 (p2.map o3))] (B r) := by
  refine meets_ofC Θ_ok Try.func19 rfl (c := body19) (by kernel_rfl) (Nat.le_of_ble_eq_true rfl) ?_
  intro E hP hn hx
  replace hn : E.n = 26 := hn
  have hm : E.P.follows .mixedOrders = true := by rw [hP]; exact mixed
  have hΘ : TOK E.P Θ := by rw [hP]; exact Θ_ok
  unfold laws_eqIntS at h
  show WAt E body19 (FQ (RetE Θ Try.f19.results.toList [] [] (B r) E)) [] ⟨[(0, (AV.ro 1 (p1.map o3))), (1, (AV.ro 1 (p2.map o3)))], [], [JJ]⟩
  rcases itS h with ⟨c3, h⟩ | ⟨c4, h⟩
  · have h := Option.some.inj h
    subst h
    exact go_ret hΘ hm hP hn (hs := [⟨2, .no, some (I (p1.length : Int))⟩, ⟨4, .no, some (I (p2.length : Int))⟩, ⟨6, .br true, none⟩]) (rh := []) (ph := .raw) (ps := [AV.lit (.int .i64 (((p1.map o3).length : Nat) : Int)) = (I (p1.length : Int)), AV.lit (.int .i64 (((p2.map o3).length : Nat) : Int)) = (I (p2.length : Int)), ((p1.length : Int) != (p2.length : Int)) = true, (B false) = (B false), litA (B false) = true]) (by kernel_rfl) ⟨(lenM o3), (lenM o3), c3, rfl, rfl, trivial⟩
  · exact go_to hΘ hm hx hP hn (hs := [⟨2, .no, some (I (p1.length : Int))⟩, ⟨4, .no, some (I (p2.length : Int))⟩, ⟨6, .br false, none⟩]) (π := []) (ts := [0, 1, 5]) (kp := []) (ps := [AV.lit (.int .i64 (((p1.map o3).length : Nat) : Int)) = (I (p1.length : Int)), AV.lit (.int .i64 (((p2.map o3).length : Nat) : Int)) = (I (p2.length : Int)), ((p1.length : Int) != (p2.length : Int)) = false]) (by kernel_rfl) ⟨(lenM o3), (lenM o3), c4, trivial⟩ (laws_eqIntS_l0_m hP hn hx p1 p2 FU 0 _ h)
noncomputable def body28 : Code := match Try.f28.body with | some c => c | none => .skip
noncomputable def laws_eqIntSS_l0  (p1 : (List (List Int))) (p2 : (List (List Int))) : Nat → Int → Option Bool
  | 0, _ => none
  | n + 1, v5 =>
  if (decide (v5 < (p1.length : Int))) = true then
    Option.bind (rd p1 v5) fun x7 =>
    Option.bind (rd p2 v5) fun x8 =>
    Option.bind (laws_eqIntS x7 x8) fun r9 =>
    if (!r9) = true then
      some false
    else
      laws_eqIntSS_l0 p1 p2 n (w64 (v5 + 1))
  else
    some true
theorem laws_eqIntSS_l0_m {E : Env} (hP : E.P = Try.prog) (hn : E.n = 27) (hx : ∀ p, p ∈ E.fx → p.1 ∈ ([] : List Nat)) (p1 : (List (List Int))) (p2 : (List (List Int)))  : ∀ (n : Nat) (v5 : Int) (r : Bool), laws_eqIntSS_l0 p1 p2 n v5 = some r → WAt E body28 (FQ (RetE Θ Try.f28.results.toList [] [] (B r) E)) [true, true, false, true, false] ⟨[(0, (AV.ro 1 (p1.map r32))), (1, (AV.ro 1 (p2.map r32))), (5, (I v5))], [], [JJ]⟩ := by
  have hm : E.P.follows .mixedOrders = true := by rw [hP]; exact mixed
  have hΘ : TOK E.P Θ := by rw [hP]; exact Θ_ok
  intro n
  induction n with
  | zero => intro v5 r h; simp only [laws_eqIntSS_l0] at h; cases h
  | succ n ih =>
    intro v5 r h
    simp only [laws_eqIntSS_l0] at h
    rcases itS h with ⟨c6, h⟩ | ⟨c12, h⟩
    · obtain ⟨x7, hx7, h⟩ := bnS h
      obtain ⟨x8, hx8, h⟩ := bnS h
      obtain ⟨r9, hr9, h⟩ := bnS h
      rcases itS h with ⟨c10, h⟩ | ⟨c11, h⟩
      · have h := Option.some.inj h
        subst h
        exact go_ret hΘ hm hP hn (hs := [⟨2, .no, some (I (p1.length : Int))⟩, ⟨4, .br true, none⟩, ⟨7, .row (r32 x7), none⟩, ⟨11, .row (r32 x8), none⟩, ⟨13, .callV [] (B r9), none⟩, ⟨15, .br true, none⟩]) (rh := []) (ph := .raw) (ps := [AV.lit (.int .i64 (((p1.map r32).length : Nat) : Int)) = (I (p1.length : Int)), (decide (v5 < (p1.length : Int))) = true, (0 : Int) ≤ v5, (p1.map r32)[(Int.toNat v5)]? = some (r32 x7), (0 : Int) ≤ v5, (p2.map r32)[(Int.toNat v5)]? = some (r32 x8), Meets Try.prog 19 [(AV.ro 1 (x7.map o3)), (AV.ro 1 (x8.map o3))] (B r9), litA (B r9) = true, (!r9) = true, (B false) = (B false), litA (B false) = true]) (by kernel_rfl) ⟨(lenM r32), c6, (rd0 hx7), (rdM r32 hx7), (rd0 hx8), (rdM r32 hx8), (laws_eqIntS_m hr9), rfl, c10, rfl, rfl, trivial⟩
      · exact go_to hΘ hm hx hP hn (hs := [⟨2, .no, some (I (p1.length : Int))⟩, ⟨4, .br true, none⟩, ⟨7, .row (r32 x7), none⟩, ⟨11, .row (r32 x8), none⟩, ⟨13, .callV [] (B r9), none⟩, ⟨15, .br false, none⟩]) (π := []) (ts := [0, 1, 5]) (kp := []) (ps := [AV.lit (.int .i64 (((p1.map r32).length : Nat) : Int)) = (I (p1.length : Int)), (decide (v5 < (p1.length : Int))) = true, (0 : Int) ≤ v5, (p1.map r32)[(Int.toNat v5)]? = some (r32 x7), (0 : Int) ≤ v5, (p2.map r32)[(Int.toNat v5)]? = some (r32 x8), Meets Try.prog 19 [(AV.ro 1 (x7.map o3)), (AV.ro 1 (x8.map o3))] (B r9), litA (B r9) = true, (!r9) = false]) (by kernel_rfl) ⟨(lenM r32), c6, (rd0 hx7), (rdM r32 hx7), (rd0 hx8), (rdM r32 hx8), (laws_eqIntS_m hr9), rfl, c11, trivial⟩ (ih (w64 (v5 + 1)) _ h)
    · have h := Option.some.inj h
      subst h
      exact go_ret hΘ hm hP hn (hs := [⟨2, .no, some (I (p1.length : Int))⟩, ⟨4, .br false, none⟩]) (rh := []) (ph := .raw) (ps := [AV.lit (.int .i64 (((p1.map r32).length : Nat) : Int)) = (I (p1.length : Int)), (decide (v5 < (p1.length : Int))) = false, (B true) = (B true), litA (B true) = true]) (by kernel_rfl) ⟨(lenM r32), c12, rfl, rfl, trivial⟩
noncomputable def laws_eqIntSS (p1 : (List (List Int))) (p2 : (List (List Int))) : Option Bool :=
  if ((p1.length : Int) != (p2.length : Int)) = true then
    some false
  else
    laws_eqIntSS_l0 p1 p2 FU 0
theorem laws_eqIntSS_m {p1 : (List (List Int))} {p2 : (List (List Int))} {r : Bool} (h : laws_eqIntSS p1 p2 = some r) : Meets Try.prog 28 [(AV.ro 1 (p1.map r32)), (AV.ro 1 (p2.map r32))] (B r) := by
  refine meets_ofC Θ_ok Try.func28 rfl (c := body28) (by kernel_rfl) (Nat.le_of_ble_eq_true rfl) ?_
  intro E hP hn hx
  replace hn : E.n = 27 := hn
  have hm : E.P.follows .mixedOrders = true := by rw [hP]; exact mixed
  have hΘ : TOK E.P Θ := by rw [hP]; exact Θ_ok
  unfold laws_eqIntSS at h
  show WAt E body28 (FQ (RetE Θ Try.f28.results.toList [] [] (B r) E)) [] ⟨[(0, (AV.ro 1 (p1.map r32))), (1, (AV.ro 1 (p2.map r32)))], [], [JJ]⟩
  rcases itS h with ⟨c3, h⟩ | ⟨c4, h⟩
  · have h := Option.some.inj h
    subst h
    exact go_ret hΘ hm hP hn (hs := [⟨2, .no, some (I (p1.length : Int))⟩, ⟨4, .no, some (I (p2.length : Int))⟩, ⟨6, .br true, none⟩]) (rh := []) (ph := .raw) (ps := [AV.lit (.int .i64 (((p1.map r32).length : Nat) : Int)) = (I (p1.length : Int)), AV.lit (.int .i64 (((p2.map r32).length : Nat) : Int)) = (I (p2.length : Int)), ((p1.length : Int) != (p2.length : Int)) = true, (B false) = (B false), litA (B false) = true]) (by kernel_rfl) ⟨(lenM r32), (lenM r32), c3, rfl, rfl, trivial⟩
  · exact go_to hΘ hm hx hP hn (hs := [⟨2, .no, some (I (p1.length : Int))⟩, ⟨4, .no, some (I (p2.length : Int))⟩, ⟨6, .br false, none⟩]) (π := []) (ts := [0, 1, 5]) (kp := []) (ps := [AV.lit (.int .i64 (((p1.map r32).length : Nat) : Int)) = (I (p1.length : Int)), AV.lit (.int .i64 (((p2.map r32).length : Nat) : Int)) = (I (p2.length : Int)), ((p1.length : Int) != (p2.length : Int)) = false]) (by kernel_rfl) ⟨(lenM r32), (lenM r32), c4, trivial⟩ (laws_eqIntSS_l0_m hP hn hx p1 p2 FU 0 _ h)
noncomputable def body54 : Code := match Try.f54.body with | some c => c | none => .skip
noncomputable def laws_heldIntS_l0  (p1 : (List Int)) : Nat → Int → Int → Option Int
  | 0, _, _ => none
  | n + 1, v3, v4 =>
  if (decide (v4 < (p1.length : Int))) = true then
    Option.bind (rd p1 v4) fun x6 =>
    if (x6 != v3) = true then
      some (-1)
    else
      laws_heldIntS_l0 p1 n (w64 (v3 + 1)) (w64 (v4 + 1))
  else
    some v3
theorem laws_heldIntS_l0_m {E : Env} (hP : E.P = Try.prog) (hn : E.n = 21) (hx : ∀ p, p ∈ E.fx → p.1 ∈ ([] : List Nat)) (p1 : (List Int))  : ∀ (n : Nat) (v3 : Int) (v4 : Int) (r : Int), laws_heldIntS_l0 p1 n v3 v4 = some r → WAt E body54 (FQ (RetE Θ Try.f54.results.toList [] [] (I r) E)) [true, false, true, false] ⟨[(0, (AV.ro 1 (p1.map o3))), (1, (I v3)), (5, (I v4))], [], [JJ]⟩ := by
  have hm : E.P.follows .mixedOrders = true := by rw [hP]; exact mixed
  have hΘ : TOK E.P Θ := by rw [hP]; exact Θ_ok
  intro n
  induction n with
  | zero => intro v3 v4 r h; simp only [laws_heldIntS_l0] at h; cases h
  | succ n ih =>
    intro v3 v4 r h
    simp only [laws_heldIntS_l0] at h
    rcases itS h with ⟨c5, h⟩ | ⟨c9, h⟩
    · obtain ⟨x6, hx6, h⟩ := bnS h
      rcases itS h with ⟨c7, h⟩ | ⟨c8, h⟩
      · have h := Option.some.inj h
        subst h
        exact go_ret hΘ hm hP hn (hs := [⟨2, .no, some (I (p1.length : Int))⟩, ⟨4, .br true, none⟩, ⟨7, .row (o3 x6), none⟩, ⟨11, .br true, none⟩]) (rh := []) (ph := .raw) (ps := [AV.lit (.int .i64 (((p1.map o3).length : Nat) : Int)) = (I (p1.length : Int)), (decide (v4 < (p1.length : Int))) = true, (0 : Int) ≤ v4, (p1.map o3)[(Int.toNat v4)]? = some (o3 x6), (x6 != v3) = true, (I (-1)) = (I (-1)), litA (I (-1)) = true]) (by kernel_rfl) ⟨(lenM o3), c5, (rd0 hx6), (rdM o3 hx6), c7, rfl, rfl, trivial⟩
      · exact go_to hΘ hm hx hP hn (hs := [⟨2, .no, some (I (p1.length : Int))⟩, ⟨4, .br true, none⟩, ⟨7, .row (o3 x6), none⟩, ⟨11, .br false, none⟩]) (π := []) (ts := [0, 1, 5]) (kp := []) (ps := [AV.lit (.int .i64 (((p1.map o3).length : Nat) : Int)) = (I (p1.length : Int)), (decide (v4 < (p1.length : Int))) = true, (0 : Int) ≤ v4, (p1.map o3)[(Int.toNat v4)]? = some (o3 x6), (x6 != v3) = false]) (by kernel_rfl) ⟨(lenM o3), c5, (rd0 hx6), (rdM o3 hx6), c8, trivial⟩ (ih (w64 (v3 + 1)) (w64 (v4 + 1)) _ h)
    · have h := Option.some.inj h
      subst h
      exact go_ret hΘ hm hP hn (hs := [⟨2, .no, some (I (p1.length : Int))⟩, ⟨4, .br false, none⟩]) (rh := []) (ph := .raw) (ps := [AV.lit (.int .i64 (((p1.map o3).length : Nat) : Int)) = (I (p1.length : Int)), (decide (v4 < (p1.length : Int))) = false, (I v3) = (I v3), litA (I v3) = true]) (by kernel_rfl) ⟨(lenM o3), c9, rfl, rfl, trivial⟩
noncomputable def laws_heldIntS (p1 : (List Int)) (p2 : Int) : Option Int :=
  laws_heldIntS_l0 p1 FU p2 0
theorem laws_heldIntS_m {p1 : (List Int)} {p2 : Int} {r : Int} (h : laws_heldIntS p1 p2 = some r) : Meets Try.prog 54 [(AV.ro 1 (p1.map o3)), (I p2)] (I r) := by
  refine meets_ofC Θ_ok Try.func54 rfl (c := body54) (by kernel_rfl) (Nat.le_of_ble_eq_true rfl) ?_
  intro E hP hn hx
  replace hn : E.n = 21 := hn
  have hm : E.P.follows .mixedOrders = true := by rw [hP]; exact mixed
  have hΘ : TOK E.P Θ := by rw [hP]; exact Θ_ok
  unfold laws_heldIntS at h
  show WAt E body54 (FQ (RetE Θ Try.f54.results.toList [] [] (I r) E)) [] ⟨[(0, (AV.ro 1 (p1.map o3))), (1, (I p2))], [], [JJ]⟩
  exact go_to hΘ hm hx hP hn (hs := []) (π := []) (ts := [0, 1, 5]) (kp := []) (ps := []) (by kernel_rfl) trivial (laws_heldIntS_l0_m hP hn hx p1 FU p2 0 _ h)
noncomputable def body30 : Code := match Try.f30.body with | some c => c | none => .skip
noncomputable def laws_heldIntSS_l0  (p1 : (List (List Int))) : Nat → Int → Int → Option Int
  | 0, _, _ => none
  | n + 1, v3, v4 =>
  if (decide (v4 < (p1.length : Int))) = true then
    Option.bind (rd p1 v4) fun x6 =>
    Option.bind (laws_heldIntS x6 v3) fun r7 =>
    if (decide (r7 < 0)) = true then
      some (-1)
    else
      laws_heldIntSS_l0 p1 n r7 (w64 (v4 + 1))
  else
    some v3
theorem laws_heldIntSS_l0_m {E : Env} (hP : E.P = Try.prog) (hn : E.n = 21) (hx : ∀ p, p ∈ E.fx → p.1 ∈ ([] : List Nat)) (p1 : (List (List Int)))  : ∀ (n : Nat) (v3 : Int) (v4 : Int) (r : Int), laws_heldIntSS_l0 p1 n v3 v4 = some r → WAt E body30 (FQ (RetE Θ Try.f30.results.toList [] [] (I r) E)) [true, false, true, false] ⟨[(0, (AV.ro 1 (p1.map r32))), (1, (I v3)), (5, (I v4))], [], [JJ]⟩ := by
  have hm : E.P.follows .mixedOrders = true := by rw [hP]; exact mixed
  have hΘ : TOK E.P Θ := by rw [hP]; exact Θ_ok
  intro n
  induction n with
  | zero => intro v3 v4 r h; simp only [laws_heldIntSS_l0] at h; cases h
  | succ n ih =>
    intro v3 v4 r h
    simp only [laws_heldIntSS_l0] at h
    rcases itS h with ⟨c5, h⟩ | ⟨c10, h⟩
    · obtain ⟨x6, hx6, h⟩ := bnS h
      obtain ⟨r7, hr7, h⟩ := bnS h
      rcases itS h with ⟨c8, h⟩ | ⟨c9, h⟩
      · have h := Option.some.inj h
        subst h
        exact go_ret hΘ hm hP hn (hs := [⟨2, .no, some (I (p1.length : Int))⟩, ⟨4, .br true, none⟩, ⟨7, .row (r32 x6), none⟩, ⟨10, .callV [] (I r7), none⟩, ⟨14, .br true, none⟩]) (rh := []) (ph := .raw) (ps := [AV.lit (.int .i64 (((p1.map r32).length : Nat) : Int)) = (I (p1.length : Int)), (decide (v4 < (p1.length : Int))) = true, (0 : Int) ≤ v4, (p1.map r32)[(Int.toNat v4)]? = some (r32 x6), Meets Try.prog 54 [(AV.ro 1 (x6.map o3)), (I v3)] (I r7), litA (I r7) = true, (decide (r7 < 0)) = true, (I (-1)) = (I (-1)), litA (I (-1)) = true]) (by kernel_rfl) ⟨(lenM r32), c5, (rd0 hx6), (rdM r32 hx6), (laws_heldIntS_m hr7), rfl, c8, rfl, rfl, trivial⟩
      · exact go_to hΘ hm hx hP hn (hs := [⟨2, .no, some (I (p1.length : Int))⟩, ⟨4, .br true, none⟩, ⟨7, .row (r32 x6), none⟩, ⟨10, .callV [] (I r7), none⟩, ⟨14, .br false, none⟩]) (π := []) (ts := [0, 1, 5]) (kp := []) (ps := [AV.lit (.int .i64 (((p1.map r32).length : Nat) : Int)) = (I (p1.length : Int)), (decide (v4 < (p1.length : Int))) = true, (0 : Int) ≤ v4, (p1.map r32)[(Int.toNat v4)]? = some (r32 x6), Meets Try.prog 54 [(AV.ro 1 (x6.map o3)), (I v3)] (I r7), litA (I r7) = true, (decide (r7 < 0)) = false]) (by kernel_rfl) ⟨(lenM r32), c5, (rd0 hx6), (rdM r32 hx6), (laws_heldIntS_m hr7), rfl, c9, trivial⟩ (ih r7 (w64 (v4 + 1)) _ h)
    · have h := Option.some.inj h
      subst h
      exact go_ret hΘ hm hP hn (hs := [⟨2, .no, some (I (p1.length : Int))⟩, ⟨4, .br false, none⟩]) (rh := []) (ph := .raw) (ps := [AV.lit (.int .i64 (((p1.map r32).length : Nat) : Int)) = (I (p1.length : Int)), (decide (v4 < (p1.length : Int))) = false, (I v3) = (I v3), litA (I v3) = true]) (by kernel_rfl) ⟨(lenM r32), c10, rfl, rfl, trivial⟩
noncomputable def laws_heldIntSS (p1 : (List (List Int))) (p2 : Int) : Option Int :=
  laws_heldIntSS_l0 p1 FU p2 0
theorem laws_heldIntSS_m {p1 : (List (List Int))} {p2 : Int} {r : Int} (h : laws_heldIntSS p1 p2 = some r) : Meets Try.prog 30 [(AV.ro 1 (p1.map r32)), (I p2)] (I r) := by
  refine meets_ofC Θ_ok Try.func30 rfl (c := body30) (by kernel_rfl) (Nat.le_of_ble_eq_true rfl) ?_
  intro E hP hn hx
  replace hn : E.n = 21 := hn
  have hm : E.P.follows .mixedOrders = true := by rw [hP]; exact mixed
  have hΘ : TOK E.P Θ := by rw [hP]; exact Θ_ok
  unfold laws_heldIntSS at h
  show WAt E body30 (FQ (RetE Θ Try.f30.results.toList [] [] (I r) E)) [] ⟨[(0, (AV.ro 1 (p1.map r32))), (1, (I p2))], [], [JJ]⟩
  exact go_to hΘ hm hx hP hn (hs := []) (π := []) (ts := [0, 1, 5]) (kp := []) (ps := []) (by kernel_rfl) trivial (laws_heldIntSS_l0_m hP hn hx p1 FU p2 0 _ h)
noncomputable def body22 : Code := match Try.f22.body with | some c => c | none => .skip
noncomputable def laws_markEventS_l0   : Nat → (List GEvent) → Int → Int → Option (Int × (List GEvent))
  | 0, _, _, _ => none
  | n + 1, a3, v4, v5 =>
  if (decide (v5 < (a3.length : Int))) = true then
    Option.bind (rd a3 v5) fun x7 =>
    laws_markEventS_l0 n (a3.set (Int.toNat v5) (GEvent.mk v4 (w64 (v4 + 1)) (w64 ((w64 (v4 + 1)) + 1)) (w64 ((w64 ((w64 (v4 + 1)) + 1)) + 1)) (w64 ((w64 ((w64 ((w64 (v4 + 1)) + 1)) + 1)) + 1)))) (w64 ((w64 ((w64 ((w64 ((w64 (v4 + 1)) + 1)) + 1)) + 1)) + 1)) (w64 (v5 + 1))
  else
    some (v4, a3)
theorem laws_markEventS_l0_m {E : Env} (hP : E.P = Try.prog) (hn : E.n = 48) (hx : ∀ p, p ∈ E.fx → p.1 ∈ ([0] : List Nat))   : ∀ (n : Nat) (a3 : (List GEvent)) (v4 : Int) (v5 : Int) (r : (Int × (List GEvent))), laws_markEventS_l0  n a3 v4 v5 = some r → WAt E body22 (FQ (RetE Θ Try.f22.results.toList [true] [⟨50, 5, (r.2.map o50)⟩] (I r.1) E)) [true, false, true, false] ⟨[(0, (AV.sl 0 0 (List.length (a3.map o50)))), (1, (I v4)), (5, (I v5))], [(0, some ⟨50, 5, (a3.map o50)⟩)], [0, JJ]⟩ := by
  have hm : E.P.follows .mixedOrders = true := by rw [hP]; exact mixed
  have hΘ : TOK E.P Θ := by rw [hP]; exact Θ_ok
  intro n
  induction n with
  | zero => intro a3 v4 v5 r h; simp only [laws_markEventS_l0] at h; cases h
  | succ n ih =>
    intro a3 v4 v5 r h
    simp only [laws_markEventS_l0] at h
    rcases itS h with ⟨c6, h⟩ | ⟨c8, h⟩
    · obtain ⟨x7, hx7, h⟩ := bnS h
      exact go_to hΘ hm hx hP hn (hs := [⟨2, .no, some (I (a3.length : Int))⟩, ⟨4, .br true, none⟩, ⟨10, .sto ((o50 x7)) ((a3.set (Int.toNat v5) (GEvent.mk v4 x7.Kind x7.Obj x7.Lock x7.Pc)).map o50), none⟩, ⟨14, .slen 0 (List.length ((a3.set (Int.toNat v5) (GEvent.mk v4 x7.Kind x7.Obj x7.Lock x7.Pc)).map o50)), none⟩, ⟨19, .sto [(I v4), (I x7.Kind), (I x7.Obj), (I x7.Lock), (I x7.Pc)] ((a3.set (Int.toNat v5) (GEvent.mk v4 (w64 (v4 + 1)) x7.Obj x7.Lock x7.Pc)).map o50), none⟩, ⟨23, .slen 0 (List.length ((a3.set (Int.toNat v5) (GEvent.mk v4 (w64 (v4 + 1)) x7.Obj x7.Lock x7.Pc)).map o50)), none⟩, ⟨28, .sto [(I v4), (I (w64 (v4 + 1))), (I x7.Obj), (I x7.Lock), (I x7.Pc)] ((a3.set (Int.toNat v5) (GEvent.mk v4 (w64 (v4 + 1)) (w64 ((w64 (v4 + 1)) + 1)) x7.Lock x7.Pc)).map o50), none⟩, ⟨32, .slen 0 (List.length ((a3.set (Int.toNat v5) (GEvent.mk v4 (w64 (v4 + 1)) (w64 ((w64 (v4 + 1)) + 1)) x7.Lock x7.Pc)).map o50)), none⟩, ⟨37, .sto [(I v4), (I (w64 (v4 + 1))), (I (w64 ((w64 (v4 + 1)) + 1))), (I x7.Lock), (I x7.Pc)] ((a3.set (Int.toNat v5) (GEvent.mk v4 (w64 (v4 + 1)) (w64 ((w64 (v4 + 1)) + 1)) (w64 ((w64 ((w64 (v4 + 1)) + 1)) + 1)) x7.Pc)).map o50), none⟩, ⟨41, .slen 0 (List.length ((a3.set (Int.toNat v5) (GEvent.mk v4 (w64 (v4 + 1)) (w64 ((w64 (v4 + 1)) + 1)) (w64 ((w64 ((w64 (v4 + 1)) + 1)) + 1)) x7.Pc)).map o50)), none⟩, ⟨46, .sto [(I v4), (I (w64 (v4 + 1))), (I (w64 ((w64 (v4 + 1)) + 1))), (I (w64 ((w64 ((w64 (v4 + 1)) + 1)) + 1))), (I x7.Pc)] ((a3.set (Int.toNat v5) (GEvent.mk v4 (w64 (v4 + 1)) (w64 ((w64 (v4 + 1)) + 1)) (w64 ((w64 ((w64 (v4 + 1)) + 1)) + 1)) (w64 ((w64 ((w64 ((w64 (v4 + 1)) + 1)) + 1)) + 1)))).map o50), none⟩, ⟨53, .slen 0 (List.length ((a3.set (Int.toNat v5) (GEvent.mk v4 (w64 (v4 + 1)) (w64 ((w64 (v4 + 1)) + 1)) (w64 ((w64 ((w64 (v4 + 1)) + 1)) + 1)) (w64 ((w64 ((w64 ((w64 (v4 + 1)) + 1)) + 1)) + 1)))).map o50)), none⟩]) (π := [(0, 0)]) (ts := [0, 1, 5]) (kp := []) (ps := [AV.lit (.int .i64 (((List.length (a3.map o50)) : Nat) : Int)) = (I (a3.length : Int)), (decide (v5 < (a3.length : Int))) = true, (0 : Int) ≤ v5, v5 < (((List.length (a3.map o50)) : Nat) : Int), (a3.map o50)[(Int.toNat v5)]? = some ((o50 x7)), (a3.map o50).set (Int.toNat v5) (wr ((o50 x7)) 0 [(I v4)]) = ((a3.set (Int.toNat v5) (GEvent.mk v4 x7.Kind x7.Obj x7.Lock x7.Pc)).map o50), [(I v4)].length = 1, 0 + [(I v4)].length ≤ ((o50 x7)).length, (List.length (a3.map o50)) = (List.length ((a3.set (Int.toNat v5) (GEvent.mk v4 x7.Kind x7.Obj x7.Lock x7.Pc)).map o50)), (0 : Int) ≤ v5, v5 < (((List.length ((a3.set (Int.toNat v5) (GEvent.mk v4 x7.Kind x7.Obj x7.Lock x7.Pc)).map o50)) : Nat) : Int), ((a3.set (Int.toNat v5) (GEvent.mk v4 x7.Kind x7.Obj x7.Lock x7.Pc)).map o50)[(Int.toNat v5)]? = some [(I v4), (I x7.Kind), (I x7.Obj), (I x7.Lock), (I x7.Pc)], ((a3.set (Int.toNat v5) (GEvent.mk v4 x7.Kind x7.Obj x7.Lock x7.Pc)).map o50).set (Int.toNat v5) (wr [(I v4), (I x7.Kind), (I x7.Obj), (I x7.Lock), (I x7.Pc)] 1 [(I (w64 (v4 + 1)))]) = ((a3.set (Int.toNat v5) (GEvent.mk v4 (w64 (v4 + 1)) x7.Obj x7.Lock x7.Pc)).map o50), [(I (w64 (v4 + 1)))].length = 1, 1 + [(I (w64 (v4 + 1)))].length ≤ [(I v4), (I x7.Kind), (I x7.Obj), (I x7.Lock), (I x7.Pc)].length, (List.length ((a3.set (Int.toNat v5) (GEvent.mk v4 x7.Kind x7.Obj x7.Lock x7.Pc)).map o50)) = (List.length ((a3.set (Int.toNat v5) (GEvent.mk v4 (w64 (v4 + 1)) x7.Obj x7.Lock x7.Pc)).map o50)), (0 : Int) ≤ v5, v5 < (((List.length ((a3.set (Int.toNat v5) (GEvent.mk v4 (w64 (v4 + 1)) x7.Obj x7.Lock x7.Pc)).map o50)) : Nat) : Int), ((a3.set (Int.toNat v5) (GEvent.mk v4 (w64 (v4 + 1)) x7.Obj x7.Lock x7.Pc)).map o50)[(Int.toNat v5)]? = some [(I v4), (I (w64 (v4 + 1))), (I x7.Obj), (I x7.Lock), (I x7.Pc)], ((a3.set (Int.toNat v5) (GEvent.mk v4 (w64 (v4 + 1)) x7.Obj x7.Lock x7.Pc)).map o50).set (Int.toNat v5) (wr [(I v4), (I (w64 (v4 + 1))), (I x7.Obj), (I x7.Lock), (I x7.Pc)] 2 [(I (w64 ((w64 (v4 + 1)) + 1)))]) = ((a3.set (Int.toNat v5) (GEvent.mk v4 (w64 (v4 + 1)) (w64 ((w64 (v4 + 1)) + 1)) x7.Lock x7.Pc)).map o50), [(I (w64 ((w64 (v4 + 1)) + 1)))].length = 1, 2 + [(I (w64 ((w64 (v4 + 1)) + 1)))].length ≤ [(I v4), (I (w64 (v4 + 1))), (I x7.Obj), (I x7.Lock), (I x7.Pc)].length, (List.length ((a3.set (Int.toNat v5) (GEvent.mk v4 (w64 (v4 + 1)) x7.Obj x7.Lock x7.Pc)).map o50)) = (List.length ((a3.set (Int.toNat v5) (GEvent.mk v4 (w64 (v4 + 1)) (w64 ((w64 (v4 + 1)) + 1)) x7.Lock x7.Pc)).map o50)), (0 : Int) ≤ v5, v5 < (((List.length ((a3.set (Int.toNat v5) (GEvent.mk v4 (w64 (v4 + 1)) (w64 ((w64 (v4 + 1)) + 1)) x7.Lock x7.Pc)).map o50)) : Nat) : Int), ((a3.set (Int.toNat v5) (GEvent.mk v4 (w64 (v4 + 1)) (w64 ((w64 (v4 + 1)) + 1)) x7.Lock x7.Pc)).map o50)[(Int.toNat v5)]? = some [(I v4), (I (w64 (v4 + 1))), (I (w64 ((w64 (v4 + 1)) + 1))), (I x7.Lock), (I x7.Pc)], ((a3.set (Int.toNat v5) (GEvent.mk v4 (w64 (v4 + 1)) (w64 ((w64 (v4 + 1)) + 1)) x7.Lock x7.Pc)).map o50).set (Int.toNat v5) (wr [(I v4), (I (w64 (v4 + 1))), (I (w64 ((w64 (v4 + 1)) + 1))), (I x7.Lock), (I x7.Pc)] 3 [(I (w64 ((w64 ((w64 (v4 + 1)) + 1)) + 1)))]) = ((a3.set (Int.toNat v5) (GEvent.mk v4 (w64 (v4 + 1)) (w64 ((w64 (v4 + 1)) + 1)) (w64 ((w64 ((w64 (v4 + 1)) + 1)) + 1)) x7.Pc)).map o50), [(I (w64 ((w64 ((w64 (v4 + 1)) + 1)) + 1)))].length = 1, 3 + [(I (w64 ((w64 ((w64 (v4 + 1)) + 1)) + 1)))].length ≤ [(I v4), (I (w64 (v4 + 1))), (I (w64 ((w64 (v4 + 1)) + 1))), (I x7.Lock), (I x7.Pc)].length, (List.length ((a3.set (Int.toNat v5) (GEvent.mk v4 (w64 (v4 + 1)) (w64 ((w64 (v4 + 1)) + 1)) x7.Lock x7.Pc)).map o50)) = (List.length ((a3.set (Int.toNat v5) (GEvent.mk v4 (w64 (v4 + 1)) (w64 ((w64 (v4 + 1)) + 1)) (w64 ((w64 ((w64 (v4 + 1)) + 1)) + 1)) x7.Pc)).map o50)), (0 : Int) ≤ v5, v5 < (((List.length ((a3.set (Int.toNat v5) (GEvent.mk v4 (w64 (v4 + 1)) (w64 ((w64 (v4 + 1)) + 1)) (w64 ((w64 ((w64 (v4 + 1)) + 1)) + 1)) x7.Pc)).map o50)) : Nat) : Int), ((a3.set (Int.toNat v5) (GEvent.mk v4 (w64 (v4 + 1)) (w64 ((w64 (v4 + 1)) + 1)) (w64 ((w64 ((w64 (v4 + 1)) + 1)) + 1)) x7.Pc)).map o50)[(Int.toNat v5)]? = some [(I v4), (I (w64 (v4 + 1))), (I (w64 ((w64 (v4 + 1)) + 1))), (I (w64 ((w64 ((w64 (v4 + 1)) + 1)) + 1))), (I x7.Pc)], ((a3.set (Int.toNat v5) (GEvent.mk v4 (w64 (v4 + 1)) (w64 ((w64 (v4 + 1)) + 1)) (w64 ((w64 ((w64 (v4 + 1)) + 1)) + 1)) x7.Pc)).map o50).set (Int.toNat v5) (wr [(I v4), (I (w64 (v4 + 1))), (I (w64 ((w64 (v4 + 1)) + 1))), (I (w64 ((w64 ((w64 (v4 + 1)) + 1)) + 1))), (I x7.Pc)] 4 [(I (w64 ((w64 ((w64 ((w64 (v4 + 1)) + 1)) + 1)) + 1)))]) = ((a3.set (Int.toNat v5) (GEvent.mk v4 (w64 (v4 + 1)) (w64 ((w64 (v4 + 1)) + 1)) (w64 ((w64 ((w64 (v4 + 1)) + 1)) + 1)) (w64 ((w64 ((w64 ((w64 (v4 + 1)) + 1)) + 1)) + 1)))).map o50), [(I (w64 ((w64 ((w64 ((w64 (v4 + 1)) + 1)) + 1)) + 1)))].length = 1, 4 + [(I (w64 ((w64 ((w64 ((w64 (v4 + 1)) + 1)) + 1)) + 1)))].length ≤ [(I v4), (I (w64 (v4 + 1))), (I (w64 ((w64 (v4 + 1)) + 1))), (I (w64 ((w64 ((w64 (v4 + 1)) + 1)) + 1))), (I x7.Pc)].length, (List.length ((a3.set (Int.toNat v5) (GEvent.mk v4 (w64 (v4 + 1)) (w64 ((w64 (v4 + 1)) + 1)) (w64 ((w64 ((w64 (v4 + 1)) + 1)) + 1)) x7.Pc)).map o50)) = (List.length ((a3.set (Int.toNat v5) (GEvent.mk v4 (w64 (v4 + 1)) (w64 ((w64 (v4 + 1)) + 1)) (w64 ((w64 ((w64 (v4 + 1)) + 1)) + 1)) (w64 ((w64 ((w64 ((w64 (v4 + 1)) + 1)) + 1)) + 1)))).map o50)), RenOK [(0, 0)] ((a3.set (Int.toNat v5) (GEvent.mk v4 (w64 (v4 + 1)) (w64 ((w64 (v4 + 1)) + 1)) (w64 ((w64 ((w64 (v4 + 1)) + 1)) + 1)) (w64 ((w64 ((w64 ((w64 (v4 + 1)) + 1)) + 1)) + 1)))).map o50)]) (by kernel_rfl) ⟨(lenM o50), c6, (rd0 hx7), (rdL o50 hx7), (rdM o50 hx7), (setMr o50 (by kernel_rfl)), rfl, (Nat.le_of_ble_eq_true rfl), (by first | exact lnSet _ | exact lnSet2 _ | simp only [List.length_map, List.length_set, List.length_cons, List.length_nil]), (rd0 hx7), (rdL o50 (rdS (y := (GEvent.mk v4 x7.Kind x7.Obj x7.Lock x7.Pc)) hx7)), (rdM o50 (rdS (y := (GEvent.mk v4 x7.Kind x7.Obj x7.Lock x7.Pc)) hx7)), (setSS o50 (by kernel_rfl)), rfl, (Nat.le_of_ble_eq_true rfl), (by first | exact lnSet _ | exact lnSet2 _ | simp only [List.length_map, List.length_set, List.length_cons, List.length_nil]), (rd0 hx7), (rdL o50 (rdS (y := (GEvent.mk v4 (w64 (v4 + 1)) x7.Obj x7.Lock x7.Pc)) hx7)), (rdM o50 (rdS (y := (GEvent.mk v4 (w64 (v4 + 1)) x7.Obj x7.Lock x7.Pc)) hx7)), (setSS o50 (by kernel_rfl)), rfl, (Nat.le_of_ble_eq_true rfl), (by first | exact lnSet _ | exact lnSet2 _ | simp only [List.length_map, List.length_set, List.length_cons, List.length_nil]), (rd0 hx7), (rdL o50 (rdS (y := (GEvent.mk v4 (w64 (v4 + 1)) (w64 ((w64 (v4 + 1)) + 1)) x7.Lock x7.Pc)) hx7)), (rdM o50 (rdS (y := (GEvent.mk v4 (w64 (v4 + 1)) (w64 ((w64 (v4 + 1)) + 1)) x7.Lock x7.Pc)) hx7)), (setSS o50 (by kernel_rfl)), rfl, (Nat.le_of_ble_eq_true rfl), (by first | exact lnSet _ | exact lnSet2 _ | simp only [List.length_map, List.length_set, List.length_cons, List.length_nil]), (rd0 hx7), (rdL o50 (rdS (y := (GEvent.mk v4 (w64 (v4 + 1)) (w64 ((w64 (v4 + 1)) + 1)) (w64 ((w64 ((w64 (v4 + 1)) + 1)) + 1)) x7.Pc)) hx7)), (rdM o50 (rdS (y := (GEvent.mk v4 (w64 (v4 + 1)) (w64 ((w64 (v4 + 1)) + 1)) (w64 ((w64 ((w64 (v4 + 1)) + 1)) + 1)) x7.Pc)) hx7)), (setSS o50 (by kernel_rfl)), rfl, (Nat.le_of_ble_eq_true rfl), (by first | exact lnSet _ | exact lnSet2 _ | simp only [List.length_map, List.length_set, List.length_cons, List.length_nil]), (rok (treeM t50)), trivial⟩ (ih (a3.set (Int.toNat v5) (GEvent.mk v4 (w64 (v4 + 1)) (w64 ((w64 (v4 + 1)) + 1)) (w64 ((w64 ((w64 (v4 + 1)) + 1)) + 1)) (w64 ((w64 ((w64 ((w64 (v4 + 1)) + 1)) + 1)) + 1)))) (w64 ((w64 ((w64 ((w64 ((w64 (v4 + 1)) + 1)) + 1)) + 1)) + 1)) (w64 (v5 + 1)) _ h)
    · have h := Option.some.inj h
      subst h
      exact go_ret hΘ hm hP hn (hs := [⟨2, .no, some (I (a3.length : Int))⟩, ⟨4, .br false, none⟩]) (rh := []) (ph := .raw) (ps := [AV.lit (.int .i64 (((List.length (a3.map o50)) : Nat) : Int)) = (I (a3.length : Int)), (decide (v5 < (a3.length : Int))) = false, (a3.map o50) = (a3.map o50), treeLL (a3.map o50) = true, noRoLL (a3.map o50) = true, (I v4) = (I v4), litA (I v4) = true]) (by kernel_rfl) ⟨(lenM o50), c8, rfl, (treeM t50), (noRoM n50), rfl, rfl, trivial⟩
noncomputable def laws_markEventS (p1 : (List GEvent)) (p2 : Int) : Option (Int × (List GEvent)) :=
  laws_markEventS_l0 FU p1 p2 0
theorem laws_markEventS_m {p1 : (List GEvent)} {p2 : Int} {r : (Int × (List GEvent))} (h : laws_markEventS p1 p2 = some r) : MeetsR Try.prog 22 [⟨50, 5, (p1.map o50)⟩] [(AV.sl 0 0 (List.length (p1.map o50))), (I p2)] [true] [⟨50, 5, (r.2.map o50)⟩] (I r.1) := by
  refine meetsR_of Θ_ok Try.func22 rfl (c := body22) (by kernel_rfl) (Nat.le_of_ble_eq_true rfl) rfl (Nat.le_of_ble_eq_true rfl) rfl (fr := [0]) (frI rfl) ?_
  intro E hP hn hx
  replace hn : E.n = 48 := hn
  have hm : E.P.follows .mixedOrders = true := by rw [hP]; exact mixed
  have hΘ : TOK E.P Θ := by rw [hP]; exact Θ_ok
  unfold laws_markEventS at h
  show WAt E body22 (FQ (RetE Θ Try.f22.results.toList [true] [⟨50, 5, (r.2.map o50)⟩] (I r.1) E)) [] ⟨[(0, (AV.sl 0 0 (List.length (p1.map o50)))), (1, (I p2))], [(0, some ⟨50, 5, (p1.map o50)⟩)], [0, JJ]⟩
  exact go_to hΘ hm hx hP hn (hs := []) (π := [(0, 0)]) (ts := [0, 1, 5]) (kp := []) (ps := [RenOK [(0, 0)] (p1.map o50)]) (by kernel_rfl) ⟨(rok (treeM t50)), trivial⟩ (laws_markEventS_l0_m hP hn hx FU p1 p2 0 _ h)
noncomputable def body53 : Code := match Try.f53.body with | some c => c | none => .skip
noncomputable def laws_markIntS_l0   : Nat → (List Int) → Int → Int → Option (Int × (List Int))
  | 0, _, _, _ => none
  | n + 1, a3, v4, v5 =>
  if (decide (v5 < (a3.length : Int))) = true then
    Option.bind (rd a3 v5) fun x7 =>
    laws_markIntS_l0 n (a3.set (Int.toNat v5) v4) (w64 (v4 + 1)) (w64 (v5 + 1))
  else
    some (v4, a3)
theorem laws_markIntS_l0_m {E : Env} (hP : E.P = Try.prog) (hn : E.n = 19) (hx : ∀ p, p ∈ E.fx → p.1 ∈ ([0] : List Nat))   : ∀ (n : Nat) (a3 : (List Int)) (v4 : Int) (v5 : Int) (r : (Int × (List Int))), laws_markIntS_l0  n a3 v4 v5 = some r → WAt E body53 (FQ (RetE Θ Try.f53.results.toList [true] [⟨3, 1, (r.2.map o3)⟩] (I r.1) E)) [true, false, true, false] ⟨[(0, (AV.sl 0 0 (List.length (a3.map o3)))), (1, (I v4)), (5, (I v5))], [(0, some ⟨3, 1, (a3.map o3)⟩)], [0, JJ]⟩ := by
  have hm : E.P.follows .mixedOrders = true := by rw [hP]; exact mixed
  have hΘ : TOK E.P Θ := by rw [hP]; exact Θ_ok
  intro n
  induction n with
  | zero => intro a3 v4 v5 r h; simp only [laws_markIntS_l0] at h; cases h
  | succ n ih =>
    intro a3 v4 v5 r h
    simp only [laws_markIntS_l0] at h
    rcases itS h with ⟨c6, h⟩ | ⟨c8, h⟩
    · obtain ⟨x7, hx7, h⟩ := bnS h
      exact go_to hΘ hm hx hP hn (hs := [⟨2, .no, some (I (a3.length : Int))⟩, ⟨4, .br true, none⟩, ⟨9, .sto [(I x7)] ((a3.set (Int.toNat v5) v4).map o3), none⟩, ⟨16, .slen 0 (List.length ((a3.set (Int.toNat v5) v4).map o3)), none⟩]) (π := [(0, 0)]) (ts := [0, 1, 5]) (kp := []) (ps := [AV.lit (.int .i64 (((List.length (a3.map o3)) : Nat) : Int)) = (I (a3.length : Int)), (decide (v5 < (a3.length : Int))) = true, (0 : Int) ≤ v5, v5 < (((List.length (a3.map o3)) : Nat) : Int), (a3.map o3)[(Int.toNat v5)]? = some [(I x7)], (a3.map o3).set (Int.toNat v5) (wr [(I x7)] 0 [(I v4)]) = ((a3.set (Int.toNat v5) v4).map o3), [(I v4)].length = 1, 0 + [(I v4)].length ≤ [(I x7)].length, (List.length (a3.map o3)) = (List.length ((a3.set (Int.toNat v5) v4).map o3)), RenOK [(0, 0)] ((a3.set (Int.toNat v5) v4).map o3)]) (by kernel_rfl) ⟨(lenM o3), c6, (rd0 hx7), (rdL o3 hx7), (rdM o3 hx7), (setM o3), rfl, (Nat.le_of_ble_eq_true rfl), (by first | exact lnSet _ | exact lnSet2 _ | simp only [List.length_map, List.length_set, List.length_cons, List.length_nil]), (rok (treeM t3)), trivial⟩ (ih (a3.set (Int.toNat v5) v4) (w64 (v4 + 1)) (w64 (v5 + 1)) _ h)
    · have h := Option.some.inj h
      subst h
      exact go_ret hΘ hm hP hn (hs := [⟨2, .no, some (I (a3.length : Int))⟩, ⟨4, .br false, none⟩]) (rh := []) (ph := .raw) (ps := [AV.lit (.int .i64 (((List.length (a3.map o3)) : Nat) : Int)) = (I (a3.length : Int)), (decide (v5 < (a3.length : Int))) = false, (a3.map o3) = (a3.map o3), treeLL (a3.map o3) = true, noRoLL (a3.map o3) = true, (I v4) = (I v4), litA (I v4) = true]) (by kernel_rfl) ⟨(lenM o3), c8, rfl, (treeM t3), (noRoM n3), rfl, rfl, trivial⟩
noncomputable def laws_markIntS (p1 : (List Int)) (p2 : Int) : Option (Int × (List Int)) :=
  laws_markIntS_l0 FU p1 p2 0
theorem laws_markIntS_m {p1 : (List Int)} {p2 : Int} {r : (Int × (List Int))} (h : laws_markIntS p1 p2 = some r) : MeetsR Try.prog 53 [⟨3, 1, (p1.map o3)⟩] [(AV.sl 0 0 (List.length (p1.map o3))), (I p2)] [true] [⟨3, 1, (r.2.map o3)⟩] (I r.1) := by
  refine meetsR_of Θ_ok Try.func53 rfl (c := body53) (by kernel_rfl) (Nat.le_of_ble_eq_true rfl) rfl (Nat.le_of_ble_eq_true rfl) rfl (fr := [0]) (frI rfl) ?_
  intro E hP hn hx
  replace hn : E.n = 19 := hn
  have hm : E.P.follows .mixedOrders = true := by rw [hP]; exact mixed
  have hΘ : TOK E.P Θ := by rw [hP]; exact Θ_ok
  unfold laws_markIntS at h
  show WAt E body53 (FQ (RetE Θ Try.f53.results.toList [true] [⟨3, 1, (r.2.map o3)⟩] (I r.1) E)) [] ⟨[(0, (AV.sl 0 0 (List.length (p1.map o3)))), (1, (I p2))], [(0, some ⟨3, 1, (p1.map o3)⟩)], [0, JJ]⟩
  exact go_to hΘ hm hx hP hn (hs := []) (π := [(0, 0)]) (ts := [0, 1, 5]) (kp := []) (ps := [RenOK [(0, 0)] (p1.map o3)]) (by kernel_rfl) ⟨(rok (treeM t3)), trivial⟩ (laws_markIntS_l0_m hP hn hx FU p1 p2 0 _ h)
noncomputable def body29 : Code := match Try.f29.body with | some c => c | none => .skip
noncomputable def laws_markIntSS_l0   : Nat → (List (List Int)) → Int → Int → Option (Int × (List (List Int)))
  | 0, _, _, _ => none
  | n + 1, a3, v4, v5 =>
  if (decide (v5 < (a3.length : Int))) = true then
    Option.bind (rd a3 v5) fun x7 =>
    Option.bind (laws_markIntS x7 v4) fun r8 =>
    Option.bind (sameLen x7 r8.2) fun q9 =>
    laws_markIntSS_l0 n (a3.set (Int.toNat v5) r8.2) r8.1 (w64 (v5 + 1))
  else
    some (v4, a3)
theorem laws_markIntSS_l0_m {E : Env} (hP : E.P = Try.prog) (hn : E.n = 19) (hx : ∀ p, p ∈ E.fx → p.1 ∈ ([0] : List Nat))   : ∀ (n : Nat) (a3 : (List (List Int))) (v4 : Int) (v5 : Int) (r : (Int × (List (List Int)))), laws_markIntSS_l0  n a3 v4 v5 = some r → WAt E body29 (FQ (RetE Θ Try.f29.results.toList [true] [⟨32, 1, (r.2.map o32)⟩] (I r.1) E)) [true, false, true, false] ⟨[(0, (AV.sl 0 0 (List.length (a3.map o32)))), (1, (I v4)), (5, (I v5))], [(0, some ⟨32, 1, (a3.map o32)⟩)], [0, JJ]⟩ := by
  have hm : E.P.follows .mixedOrders = true := by rw [hP]; exact mixed
  have hΘ : TOK E.P Θ := by rw [hP]; exact Θ_ok
  intro n
  induction n with
  | zero => intro a3 v4 v5 r h; simp only [laws_markIntSS_l0] at h; cases h
  | succ n ih =>
    intro a3 v4 v5 r h
    simp only [laws_markIntSS_l0] at h
    rcases itS h with ⟨c6, h⟩ | ⟨c10, h⟩
    · obtain ⟨x7, hx7, h⟩ := bnS h
      obtain ⟨r8, hr8, h⟩ := bnS h
      obtain ⟨q9, hq9, h⟩ := bnS h
      exact go_to hΘ hm hx hP hn (hs := [⟨2, .no, some (I (a3.length : Int))⟩, ⟨4, .br true, none⟩, ⟨8, .unpack 0 1001 (Int.toNat v5) 0 [(AV.own 3 1 (x7.map o3))] 3 1 (x7.map o3) ((a3.map o32).set (Int.toNat v5) [(AV.sl 1001 0 (List.length (x7.map o3)))]), none⟩, ⟨8, .row [(AV.sl 1001 0 (List.length (x7.map o3)))], none⟩, ⟨10, .callX [1001] [true] [⟨3, 1, (x7.map o3)⟩] [⟨3, 1, (r8.2.map o3)⟩] [] (I r8.1) [] (I r8.1) [], none⟩, ⟨15, .pack 0 1001 (Int.toNat v5) 0 [(AV.sl 1001 0 (List.length (x7.map o3)))] ((a3.set (Int.toNat v5) r8.2).map o32), none⟩, ⟨15, .slen 0 (List.length ((a3.set (Int.toNat v5) r8.2).map o32)), none⟩]) (π := [(0, 0)]) (ts := [0, 1, 5]) (kp := []) (ps := [AV.lit (.int .i64 (((List.length (a3.map o32)) : Nat) : Int)) = (I (a3.length : Int)), (decide (v5 < (a3.length : Int))) = true, (0 : Int) ≤ v5, v5 < (((List.length (a3.map o32)) : Nat) : Int), (a3.map o32)[(Int.toNat v5)]? = some [(AV.own 3 1 (x7.map o3))], [(AV.own 3 1 (x7.map o3))][0]? = some (AV.own 3 1 (x7.map o3)), 0 < 1, (a3.map o32).set (Int.toNat v5) ([(AV.own 3 1 (x7.map o3))].set 0 (AV.sl 1001 0 (List.length (x7.map o3)))) = ((a3.map o32).set (Int.toNat v5) [(AV.sl 1001 0 (List.length (x7.map o3)))]), ((a3.map o32).set (Int.toNat v5) [(AV.sl 1001 0 (List.length (x7.map o3)))])[(Int.toNat v5)]? = some [(AV.sl 1001 0 (List.length (x7.map o3)))], MeetsR Try.prog 53 [⟨3, 1, (x7.map o3)⟩] [(AV.sl 0 0 (List.length (x7.map o3))), (I v4)] [true] [⟨3, 1, (r8.2.map o3)⟩] (I r8.1), (some (Root.mk 3 1 (x7.map o3)) = some (Root.mk 3 1 (x7.map o3))) ∧ True, (treeLL (x7.map o3) = true ∧ noRoLL (x7.map o3) = true) ∧ True, ((r8.2.map o3).length = (x7.map o3).length) ∧ True, (rtf (renA [(0, 1001)] (I r8.1)) []).1 = (I r8.1), (rtf (renA [(0, 1001)] (I r8.1)) []).2.1 = [], ((a3.map o32).set (Int.toNat v5) [(AV.sl 1001 0 (List.length (x7.map o3)))])[(Int.toNat v5)]? = some [(AV.sl 1001 0 (List.length (x7.map o3)))], [(AV.sl 1001 0 (List.length (x7.map o3)))][0]? = some (AV.sl 1001 0 (List.length (r8.2.map o3))), treeLL (r8.2.map o3) = true, ((a3.map o32).set (Int.toNat v5) [(AV.sl 1001 0 (List.length (x7.map o3)))]).set (Int.toNat v5) ([(AV.sl 1001 0 (List.length (x7.map o3)))].set 0 (AV.own 3 1 (r8.2.map o3))) = ((a3.set (Int.toNat v5) r8.2).map o32), (List.length (a3.map o32)) = (List.length ((a3.set (Int.toNat v5) r8.2).map o32)), RenOK [(0, 0)] ((a3.set (Int.toNat v5) r8.2).map o32)]) (by kernel_rfl) ⟨(lenM o32), c6, (rd0 hx7), (rdL o32 hx7), (rdM o32 hx7), rfl, (by decide), rfl, (setE (rdM o32 hx7)), (laws_markIntS_m hr8), ⟨rfl, trivial⟩, ⟨⟨treeM t3, noRoM n3⟩, trivial⟩, ⟨(sameLenE o3 hq9), trivial⟩, rfl, rfl, (setE (rdM o32 hx7)), (pkS (sameLenE o3 hq9).symm), (treeM t3), (setP o32), (by first | exact lnSet _ | exact lnSet2 _ | simp only [List.length_map, List.length_set, List.length_cons, List.length_nil]), (rok (treeM t32)), trivial⟩ (ih (a3.set (Int.toNat v5) r8.2) r8.1 (w64 (v5 + 1)) _ h)
    · have h := Option.some.inj h
      subst h
      exact go_ret hΘ hm hP hn (hs := [⟨2, .no, some (I (a3.length : Int))⟩, ⟨4, .br false, none⟩]) (rh := []) (ph := .raw) (ps := [AV.lit (.int .i64 (((List.length (a3.map o32)) : Nat) : Int)) = (I (a3.length : Int)), (decide (v5 < (a3.length : Int))) = false, (a3.map o32) = (a3.map o32), treeLL (a3.map o32) = true, noRoLL (a3.map o32) = true, (I v4) = (I v4), litA (I v4) = true]) (by kernel_rfl) ⟨(lenM o32), c10, rfl, (treeM t32), (noRoM n32), rfl, rfl, trivial⟩
noncomputable def laws_markIntSS (p1 : (List (List Int))) (p2 : Int) : Option (Int × (List (List Int))) :=
  laws_markIntSS_l0 FU p1 p2 0
theorem laws_markIntSS_m {p1 : (List (List Int))} {p2 : Int} {r : (Int × (List (List Int)))} (h : laws_markIntSS p1 p2 = some r) : MeetsR Try.prog 29 [⟨32, 1, (p1.map o32)⟩] [(AV.sl 0 0 (List.length (p1.map o32))), (I p2)] [true] [⟨32, 1, (r.2.map o32)⟩] (I r.1) := by
  refine meetsR_of Θ_ok Try.func29 rfl (c := body29) (by kernel_rfl) (Nat.le_of_ble_eq_true rfl) rfl (Nat.le_of_ble_eq_true rfl) rfl (fr := [0]) (frI rfl) ?_
  intro E hP hn hx
  replace hn : E.n = 19 := hn
  have hm : E.P.follows .mixedOrders = true := by rw [hP]; exact mixed
  have hΘ : TOK E.P Θ := by rw [hP]; exact Θ_ok
  unfold laws_markIntSS at h
  show WAt E body29 (FQ (RetE Θ Try.f29.results.toList [true] [⟨32, 1, (r.2.map o32)⟩] (I r.1) E)) [] ⟨[(0, (AV.sl 0 0 (List.length (p1.map o32)))), (1, (I p2))], [(0, some ⟨32, 1, (p1.map o32)⟩)], [0, JJ]⟩
  exact go_to hΘ hm hx hP hn (hs := []) (π := [(0, 0)]) (ts := [0, 1, 5]) (kp := []) (ps := [RenOK [(0, 0)] (p1.map o32)]) (by kernel_rfl) ⟨(rok (treeM t32)), trivial⟩ (laws_markIntSS_l0_m hP hn hx FU p1 p2 0 _ h)
noncomputable def body9 : Code := match Try.f9.body with | some c => c | none => .skip
noncomputable def laws_szEventS (p1 : (List GEvent)) (p2 : Int) : Option Int :=
  if (decide ((w64 (p2 - (p1.length : Int))) < 0)) = true then
    some (-1)
  else
    some (w64 (p2 - (p1.length : Int)))
theorem laws_szEventS_m {p1 : (List GEvent)} {p2 : Int} {r : Int} (h : laws_szEventS p1 p2 = some r) : Meets Try.prog 9 [(AV.ro 5 (p1.map o52)), (I p2)] (I r) := by
  refine meets_ofC Θ_ok Try.func9 rfl (c := body9) (by kernel_rfl) (Nat.le_of_ble_eq_true rfl) ?_
  intro E hP hn hx
  replace hn : E.n = 12 := hn
  have hm : E.P.follows .mixedOrders = true := by rw [hP]; exact mixed
  have hΘ : TOK E.P Θ := by rw [hP]; exact Θ_ok
  unfold laws_szEventS at h
  show WAt E body9 (FQ (RetE Θ Try.f9.results.toList [] [] (I r) E)) [] ⟨[(0, (AV.ro 5 (p1.map o52))), (1, (I p2))], [], [JJ]⟩
  rcases itS h with ⟨c3, h⟩ | ⟨c4, h⟩
  · have h := Option.some.inj h
    subst h
    exact go_ret hΘ hm hP hn (hs := [⟨3, .no, some (I (p1.length : Int))⟩, ⟨8, .br true, none⟩]) (rh := []) (ph := .raw) (ps := [AV.lit (.int .i64 (((p1.map o52).length : Nat) : Int)) = (I (p1.length : Int)), (decide ((w64 (p2 - (p1.length : Int))) < 0)) = true, (I (-1)) = (I (-1)), litA (I (-1)) = true]) (by kernel_rfl) ⟨(lenM o52), c3, rfl, rfl, trivial⟩
  · have h := Option.some.inj h
    subst h
    exact go_ret hΘ hm hP hn (hs := [⟨3, .no, some (I (p1.length : Int))⟩, ⟨8, .br false, none⟩]) (rh := []) (ph := .raw) (ps := [AV.lit (.int .i64 (((p1.map o52).length : Nat) : Int)) = (I (p1.length : Int)), (decide ((w64 (p2 - (p1.length : Int))) < 0)) = false, (I (w64 (p2 - (p1.length : Int)))) = (I (w64 (p2 - (p1.length : Int)))), litA (I (w64 (p2 - (p1.length : Int)))) = true]) (by kernel_rfl) ⟨(lenM o52), c4, rfl, rfl, trivial⟩
noncomputable def body34 : Code := match Try.f34.body with | some c => c | none => .skip
noncomputable def laws_toEvent (p1 : GEvent) : Option GEvent :=
  some (GEvent.mk p1.Thread p1.Kind p1.Obj p1.Lock p1.Pc)
theorem laws_toEvent_m {p1 : GEvent} {r : GEvent} (h : laws_toEvent p1 = some r) : Meets Try.prog 34 [(AV.agg ((o52 p1)))] (AV.agg (o50 r)) := by
  refine meets_ofC Θ_ok Try.func34 rfl (c := body34) (by kernel_rfl) (Nat.le_of_ble_eq_true rfl) ?_
  intro E hP hn hx
  replace hn : E.n = 20 := hn
  have hm : E.P.follows .mixedOrders = true := by rw [hP]; exact mixed
  have hΘ : TOK E.P Θ := by rw [hP]; exact Θ_ok
  unfold laws_toEvent at h
  show WAt E body34 (FQ (RetE Θ Try.f34.results.toList [] [] (AV.agg (o50 r)) E)) [] ⟨[(0, (AV.agg ((o52 p1))))], [], [JJ]⟩
  have h := Option.some.inj h
  subst h
  exact go_ret hΘ hm hP hn (hs := [⟨0, .new 1001, none⟩, ⟨1, .new 1002, none⟩, ⟨2, .new 1003, none⟩]) (rh := []) (ph := .raw) (ps := [(AV.agg [(I p1.Thread), (I p1.Kind), (I p1.Obj), (I p1.Lock), (I p1.Pc)]) = (AV.agg [(I p1.Thread), (I p1.Kind), (I p1.Obj), (I p1.Lock), (I p1.Pc)]), litA (AV.agg [(I p1.Thread), (I p1.Kind), (I p1.Obj), (I p1.Lock), (I p1.Pc)]) = true]) (by kernel_rfl) ⟨rfl, rfl, trivial⟩
noncomputable def body11 : Code := match Try.f11.body with | some c => c | none => .skip
noncomputable def laws_toEventS_l0  (p1 : (List GEvent)) : Nat → (List GEvent) → Int → Option (List GEvent)
  | 0, _, _ => none
  | n + 1, a3, v4 =>
  if (decide (v4 < (p1.length : Int))) = true then
    Option.bind (rd p1 v4) fun x6 =>
    Option.bind (laws_toEvent x6) fun r7 =>
    Option.bind (rd a3 v4) fun x8 =>
    laws_toEventS_l0 p1 n (a3.set (Int.toNat v4) r7) (w64 (v4 + 1))
  else
    some a3
theorem laws_toEventS_l0_m {E : Env} (hP : E.P = Try.prog) (hn : E.n = 23) (hx : ∀ p, p ∈ E.fx → p.1 ∈ ([] : List Nat)) (p1 : (List GEvent))  : ∀ (n : Nat) (a3 : (List GEvent)) (v4 : Int) (r : (List GEvent)), laws_toEventS_l0 p1 n a3 v4 = some r → WAt E body11 (FQ (RetE Θ Try.f11.results.toList [] [] (AV.own 50 5 (r.map o50)) E)) [true, true, false, true, false] ⟨[(0, (AV.ro 5 (p1.map o52))), (3, (AV.sl 1 0 (List.length (a3.map o50)))), (4, (I v4))], [(1, some ⟨50, 5, (a3.map o50)⟩)], [1, JJ]⟩ := by
  have hm : E.P.follows .mixedOrders = true := by rw [hP]; exact mixed
  have hΘ : TOK E.P Θ := by rw [hP]; exact Θ_ok
  intro n
  induction n with
  | zero => intro a3 v4 r h; simp only [laws_toEventS_l0] at h; cases h
  | succ n ih =>
    intro a3 v4 r h
    simp only [laws_toEventS_l0] at h
    rcases itS h with ⟨c5, h⟩ | ⟨c9, h⟩
    · obtain ⟨x6, hx6, h⟩ := bnS h
      obtain ⟨r7, hr7, h⟩ := bnS h
      obtain ⟨x8, hx8, h⟩ := bnS h
      exact go_to hΘ hm hx hP hn (hs := [⟨2, .no, some (I (p1.length : Int))⟩, ⟨4, .br true, none⟩, ⟨9, .row (o52 x6), none⟩, ⟨11, .callV [[]] (AV.agg (o50 r7)), none⟩, ⟨13, .sto ((o50 x8)) ((a3.set (Int.toNat v4) r7).map o50), none⟩, ⟨17, .slen 3 (List.length ((a3.set (Int.toNat v4) r7).map o50)), none⟩]) (π := [(1, 1)]) (ts := [0, 3, 4]) (kp := []) (ps := [AV.lit (.int .i64 (((p1.map o52).length : Nat) : Int)) = (I (p1.length : Int)), (decide (v4 < (p1.length : Int))) = true, (0 : Int) ≤ v4, (p1.map o52)[(Int.toNat v4)]? = some (o52 x6), Meets Try.prog 34 [(AV.agg ((o52 x6)))] (AV.agg (o50 r7)), litA (AV.agg (o50 r7)) = true, (0 : Int) ≤ v4, v4 < (((List.length (a3.map o50)) : Nat) : Int), (a3.map o50)[(Int.toNat v4)]? = some ((o50 x8)), (a3.map o50).set (Int.toNat v4) (wr ((o50 x8)) 0 ((o50 r7))) = ((a3.set (Int.toNat v4) r7).map o50), ((o50 r7)).length = 5, 0 + ((o50 r7)).length ≤ ((o50 x8)).length, (List.length (a3.map o50)) = (List.length ((a3.set (Int.toNat v4) r7).map o50)), RenOK [(1, 1)] ((a3.set (Int.toNat v4) r7).map o50)]) (by kernel_rfl) ⟨(lenM o52), c5, (rd0 hx6), (rdM o52 hx6), (laws_toEvent_m hr7), rfl, (rd0 hx8), (rdL o50 hx8), (rdM o50 hx8), (setMr o50 (by kernel_rfl)), rfl, (Nat.le_of_ble_eq_true rfl), (by first | exact lnSet _ | exact lnSet2 _ | simp only [List.length_map, List.length_set, List.length_cons, List.length_nil]), (rok (treeM t50)), trivial⟩ (ih (a3.set (Int.toNat v4) r7) (w64 (v4 + 1)) _ h)
    · have h := Option.some.inj h
      subst h
      exact go_ret hΘ hm hP hn (hs := [⟨2, .no, some (I (p1.length : Int))⟩, ⟨4, .br false, none⟩]) (rh := []) (ph := .own) (ps := [AV.lit (.int .i64 (((p1.map o52).length : Nat) : Int)) = (I (p1.length : Int)), (decide (v4 < (p1.length : Int))) = false, treeLL ((a3.map o50).take (List.length (a3.map o50))) = true, (a3.map o50).take (List.length (a3.map o50)) = (a3.map o50), noRoLL (a3.map o50) = true]) (by kernel_rfl) ⟨(lenM o52), c9, (treeT t50), takeM, (noRoM n50), trivial⟩
noncomputable def laws_toEventS (p1 : (List GEvent)) : Option (List GEvent) :=
  Option.bind (mk (GEvent.mk 0 0 0 0 0) (p1.length : Int)) fun l2 =>
  laws_toEventS_l0 p1 FU l2 0
theorem laws_toEventS_m {p1 : (List GEvent)} {r : (List GEvent)} (h : laws_toEventS p1 = some r) : Meets Try.prog 11 [(AV.ro 5 (p1.map o52))] (AV.own 50 5 (r.map o50)) := by
  refine meets_ofC Θ_ok Try.func11 rfl (c := body11) (by kernel_rfl) (Nat.le_of_ble_eq_true rfl) ?_
  intro E hP hn hx
  replace hn : E.n = 23 := hn
  have hm : E.P.follows .mixedOrders = true := by rw [hP]; exact mixed
  have hΘ : TOK E.P Θ := by rw [hP]; exact Θ_ok
  unfold laws_toEventS at h
  show WAt E body11 (FQ (RetE Θ Try.f11.results.toList [] [] (AV.own 50 5 (r.map o50)) E)) [] ⟨[(0, (AV.ro 5 (p1.map o52)))], [], [JJ]⟩
  obtain ⟨l2, hl2, h⟩ := bnS h
  exact go_to hΘ hm hx hP hn (hs := [⟨2, .no, some (I (p1.length : Int))⟩, ⟨3, .nw 1001 (l2.map o50), some (AV.sl 1001 0 (List.length (l2.map o50)))⟩]) (π := [(1001, 1)]) (ts := [0, 3, 4]) (kp := []) (ps := [AV.lit (.int .i64 (((p1.map o52).length : Nat) : Int)) = (I (p1.length : Int)), List.replicate (Int.toNat (p1.length : Int)) [.lit (.int .i64 0), .lit (.int .i64 0), .lit (.int .i64 0), .lit (.int .i64 0), .lit (.int .i64 0)] = (l2.map o50), AV.sl 1001 0 (Int.toNat (p1.length : Int)) = (AV.sl 1001 0 (List.length (l2.map o50))), (p1.length : Int) = (p1.length : Int), (0 : Int) ≤ (p1.length : Int), (p1.length : Int) * ((40 : Nat) : Int) ≤ 140737488355328, (p1.length : Int) ≤ 140737488355328, RenOK [(1001, 1)] (l2.map o50)]) (by kernel_rfl) ⟨(lenM o52), (mkM o50 hl2), (mkS o50 hl2), rfl, (mk0 hl2), (mkB hl2 (by decide)), (mkC hl2), (rok (treeM t50)), trivial⟩ (laws_toEventS_l0_m hP hn hx p1 FU l2 0 _ h)
noncomputable def body80 : Code := match Try.f80.body with | some c => c | none => .skip
noncomputable def spec_l6Gives (p1 : GEvent) : Option Int :=
  if (p1.Kind == 5) = true then
    some p1.Obj
  else
    if (p1.Kind == 8) = true then
      some p1.Lock
    else
      some (-2)
theorem spec_l6Gives_m {p1 : GEvent} {r : Int} (h : spec_l6Gives p1 = some r) : Meets Try.prog 80 [(AV.agg ((o50 p1)))] (I r) := by
  refine meets_ofC Θ_ok Try.func80 rfl (c := body80) (by kernel_rfl) (Nat.le_of_ble_eq_true rfl) ?_
  intro E hP hn hx
  replace hn : E.n = 13 := hn
  have hm : E.P.follows .mixedOrders = true := by rw [hP]; exact mixed
  have hΘ : TOK E.P Θ := by rw [hP]; exact Θ_ok
  unfold spec_l6Gives at h
  show WAt E body80 (FQ (RetE Θ Try.f80.results.toList [] [] (I r) E)) [] ⟨[(0, (AV.agg ((o50 p1))))], [], [JJ]⟩
  rcases itS h with ⟨c2, h⟩ | ⟨c3, h⟩
  · have h := Option.some.inj h
    subst h
    exact go_ret hΘ hm hP hn (hs := [⟨0, .new 1001, none⟩, ⟨6, .br true, none⟩]) (rh := []) (ph := .raw) (ps := [(p1.Kind == 5) = true, (I p1.Obj) = (I p1.Obj), litA (I p1.Obj) = true]) (by kernel_rfl) ⟨c2, rfl, rfl, trivial⟩
  · rcases itS h with ⟨c4, h⟩ | ⟨c5, h⟩
    · have h := Option.some.inj h
      subst h
      exact go_ret hΘ hm hP hn (hs := [⟨0, .new 1001, none⟩, ⟨6, .br false, none⟩, ⟨9, .br true, none⟩]) (rh := []) (ph := .raw) (ps := [(p1.Kind == 5) = false, (p1.Kind == 8) = true, (I p1.Lock) = (I p1.Lock), litA (I p1.Lock) = true]) (by kernel_rfl) ⟨c3, c4, rfl, rfl, trivial⟩
    · have h := Option.some.inj h
      subst h
      exact go_ret hΘ hm hP hn (hs := [⟨0, .new 1001, none⟩, ⟨6, .br false, none⟩, ⟨9, .br false, none⟩]) (rh := []) (ph := .raw) (ps := [(p1.Kind == 5) = false, (p1.Kind == 8) = false, (I (-2)) = (I (-2)), litA (I (-2)) = true]) (by kernel_rfl) ⟨c3, c5, rfl, rfl, trivial⟩
noncomputable def body81 : Code := match Try.f81.body with | some c => c | none => .skip
noncomputable def spec_l6Takes (p1 : GEvent) : Option Int :=
  if (p1.Kind == 4) = true then
    some p1.Obj
  else
    if (p1.Kind == 9) = true then
      some p1.Lock
    else
      some (-3)
theorem spec_l6Takes_m {p1 : GEvent} {r : Int} (h : spec_l6Takes p1 = some r) : Meets Try.prog 81 [(AV.agg ((o50 p1)))] (I r) := by
  refine meets_ofC Θ_ok Try.func81 rfl (c := body81) (by kernel_rfl) (Nat.le_of_ble_eq_true rfl) ?_
  intro E hP hn hx
  replace hn : E.n = 13 := hn
  have hm : E.P.follows .mixedOrders = true := by rw [hP]; exact mixed
  have hΘ : TOK E.P Θ := by rw [hP]; exact Θ_ok
  unfold spec_l6Takes at h
  show WAt E body81 (FQ (RetE Θ Try.f81.results.toList [] [] (I r) E)) [] ⟨[(0, (AV.agg ((o50 p1))))], [], [JJ]⟩
  rcases itS h with ⟨c2, h⟩ | ⟨c3, h⟩
  · have h := Option.some.inj h
    subst h
    exact go_ret hΘ hm hP hn (hs := [⟨0, .new 1001, none⟩, ⟨6, .br true, none⟩]) (rh := []) (ph := .raw) (ps := [(p1.Kind == 4) = true, (I p1.Obj) = (I p1.Obj), litA (I p1.Obj) = true]) (by kernel_rfl) ⟨c2, rfl, rfl, trivial⟩
  · rcases itS h with ⟨c4, h⟩ | ⟨c5, h⟩
    · have h := Option.some.inj h
      subst h
      exact go_ret hΘ hm hP hn (hs := [⟨0, .new 1001, none⟩, ⟨6, .br false, none⟩, ⟨9, .br true, none⟩]) (rh := []) (ph := .raw) (ps := [(p1.Kind == 4) = false, (p1.Kind == 9) = true, (I p1.Lock) = (I p1.Lock), litA (I p1.Lock) = true]) (by kernel_rfl) ⟨c3, c4, rfl, rfl, trivial⟩
    · have h := Option.some.inj h
      subst h
      exact go_ret hΘ hm hP hn (hs := [⟨0, .new 1001, none⟩, ⟨6, .br false, none⟩, ⟨9, .br false, none⟩]) (rh := []) (ph := .raw) (ps := [(p1.Kind == 4) = false, (p1.Kind == 9) = false, (I (-3)) = (I (-3)), litA (I (-3)) = true]) (by kernel_rfl) ⟨c3, c5, rfl, rfl, trivial⟩
noncomputable def body69 : Code := match Try.f69.body with | some c => c | none => .skip
noncomputable def spec_l6Right_j0  (p1 : GEvent) (p2 : GEvent) (v4 : Bool) : Option Bool :=
  if v4 = true then
    some true
  else
    if (p1.Kind == 6) = true then
      some (p1.Obj == p2.Thread)
    else
      if (p1.Kind == 11) = true then
        if (p2.Kind == 7) = true then
          some (p2.Obj == p1.Thread)
        else
          some false
      else
        if (p1.Kind == 10) = true then
          if (p2.Kind == 9) = true then
            some (p1.Lock == p2.Thread)
          else
            some false
        else
          some false
theorem spec_l6Right_j0_m {E : Env} (hP : E.P = Try.prog) (hn : E.n = 53) (hx : ∀ p, p ∈ E.fx → p.1 ∈ ([] : List Nat)) (p1 : GEvent) (p2 : GEvent)  (v4 : Bool) (r : Bool) (h : spec_l6Right_j0 p1 p2 v4 = some r) : WAt E body69 (FQ (RetE Θ Try.f69.results.toList [] [] (B r) E)) [true, false, false, true] ⟨[(2, (AV.ptr 1 0 0)), (3, (AV.ptr 2 0 0)), (5, (B v4))], [(1, some ⟨50, 5, [((o50 p1))]⟩), (2, some ⟨50, 5, [((o50 p2))]⟩)], [1, 2, JJ]⟩ := by
  have hm : E.P.follows .mixedOrders = true := by rw [hP]; exact mixed
  have hΘ : TOK E.P Θ := by rw [hP]; exact Θ_ok
  unfold spec_l6Right_j0 at h
  rcases itS h with ⟨c5, h⟩ | ⟨c6, h⟩
  · have h := Option.some.inj h
    subst h
    exact go_ret hΘ hm hP hn (hs := [⟨0, .br true, none⟩]) (rh := []) (ph := .raw) (ps := [v4 = true, (B true) = (B true), litA (B true) = true]) (by kernel_rfl) ⟨c5, rfl, rfl, trivial⟩
  · rcases itS h with ⟨c7, h⟩ | ⟨c8, h⟩
    · have h := Option.some.inj h
      subst h
      exact go_ret hΘ hm hP hn (hs := [⟨0, .br false, none⟩, ⟨5, .br true, none⟩]) (rh := []) (ph := .raw) (ps := [v4 = false, (p1.Kind == 6) = true, (B (p1.Obj == p2.Thread)) = (B (p1.Obj == p2.Thread)), litA (B (p1.Obj == p2.Thread)) = true]) (by kernel_rfl) ⟨c6, c7, rfl, rfl, trivial⟩
    · rcases itS h with ⟨c9, h⟩ | ⟨c12, h⟩
      · rcases itS h with ⟨c10, h⟩ | ⟨c11, h⟩
        · have h := Option.some.inj h
          subst h
          exact go_ret hΘ hm hP hn (hs := [⟨0, .br false, none⟩, ⟨5, .br false, none⟩, ⟨10, .br true, none⟩, ⟨14, .no, some (B true)⟩]) (rh := []) (ph := .raw) (ps := [v4 = false, (p1.Kind == 6) = false, (p1.Kind == 11) = true, (B (p2.Kind == 7)) = (B true), (B (p2.Obj == p1.Thread)) = (B (p2.Obj == p1.Thread)), litA (B (p2.Obj == p1.Thread)) = true]) (by kernel_rfl) ⟨c6, c8, c9, (litB c10), rfl, rfl, trivial⟩
        · have h := Option.some.inj h
          subst h
          exact go_ret hΘ hm hP hn (hs := [⟨0, .br false, none⟩, ⟨5, .br false, none⟩, ⟨10, .br true, none⟩, ⟨14, .no, some (B false)⟩]) (rh := []) (ph := .raw) (ps := [v4 = false, (p1.Kind == 6) = false, (p1.Kind == 11) = true, (B (p2.Kind == 7)) = (B false), (B false) = (B false), litA (B false) = true]) (by kernel_rfl) ⟨c6, c8, c9, (litB c11), rfl, rfl, trivial⟩
      · rcases itS h with ⟨c13, h⟩ | ⟨c16, h⟩
        · rcases itS h with ⟨c14, h⟩ | ⟨c15, h⟩
          · have h := Option.some.inj h
            subst h
            exact go_ret hΘ hm hP hn (hs := [⟨0, .br false, none⟩, ⟨5, .br false, none⟩, ⟨10, .br false, none⟩, ⟨15, .br true, none⟩, ⟨19, .no, some (B true)⟩]) (rh := []) (ph := .raw) (ps := [v4 = false, (p1.Kind == 6) = false, (p1.Kind == 11) = false, (p1.Kind == 10) = true, (B (p2.Kind == 9)) = (B true), (B (p1.Lock == p2.Thread)) = (B (p1.Lock == p2.Thread)), litA (B (p1.Lock == p2.Thread)) = true]) (by kernel_rfl) ⟨c6, c8, c12, c13, (litB c14), rfl, rfl, trivial⟩
          · have h := Option.some.inj h
            subst h
            exact go_ret hΘ hm hP hn (hs := [⟨0, .br false, none⟩, ⟨5, .br false, none⟩, ⟨10, .br false, none⟩, ⟨15, .br true, none⟩, ⟨19, .no, some (B false)⟩]) (rh := []) (ph := .raw) (ps := [v4 = false, (p1.Kind == 6) = false, (p1.Kind == 11) = false, (p1.Kind == 10) = true, (B (p2.Kind == 9)) = (B false), (B false) = (B false), litA (B false) = true]) (by kernel_rfl) ⟨c6, c8, c12, c13, (litB c15), rfl, rfl, trivial⟩
        · have h := Option.some.inj h
          subst h
          exact go_ret hΘ hm hP hn (hs := [⟨0, .br false, none⟩, ⟨5, .br false, none⟩, ⟨10, .br false, none⟩, ⟨15, .br false, none⟩]) (rh := []) (ph := .raw) (ps := [v4 = false, (p1.Kind == 6) = false, (p1.Kind == 11) = false, (p1.Kind == 10) = false, (B false) = (B false), litA (B false) = true]) (by kernel_rfl) ⟨c6, c8, c12, c16, rfl, rfl, trivial⟩
noncomputable def spec_l6Right (p1 : GEvent) (p2 : GEvent) : Option Bool :=
  if (p1.Thread == p2.Thread) = true then
    spec_l6Right_j0 p1 p2 (p1.Thread == p2.Thread)
  else
    Option.bind (spec_l6Gives p1) fun r18 =>
    Option.bind (spec_l6Takes p2) fun r19 =>
    spec_l6Right_j0 p1 p2 (r18 == r19)
theorem spec_l6Right_m {p1 : GEvent} {p2 : GEvent} {r : Bool} (h : spec_l6Right p1 p2 = some r) : Meets Try.prog 69 [(AV.agg ((o50 p1))), (AV.agg ((o50 p2)))] (B r) := by
  refine meets_ofC Θ_ok Try.func69 rfl (c := body69) (by kernel_rfl) (Nat.le_of_ble_eq_true rfl) ?_
  intro E hP hn hx
  replace hn : E.n = 53 := hn
  have hm : E.P.follows .mixedOrders = true := by rw [hP]; exact mixed
  have hΘ : TOK E.P Θ := by rw [hP]; exact Θ_ok
  unfold spec_l6Right at h
  show WAt E body69 (FQ (RetE Θ Try.f69.results.toList [] [] (B r) E)) [] ⟨[(0, (AV.agg ((o50 p1)))), (1, (AV.agg ((o50 p2))))], [], [JJ]⟩
  rcases itS h with ⟨c3, h⟩ | ⟨c17, h⟩
  · exact go_to hΘ hm hx hP hn (hs := [⟨0, .new 1001, none⟩, ⟨1, .new 1002, none⟩, ⟨9, .br true, none⟩]) (π := [(1001, 1), (1002, 2)]) (ts := [2, 3, 5]) (kp := []) (ps := [(p1.Thread == p2.Thread) = true, RenOK [(1001, 1), (1002, 2)] [((o50 p1))], RenOK [(1001, 1), (1002, 2)] [((o50 p2))]]) (by kernel_rfl) ⟨c3, (rok rfl), (rok rfl), trivial⟩ (spec_l6Right_j0_m hP hn hx p1 p2 (p1.Thread == p2.Thread) _ h)
  · obtain ⟨r18, hr18, h⟩ := bnS h
    obtain ⟨r19, hr19, h⟩ := bnS h
    exact go_to hΘ hm hx hP hn (hs := [⟨0, .new 1001, none⟩, ⟨1, .new 1002, none⟩, ⟨9, .br false, none⟩, ⟨11, .callV [[]] (I r18), none⟩, ⟨13, .callV [[]] (I r19), none⟩]) (π := [(1001, 1), (1002, 2)]) (ts := [2, 3, 5]) (kp := []) (ps := [(p1.Thread == p2.Thread) = false, Meets Try.prog 80 [(AV.agg ((o50 p1)))] (I r18), litA (I r18) = true, Meets Try.prog 81 [(AV.agg ((o50 p2)))] (I r19), litA (I r19) = true, RenOK [(1001, 1), (1002, 2)] [((o50 p1))], RenOK [(1001, 1), (1002, 2)] [((o50 p2))]]) (by kernel_rfl) ⟨c17, (spec_l6Gives_m hr18), rfl, (spec_l6Takes_m hr19), rfl, (rok rfl), (rok rfl), trivial⟩ (spec_l6Right_j0_m hP hn hx p1 p2 (r18 == r19) _ h)
noncomputable def body50 : Code := match Try.f50.body with | some c => c | none => .skip
noncomputable def spec_l6Ahead_l2 (K0 : (List (List Bool)) → Int → Option (List (List Bool))) (K1 : (List (List Bool)) → Int → Option (List (List Bool))) (p1 : (List GEvent)) (v4 : Int) (v9 : Int) (x18 : (List Bool)) : Nat → (List (List Bool)) → (List Bool) → Int → Option (List (List Bool))
  | 0, _, _, _ => none
  | n + 1, a19, a20, v21 =>
  if (decide (v21 < (x18.length : Int))) = true then
    Option.bind (rd a20 v21) fun x23 =>
    Option.bind (rd a19 v4) fun x24 =>
    Option.bind (rd a19 v9) fun x25 =>
    Option.bind (neI v9 v4) fun q26 =>
    Option.bind (rd x24 v21) fun x27 =>
    if x27 = true then
      spec_l6Ahead_l2 K0 K1 p1 v4 v9 x18 n (a19.set (Int.toNat v4) (x24.set (Int.toNat v21) true)) a20 (w64 (v21 + 1))
    else
      spec_l6Ahead_l2 K0 K1 p1 v4 v9 x18 n (a19.set (Int.toNat v4) (x24.set (Int.toNat v21) x23)) a20 (w64 (v21 + 1))
  else
    Option.bind (rd a19 v9) fun x31 =>
    K1 (a19.set (Int.toNat v9) a20) (w64 (v9 + 1))
theorem spec_l6Ahead_l2_m {E : Env} (hP : E.P = Try.prog) (hn : E.n = 72) (hx : ∀ p, p ∈ E.fx → p.1 ∈ ([] : List Nat)) (p1 : (List GEvent)) (v4 : Int) (v9 : Int) (x18 : (List Bool)) {K0 : (List (List Bool)) → Int → Option (List (List Bool))} (hK0 : ∀ (a3 : (List (List Bool))) (v4 : Int) (r : (List (List Bool))), K0 a3 v4 = some r → WAt E body50 (FQ (RetE Θ Try.f50.results.toList [] [] (AV.own 55 1 (r.map o55)) E)) [true, true, false, true, false] ⟨[(0, (AV.ro 5 (p1.map o50))), (3, (AV.sl 1 0 (List.length (a3.map o55)))), (12, (I (p1.length : Int))), (13, (I v4))], [(1, some ⟨55, 1, (a3.map o55)⟩)], [1, JJ]⟩) {K1 : (List (List Bool)) → Int → Option (List (List Bool))} (hK1 : ∀ (a8 : (List (List Bool))) (v9 : Int) (r : (List (List Bool))), K1 a8 v9 = some r → WAt E body50 (FQ (RetE Θ Try.f50.results.toList [] [] (AV.own 55 1 (r.map o55)) E)) [true, true, false, true, false, false, true, true, false, false, true, true, true, false] ⟨[(0, (AV.ro 5 (p1.map o50))), (3, (AV.sl 1 0 (List.length (a8.map o55)))), (4, (I v4)), (5, (I v9)), (12, (I (p1.length : Int))), (13, (I v4))], [(1, some ⟨55, 1, (a8.map o55)⟩)], [1, JJ]⟩) : ∀ (n : Nat) (a19 : (List (List Bool))) (a20 : (List Bool)) (v21 : Int) (r : (List (List Bool))), spec_l6Ahead_l2 K0 K1 p1 v4 v9 x18 n a19 a20 v21 = some r → WAt E body50 (FQ (RetE Θ Try.f50.results.toList [] [] (AV.own 55 1 (r.map o55)) E)) [true, true, false, true, false, false, true, true, false, false, true, true, true, false, false, true, false, false, true, true, true, false] ⟨[(0, (AV.ro 5 (p1.map o50))), (3, (AV.sl 1 0 (List.length ((a19.map o55).set (Int.toNat v9) [(AV.sl 1002 0 (List.length (a20.map o4)))])))), (4, (I v4)), (5, (I v9)), (12, (I (p1.length : Int))), (13, (I v4)), (46, (AV.sl 1002 0 (List.length (a20.map o4)))), (47, (I (x18.length : Int))), (48, (I v21))], [(1, some ⟨55, 1, ((a19.map o55).set (Int.toNat v9) [(AV.sl 1002 0 (List.length (a20.map o4)))])⟩), (1002, some ⟨4, 1, (a20.map o4)⟩)], [1, 1002, JJ]⟩ := by
  have hm : E.P.follows .mixedOrders = true := by rw [hP]; exact mixed
  have hΘ : TOK E.P Θ := by rw [hP]; exact Θ_ok
  intro n
  induction n with
  | zero => intro a19 a20 v21 r h; simp only [spec_l6Ahead_l2] at h; cases h
  | succ n ih =>
    intro a19 a20 v21 r h
    simp only [spec_l6Ahead_l2] at h
    rcases itS h with ⟨c22, h⟩ | ⟨c30, h⟩
    · obtain ⟨x23, hx23, h⟩ := bnS h
      obtain ⟨x24, hx24, h⟩ := bnS h
      obtain ⟨x25, hx25, h⟩ := bnS h
      obtain ⟨q26, hq26, h⟩ := bnS h
      obtain ⟨x27, hx27, h⟩ := bnS h
      rcases itS h with ⟨c28, h⟩ | ⟨c29, h⟩
      · exact go_to hΘ hm hx hP hn (hs := [⟨1, .br true, none⟩, ⟨4, .row [(B x23)], none⟩, ⟨7, .unpack 1 1001 (Int.toNat v4) 0 [(AV.own 4 1 (x24.map o4))] 4 1 (x24.map o4) (((a19.map o55).set (Int.toNat v9) [(AV.sl 1002 0 (List.length (a20.map o4)))]).set (Int.toNat v4) [(AV.sl 1001 0 (List.length (x24.map o4)))]), none⟩, ⟨10, .row [(AV.sl 1001 0 (List.length (x24.map o4)))], none⟩, ⟨15, .row [(AV.sl 1001 0 (List.length (x24.map o4)))], none⟩, ⟨18, .row [(B x27)], none⟩, ⟨19, .no, some (B true)⟩, ⟨23, .sto [(B x27)] ((x24.set (Int.toNat v21) true).map o4), none⟩, ⟨26, .pack 1 1001 (Int.toNat v4) 0 [(AV.sl 1001 0 (List.length (x24.map o4)))] (((a19.set (Int.toNat v4) (x24.set (Int.toNat v21) true)).map o55).set (Int.toNat v9) [(AV.sl 1002 0 (List.length (a20.map o4)))]), none⟩, ⟨26, .slen 3 (List.length (((a19.set (Int.toNat v4) (x24.set (Int.toNat v21) true)).map o55).set (Int.toNat v9) [(AV.sl 1002 0 (List.length (a20.map o4)))])), none⟩]) (π := [(1, 1), (1002, 1002)]) (ts := [0, 3, 4, 5, 12, 13, 46, 47, 48]) (kp := []) (ps := [(decide (v21 < (x18.length : Int))) = true, (0 : Int) ≤ v21, v21 < (((List.length (a20.map o4)) : Nat) : Int), (a20.map o4)[(Int.toNat v21)]? = some [(B x23)], ((a19.map o55).set (Int.toNat v9) [(AV.sl 1002 0 (List.length (a20.map o4)))])[(Int.toNat v4)]? = some [(AV.own 4 1 (x24.map o4))], [(AV.own 4 1 (x24.map o4))][0]? = some (AV.own 4 1 (x24.map o4)), 0 < 1, ((a19.map o55).set (Int.toNat v9) [(AV.sl 1002 0 (List.length (a20.map o4)))]).set (Int.toNat v4) ([(AV.own 4 1 (x24.map o4))].set 0 (AV.sl 1001 0 (List.length (x24.map o4)))) = (((a19.map o55).set (Int.toNat v9) [(AV.sl 1002 0 (List.length (a20.map o4)))]).set (Int.toNat v4) [(AV.sl 1001 0 (List.length (x24.map o4)))]), (0 : Int) ≤ v4, v4 < (((List.length ((a19.map o55).set (Int.toNat v9) [(AV.sl 1002 0 (List.length (a20.map o4)))])) : Nat) : Int), (((a19.map o55).set (Int.toNat v9) [(AV.sl 1002 0 (List.length (a20.map o4)))]).set (Int.toNat v4) [(AV.sl 1001 0 (List.length (x24.map o4)))])[(Int.toNat v4)]? = some [(AV.sl 1001 0 (List.length (x24.map o4)))], (0 : Int) ≤ v4, v4 < (((List.length ((a19.map o55).set (Int.toNat v9) [(AV.sl 1002 0 (List.length (a20.map o4)))])) : Nat) : Int), (((a19.map o55).set (Int.toNat v9) [(AV.sl 1002 0 (List.length (a20.map o4)))]).set (Int.toNat v4) [(AV.sl 1001 0 (List.length (x24.map o4)))])[(Int.toNat v4)]? = some [(AV.sl 1001 0 (List.length (x24.map o4)))], (0 : Int) ≤ v21, v21 < (((List.length (x24.map o4)) : Nat) : Int), (x24.map o4)[(Int.toNat v21)]? = some [(B x27)], (B x27) = (B true), (0 : Int) ≤ v21, v21 < (((List.length (x24.map o4)) : Nat) : Int), (x24.map o4)[(Int.toNat v21)]? = some [(B x27)], (x24.map o4).set (Int.toNat v21) (wr [(B x27)] 0 [(B true)]) = ((x24.set (Int.toNat v21) true).map o4), [(B true)].length = 1, 0 + [(B true)].length ≤ [(B x27)].length, (((a19.map o55).set (Int.toNat v9) [(AV.sl 1002 0 (List.length (a20.map o4)))]).set (Int.toNat v4) [(AV.sl 1001 0 (List.length (x24.map o4)))])[(Int.toNat v4)]? = some [(AV.sl 1001 0 (List.length (x24.map o4)))], [(AV.sl 1001 0 (List.length (x24.map o4)))][0]? = some (AV.sl 1001 0 (List.length ((x24.set (Int.toNat v21) true).map o4))), treeLL ((x24.set (Int.toNat v21) true).map o4) = true, (((a19.map o55).set (Int.toNat v9) [(AV.sl 1002 0 (List.length (a20.map o4)))]).set (Int.toNat v4) [(AV.sl 1001 0 (List.length (x24.map o4)))]).set (Int.toNat v4) ([(AV.sl 1001 0 (List.length (x24.map o4)))].set 0 (AV.own 4 1 ((x24.set (Int.toNat v21) true).map o4))) = (((a19.set (Int.toNat v4) (x24.set (Int.toNat v21) true)).map o55).set (Int.toNat v9) [(AV.sl 1002 0 (List.length (a20.map o4)))]), (List.length ((a19.map o55).set (Int.toNat v9) [(AV.sl 1002 0 (List.length (a20.map o4)))])) = (List.length (((a19.set (Int.toNat v4) (x24.set (Int.toNat v21) true)).map o55).set (Int.toNat v9) [(AV.sl 1002 0 (List.length (a20.map o4)))])), RenOK [(1, 1), (1002, 1002)] (((a19.set (Int.toNat v4) (x24.set (Int.toNat v21) true)).map o55).set (Int.toNat v9) [(AV.sl 1002 0 (List.length (a20.map o4)))]), RenOK [(1, 1), (1002, 1002)] (a20.map o4)]) (by kernel_rfl) ⟨c22, (rd0 hx23), (rdL o4 hx23), (rdM o4 hx23), (setN (neN hq26 (rd0 hx25) (rd0 hx24)) (rdM o55 hx24)), rfl, (by decide), rfl, (rd0 hx24), (rdL1 o55 hx24), (setE (setN (neN hq26 (rd0 hx25) (rd0 hx24)) (rdM o55 hx24))), (rd0 hx24), (rdL1 o55 hx24), (setE (setN (neN hq26 (rd0 hx25) (rd0 hx24)) (rdM o55 hx24))), (rd0 hx27), (rdL o4 hx27), (rdM o4 hx27), (litB c28), (rd0 hx27), (rdL o4 hx27), (rdM o4 hx27), (setM o4), rfl, (Nat.le_of_ble_eq_true rfl), (setE (setN (neN hq26 (rd0 hx25) (rd0 hx24)) (rdM o55 hx24))), (pkS (by first | exact lnSet _ | exact lnSet2 _ | simp only [List.length_map, List.length_set, List.length_cons, List.length_nil])), (treeM t4), (setP2 o55 (neN hq26 (rd0 hx25) (rd0 hx24))), (by first | exact lnSet _ | exact lnSet2 _ | simp only [List.length_map, List.length_set, List.length_cons, List.length_nil]), (renSet (rok (treeM t55)) rfl), (rok (treeM t4)), trivial⟩ (ih (a19.set (Int.toNat v4) (x24.set (Int.toNat v21) true)) a20 (w64 (v21 + 1)) _ h)
      · exact go_to hΘ hm hx hP hn (hs := [⟨1, .br true, none⟩, ⟨4, .row [(B x23)], none⟩, ⟨7, .unpack 1 1001 (Int.toNat v4) 0 [(AV.own 4 1 (x24.map o4))] 4 1 (x24.map o4) (((a19.map o55).set (Int.toNat v9) [(AV.sl 1002 0 (List.length (a20.map o4)))]).set (Int.toNat v4) [(AV.sl 1001 0 (List.length (x24.map o4)))]), none⟩, ⟨10, .row [(AV.sl 1001 0 (List.length (x24.map o4)))], none⟩, ⟨15, .row [(AV.sl 1001 0 (List.length (x24.map o4)))], none⟩, ⟨18, .row [(B x27)], none⟩, ⟨19, .no, some (B false)⟩, ⟨23, .sto [(B x27)] ((x24.set (Int.toNat v21) x23).map o4), none⟩, ⟨26, .pack 1 1001 (Int.toNat v4) 0 [(AV.sl 1001 0 (List.length (x24.map o4)))] (((a19.set (Int.toNat v4) (x24.set (Int.toNat v21) x23)).map o55).set (Int.toNat v9) [(AV.sl 1002 0 (List.length (a20.map o4)))]), none⟩, ⟨26, .slen 3 (List.length (((a19.set (Int.toNat v4) (x24.set (Int.toNat v21) x23)).map o55).set (Int.toNat v9) [(AV.sl 1002 0 (List.length (a20.map o4)))])), none⟩]) (π := [(1, 1), (1002, 1002)]) (ts := [0, 3, 4, 5, 12, 13, 46, 47, 48]) (kp := []) (ps := [(decide (v21 < (x18.length : Int))) = true, (0 : Int) ≤ v21, v21 < (((List.length (a20.map o4)) : Nat) : Int), (a20.map o4)[(Int.toNat v21)]? = some [(B x23)], ((a19.map o55).set (Int.toNat v9) [(AV.sl 1002 0 (List.length (a20.map o4)))])[(Int.toNat v4)]? = some [(AV.own 4 1 (x24.map o4))], [(AV.own 4 1 (x24.map o4))][0]? = some (AV.own 4 1 (x24.map o4)), 0 < 1, ((a19.map o55).set (Int.toNat v9) [(AV.sl 1002 0 (List.length (a20.map o4)))]).set (Int.toNat v4) ([(AV.own 4 1 (x24.map o4))].set 0 (AV.sl 1001 0 (List.length (x24.map o4)))) = (((a19.map o55).set (Int.toNat v9) [(AV.sl 1002 0 (List.length (a20.map o4)))]).set (Int.toNat v4) [(AV.sl 1001 0 (List.length (x24.map o4)))]), (0 : Int) ≤ v4, v4 < (((List.length ((a19.map o55).set (Int.toNat v9) [(AV.sl 1002 0 (List.length (a20.map o4)))])) : Nat) : Int), (((a19.map o55).set (Int.toNat v9) [(AV.sl 1002 0 (List.length (a20.map o4)))]).set (Int.toNat v4) [(AV.sl 1001 0 (List.length (x24.map o4)))])[(Int.toNat v4)]? = some [(AV.sl 1001 0 (List.length (x24.map o4)))], (0 : Int) ≤ v4, v4 < (((List.length ((a19.map o55).set (Int.toNat v9) [(AV.sl 1002 0 (List.length (a20.map o4)))])) : Nat) : Int), (((a19.map o55).set (Int.toNat v9) [(AV.sl 1002 0 (List.length (a20.map o4)))]).set (Int.toNat v4) [(AV.sl 1001 0 (List.length (x24.map o4)))])[(Int.toNat v4)]? = some [(AV.sl 1001 0 (List.length (x24.map o4)))], (0 : Int) ≤ v21, v21 < (((List.length (x24.map o4)) : Nat) : Int), (x24.map o4)[(Int.toNat v21)]? = some [(B x27)], (B x27) = (B false), (0 : Int) ≤ v21, v21 < (((List.length (x24.map o4)) : Nat) : Int), (x24.map o4)[(Int.toNat v21)]? = some [(B x27)], (x24.map o4).set (Int.toNat v21) (wr [(B x27)] 0 [(B x23)]) = ((x24.set (Int.toNat v21) x23).map o4), [(B x23)].length = 1, 0 + [(B x23)].length ≤ [(B x27)].length, (((a19.map o55).set (Int.toNat v9) [(AV.sl 1002 0 (List.length (a20.map o4)))]).set (Int.toNat v4) [(AV.sl 1001 0 (List.length (x24.map o4)))])[(Int.toNat v4)]? = some [(AV.sl 1001 0 (List.length (x24.map o4)))], [(AV.sl 1001 0 (List.length (x24.map o4)))][0]? = some (AV.sl 1001 0 (List.length ((x24.set (Int.toNat v21) x23).map o4))), treeLL ((x24.set (Int.toNat v21) x23).map o4) = true, (((a19.map o55).set (Int.toNat v9) [(AV.sl 1002 0 (List.length (a20.map o4)))]).set (Int.toNat v4) [(AV.sl 1001 0 (List.length (x24.map o4)))]).set (Int.toNat v4) ([(AV.sl 1001 0 (List.length (x24.map o4)))].set 0 (AV.own 4 1 ((x24.set (Int.toNat v21) x23).map o4))) = (((a19.set (Int.toNat v4) (x24.set (Int.toNat v21) x23)).map o55).set (Int.toNat v9) [(AV.sl 1002 0 (List.length (a20.map o4)))]), (List.length ((a19.map o55).set (Int.toNat v9) [(AV.sl 1002 0 (List.length (a20.map o4)))])) = (List.length (((a19.set (Int.toNat v4) (x24.set (Int.toNat v21) x23)).map o55).set (Int.toNat v9) [(AV.sl 1002 0 (List.length (a20.map o4)))])), RenOK [(1, 1), (1002, 1002)] (((a19.set (Int.toNat v4) (x24.set (Int.toNat v21) x23)).map o55).set (Int.toNat v9) [(AV.sl 1002 0 (List.length (a20.map o4)))]), RenOK [(1, 1), (1002, 1002)] (a20.map o4)]) (by kernel_rfl) ⟨c22, (rd0 hx23), (rdL o4 hx23), (rdM o4 hx23), (setN (neN hq26 (rd0 hx25) (rd0 hx24)) (rdM o55 hx24)), rfl, (by decide), rfl, (rd0 hx24), (rdL1 o55 hx24), (setE (setN (neN hq26 (rd0 hx25) (rd0 hx24)) (rdM o55 hx24))), (rd0 hx24), (rdL1 o55 hx24), (setE (setN (neN hq26 (rd0 hx25) (rd0 hx24)) (rdM o55 hx24))), (rd0 hx27), (rdL o4 hx27), (rdM o4 hx27), (litB c29), (rd0 hx27), (rdL o4 hx27), (rdM o4 hx27), (setM o4), rfl, (Nat.le_of_ble_eq_true rfl), (setE (setN (neN hq26 (rd0 hx25) (rd0 hx24)) (rdM o55 hx24))), (pkS (by first | exact lnSet _ | exact lnSet2 _ | simp only [List.length_map, List.length_set, List.length_cons, List.length_nil])), (treeM t4), (setP2 o55 (neN hq26 (rd0 hx25) (rd0 hx24))), (by first | exact lnSet _ | exact lnSet2 _ | simp only [List.length_map, List.length_set, List.length_cons, List.length_nil]), (renSet (rok (treeM t55)) rfl), (rok (treeM t4)), trivial⟩ (ih (a19.set (Int.toNat v4) (x24.set (Int.toNat v21) x23)) a20 (w64 (v21 + 1)) _ h)
    · obtain ⟨x31, hx31, h⟩ := bnS h
      exact go_to hΘ hm hx hP hn (hs := [⟨1, .br false, none⟩, ⟨5, .pack 1 1002 (Int.toNat v9) 0 [(AV.sl 1002 0 (List.length (a20.map o4)))] ((a19.set (Int.toNat v9) a20).map o55), none⟩, ⟨5, .slen 3 (List.length ((a19.set (Int.toNat v9) a20).map o55)), none⟩]) (π := [(1, 1)]) (ts := [0, 3, 4, 5, 12, 13]) (kp := []) (ps := [(decide (v21 < (x18.length : Int))) = false, ((a19.map o55).set (Int.toNat v9) [(AV.sl 1002 0 (List.length (a20.map o4)))])[(Int.toNat v9)]? = some [(AV.sl 1002 0 (List.length (a20.map o4)))], [(AV.sl 1002 0 (List.length (a20.map o4)))][0]? = some (AV.sl 1002 0 (List.length (a20.map o4))), treeLL (a20.map o4) = true, ((a19.map o55).set (Int.toNat v9) [(AV.sl 1002 0 (List.length (a20.map o4)))]).set (Int.toNat v9) ([(AV.sl 1002 0 (List.length (a20.map o4)))].set 0 (AV.own 4 1 (a20.map o4))) = ((a19.set (Int.toNat v9) a20).map o55), (List.length ((a19.map o55).set (Int.toNat v9) [(AV.sl 1002 0 (List.length (a20.map o4)))])) = (List.length ((a19.set (Int.toNat v9) a20).map o55)), RenOK [(1, 1)] ((a19.set (Int.toNat v9) a20).map o55)]) (by kernel_rfl) ⟨c30, (setE (rdM o55 hx31)), rfl, (treeM t4), (setP o55), (by first | exact lnSet _ | exact lnSet2 _ | simp only [List.length_map, List.length_set, List.length_cons, List.length_nil]), (rok (treeM t55)), trivial⟩ (hK1 (a19.set (Int.toNat v9) a20) (w64 (v9 + 1)) _ h)
noncomputable def spec_l6Ahead_l1 (K0 : (List (List Bool)) → Int → Option (List (List Bool))) (p1 : (List GEvent)) (v4 : Int) : Nat → (List (List Bool)) → Int → Option (List (List Bool))
  | 0, _, _ => none
  | n + 1, a8, v9 =>
  if (decide (v9 < v4)) = true then
    Option.bind (rd p1 v9) fun x11 =>
    Option.bind (rd p1 v4) fun x12 =>
    Option.bind (spec_l6Right x11 x12) fun r13 =>
    if (!r13) = true then
      spec_l6Ahead_l1 K0 p1 v4 n a8 (w64 (v9 + 1))
    else
      Option.bind (rd a8 v4) fun x16 =>
      Option.bind (rd x16 v9) fun x17 =>
      Option.bind (rd (a8.set (Int.toNat v4) (x16.set (Int.toNat v9) true)) v9) fun x18 =>
      spec_l6Ahead_l2 K0 (spec_l6Ahead_l1 K0 p1 v4 n) p1 v4 v9 x18 FU (a8.set (Int.toNat v4) (x16.set (Int.toNat v9) true)) x18 0
  else
    K0 a8 (w64 (v4 + 1))
theorem spec_l6Ahead_l1_m {E : Env} (hP : E.P = Try.prog) (hn : E.n = 72) (hx : ∀ p, p ∈ E.fx → p.1 ∈ ([] : List Nat)) (p1 : (List GEvent)) (v4 : Int) {K0 : (List (List Bool)) → Int → Option (List (List Bool))} (hK0 : ∀ (a3 : (List (List Bool))) (v4 : Int) (r : (List (List Bool))), K0 a3 v4 = some r → WAt E body50 (FQ (RetE Θ Try.f50.results.toList [] [] (AV.own 55 1 (r.map o55)) E)) [true, true, false, true, false] ⟨[(0, (AV.ro 5 (p1.map o50))), (3, (AV.sl 1 0 (List.length (a3.map o55)))), (12, (I (p1.length : Int))), (13, (I v4))], [(1, some ⟨55, 1, (a3.map o55)⟩)], [1, JJ]⟩) : ∀ (n : Nat) (a8 : (List (List Bool))) (v9 : Int) (r : (List (List Bool))), spec_l6Ahead_l1 K0 p1 v4 n a8 v9 = some r → WAt E body50 (FQ (RetE Θ Try.f50.results.toList [] [] (AV.own 55 1 (r.map o55)) E)) [true, true, false, true, false, false, true, true, false, false, true, true, true, false] ⟨[(0, (AV.ro 5 (p1.map o50))), (3, (AV.sl 1 0 (List.length (a8.map o55)))), (4, (I v4)), (5, (I v9)), (12, (I (p1.length : Int))), (13, (I v4))], [(1, some ⟨55, 1, (a8.map o55)⟩)], [1, JJ]⟩ := by
  have hm : E.P.follows .mixedOrders = true := by rw [hP]; exact mixed
  have hΘ : TOK E.P Θ := by rw [hP]; exact Θ_ok
  intro n
  induction n with
  | zero => intro a8 v9 r h; simp only [spec_l6Ahead_l1] at h; cases h
  | succ n ih =>
    intro a8 v9 r h
    simp only [spec_l6Ahead_l1] at h
    rcases itS h with ⟨c10, h⟩ | ⟨c32, h⟩
    · obtain ⟨x11, hx11, h⟩ := bnS h
      obtain ⟨x12, hx12, h⟩ := bnS h
      obtain ⟨r13, hr13, h⟩ := bnS h
      rcases itS h with ⟨c14, h⟩ | ⟨c15, h⟩
      · exact go_to hΘ hm hx hP hn (hs := [⟨3, .br true, none⟩, ⟨6, .row (o50 x11), none⟩, ⟨10, .row (o50 x12), none⟩, ⟨12, .callV [[], []] (B r13), none⟩, ⟨14, .br true, none⟩]) (π := [(1, 1)]) (ts := [0, 3, 4, 5, 12, 13]) (kp := []) (ps := [(decide (v9 < v4)) = true, (0 : Int) ≤ v9, (p1.map o50)[(Int.toNat v9)]? = some (o50 x11), (0 : Int) ≤ v4, (p1.map o50)[(Int.toNat v4)]? = some (o50 x12), Meets Try.prog 69 [(AV.agg ((o50 x11))), (AV.agg ((o50 x12)))] (B r13), litA (B r13) = true, (!r13) = true, RenOK [(1, 1)] (a8.map o55)]) (by kernel_rfl) ⟨c10, (rd0 hx11), (rdM o50 hx11), (rd0 hx12), (rdM o50 hx12), (spec_l6Right_m hr13), rfl, c14, (rok (treeM t55)), trivial⟩ (ih a8 (w64 (v9 + 1)) _ h)
      · obtain ⟨x16, hx16, h⟩ := bnS h
        obtain ⟨x17, hx17, h⟩ := bnS h
        obtain ⟨x18, hx18, h⟩ := bnS h
        exact go_to hΘ hm hx hP hn (hs := [⟨3, .br true, none⟩, ⟨6, .row (o50 x11), none⟩, ⟨10, .row (o50 x12), none⟩, ⟨12, .callV [[], []] (B r13), none⟩, ⟨14, .br false, none⟩, ⟨18, .unpack 1 1001 (Int.toNat v4) 0 [(AV.own 4 1 (x16.map o4))] 4 1 (x16.map o4) ((a8.map o55).set (Int.toNat v4) [(AV.sl 1001 0 (List.length (x16.map o4)))]), none⟩, ⟨18, .row [(AV.sl 1001 0 (List.length (x16.map o4)))], none⟩, ⟨21, .sto [(B x17)] ((x16.set (Int.toNat v9) true).map o4), none⟩, ⟨22, .slen 3 (List.length ((a8.map o55).set (Int.toNat v4) [(AV.sl 1001 0 (List.length (x16.map o4)))])), none⟩, ⟨24, .pack 1 1001 (Int.toNat v4) 0 [(AV.sl 1001 0 (List.length (x16.map o4)))] ((a8.set (Int.toNat v4) (x16.set (Int.toNat v9) true)).map o55), none⟩, ⟨24, .slen 43 (List.length ((a8.set (Int.toNat v4) (x16.set (Int.toNat v9) true)).map o55)), none⟩, ⟨25, .unpack 1 1002 (Int.toNat v9) 0 [(AV.own 4 1 (x18.map o4))] 4 1 (x18.map o4) (((a8.set (Int.toNat v4) (x16.set (Int.toNat v9) true)).map o55).set (Int.toNat v9) [(AV.sl 1002 0 (List.length (x18.map o4)))]), none⟩, ⟨25, .row [(AV.sl 1002 0 (List.length (x18.map o4)))], none⟩, ⟨26, .no, some (I (x18.length : Int))⟩, ⟨28, .slen 3 (List.length (((a8.set (Int.toNat v4) (x16.set (Int.toNat v9) true)).map o55).set (Int.toNat v9) [(AV.sl 1002 0 (List.length (x18.map o4)))])), none⟩]) (π := [(1, 1), (1002, 1002)]) (ts := [0, 3, 4, 5, 12, 13, 46, 47, 48]) (kp := []) (ps := [(decide (v9 < v4)) = true, (0 : Int) ≤ v9, (p1.map o50)[(Int.toNat v9)]? = some (o50 x11), (0 : Int) ≤ v4, (p1.map o50)[(Int.toNat v4)]? = some (o50 x12), Meets Try.prog 69 [(AV.agg ((o50 x11))), (AV.agg ((o50 x12)))] (B r13), litA (B r13) = true, (!r13) = false, (0 : Int) ≤ v4, v4 < (((List.length (a8.map o55)) : Nat) : Int), (a8.map o55)[(Int.toNat v4)]? = some [(AV.own 4 1 (x16.map o4))], [(AV.own 4 1 (x16.map o4))][0]? = some (AV.own 4 1 (x16.map o4)), 0 < 1, (a8.map o55).set (Int.toNat v4) ([(AV.own 4 1 (x16.map o4))].set 0 (AV.sl 1001 0 (List.length (x16.map o4)))) = ((a8.map o55).set (Int.toNat v4) [(AV.sl 1001 0 (List.length (x16.map o4)))]), ((a8.map o55).set (Int.toNat v4) [(AV.sl 1001 0 (List.length (x16.map o4)))])[(Int.toNat v4)]? = some [(AV.sl 1001 0 (List.length (x16.map o4)))], (0 : Int) ≤ v9, v9 < (((List.length (x16.map o4)) : Nat) : Int), (x16.map o4)[(Int.toNat v9)]? = some [(B x17)], (x16.map o4).set (Int.toNat v9) (wr [(B x17)] 0 [(B true)]) = ((x16.set (Int.toNat v9) true).map o4), [(B true)].length = 1, 0 + [(B true)].length ≤ [(B x17)].length, (List.length (a8.map o55)) = (List.length ((a8.map o55).set (Int.toNat v4) [(AV.sl 1001 0 (List.length (x16.map o4)))])), ((a8.map o55).set (Int.toNat v4) [(AV.sl 1001 0 (List.length (x16.map o4)))])[(Int.toNat v4)]? = some [(AV.sl 1001 0 (List.length (x16.map o4)))], [(AV.sl 1001 0 (List.length (x16.map o4)))][0]? = some (AV.sl 1001 0 (List.length ((x16.set (Int.toNat v9) true).map o4))), treeLL ((x16.set (Int.toNat v9) true).map o4) = true, ((a8.map o55).set (Int.toNat v4) [(AV.sl 1001 0 (List.length (x16.map o4)))]).set (Int.toNat v4) ([(AV.sl 1001 0 (List.length (x16.map o4)))].set 0 (AV.own 4 1 ((x16.set (Int.toNat v9) true).map o4))) = ((a8.set (Int.toNat v4) (x16.set (Int.toNat v9) true)).map o55), (List.length ((a8.map o55).set (Int.toNat v4) [(AV.sl 1001 0 (List.length (x16.map o4)))])) = (List.length ((a8.set (Int.toNat v4) (x16.set (Int.toNat v9) true)).map o55)), (0 : Int) ≤ v9, v9 < (((List.length ((a8.set (Int.toNat v4) (x16.set (Int.toNat v9) true)).map o55)) : Nat) : Int), ((a8.set (Int.toNat v4) (x16.set (Int.toNat v9) true)).map o55)[(Int.toNat v9)]? = some [(AV.own 4 1 (x18.map o4))], [(AV.own 4 1 (x18.map o4))][0]? = some (AV.own 4 1 (x18.map o4)), 0 < 1, ((a8.set (Int.toNat v4) (x16.set (Int.toNat v9) true)).map o55).set (Int.toNat v9) ([(AV.own 4 1 (x18.map o4))].set 0 (AV.sl 1002 0 (List.length (x18.map o4)))) = (((a8.set (Int.toNat v4) (x16.set (Int.toNat v9) true)).map o55).set (Int.toNat v9) [(AV.sl 1002 0 (List.length (x18.map o4)))]), (((a8.set (Int.toNat v4) (x16.set (Int.toNat v9) true)).map o55).set (Int.toNat v9) [(AV.sl 1002 0 (List.length (x18.map o4)))])[(Int.toNat v9)]? = some [(AV.sl 1002 0 (List.length (x18.map o4)))], AV.lit (.int .i64 (((List.length (x18.map o4)) : Nat) : Int)) = (I (x18.length : Int)), (List.length ((a8.map o55).set (Int.toNat v4) [(AV.sl 1001 0 (List.length (x16.map o4)))])) = (List.length (((a8.set (Int.toNat v4) (x16.set (Int.toNat v9) true)).map o55).set (Int.toNat v9) [(AV.sl 1002 0 (List.length (x18.map o4)))])), RenOK [(1, 1), (1002, 1002)] (((a8.set (Int.toNat v4) (x16.set (Int.toNat v9) true)).map o55).set (Int.toNat v9) [(AV.sl 1002 0 (List.length (x18.map o4)))]), RenOK [(1, 1), (1002, 1002)] (x18.map o4)]) (by kernel_rfl) ⟨c10, (rd0 hx11), (rdM o50 hx11), (rd0 hx12), (rdM o50 hx12), (spec_l6Right_m hr13), rfl, c15, (rd0 hx16), (rdL o55 hx16), (rdM o55 hx16), rfl, (by decide), rfl, (setE (rdM o55 hx16)), (rd0 hx17), (rdL o4 hx17), (rdM o4 hx17), (setM o4), rfl, (Nat.le_of_ble_eq_true rfl), (by first | exact lnSet _ | exact lnSet2 _ | simp only [List.length_map, List.length_set, List.length_cons, List.length_nil]), (setE (rdM o55 hx16)), (pkS (by first | exact lnSet _ | exact lnSet2 _ | simp only [List.length_map, List.length_set, List.length_cons, List.length_nil])), (treeM t4), (setP o55), (by first | exact lnSet _ | exact lnSet2 _ | simp only [List.length_map, List.length_set, List.length_cons, List.length_nil]), (rd0 hx18), (rdL o55 hx18), (rdM o55 hx18), rfl, (by decide), rfl, (setE (rdM o55 hx18)), (lenM o4), (by first | exact lnSet _ | exact lnSet2 _ | simp only [List.length_map, List.length_set, List.length_cons, List.length_nil]), (renSet (rok (treeM t55)) rfl), (rok (treeM t4)), trivial⟩ (spec_l6Ahead_l2_m hP hn hx p1 v4 v9 x18 hK0 ih FU (a8.set (Int.toNat v4) (x16.set (Int.toNat v9) true)) x18 0 _ h)
    · exact go_to hΘ hm hx hP hn (hs := [⟨3, .br false, none⟩]) (π := [(1, 1)]) (ts := [0, 3, 12, 13]) (kp := []) (ps := [(decide (v9 < v4)) = false, RenOK [(1, 1)] (a8.map o55)]) (by kernel_rfl) ⟨c32, (rok (treeM t55)), trivial⟩ (hK0 a8 (w64 (v4 + 1)) _ h)
noncomputable def spec_l6Ahead_l0  (p1 : (List GEvent)) : Nat → (List (List Bool)) → Int → Option (List (List Bool))
  | 0, _, _ => none
  | n + 1, a3, v4 =>
  if (decide (v4 < (p1.length : Int))) = true then
    Option.bind (mk false (p1.length : Int)) fun l6 =>
    Option.bind (rd a3 v4) fun x7 =>
    spec_l6Ahead_l1 (spec_l6Ahead_l0 p1 n) p1 v4 FU (a3.set (Int.toNat v4) l6) 0
  else
    some a3
theorem spec_l6Ahead_l0_m {E : Env} (hP : E.P = Try.prog) (hn : E.n = 72) (hx : ∀ p, p ∈ E.fx → p.1 ∈ ([] : List Nat)) (p1 : (List GEvent))  : ∀ (n : Nat) (a3 : (List (List Bool))) (v4 : Int) (r : (List (List Bool))), spec_l6Ahead_l0 p1 n a3 v4 = some r → WAt E body50 (FQ (RetE Θ Try.f50.results.toList [] [] (AV.own 55 1 (r.map o55)) E)) [true, true, false, true, false] ⟨[(0, (AV.ro 5 (p1.map o50))), (3, (AV.sl 1 0 (List.length (a3.map o55)))), (12, (I (p1.length : Int))), (13, (I v4))], [(1, some ⟨55, 1, (a3.map o55)⟩)], [1, JJ]⟩ := by
  have hm : E.P.follows .mixedOrders = true := by rw [hP]; exact mixed
  have hΘ : TOK E.P Θ := by rw [hP]; exact Θ_ok
  intro n
  induction n with
  | zero => intro a3 v4 r h; simp only [spec_l6Ahead_l0] at h; cases h
  | succ n ih =>
    intro a3 v4 r h
    simp only [spec_l6Ahead_l0] at h
    rcases itS h with ⟨c5, h⟩ | ⟨c33, h⟩
    · obtain ⟨l6, hl6, h⟩ := bnS h
      obtain ⟨x7, hx7, h⟩ := bnS h
      exact go_to hΘ hm hx hP hn (hs := [⟨1, .br true, none⟩, ⟨7, .no, some (I (p1.length : Int))⟩, ⟨8, .nw 1001 (l6.map o4), some (AV.sl 1001 0 (List.length (l6.map o4)))⟩, ⟨10, .sto [(AV.own 4 1 (x7.map o4))] ((a3.map o55).set (Int.toNat v4) [(AV.sl 1001 0 (List.length (l6.map o4)))]), none⟩, ⟨11, .pack 1 1001 (Int.toNat v4) 0 [(AV.sl 1001 0 (List.length (l6.map o4)))] ((a3.set (Int.toNat v4) l6).map o55), none⟩, ⟨12, .slen 3 (List.length ((a3.set (Int.toNat v4) l6).map o55)), none⟩]) (π := [(1, 1)]) (ts := [0, 3, 4, 5, 12, 13]) (kp := []) (ps := [(decide (v4 < (p1.length : Int))) = true, AV.lit (.int .i64 (((p1.map o50).length : Nat) : Int)) = (I (p1.length : Int)), List.replicate (Int.toNat (p1.length : Int)) [.lit (.bool false)] = (l6.map o4), AV.sl 1001 0 (Int.toNat (p1.length : Int)) = (AV.sl 1001 0 (List.length (l6.map o4))), (p1.length : Int) = (p1.length : Int), (0 : Int) ≤ (p1.length : Int), (p1.length : Int) * ((1 : Nat) : Int) ≤ 140737488355328, (p1.length : Int) ≤ 140737488355328, (0 : Int) ≤ v4, v4 < (((List.length (a3.map o55)) : Nat) : Int), (a3.map o55)[(Int.toNat v4)]? = some [(AV.own 4 1 (x7.map o4))], (a3.map o55).set (Int.toNat v4) (wr [(AV.own 4 1 (x7.map o4))] 0 [(AV.sl 1001 0 (List.length (l6.map o4)))]) = ((a3.map o55).set (Int.toNat v4) [(AV.sl 1001 0 (List.length (l6.map o4)))]), [(AV.sl 1001 0 (List.length (l6.map o4)))].length = 1, 0 + [(AV.sl 1001 0 (List.length (l6.map o4)))].length ≤ [(AV.own 4 1 (x7.map o4))].length, ((a3.map o55).set (Int.toNat v4) [(AV.sl 1001 0 (List.length (l6.map o4)))])[(Int.toNat v4)]? = some [(AV.sl 1001 0 (List.length (l6.map o4)))], [(AV.sl 1001 0 (List.length (l6.map o4)))][0]? = some (AV.sl 1001 0 (List.length (l6.map o4))), treeLL (l6.map o4) = true, ((a3.map o55).set (Int.toNat v4) [(AV.sl 1001 0 (List.length (l6.map o4)))]).set (Int.toNat v4) ([(AV.sl 1001 0 (List.length (l6.map o4)))].set 0 (AV.own 4 1 (l6.map o4))) = ((a3.set (Int.toNat v4) l6).map o55), (List.length (a3.map o55)) = (List.length ((a3.set (Int.toNat v4) l6).map o55)), RenOK [(1, 1)] ((a3.set (Int.toNat v4) l6).map o55)]) (by kernel_rfl) ⟨c5, (lenM o50), (mkM o4 hl6), (mkS o4 hl6), rfl, (mk0 hl6), (mkB hl6 (by decide)), (mkC hl6), (rd0 hx7), (rdL o55 hx7), (rdM o55 hx7), rfl, rfl, (Nat.le_of_ble_eq_true rfl), (setE (rdM o55 hx7)), rfl, (treeM t4), (setP o55), (by first | exact lnSet _ | exact lnSet2 _ | simp only [List.length_map, List.length_set, List.length_cons, List.length_nil]), (rok (treeM t55)), trivial⟩ (spec_l6Ahead_l1_m hP hn hx p1 v4 ih FU (a3.set (Int.toNat v4) l6) 0 _ h)
    · have h := Option.some.inj h
      subst h
      exact go_ret hΘ hm hP hn (hs := [⟨1, .br false, none⟩]) (rh := []) (ph := .own) (ps := [(decide (v4 < (p1.length : Int))) = false, treeLL ((a3.map o55).take (List.length (a3.map o55))) = true, (a3.map o55).take (List.length (a3.map o55)) = (a3.map o55), noRoLL (a3.map o55) = true]) (by kernel_rfl) ⟨c33, (treeT t55), takeM, (noRoM n55), trivial⟩
noncomputable def spec_l6Ahead (p1 : (List GEvent)) : Option (List (List Bool)) :=
  Option.bind (mk [] (p1.length : Int)) fun l2 =>
  spec_l6Ahead_l0 p1 FU l2 0
theorem spec_l6Ahead_m {p1 : (List GEvent)} {r : (List (List Bool))} (h : spec_l6Ahead p1 = some r) : Meets Try.prog 50 [(AV.ro 5 (p1.map o50))] (AV.own 55 1 (r.map o55)) := by
  refine meets_ofC Θ_ok Try.func50 rfl (c := body50) (by kernel_rfl) (Nat.le_of_ble_eq_true rfl) ?_
  intro E hP hn hx
  replace hn : E.n = 72 := hn
  have hm : E.P.follows .mixedOrders = true := by rw [hP]; exact mixed
  have hΘ : TOK E.P Θ := by rw [hP]; exact Θ_ok
  unfold spec_l6Ahead at h
  show WAt E body50 (FQ (RetE Θ Try.f50.results.toList [] [] (AV.own 55 1 (r.map o55)) E)) [] ⟨[(0, (AV.ro 5 (p1.map o50)))], [], [JJ]⟩
  obtain ⟨l2, hl2, h⟩ := bnS h
  exact go_to hΘ hm hx hP hn (hs := [⟨2, .no, some (I (p1.length : Int))⟩, ⟨3, .nw 1001 (List.replicate (Int.toNat (p1.length : Int)) [AV.lit (.slice none 0 0)]), some (AV.sl 1001 0 (List.length (l2.map o55)))⟩, ⟨4, .own0 1001 (Int.toNat (p1.length : Int)) [] [] 4 1 (l2.map o55), none⟩, ⟨6, .no, some (I (p1.length : Int))⟩]) (π := [(1001, 1)]) (ts := [0, 3, 12, 13]) (kp := []) (ps := [AV.lit (.int .i64 (((p1.map o50).length : Nat) : Int)) = (I (p1.length : Int)), List.replicate (Int.toNat (p1.length : Int)) [.lit (.slice none 0 0)] = (List.replicate (Int.toNat (p1.length : Int)) [AV.lit (.slice none 0 0)]), AV.sl 1001 0 (Int.toNat (p1.length : Int)) = (AV.sl 1001 0 (List.length (l2.map o55))), (p1.length : Int) = (p1.length : Int), (0 : Int) ≤ (p1.length : Int), (p1.length : Int) * ((24 : Nat) : Int) ≤ 140737488355328, (p1.length : Int) ≤ 140737488355328, (List.replicate (Int.toNat (p1.length : Int)) [AV.lit (.slice none 0 0)]) = List.replicate (Int.toNat (p1.length : Int)) ([] ++ AV.lit (.slice none 0 0) :: []), List.replicate (Int.toNat (p1.length : Int)) ([] ++ AV.own 4 1 [] :: []) = (l2.map o55), AV.lit (.int .i64 (((p1.map o50).length : Nat) : Int)) = (I (p1.length : Int)), RenOK [(1001, 1)] (l2.map o55)]) (by kernel_rfl) ⟨(lenM o50), rfl, (mkS o55 hl2), rfl, (mk0 hl2), (mkB hl2 (by decide)), (mkC hl2), rfl, (mkM o55 hl2), (lenM o50), (rok (treeM t55)), trivial⟩ (spec_l6Ahead_l0_m hP hn hx p1 FU l2 0 _ h)
noncomputable def body73 : Code := match Try.f73.body with | some c => c | none => .skip
noncomputable def spec_l1In (p1 : Int) (p2 : Int) (p3 : Int) : Option Bool :=
  if (decide (p1 ≥ p2)) = true then
    some (decide (p1 ≤ p3))
  else
    some false
theorem spec_l1In_m {p1 : Int} {p2 : Int} {p3 : Int} {r : Bool} (h : spec_l1In p1 p2 p3 = some r) : Meets Try.prog 73 [(I p1), (I p2), (I p3)] (B r) := by
  refine meets_ofC Θ_ok Try.func73 rfl (c := body73) (by kernel_rfl) (Nat.le_of_ble_eq_true rfl) ?_
  intro E hP hn hx
  replace hn : E.n = 15 := hn
  have hm : E.P.follows .mixedOrders = true := by rw [hP]; exact mixed
  have hΘ : TOK E.P Θ := by rw [hP]; exact Θ_ok
  unfold spec_l1In at h
  show WAt E body73 (FQ (RetE Θ Try.f73.results.toList [] [] (B r) E)) [] ⟨[(0, (I p1)), (1, (I p2)), (2, (I p3))], [], [JJ]⟩
  rcases itS h with ⟨c4, h⟩ | ⟨c5, h⟩
  · have h := Option.some.inj h
    subst h
    exact go_ret hΘ hm hP hn (hs := [⟨4, .no, some (B true)⟩]) (rh := []) (ph := .raw) (ps := [(B (decide (p1 ≥ p2))) = (B true), (B (decide (p1 ≤ p3))) = (B (decide (p1 ≤ p3))), litA (B (decide (p1 ≤ p3))) = true]) (by kernel_rfl) ⟨(litB c4), rfl, rfl, trivial⟩
  · have h := Option.some.inj h
    subst h
    exact go_ret hΘ hm hP hn (hs := [⟨4, .no, some (B false)⟩]) (rh := []) (ph := .raw) (ps := [(B (decide (p1 ≥ p2))) = (B false), (B false) = (B false), litA (B false) = true]) (by kernel_rfl) ⟨(litB c5), rfl, rfl, trivial⟩
noncomputable def body55 : Code := match Try.f55.body with | some c => c | none => .skip
noncomputable def spec_l6Event_j0  (p1 : GEvent)  : Option Bool :=
  Option.bind (spec_l1In p1.Thread 0 4) fun r9 =>
  if r9 = true then
    Option.bind (spec_l1In p1.Kind 1 12) fun r11 =>
    if r11 = true then
      Option.bind (spec_l1In p1.Obj (-1) 99) fun r13 =>
      if r13 = true then
        Option.bind (spec_l1In p1.Lock (-1) 99) fun r15 =>
        if r15 = true then
          Option.bind (spec_l1In p1.Pc 0 99) fun r17 =>
          some r17
        else
          some false
      else
        some false
    else
      some false
  else
    some false
theorem spec_l6Event_j0_m {E : Env} (hP : E.P = Try.prog) (hn : E.n = 49) (hx : ∀ p, p ∈ E.fx → p.1 ∈ ([] : List Nat)) (p1 : GEvent)   (r : Bool) (h : spec_l6Event_j0 p1  = some r) : WAt E body55 (FQ (RetE Θ Try.f55.results.toList [] [] (B r) E)) [true, false, true, true] ⟨[(1, (AV.ptr 1 0 0))], [(1, some ⟨50, 5, [((o50 p1))]⟩)], [1, JJ]⟩ := by
  have hm : E.P.follows .mixedOrders = true := by rw [hP]; exact mixed
  have hΘ : TOK E.P Θ := by rw [hP]; exact Θ_ok
  unfold spec_l6Event_j0 at h
  obtain ⟨r9, hr9, h⟩ := bnS h
  rcases itS h with ⟨c10, h⟩ | ⟨c21, h⟩
  · obtain ⟨r11, hr11, h⟩ := bnS h
    rcases itS h with ⟨c12, h⟩ | ⟨c20, h⟩
    · obtain ⟨r13, hr13, h⟩ := bnS h
      rcases itS h with ⟨c14, h⟩ | ⟨c19, h⟩
      · obtain ⟨r15, hr15, h⟩ := bnS h
        rcases itS h with ⟨c16, h⟩ | ⟨c18, h⟩
        · obtain ⟨r17, hr17, h⟩ := bnS h
          have h := Option.some.inj h
          subst h
          exact go_ret hΘ hm hP hn (hs := [⟨2, .callV [] (B r9), none⟩, ⟨3, .no, some (B true)⟩, ⟨6, .callV [] (B r11), none⟩, ⟨8, .no, some (B true)⟩, ⟨11, .callV [] (B r13), none⟩, ⟨13, .no, some (B true)⟩, ⟨16, .callV [] (B r15), none⟩, ⟨18, .no, some (B true)⟩, ⟨21, .callV [] (B r17), none⟩]) (rh := []) (ph := .raw) (ps := [Meets Try.prog 73 [(I p1.Thread), (I 0), (I 4)] (B r9), litA (B r9) = true, (B r9) = (B true), Meets Try.prog 73 [(I p1.Kind), (I 1), (I 12)] (B r11), litA (B r11) = true, (B r11) = (B true), Meets Try.prog 73 [(I p1.Obj), (I (-1)), (I 99)] (B r13), litA (B r13) = true, (B r13) = (B true), Meets Try.prog 73 [(I p1.Lock), (I (-1)), (I 99)] (B r15), litA (B r15) = true, (B r15) = (B true), Meets Try.prog 73 [(I p1.Pc), (I 0), (I 99)] (B r17), litA (B r17) = true, (B r17) = (B r17), litA (B r17) = true]) (by kernel_rfl) ⟨(spec_l1In_m hr9), rfl, (litB c10), (spec_l1In_m hr11), rfl, (litB c12), (spec_l1In_m hr13), rfl, (litB c14), (spec_l1In_m hr15), rfl, (litB c16), (spec_l1In_m hr17), rfl, rfl, rfl, trivial⟩
        · have h := Option.some.inj h
          subst h
          exact go_ret hΘ hm hP hn (hs := [⟨2, .callV [] (B r9), none⟩, ⟨3, .no, some (B true)⟩, ⟨6, .callV [] (B r11), none⟩, ⟨8, .no, some (B true)⟩, ⟨11, .callV [] (B r13), none⟩, ⟨13, .no, some (B true)⟩, ⟨16, .callV [] (B r15), none⟩, ⟨18, .no, some (B false)⟩]) (rh := []) (ph := .raw) (ps := [Meets Try.prog 73 [(I p1.Thread), (I 0), (I 4)] (B r9), litA (B r9) = true, (B r9) = (B true), Meets Try.prog 73 [(I p1.Kind), (I 1), (I 12)] (B r11), litA (B r11) = true, (B r11) = (B true), Meets Try.prog 73 [(I p1.Obj), (I (-1)), (I 99)] (B r13), litA (B r13) = true, (B r13) = (B true), Meets Try.prog 73 [(I p1.Lock), (I (-1)), (I 99)] (B r15), litA (B r15) = true, (B r15) = (B false), (B false) = (B false), litA (B false) = true]) (by kernel_rfl) ⟨(spec_l1In_m hr9), rfl, (litB c10), (spec_l1In_m hr11), rfl, (litB c12), (spec_l1In_m hr13), rfl, (litB c14), (spec_l1In_m hr15), rfl, (litB c18), rfl, rfl, trivial⟩
      · have h := Option.some.inj h
        subst h
        exact go_ret hΘ hm hP hn (hs := [⟨2, .callV [] (B r9), none⟩, ⟨3, .no, some (B true)⟩, ⟨6, .callV [] (B r11), none⟩, ⟨8, .no, some (B true)⟩, ⟨11, .callV [] (B r13), none⟩, ⟨13, .no, some (B false)⟩]) (rh := []) (ph := .raw) (ps := [Meets Try.prog 73 [(I p1.Thread), (I 0), (I 4)] (B r9), litA (B r9) = true, (B r9) = (B true), Meets Try.prog 73 [(I p1.Kind), (I 1), (I 12)] (B r11), litA (B r11) = true, (B r11) = (B true), Meets Try.prog 73 [(I p1.Obj), (I (-1)), (I 99)] (B r13), litA (B r13) = true, (B r13) = (B false), (B false) = (B false), litA (B false) = true]) (by kernel_rfl) ⟨(spec_l1In_m hr9), rfl, (litB c10), (spec_l1In_m hr11), rfl, (litB c12), (spec_l1In_m hr13), rfl, (litB c19), rfl, rfl, trivial⟩
    · have h := Option.some.inj h
      subst h
      exact go_ret hΘ hm hP hn (hs := [⟨2, .callV [] (B r9), none⟩, ⟨3, .no, some (B true)⟩, ⟨6, .callV [] (B r11), none⟩, ⟨8, .no, some (B false)⟩]) (rh := []) (ph := .raw) (ps := [Meets Try.prog 73 [(I p1.Thread), (I 0), (I 4)] (B r9), litA (B r9) = true, (B r9) = (B true), Meets Try.prog 73 [(I p1.Kind), (I 1), (I 12)] (B r11), litA (B r11) = true, (B r11) = (B false), (B false) = (B false), litA (B false) = true]) (by kernel_rfl) ⟨(spec_l1In_m hr9), rfl, (litB c10), (spec_l1In_m hr11), rfl, (litB c20), rfl, rfl, trivial⟩
  · have h := Option.some.inj h
    subst h
    exact go_ret hΘ hm hP hn (hs := [⟨2, .callV [] (B r9), none⟩, ⟨3, .no, some (B false)⟩]) (rh := []) (ph := .raw) (ps := [Meets Try.prog 73 [(I p1.Thread), (I 0), (I 4)] (B r9), litA (B r9) = true, (B r9) = (B false), (B false) = (B false), litA (B false) = true]) (by kernel_rfl) ⟨(spec_l1In_m hr9), rfl, (litB c21), rfl, rfl, trivial⟩
noncomputable def spec_l6Event (p1 : GEvent) : Option Bool :=
  Option.bind (spec_l1In p1.Kind 2 10) fun r2 =>
  if r2 = true then
    if (decide (p1.Obj < 0)) = true then
      some false
    else
      if (p1.Kind == 8) = true then
        if (decide (p1.Lock < 0)) = true then
          some false
        else
          spec_l6Event_j0 p1
      else
        if (p1.Kind == 9) = true then
          if (decide (p1.Lock < 0)) = true then
            some false
          else
            spec_l6Event_j0 p1
        else
          spec_l6Event_j0 p1
  else
    if (p1.Kind == 8) = true then
      if (decide (p1.Lock < 0)) = true then
        some false
      else
        spec_l6Event_j0 p1
    else
      if (p1.Kind == 9) = true then
        if (decide (p1.Lock < 0)) = true then
          some false
        else
          spec_l6Event_j0 p1
      else
        spec_l6Event_j0 p1
theorem spec_l6Event_m {p1 : GEvent} {r : Bool} (h : spec_l6Event p1 = some r) : Meets Try.prog 55 [(AV.agg ((o50 p1)))] (B r) := by
  refine meets_ofC Θ_ok Try.func55 rfl (c := body55) (by kernel_rfl) (Nat.le_of_ble_eq_true rfl) ?_
  intro E hP hn hx
  replace hn : E.n = 49 := hn
  have hm : E.P.follows .mixedOrders = true := by rw [hP]; exact mixed
  have hΘ : TOK E.P Θ := by rw [hP]; exact Θ_ok
  unfold spec_l6Event at h
  show WAt E body55 (FQ (RetE Θ Try.f55.results.toList [] [] (B r) E)) [] ⟨[(0, (AV.agg ((o50 p1))))], [], [JJ]⟩
  obtain ⟨r2, hr2, h⟩ := bnS h
  rcases itS h with ⟨c3, h⟩ | ⟨c27, h⟩
  · rcases itS h with ⟨c4, h⟩ | ⟨c5, h⟩
    · have h := Option.some.inj h
      subst h
      exact go_ret hΘ hm hP hn (hs := [⟨0, .new 1001, none⟩, ⟨4, .callV [] (B r2), none⟩, ⟨5, .no, some (B true)⟩, ⟨10, .no, some (B true)⟩]) (rh := []) (ph := .raw) (ps := [Meets Try.prog 73 [(I p1.Kind), (I 2), (I 10)] (B r2), litA (B r2) = true, (B r2) = (B true), (B (decide (p1.Obj < 0))) = (B true), (B false) = (B false), litA (B false) = true]) (by kernel_rfl) ⟨(spec_l1In_m hr2), rfl, (litB c3), (litB c4), rfl, rfl, trivial⟩
    · rcases itS h with ⟨c6, h⟩ | ⟨c22, h⟩
      · rcases itS h with ⟨c7, h⟩ | ⟨c8, h⟩
        · have h := Option.some.inj h
          subst h
          exact go_ret hΘ hm hP hn (hs := [⟨0, .new 1001, none⟩, ⟨4, .callV [] (B r2), none⟩, ⟨5, .no, some (B true)⟩, ⟨10, .no, some (B false)⟩, ⟨14, .no, some (B true)⟩, ⟨25, .br true, none⟩]) (rh := []) (ph := .raw) (ps := [Meets Try.prog 73 [(I p1.Kind), (I 2), (I 10)] (B r2), litA (B r2) = true, (B r2) = (B true), (B (decide (p1.Obj < 0))) = (B false), (B (p1.Kind == 8)) = (B true), (decide (p1.Lock < 0)) = true, (B false) = (B false), litA (B false) = true]) (by kernel_rfl) ⟨(spec_l1In_m hr2), rfl, (litB c3), (litB c5), (litB c6), c7, rfl, rfl, trivial⟩
        · exact go_to hΘ hm hx hP hn (hs := [⟨0, .new 1001, none⟩, ⟨4, .callV [] (B r2), none⟩, ⟨5, .no, some (B true)⟩, ⟨10, .no, some (B false)⟩, ⟨14, .no, some (B true)⟩, ⟨25, .br false, none⟩]) (π := [(1001, 1)]) (ts := [1]) (kp := []) (ps := [Meets Try.prog 73 [(I p1.Kind), (I 2), (I 10)] (B r2), litA (B r2) = true, (B r2) = (B true), (B (decide (p1.Obj < 0))) = (B false), (B (p1.Kind == 8)) = (B true), (decide (p1.Lock < 0)) = false, RenOK [(1001, 1)] [((o50 p1))]]) (by kernel_rfl) ⟨(spec_l1In_m hr2), rfl, (litB c3), (litB c5), (litB c6), c8, (rok rfl), trivial⟩ (spec_l6Event_j0_m hP hn hx p1  _ h)
      · rcases itS h with ⟨c23, h⟩ | ⟨c26, h⟩
        · rcases itS h with ⟨c24, h⟩ | ⟨c25, h⟩
          · have h := Option.some.inj h
            subst h
            exact go_ret hΘ hm hP hn (hs := [⟨0, .new 1001, none⟩, ⟨4, .callV [] (B r2), none⟩, ⟨5, .no, some (B true)⟩, ⟨10, .no, some (B false)⟩, ⟨14, .no, some (B false)⟩, ⟨19, .no, some (B true)⟩, ⟨25, .br true, none⟩]) (rh := []) (ph := .raw) (ps := [Meets Try.prog 73 [(I p1.Kind), (I 2), (I 10)] (B r2), litA (B r2) = true, (B r2) = (B true), (B (decide (p1.Obj < 0))) = (B false), (B (p1.Kind == 8)) = (B false), (B (p1.Kind == 9)) = (B true), (decide (p1.Lock < 0)) = true, (B false) = (B false), litA (B false) = true]) (by kernel_rfl) ⟨(spec_l1In_m hr2), rfl, (litB c3), (litB c5), (litB c22), (litB c23), c24, rfl, rfl, trivial⟩
          · exact go_to hΘ hm hx hP hn (hs := [⟨0, .new 1001, none⟩, ⟨4, .callV [] (B r2), none⟩, ⟨5, .no, some (B true)⟩, ⟨10, .no, some (B false)⟩, ⟨14, .no, some (B false)⟩, ⟨19, .no, some (B true)⟩, ⟨25, .br false, none⟩]) (π := [(1001, 1)]) (ts := [1]) (kp := []) (ps := [Meets Try.prog 73 [(I p1.Kind), (I 2), (I 10)] (B r2), litA (B r2) = true, (B r2) = (B true), (B (decide (p1.Obj < 0))) = (B false), (B (p1.Kind == 8)) = (B false), (B (p1.Kind == 9)) = (B true), (decide (p1.Lock < 0)) = false, RenOK [(1001, 1)] [((o50 p1))]]) (by kernel_rfl) ⟨(spec_l1In_m hr2), rfl, (litB c3), (litB c5), (litB c22), (litB c23), c25, (rok rfl), trivial⟩ (spec_l6Event_j0_m hP hn hx p1  _ h)
        · exact go_to hΘ hm hx hP hn (hs := [⟨0, .new 1001, none⟩, ⟨4, .callV [] (B r2), none⟩, ⟨5, .no, some (B true)⟩, ⟨10, .no, some (B false)⟩, ⟨14, .no, some (B false)⟩, ⟨19, .no, some (B false)⟩]) (π := [(1001, 1)]) (ts := [1]) (kp := []) (ps := [Meets Try.prog 73 [(I p1.Kind), (I 2), (I 10)] (B r2), litA (B r2) = true, (B r2) = (B true), (B (decide (p1.Obj < 0))) = (B false), (B (p1.Kind == 8)) = (B false), (B (p1.Kind == 9)) = (B false), RenOK [(1001, 1)] [((o50 p1))]]) (by kernel_rfl) ⟨(spec_l1In_m hr2), rfl, (litB c3), (litB c5), (litB c22), (litB c26), (rok rfl), trivial⟩ (spec_l6Event_j0_m hP hn hx p1  _ h)
  · rcases itS h with ⟨c28, h⟩ | ⟨c31, h⟩
    · rcases itS h with ⟨c29, h⟩ | ⟨c30, h⟩
      · have h := Option.some.inj h
        subst h
        exact go_ret hΘ hm hP hn (hs := [⟨0, .new 1001, none⟩, ⟨4, .callV [] (B r2), none⟩, ⟨5, .no, some (B false)⟩, ⟨14, .no, some (B true)⟩, ⟨25, .br true, none⟩]) (rh := []) (ph := .raw) (ps := [Meets Try.prog 73 [(I p1.Kind), (I 2), (I 10)] (B r2), litA (B r2) = true, (B r2) = (B false), (B (p1.Kind == 8)) = (B true), (decide (p1.Lock < 0)) = true, (B false) = (B false), litA (B false) = true]) (by kernel_rfl) ⟨(spec_l1In_m hr2), rfl, (litB c27), (litB c28), c29, rfl, rfl, trivial⟩
      · exact go_to hΘ hm hx hP hn (hs := [⟨0, .new 1001, none⟩, ⟨4, .callV [] (B r2), none⟩, ⟨5, .no, some (B false)⟩, ⟨14, .no, some (B true)⟩, ⟨25, .br false, none⟩]) (π := [(1001, 1)]) (ts := [1]) (kp := []) (ps := [Meets Try.prog 73 [(I p1.Kind), (I 2), (I 10)] (B r2), litA (B r2) = true, (B r2) = (B false), (B (p1.Kind == 8)) = (B true), (decide (p1.Lock < 0)) = false, RenOK [(1001, 1)] [((o50 p1))]]) (by kernel_rfl) ⟨(spec_l1In_m hr2), rfl, (litB c27), (litB c28), c30, (rok rfl), trivial⟩ (spec_l6Event_j0_m hP hn hx p1  _ h)
    · rcases itS h with ⟨c32, h⟩ | ⟨c35, h⟩
      · rcases itS h with ⟨c33, h⟩ | ⟨c34, h⟩
        · have h := Option.some.inj h
          subst h
          exact go_ret hΘ hm hP hn (hs := [⟨0, .new 1001, none⟩, ⟨4, .callV [] (B r2), none⟩, ⟨5, .no, some (B false)⟩, ⟨14, .no, some (B false)⟩, ⟨19, .no, some (B true)⟩, ⟨25, .br true, none⟩]) (rh := []) (ph := .raw) (ps := [Meets Try.prog 73 [(I p1.Kind), (I 2), (I 10)] (B r2), litA (B r2) = true, (B r2) = (B false), (B (p1.Kind == 8)) = (B false), (B (p1.Kind == 9)) = (B true), (decide (p1.Lock < 0)) = true, (B false) = (B false), litA (B false) = true]) (by kernel_rfl) ⟨(spec_l1In_m hr2), rfl, (litB c27), (litB c31), (litB c32), c33, rfl, rfl, trivial⟩
        · exact go_to hΘ hm hx hP hn (hs := [⟨0, .new 1001, none⟩, ⟨4, .callV [] (B r2), none⟩, ⟨5, .no, some (B false)⟩, ⟨14, .no, some (B false)⟩, ⟨19, .no, some (B true)⟩, ⟨25, .br false, none⟩]) (π := [(1001, 1)]) (ts := [1]) (kp := []) (ps := [Meets Try.prog 73 [(I p1.Kind), (I 2), (I 10)] (B r2), litA (B r2) = true, (B r2) = (B false), (B (p1.Kind == 8)) = (B false), (B (p1.Kind == 9)) = (B true), (decide (p1.Lock < 0)) = false, RenOK [(1001, 1)] [((o50 p1))]]) (by kernel_rfl) ⟨(spec_l1In_m hr2), rfl, (litB c27), (litB c31), (litB c32), c34, (rok rfl), trivial⟩ (spec_l6Event_j0_m hP hn hx p1  _ h)
      · exact go_to hΘ hm hx hP hn (hs := [⟨0, .new 1001, none⟩, ⟨4, .callV [] (B r2), none⟩, ⟨5, .no, some (B false)⟩, ⟨14, .no, some (B false)⟩, ⟨19, .no, some (B false)⟩]) (π := [(1001, 1)]) (ts := [1]) (kp := []) (ps := [Meets Try.prog 73 [(I p1.Kind), (I 2), (I 10)] (B r2), litA (B r2) = true, (B r2) = (B false), (B (p1.Kind == 8)) = (B false), (B (p1.Kind == 9)) = (B false), RenOK [(1001, 1)] [((o50 p1))]]) (by kernel_rfl) ⟨(spec_l1In_m hr2), rfl, (litB c27), (litB c31), (litB c35), (rok rfl), trivial⟩ (spec_l6Event_j0_m hP hn hx p1  _ h)
noncomputable def body31 : Code := match Try.f31.body with | some c => c | none => .skip
noncomputable def spec_l6Trace_l0  (p1 : (List GEvent)) : Nat → Int → Option Bool
  | 0, _ => none
  | n + 1, v2 =>
  if (decide (v2 < (p1.length : Int))) = true then
    Option.bind (rd p1 v2) fun x4 =>
    Option.bind (spec_l6Event x4) fun r5 =>
    if (!r5) = true then
      some false
    else
      spec_l6Trace_l0 p1 n (w64 (v2 + 1))
  else
    some (decide ((p1.length : Int) ≤ 200))
theorem spec_l6Trace_l0_m {E : Env} (hP : E.P = Try.prog) (hn : E.n = 18) (hx : ∀ p, p ∈ E.fx → p.1 ∈ ([] : List Nat)) (p1 : (List GEvent))  : ∀ (n : Nat) (v2 : Int) (r : Bool), spec_l6Trace_l0 p1 n v2 = some r → WAt E body31 (FQ (RetE Θ Try.f31.results.toList [] [] (B r) E)) [true, false, true, false] ⟨[(0, (AV.ro 5 (p1.map o50))), (5, (AV.ro 5 (p1.map o50))), (6, (I (p1.length : Int))), (7, (I v2))], [], [JJ]⟩ := by
  have hm : E.P.follows .mixedOrders = true := by rw [hP]; exact mixed
  have hΘ : TOK E.P Θ := by rw [hP]; exact Θ_ok
  intro n
  induction n with
  | zero => intro v2 r h; simp only [spec_l6Trace_l0] at h; cases h
  | succ n ih =>
    intro v2 r h
    simp only [spec_l6Trace_l0] at h
    rcases itS h with ⟨c3, h⟩ | ⟨c8, h⟩
    · obtain ⟨x4, hx4, h⟩ := bnS h
      obtain ⟨r5, hr5, h⟩ := bnS h
      rcases itS h with ⟨c6, h⟩ | ⟨c7, h⟩
      · have h := Option.some.inj h
        subst h
        exact go_ret hΘ hm hP hn (hs := [⟨1, .br true, none⟩, ⟨2, .row (o50 x4), none⟩, ⟨4, .new 1001, none⟩, ⟨7, .callV [[]] (B r5), none⟩, ⟨9, .br true, none⟩]) (rh := []) (ph := .raw) (ps := [(decide (v2 < (p1.length : Int))) = true, (0 : Int) ≤ v2, (p1.map o50)[(Int.toNat v2)]? = some (o50 x4), Meets Try.prog 55 [(AV.agg ((o50 x4)))] (B r5), litA (B r5) = true, (!r5) = true, (B false) = (B false), litA (B false) = true]) (by kernel_rfl) ⟨c3, (rd0 hx4), (rdM o50 hx4), (spec_l6Event_m hr5), rfl, c6, rfl, rfl, trivial⟩
      · exact go_to hΘ hm hx hP hn (hs := [⟨1, .br true, none⟩, ⟨2, .row (o50 x4), none⟩, ⟨4, .new 1001, none⟩, ⟨7, .callV [[]] (B r5), none⟩, ⟨9, .br false, none⟩]) (π := []) (ts := [0, 5, 6, 7]) (kp := []) (ps := [(decide (v2 < (p1.length : Int))) = true, (0 : Int) ≤ v2, (p1.map o50)[(Int.toNat v2)]? = some (o50 x4), Meets Try.prog 55 [(AV.agg ((o50 x4)))] (B r5), litA (B r5) = true, (!r5) = false]) (by kernel_rfl) ⟨c3, (rd0 hx4), (rdM o50 hx4), (spec_l6Event_m hr5), rfl, c7, trivial⟩ (ih (w64 (v2 + 1)) _ h)
    · have h := Option.some.inj h
      subst h
      exact go_ret hΘ hm hP hn (hs := [⟨1, .br false, none⟩, ⟨3, .no, some (I (p1.length : Int))⟩]) (rh := []) (ph := .raw) (ps := [(decide (v2 < (p1.length : Int))) = false, AV.lit (.int .i64 (((p1.map o50).length : Nat) : Int)) = (I (p1.length : Int)), (B (decide ((p1.length : Int) ≤ 200))) = (B (decide ((p1.length : Int) ≤ 200))), litA (B (decide ((p1.length : Int) ≤ 200))) = true]) (by kernel_rfl) ⟨c8, (lenM o50), rfl, rfl, trivial⟩
noncomputable def spec_l6Trace (p1 : (List GEvent)) : Option Bool :=
  spec_l6Trace_l0 p1 FU 0
theorem spec_l6Trace_m {p1 : (List GEvent)} {r : Bool} (h : spec_l6Trace p1 = some r) : Meets Try.prog 31 [(AV.ro 5 (p1.map o50))] (B r) := by
  refine meets_ofC Θ_ok Try.func31 rfl (c := body31) (by kernel_rfl) (Nat.le_of_ble_eq_true rfl) ?_
  intro E hP hn hx
  replace hn : E.n = 18 := hn
  have hm : E.P.follows .mixedOrders = true := by rw [hP]; exact mixed
  have hΘ : TOK E.P Θ := by rw [hP]; exact Θ_ok
  unfold spec_l6Trace at h
  show WAt E body31 (FQ (RetE Θ Try.f31.results.toList [] [] (B r) E)) [] ⟨[(0, (AV.ro 5 (p1.map o50)))], [], [JJ]⟩
  exact go_to hΘ hm hx hP hn (hs := [⟨2, .no, some (I (p1.length : Int))⟩]) (π := []) (ts := [0, 5, 6, 7]) (kp := []) (ps := [AV.lit (.int .i64 (((p1.map o50).length : Nat) : Int)) = (I (p1.length : Int))]) (by kernel_rfl) ⟨(lenM o50), trivial⟩ (spec_l6Trace_l0_m hP hn hx p1 FU 0 _ h)
noncomputable def body26 : Code := match Try.f26.body with | some c => c | none => .skip
noncomputable def spec_SideBySide_l1 (K0 : (List (List Bool)) → (List (List Int)) → Int → Option ((List (List Int)) × Bool)) (p1 : (List GEvent)) (v8 : Int) : Nat → (List (List Bool)) → (List (List Int)) → Int → Option ((List (List Int)) × Bool)
  | 0, _, _, _ => none
  | n + 1, a10, a11, v12 =>
  if (decide (v12 < (p1.length : Int))) = true then
    Option.bind (rd a10 v12) fun x14 =>
    Option.bind (rd x14 v8) fun x15 =>
    if (!x15) = true then
      Option.bind (app a11 [[v8, v12]]) fun l17 =>
      spec_SideBySide_l1 K0 p1 v8 n a10 l17 (w64 (v12 + 1))
    else
      spec_SideBySide_l1 K0 p1 v8 n a10 a11 (w64 (v12 + 1))
  else
    K0 a10 a11 (w64 (v8 + 1))
theorem spec_SideBySide_l1_m {E : Env} (hP : E.P = Try.prog) (hn : E.n = 42) (hx : ∀ p, p ∈ E.fx → p.1 ∈ ([] : List Nat)) (p1 : (List GEvent)) (v8 : Int) {K0 : (List (List Bool)) → (List (List Int)) → Int → Option ((List (List Int)) × Bool)} (hK0 : ∀ (a6 : (List (List Bool))) (a7 : (List (List Int))) (v8 : Int) (r : ((List (List Int)) × Bool)), K0 a6 a7 v8 = some r → WAt E body26 (FQ (RetE Θ Try.f26.results.toList [] [] (AV.tup [(AV.own 32 1 (r.1.map o32)), (B r.2)]) E)) [true, true, true, true, false, true, false] ⟨[(0, (AV.ro 5 (p1.map o50))), (4, (AV.sl 1 0 (List.length (a6.map o55)))), (5, (AV.sl 2 0 (List.length (a7.map o32)))), (14, (I (p1.length : Int))), (15, (I v8))], [(1, some ⟨55, 1, (a6.map o55)⟩), (2, some ⟨32, 1, (a7.map o32)⟩)], [1, 2, JJ]⟩) : ∀ (n : Nat) (a10 : (List (List Bool))) (a11 : (List (List Int))) (v12 : Int) (r : ((List (List Int)) × Bool)), spec_SideBySide_l1 K0 p1 v8 n a10 a11 v12 = some r → WAt E body26 (FQ (RetE Θ Try.f26.results.toList [] [] (AV.tup [(AV.own 32 1 (r.1.map o32)), (B r.2)]) E)) [true, true, true, true, false, true, false, false, true, true, false, false, true, true, false] ⟨[(0, (AV.ro 5 (p1.map o50))), (4, (AV.sl 1 0 (List.length (a10.map o55)))), (5, (AV.sl 2 0 (List.length (a11.map o32)))), (6, (I v8)), (7, (I v12)), (14, (I (p1.length : Int))), (15, (I v8))], [(1, some ⟨55, 1, (a10.map o55)⟩), (2, some ⟨32, 1, (a11.map o32)⟩)], [1, 2, JJ]⟩ := by
  have hm : E.P.follows .mixedOrders = true := by rw [hP]; exact mixed
  have hΘ : TOK E.P Θ := by rw [hP]; exact Θ_ok
  intro n
  induction n with
  | zero => intro a10 a11 v12 r h; simp only [spec_SideBySide_l1] at h; cases h
  | succ n ih =>
    intro a10 a11 v12 r h
    simp only [spec_SideBySide_l1] at h
    rcases itS h with ⟨c13, h⟩ | ⟨c19, h⟩
    · obtain ⟨x14, hx14, h⟩ := bnS h
      obtain ⟨x15, hx15, h⟩ := bnS h
      rcases itS h with ⟨c16, h⟩ | ⟨c18, h⟩
      · obtain ⟨l17, hl17, h⟩ := bnS h
        exact go_to hΘ hm hx hP hn (hs := [⟨2, .no, some (I (p1.length : Int))⟩, ⟨4, .br true, none⟩, ⟨8, .unpack 1 1001 (Int.toNat v12) 0 [(AV.own 4 1 (x14.map o4))] 4 1 (x14.map o4) ((a10.map o55).set (Int.toNat v12) [(AV.sl 1001 0 (List.length (x14.map o4)))]), none⟩, ⟨8, .row [(AV.sl 1001 0 (List.length (x14.map o4)))], none⟩, ⟨11, .row [(B x15)], none⟩, ⟨13, .br true, none⟩, ⟨17, .new 1002, none⟩, ⟨18, .new 1003, none⟩, ⟨19, .app 1004 ((a11.map o32) ++ [[(AV.sl 1002 0 (List.length ([v8, v12].map o3)))]]), none⟩, ⟨20, .pack 1004 1002 (List.length a11) 0 [(AV.sl 1002 0 (List.length ([v8, v12].map o3)))] (l17.map o32), none⟩, ⟨24, .pack 1 1001 (Int.toNat v12) 0 [(AV.sl 1001 0 (List.length (x14.map o4)))] (a10.map o55), none⟩, ⟨24, .slen 4 (List.length (a10.map o55)), none⟩, ⟨24, .slen 5 (List.length (l17.map o32)), none⟩]) (π := [(1, 1), (1004, 2)]) (ts := [0, 4, 5, 6, 7, 14, 15]) (kp := []) (ps := [AV.lit (.int .i64 (((p1.map o50).length : Nat) : Int)) = (I (p1.length : Int)), (decide (v12 < (p1.length : Int))) = true, (0 : Int) ≤ v12, v12 < (((List.length (a10.map o55)) : Nat) : Int), (a10.map o55)[(Int.toNat v12)]? = some [(AV.own 4 1 (x14.map o4))], [(AV.own 4 1 (x14.map o4))][0]? = some (AV.own 4 1 (x14.map o4)), 0 < 1, (a10.map o55).set (Int.toNat v12) ([(AV.own 4 1 (x14.map o4))].set 0 (AV.sl 1001 0 (List.length (x14.map o4)))) = ((a10.map o55).set (Int.toNat v12) [(AV.sl 1001 0 (List.length (x14.map o4)))]), ((a10.map o55).set (Int.toNat v12) [(AV.sl 1001 0 (List.length (x14.map o4)))])[(Int.toNat v12)]? = some [(AV.sl 1001 0 (List.length (x14.map o4)))], (0 : Int) ≤ v8, v8 < (((List.length (x14.map o4)) : Nat) : Int), (x14.map o4)[(Int.toNat v8)]? = some [(B x15)], (!x15) = true, (a11.map o32).take (List.length (a11.map o32)) ++ [[(AV.sl 1002 0 (List.length ([v8, v12].map o3)))]] = ((a11.map o32) ++ [[(AV.sl 1002 0 (List.length ([v8, v12].map o3)))]]), [[(AV.sl 1002 0 (List.length ([v8, v12].map o3)))]].all (fun r => r.all AV.plain) = true, (List.length ((a11.map o32) ++ [[(AV.sl 1002 0 (List.length ([v8, v12].map o3)))]])) * 24 ≤ 140737488355328, (List.length ((a11.map o32) ++ [[(AV.sl 1002 0 (List.length ([v8, v12].map o3)))]])) ≤ 140737488355328, ((a11.map o32) ++ [[(AV.sl 1002 0 (List.length ([v8, v12].map o3)))]])[(List.length a11)]? = some [(AV.sl 1002 0 (List.length ([v8, v12].map o3)))], [(AV.sl 1002 0 (List.length ([v8, v12].map o3)))][0]? = some (AV.sl 1002 0 (List.length ([v8, v12].map o3))), treeLL ([v8, v12].map o3) = true, ((a11.map o32) ++ [[(AV.sl 1002 0 (List.length ([v8, v12].map o3)))]]).set (List.length a11) ([(AV.sl 1002 0 (List.length ([v8, v12].map o3)))].set 0 (AV.own 3 1 ([v8, v12].map o3))) = (l17.map o32), ((a10.map o55).set (Int.toNat v12) [(AV.sl 1001 0 (List.length (x14.map o4)))])[(Int.toNat v12)]? = some [(AV.sl 1001 0 (List.length (x14.map o4)))], [(AV.sl 1001 0 (List.length (x14.map o4)))][0]? = some (AV.sl 1001 0 (List.length (x14.map o4))), treeLL (x14.map o4) = true, ((a10.map o55).set (Int.toNat v12) [(AV.sl 1001 0 (List.length (x14.map o4)))]).set (Int.toNat v12) ([(AV.sl 1001 0 (List.length (x14.map o4)))].set 0 (AV.own 4 1 (x14.map o4))) = (a10.map o55), (List.length (a10.map o55)) = (List.length (a10.map o55)), (List.length ((a11.map o32) ++ [[(AV.sl 1002 0 (List.length ([v8, v12].map o3)))]])) = (List.length (l17.map o32)), RenOK [(1, 1), (1004, 2)] (a10.map o55), RenOK [(1, 1), (1004, 2)] (l17.map o32)]) (by kernel_rfl) ⟨(lenM o50), c13, (rd0 hx14), (rdL o55 hx14), (rdM o55 hx14), rfl, (by decide), rfl, (setE (rdM o55 hx14)), (rd0 hx15), (rdL o4 hx15), (rdM o4 hx15), c16, (apT o32), rfl, (apB o32 hl17 (by decide)), (apC o32 hl17), (apG o32), rfl, (treeM t3), (apS o32 hl17), (setE (rdM o55 hx14)), rfl, (treeM t4), (setPi o55 hx14), rfl, (apLn o32 hl17), (rok (treeM t55)), (rok (treeM t32)), trivial⟩ (ih a10 l17 (w64 (v12 + 1)) _ h)
      · exact go_to hΘ hm hx hP hn (hs := [⟨2, .no, some (I (p1.length : Int))⟩, ⟨4, .br true, none⟩, ⟨8, .unpack 1 1001 (Int.toNat v12) 0 [(AV.own 4 1 (x14.map o4))] 4 1 (x14.map o4) ((a10.map o55).set (Int.toNat v12) [(AV.sl 1001 0 (List.length (x14.map o4)))]), none⟩, ⟨8, .row [(AV.sl 1001 0 (List.length (x14.map o4)))], none⟩, ⟨11, .row [(B x15)], none⟩, ⟨13, .br false, none⟩, ⟨17, .pack 1 1001 (Int.toNat v12) 0 [(AV.sl 1001 0 (List.length (x14.map o4)))] (a10.map o55), none⟩, ⟨17, .slen 4 (List.length (a10.map o55)), none⟩]) (π := [(1, 1), (2, 2)]) (ts := [0, 4, 5, 6, 7, 14, 15]) (kp := []) (ps := [AV.lit (.int .i64 (((p1.map o50).length : Nat) : Int)) = (I (p1.length : Int)), (decide (v12 < (p1.length : Int))) = true, (0 : Int) ≤ v12, v12 < (((List.length (a10.map o55)) : Nat) : Int), (a10.map o55)[(Int.toNat v12)]? = some [(AV.own 4 1 (x14.map o4))], [(AV.own 4 1 (x14.map o4))][0]? = some (AV.own 4 1 (x14.map o4)), 0 < 1, (a10.map o55).set (Int.toNat v12) ([(AV.own 4 1 (x14.map o4))].set 0 (AV.sl 1001 0 (List.length (x14.map o4)))) = ((a10.map o55).set (Int.toNat v12) [(AV.sl 1001 0 (List.length (x14.map o4)))]), ((a10.map o55).set (Int.toNat v12) [(AV.sl 1001 0 (List.length (x14.map o4)))])[(Int.toNat v12)]? = some [(AV.sl 1001 0 (List.length (x14.map o4)))], (0 : Int) ≤ v8, v8 < (((List.length (x14.map o4)) : Nat) : Int), (x14.map o4)[(Int.toNat v8)]? = some [(B x15)], (!x15) = false, ((a10.map o55).set (Int.toNat v12) [(AV.sl 1001 0 (List.length (x14.map o4)))])[(Int.toNat v12)]? = some [(AV.sl 1001 0 (List.length (x14.map o4)))], [(AV.sl 1001 0 (List.length (x14.map o4)))][0]? = some (AV.sl 1001 0 (List.length (x14.map o4))), treeLL (x14.map o4) = true, ((a10.map o55).set (Int.toNat v12) [(AV.sl 1001 0 (List.length (x14.map o4)))]).set (Int.toNat v12) ([(AV.sl 1001 0 (List.length (x14.map o4)))].set 0 (AV.own 4 1 (x14.map o4))) = (a10.map o55), (List.length (a10.map o55)) = (List.length (a10.map o55)), RenOK [(1, 1), (2, 2)] (a10.map o55), RenOK [(1, 1), (2, 2)] (a11.map o32)]) (by kernel_rfl) ⟨(lenM o50), c13, (rd0 hx14), (rdL o55 hx14), (rdM o55 hx14), rfl, (by decide), rfl, (setE (rdM o55 hx14)), (rd0 hx15), (rdL o4 hx15), (rdM o4 hx15), c18, (setE (rdM o55 hx14)), rfl, (treeM t4), (setPi o55 hx14), rfl, (rok (treeM t55)), (rok (treeM t32)), trivial⟩ (ih a10 a11 (w64 (v12 + 1)) _ h)
    · exact go_to hΘ hm hx hP hn (hs := [⟨2, .no, some (I (p1.length : Int))⟩, ⟨4, .br false, none⟩]) (π := [(1, 1), (2, 2)]) (ts := [0, 4, 5, 14, 15]) (kp := []) (ps := [AV.lit (.int .i64 (((p1.map o50).length : Nat) : Int)) = (I (p1.length : Int)), (decide (v12 < (p1.length : Int))) = false, RenOK [(1, 1), (2, 2)] (a10.map o55), RenOK [(1, 1), (2, 2)] (a11.map o32)]) (by kernel_rfl) ⟨(lenM o50), c19, (rok (treeM t55)), (rok (treeM t32)), trivial⟩ (hK0 a10 a11 (w64 (v8 + 1)) _ h)
noncomputable def spec_SideBySide_l0  (p1 : (List GEvent)) : Nat → (List (List Bool)) → (List (List Int)) → Int → Option ((List (List Int)) × Bool)
  | 0, _, _, _ => none
  | n + 1, a6, a7, v8 =>
  if (decide (v8 < (p1.length : Int))) = true then
    spec_SideBySide_l1 (spec_SideBySide_l0 p1 n) p1 v8 FU a6 a7 (w64 (v8 + 1))
  else
    some (a7, true)
theorem spec_SideBySide_l0_m {E : Env} (hP : E.P = Try.prog) (hn : E.n = 42) (hx : ∀ p, p ∈ E.fx → p.1 ∈ ([] : List Nat)) (p1 : (List GEvent))  : ∀ (n : Nat) (a6 : (List (List Bool))) (a7 : (List (List Int))) (v8 : Int) (r : ((List (List Int)) × Bool)), spec_SideBySide_l0 p1 n a6 a7 v8 = some r → WAt E body26 (FQ (RetE Θ Try.f26.results.toList [] [] (AV.tup [(AV.own 32 1 (r.1.map o32)), (B r.2)]) E)) [true, true, true, true, false, true, false] ⟨[(0, (AV.ro 5 (p1.map o50))), (4, (AV.sl 1 0 (List.length (a6.map o55)))), (5, (AV.sl 2 0 (List.length (a7.map o32)))), (14, (I (p1.length : Int))), (15, (I v8))], [(1, some ⟨55, 1, (a6.map o55)⟩), (2, some ⟨32, 1, (a7.map o32)⟩)], [1, 2, JJ]⟩ := by
  have hm : E.P.follows .mixedOrders = true := by rw [hP]; exact mixed
  have hΘ : TOK E.P Θ := by rw [hP]; exact Θ_ok
  intro n
  induction n with
  | zero => intro a6 a7 v8 r h; simp only [spec_SideBySide_l0] at h; cases h
  | succ n ih =>
    intro a6 a7 v8 r h
    simp only [spec_SideBySide_l0] at h
    rcases itS h with ⟨c9, h⟩ | ⟨c20, h⟩
    · exact go_to hΘ hm hx hP hn (hs := [⟨1, .br true, none⟩]) (π := [(1, 1), (2, 2)]) (ts := [0, 4, 5, 6, 7, 14, 15]) (kp := []) (ps := [(decide (v8 < (p1.length : Int))) = true, RenOK [(1, 1), (2, 2)] (a6.map o55), RenOK [(1, 1), (2, 2)] (a7.map o32)]) (by kernel_rfl) ⟨c9, (rok (treeM t55)), (rok (treeM t32)), trivial⟩ (spec_SideBySide_l1_m hP hn hx p1 v8 ih FU a6 a7 (w64 (v8 + 1)) _ h)
    · have h := Option.some.inj h
      subst h
      exact go_ret hΘ hm hP hn (hs := [⟨1, .br false, none⟩]) (rh := []) (ph := .agg [.own, .raw]) (ps := [(decide (v8 < (p1.length : Int))) = false, treeLL ((a7.map o32).take (List.length (a7.map o32))) = true, (a7.map o32).take (List.length (a7.map o32)) = (a7.map o32), noRoLL (a7.map o32) = true, (B true) = (B true), litA (B true) = true]) (by kernel_rfl) ⟨c20, (treeT t32), takeM, (noRoM n32), rfl, rfl, trivial⟩
noncomputable def spec_SideBySide (p1 : (List GEvent)) : Option ((List (List Int)) × Bool) :=
  Option.bind (spec_l6Trace p1) fun r2 =>
  if (!r2) = true then
    some ([], false)
  else
    Option.bind (spec_l6Ahead p1) fun r5 =>
    spec_SideBySide_l0 p1 FU r5 [] 0
theorem spec_SideBySide_m {p1 : (List GEvent)} {r : ((List (List Int)) × Bool)} (h : spec_SideBySide p1 = some r) : Meets Try.prog 26 [(AV.ro 5 (p1.map o50))] (AV.tup [(AV.own 32 1 (r.1.map o32)), (B r.2)]) := by
  refine meets_ofC Θ_ok Try.func26 rfl (c := body26) (by kernel_rfl) (Nat.le_of_ble_eq_true rfl) ?_
  intro E hP hn hx
  replace hn : E.n = 42 := hn
  have hm : E.P.follows .mixedOrders = true := by rw [hP]; exact mixed
  have hΘ : TOK E.P Θ := by rw [hP]; exact Θ_ok
  unfold spec_SideBySide at h
  show WAt E body26 (FQ (RetE Θ Try.f26.results.toList [] [] (AV.tup [(AV.own 32 1 (r.1.map o32)), (B r.2)]) E)) [] ⟨[(0, (AV.ro 5 (p1.map o50)))], [], [JJ]⟩
  obtain ⟨r2, hr2, h⟩ := bnS h
  rcases itS h with ⟨c3, h⟩ | ⟨c4, h⟩
  · have h := Option.some.inj h
    subst h
    exact go_ret hΘ hm hP hn (hs := [⟨3, .callV [] (B r2), none⟩, ⟨5, .br true, none⟩]) (rh := []) (ph := .agg [.own, .raw]) (ps := [Meets Try.prog 31 [(AV.ro 5 (p1.map o50))] (B r2), litA (B r2) = true, (!r2) = true, (B false) = (B false), litA (B false) = true]) (by kernel_rfl) ⟨(spec_l6Trace_m hr2), rfl, c3, rfl, rfl, trivial⟩
  · obtain ⟨r5, hr5, h⟩ := bnS h
    exact go_to hΘ hm hx hP hn (hs := [⟨3, .callV [] (B r2), none⟩, ⟨5, .br false, none⟩, ⟨7, .call [] (AV.own 55 1 (r5.map o55)) [1001], none⟩, ⟨11, .no, some (I (p1.length : Int))⟩, ⟨13, .nil 5 1002 32 1, none⟩]) (π := [(1001, 1), (1002, 2)]) (ts := [0, 4, 5, 14, 15]) (kp := []) (ps := [Meets Try.prog 31 [(AV.ro 5 (p1.map o50))] (B r2), litA (B r2) = true, (!r2) = false, Meets Try.prog 50 [(AV.ro 5 (p1.map o50))] (AV.own 55 1 (r5.map o55)), noRo (AV.own 55 1 (r5.map o55)) = true, AV.lit (.int .i64 (((p1.map o50).length : Nat) : Int)) = (I (p1.length : Int)), RenOK [(1001, 1), (1002, 2)] (r5.map o55), RenOK [(1001, 1), (1002, 2)] ([].map o32)]) (by kernel_rfl) ⟨(spec_l6Trace_m hr2), rfl, c4, (spec_l6Ahead_m hr5), (by simp only [noRo, noRoL, noRoM n55, Bool.and_self]), (lenM o50), (rok (treeM t55)), (rok (treeM t32)), trivial⟩ (spec_SideBySide_l0_m hP hn hx p1 FU r5 [] 0 _ h)
end Go.Proofs.Ytfanhncmpbncpaa
