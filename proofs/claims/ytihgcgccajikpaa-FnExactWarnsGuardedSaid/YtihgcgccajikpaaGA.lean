/- Functions as plain data, and that the code comes to them; no condition. -/

import Derived.Test.YtihgcgccajikpaaGT
import Derived.Test.YtihgcgccajikpaaBN
import Derived.Ground.SlsfProg
set_option linter.unusedVariables false
set_option maxRecDepth 100000
namespace Go.Proofs.Ytihgcgccajikpaa
open Go Go.T
noncomputable def body101 : Code := match Try.f101.body with | some c => c | none => .skip
noncomputable def impl_in (p1 : Int) (p2 : Int) (p3 : Int) : Option Bool :=
  if (decide (p2 ≤ p1)) = true then
    some (decide (p1 ≤ p3))
  else
    some false
theorem impl_in_m {p1 : Int} {p2 : Int} {p3 : Int} {r : Bool} (h : impl_in p1 p2 p3 = some r) : Meets Try.prog 101 [(I p1), (I p2), (I p3)] (B r) := by
  refine meets_ofC Θ_ok Try.func101 rfl (c := body101) (by kernel_rfl) (Nat.le_of_ble_eq_true rfl) ?_
  intro E hP hn hx
  replace hn : E.n = 15 := hn
  have hm : E.P.follows .mixedOrders = true := by rw [hP]; exact mixed
  have hΘ : TOK E.P Θ := by rw [hP]; exact Θ_ok
  unfold impl_in at h
  show WAt E body101 (FQ (RetE Θ Try.f101.results.toList [] [] (B r) E)) [] ⟨[(0, (I p1)), (1, (I p2)), (2, (I p3))], [], [JJ]⟩
  rcases itS h with ⟨c4, h⟩ | ⟨c5, h⟩
  · have h := Option.some.inj h
    subst h
    exact go_ret hΘ hm hP hn (hs := [⟨4, .no, some (B true)⟩]) (rh := []) (ph := .raw) (ps := [(B (decide (p2 ≤ p1))) = (B true), (B (decide (p1 ≤ p3))) = (B (decide (p1 ≤ p3))), litA (B (decide (p1 ≤ p3))) = true]) (by kernel_rfl) ⟨(litB c4), rfl, rfl, trivial⟩
  · have h := Option.some.inj h
    subst h
    exact go_ret hΘ hm hP hn (hs := [⟨4, .no, some (B false)⟩]) (rh := []) (ph := .raw) (ps := [(B (decide (p2 ≤ p1))) = (B false), (B false) = (B false), litA (B false) = true]) (by kernel_rfl) ⟨(litB c5), rfl, rfl, trivial⟩
noncomputable def body81 : Code := match Try.f81.body with | some c => c | none => .skip
noncomputable def impl_Event_isGood_j0  (p1 : GEvent)  : Option Bool :=
  if (decide (p1.Obj ≥ 0)) = true then
    if (decide (p1.Lock ≥ 0)) = true then
      some true
    else
      if (p1.Kind != 8) = true then
        some (p1.Kind != 9)
      else
        some false
  else
    Option.bind (impl_in p1.Kind 2 10) fun r23 =>
    if (!r23) = true then
      if (decide (p1.Lock ≥ 0)) = true then
        some true
      else
        if (p1.Kind != 8) = true then
          some (p1.Kind != 9)
        else
          some false
    else
      some false
theorem impl_Event_isGood_j0_m {E : Env} (hP : E.P = Try.prog) (hn : E.n = 55) (hx : ∀ p, p ∈ E.fx → p.1 ∈ ([] : List Nat)) (p1 : GEvent)   (r : Bool) (h : impl_Event_isGood_j0 p1  = some r) : WAt E body81 (FQ (RetE Θ Try.f81.results.toList [] [] (B r) E)) [true, false, true, true] ⟨[(1, (AV.ptr 1 0 0))], [(1, some ⟨64, 5, [((o64 p1))]⟩)], [1, JJ]⟩ := by
  have hm : E.P.follows .mixedOrders = true := by rw [hP]; exact mixed
  have hΘ : TOK E.P Θ := by rw [hP]; exact Θ_ok
  unfold impl_Event_isGood_j0 at h
  rcases itS h with ⟨c17, h⟩ | ⟨c22, h⟩
  · rcases itS h with ⟨c18, h⟩ | ⟨c19, h⟩
    · have h := Option.some.inj h
      subst h
      exact go_ret hΘ hm hP hn (hs := [⟨3, .no, some (B true)⟩, ⟨13, .no, some (B true)⟩]) (rh := []) (ph := .raw) (ps := [(B (decide (p1.Obj ≥ 0))) = (B true), (B (decide (p1.Lock ≥ 0))) = (B true), (B true) = (B true), litA (B true) = true]) (by kernel_rfl) ⟨(litB c17), (litB c18), rfl, rfl, trivial⟩
    · rcases itS h with ⟨c20, h⟩ | ⟨c21, h⟩
      · have h := Option.some.inj h
        subst h
        exact go_ret hΘ hm hP hn (hs := [⟨3, .no, some (B true)⟩, ⟨13, .no, some (B false)⟩, ⟨17, .no, some (B true)⟩]) (rh := []) (ph := .raw) (ps := [(B (decide (p1.Obj ≥ 0))) = (B true), (B (decide (p1.Lock ≥ 0))) = (B false), (B (p1.Kind != 8)) = (B true), (B (p1.Kind != 9)) = (B (p1.Kind != 9)), litA (B (p1.Kind != 9)) = true]) (by kernel_rfl) ⟨(litB c17), (litB c19), (litB c20), rfl, rfl, trivial⟩
      · have h := Option.some.inj h
        subst h
        exact go_ret hΘ hm hP hn (hs := [⟨3, .no, some (B true)⟩, ⟨13, .no, some (B false)⟩, ⟨17, .no, some (B false)⟩]) (rh := []) (ph := .raw) (ps := [(B (decide (p1.Obj ≥ 0))) = (B true), (B (decide (p1.Lock ≥ 0))) = (B false), (B (p1.Kind != 8)) = (B false), (B false) = (B false), litA (B false) = true]) (by kernel_rfl) ⟨(litB c17), (litB c19), (litB c21), rfl, rfl, trivial⟩
  · obtain ⟨r23, hr23, h⟩ := bnS h
    rcases itS h with ⟨c24, h⟩ | ⟨c29, h⟩
    · rcases itS h with ⟨c25, h⟩ | ⟨c26, h⟩
      · have h := Option.some.inj h
        subst h
        exact go_ret hΘ hm hP hn (hs := [⟨3, .no, some (B false)⟩, ⟨6, .callV [] (B r23), none⟩, ⟨9, .no, some (B true)⟩, ⟨13, .no, some (B true)⟩]) (rh := []) (ph := .raw) (ps := [(B (decide (p1.Obj ≥ 0))) = (B false), Meets Try.prog 101 [(I p1.Kind), (I 2), (I 10)] (B r23), litA (B r23) = true, (B (!r23)) = (B true), (B (decide (p1.Lock ≥ 0))) = (B true), (B true) = (B true), litA (B true) = true]) (by kernel_rfl) ⟨(litB c22), (impl_in_m hr23), rfl, (litB c24), (litB c25), rfl, rfl, trivial⟩
      · rcases itS h with ⟨c27, h⟩ | ⟨c28, h⟩
        · have h := Option.some.inj h
          subst h
          exact go_ret hΘ hm hP hn (hs := [⟨3, .no, some (B false)⟩, ⟨6, .callV [] (B r23), none⟩, ⟨9, .no, some (B true)⟩, ⟨13, .no, some (B false)⟩, ⟨17, .no, some (B true)⟩]) (rh := []) (ph := .raw) (ps := [(B (decide (p1.Obj ≥ 0))) = (B false), Meets Try.prog 101 [(I p1.Kind), (I 2), (I 10)] (B r23), litA (B r23) = true, (B (!r23)) = (B true), (B (decide (p1.Lock ≥ 0))) = (B false), (B (p1.Kind != 8)) = (B true), (B (p1.Kind != 9)) = (B (p1.Kind != 9)), litA (B (p1.Kind != 9)) = true]) (by kernel_rfl) ⟨(litB c22), (impl_in_m hr23), rfl, (litB c24), (litB c26), (litB c27), rfl, rfl, trivial⟩
        · have h := Option.some.inj h
          subst h
          exact go_ret hΘ hm hP hn (hs := [⟨3, .no, some (B false)⟩, ⟨6, .callV [] (B r23), none⟩, ⟨9, .no, some (B true)⟩, ⟨13, .no, some (B false)⟩, ⟨17, .no, some (B false)⟩]) (rh := []) (ph := .raw) (ps := [(B (decide (p1.Obj ≥ 0))) = (B false), Meets Try.prog 101 [(I p1.Kind), (I 2), (I 10)] (B r23), litA (B r23) = true, (B (!r23)) = (B true), (B (decide (p1.Lock ≥ 0))) = (B false), (B (p1.Kind != 8)) = (B false), (B false) = (B false), litA (B false) = true]) (by kernel_rfl) ⟨(litB c22), (impl_in_m hr23), rfl, (litB c24), (litB c26), (litB c28), rfl, rfl, trivial⟩
    · have h := Option.some.inj h
      subst h
      exact go_ret hΘ hm hP hn (hs := [⟨3, .no, some (B false)⟩, ⟨6, .callV [] (B r23), none⟩, ⟨9, .no, some (B false)⟩]) (rh := []) (ph := .raw) (ps := [(B (decide (p1.Obj ≥ 0))) = (B false), Meets Try.prog 101 [(I p1.Kind), (I 2), (I 10)] (B r23), litA (B r23) = true, (B (!r23)) = (B false), (B false) = (B false), litA (B false) = true]) (by kernel_rfl) ⟨(litB c22), (impl_in_m hr23), rfl, (litB c29), rfl, rfl, trivial⟩
noncomputable def impl_Event_isGood (p1 : GEvent) : Option Bool :=
  Option.bind (impl_in p1.Thread 0 4) fun r2 =>
  if (!r2) = true then
    some false
  else
    Option.bind (impl_in p1.Kind 1 12) fun r5 =>
    if (!r5) = true then
      some false
    else
      Option.bind (impl_in p1.Obj (-1) 99) fun r8 =>
      if (!r8) = true then
        some false
      else
        Option.bind (impl_in p1.Lock (-1) 99) fun r11 =>
        if (!r11) = true then
          some false
        else
          Option.bind (impl_in p1.Pc 0 99) fun r14 =>
          if (!r14) = true then
            some false
          else
            impl_Event_isGood_j0 p1
theorem impl_Event_isGood_m {p1 : GEvent} {r : Bool} (h : impl_Event_isGood p1 = some r) : Meets Try.prog 81 [(AV.agg ((o64 p1)))] (B r) := by
  refine meets_ofC Θ_ok Try.func81 rfl (c := body81) (by kernel_rfl) (Nat.le_of_ble_eq_true rfl) ?_
  intro E hP hn hx
  replace hn : E.n = 55 := hn
  have hm : E.P.follows .mixedOrders = true := by rw [hP]; exact mixed
  have hΘ : TOK E.P Θ := by rw [hP]; exact Θ_ok
  unfold impl_Event_isGood at h
  show WAt E body81 (FQ (RetE Θ Try.f81.results.toList [] [] (B r) E)) [] ⟨[(0, (AV.agg ((o64 p1))))], [], [JJ]⟩
  obtain ⟨r2, hr2, h⟩ := bnS h
  rcases itS h with ⟨c3, h⟩ | ⟨c4, h⟩
  · have h := Option.some.inj h
    subst h
    exact go_ret hΘ hm hP hn (hs := [⟨0, .new 1001, none⟩, ⟨4, .callV [] (B r2), none⟩, ⟨6, .no, some (B true)⟩]) (rh := []) (ph := .raw) (ps := [Meets Try.prog 101 [(I p1.Thread), (I 0), (I 4)] (B r2), litA (B r2) = true, (B (!r2)) = (B true), (B false) = (B false), litA (B false) = true]) (by kernel_rfl) ⟨(impl_in_m hr2), rfl, (litB c3), rfl, rfl, trivial⟩
  · obtain ⟨r5, hr5, h⟩ := bnS h
    rcases itS h with ⟨c6, h⟩ | ⟨c7, h⟩
    · have h := Option.some.inj h
      subst h
      exact go_ret hΘ hm hP hn (hs := [⟨0, .new 1001, none⟩, ⟨4, .callV [] (B r2), none⟩, ⟨6, .no, some (B false)⟩, ⟨9, .callV [] (B r5), none⟩, ⟨12, .no, some (B true)⟩]) (rh := []) (ph := .raw) (ps := [Meets Try.prog 101 [(I p1.Thread), (I 0), (I 4)] (B r2), litA (B r2) = true, (B (!r2)) = (B false), Meets Try.prog 101 [(I p1.Kind), (I 1), (I 12)] (B r5), litA (B r5) = true, (B (!r5)) = (B true), (B false) = (B false), litA (B false) = true]) (by kernel_rfl) ⟨(impl_in_m hr2), rfl, (litB c4), (impl_in_m hr5), rfl, (litB c6), rfl, rfl, trivial⟩
    · obtain ⟨r8, hr8, h⟩ := bnS h
      rcases itS h with ⟨c9, h⟩ | ⟨c10, h⟩
      · have h := Option.some.inj h
        subst h
        exact go_ret hΘ hm hP hn (hs := [⟨0, .new 1001, none⟩, ⟨4, .callV [] (B r2), none⟩, ⟨6, .no, some (B false)⟩, ⟨9, .callV [] (B r5), none⟩, ⟨12, .no, some (B false)⟩, ⟨15, .callV [] (B r8), none⟩, ⟨18, .no, some (B true)⟩]) (rh := []) (ph := .raw) (ps := [Meets Try.prog 101 [(I p1.Thread), (I 0), (I 4)] (B r2), litA (B r2) = true, (B (!r2)) = (B false), Meets Try.prog 101 [(I p1.Kind), (I 1), (I 12)] (B r5), litA (B r5) = true, (B (!r5)) = (B false), Meets Try.prog 101 [(I p1.Obj), (I (-1)), (I 99)] (B r8), litA (B r8) = true, (B (!r8)) = (B true), (B false) = (B false), litA (B false) = true]) (by kernel_rfl) ⟨(impl_in_m hr2), rfl, (litB c4), (impl_in_m hr5), rfl, (litB c7), (impl_in_m hr8), rfl, (litB c9), rfl, rfl, trivial⟩
      · obtain ⟨r11, hr11, h⟩ := bnS h
        rcases itS h with ⟨c12, h⟩ | ⟨c13, h⟩
        · have h := Option.some.inj h
          subst h
          exact go_ret hΘ hm hP hn (hs := [⟨0, .new 1001, none⟩, ⟨4, .callV [] (B r2), none⟩, ⟨6, .no, some (B false)⟩, ⟨9, .callV [] (B r5), none⟩, ⟨12, .no, some (B false)⟩, ⟨15, .callV [] (B r8), none⟩, ⟨18, .no, some (B false)⟩, ⟨21, .callV [] (B r11), none⟩, ⟨24, .no, some (B true)⟩]) (rh := []) (ph := .raw) (ps := [Meets Try.prog 101 [(I p1.Thread), (I 0), (I 4)] (B r2), litA (B r2) = true, (B (!r2)) = (B false), Meets Try.prog 101 [(I p1.Kind), (I 1), (I 12)] (B r5), litA (B r5) = true, (B (!r5)) = (B false), Meets Try.prog 101 [(I p1.Obj), (I (-1)), (I 99)] (B r8), litA (B r8) = true, (B (!r8)) = (B false), Meets Try.prog 101 [(I p1.Lock), (I (-1)), (I 99)] (B r11), litA (B r11) = true, (B (!r11)) = (B true), (B false) = (B false), litA (B false) = true]) (by kernel_rfl) ⟨(impl_in_m hr2), rfl, (litB c4), (impl_in_m hr5), rfl, (litB c7), (impl_in_m hr8), rfl, (litB c10), (impl_in_m hr11), rfl, (litB c12), rfl, rfl, trivial⟩
        · obtain ⟨r14, hr14, h⟩ := bnS h
          rcases itS h with ⟨c15, h⟩ | ⟨c16, h⟩
          · have h := Option.some.inj h
            subst h
            exact go_ret hΘ hm hP hn (hs := [⟨0, .new 1001, none⟩, ⟨4, .callV [] (B r2), none⟩, ⟨6, .no, some (B false)⟩, ⟨9, .callV [] (B r5), none⟩, ⟨12, .no, some (B false)⟩, ⟨15, .callV [] (B r8), none⟩, ⟨18, .no, some (B false)⟩, ⟨21, .callV [] (B r11), none⟩, ⟨24, .no, some (B false)⟩, ⟨27, .callV [] (B r14), none⟩, ⟨30, .br true, none⟩]) (rh := []) (ph := .raw) (ps := [Meets Try.prog 101 [(I p1.Thread), (I 0), (I 4)] (B r2), litA (B r2) = true, (B (!r2)) = (B false), Meets Try.prog 101 [(I p1.Kind), (I 1), (I 12)] (B r5), litA (B r5) = true, (B (!r5)) = (B false), Meets Try.prog 101 [(I p1.Obj), (I (-1)), (I 99)] (B r8), litA (B r8) = true, (B (!r8)) = (B false), Meets Try.prog 101 [(I p1.Lock), (I (-1)), (I 99)] (B r11), litA (B r11) = true, (B (!r11)) = (B false), Meets Try.prog 101 [(I p1.Pc), (I 0), (I 99)] (B r14), litA (B r14) = true, (!r14) = true, (B false) = (B false), litA (B false) = true]) (by kernel_rfl) ⟨(impl_in_m hr2), rfl, (litB c4), (impl_in_m hr5), rfl, (litB c7), (impl_in_m hr8), rfl, (litB c10), (impl_in_m hr11), rfl, (litB c13), (impl_in_m hr14), rfl, c15, rfl, rfl, trivial⟩
          · exact go_to hΘ hm hx hP hn (hs := [⟨0, .new 1001, none⟩, ⟨4, .callV [] (B r2), none⟩, ⟨6, .no, some (B false)⟩, ⟨9, .callV [] (B r5), none⟩, ⟨12, .no, some (B false)⟩, ⟨15, .callV [] (B r8), none⟩, ⟨18, .no, some (B false)⟩, ⟨21, .callV [] (B r11), none⟩, ⟨24, .no, some (B false)⟩, ⟨27, .callV [] (B r14), none⟩, ⟨30, .br false, none⟩]) (π := [(1001, 1)]) (ts := [1]) (kp := []) (ps := [Meets Try.prog 101 [(I p1.Thread), (I 0), (I 4)] (B r2), litA (B r2) = true, (B (!r2)) = (B false), Meets Try.prog 101 [(I p1.Kind), (I 1), (I 12)] (B r5), litA (B r5) = true, (B (!r5)) = (B false), Meets Try.prog 101 [(I p1.Obj), (I (-1)), (I 99)] (B r8), litA (B r8) = true, (B (!r8)) = (B false), Meets Try.prog 101 [(I p1.Lock), (I (-1)), (I 99)] (B r11), litA (B r11) = true, (B (!r11)) = (B false), Meets Try.prog 101 [(I p1.Pc), (I 0), (I 99)] (B r14), litA (B r14) = true, (!r14) = false, RenOK [(1001, 1)] [((o64 p1))]]) (by kernel_rfl) ⟨(impl_in_m hr2), rfl, (litB c4), (impl_in_m hr5), rfl, (litB c7), (impl_in_m hr8), rfl, (litB c10), (impl_in_m hr11), rfl, (litB c13), (impl_in_m hr14), rfl, c16, (rok rfl), trivial⟩ (impl_Event_isGood_j0_m hP hn hx p1  _ h)
noncomputable def body80 : Code := match Try.f80.body with | some c => c | none => .skip
noncomputable def impl_GoodTrace_1 (p1 : GEvent) : Option Bool :=
  Option.bind (impl_Event_isGood p1) fun r2 =>
  some (!r2)
theorem impl_GoodTrace_1_m {p1 : GEvent} {r : Bool} (h : impl_GoodTrace_1 p1 = some r) : Meets Try.prog 80 [(AV.agg ((o64 p1)))] (B r) := by
  refine meets_ofC Θ_ok Try.func80 rfl (c := body80) (by kernel_rfl) (Nat.le_of_ble_eq_true rfl) ?_
  intro E hP hn hx
  replace hn : E.n = 6 := hn
  have hm : E.P.follows .mixedOrders = true := by rw [hP]; exact mixed
  have hΘ : TOK E.P Θ := by rw [hP]; exact Θ_ok
  unfold impl_GoodTrace_1 at h
  show WAt E body80 (FQ (RetE Θ Try.f80.results.toList [] [] (B r) E)) [] ⟨[(0, (AV.agg ((o64 p1))))], [], [JJ]⟩
  obtain ⟨r2, hr2, h⟩ := bnS h
  have h := Option.some.inj h
  subst h
  exact go_ret hΘ hm hP hn (hs := [⟨0, .new 1001, none⟩, ⟨3, .callV [[]] (B r2), none⟩]) (rh := []) (ph := .raw) (ps := [Meets Try.prog 81 [(AV.agg ((o64 p1)))] (B r2), litA (B r2) = true, (B (!r2)) = (B (!r2)), litA (B (!r2)) = true]) (by kernel_rfl) ⟨(impl_Event_isGood_m hr2), rfl, rfl, rfl, trivial⟩
noncomputable def body117 : Code := match Try.f117.body with | some c => c | none => .skip
noncomputable def slices_IndexFunc_Event_Event__impl_GoodTrace_1_l0  (p1 : (List GEvent)) : Nat → Int → Option Int
  | 0, _ => none
  | n + 1, v2 =>
  if (decide (v2 < (p1.length : Int))) = true then
    Option.bind (rd p1 v2) fun x4 =>
    Option.bind (impl_GoodTrace_1 x4) fun r5 =>
    if r5 = true then
      some v2
    else
      slices_IndexFunc_Event_Event__impl_GoodTrace_1_l0 p1 n (w64 (v2 + 1))
  else
    some (-1)
theorem slices_IndexFunc_Event_Event__impl_GoodTrace_1_l0_m {E : Env} (hP : E.P = Try.prog) (hn : E.n = 19) (hx : ∀ p, p ∈ E.fx → p.1 ∈ ([] : List Nat)) (p1 : (List GEvent))  : ∀ (n : Nat) (v2 : Int) (r : Int), slices_IndexFunc_Event_Event__impl_GoodTrace_1_l0 p1 n v2 = some r → WAt E body117 (FQ (RetE Θ Try.f117.results.toList [] [] (I r) E)) [true, false, true, false] ⟨[(0, (AV.ro 5 (p1.map o64))), (1, (AV.fn 80 [])), (7, (I (p1.length : Int))), (8, (I v2))], [], [JJ]⟩ := by
  have hm : E.P.follows .mixedOrders = true := by rw [hP]; exact mixed
  have hΘ : TOK E.P Θ := by rw [hP]; exact Θ_ok
  intro n
  induction n with
  | zero => intro v2 r h; simp only [slices_IndexFunc_Event_Event__impl_GoodTrace_1_l0] at h; cases h
  | succ n ih =>
    intro v2 r h
    simp only [slices_IndexFunc_Event_Event__impl_GoodTrace_1_l0] at h
    rcases itS h with ⟨c3, h⟩ | ⟨c8, h⟩
    · obtain ⟨x4, hx4, h⟩ := bnS h
      obtain ⟨r5, hr5, h⟩ := bnS h
      rcases itS h with ⟨c6, h⟩ | ⟨c7, h⟩
      · have h := Option.some.inj h
        subst h
        exact go_ret hΘ hm hP hn (hs := [⟨1, .br true, none⟩, ⟨7, .row (o64 x4), none⟩, ⟨9, .callV [[]] (B r5), none⟩, ⟨10, .br true, none⟩]) (rh := []) (ph := .raw) (ps := [(decide (v2 < (p1.length : Int))) = true, (0 : Int) ≤ v2, (p1.map o64)[(Int.toNat v2)]? = some (o64 x4), Meets Try.prog 80 [(AV.agg ((o64 x4)))] (B r5), litA (B r5) = true, r5 = true, (I v2) = (I v2), litA (I v2) = true]) (by kernel_rfl) ⟨c3, (rd0 hx4), (rdM o64 hx4), (impl_GoodTrace_1_m hr5), rfl, c6, rfl, rfl, trivial⟩
      · exact go_to hΘ hm hx hP hn (hs := [⟨1, .br true, none⟩, ⟨7, .row (o64 x4), none⟩, ⟨9, .callV [[]] (B r5), none⟩, ⟨10, .br false, none⟩]) (π := []) (ts := [0, 1, 7, 8]) (kp := []) (ps := [(decide (v2 < (p1.length : Int))) = true, (0 : Int) ≤ v2, (p1.map o64)[(Int.toNat v2)]? = some (o64 x4), Meets Try.prog 80 [(AV.agg ((o64 x4)))] (B r5), litA (B r5) = true, r5 = false]) (by kernel_rfl) ⟨c3, (rd0 hx4), (rdM o64 hx4), (impl_GoodTrace_1_m hr5), rfl, c7, trivial⟩ (ih (w64 (v2 + 1)) _ h)
    · have h := Option.some.inj h
      subst h
      exact go_ret hΘ hm hP hn (hs := [⟨1, .br false, none⟩]) (rh := []) (ph := .raw) (ps := [(decide (v2 < (p1.length : Int))) = false, (I (-1)) = (I (-1)), litA (I (-1)) = true]) (by kernel_rfl) ⟨c8, rfl, rfl, trivial⟩
noncomputable def slices_IndexFunc_Event_Event__impl_GoodTrace_1 (p1 : (List GEvent)) : Option Int :=
  slices_IndexFunc_Event_Event__impl_GoodTrace_1_l0 p1 FU 0
theorem slices_IndexFunc_Event_Event__impl_GoodTrace_1_m {p1 : (List GEvent)} {r : Int} (h : slices_IndexFunc_Event_Event__impl_GoodTrace_1 p1 = some r) : Meets Try.prog 117 [(AV.ro 5 (p1.map o64)), (AV.fn 80 [])] (I r) := by
  refine meets_ofC Θ_ok Try.func117 rfl (c := body117) (by kernel_rfl) (Nat.le_of_ble_eq_true rfl) ?_
  intro E hP hn hx
  replace hn : E.n = 19 := hn
  have hm : E.P.follows .mixedOrders = true := by rw [hP]; exact mixed
  have hΘ : TOK E.P Θ := by rw [hP]; exact Θ_ok
  unfold slices_IndexFunc_Event_Event__impl_GoodTrace_1 at h
  show WAt E body117 (FQ (RetE Θ Try.f117.results.toList [] [] (I r) E)) [] ⟨[(0, (AV.ro 5 (p1.map o64))), (1, (AV.fn 80 []))], [], [JJ]⟩
  exact go_to hΘ hm hx hP hn (hs := [⟨2, .no, some (I (p1.length : Int))⟩]) (π := []) (ts := [0, 1, 7, 8]) (kp := []) (ps := [AV.lit (.int .i64 (((p1.map o64).length : Nat) : Int)) = (I (p1.length : Int))]) (by kernel_rfl) ⟨(lenM o64), trivial⟩ (slices_IndexFunc_Event_Event__impl_GoodTrace_1_l0_m hP hn hx p1 FU 0 _ h)
noncomputable def body79 : Code := match Try.f79.body with | some c => c | none => .skip
noncomputable def slices_ContainsFunc_Event_Event__impl_GoodTrace_1 (p1 : (List GEvent)) : Option Bool :=
  Option.bind (slices_IndexFunc_Event_Event__impl_GoodTrace_1 p1) fun r2 =>
  some (decide (r2 ≥ 0))
theorem slices_ContainsFunc_Event_Event__impl_GoodTrace_1_m {p1 : (List GEvent)} {r : Bool} (h : slices_ContainsFunc_Event_Event__impl_GoodTrace_1 p1 = some r) : Meets Try.prog 79 [(AV.ro 5 (p1.map o64)), (AV.fn 80 [])] (B r) := by
  refine meets_ofC Θ_ok Try.func79 rfl (c := body79) (by kernel_rfl) (Nat.le_of_ble_eq_true rfl) ?_
  intro E hP hn hx
  replace hn : E.n = 9 := hn
  have hm : E.P.follows .mixedOrders = true := by rw [hP]; exact mixed
  have hΘ : TOK E.P Θ := by rw [hP]; exact Θ_ok
  unfold slices_ContainsFunc_Event_Event__impl_GoodTrace_1 at h
  show WAt E body79 (FQ (RetE Θ Try.f79.results.toList [] [] (B r) E)) [] ⟨[(0, (AV.ro 5 (p1.map o64))), (1, (AV.fn 80 []))], [], [JJ]⟩
  obtain ⟨r2, hr2, h⟩ := bnS h
  have h := Option.some.inj h
  subst h
  exact go_ret hΘ hm hP hn (hs := [⟨3, .callV [] (I r2), none⟩]) (rh := []) (ph := .raw) (ps := [Meets Try.prog 117 [(AV.ro 5 (p1.map o64)), (AV.fn 80 [])] (I r2), litA (I r2) = true, (B (decide (r2 ≥ 0))) = (B (decide (r2 ≥ 0))), litA (B (decide (r2 ≥ 0))) = true]) (by kernel_rfl) ⟨(slices_IndexFunc_Event_Event__impl_GoodTrace_1_m hr2), rfl, rfl, rfl, trivial⟩
noncomputable def body47 : Code := match Try.f47.body with | some c => c | none => .skip
noncomputable def impl_GoodTrace (p1 : (List GEvent)) : Option Bool :=
  if (decide ((p1.length : Int) ≤ 200)) = true then
    Option.bind (slices_ContainsFunc_Event_Event__impl_GoodTrace_1 p1) fun r3 =>
    some (!r3)
  else
    some false
theorem impl_GoodTrace_m {p1 : (List GEvent)} {r : Bool} (h : impl_GoodTrace p1 = some r) : Meets Try.prog 47 [(AV.ro 5 (p1.map o64))] (B r) := by
  refine meets_ofC Θ_ok Try.func47 rfl (c := body47) (by kernel_rfl) (Nat.le_of_ble_eq_true rfl) ?_
  intro E hP hn hx
  replace hn : E.n = 11 := hn
  have hm : E.P.follows .mixedOrders = true := by rw [hP]; exact mixed
  have hΘ : TOK E.P Θ := by rw [hP]; exact Θ_ok
  unfold impl_GoodTrace at h
  show WAt E body47 (FQ (RetE Θ Try.f47.results.toList [] [] (B r) E)) [] ⟨[(0, (AV.ro 5 (p1.map o64)))], [], [JJ]⟩
  rcases itS h with ⟨c2, h⟩ | ⟨c4, h⟩
  · obtain ⟨r3, hr3, h⟩ := bnS h
    have h := Option.some.inj h
    subst h
    exact go_ret hΘ hm hP hn (hs := [⟨2, .no, some (I (p1.length : Int))⟩, ⟨4, .no, some (B true)⟩, ⟨6, .callV [] (B r3), none⟩]) (rh := []) (ph := .raw) (ps := [AV.lit (.int .i64 (((p1.map o64).length : Nat) : Int)) = (I (p1.length : Int)), (B (decide ((p1.length : Int) ≤ 200))) = (B true), Meets Try.prog 79 [(AV.ro 5 (p1.map o64)), (AV.fn 80 [])] (B r3), litA (B r3) = true, (B (!r3)) = (B (!r3)), litA (B (!r3)) = true]) (by kernel_rfl) ⟨(lenM o64), (litB c2), (slices_ContainsFunc_Event_Event__impl_GoodTrace_1_m hr3), rfl, rfl, rfl, trivial⟩
  · have h := Option.some.inj h
    subst h
    exact go_ret hΘ hm hP hn (hs := [⟨2, .no, some (I (p1.length : Int))⟩, ⟨4, .no, some (B false)⟩]) (rh := []) (ph := .raw) (ps := [AV.lit (.int .i64 (((p1.map o64).length : Nat) : Int)) = (I (p1.length : Int)), (B (decide ((p1.length : Int) ≤ 200))) = (B false), (B false) = (B false), litA (B false) = true]) (by kernel_rfl) ⟨(lenM o64), (litB c4), rfl, rfl, trivial⟩
noncomputable def body165 : Code := match Try.f165.body with | some c => c | none => .skip
noncomputable def slices_Index_int_int_l0  (p1 : (List Int)) (p2 : Int) : Nat → Int → Option Int
  | 0, _ => none
  | n + 1, v3 =>
  if (decide (v3 < (p1.length : Int))) = true then
    Option.bind (rd p1 v3) fun x5 =>
    if (p2 == x5) = true then
      some v3
    else
      slices_Index_int_int_l0 p1 p2 n (w64 (v3 + 1))
  else
    some (-1)
theorem slices_Index_int_int_l0_m {E : Env} (hP : E.P = Try.prog) (hn : E.n = 19) (hx : ∀ p, p ∈ E.fx → p.1 ∈ ([] : List Nat)) (p1 : (List Int)) (p2 : Int)  : ∀ (n : Nat) (v3 : Int) (r : Int), slices_Index_int_int_l0 p1 p2 n v3 = some r → WAt E body165 (FQ (RetE Θ Try.f165.results.toList [] [] (I r) E)) [true, false, true, false] ⟨[(0, (AV.ro 1 (p1.map o3))), (1, (I p2)), (7, (I (p1.length : Int))), (8, (I v3))], [], [JJ]⟩ := by
  have hm : E.P.follows .mixedOrders = true := by rw [hP]; exact mixed
  have hΘ : TOK E.P Θ := by rw [hP]; exact Θ_ok
  intro n
  induction n with
  | zero => intro v3 r h; simp only [slices_Index_int_int_l0] at h; cases h
  | succ n ih =>
    intro v3 r h
    simp only [slices_Index_int_int_l0] at h
    rcases itS h with ⟨c4, h⟩ | ⟨c8, h⟩
    · obtain ⟨x5, hx5, h⟩ := bnS h
      rcases itS h with ⟨c6, h⟩ | ⟨c7, h⟩
      · have h := Option.some.inj h
        subst h
        exact go_ret hΘ hm hP hn (hs := [⟨1, .br true, none⟩, ⟨7, .row (o3 x5), none⟩, ⟨10, .br true, none⟩]) (rh := []) (ph := .raw) (ps := [(decide (v3 < (p1.length : Int))) = true, (0 : Int) ≤ v3, (p1.map o3)[(Int.toNat v3)]? = some (o3 x5), (p2 == x5) = true, (I v3) = (I v3), litA (I v3) = true]) (by kernel_rfl) ⟨c4, (rd0 hx5), (rdM o3 hx5), c6, rfl, rfl, trivial⟩
      · exact go_to hΘ hm hx hP hn (hs := [⟨1, .br true, none⟩, ⟨7, .row (o3 x5), none⟩, ⟨10, .br false, none⟩]) (π := []) (ts := [0, 1, 7, 8]) (kp := []) (ps := [(decide (v3 < (p1.length : Int))) = true, (0 : Int) ≤ v3, (p1.map o3)[(Int.toNat v3)]? = some (o3 x5), (p2 == x5) = false]) (by kernel_rfl) ⟨c4, (rd0 hx5), (rdM o3 hx5), c7, trivial⟩ (ih (w64 (v3 + 1)) _ h)
    · have h := Option.some.inj h
      subst h
      exact go_ret hΘ hm hP hn (hs := [⟨1, .br false, none⟩]) (rh := []) (ph := .raw) (ps := [(decide (v3 < (p1.length : Int))) = false, (I (-1)) = (I (-1)), litA (I (-1)) = true]) (by kernel_rfl) ⟨c8, rfl, rfl, trivial⟩
noncomputable def slices_Index_int_int (p1 : (List Int)) (p2 : Int) : Option Int :=
  slices_Index_int_int_l0 p1 p2 FU 0
theorem slices_Index_int_int_m {p1 : (List Int)} {p2 : Int} {r : Int} (h : slices_Index_int_int p1 p2 = some r) : Meets Try.prog 165 [(AV.ro 1 (p1.map o3)), (I p2)] (I r) := by
  refine meets_ofC Θ_ok Try.func165 rfl (c := body165) (by kernel_rfl) (Nat.le_of_ble_eq_true rfl) ?_
  intro E hP hn hx
  replace hn : E.n = 19 := hn
  have hm : E.P.follows .mixedOrders = true := by rw [hP]; exact mixed
  have hΘ : TOK E.P Θ := by rw [hP]; exact Θ_ok
  unfold slices_Index_int_int at h
  show WAt E body165 (FQ (RetE Θ Try.f165.results.toList [] [] (I r) E)) [] ⟨[(0, (AV.ro 1 (p1.map o3))), (1, (I p2))], [], [JJ]⟩
  exact go_to hΘ hm hx hP hn (hs := [⟨2, .no, some (I (p1.length : Int))⟩]) (π := []) (ts := [0, 1, 7, 8]) (kp := []) (ps := [AV.lit (.int .i64 (((p1.map o3).length : Nat) : Int)) = (I (p1.length : Int))]) (by kernel_rfl) ⟨(lenM o3), trivial⟩ (slices_Index_int_int_l0_m hP hn hx p1 p2 FU 0 _ h)
noncomputable def body133 : Code := match Try.f133.body with | some c => c | none => .skip
noncomputable def slices_Contains_int_int (p1 : (List Int)) (p2 : Int) : Option Bool :=
  Option.bind (slices_Index_int_int p1 p2) fun r3 =>
  some (decide (r3 ≥ 0))
theorem slices_Contains_int_int_m {p1 : (List Int)} {p2 : Int} {r : Bool} (h : slices_Contains_int_int p1 p2 = some r) : Meets Try.prog 133 [(AV.ro 1 (p1.map o3)), (I p2)] (B r) := by
  refine meets_ofC Θ_ok Try.func133 rfl (c := body133) (by kernel_rfl) (Nat.le_of_ble_eq_true rfl) ?_
  intro E hP hn hx
  replace hn : E.n = 9 := hn
  have hm : E.P.follows .mixedOrders = true := by rw [hP]; exact mixed
  have hΘ : TOK E.P Θ := by rw [hP]; exact Θ_ok
  unfold slices_Contains_int_int at h
  show WAt E body133 (FQ (RetE Θ Try.f133.results.toList [] [] (B r) E)) [] ⟨[(0, (AV.ro 1 (p1.map o3))), (1, (I p2))], [], [JJ]⟩
  obtain ⟨r3, hr3, h⟩ := bnS h
  have h := Option.some.inj h
  subst h
  exact go_ret hΘ hm hP hn (hs := [⟨3, .callV [] (I r3), none⟩]) (rh := []) (ph := .raw) (ps := [Meets Try.prog 165 [(AV.ro 1 (p1.map o3)), (I p2)] (I r3), litA (I r3) = true, (B (decide (r3 ≥ 0))) = (B (decide (r3 ≥ 0))), litA (B (decide (r3 ≥ 0))) = true]) (by kernel_rfl) ⟨(slices_Index_int_int_m hr3), rfl, rfl, rfl, trivial⟩
noncomputable def body107 : Code := match Try.f107.body with | some c => c | none => .skip
noncomputable def impl_common_l0  (p1 : (List Int)) (p2 : (List Int)) : Nat → (List Int) → Int → Option (List Int)
  | 0, _, _ => none
  | n + 1, a3, v4 =>
  if (decide (v4 < (p1.length : Int))) = true then
    Option.bind (rd p1 v4) fun x6 =>
    Option.bind (slices_Contains_int_int p2 x6) fun r7 =>
    if r7 = true then
      Option.bind (app a3 [x6]) fun l9 =>
      impl_common_l0 p1 p2 n l9 (w64 (v4 + 1))
    else
      impl_common_l0 p1 p2 n a3 (w64 (v4 + 1))
  else
    some a3
theorem impl_common_l0_m {E : Env} (hP : E.P = Try.prog) (hn : E.n = 24) (hx : ∀ p, p ∈ E.fx → p.1 ∈ ([] : List Nat)) (p1 : (List Int)) (p2 : (List Int))  : ∀ (n : Nat) (a3 : (List Int)) (v4 : Int) (r : (List Int)), impl_common_l0 p1 p2 n a3 v4 = some r → WAt E body107 (FQ (RetE Θ Try.f107.results.toList [] [] (AV.own 3 1 (r.map o3)) E)) [true, true, false, true, false] ⟨[(1, (AV.ro 1 (p2.map o3))), (5, (AV.sl 1 0 (List.length (a3.map o3)))), (9, (AV.ro 1 (p1.map o3))), (10, (I (p1.length : Int))), (11, (I v4))], [(1, some ⟨3, 1, (a3.map o3)⟩)], [1, JJ]⟩ := by
  have hm : E.P.follows .mixedOrders = true := by rw [hP]; exact mixed
  have hΘ : TOK E.P Θ := by rw [hP]; exact Θ_ok
  intro n
  induction n with
  | zero => intro a3 v4 r h; simp only [impl_common_l0] at h; cases h
  | succ n ih =>
    intro a3 v4 r h
    simp only [impl_common_l0] at h
    rcases itS h with ⟨c5, h⟩ | ⟨c11, h⟩
    · obtain ⟨x6, hx6, h⟩ := bnS h
      obtain ⟨r7, hr7, h⟩ := bnS h
      rcases itS h with ⟨c8, h⟩ | ⟨c10, h⟩
      · obtain ⟨l9, hl9, h⟩ := bnS h
        exact go_to hΘ hm hx hP hn (hs := [⟨1, .br true, none⟩, ⟨2, .row (o3 x6), none⟩, ⟨7, .callV [] (B r7), none⟩, ⟨8, .br true, none⟩, ⟨11, .new 1001, none⟩, ⟨12, .app 1002 (l9.map o3), none⟩]) (π := [(1002, 1)]) (ts := [1, 5, 9, 10, 11]) (kp := []) (ps := [(decide (v4 < (p1.length : Int))) = true, (0 : Int) ≤ v4, (p1.map o3)[(Int.toNat v4)]? = some (o3 x6), Meets Try.prog 133 [(AV.ro 1 (p2.map o3)), (I x6)] (B r7), litA (B r7) = true, r7 = true, (a3.map o3).take (List.length (a3.map o3)) ++ ((([x6].map o3).drop 0).take (List.length ([x6].map o3))) = (l9.map o3), ((([x6].map o3).drop 0).take (List.length ([x6].map o3))).all (fun r => r.all AV.plain) = true, (List.length (l9.map o3)) * 8 ≤ 140737488355328, (List.length (l9.map o3)) ≤ 140737488355328, RenOK [(1002, 1)] (l9.map o3)]) (by kernel_rfl) ⟨c5, (rd0 hx6), (rdM o3 hx6), (slices_Contains_int_int_m hr7), rfl, c8, (appTD o3 hl9), (plD pa3), (appB o3 hl9 (by decide)), (appC o3 hl9), (rok (treeM t3)), trivial⟩ (ih l9 (w64 (v4 + 1)) _ h)
      · exact go_to hΘ hm hx hP hn (hs := [⟨1, .br true, none⟩, ⟨2, .row (o3 x6), none⟩, ⟨7, .callV [] (B r7), none⟩, ⟨8, .br false, none⟩]) (π := [(1, 1)]) (ts := [1, 5, 9, 10, 11]) (kp := []) (ps := [(decide (v4 < (p1.length : Int))) = true, (0 : Int) ≤ v4, (p1.map o3)[(Int.toNat v4)]? = some (o3 x6), Meets Try.prog 133 [(AV.ro 1 (p2.map o3)), (I x6)] (B r7), litA (B r7) = true, r7 = false, RenOK [(1, 1)] (a3.map o3)]) (by kernel_rfl) ⟨c5, (rd0 hx6), (rdM o3 hx6), (slices_Contains_int_int_m hr7), rfl, c10, (rok (treeM t3)), trivial⟩ (ih a3 (w64 (v4 + 1)) _ h)
    · have h := Option.some.inj h
      subst h
      exact go_ret hΘ hm hP hn (hs := [⟨1, .br false, none⟩]) (rh := []) (ph := .own) (ps := [(decide (v4 < (p1.length : Int))) = false, treeLL ((a3.map o3).take (List.length (a3.map o3))) = true, (a3.map o3).take (List.length (a3.map o3)) = (a3.map o3), noRoLL (a3.map o3) = true]) (by kernel_rfl) ⟨c11, (treeT t3), takeM, (noRoM n3), trivial⟩
noncomputable def impl_common (p1 : (List Int)) (p2 : (List Int)) : Option (List Int) :=
  impl_common_l0 p1 p2 FU [] 0
theorem impl_common_m {p1 : (List Int)} {p2 : (List Int)} {r : (List Int)} (h : impl_common p1 p2 = some r) : Meets Try.prog 107 [(AV.ro 1 (p1.map o3)), (AV.ro 1 (p2.map o3))] (AV.own 3 1 (r.map o3)) := by
  refine meets_ofC Θ_ok Try.func107 rfl (c := body107) (by kernel_rfl) (Nat.le_of_ble_eq_true rfl) ?_
  intro E hP hn hx
  replace hn : E.n = 24 := hn
  have hm : E.P.follows .mixedOrders = true := by rw [hP]; exact mixed
  have hΘ : TOK E.P Θ := by rw [hP]; exact Θ_ok
  unfold impl_common at h
  show WAt E body107 (FQ (RetE Θ Try.f107.results.toList [] [] (AV.own 3 1 (r.map o3)) E)) [] ⟨[(0, (AV.ro 1 (p1.map o3))), (1, (AV.ro 1 (p2.map o3)))], [], [JJ]⟩
  exact go_to hΘ hm hx hP hn (hs := [⟨1, .new 1001, none⟩, ⟨4, .no, some (I (p1.length : Int))⟩]) (π := [(1001, 1)]) (ts := [1, 5, 9, 10, 11]) (kp := []) (ps := [AV.lit (.int .i64 (((p1.map o3).length : Nat) : Int)) = (I (p1.length : Int)), RenOK [(1001, 1)] ([].map o3)]) (by kernel_rfl) ⟨(lenM o3), (rok (treeM t3)), trivial⟩ (impl_common_l0_m hP hn hx p1 p2 FU [] 0 _ h)
noncomputable def body128 : Code := match Try.f128.body with | some c => c | none => .skip
noncomputable def impl_Event_gives (p1 : GEvent) : Option Int :=
  if (p1.Kind == 5) = true then
    some p1.Obj
  else
    if (p1.Kind == 8) = true then
      some p1.Lock
    else
      some (-1)
theorem impl_Event_gives_m {p1 : GEvent} {r : Int} (h : impl_Event_gives p1 = some r) : Meets Try.prog 128 [(AV.agg ((o64 p1)))] (I r) := by
  refine meets_ofC Θ_ok Try.func128 rfl (c := body128) (by kernel_rfl) (Nat.le_of_ble_eq_true rfl) ?_
  intro E hP hn hx
  replace hn : E.n = 13 := hn
  have hm : E.P.follows .mixedOrders = true := by rw [hP]; exact mixed
  have hΘ : TOK E.P Θ := by rw [hP]; exact Θ_ok
  unfold impl_Event_gives at h
  show WAt E body128 (FQ (RetE Θ Try.f128.results.toList [] [] (I r) E)) [] ⟨[(0, (AV.agg ((o64 p1))))], [], [JJ]⟩
  rcases itS h with ⟨c2, h⟩ | ⟨c3, h⟩
  · have h := Option.some.inj h
    subst h
    exact go_ret hΘ hm hP hn (hs := [⟨0, .new 1001, none⟩, ⟨6, .br true, none⟩]) (rh := []) (ph := .raw) (ps := [(p1.Kind == 5) = true, (I p1.Obj) = (I p1.Obj), litA (I p1.Obj) = true]) (by kernel_rfl) ⟨c2, rfl, rfl, trivial⟩
  · rcases itS h with ⟨c4, h⟩ | ⟨c5, h⟩
    · have h := Option.some.inj h
      subst h
      exact go_ret hΘ hm hP hn (hs := [⟨0, .new 1001, none⟩, ⟨6, .br false, none⟩, ⟨9, .br true, none⟩]) (rh := []) (ph := .raw) (ps := [(p1.Kind == 5) = false, (p1.Kind == 8) = true, (I p1.Lock) = (I p1.Lock), litA (I p1.Lock) = true]) (by kernel_rfl) ⟨c3, c4, rfl, rfl, trivial⟩
    · have h := Option.some.inj h
      subst h
      exact go_ret hΘ hm hP hn (hs := [⟨0, .new 1001, none⟩, ⟨6, .br false, none⟩, ⟨9, .br false, none⟩]) (rh := []) (ph := .raw) (ps := [(p1.Kind == 5) = false, (p1.Kind == 8) = false, (I (-1)) = (I (-1)), litA (I (-1)) = true]) (by kernel_rfl) ⟨c3, c5, rfl, rfl, trivial⟩
noncomputable def body123 : Code := match Try.f123.body with | some c => c | none => .skip
noncomputable def impl_Event_takes (p1 : GEvent) : Option Int :=
  if (p1.Kind == 4) = true then
    some p1.Obj
  else
    if (p1.Kind == 9) = true then
      some p1.Lock
    else
      some (-1)
theorem impl_Event_takes_m {p1 : GEvent} {r : Int} (h : impl_Event_takes p1 = some r) : Meets Try.prog 123 [(AV.agg ((o64 p1)))] (I r) := by
  refine meets_ofC Θ_ok Try.func123 rfl (c := body123) (by kernel_rfl) (Nat.le_of_ble_eq_true rfl) ?_
  intro E hP hn hx
  replace hn : E.n = 13 := hn
  have hm : E.P.follows .mixedOrders = true := by rw [hP]; exact mixed
  have hΘ : TOK E.P Θ := by rw [hP]; exact Θ_ok
  unfold impl_Event_takes at h
  show WAt E body123 (FQ (RetE Θ Try.f123.results.toList [] [] (I r) E)) [] ⟨[(0, (AV.agg ((o64 p1))))], [], [JJ]⟩
  rcases itS h with ⟨c2, h⟩ | ⟨c3, h⟩
  · have h := Option.some.inj h
    subst h
    exact go_ret hΘ hm hP hn (hs := [⟨0, .new 1001, none⟩, ⟨6, .br true, none⟩]) (rh := []) (ph := .raw) (ps := [(p1.Kind == 4) = true, (I p1.Obj) = (I p1.Obj), litA (I p1.Obj) = true]) (by kernel_rfl) ⟨c2, rfl, rfl, trivial⟩
  · rcases itS h with ⟨c4, h⟩ | ⟨c5, h⟩
    · have h := Option.some.inj h
      subst h
      exact go_ret hΘ hm hP hn (hs := [⟨0, .new 1001, none⟩, ⟨6, .br false, none⟩, ⟨9, .br true, none⟩]) (rh := []) (ph := .raw) (ps := [(p1.Kind == 4) = false, (p1.Kind == 9) = true, (I p1.Lock) = (I p1.Lock), litA (I p1.Lock) = true]) (by kernel_rfl) ⟨c3, c4, rfl, rfl, trivial⟩
    · have h := Option.some.inj h
      subst h
      exact go_ret hΘ hm hP hn (hs := [⟨0, .new 1001, none⟩, ⟨6, .br false, none⟩, ⟨9, .br false, none⟩]) (rh := []) (ph := .raw) (ps := [(p1.Kind == 4) = false, (p1.Kind == 9) = false, (I (-1)) = (I (-1)), litA (I (-1)) = true]) (by kernel_rfl) ⟨c3, c5, rfl, rfl, trivial⟩
noncomputable def body106 : Code := match Try.f106.body with | some c => c | none => .skip
noncomputable def impl_held_j1 (K0 : (Vector Bool 100) → Int → Option (List Int)) (p2 : Int) (l4 : (List GEvent)) (v6 : Int) (a14 : (Vector Bool 100)) (a15 : GEvent) : Option (List Int) :=
  Option.bind (impl_Event_gives a15) fun r16 =>
  if (decide (r16 ≥ 0)) = true then
    Option.bind (rdv a14 r16) fun x18 =>
    K0 (a14.setIfInBounds (Int.toNat r16) false) (w64 (v6 + 1))
  else
    K0 a14 (w64 (v6 + 1))
theorem impl_held_j1_m {E : Env} (hP : E.P = Try.prog) (hn : E.n = 54) (hx : ∀ p, p ∈ E.fx → p.1 ∈ ([] : List Nat)) (p2 : Int) (l4 : (List GEvent)) (v6 : Int) {K0 : (Vector Bool 100) → Int → Option (List Int)} (hK0 : ∀ (a5 : (Vector Bool 100)) (v6 : Int) (r : (List Int)), K0 a5 v6 = some r → WAt E body106 (FQ (RetE Θ Try.f106.results.toList [] [] (AV.own 3 1 (r.map o3)) E)) [true, true, false, true, false] ⟨[(1, (I p2)), (7, (AV.ptr 1 0 0)), (18, (AV.ro 5 (l4.map o64))), (19, (I (l4.length : Int))), (20, (I v6))], [(1, some ⟨138, 100, [((o138 a5))]⟩)], [1, JJ]⟩) (a14 : (Vector Bool 100)) (a15 : GEvent) (r : (List Int)) (h : impl_held_j1 K0 p2 l4 v6 a14 a15 = some r) : WAt E body106 (FQ (RetE Θ Try.f106.results.toList [] [] (AV.own 3 1 (r.map o3)) E)) [true, true, false, true, false, false, true, true, false, false, true, true, true] ⟨[(1, (I p2)), (7, (AV.ptr 1 0 0)), (9, (AV.ptr 2 0 0)), (18, (AV.ro 5 (l4.map o64))), (19, (I (l4.length : Int))), (20, (I v6))], [(1, some ⟨138, 100, [((o138 a14))]⟩), (2, some ⟨64, 5, [((o64 a15))]⟩)], [1, 2, JJ]⟩ := by
  have hm : E.P.follows .mixedOrders = true := by rw [hP]; exact mixed
  have hΘ : TOK E.P Θ := by rw [hP]; exact Θ_ok
  unfold impl_held_j1 at h
  obtain ⟨r16, hr16, h⟩ := bnS h
  rcases itS h with ⟨c17, h⟩ | ⟨c19, h⟩
  · obtain ⟨x18, hx18, h⟩ := bnS h
    exact go_to hΘ hm hx hP hn (hs := [⟨1, .callV [[]] (I r16), none⟩, ⟨5, .br true, none⟩, ⟨8, .sto ((o138 a14)) [((o138 (a14.setIfInBounds (Int.toNat r16) false)))], none⟩]) (π := [(1, 1)]) (ts := [1, 7, 18, 19, 20]) (kp := []) (ps := [Meets Try.prog 128 [(AV.agg ((o64 a15)))] (I r16), litA (I r16) = true, (decide (r16 ≥ 0)) = true, (0 : Int) ≤ r16, r16 < ((100 : Nat) : Int), [((o138 a14))][0]? = some ((o138 a14)), [((o138 a14))].set 0 (wr ((o138 a14)) (Int.toNat r16) [(B false)]) = [((o138 (a14.setIfInBounds (Int.toNat r16) false)))], [(B false)].length = 1, (Int.toNat r16) + [(B false)].length ≤ ((o138 a14)).length, RenOK [(1, 1)] [((o138 (a14.setIfInBounds (Int.toNat r16) false)))]]) (by kernel_rfl) ⟨(impl_Event_gives_m hr16), rfl, c17, (rv0 hx18), (rvL hx18), rfl, (vecWr k4 _ (rvLt hx18)), rfl, (vecLe k4 hx18), (rok (treeB t138 (a14.setIfInBounds (Int.toNat r16) false))), trivial⟩ (hK0 (a14.setIfInBounds (Int.toNat r16) false) (w64 (v6 + 1)) _ h)
  · exact go_to hΘ hm hx hP hn (hs := [⟨1, .callV [[]] (I r16), none⟩, ⟨5, .br false, none⟩]) (π := [(1, 1)]) (ts := [1, 7, 18, 19, 20]) (kp := []) (ps := [Meets Try.prog 128 [(AV.agg ((o64 a15)))] (I r16), litA (I r16) = true, (decide (r16 ≥ 0)) = false, RenOK [(1, 1)] [((o138 a14))]]) (by kernel_rfl) ⟨(impl_Event_gives_m hr16), rfl, c19, (rok (treeB t138 a14)), trivial⟩ (hK0 a14 (w64 (v6 + 1)) _ h)
noncomputable def impl_held_l2  (a5 : (Vector Bool 100)) : Nat → (List Int) → Int → Option (List Int)
  | 0, _, _ => none
  | n + 1, a22, v23 =>
  if (decide (v23 < 100)) = true then
    Option.bind (rdv a5 v23) fun x25 =>
    if x25 = true then
      Option.bind (app a22 [v23]) fun l27 =>
      impl_held_l2 a5 n l27 (w64 (v23 + 1))
    else
      impl_held_l2 a5 n a22 (w64 (v23 + 1))
  else
    some a22
theorem impl_held_l2_m {E : Env} (hP : E.P = Try.prog) (hn : E.n = 54) (hx : ∀ p, p ∈ E.fx → p.1 ∈ ([] : List Nat)) (a5 : (Vector Bool 100))  : ∀ (n : Nat) (a22 : (List Int)) (v23 : Int) (r : (List Int)), impl_held_l2 a5 n a22 v23 = some r → WAt E body106 (FQ (RetE Θ Try.f106.results.toList [] [] (AV.own 3 1 (r.map o3)) E)) [true, true, true, true, false, true, false] ⟨[(12, (AV.sl 1 0 (List.length (a22.map o3)))), (42, (AV.agg ((o138 a5)))), (43, (I v23))], [(1, some ⟨3, 1, (a22.map o3)⟩)], [1, JJ]⟩ := by
  have hm : E.P.follows .mixedOrders = true := by rw [hP]; exact mixed
  have hΘ : TOK E.P Θ := by rw [hP]; exact Θ_ok
  intro n
  induction n with
  | zero => intro a22 v23 r h; simp only [impl_held_l2] at h; cases h
  | succ n ih =>
    intro a22 v23 r h
    simp only [impl_held_l2] at h
    rcases itS h with ⟨c24, h⟩ | ⟨c29, h⟩
    · obtain ⟨x25, hx25, h⟩ := bnS h
      rcases itS h with ⟨c26, h⟩ | ⟨c28, h⟩
      · obtain ⟨l27, hl27, h⟩ := bnS h
        exact go_to hΘ hm hx hP hn (hs := [⟨1, .br true, none⟩, ⟨3, .cel [] (B x25), none⟩, ⟨7, .br true, none⟩, ⟨10, .new 1001, none⟩, ⟨11, .app 1002 (l27.map o3), none⟩]) (π := [(1002, 1)]) (ts := [12, 42, 43]) (kp := [42]) (ps := [(decide (v23 < 100)) = true, (0 : Int) ≤ v23, v23 < ((100 : Nat) : Int), ((o138 a5))[(Int.toNat v23)]? = some (B x25), x25 = true, (a22.map o3).take (List.length (a22.map o3)) ++ ((([v23].map o3).drop 0).take (List.length ([v23].map o3))) = (l27.map o3), ((([v23].map o3).drop 0).take (List.length ([v23].map o3))).all (fun r => r.all AV.plain) = true, (List.length (l27.map o3)) * 8 ≤ 140737488355328, (List.length (l27.map o3)) ≤ 140737488355328, RenOK [(1002, 1)] (l27.map o3), tree (AV.agg ((o138 a5))) = true]) (by kernel_rfl) ⟨c24, (rv0 hx25), (rvL hx25), (rvM k4 hx25), c26, (appTD o3 hl27), (plD pa3), (appB o3 hl27 (by decide)), (appC o3 hl27), (rok (treeM t3)), (t138 a5), trivial⟩ (ih l27 (w64 (v23 + 1)) _ h)
      · exact go_to hΘ hm hx hP hn (hs := [⟨1, .br true, none⟩, ⟨3, .cel [] (B x25), none⟩, ⟨7, .br false, none⟩]) (π := [(1, 1)]) (ts := [12, 42, 43]) (kp := [42]) (ps := [(decide (v23 < 100)) = true, (0 : Int) ≤ v23, v23 < ((100 : Nat) : Int), ((o138 a5))[(Int.toNat v23)]? = some (B x25), x25 = false, RenOK [(1, 1)] (a22.map o3), tree (AV.agg ((o138 a5))) = true]) (by kernel_rfl) ⟨c24, (rv0 hx25), (rvL hx25), (rvM k4 hx25), c28, (rok (treeM t3)), (t138 a5), trivial⟩ (ih a22 (w64 (v23 + 1)) _ h)
    · have h := Option.some.inj h
      subst h
      exact go_ret hΘ hm hP hn (hs := [⟨1, .br false, none⟩]) (rh := []) (ph := .own) (ps := [(decide (v23 < 100)) = false, treeLL ((a22.map o3).take (List.length (a22.map o3))) = true, (a22.map o3).take (List.length (a22.map o3)) = (a22.map o3), noRoLL (a22.map o3) = true]) (by kernel_rfl) ⟨c29, (treeT t3), takeM, (noRoM n3), trivial⟩
noncomputable def impl_held_l0  (p2 : Int) (l4 : (List GEvent)) : Nat → (Vector Bool 100) → Int → Option (List Int)
  | 0, _, _ => none
  | n + 1, a5, v6 =>
  if (decide (v6 < (l4.length : Int))) = true then
    Option.bind (rd l4 v6) fun x8 =>
    if (x8.Thread != p2) = true then
      impl_held_l0 p2 l4 n a5 (w64 (v6 + 1))
    else
      Option.bind (impl_Event_takes x8) fun r11 =>
      if (decide (r11 ≥ 0)) = true then
        Option.bind (rdv a5 r11) fun x13 =>
        impl_held_j1 (impl_held_l0 p2 l4 n) p2 l4 v6 (a5.setIfInBounds (Int.toNat r11) true) x8
      else
        impl_held_j1 (impl_held_l0 p2 l4 n) p2 l4 v6 a5 x8
  else
    impl_held_l2 a5 FU [] 0
theorem impl_held_l0_m {E : Env} (hP : E.P = Try.prog) (hn : E.n = 54) (hx : ∀ p, p ∈ E.fx → p.1 ∈ ([] : List Nat)) (p2 : Int) (l4 : (List GEvent))  : ∀ (n : Nat) (a5 : (Vector Bool 100)) (v6 : Int) (r : (List Int)), impl_held_l0 p2 l4 n a5 v6 = some r → WAt E body106 (FQ (RetE Θ Try.f106.results.toList [] [] (AV.own 3 1 (r.map o3)) E)) [true, true, false, true, false] ⟨[(1, (I p2)), (7, (AV.ptr 1 0 0)), (18, (AV.ro 5 (l4.map o64))), (19, (I (l4.length : Int))), (20, (I v6))], [(1, some ⟨138, 100, [((o138 a5))]⟩)], [1, JJ]⟩ := by
  have hm : E.P.follows .mixedOrders = true := by rw [hP]; exact mixed
  have hΘ : TOK E.P Θ := by rw [hP]; exact Θ_ok
  intro n
  induction n with
  | zero => intro a5 v6 r h; simp only [impl_held_l0] at h; cases h
  | succ n ih =>
    intro a5 v6 r h
    simp only [impl_held_l0] at h
    rcases itS h with ⟨c7, h⟩ | ⟨c21, h⟩
    · obtain ⟨x8, hx8, h⟩ := bnS h
      rcases itS h with ⟨c9, h⟩ | ⟨c10, h⟩
      · exact go_to hΘ hm hx hP hn (hs := [⟨1, .br true, none⟩, ⟨2, .row (o64 x8), none⟩, ⟨4, .new 1001, none⟩, ⟨10, .br true, none⟩]) (π := [(1, 1)]) (ts := [1, 7, 18, 19, 20]) (kp := []) (ps := [(decide (v6 < (l4.length : Int))) = true, (0 : Int) ≤ v6, (l4.map o64)[(Int.toNat v6)]? = some (o64 x8), (x8.Thread != p2) = true, RenOK [(1, 1)] [((o138 a5))]]) (by kernel_rfl) ⟨c7, (rd0 hx8), (rdM o64 hx8), c9, (rok (treeB t138 a5)), trivial⟩ (ih a5 (w64 (v6 + 1)) _ h)
      · obtain ⟨r11, hr11, h⟩ := bnS h
        rcases itS h with ⟨c12, h⟩ | ⟨c20, h⟩
        · obtain ⟨x13, hx13, h⟩ := bnS h
          exact go_to hΘ hm hx hP hn (hs := [⟨1, .br true, none⟩, ⟨2, .row (o64 x8), none⟩, ⟨4, .new 1001, none⟩, ⟨10, .br false, none⟩, ⟨12, .callV [[]] (I r11), none⟩, ⟨16, .br true, none⟩, ⟨19, .sto ((o138 a5)) [((o138 (a5.setIfInBounds (Int.toNat r11) true)))], none⟩]) (π := [(1, 1), (1001, 2)]) (ts := [1, 7, 9, 18, 19, 20]) (kp := []) (ps := [(decide (v6 < (l4.length : Int))) = true, (0 : Int) ≤ v6, (l4.map o64)[(Int.toNat v6)]? = some (o64 x8), (x8.Thread != p2) = false, Meets Try.prog 123 [(AV.agg ((o64 x8)))] (I r11), litA (I r11) = true, (decide (r11 ≥ 0)) = true, (0 : Int) ≤ r11, r11 < ((100 : Nat) : Int), [((o138 a5))][0]? = some ((o138 a5)), [((o138 a5))].set 0 (wr ((o138 a5)) (Int.toNat r11) [(B true)]) = [((o138 (a5.setIfInBounds (Int.toNat r11) true)))], [(B true)].length = 1, (Int.toNat r11) + [(B true)].length ≤ ((o138 a5)).length, RenOK [(1, 1), (1001, 2)] [((o138 (a5.setIfInBounds (Int.toNat r11) true)))], RenOK [(1, 1), (1001, 2)] [((o64 x8))]]) (by kernel_rfl) ⟨c7, (rd0 hx8), (rdM o64 hx8), c10, (impl_Event_takes_m hr11), rfl, c12, (rv0 hx13), (rvL hx13), rfl, (vecWr k4 _ (rvLt hx13)), rfl, (vecLe k4 hx13), (rok (treeB t138 (a5.setIfInBounds (Int.toNat r11) true))), (rok rfl), trivial⟩ (impl_held_j1_m hP hn hx p2 l4 v6 ih (a5.setIfInBounds (Int.toNat r11) true) x8 _ h)
        · exact go_to hΘ hm hx hP hn (hs := [⟨1, .br true, none⟩, ⟨2, .row (o64 x8), none⟩, ⟨4, .new 1001, none⟩, ⟨10, .br false, none⟩, ⟨12, .callV [[]] (I r11), none⟩, ⟨16, .br false, none⟩]) (π := [(1, 1), (1001, 2)]) (ts := [1, 7, 9, 18, 19, 20]) (kp := []) (ps := [(decide (v6 < (l4.length : Int))) = true, (0 : Int) ≤ v6, (l4.map o64)[(Int.toNat v6)]? = some (o64 x8), (x8.Thread != p2) = false, Meets Try.prog 123 [(AV.agg ((o64 x8)))] (I r11), litA (I r11) = true, (decide (r11 ≥ 0)) = false, RenOK [(1, 1), (1001, 2)] [((o138 a5))], RenOK [(1, 1), (1001, 2)] [((o64 x8))]]) (by kernel_rfl) ⟨c7, (rd0 hx8), (rdM o64 hx8), c10, (impl_Event_takes_m hr11), rfl, c20, (rok (treeB t138 a5)), (rok rfl), trivial⟩ (impl_held_j1_m hP hn hx p2 l4 v6 ih a5 x8 _ h)
    · exact go_to hΘ hm hx hP hn (hs := [⟨1, .br false, none⟩, ⟨2, .new 1001, none⟩, ⟨4, .agg ((o138 a5)) ((o138 a5)), none⟩]) (π := [(1001, 1)]) (ts := [12, 42, 43]) (kp := [42]) (ps := [(decide (v6 < (l4.length : Int))) = false, 0 + 100 ≤ ((o138 a5)).length, (((o138 a5)).drop 0).take 100 = ((o138 a5)), ((o138 a5)).all AV.plain = true, [((o138 a5))][0]? = some ((o138 a5)), RenOK [(1001, 1)] ([].map o3), tree (AV.agg ((o138 a5))) = true]) (by kernel_rfl) ⟨c21, (vecLe0 k4), (vecAgg k4), (pa138 _), rfl, (rok (treeM t3)), (t138 a5), trivial⟩ (impl_held_l2_m hP hn hx a5 FU [] 0 _ h)
noncomputable def impl_held (p1 : (List GEvent)) (p2 : Int) (p3 : Int) : Option (List Int) :=
  Option.bind (slc p1 0 p3) fun l4 =>
  impl_held_l0 p2 l4 FU (Vector.replicate 100 false) 0
theorem impl_held_m {p1 : (List GEvent)} {p2 : Int} {p3 : Int} {r : (List Int)} (h : impl_held p1 p2 p3 = some r) : Meets Try.prog 106 [(AV.ro 5 (p1.map o64)), (I p2), (I p3)] (AV.own 3 1 (r.map o3)) := by
  refine meets_ofC Θ_ok Try.func106 rfl (c := body106) (by kernel_rfl) (Nat.le_of_ble_eq_true rfl) ?_
  intro E hP hn hx
  replace hn : E.n = 54 := hn
  have hm : E.P.follows .mixedOrders = true := by rw [hP]; exact mixed
  have hΘ : TOK E.P Θ := by rw [hP]; exact Θ_ok
  unfold impl_held at h
  show WAt E body106 (FQ (RetE Θ Try.f106.results.toList [] [] (AV.own 3 1 (r.map o3)) E)) [] ⟨[(0, (AV.ro 5 (p1.map o64))), (1, (I p2)), (2, (I p3))], [], [JJ]⟩
  obtain ⟨l4, hl4, h⟩ := bnS h
  exact go_to hΘ hm hx hP hn (hs := [⟨1, .no, some (AV.agg ((o138 (Vector.replicate 100 false))))⟩, ⟨2, .nw 1001 [((o138 (Vector.replicate 100 false)))], none⟩, ⟨3, .stoS ((o138 (Vector.replicate 100 false))) [((o138 (Vector.replicate 100 false)))], none⟩, ⟨6, .no, some (AV.ro 5 (l4.map o64))⟩, ⟨7, .no, some (I (l4.length : Int))⟩]) (π := [(1001, 1)]) (ts := [1, 7, 18, 19, 20]) (kp := []) (ps := [AV.agg (litL (List.replicate 100 (.bool false))) = (AV.agg ((o138 (Vector.replicate 100 false)))), [litL (List.replicate 100 (.bool false))] = [((o138 (Vector.replicate 100 false)))], [((o138 (Vector.replicate 100 false)))][0]? = some ((o138 (Vector.replicate 100 false))), [((o138 (Vector.replicate 100 false)))].set 0 (wr ((o138 (Vector.replicate 100 false))) 0 ((o138 (Vector.replicate 100 false)))) = [((o138 (Vector.replicate 100 false)))], ((o138 (Vector.replicate 100 false))).length = 100, 0 + ((o138 (Vector.replicate 100 false))).length ≤ ((o138 (Vector.replicate 100 false))).length, ((o138 (Vector.replicate 100 false))).all okLit = true, AV.ro 5 (((p1.map o64).drop (Int.toNat 0)).take (subO (Int.toNat p3) (Int.toNat 0))) = (AV.ro 5 (l4.map o64)), (0 : Int) ≤ 0, 0 ≤ p3, p3 ≤ (((p1.map o64).length : Nat) : Int), AV.lit (.int .i64 (((l4.map o64).length : Nat) : Int)) = (I (l4.length : Int)), RenOK [(1001, 1)] [((o138 (Vector.replicate 100 false)))]]) (by kernel_rfl) ⟨(vecZeroA k4 rfl), (vecZero k4 rfl), rfl, (vecSt k4 k4), (vecLen k4), (vecLL k4 k4), (vecAll k4 (fun _ => rfl)), (slM 5 o64 hl4), (sl0 hl4), (sl1 hl4), (sl2 o64 hl4), (lenM o64), (rok (treeB t138 (Vector.replicate 100 false))), trivial⟩ (impl_held_l0_m hP hn hx p2 l4 FU (Vector.replicate 100 false) 0 _ h)
noncomputable def body88 : Code := match Try.f88.body with | some c => c | none => .skip
noncomputable def impl_unders_l1 (K0 : (List GUnder) → Int → Option (List GUnder)) (p1 : (List GEvent)) (v3 : Int) (r9 : (List Int)) : Nat → (List GUnder) → GEvent → (List Int) → Int → Option (List GUnder)
  | 0, _, _, _, _ => none
  | n + 1, a10, a11, a12, v13 =>
  if (decide (v13 < (r9.length : Int))) = true then
    Option.bind (rd a12 v13) fun x15 =>
    Option.bind (impl_Event_takes a11) fun r16 =>
    Option.bind (app a10 [(GUnder.mk x15 r16 a11.Thread v3)]) fun l17 =>
    impl_unders_l1 K0 p1 v3 r9 n l17 a11 a12 (w64 (v13 + 1))
  else
    K0 a10 (w64 (v3 + 1))
theorem impl_unders_l1_m {E : Env} (hP : E.P = Try.prog) (hn : E.n = 42) (hx : ∀ p, p ∈ E.fx → p.1 ∈ ([] : List Nat)) (p1 : (List GEvent)) (v3 : Int) (r9 : (List Int)) {K0 : (List GUnder) → Int → Option (List GUnder)} (hK0 : ∀ (a2 : (List GUnder)) (v3 : Int) (r : (List GUnder)), K0 a2 v3 = some r → WAt E body88 (FQ (RetE Θ Try.f88.results.toList [] [] (AV.own 85 4 (r.map o85)) E)) [true, true, false, true, false] ⟨[(0, (AV.ro 5 (p1.map o64))), (3, (AV.sl 1 0 (List.length (a2.map o85)))), (9, (AV.ro 5 (p1.map o64))), (10, (I (p1.length : Int))), (11, (I v3))], [(1, some ⟨85, 4, (a2.map o85)⟩)], [1, JJ]⟩) : ∀ (n : Nat) (a10 : (List GUnder)) (a11 : GEvent) (a12 : (List Int)) (v13 : Int) (r : (List GUnder)), impl_unders_l1 K0 p1 v3 r9 n a10 a11 a12 v13 = some r → WAt E body88 (FQ (RetE Θ Try.f88.results.toList [] [] (AV.own 85 4 (r.map o85)) E)) [true, true, false, true, false, false, true, true, false, false, true, true, true, false] ⟨[(0, (AV.ro 5 (p1.map o64))), (3, (AV.sl 1 0 (List.length (a10.map o85)))), (4, (I v3)), (5, (AV.ptr 2 0 0)), (9, (AV.ro 5 (p1.map o64))), (10, (I (p1.length : Int))), (11, (I v3)), (23, (AV.sl 3 0 (List.length (a12.map o3)))), (24, (I (r9.length : Int))), (25, (I v13))], [(1, some ⟨85, 4, (a10.map o85)⟩), (2, some ⟨64, 5, [((o64 a11))]⟩), (3, some ⟨3, 1, (a12.map o3)⟩)], [1, 2, 3, JJ]⟩ := by
  have hm : E.P.follows .mixedOrders = true := by rw [hP]; exact mixed
  have hΘ : TOK E.P Θ := by rw [hP]; exact Θ_ok
  intro n
  induction n with
  | zero => intro a10 a11 a12 v13 r h; simp only [impl_unders_l1] at h; cases h
  | succ n ih =>
    intro a10 a11 a12 v13 r h
    simp only [impl_unders_l1] at h
    rcases itS h with ⟨c14, h⟩ | ⟨c18, h⟩
    · obtain ⟨x15, hx15, h⟩ := bnS h
      obtain ⟨r16, hr16, h⟩ := bnS h
      obtain ⟨l17, hl17, h⟩ := bnS h
      exact go_to hΘ hm hx hP hn (hs := [⟨1, .br true, none⟩, ⟨3, .row [(I x15)], none⟩, ⟨8, .callV [[]] (I r16), none⟩, ⟨13, .new 1001, none⟩, ⟨15, .app 1002 (l17.map o85), none⟩]) (π := [(1002, 1), (2, 2), (3, 3)]) (ts := [0, 3, 4, 5, 9, 10, 11, 23, 24, 25]) (kp := []) (ps := [(decide (v13 < (r9.length : Int))) = true, (0 : Int) ≤ v13, v13 < (((List.length (a12.map o3)) : Nat) : Int), (a12.map o3)[(Int.toNat v13)]? = some [(I x15)], Meets Try.prog 123 [(AV.agg ((o64 a11)))] (I r16), litA (I r16) = true, (AV.sl 1 0 (List.length (a10.map o85))) = (AV.sl 1 0 (List.length (a10.map o85))), (a10.map o85).take (List.length (a10.map o85)) ++ ((([(GUnder.mk x15 r16 a11.Thread v3)].map o85).drop 0).take (List.length ([(GUnder.mk x15 r16 a11.Thread v3)].map o85))) = (l17.map o85), ((([(GUnder.mk x15 r16 a11.Thread v3)].map o85).drop 0).take (List.length ([(GUnder.mk x15 r16 a11.Thread v3)].map o85))).all (fun r => r.all AV.plain) = true, (List.length (l17.map o85)) * 32 ≤ 140737488355328, (List.length (l17.map o85)) ≤ 140737488355328, RenOK [(1002, 1), (2, 2), (3, 3)] (l17.map o85), RenOK [(1002, 1), (2, 2), (3, 3)] [((o64 a11))], RenOK [(1002, 1), (2, 2), (3, 3)] (a12.map o3)]) (by kernel_rfl) ⟨c14, (rd0 hx15), (rdL o3 hx15), (rdM o3 hx15), (impl_Event_takes_m hr16), rfl, rfl, (appTD o85 hl17), (plD pa85), (appB o85 hl17 (by decide)), (appC o85 hl17), (rok (treeM t85)), (rok rfl), (rok (treeM t3)), trivial⟩ (ih l17 a11 a12 (w64 (v13 + 1)) _ h)
    · exact go_to hΘ hm hx hP hn (hs := [⟨1, .br false, none⟩]) (π := [(1, 1)]) (ts := [0, 3, 9, 10, 11]) (kp := []) (ps := [(decide (v13 < (r9.length : Int))) = false, RenOK [(1, 1)] (a10.map o85)]) (by kernel_rfl) ⟨c18, (rok (treeM t85)), trivial⟩ (hK0 a10 (w64 (v3 + 1)) _ h)
noncomputable def impl_unders_l0  (p1 : (List GEvent)) : Nat → (List GUnder) → Int → Option (List GUnder)
  | 0, _, _ => none
  | n + 1, a2, v3 =>
  if (decide (v3 < (p1.length : Int))) = true then
    Option.bind (rd p1 v3) fun x5 =>
    Option.bind (impl_Event_takes x5) fun r6 =>
    if (decide (r6 < 0)) = true then
      impl_unders_l0 p1 n a2 (w64 (v3 + 1))
    else
      Option.bind (impl_held p1 x5.Thread v3) fun r9 =>
      impl_unders_l1 (impl_unders_l0 p1 n) p1 v3 r9 FU a2 x5 r9 0
  else
    some a2
theorem impl_unders_l0_m {E : Env} (hP : E.P = Try.prog) (hn : E.n = 42) (hx : ∀ p, p ∈ E.fx → p.1 ∈ ([] : List Nat)) (p1 : (List GEvent))  : ∀ (n : Nat) (a2 : (List GUnder)) (v3 : Int) (r : (List GUnder)), impl_unders_l0 p1 n a2 v3 = some r → WAt E body88 (FQ (RetE Θ Try.f88.results.toList [] [] (AV.own 85 4 (r.map o85)) E)) [true, true, false, true, false] ⟨[(0, (AV.ro 5 (p1.map o64))), (3, (AV.sl 1 0 (List.length (a2.map o85)))), (9, (AV.ro 5 (p1.map o64))), (10, (I (p1.length : Int))), (11, (I v3))], [(1, some ⟨85, 4, (a2.map o85)⟩)], [1, JJ]⟩ := by
  have hm : E.P.follows .mixedOrders = true := by rw [hP]; exact mixed
  have hΘ : TOK E.P Θ := by rw [hP]; exact Θ_ok
  intro n
  induction n with
  | zero => intro a2 v3 r h; simp only [impl_unders_l0] at h; cases h
  | succ n ih =>
    intro a2 v3 r h
    simp only [impl_unders_l0] at h
    rcases itS h with ⟨c4, h⟩ | ⟨c19, h⟩
    · obtain ⟨x5, hx5, h⟩ := bnS h
      obtain ⟨r6, hr6, h⟩ := bnS h
      rcases itS h with ⟨c7, h⟩ | ⟨c8, h⟩
      · exact go_to hΘ hm hx hP hn (hs := [⟨1, .br true, none⟩, ⟨3, .row (o64 x5), none⟩, ⟨5, .new 1001, none⟩, ⟨9, .callV [[]] (I r6), none⟩, ⟨11, .br true, none⟩]) (π := [(1, 1)]) (ts := [0, 3, 9, 10, 11]) (kp := []) (ps := [(decide (v3 < (p1.length : Int))) = true, (0 : Int) ≤ v3, (p1.map o64)[(Int.toNat v3)]? = some (o64 x5), Meets Try.prog 123 [(AV.agg ((o64 x5)))] (I r6), litA (I r6) = true, (decide (r6 < 0)) = true, RenOK [(1, 1)] (a2.map o85)]) (by kernel_rfl) ⟨c4, (rd0 hx5), (rdM o64 hx5), (impl_Event_takes_m hr6), rfl, c7, (rok (treeM t85)), trivial⟩ (ih a2 (w64 (v3 + 1)) _ h)
      · obtain ⟨r9, hr9, h⟩ := bnS h
        exact go_to hΘ hm hx hP hn (hs := [⟨1, .br true, none⟩, ⟨3, .row (o64 x5), none⟩, ⟨5, .new 1001, none⟩, ⟨9, .callV [[]] (I r6), none⟩, ⟨11, .br false, none⟩, ⟨16, .call [] (AV.own 3 1 (r9.map o3)) [1002], none⟩, ⟨17, .no, some (I (r9.length : Int))⟩]) (π := [(1, 1), (1001, 2), (1002, 3)]) (ts := [0, 3, 4, 5, 9, 10, 11, 23, 24, 25]) (kp := []) (ps := [(decide (v3 < (p1.length : Int))) = true, (0 : Int) ≤ v3, (p1.map o64)[(Int.toNat v3)]? = some (o64 x5), Meets Try.prog 123 [(AV.agg ((o64 x5)))] (I r6), litA (I r6) = true, (decide (r6 < 0)) = false, Meets Try.prog 106 [(AV.ro 5 (p1.map o64)), (I x5.Thread), (I v3)] (AV.own 3 1 (r9.map o3)), noRo (AV.own 3 1 (r9.map o3)) = true, AV.lit (.int .i64 (((List.length (r9.map o3)) : Nat) : Int)) = (I (r9.length : Int)), RenOK [(1, 1), (1001, 2), (1002, 3)] (a2.map o85), RenOK [(1, 1), (1001, 2), (1002, 3)] [((o64 x5))], RenOK [(1, 1), (1001, 2), (1002, 3)] (r9.map o3)]) (by kernel_rfl) ⟨c4, (rd0 hx5), (rdM o64 hx5), (impl_Event_takes_m hr6), rfl, c8, (impl_held_m hr9), (by simp only [noRo, noRoL, noRoM n3, Bool.and_self]), (lenM o3), (rok (treeM t85)), (rok rfl), (rok (treeM t3)), trivial⟩ (impl_unders_l1_m hP hn hx p1 v3 r9 ih FU a2 x5 r9 0 _ h)
    · have h := Option.some.inj h
      subst h
      exact go_ret hΘ hm hP hn (hs := [⟨1, .br false, none⟩]) (rh := []) (ph := .own) (ps := [(decide (v3 < (p1.length : Int))) = false, treeLL ((a2.map o85).take (List.length (a2.map o85))) = true, (a2.map o85).take (List.length (a2.map o85)) = (a2.map o85), noRoLL (a2.map o85) = true]) (by kernel_rfl) ⟨c19, (treeT t85), takeM, (noRoM n85), trivial⟩
noncomputable def impl_unders (p1 : (List GEvent)) : Option (List GUnder) :=
  impl_unders_l0 p1 FU [] 0
theorem impl_unders_m {p1 : (List GEvent)} {r : (List GUnder)} (h : impl_unders p1 = some r) : Meets Try.prog 88 [(AV.ro 5 (p1.map o64))] (AV.own 85 4 (r.map o85)) := by
  refine meets_ofC Θ_ok Try.func88 rfl (c := body88) (by kernel_rfl) (Nat.le_of_ble_eq_true rfl) ?_
  intro E hP hn hx
  replace hn : E.n = 42 := hn
  have hm : E.P.follows .mixedOrders = true := by rw [hP]; exact mixed
  have hΘ : TOK E.P Θ := by rw [hP]; exact Θ_ok
  unfold impl_unders at h
  show WAt E body88 (FQ (RetE Θ Try.f88.results.toList [] [] (AV.own 85 4 (r.map o85)) E)) [] ⟨[(0, (AV.ro 5 (p1.map o64)))], [], [JJ]⟩
  exact go_to hΘ hm hx hP hn (hs := [⟨1, .new 1001, none⟩, ⟨4, .no, some (I (p1.length : Int))⟩]) (π := [(1001, 1)]) (ts := [0, 3, 9, 10, 11]) (kp := []) (ps := [AV.lit (.int .i64 (((p1.map o64).length : Nat) : Int)) = (I (p1.length : Int)), RenOK [(1001, 1)] ([].map o85)]) (by kernel_rfl) ⟨(lenM o64), (rok (treeM t85)), trivial⟩ (impl_unders_l0_m hP hn hx p1 FU [] 0 _ h)
noncomputable def body109 : Code := match Try.f109.body with | some c => c | none => .skip
noncomputable def impl_gate_1 (p1 : Int) (p2 : Int) (p3 : Int) : Option Bool :=
  if (p1 == p2) = true then
    some true
  else
    some (p1 == p3)
theorem impl_gate_1_m {p1 : Int} {p2 : Int} {p3 : Int} {r : Bool} (h : impl_gate_1 p1 p2 p3 = some r) : Meets Try.prog 109 [(I p1), (AV.rop (o3 p2) 0), (AV.rop (o3 p3) 0)] (B r) := by
  refine meets_ofC Θ_ok Try.func109 rfl (c := body109) (by kernel_rfl) (Nat.le_of_ble_eq_true rfl) ?_
  intro E hP hn hx
  replace hn : E.n = 13 := hn
  have hm : E.P.follows .mixedOrders = true := by rw [hP]; exact mixed
  have hΘ : TOK E.P Θ := by rw [hP]; exact Θ_ok
  unfold impl_gate_1 at h
  show WAt E body109 (FQ (RetE Θ Try.f109.results.toList [] [] (B r) E)) [] ⟨[(0, (I p1)), (1, (AV.rop (o3 p2) 0)), (2, (AV.rop (o3 p3) 0))], [], [JJ]⟩
  rcases itS h with ⟨c4, h⟩ | ⟨c5, h⟩
  · have h := Option.some.inj h
    subst h
    exact go_ret hΘ hm hP hn (hs := [⟨4, .no, some (B true)⟩]) (rh := []) (ph := .raw) (ps := [(B (p1 == p2)) = (B true), (B true) = (B true), litA (B true) = true]) (by kernel_rfl) ⟨(litB c4), rfl, rfl, trivial⟩
  · have h := Option.some.inj h
    subst h
    exact go_ret hΘ hm hP hn (hs := [⟨4, .no, some (B false)⟩]) (rh := []) (ph := .raw) (ps := [(B (p1 == p2)) = (B false), (B (p1 == p3)) = (B (p1 == p3)), litA (B (p1 == p3)) = true]) (by kernel_rfl) ⟨(litB c5), rfl, rfl, trivial⟩
noncomputable def body134 : Code := match Try.f134.body with | some c => c | none => .skip
noncomputable def slices_IndexFunc_int_int_134__impl_gate_1_l0  (p1 : (List Int)) (p2 : Int) (p3 : Int) : Nat → Int → Option Int
  | 0, _ => none
  | n + 1, v4 =>
  if (decide (v4 < (p1.length : Int))) = true then
    Option.bind (rd p1 v4) fun x6 =>
    Option.bind (impl_gate_1 x6 p2 p3) fun r7 =>
    if r7 = true then
      some v4
    else
      slices_IndexFunc_int_int_134__impl_gate_1_l0 p1 p2 p3 n (w64 (v4 + 1))
  else
    some (-1)
theorem slices_IndexFunc_int_int_134__impl_gate_1_l0_m {E : Env} (hP : E.P = Try.prog) (hn : E.n = 19) (hx : ∀ p, p ∈ E.fx → p.1 ∈ ([] : List Nat)) (p1 : (List Int)) (p2 : Int) (p3 : Int)  : ∀ (n : Nat) (v4 : Int) (r : Int), slices_IndexFunc_int_int_134__impl_gate_1_l0 p1 p2 p3 n v4 = some r → WAt E body134 (FQ (RetE Θ Try.f134.results.toList [] [] (I r) E)) [true, false, true, false] ⟨[(0, (AV.ro 1 (p1.map o3))), (1, (AV.fn 109 [(AV.rop (o3 p2) 0), (AV.rop (o3 p3) 0)])), (7, (I (p1.length : Int))), (8, (I v4))], [], [JJ]⟩ := by
  have hm : E.P.follows .mixedOrders = true := by rw [hP]; exact mixed
  have hΘ : TOK E.P Θ := by rw [hP]; exact Θ_ok
  intro n
  induction n with
  | zero => intro v4 r h; simp only [slices_IndexFunc_int_int_134__impl_gate_1_l0] at h; cases h
  | succ n ih =>
    intro v4 r h
    simp only [slices_IndexFunc_int_int_134__impl_gate_1_l0] at h
    rcases itS h with ⟨c5, h⟩ | ⟨c10, h⟩
    · obtain ⟨x6, hx6, h⟩ := bnS h
      obtain ⟨r7, hr7, h⟩ := bnS h
      rcases itS h with ⟨c8, h⟩ | ⟨c9, h⟩
      · have h := Option.some.inj h
        subst h
        exact go_ret hΘ hm hP hn (hs := [⟨1, .br true, none⟩, ⟨7, .row (o3 x6), none⟩, ⟨9, .callV [] (B r7), none⟩, ⟨10, .br true, none⟩]) (rh := []) (ph := .raw) (ps := [(decide (v4 < (p1.length : Int))) = true, (0 : Int) ≤ v4, (p1.map o3)[(Int.toNat v4)]? = some (o3 x6), Meets Try.prog 109 [(I x6), (AV.rop (o3 p2) 0), (AV.rop (o3 p3) 0)] (B r7), litA (B r7) = true, r7 = true, (I v4) = (I v4), litA (I v4) = true]) (by kernel_rfl) ⟨c5, (rd0 hx6), (rdM o3 hx6), (impl_gate_1_m hr7), rfl, c8, rfl, rfl, trivial⟩
      · exact go_to hΘ hm hx hP hn (hs := [⟨1, .br true, none⟩, ⟨7, .row (o3 x6), none⟩, ⟨9, .callV [] (B r7), none⟩, ⟨10, .br false, none⟩]) (π := []) (ts := [0, 1, 7, 8]) (kp := []) (ps := [(decide (v4 < (p1.length : Int))) = true, (0 : Int) ≤ v4, (p1.map o3)[(Int.toNat v4)]? = some (o3 x6), Meets Try.prog 109 [(I x6), (AV.rop (o3 p2) 0), (AV.rop (o3 p3) 0)] (B r7), litA (B r7) = true, r7 = false]) (by kernel_rfl) ⟨c5, (rd0 hx6), (rdM o3 hx6), (impl_gate_1_m hr7), rfl, c9, trivial⟩ (ih (w64 (v4 + 1)) _ h)
    · have h := Option.some.inj h
      subst h
      exact go_ret hΘ hm hP hn (hs := [⟨1, .br false, none⟩]) (rh := []) (ph := .raw) (ps := [(decide (v4 < (p1.length : Int))) = false, (I (-1)) = (I (-1)), litA (I (-1)) = true]) (by kernel_rfl) ⟨c10, rfl, rfl, trivial⟩
noncomputable def slices_IndexFunc_int_int_134__impl_gate_1 (p1 : (List Int)) (p2 : Int) (p3 : Int) : Option Int :=
  slices_IndexFunc_int_int_134__impl_gate_1_l0 p1 p2 p3 FU 0
theorem slices_IndexFunc_int_int_134__impl_gate_1_m {p1 : (List Int)} {p2 : Int} {p3 : Int} {r : Int} (h : slices_IndexFunc_int_int_134__impl_gate_1 p1 p2 p3 = some r) : Meets Try.prog 134 [(AV.ro 1 (p1.map o3)), (AV.fn 109 [(AV.rop (o3 p2) 0), (AV.rop (o3 p3) 0)])] (I r) := by
  refine meets_ofC Θ_ok Try.func134 rfl (c := body134) (by kernel_rfl) (Nat.le_of_ble_eq_true rfl) ?_
  intro E hP hn hx
  replace hn : E.n = 19 := hn
  have hm : E.P.follows .mixedOrders = true := by rw [hP]; exact mixed
  have hΘ : TOK E.P Θ := by rw [hP]; exact Θ_ok
  unfold slices_IndexFunc_int_int_134__impl_gate_1 at h
  show WAt E body134 (FQ (RetE Θ Try.f134.results.toList [] [] (I r) E)) [] ⟨[(0, (AV.ro 1 (p1.map o3))), (1, (AV.fn 109 [(AV.rop (o3 p2) 0), (AV.rop (o3 p3) 0)]))], [], [JJ]⟩
  exact go_to hΘ hm hx hP hn (hs := [⟨2, .no, some (I (p1.length : Int))⟩]) (π := []) (ts := [0, 1, 7, 8]) (kp := []) (ps := [AV.lit (.int .i64 (((p1.map o3).length : Nat) : Int)) = (I (p1.length : Int))]) (by kernel_rfl) ⟨(lenM o3), trivial⟩ (slices_IndexFunc_int_int_134__impl_gate_1_l0_m hP hn hx p1 p2 p3 FU 0 _ h)
noncomputable def body108 : Code := match Try.f108.body with | some c => c | none => .skip
noncomputable def slices_DeleteFunc_int_int__impl_gate_1_l0  (p1 : (List Int)) (p2 : Int) (p3 : Int) : Nat → (List Int) → Int → Int → Option (List Int)
  | 0, _, _, _ => none
  | n + 1, a7, v8, v9 =>
  if (decide (v9 < (a7.length : Int))) = true then
    Option.bind (rd a7 v9) fun x11 =>
    Option.bind (impl_gate_1 x11 p2 p3) fun r12 =>
    if (!r12) = true then
      Option.bind (rd a7 v8) fun x14 =>
      slices_DeleteFunc_int_int__impl_gate_1_l0 p1 p2 p3 n (a7.set (Int.toNat v8) x11) (w64 (v8 + 1)) (w64 (v9 + 1))
    else
      slices_DeleteFunc_int_int__impl_gate_1_l0 p1 p2 p3 n a7 v8 (w64 (v9 + 1))
  else
    Option.bind (slc a7 v8 (a7.length : Int)) fun l17 =>
    Option.bind (slc (clrT a7 0 (Int.toNat v8) (subO (Int.toNat (((a7.map o3).length : Nat) : Int)) (Int.toNat v8))) 0 v8) fun l18 =>
    some l18
theorem slices_DeleteFunc_int_int__impl_gate_1_l0_m {E : Env} (hP : E.P = Try.prog) (hn : E.n = 42) (hx : ∀ p, p ∈ E.fx → p.1 ∈ ([] : List Nat)) (p1 : (List Int)) (p2 : Int) (p3 : Int)  : ∀ (n : Nat) (a7 : (List Int)) (v8 : Int) (v9 : Int) (r : (List Int)), slices_DeleteFunc_int_int__impl_gate_1_l0 p1 p2 p3 n a7 v8 v9 = some r → WAt E body108 (FQ (RetE Θ Try.f108.results.toList [false] [⟨3, 1, (p1.map o3)⟩] (AV.own 3 1 (r.map o3)) E)) [true, true, true, false, true, false] ⟨[(0, (AV.sl 1 0 (List.length (a7.map o3)))), (1, (AV.fn 109 [(AV.rop (o3 p2) 0), (AV.rop (o3 p3) 0)])), (5, (I v8)), (6, (I v9))], [(1, some ⟨3, 1, (a7.map o3)⟩)], [1, JJ]⟩ := by
  have hm : E.P.follows .mixedOrders = true := by rw [hP]; exact mixed
  have hΘ : TOK E.P Θ := by rw [hP]; exact Θ_ok
  intro n
  induction n with
  | zero => intro a7 v8 v9 r h; simp only [slices_DeleteFunc_int_int__impl_gate_1_l0] at h; cases h
  | succ n ih =>
    intro a7 v8 v9 r h
    simp only [slices_DeleteFunc_int_int__impl_gate_1_l0] at h
    rcases itS h with ⟨c10, h⟩ | ⟨c16, h⟩
    · obtain ⟨x11, hx11, h⟩ := bnS h
      obtain ⟨r12, hr12, h⟩ := bnS h
      rcases itS h with ⟨c13, h⟩ | ⟨c15, h⟩
      · obtain ⟨x14, hx14, h⟩ := bnS h
        exact go_to hΘ hm hx hP hn (hs := [⟨2, .no, some (I (a7.length : Int))⟩, ⟨4, .br true, none⟩, ⟨8, .row [(I x11)], none⟩, ⟨12, .callV [] (B r12), none⟩, ⟨14, .br true, none⟩, ⟨19, .sto [(I x14)] ((a7.set (Int.toNat v8) x11).map o3), none⟩, ⟨26, .slen 0 (List.length ((a7.set (Int.toNat v8) x11).map o3)), none⟩]) (π := [(1, 1)]) (ts := [0, 1, 5, 6]) (kp := []) (ps := [AV.lit (.int .i64 (((List.length (a7.map o3)) : Nat) : Int)) = (I (a7.length : Int)), (decide (v9 < (a7.length : Int))) = true, (0 : Int) ≤ v9, v9 < (((List.length (a7.map o3)) : Nat) : Int), (a7.map o3)[(Int.toNat v9)]? = some [(I x11)], Meets Try.prog 109 [(I x11), (AV.rop (o3 p2) 0), (AV.rop (o3 p3) 0)] (B r12), litA (B r12) = true, (!r12) = true, (0 : Int) ≤ v8, v8 < (((List.length (a7.map o3)) : Nat) : Int), (a7.map o3)[(Int.toNat v8)]? = some [(I x14)], (a7.map o3).set (Int.toNat v8) (wr [(I x14)] 0 [(I x11)]) = ((a7.set (Int.toNat v8) x11).map o3), [(I x11)].length = 1, 0 + [(I x11)].length ≤ [(I x14)].length, (List.length (a7.map o3)) = (List.length ((a7.set (Int.toNat v8) x11).map o3)), RenOK [(1, 1)] ((a7.set (Int.toNat v8) x11).map o3)]) (by kernel_rfl) ⟨(lenM o3), c10, (rd0 hx11), (rdL o3 hx11), (rdM o3 hx11), (impl_gate_1_m hr12), rfl, c13, (rd0 hx14), (rdL o3 hx14), (rdM o3 hx14), (setM o3), rfl, (Nat.le_of_ble_eq_true rfl), (by first | exact lnSet _ | exact lnSet2 _ | exact apLn _ (by assumption) | simp only [List.length_map, List.length_set, List.length_cons, List.length_nil]), (rok (treeM t3)), trivial⟩ (ih (a7.set (Int.toNat v8) x11) (w64 (v8 + 1)) (w64 (v9 + 1)) _ h)
      · exact go_to hΘ hm hx hP hn (hs := [⟨2, .no, some (I (a7.length : Int))⟩, ⟨4, .br true, none⟩, ⟨8, .row [(I x11)], none⟩, ⟨12, .callV [] (B r12), none⟩, ⟨14, .br false, none⟩]) (π := [(1, 1)]) (ts := [0, 1, 5, 6]) (kp := []) (ps := [AV.lit (.int .i64 (((List.length (a7.map o3)) : Nat) : Int)) = (I (a7.length : Int)), (decide (v9 < (a7.length : Int))) = true, (0 : Int) ≤ v9, v9 < (((List.length (a7.map o3)) : Nat) : Int), (a7.map o3)[(Int.toNat v9)]? = some [(I x11)], Meets Try.prog 109 [(I x11), (AV.rop (o3 p2) 0), (AV.rop (o3 p3) 0)] (B r12), litA (B r12) = true, (!r12) = false, RenOK [(1, 1)] (a7.map o3)]) (by kernel_rfl) ⟨(lenM o3), c10, (rd0 hx11), (rdL o3 hx11), (rdM o3 hx11), (impl_gate_1_m hr12), rfl, c15, (rok (treeM t3)), trivial⟩ (ih a7 v8 (w64 (v9 + 1)) _ h)
    · obtain ⟨l17, hl17, h⟩ := bnS h
      obtain ⟨l18, hl18, h⟩ := bnS h
      have h := Option.some.inj h
      subst h
      exact go_ret hΘ hm hP hn (hs := [⟨2, .no, some (I (a7.length : Int))⟩, ⟨4, .br false, none⟩, ⟨8, .clr ((clrT a7 0 (Int.toNat v8) (subO (Int.toNat (((a7.map o3).length : Nat) : Int)) (Int.toNat v8))).map o3), none⟩, ⟨9, .slen 0 (List.length ((clrT a7 0 (Int.toNat v8) (subO (Int.toNat (((a7.map o3).length : Nat) : Int)) (Int.toNat v8))).map o3)), none⟩]) (rh := []) (ph := .own) (ps := [AV.lit (.int .i64 (((List.length (a7.map o3)) : Nat) : Int)) = (I (a7.length : Int)), (decide (v9 < (a7.length : Int))) = false, (0 : Int) ≤ v8, v8 ≤ (((a7.map o3).length : Nat) : Int), (((a7.map o3).length : Nat) : Int) ≤ (((List.length (a7.map o3)) : Nat) : Int), litR (a7.map o3) = true, (Int.toNat v8) + (subO (Int.toNat (((a7.map o3).length : Nat) : Int)) (Int.toNat v8)) ≤ (a7.map o3).length, ovr_ (a7.map o3) (Int.toNat v8) (List.replicate (subO (Int.toNat (((a7.map o3).length : Nat) : Int)) (Int.toNat v8)) (o3 0)) = ((clrT a7 0 (Int.toNat v8) (subO (Int.toNat (((a7.map o3).length : Nat) : Int)) (Int.toNat v8))).map o3), (List.length (a7.map o3)) = (List.length ((clrT a7 0 (Int.toNat v8) (subO (Int.toNat (((a7.map o3).length : Nat) : Int)) (Int.toNat v8))).map o3)), (0 : Int) ≤ 0, 0 ≤ v8, v8 ≤ (((List.length ((clrT a7 0 (Int.toNat v8) (subO (Int.toNat (((a7.map o3).length : Nat) : Int)) (Int.toNat v8))).map o3)) : Nat) : Int), treeLL (((clrT a7 0 (Int.toNat v8) (subO (Int.toNat (((a7.map o3).length : Nat) : Int)) (Int.toNat v8))).map o3).take (Int.toNat v8)) = true, ((clrT a7 0 (Int.toNat v8) (subO (Int.toNat (((a7.map o3).length : Nat) : Int)) (Int.toNat v8))).map o3).take (Int.toNat v8) = (l18.map o3), noRoLL (l18.map o3) = true]) (by kernel_rfl) ⟨(lenM o3), c16, (sl0 hl17), (sl1e o3 hl17), (Int.le_refl _), (litR_map (fun _ => rfl) _), (clBe o3 hl17), (clrM o3 rfl), (lnClre o3 hl17), (sl0 hl18), (sl1 hl18), (sl2 o3 hl18), (treeW0 t3 hl18), (winT0 o3 hl18), (noRoM n3), trivial⟩
noncomputable def slices_DeleteFunc_int_int__impl_gate_1 (p1 : (List Int)) (p2 : Int) (p3 : Int) : Option (List Int) :=
  Option.bind (slices_IndexFunc_int_int_134__impl_gate_1 p1 p2 p3) fun r4 =>
  if (r4 == (-1)) = true then
    some p1
  else
    slices_DeleteFunc_int_int__impl_gate_1_l0 p1 p2 p3 FU p1 r4 (w64 (r4 + 1))
theorem slices_DeleteFunc_int_int__impl_gate_1_m {p1 : (List Int)} {p2 : Int} {p3 : Int} {r : (List Int)} (h : slices_DeleteFunc_int_int__impl_gate_1 p1 p2 p3 = some r) : MeetsR Try.prog 108 [⟨3, 1, (p1.map o3)⟩] [(AV.sl 0 0 (List.length (p1.map o3))), (AV.fn 109 [(AV.rop (o3 p2) 0), (AV.rop (o3 p3) 0)])] [false] [⟨3, 1, (p1.map o3)⟩] (AV.own 3 1 (r.map o3)) := by
  refine meetsR_of Θ_ok Try.func108 rfl (c := body108) (by kernel_rfl) (Nat.le_of_ble_eq_true rfl) rfl (Nat.le_of_ble_eq_true rfl) rfl (fr := []) (frI rfl) ?_
  intro E hP hn hx
  replace hn : E.n = 42 := hn
  have hm : E.P.follows .mixedOrders = true := by rw [hP]; exact mixed
  have hΘ : TOK E.P Θ := by rw [hP]; exact Θ_ok
  unfold slices_DeleteFunc_int_int__impl_gate_1 at h
  show WAt E body108 (FQ (RetE Θ Try.f108.results.toList [false] [⟨3, 1, (p1.map o3)⟩] (AV.own 3 1 (r.map o3)) E)) [] ⟨[(0, (AV.sl 0 0 (List.length (p1.map o3)))), (1, (AV.fn 109 [(AV.rop (o3 p2) 0), (AV.rop (o3 p3) 0)]))], [(0, some ⟨3, 1, (p1.map o3)⟩)], [0, JJ]⟩
  obtain ⟨r4, hr4, h⟩ := bnS h
  rcases itS h with ⟨c5, h⟩ | ⟨c6, h⟩
  · have h := Option.some.inj h
    subst h
    exact go_ret hΘ hm hP hn (hs := [⟨3, .callV [(p1.map o3)] (I r4), none⟩, ⟨7, .br true, none⟩]) (rh := []) (ph := .own) (ps := [Meets Try.prog 134 [(AV.ro 1 (p1.map o3)), (AV.fn 109 [(AV.rop (o3 p2) 0), (AV.rop (o3 p3) 0)])] (I r4), litA (I r4) = true, Frz (((p1.map o3).drop 0).take (List.length (p1.map o3))) (p1.map o3), (r4 == (-1)) = true, treeLL ((p1.map o3).take (List.length (p1.map o3))) = true, (p1.map o3).take (List.length (p1.map o3)) = (p1.map o3), noRoLL (p1.map o3) = true]) (by kernel_rfl) ⟨(slices_IndexFunc_int_int_134__impl_gate_1_m hr4), rfl, (frzF t3 z3), c5, (treeT t3), takeM, (noRoM n3), trivial⟩
  · exact go_to hΘ hm hx hP hn (hs := [⟨3, .callV [(p1.map o3)] (I r4), none⟩, ⟨7, .br false, none⟩]) (π := [(0, 1)]) (ts := [0, 1, 5, 6]) (kp := []) (ps := [Meets Try.prog 134 [(AV.ro 1 (p1.map o3)), (AV.fn 109 [(AV.rop (o3 p2) 0), (AV.rop (o3 p3) 0)])] (I r4), litA (I r4) = true, Frz (((p1.map o3).drop 0).take (List.length (p1.map o3))) (p1.map o3), (r4 == (-1)) = false, RenOK [(0, 1)] (p1.map o3)]) (by kernel_rfl) ⟨(slices_IndexFunc_int_int_134__impl_gate_1_m hr4), rfl, (frzF t3 z3), c6, (rok (treeM t3)), trivial⟩ (slices_DeleteFunc_int_int__impl_gate_1_l0_m hP hn hx p1 p2 p3 FU p1 r4 (w64 (r4 + 1)) _ h)
noncomputable def body64 : Code := match Try.f64.body with | some c => c | none => .skip
noncomputable def impl_gate_j2 (K0 : Int → Int → (List GUnder) → (List GUnder) → (List Int) → Bool → (List GUnder) → Int → Option ((List GUnder) × (List GUnder) × (List Int))) (p1 : (List GEvent)) (r4 : (List GUnder)) (v10 : Bool) (v12 : Int) (a18 : Int) (a19 : Int) (a20 : (List GUnder)) (a21 : (List GUnder)) (a22 : (List Int)) (a23 : GUnder) (a24 : (List GUnder)) : Option ((List GUnder) × (List GUnder) × (List Int)) :=
  Option.bind (impl_held p1 a23.Thread a23.At) fun r25 =>
  if v10 = true then
    Option.bind (impl_common r25 r25) fun r27 =>
    K0 a18 a19 a20 a21 r27 false a24 (w64 (v12 + 1))
  else
    Option.bind (impl_common a22 r25) fun r29 =>
    K0 a18 a19 a20 a21 r29 v10 a24 (w64 (v12 + 1))
theorem impl_gate_j2_m {E : Env} (hP : E.P = Try.prog) (hn : E.n = 73) (hx : ∀ p, p ∈ E.fx → p.1 ∈ ([] : List Nat)) (p1 : (List GEvent)) (r4 : (List GUnder)) (v10 : Bool) (v12 : Int) {K0 : Int → Int → (List GUnder) → (List GUnder) → (List Int) → Bool → (List GUnder) → Int → Option ((List GUnder) × (List GUnder) × (List Int))} (hK0 : ∀ (a5 : Int) (a6 : Int) (a7 : (List GUnder)) (a8 : (List GUnder)) (a9 : (List Int)) (v10 : Bool) (a11 : (List GUnder)) (v12 : Int) (r : ((List GUnder) × (List GUnder) × (List Int))), K0 a5 a6 a7 a8 a9 v10 a11 v12 = some r → WAt E body64 (FQ (RetE Θ Try.f64.results.toList [] [] (AV.tup [(AV.own 85 4 (r.1.map o85)), (AV.own 85 4 (r.2.1.map o85)), (AV.own 3 1 (r.2.2.map o3))]) E)) [true, true, false, true, false] ⟨[(0, (AV.ro 5 (p1.map o64))), (4, (AV.ptr 1 0 0)), (5, (AV.ptr 2 0 0)), (9, (AV.sl 3 0 (List.length (a7.map o85)))), (10, (AV.sl 4 0 (List.length (a8.map o85)))), (11, (AV.sl 5 0 (List.length (a9.map o3)))), (12, (B v10)), (20, (AV.sl 6 0 (List.length (a11.map o85)))), (21, (I (r4.length : Int))), (22, (I v12))], [(1, some ⟨3, 1, [[(I a5)]]⟩), (2, some ⟨3, 1, [[(I a6)]]⟩), (3, some ⟨85, 4, (a7.map o85)⟩), (4, some ⟨85, 4, (a8.map o85)⟩), (5, some ⟨3, 1, (a9.map o3)⟩), (6, some ⟨85, 4, (a11.map o85)⟩)], [1, 2, 3, 4, 5, 6, JJ]⟩) (a18 : Int) (a19 : Int) (a20 : (List GUnder)) (a21 : (List GUnder)) (a22 : (List Int)) (a23 : GUnder) (a24 : (List GUnder)) (r : ((List GUnder) × (List GUnder) × (List Int))) (h : impl_gate_j2 K0 p1 r4 v10 v12 a18 a19 a20 a21 a22 a23 a24 = some r) : WAt E body64 (FQ (RetE Θ Try.f64.results.toList [] [] (AV.tup [(AV.own 85 4 (r.1.map o85)), (AV.own 85 4 (r.2.1.map o85)), (AV.own 3 1 (r.2.2.map o3))]) E)) [true, true, false, true, false, false, true, true, false, false, true, true] ⟨[(0, (AV.ro 5 (p1.map o64))), (4, (AV.ptr 1 0 0)), (5, (AV.ptr 2 0 0)), (9, (AV.sl 3 0 (List.length (a20.map o85)))), (10, (AV.sl 4 0 (List.length (a21.map o85)))), (11, (AV.sl 5 0 (List.length (a22.map o3)))), (12, (B v10)), (14, (AV.ptr 6 0 0)), (20, (AV.sl 7 0 (List.length (a24.map o85)))), (21, (I (r4.length : Int))), (22, (I v12))], [(1, some ⟨3, 1, [[(I a18)]]⟩), (2, some ⟨3, 1, [[(I a19)]]⟩), (3, some ⟨85, 4, (a20.map o85)⟩), (4, some ⟨85, 4, (a21.map o85)⟩), (5, some ⟨3, 1, (a22.map o3)⟩), (6, some ⟨85, 4, [((o85 a23))]⟩), (7, some ⟨85, 4, (a24.map o85)⟩)], [1, 2, 3, 4, 5, 6, 7, JJ]⟩ := by
  have hm : E.P.follows .mixedOrders = true := by rw [hP]; exact mixed
  have hΘ : TOK E.P Θ := by rw [hP]; exact Θ_ok
  unfold impl_gate_j2 at h
  obtain ⟨r25, hr25, h⟩ := bnS h
  rcases itS h with ⟨c26, h⟩ | ⟨c28, h⟩
  · obtain ⟨r27, hr27, h⟩ := bnS h
    exact go_to hΘ hm hx hP hn (hs := [⟨5, .call [] (AV.own 3 1 (r25.map o3)) [1001], none⟩, ⟨8, .br true, none⟩, ⟨14, .call [(r25.map o3), (r25.map o3)] (AV.own 3 1 (r27.map o3)) [1002], none⟩]) (π := [(1, 1), (2, 2), (3, 3), (4, 4), (1002, 5), (7, 6)]) (ts := [0, 4, 5, 9, 10, 11, 12, 20, 21, 22]) (kp := []) (ps := [Meets Try.prog 106 [(AV.ro 5 (p1.map o64)), (I a23.Thread), (I a23.At)] (AV.own 3 1 (r25.map o3)), noRo (AV.own 3 1 (r25.map o3)) = true, v10 = true, Meets Try.prog 107 [(AV.ro 1 (r25.map o3)), (AV.ro 1 (r25.map o3))] (AV.own 3 1 (r27.map o3)), noRo (AV.own 3 1 (r27.map o3)) = true, Frz (((r25.map o3).drop 0).take (List.length (r25.map o3))) (r25.map o3), Frz (((r25.map o3).drop 0).take (List.length (r25.map o3))) (r25.map o3), RenOK [(1, 1), (2, 2), (3, 3), (4, 4), (1002, 5), (7, 6)] [[(I a18)]], RenOK [(1, 1), (2, 2), (3, 3), (4, 4), (1002, 5), (7, 6)] [[(I a19)]], RenOK [(1, 1), (2, 2), (3, 3), (4, 4), (1002, 5), (7, 6)] (a20.map o85), RenOK [(1, 1), (2, 2), (3, 3), (4, 4), (1002, 5), (7, 6)] (a21.map o85), RenOK [(1, 1), (2, 2), (3, 3), (4, 4), (1002, 5), (7, 6)] (r27.map o3), RenOK [(1, 1), (2, 2), (3, 3), (4, 4), (1002, 5), (7, 6)] (a24.map o85)]) (by kernel_rfl) ⟨(impl_held_m hr25), (by simp only [noRo, noRoL, noRoM n3, Bool.and_self]), c26, (impl_common_m hr27), (by simp only [noRo, noRoL, noRoM n3, Bool.and_self]), (frzF t3 z3), (frzF t3 z3), (rok rfl), (rok rfl), (rok (treeM t85)), (rok (treeM t85)), (rok (treeM t3)), (rok (treeM t85)), trivial⟩ (hK0 a18 a19 a20 a21 r27 false a24 (w64 (v12 + 1)) _ h)
  · obtain ⟨r29, hr29, h⟩ := bnS h
    exact go_to hΘ hm hx hP hn (hs := [⟨5, .call [] (AV.own 3 1 (r25.map o3)) [1001], none⟩, ⟨8, .br false, none⟩, ⟨11, .call [(a22.map o3), (r25.map o3)] (AV.own 3 1 (r29.map o3)) [1003], none⟩]) (π := [(1, 1), (2, 2), (3, 3), (4, 4), (1003, 5), (7, 6)]) (ts := [0, 4, 5, 9, 10, 11, 12, 20, 21, 22]) (kp := []) (ps := [Meets Try.prog 106 [(AV.ro 5 (p1.map o64)), (I a23.Thread), (I a23.At)] (AV.own 3 1 (r25.map o3)), noRo (AV.own 3 1 (r25.map o3)) = true, v10 = false, Meets Try.prog 107 [(AV.ro 1 (a22.map o3)), (AV.ro 1 (r25.map o3))] (AV.own 3 1 (r29.map o3)), noRo (AV.own 3 1 (r29.map o3)) = true, Frz (((a22.map o3).drop 0).take (List.length (a22.map o3))) (a22.map o3), Frz (((r25.map o3).drop 0).take (List.length (r25.map o3))) (r25.map o3), RenOK [(1, 1), (2, 2), (3, 3), (4, 4), (1003, 5), (7, 6)] [[(I a18)]], RenOK [(1, 1), (2, 2), (3, 3), (4, 4), (1003, 5), (7, 6)] [[(I a19)]], RenOK [(1, 1), (2, 2), (3, 3), (4, 4), (1003, 5), (7, 6)] (a20.map o85), RenOK [(1, 1), (2, 2), (3, 3), (4, 4), (1003, 5), (7, 6)] (a21.map o85), RenOK [(1, 1), (2, 2), (3, 3), (4, 4), (1003, 5), (7, 6)] (r29.map o3), RenOK [(1, 1), (2, 2), (3, 3), (4, 4), (1003, 5), (7, 6)] (a24.map o85)]) (by kernel_rfl) ⟨(impl_held_m hr25), (by simp only [noRo, noRoL, noRoM n3, Bool.and_self]), c28, (impl_common_m hr29), (by simp only [noRo, noRoL, noRoM n3, Bool.and_self]), (frzF t3 z3), (frzF t3 z3), (rok rfl), (rok rfl), (rok (treeM t85)), (rok (treeM t85)), (rok (treeM t3)), (rok (treeM t85)), trivial⟩ (hK0 a18 a19 a20 a21 r29 v10 a24 (w64 (v12 + 1)) _ h)
noncomputable def impl_gate_j1 (K0 : Int → Int → (List GUnder) → (List GUnder) → (List Int) → Bool → (List GUnder) → Int → Option ((List GUnder) × (List GUnder) × (List Int))) (p1 : (List GEvent)) (r4 : (List GUnder)) (a5 : Int) (a6 : Int) (a7 : (List GUnder)) (a8 : (List GUnder)) (a9 : (List Int)) (v10 : Bool) (a11 : (List GUnder)) (v12 : Int) (x14 : GUnder)  : Option ((List GUnder) × (List GUnder) × (List Int)) :=
  Option.bind (app a7 [x14]) fun l17 =>
  impl_gate_j2 K0 p1 r4 v10 v12 a5 a6 l17 a8 a9 x14 a11
theorem impl_gate_j1_m {E : Env} (hP : E.P = Try.prog) (hn : E.n = 73) (hx : ∀ p, p ∈ E.fx → p.1 ∈ ([] : List Nat)) (p1 : (List GEvent)) (r4 : (List GUnder)) (a5 : Int) (a6 : Int) (a7 : (List GUnder)) (a8 : (List GUnder)) (a9 : (List Int)) (v10 : Bool) (a11 : (List GUnder)) (v12 : Int) (x14 : GUnder) {K0 : Int → Int → (List GUnder) → (List GUnder) → (List Int) → Bool → (List GUnder) → Int → Option ((List GUnder) × (List GUnder) × (List Int))} (hK0 : ∀ (a5 : Int) (a6 : Int) (a7 : (List GUnder)) (a8 : (List GUnder)) (a9 : (List Int)) (v10 : Bool) (a11 : (List GUnder)) (v12 : Int) (r : ((List GUnder) × (List GUnder) × (List Int))), K0 a5 a6 a7 a8 a9 v10 a11 v12 = some r → WAt E body64 (FQ (RetE Θ Try.f64.results.toList [] [] (AV.tup [(AV.own 85 4 (r.1.map o85)), (AV.own 85 4 (r.2.1.map o85)), (AV.own 3 1 (r.2.2.map o3))]) E)) [true, true, false, true, false] ⟨[(0, (AV.ro 5 (p1.map o64))), (4, (AV.ptr 1 0 0)), (5, (AV.ptr 2 0 0)), (9, (AV.sl 3 0 (List.length (a7.map o85)))), (10, (AV.sl 4 0 (List.length (a8.map o85)))), (11, (AV.sl 5 0 (List.length (a9.map o3)))), (12, (B v10)), (20, (AV.sl 6 0 (List.length (a11.map o85)))), (21, (I (r4.length : Int))), (22, (I v12))], [(1, some ⟨3, 1, [[(I a5)]]⟩), (2, some ⟨3, 1, [[(I a6)]]⟩), (3, some ⟨85, 4, (a7.map o85)⟩), (4, some ⟨85, 4, (a8.map o85)⟩), (5, some ⟨3, 1, (a9.map o3)⟩), (6, some ⟨85, 4, (a11.map o85)⟩)], [1, 2, 3, 4, 5, 6, JJ]⟩)  (r : ((List GUnder) × (List GUnder) × (List Int))) (h : impl_gate_j1 K0 p1 r4 a5 a6 a7 a8 a9 v10 a11 v12 x14  = some r) : WAt E body64 (FQ (RetE Θ Try.f64.results.toList [] [] (AV.tup [(AV.own 85 4 (r.1.map o85)), (AV.own 85 4 (r.2.1.map o85)), (AV.own 3 1 (r.2.2.map o3))]) E)) [true, true, false, true, false, false, true, true, false, false, true, false, false, true, false] ⟨[(0, (AV.ro 5 (p1.map o64))), (4, (AV.ptr 1 0 0)), (5, (AV.ptr 2 0 0)), (9, (AV.sl 3 0 (List.length (a7.map o85)))), (10, (AV.sl 4 0 (List.length (a8.map o85)))), (11, (AV.sl 5 0 (List.length (a9.map o3)))), (12, (B v10)), (14, (AV.ptr 6 0 0)), (20, (AV.sl 7 0 (List.length (a11.map o85)))), (21, (I (r4.length : Int))), (22, (I v12))], [(1, some ⟨3, 1, [[(I a5)]]⟩), (2, some ⟨3, 1, [[(I a6)]]⟩), (3, some ⟨85, 4, (a7.map o85)⟩), (4, some ⟨85, 4, (a8.map o85)⟩), (5, some ⟨3, 1, (a9.map o3)⟩), (6, some ⟨85, 4, [((o85 x14))]⟩), (7, some ⟨85, 4, (a11.map o85)⟩)], [1, 2, 3, 4, 5, 6, 7, JJ]⟩ := by
  have hm : E.P.follows .mixedOrders = true := by rw [hP]; exact mixed
  have hΘ : TOK E.P Θ := by rw [hP]; exact Θ_ok
  unfold impl_gate_j1 at h
  obtain ⟨l17, hl17, h⟩ := bnS h
  exact go_to hΘ hm hx hP hn (hs := [⟨2, .new 1001, none⟩, ⟨3, .app 1002 (l17.map o85), none⟩]) (π := [(1, 1), (2, 2), (1002, 3), (4, 4), (5, 5), (6, 6), (7, 7)]) (ts := [0, 4, 5, 9, 10, 11, 12, 14, 20, 21, 22]) (kp := []) (ps := [(a7.map o85).take (List.length (a7.map o85)) ++ ((([x14].map o85).drop 0).take (List.length ([x14].map o85))) = (l17.map o85), ((([x14].map o85).drop 0).take (List.length ([x14].map o85))).all (fun r => r.all AV.plain) = true, (List.length (l17.map o85)) * 32 ≤ 140737488355328, (List.length (l17.map o85)) ≤ 140737488355328, RenOK [(1, 1), (2, 2), (1002, 3), (4, 4), (5, 5), (6, 6), (7, 7)] [[(I a5)]], RenOK [(1, 1), (2, 2), (1002, 3), (4, 4), (5, 5), (6, 6), (7, 7)] [[(I a6)]], RenOK [(1, 1), (2, 2), (1002, 3), (4, 4), (5, 5), (6, 6), (7, 7)] (l17.map o85), RenOK [(1, 1), (2, 2), (1002, 3), (4, 4), (5, 5), (6, 6), (7, 7)] (a8.map o85), RenOK [(1, 1), (2, 2), (1002, 3), (4, 4), (5, 5), (6, 6), (7, 7)] (a9.map o3), RenOK [(1, 1), (2, 2), (1002, 3), (4, 4), (5, 5), (6, 6), (7, 7)] [((o85 x14))], RenOK [(1, 1), (2, 2), (1002, 3), (4, 4), (5, 5), (6, 6), (7, 7)] (a11.map o85)]) (by kernel_rfl) ⟨(appTD o85 hl17), (plD pa85), (appB o85 hl17 (by decide)), (appC o85 hl17), (rok rfl), (rok rfl), (rok (treeM t85)), (rok (treeM t85)), (rok (treeM t3)), (rok rfl), (rok (treeM t85)), trivial⟩ (impl_gate_j2_m hP hn hx p1 r4 v10 v12 hK0 a5 a6 l17 a8 a9 x14 a11 _ h)
noncomputable def impl_gate_j4 (K0 : Int → Int → (List GUnder) → (List GUnder) → (List Int) → Bool → (List GUnder) → Int → Option ((List GUnder) × (List GUnder) × (List Int))) (p1 : (List GEvent)) (r4 : (List GUnder)) (v10 : Bool) (v12 : Int) (a31 : Int) (a32 : Int) (a33 : (List GUnder)) (a34 : (List GUnder)) (a35 : (List Int)) (a36 : GUnder) (a37 : (List GUnder))  : Option ((List GUnder) × (List GUnder) × (List Int)) :=
  Option.bind (app a34 [a36]) fun l40 =>
  impl_gate_j2 K0 p1 r4 v10 v12 a31 a32 a33 l40 a35 a36 a37
theorem impl_gate_j4_m {E : Env} (hP : E.P = Try.prog) (hn : E.n = 73) (hx : ∀ p, p ∈ E.fx → p.1 ∈ ([] : List Nat)) (p1 : (List GEvent)) (r4 : (List GUnder)) (v10 : Bool) (v12 : Int) (a31 : Int) (a32 : Int) (a33 : (List GUnder)) (a34 : (List GUnder)) (a35 : (List Int)) (a36 : GUnder) (a37 : (List GUnder)) {K0 : Int → Int → (List GUnder) → (List GUnder) → (List Int) → Bool → (List GUnder) → Int → Option ((List GUnder) × (List GUnder) × (List Int))} (hK0 : ∀ (a5 : Int) (a6 : Int) (a7 : (List GUnder)) (a8 : (List GUnder)) (a9 : (List Int)) (v10 : Bool) (a11 : (List GUnder)) (v12 : Int) (r : ((List GUnder) × (List GUnder) × (List Int))), K0 a5 a6 a7 a8 a9 v10 a11 v12 = some r → WAt E body64 (FQ (RetE Θ Try.f64.results.toList [] [] (AV.tup [(AV.own 85 4 (r.1.map o85)), (AV.own 85 4 (r.2.1.map o85)), (AV.own 3 1 (r.2.2.map o3))]) E)) [true, true, false, true, false] ⟨[(0, (AV.ro 5 (p1.map o64))), (4, (AV.ptr 1 0 0)), (5, (AV.ptr 2 0 0)), (9, (AV.sl 3 0 (List.length (a7.map o85)))), (10, (AV.sl 4 0 (List.length (a8.map o85)))), (11, (AV.sl 5 0 (List.length (a9.map o3)))), (12, (B v10)), (20, (AV.sl 6 0 (List.length (a11.map o85)))), (21, (I (r4.length : Int))), (22, (I v12))], [(1, some ⟨3, 1, [[(I a5)]]⟩), (2, some ⟨3, 1, [[(I a6)]]⟩), (3, some ⟨85, 4, (a7.map o85)⟩), (4, some ⟨85, 4, (a8.map o85)⟩), (5, some ⟨3, 1, (a9.map o3)⟩), (6, some ⟨85, 4, (a11.map o85)⟩)], [1, 2, 3, 4, 5, 6, JJ]⟩)  (r : ((List GUnder) × (List GUnder) × (List Int))) (h : impl_gate_j4 K0 p1 r4 v10 v12 a31 a32 a33 a34 a35 a36 a37  = some r) : WAt E body64 (FQ (RetE Θ Try.f64.results.toList [] [] (AV.tup [(AV.own 85 4 (r.1.map o85)), (AV.own 85 4 (r.2.1.map o85)), (AV.own 3 1 (r.2.2.map o3))]) E)) [true, true, false, true, false, false, true, true, false, false, true, false, false, true, true, true, false] ⟨[(0, (AV.ro 5 (p1.map o64))), (4, (AV.ptr 1 0 0)), (5, (AV.ptr 2 0 0)), (9, (AV.sl 3 0 (List.length (a33.map o85)))), (10, (AV.sl 4 0 (List.length (a34.map o85)))), (11, (AV.sl 5 0 (List.length (a35.map o3)))), (12, (B v10)), (14, (AV.ptr 6 0 0)), (20, (AV.sl 7 0 (List.length (a37.map o85)))), (21, (I (r4.length : Int))), (22, (I v12))], [(1, some ⟨3, 1, [[(I a31)]]⟩), (2, some ⟨3, 1, [[(I a32)]]⟩), (3, some ⟨85, 4, (a33.map o85)⟩), (4, some ⟨85, 4, (a34.map o85)⟩), (5, some ⟨3, 1, (a35.map o3)⟩), (6, some ⟨85, 4, [((o85 a36))]⟩), (7, some ⟨85, 4, (a37.map o85)⟩)], [1, 2, 3, 4, 5, 6, 7, JJ]⟩ := by
  have hm : E.P.follows .mixedOrders = true := by rw [hP]; exact mixed
  have hΘ : TOK E.P Θ := by rw [hP]; exact Θ_ok
  unfold impl_gate_j4 at h
  obtain ⟨l40, hl40, h⟩ := bnS h
  exact go_to hΘ hm hx hP hn (hs := [⟨2, .new 1001, none⟩, ⟨3, .app 1002 (l40.map o85), none⟩]) (π := [(1, 1), (2, 2), (3, 3), (1002, 4), (5, 5), (6, 6), (7, 7)]) (ts := [0, 4, 5, 9, 10, 11, 12, 14, 20, 21, 22]) (kp := []) (ps := [(a34.map o85).take (List.length (a34.map o85)) ++ ((([a36].map o85).drop 0).take (List.length ([a36].map o85))) = (l40.map o85), ((([a36].map o85).drop 0).take (List.length ([a36].map o85))).all (fun r => r.all AV.plain) = true, (List.length (l40.map o85)) * 32 ≤ 140737488355328, (List.length (l40.map o85)) ≤ 140737488355328, RenOK [(1, 1), (2, 2), (3, 3), (1002, 4), (5, 5), (6, 6), (7, 7)] [[(I a31)]], RenOK [(1, 1), (2, 2), (3, 3), (1002, 4), (5, 5), (6, 6), (7, 7)] [[(I a32)]], RenOK [(1, 1), (2, 2), (3, 3), (1002, 4), (5, 5), (6, 6), (7, 7)] (a33.map o85), RenOK [(1, 1), (2, 2), (3, 3), (1002, 4), (5, 5), (6, 6), (7, 7)] (l40.map o85), RenOK [(1, 1), (2, 2), (3, 3), (1002, 4), (5, 5), (6, 6), (7, 7)] (a35.map o3), RenOK [(1, 1), (2, 2), (3, 3), (1002, 4), (5, 5), (6, 6), (7, 7)] [((o85 a36))], RenOK [(1, 1), (2, 2), (3, 3), (1002, 4), (5, 5), (6, 6), (7, 7)] (a37.map o85)]) (by kernel_rfl) ⟨(appTD o85 hl40), (plD pa85), (appB o85 hl40 (by decide)), (appC o85 hl40), (rok rfl), (rok rfl), (rok (treeM t85)), (rok (treeM t85)), (rok (treeM t3)), (rok rfl), (rok (treeM t85)), trivial⟩ (impl_gate_j2_m hP hn hx p1 r4 v10 v12 hK0 a31 a32 a33 l40 a35 a36 a37 _ h)
noncomputable def impl_gate_j3 (K0 : Int → Int → (List GUnder) → (List GUnder) → (List Int) → Bool → (List GUnder) → Int → Option ((List GUnder) × (List GUnder) × (List Int))) (p1 : (List GEvent)) (r4 : (List GUnder)) (v10 : Bool) (v12 : Int) (a31 : Int) (a32 : Int) (a33 : (List GUnder)) (a34 : (List GUnder)) (a35 : (List Int)) (a36 : GUnder) (a37 : (List GUnder)) : Option ((List GUnder) × (List GUnder) × (List Int)) :=
  if (a36.Had == a32) = true then
    if (a36.Taken == a31) = true then
      impl_gate_j4 K0 p1 r4 v10 v12 a31 a32 a33 a34 a35 a36 a37
    else
      K0 a31 a32 a33 a34 a35 v10 a37 (w64 (v12 + 1))
  else
    K0 a31 a32 a33 a34 a35 v10 a37 (w64 (v12 + 1))
theorem impl_gate_j3_m {E : Env} (hP : E.P = Try.prog) (hn : E.n = 73) (hx : ∀ p, p ∈ E.fx → p.1 ∈ ([] : List Nat)) (p1 : (List GEvent)) (r4 : (List GUnder)) (v10 : Bool) (v12 : Int) {K0 : Int → Int → (List GUnder) → (List GUnder) → (List Int) → Bool → (List GUnder) → Int → Option ((List GUnder) × (List GUnder) × (List Int))} (hK0 : ∀ (a5 : Int) (a6 : Int) (a7 : (List GUnder)) (a8 : (List GUnder)) (a9 : (List Int)) (v10 : Bool) (a11 : (List GUnder)) (v12 : Int) (r : ((List GUnder) × (List GUnder) × (List Int))), K0 a5 a6 a7 a8 a9 v10 a11 v12 = some r → WAt E body64 (FQ (RetE Θ Try.f64.results.toList [] [] (AV.tup [(AV.own 85 4 (r.1.map o85)), (AV.own 85 4 (r.2.1.map o85)), (AV.own 3 1 (r.2.2.map o3))]) E)) [true, true, false, true, false] ⟨[(0, (AV.ro 5 (p1.map o64))), (4, (AV.ptr 1 0 0)), (5, (AV.ptr 2 0 0)), (9, (AV.sl 3 0 (List.length (a7.map o85)))), (10, (AV.sl 4 0 (List.length (a8.map o85)))), (11, (AV.sl 5 0 (List.length (a9.map o3)))), (12, (B v10)), (20, (AV.sl 6 0 (List.length (a11.map o85)))), (21, (I (r4.length : Int))), (22, (I v12))], [(1, some ⟨3, 1, [[(I a5)]]⟩), (2, some ⟨3, 1, [[(I a6)]]⟩), (3, some ⟨85, 4, (a7.map o85)⟩), (4, some ⟨85, 4, (a8.map o85)⟩), (5, some ⟨3, 1, (a9.map o3)⟩), (6, some ⟨85, 4, (a11.map o85)⟩)], [1, 2, 3, 4, 5, 6, JJ]⟩) (a31 : Int) (a32 : Int) (a33 : (List GUnder)) (a34 : (List GUnder)) (a35 : (List Int)) (a36 : GUnder) (a37 : (List GUnder)) (r : ((List GUnder) × (List GUnder) × (List Int))) (h : impl_gate_j3 K0 p1 r4 v10 v12 a31 a32 a33 a34 a35 a36 a37 = some r) : WAt E body64 (FQ (RetE Θ Try.f64.results.toList [] [] (AV.tup [(AV.own 85 4 (r.1.map o85)), (AV.own 85 4 (r.2.1.map o85)), (AV.own 3 1 (r.2.2.map o3))]) E)) [true, true, false, true, false, false, true, true, false, false, true, false, false, true, true] ⟨[(0, (AV.ro 5 (p1.map o64))), (4, (AV.ptr 1 0 0)), (5, (AV.ptr 2 0 0)), (9, (AV.sl 3 0 (List.length (a33.map o85)))), (10, (AV.sl 4 0 (List.length (a34.map o85)))), (11, (AV.sl 5 0 (List.length (a35.map o3)))), (12, (B v10)), (14, (AV.ptr 6 0 0)), (20, (AV.sl 7 0 (List.length (a37.map o85)))), (21, (I (r4.length : Int))), (22, (I v12))], [(1, some ⟨3, 1, [[(I a31)]]⟩), (2, some ⟨3, 1, [[(I a32)]]⟩), (3, some ⟨85, 4, (a33.map o85)⟩), (4, some ⟨85, 4, (a34.map o85)⟩), (5, some ⟨3, 1, (a35.map o3)⟩), (6, some ⟨85, 4, [((o85 a36))]⟩), (7, some ⟨85, 4, (a37.map o85)⟩)], [1, 2, 3, 4, 5, 6, 7, JJ]⟩ := by
  have hm : E.P.follows .mixedOrders = true := by rw [hP]; exact mixed
  have hΘ : TOK E.P Θ := by rw [hP]; exact Θ_ok
  unfold impl_gate_j3 at h
  rcases itS h with ⟨c38, h⟩ | ⟨c42, h⟩
  · rcases itS h with ⟨c39, h⟩ | ⟨c41, h⟩
    · exact go_to hΘ hm hx hP hn (hs := [⟨4, .no, some (B true)⟩, ⟨11, .br true, none⟩]) (π := [(1, 1), (2, 2), (3, 3), (4, 4), (5, 5), (6, 6), (7, 7)]) (ts := [0, 4, 5, 9, 10, 11, 12, 14, 20, 21, 22]) (kp := []) (ps := [(B (a36.Had == a32)) = (B true), (a36.Taken == a31) = true, RenOK [(1, 1), (2, 2), (3, 3), (4, 4), (5, 5), (6, 6), (7, 7)] [[(I a31)]], RenOK [(1, 1), (2, 2), (3, 3), (4, 4), (5, 5), (6, 6), (7, 7)] [[(I a32)]], RenOK [(1, 1), (2, 2), (3, 3), (4, 4), (5, 5), (6, 6), (7, 7)] (a33.map o85), RenOK [(1, 1), (2, 2), (3, 3), (4, 4), (5, 5), (6, 6), (7, 7)] (a34.map o85), RenOK [(1, 1), (2, 2), (3, 3), (4, 4), (5, 5), (6, 6), (7, 7)] (a35.map o3), RenOK [(1, 1), (2, 2), (3, 3), (4, 4), (5, 5), (6, 6), (7, 7)] [((o85 a36))], RenOK [(1, 1), (2, 2), (3, 3), (4, 4), (5, 5), (6, 6), (7, 7)] (a37.map o85)]) (by kernel_rfl) ⟨(litB c38), c39, (rok rfl), (rok rfl), (rok (treeM t85)), (rok (treeM t85)), (rok (treeM t3)), (rok rfl), (rok (treeM t85)), trivial⟩ (impl_gate_j4_m hP hn hx p1 r4 v10 v12 a31 a32 a33 a34 a35 a36 a37 hK0  _ h)
    · exact go_to hΘ hm hx hP hn (hs := [⟨4, .no, some (B true)⟩, ⟨11, .br false, none⟩]) (π := [(1, 1), (2, 2), (3, 3), (4, 4), (5, 5), (7, 6)]) (ts := [0, 4, 5, 9, 10, 11, 12, 20, 21, 22]) (kp := []) (ps := [(B (a36.Had == a32)) = (B true), (a36.Taken == a31) = false, RenOK [(1, 1), (2, 2), (3, 3), (4, 4), (5, 5), (7, 6)] [[(I a31)]], RenOK [(1, 1), (2, 2), (3, 3), (4, 4), (5, 5), (7, 6)] [[(I a32)]], RenOK [(1, 1), (2, 2), (3, 3), (4, 4), (5, 5), (7, 6)] (a33.map o85), RenOK [(1, 1), (2, 2), (3, 3), (4, 4), (5, 5), (7, 6)] (a34.map o85), RenOK [(1, 1), (2, 2), (3, 3), (4, 4), (5, 5), (7, 6)] (a35.map o3), RenOK [(1, 1), (2, 2), (3, 3), (4, 4), (5, 5), (7, 6)] (a37.map o85)]) (by kernel_rfl) ⟨(litB c38), c41, (rok rfl), (rok rfl), (rok (treeM t85)), (rok (treeM t85)), (rok (treeM t3)), (rok (treeM t85)), trivial⟩ (hK0 a31 a32 a33 a34 a35 v10 a37 (w64 (v12 + 1)) _ h)
  · exact go_to hΘ hm hx hP hn (hs := [⟨4, .no, some (B false)⟩]) (π := [(1, 1), (2, 2), (3, 3), (4, 4), (5, 5), (7, 6)]) (ts := [0, 4, 5, 9, 10, 11, 12, 20, 21, 22]) (kp := []) (ps := [(B (a36.Had == a32)) = (B false), RenOK [(1, 1), (2, 2), (3, 3), (4, 4), (5, 5), (7, 6)] [[(I a31)]], RenOK [(1, 1), (2, 2), (3, 3), (4, 4), (5, 5), (7, 6)] [[(I a32)]], RenOK [(1, 1), (2, 2), (3, 3), (4, 4), (5, 5), (7, 6)] (a33.map o85), RenOK [(1, 1), (2, 2), (3, 3), (4, 4), (5, 5), (7, 6)] (a34.map o85), RenOK [(1, 1), (2, 2), (3, 3), (4, 4), (5, 5), (7, 6)] (a35.map o3), RenOK [(1, 1), (2, 2), (3, 3), (4, 4), (5, 5), (7, 6)] (a37.map o85)]) (by kernel_rfl) ⟨(litB c42), (rok rfl), (rok rfl), (rok (treeM t85)), (rok (treeM t85)), (rok (treeM t3)), (rok (treeM t85)), trivial⟩ (hK0 a31 a32 a33 a34 a35 v10 a37 (w64 (v12 + 1)) _ h)
noncomputable def impl_gate_l0  (p1 : (List GEvent)) (r4 : (List GUnder)) : Nat → Int → Int → (List GUnder) → (List GUnder) → (List Int) → Bool → (List GUnder) → Int → Option ((List GUnder) × (List GUnder) × (List Int))
  | 0, _, _, _, _, _, _, _, _ => none
  | n + 1, a5, a6, a7, a8, a9, v10, a11, v12 =>
  if (decide (v12 < (r4.length : Int))) = true then
    Option.bind (rd a11 v12) fun x14 =>
    if (x14.Had == a5) = true then
      if (x14.Taken == a6) = true then
        impl_gate_j1 (impl_gate_l0 p1 r4 n) p1 r4 a5 a6 a7 a8 a9 v10 a11 v12 x14
      else
        impl_gate_j3 (impl_gate_l0 p1 r4 n) p1 r4 v10 v12 a5 a6 a7 a8 a9 x14 a11
    else
      impl_gate_j3 (impl_gate_l0 p1 r4 n) p1 r4 v10 v12 a5 a6 a7 a8 a9 x14 a11
  else
    Option.bind (slices_DeleteFunc_int_int__impl_gate_1 a9 a5 a6) fun r45 =>
    some (a7, a8, r45)
theorem impl_gate_l0_m {E : Env} (hP : E.P = Try.prog) (hn : E.n = 73) (hx : ∀ p, p ∈ E.fx → p.1 ∈ ([] : List Nat)) (p1 : (List GEvent)) (r4 : (List GUnder))  : ∀ (n : Nat) (a5 : Int) (a6 : Int) (a7 : (List GUnder)) (a8 : (List GUnder)) (a9 : (List Int)) (v10 : Bool) (a11 : (List GUnder)) (v12 : Int) (r : ((List GUnder) × (List GUnder) × (List Int))), impl_gate_l0 p1 r4 n a5 a6 a7 a8 a9 v10 a11 v12 = some r → WAt E body64 (FQ (RetE Θ Try.f64.results.toList [] [] (AV.tup [(AV.own 85 4 (r.1.map o85)), (AV.own 85 4 (r.2.1.map o85)), (AV.own 3 1 (r.2.2.map o3))]) E)) [true, true, false, true, false] ⟨[(0, (AV.ro 5 (p1.map o64))), (4, (AV.ptr 1 0 0)), (5, (AV.ptr 2 0 0)), (9, (AV.sl 3 0 (List.length (a7.map o85)))), (10, (AV.sl 4 0 (List.length (a8.map o85)))), (11, (AV.sl 5 0 (List.length (a9.map o3)))), (12, (B v10)), (20, (AV.sl 6 0 (List.length (a11.map o85)))), (21, (I (r4.length : Int))), (22, (I v12))], [(1, some ⟨3, 1, [[(I a5)]]⟩), (2, some ⟨3, 1, [[(I a6)]]⟩), (3, some ⟨85, 4, (a7.map o85)⟩), (4, some ⟨85, 4, (a8.map o85)⟩), (5, some ⟨3, 1, (a9.map o3)⟩), (6, some ⟨85, 4, (a11.map o85)⟩)], [1, 2, 3, 4, 5, 6, JJ]⟩ := by
  have hm : E.P.follows .mixedOrders = true := by rw [hP]; exact mixed
  have hΘ : TOK E.P Θ := by rw [hP]; exact Θ_ok
  intro n
  induction n with
  | zero => intro a5 a6 a7 a8 a9 v10 a11 v12 r h; simp only [impl_gate_l0] at h; cases h
  | succ n ih =>
    intro a5 a6 a7 a8 a9 v10 a11 v12 r h
    simp only [impl_gate_l0] at h
    rcases itS h with ⟨c13, h⟩ | ⟨c44, h⟩
    · obtain ⟨x14, hx14, h⟩ := bnS h
      rcases itS h with ⟨c15, h⟩ | ⟨c43, h⟩
      · rcases itS h with ⟨c16, h⟩ | ⟨c30, h⟩
        · exact go_to hΘ hm hx hP hn (hs := [⟨1, .br true, none⟩, ⟨3, .row ((o85 x14)), none⟩, ⟨4, .new 1001, none⟩, ⟨10, .no, some (B true)⟩, ⟨17, .br true, none⟩]) (π := [(1, 1), (2, 2), (3, 3), (4, 4), (5, 5), (1001, 6), (6, 7)]) (ts := [0, 4, 5, 9, 10, 11, 12, 14, 20, 21, 22]) (kp := []) (ps := [(decide (v12 < (r4.length : Int))) = true, (0 : Int) ≤ v12, v12 < (((List.length (a11.map o85)) : Nat) : Int), (a11.map o85)[(Int.toNat v12)]? = some ((o85 x14)), (B (x14.Had == a5)) = (B true), (x14.Taken == a6) = true, RenOK [(1, 1), (2, 2), (3, 3), (4, 4), (5, 5), (1001, 6), (6, 7)] [[(I a5)]], RenOK [(1, 1), (2, 2), (3, 3), (4, 4), (5, 5), (1001, 6), (6, 7)] [[(I a6)]], RenOK [(1, 1), (2, 2), (3, 3), (4, 4), (5, 5), (1001, 6), (6, 7)] (a7.map o85), RenOK [(1, 1), (2, 2), (3, 3), (4, 4), (5, 5), (1001, 6), (6, 7)] (a8.map o85), RenOK [(1, 1), (2, 2), (3, 3), (4, 4), (5, 5), (1001, 6), (6, 7)] (a9.map o3), RenOK [(1, 1), (2, 2), (3, 3), (4, 4), (5, 5), (1001, 6), (6, 7)] [((o85 x14))], RenOK [(1, 1), (2, 2), (3, 3), (4, 4), (5, 5), (1001, 6), (6, 7)] (a11.map o85)]) (by kernel_rfl) ⟨c13, (rd0 hx14), (rdL o85 hx14), (rdM o85 hx14), (litB c15), c16, (rok rfl), (rok rfl), (rok (treeM t85)), (rok (treeM t85)), (rok (treeM t3)), (rok rfl), (rok (treeM t85)), trivial⟩ (impl_gate_j1_m hP hn hx p1 r4 a5 a6 a7 a8 a9 v10 a11 v12 x14 ih  _ h)
        · exact go_to hΘ hm hx hP hn (hs := [⟨1, .br true, none⟩, ⟨3, .row ((o85 x14)), none⟩, ⟨4, .new 1001, none⟩, ⟨10, .no, some (B true)⟩, ⟨17, .br false, none⟩]) (π := [(1, 1), (2, 2), (3, 3), (4, 4), (5, 5), (1001, 6), (6, 7)]) (ts := [0, 4, 5, 9, 10, 11, 12, 14, 20, 21, 22]) (kp := []) (ps := [(decide (v12 < (r4.length : Int))) = true, (0 : Int) ≤ v12, v12 < (((List.length (a11.map o85)) : Nat) : Int), (a11.map o85)[(Int.toNat v12)]? = some ((o85 x14)), (B (x14.Had == a5)) = (B true), (x14.Taken == a6) = false, RenOK [(1, 1), (2, 2), (3, 3), (4, 4), (5, 5), (1001, 6), (6, 7)] [[(I a5)]], RenOK [(1, 1), (2, 2), (3, 3), (4, 4), (5, 5), (1001, 6), (6, 7)] [[(I a6)]], RenOK [(1, 1), (2, 2), (3, 3), (4, 4), (5, 5), (1001, 6), (6, 7)] (a7.map o85), RenOK [(1, 1), (2, 2), (3, 3), (4, 4), (5, 5), (1001, 6), (6, 7)] (a8.map o85), RenOK [(1, 1), (2, 2), (3, 3), (4, 4), (5, 5), (1001, 6), (6, 7)] (a9.map o3), RenOK [(1, 1), (2, 2), (3, 3), (4, 4), (5, 5), (1001, 6), (6, 7)] [((o85 x14))], RenOK [(1, 1), (2, 2), (3, 3), (4, 4), (5, 5), (1001, 6), (6, 7)] (a11.map o85)]) (by kernel_rfl) ⟨c13, (rd0 hx14), (rdL o85 hx14), (rdM o85 hx14), (litB c15), c30, (rok rfl), (rok rfl), (rok (treeM t85)), (rok (treeM t85)), (rok (treeM t3)), (rok rfl), (rok (treeM t85)), trivial⟩ (impl_gate_j3_m hP hn hx p1 r4 v10 v12 ih a5 a6 a7 a8 a9 x14 a11 _ h)
      · exact go_to hΘ hm hx hP hn (hs := [⟨1, .br true, none⟩, ⟨3, .row ((o85 x14)), none⟩, ⟨4, .new 1001, none⟩, ⟨10, .no, some (B false)⟩]) (π := [(1, 1), (2, 2), (3, 3), (4, 4), (5, 5), (1001, 6), (6, 7)]) (ts := [0, 4, 5, 9, 10, 11, 12, 14, 20, 21, 22]) (kp := []) (ps := [(decide (v12 < (r4.length : Int))) = true, (0 : Int) ≤ v12, v12 < (((List.length (a11.map o85)) : Nat) : Int), (a11.map o85)[(Int.toNat v12)]? = some ((o85 x14)), (B (x14.Had == a5)) = (B false), RenOK [(1, 1), (2, 2), (3, 3), (4, 4), (5, 5), (1001, 6), (6, 7)] [[(I a5)]], RenOK [(1, 1), (2, 2), (3, 3), (4, 4), (5, 5), (1001, 6), (6, 7)] [[(I a6)]], RenOK [(1, 1), (2, 2), (3, 3), (4, 4), (5, 5), (1001, 6), (6, 7)] (a7.map o85), RenOK [(1, 1), (2, 2), (3, 3), (4, 4), (5, 5), (1001, 6), (6, 7)] (a8.map o85), RenOK [(1, 1), (2, 2), (3, 3), (4, 4), (5, 5), (1001, 6), (6, 7)] (a9.map o3), RenOK [(1, 1), (2, 2), (3, 3), (4, 4), (5, 5), (1001, 6), (6, 7)] [((o85 x14))], RenOK [(1, 1), (2, 2), (3, 3), (4, 4), (5, 5), (1001, 6), (6, 7)] (a11.map o85)]) (by kernel_rfl) ⟨c13, (rd0 hx14), (rdL o85 hx14), (rdM o85 hx14), (litB c43), (rok rfl), (rok rfl), (rok (treeM t85)), (rok (treeM t85)), (rok (treeM t3)), (rok rfl), (rok (treeM t85)), trivial⟩ (impl_gate_j3_m hP hn hx p1 r4 v10 v12 ih a5 a6 a7 a8 a9 x14 a11 _ h)
    · obtain ⟨r45, hr45, h⟩ := bnS h
      have h := Option.some.inj h
      subst h
      exact go_ret hΘ hm hP hn (hs := [⟨1, .br false, none⟩, ⟨6, .callX [5] [false] [⟨3, 1, (a9.map o3)⟩] [⟨3, 1, (a9.map o3)⟩] [[], []] (AV.own 3 1 (r45.map o3)) [1003] (AV.sl 1003 0 (List.length (r45.map o3))) [(1003, ⟨3, 1, (r45.map o3)⟩)], none⟩]) (rh := []) (ph := .agg [.own, .own, .own]) (ps := [(decide (v12 < (r4.length : Int))) = false, MeetsR Try.prog 108 [⟨3, 1, (a9.map o3)⟩] [(AV.sl 0 0 (List.length (a9.map o3))), (AV.fn 109 [(AV.rop (o3 a5) 0), (AV.rop (o3 a6) 0)])] [false] [⟨3, 1, (a9.map o3)⟩] (AV.own 3 1 (r45.map o3)), (some (Root.mk 3 1 (a9.map o3)) = some (Root.mk 3 1 (a9.map o3))) ∧ True, (treeLL (a9.map o3) = true ∧ noRoLL (a9.map o3) = true) ∧ True, ((a9.map o3).length = (a9.map o3).length) ∧ True, (rtf (renA [] (AV.own 3 1 (r45.map o3))) [1003]).1 = (AV.sl 1003 0 (List.length (r45.map o3))), (rtf (renA [] (AV.own 3 1 (r45.map o3))) [1003]).2.1 = [(1003, ⟨3, 1, (r45.map o3)⟩)], treeLL ((a7.map o85).take (List.length (a7.map o85))) = true, (a7.map o85).take (List.length (a7.map o85)) = (a7.map o85), noRoLL (a7.map o85) = true, treeLL ((a8.map o85).take (List.length (a8.map o85))) = true, (a8.map o85).take (List.length (a8.map o85)) = (a8.map o85), noRoLL (a8.map o85) = true, treeLL ((r45.map o3).take (List.length (r45.map o3))) = true, (r45.map o3).take (List.length (r45.map o3)) = (r45.map o3), noRoLL (r45.map o3) = true]) (by kernel_rfl) ⟨c44, (slices_DeleteFunc_int_int__impl_gate_1_m hr45), ⟨rfl, trivial⟩, ⟨⟨treeM t3, noRoM n3⟩, trivial⟩, ⟨rfl, trivial⟩, rfl, rfl, (treeT t85), takeM, (noRoM n85), (treeT t85), takeM, (noRoM n85), (treeT t3), takeM, (noRoM n3), trivial⟩
noncomputable def impl_gate (p1 : (List GEvent)) (p2 : Int) (p3 : Int) : Option ((List GUnder) × (List GUnder) × (List Int)) :=
  Option.bind (impl_unders p1) fun r4 =>
  impl_gate_l0 p1 r4 FU p2 p3 [] [] [] true r4 0
theorem impl_gate_m {p1 : (List GEvent)} {p2 : Int} {p3 : Int} {r : ((List GUnder) × (List GUnder) × (List Int))} (h : impl_gate p1 p2 p3 = some r) : Meets Try.prog 64 [(AV.ro 5 (p1.map o64)), (I p2), (I p3)] (AV.tup [(AV.own 85 4 (r.1.map o85)), (AV.own 85 4 (r.2.1.map o85)), (AV.own 3 1 (r.2.2.map o3))]) := by
  refine meets_ofC Θ_ok Try.func64 rfl (c := body64) (by kernel_rfl) (Nat.le_of_ble_eq_true rfl) ?_
  intro E hP hn hx
  replace hn : E.n = 73 := hn
  have hm : E.P.follows .mixedOrders = true := by rw [hP]; exact mixed
  have hΘ : TOK E.P Θ := by rw [hP]; exact Θ_ok
  unfold impl_gate at h
  show WAt E body64 (FQ (RetE Θ Try.f64.results.toList [] [] (AV.tup [(AV.own 85 4 (r.1.map o85)), (AV.own 85 4 (r.2.1.map o85)), (AV.own 3 1 (r.2.2.map o3))]) E)) [] ⟨[(0, (AV.ro 5 (p1.map o64))), (1, (I p2)), (2, (I p3))], [], [JJ]⟩
  obtain ⟨r4, hr4, h⟩ := bnS h
  exact go_to hΘ hm hx hP hn (hs := [⟨0, .new 1001, none⟩, ⟨1, .new 1002, none⟩, ⟨5, .new 1003, none⟩, ⟨6, .new 1004, none⟩, ⟨7, .new 1005, none⟩, ⟨13, .call [] (AV.own 85 4 (r4.map o85)) [1006], none⟩, ⟨14, .no, some (I (r4.length : Int))⟩]) (π := [(1001, 1), (1002, 2), (1003, 3), (1004, 4), (1005, 5), (1006, 6)]) (ts := [0, 4, 5, 9, 10, 11, 12, 20, 21, 22]) (kp := []) (ps := [Meets Try.prog 88 [(AV.ro 5 (p1.map o64))] (AV.own 85 4 (r4.map o85)), noRo (AV.own 85 4 (r4.map o85)) = true, AV.lit (.int .i64 (((List.length (r4.map o85)) : Nat) : Int)) = (I (r4.length : Int)), RenOK [(1001, 1), (1002, 2), (1003, 3), (1004, 4), (1005, 5), (1006, 6)] [[(I p2)]], RenOK [(1001, 1), (1002, 2), (1003, 3), (1004, 4), (1005, 5), (1006, 6)] [[(I p3)]], RenOK [(1001, 1), (1002, 2), (1003, 3), (1004, 4), (1005, 5), (1006, 6)] ([].map o85), RenOK [(1001, 1), (1002, 2), (1003, 3), (1004, 4), (1005, 5), (1006, 6)] ([].map o85), RenOK [(1001, 1), (1002, 2), (1003, 3), (1004, 4), (1005, 5), (1006, 6)] ([].map o3), RenOK [(1001, 1), (1002, 2), (1003, 3), (1004, 4), (1005, 5), (1006, 6)] (r4.map o85)]) (by kernel_rfl) ⟨(impl_unders_m hr4), (by simp only [noRo, noRoL, noRoM n85, Bool.and_self]), (lenM o85), (rok rfl), (rok rfl), (rok (treeM t85)), (rok (treeM t85)), (rok (treeM t3)), (rok (treeM t85)), trivial⟩ (impl_gate_l0_m hP hn hx p1 r4 FU p2 p3 [] [] [] true r4 0 _ h)
noncomputable def body135 : Code := match Try.f135.body with | some c => c | none => .skip
noncomputable def cmp_isNaN_int (p1 : Int) : Option Bool :=
  some (p1 != p1)
theorem cmp_isNaN_int_m {p1 : Int} {r : Bool} (h : cmp_isNaN_int p1 = some r) : Meets Try.prog 135 [(I p1)] (B r) := by
  refine meets_ofC Θ_ok Try.func135 rfl (c := body135) (by kernel_rfl) (Nat.le_of_ble_eq_true rfl) ?_
  intro E hP hn hx
  replace hn : E.n = 6 := hn
  have hm : E.P.follows .mixedOrders = true := by rw [hP]; exact mixed
  have hΘ : TOK E.P Θ := by rw [hP]; exact Θ_ok
  unfold cmp_isNaN_int at h
  show WAt E body135 (FQ (RetE Θ Try.f135.results.toList [] [] (B r) E)) [] ⟨[(0, (I p1))], [], [JJ]⟩
  have h := Option.some.inj h
  subst h
  exact go_ret hΘ hm hP hn (hs := []) (rh := []) (ph := .raw) (ps := [(B (p1 != p1)) = (B (p1 != p1)), litA (B (p1 != p1)) = true]) (by kernel_rfl) ⟨rfl, rfl, trivial⟩
noncomputable def body113 : Code := match Try.f113.body with | some c => c | none => .skip
noncomputable def cmp_Compare_int (p1 : Int) (p2 : Int) : Option Int :=
  Option.bind (cmp_isNaN_int p1) fun r3 =>
  Option.bind (cmp_isNaN_int p2) fun r4 =>
  if r3 = true then
    if r4 = true then
      some 0
    else
      some (-1)
  else
    if r4 = true then
      some 1
    else
      if (decide (p1 < p2)) = true then
        some (-1)
      else
        if (decide (p1 > p2)) = true then
          some 1
        else
          some 0
theorem cmp_Compare_int_m {p1 : Int} {p2 : Int} {r : Int} (h : cmp_Compare_int p1 p2 = some r) : Meets Try.prog 113 [(I p1), (I p2)] (I r) := by
  refine meets_ofC Θ_ok Try.func113 rfl (c := body113) (by kernel_rfl) (Nat.le_of_ble_eq_true rfl) ?_
  intro E hP hn hx
  replace hn : E.n = 20 := hn
  have hm : E.P.follows .mixedOrders = true := by rw [hP]; exact mixed
  have hΘ : TOK E.P Θ := by rw [hP]; exact Θ_ok
  unfold cmp_Compare_int at h
  show WAt E body113 (FQ (RetE Θ Try.f113.results.toList [] [] (I r) E)) [] ⟨[(0, (I p1)), (1, (I p2))], [], [JJ]⟩
  obtain ⟨r3, hr3, h⟩ := bnS h
  obtain ⟨r4, hr4, h⟩ := bnS h
  rcases itS h with ⟨c5, h⟩ | ⟨c8, h⟩
  · rcases itS h with ⟨c6, h⟩ | ⟨c7, h⟩
    · have h := Option.some.inj h
      subst h
      exact go_ret hΘ hm hP hn (hs := [⟨2, .callV [] (B r3), none⟩, ⟨5, .callV [] (B r4), none⟩, ⟨8, .br true, none⟩, ⟨10, .br true, none⟩]) (rh := []) (ph := .raw) (ps := [Meets Try.prog 135 [(I p1)] (B r3), litA (B r3) = true, Meets Try.prog 135 [(I p2)] (B r4), litA (B r4) = true, r3 = true, r4 = true, (I 0) = (I 0), litA (I 0) = true]) (by kernel_rfl) ⟨(cmp_isNaN_int_m hr3), rfl, (cmp_isNaN_int_m hr4), rfl, c5, c6, rfl, rfl, trivial⟩
    · have h := Option.some.inj h
      subst h
      exact go_ret hΘ hm hP hn (hs := [⟨2, .callV [] (B r3), none⟩, ⟨5, .callV [] (B r4), none⟩, ⟨8, .br true, none⟩, ⟨10, .br false, none⟩]) (rh := []) (ph := .raw) (ps := [Meets Try.prog 135 [(I p1)] (B r3), litA (B r3) = true, Meets Try.prog 135 [(I p2)] (B r4), litA (B r4) = true, r3 = true, r4 = false, (I (-1)) = (I (-1)), litA (I (-1)) = true]) (by kernel_rfl) ⟨(cmp_isNaN_int_m hr3), rfl, (cmp_isNaN_int_m hr4), rfl, c5, c7, rfl, rfl, trivial⟩
  · rcases itS h with ⟨c9, h⟩ | ⟨c10, h⟩
    · have h := Option.some.inj h
      subst h
      exact go_ret hΘ hm hP hn (hs := [⟨2, .callV [] (B r3), none⟩, ⟨5, .callV [] (B r4), none⟩, ⟨8, .br false, none⟩, ⟨10, .br true, none⟩]) (rh := []) (ph := .raw) (ps := [Meets Try.prog 135 [(I p1)] (B r3), litA (B r3) = true, Meets Try.prog 135 [(I p2)] (B r4), litA (B r4) = true, r3 = false, r4 = true, (I 1) = (I 1), litA (I 1) = true]) (by kernel_rfl) ⟨(cmp_isNaN_int_m hr3), rfl, (cmp_isNaN_int_m hr4), rfl, c8, c9, rfl, rfl, trivial⟩
    · rcases itS h with ⟨c11, h⟩ | ⟨c12, h⟩
      · have h := Option.some.inj h
        subst h
        exact go_ret hΘ hm hP hn (hs := [⟨2, .callV [] (B r3), none⟩, ⟨5, .callV [] (B r4), none⟩, ⟨8, .br false, none⟩, ⟨10, .br false, none⟩, ⟨14, .br true, none⟩]) (rh := []) (ph := .raw) (ps := [Meets Try.prog 135 [(I p1)] (B r3), litA (B r3) = true, Meets Try.prog 135 [(I p2)] (B r4), litA (B r4) = true, r3 = false, r4 = false, (decide (p1 < p2)) = true, (I (-1)) = (I (-1)), litA (I (-1)) = true]) (by kernel_rfl) ⟨(cmp_isNaN_int_m hr3), rfl, (cmp_isNaN_int_m hr4), rfl, c8, c10, c11, rfl, rfl, trivial⟩
      · rcases itS h with ⟨c13, h⟩ | ⟨c14, h⟩
        · have h := Option.some.inj h
          subst h
          exact go_ret hΘ hm hP hn (hs := [⟨2, .callV [] (B r3), none⟩, ⟨5, .callV [] (B r4), none⟩, ⟨8, .br false, none⟩, ⟨10, .br false, none⟩, ⟨14, .br false, none⟩, ⟨18, .br true, none⟩]) (rh := []) (ph := .raw) (ps := [Meets Try.prog 135 [(I p1)] (B r3), litA (B r3) = true, Meets Try.prog 135 [(I p2)] (B r4), litA (B r4) = true, r3 = false, r4 = false, (decide (p1 < p2)) = false, (decide (p1 > p2)) = true, (I 1) = (I 1), litA (I 1) = true]) (by kernel_rfl) ⟨(cmp_isNaN_int_m hr3), rfl, (cmp_isNaN_int_m hr4), rfl, c8, c10, c12, c13, rfl, rfl, trivial⟩
        · have h := Option.some.inj h
          subst h
          exact go_ret hΘ hm hP hn (hs := [⟨2, .callV [] (B r3), none⟩, ⟨5, .callV [] (B r4), none⟩, ⟨8, .br false, none⟩, ⟨10, .br false, none⟩, ⟨14, .br false, none⟩, ⟨18, .br false, none⟩]) (rh := []) (ph := .raw) (ps := [Meets Try.prog 135 [(I p1)] (B r3), litA (B r3) = true, Meets Try.prog 135 [(I p2)] (B r4), litA (B r4) = true, r3 = false, r4 = false, (decide (p1 < p2)) = false, (decide (p1 > p2)) = false, (I 0) = (I 0), litA (I 0) = true]) (by kernel_rfl) ⟨(cmp_isNaN_int_m hr3), rfl, (cmp_isNaN_int_m hr4), rfl, c8, c10, c12, c14, rfl, rfl, trivial⟩
noncomputable def body97 : Code := match Try.f97.body with | some c => c | none => .skip
noncomputable def slices_Compare_int_int_l0  (p1 : (List Int)) (p2 : (List Int)) : Nat → Int → Option Int
  | 0, _ => none
  | n + 1, v3 =>
  if (decide (v3 < (p1.length : Int))) = true then
    Option.bind (rd p1 v3) fun x5 =>
    if (decide (v3 ≥ (p2.length : Int))) = true then
      some 1
    else
      Option.bind (rd p2 v3) fun x8 =>
      Option.bind (cmp_Compare_int x5 x8) fun r9 =>
      if (r9 != 0) = true then
        some r9
      else
        slices_Compare_int_int_l0 p1 p2 n (w64 (v3 + 1))
  else
    if (decide ((p1.length : Int) < (p2.length : Int))) = true then
      some (-1)
    else
      some 0
theorem slices_Compare_int_int_l0_m {E : Env} (hP : E.P = Try.prog) (hn : E.n = 36) (hx : ∀ p, p ∈ E.fx → p.1 ∈ ([] : List Nat)) (p1 : (List Int)) (p2 : (List Int))  : ∀ (n : Nat) (v3 : Int) (r : Int), slices_Compare_int_int_l0 p1 p2 n v3 = some r → WAt E body97 (FQ (RetE Θ Try.f97.results.toList [] [] (I r) E)) [true, false, true, false] ⟨[(0, (AV.ro 1 (p1.map o3))), (1, (AV.ro 1 (p2.map o3))), (9, (AV.ro 1 (p1.map o3))), (10, (I (p1.length : Int))), (11, (I v3))], [], [JJ]⟩ := by
  have hm : E.P.follows .mixedOrders = true := by rw [hP]; exact mixed
  have hΘ : TOK E.P Θ := by rw [hP]; exact Θ_ok
  intro n
  induction n with
  | zero => intro v3 r h; simp only [slices_Compare_int_int_l0] at h; cases h
  | succ n ih =>
    intro v3 r h
    simp only [slices_Compare_int_int_l0] at h
    rcases itS h with ⟨c4, h⟩ | ⟨c12, h⟩
    · obtain ⟨x5, hx5, h⟩ := bnS h
      rcases itS h with ⟨c6, h⟩ | ⟨c7, h⟩
      · have h := Option.some.inj h
        subst h
        exact go_ret hΘ hm hP hn (hs := [⟨1, .br true, none⟩, ⟨3, .row (o3 x5), none⟩, ⟨9, .no, some (I (p2.length : Int))⟩, ⟨11, .br true, none⟩]) (rh := []) (ph := .raw) (ps := [(decide (v3 < (p1.length : Int))) = true, (0 : Int) ≤ v3, (p1.map o3)[(Int.toNat v3)]? = some (o3 x5), AV.lit (.int .i64 (((p2.map o3).length : Nat) : Int)) = (I (p2.length : Int)), (decide (v3 ≥ (p2.length : Int))) = true, (I 1) = (I 1), litA (I 1) = true]) (by kernel_rfl) ⟨c4, (rd0 hx5), (rdM o3 hx5), (lenM o3), c6, rfl, rfl, trivial⟩
      · obtain ⟨x8, hx8, h⟩ := bnS h
        obtain ⟨r9, hr9, h⟩ := bnS h
        rcases itS h with ⟨c10, h⟩ | ⟨c11, h⟩
        · have h := Option.some.inj h
          subst h
          exact go_ret hΘ hm hP hn (hs := [⟨1, .br true, none⟩, ⟨3, .row (o3 x5), none⟩, ⟨9, .no, some (I (p2.length : Int))⟩, ⟨11, .br false, none⟩, ⟨14, .row (o3 x8), none⟩, ⟨19, .callV [] (I r9), none⟩, ⟨23, .br true, none⟩]) (rh := []) (ph := .raw) (ps := [(decide (v3 < (p1.length : Int))) = true, (0 : Int) ≤ v3, (p1.map o3)[(Int.toNat v3)]? = some (o3 x5), AV.lit (.int .i64 (((p2.map o3).length : Nat) : Int)) = (I (p2.length : Int)), (decide (v3 ≥ (p2.length : Int))) = false, (0 : Int) ≤ v3, (p2.map o3)[(Int.toNat v3)]? = some (o3 x8), Meets Try.prog 113 [(I x5), (I x8)] (I r9), litA (I r9) = true, (r9 != 0) = true, (I r9) = (I r9), litA (I r9) = true]) (by kernel_rfl) ⟨c4, (rd0 hx5), (rdM o3 hx5), (lenM o3), c7, (rd0 hx8), (rdM o3 hx8), (cmp_Compare_int_m hr9), rfl, c10, rfl, rfl, trivial⟩
        · exact go_to hΘ hm hx hP hn (hs := [⟨1, .br true, none⟩, ⟨3, .row (o3 x5), none⟩, ⟨9, .no, some (I (p2.length : Int))⟩, ⟨11, .br false, none⟩, ⟨14, .row (o3 x8), none⟩, ⟨19, .callV [] (I r9), none⟩, ⟨23, .br false, none⟩]) (π := []) (ts := [0, 1, 9, 10, 11]) (kp := []) (ps := [(decide (v3 < (p1.length : Int))) = true, (0 : Int) ≤ v3, (p1.map o3)[(Int.toNat v3)]? = some (o3 x5), AV.lit (.int .i64 (((p2.map o3).length : Nat) : Int)) = (I (p2.length : Int)), (decide (v3 ≥ (p2.length : Int))) = false, (0 : Int) ≤ v3, (p2.map o3)[(Int.toNat v3)]? = some (o3 x8), Meets Try.prog 113 [(I x5), (I x8)] (I r9), litA (I r9) = true, (r9 != 0) = false]) (by kernel_rfl) ⟨c4, (rd0 hx5), (rdM o3 hx5), (lenM o3), c7, (rd0 hx8), (rdM o3 hx8), (cmp_Compare_int_m hr9), rfl, c11, trivial⟩ (ih (w64 (v3 + 1)) _ h)
    · rcases itS h with ⟨c13, h⟩ | ⟨c14, h⟩
      · have h := Option.some.inj h
        subst h
        exact go_ret hΘ hm hP hn (hs := [⟨1, .br false, none⟩, ⟨3, .no, some (I (p1.length : Int))⟩, ⟨5, .no, some (I (p2.length : Int))⟩, ⟨7, .br true, none⟩]) (rh := []) (ph := .raw) (ps := [(decide (v3 < (p1.length : Int))) = false, AV.lit (.int .i64 (((p1.map o3).length : Nat) : Int)) = (I (p1.length : Int)), AV.lit (.int .i64 (((p2.map o3).length : Nat) : Int)) = (I (p2.length : Int)), (decide ((p1.length : Int) < (p2.length : Int))) = true, (I (-1)) = (I (-1)), litA (I (-1)) = true]) (by kernel_rfl) ⟨c12, (lenM o3), (lenM o3), c13, rfl, rfl, trivial⟩
      · have h := Option.some.inj h
        subst h
        exact go_ret hΘ hm hP hn (hs := [⟨1, .br false, none⟩, ⟨3, .no, some (I (p1.length : Int))⟩, ⟨5, .no, some (I (p2.length : Int))⟩, ⟨7, .br false, none⟩]) (rh := []) (ph := .raw) (ps := [(decide (v3 < (p1.length : Int))) = false, AV.lit (.int .i64 (((p1.map o3).length : Nat) : Int)) = (I (p1.length : Int)), AV.lit (.int .i64 (((p2.map o3).length : Nat) : Int)) = (I (p2.length : Int)), (decide ((p1.length : Int) < (p2.length : Int))) = false, (I 0) = (I 0), litA (I 0) = true]) (by kernel_rfl) ⟨c12, (lenM o3), (lenM o3), c14, rfl, rfl, trivial⟩
noncomputable def slices_Compare_int_int (p1 : (List Int)) (p2 : (List Int)) : Option Int :=
  slices_Compare_int_int_l0 p1 p2 FU 0
theorem slices_Compare_int_int_m {p1 : (List Int)} {p2 : (List Int)} {r : Int} (h : slices_Compare_int_int p1 p2 = some r) : Meets Try.prog 97 [(AV.ro 1 (p1.map o3)), (AV.ro 1 (p2.map o3))] (I r) := by
  refine meets_ofC Θ_ok Try.func97 rfl (c := body97) (by kernel_rfl) (Nat.le_of_ble_eq_true rfl) ?_
  intro E hP hn hx
  replace hn : E.n = 36 := hn
  have hm : E.P.follows .mixedOrders = true := by rw [hP]; exact mixed
  have hΘ : TOK E.P Θ := by rw [hP]; exact Θ_ok
  unfold slices_Compare_int_int at h
  show WAt E body97 (FQ (RetE Θ Try.f97.results.toList [] [] (I r) E)) [] ⟨[(0, (AV.ro 1 (p1.map o3))), (1, (AV.ro 1 (p2.map o3)))], [], [JJ]⟩
  exact go_to hΘ hm hx hP hn (hs := [⟨2, .no, some (I (p1.length : Int))⟩]) (π := []) (ts := [0, 1, 9, 10, 11]) (kp := []) (ps := [AV.lit (.int .i64 (((p1.map o3).length : Nat) : Int)) = (I (p1.length : Int))]) (by kernel_rfl) ⟨(lenM o3), trivial⟩ (slices_Compare_int_int_l0_m hP hn hx p1 p2 FU 0 _ h)
noncomputable def body59 : Code := match Try.f59.body with | some c => c | none => .skip
noncomputable def slices_Equal_int_int_l0  (p1 : (List Int)) (p2 : (List Int)) : Nat → Int → Option Bool
  | 0, _ => none
  | n + 1, v5 =>
  if (decide (v5 < (p1.length : Int))) = true then
    Option.bind (rd p1 v5) fun x7 =>
    Option.bind (rd p2 v5) fun x8 =>
    if (x7 != x8) = true then
      some false
    else
      slices_Equal_int_int_l0 p1 p2 n (w64 (v5 + 1))
  else
    some true
theorem slices_Equal_int_int_l0_m {E : Env} (hP : E.P = Try.prog) (hn : E.n = 26) (hx : ∀ p, p ∈ E.fx → p.1 ∈ ([] : List Nat)) (p1 : (List Int)) (p2 : (List Int))  : ∀ (n : Nat) (v5 : Int) (r : Bool), slices_Equal_int_int_l0 p1 p2 n v5 = some r → WAt E body59 (FQ (RetE Θ Try.f59.results.toList [] [] (B r) E)) [true, true, false, true, false] ⟨[(0, (AV.ro 1 (p1.map o3))), (1, (AV.ro 1 (p2.map o3))), (12, (I (p1.length : Int))), (13, (I v5))], [], [JJ]⟩ := by
  have hm : E.P.follows .mixedOrders = true := by rw [hP]; exact mixed
  have hΘ : TOK E.P Θ := by rw [hP]; exact Θ_ok
  intro n
  induction n with
  | zero => intro v5 r h; simp only [slices_Equal_int_int_l0] at h; cases h
  | succ n ih =>
    intro v5 r h
    simp only [slices_Equal_int_int_l0] at h
    rcases itS h with ⟨c6, h⟩ | ⟨c11, h⟩
    · obtain ⟨x7, hx7, h⟩ := bnS h
      obtain ⟨x8, hx8, h⟩ := bnS h
      rcases itS h with ⟨c9, h⟩ | ⟨c10, h⟩
      · have h := Option.some.inj h
        subst h
        exact go_ret hΘ hm hP hn (hs := [⟨1, .br true, none⟩, ⟨6, .row (o3 x7), none⟩, ⟨10, .row (o3 x8), none⟩, ⟨13, .br true, none⟩]) (rh := []) (ph := .raw) (ps := [(decide (v5 < (p1.length : Int))) = true, (0 : Int) ≤ v5, (p1.map o3)[(Int.toNat v5)]? = some (o3 x7), (0 : Int) ≤ v5, (p2.map o3)[(Int.toNat v5)]? = some (o3 x8), (x7 != x8) = true, (B false) = (B false), litA (B false) = true]) (by kernel_rfl) ⟨c6, (rd0 hx7), (rdM o3 hx7), (rd0 hx8), (rdM o3 hx8), c9, rfl, rfl, trivial⟩
      · exact go_to hΘ hm hx hP hn (hs := [⟨1, .br true, none⟩, ⟨6, .row (o3 x7), none⟩, ⟨10, .row (o3 x8), none⟩, ⟨13, .br false, none⟩]) (π := []) (ts := [0, 1, 12, 13]) (kp := []) (ps := [(decide (v5 < (p1.length : Int))) = true, (0 : Int) ≤ v5, (p1.map o3)[(Int.toNat v5)]? = some (o3 x7), (0 : Int) ≤ v5, (p2.map o3)[(Int.toNat v5)]? = some (o3 x8), (x7 != x8) = false]) (by kernel_rfl) ⟨c6, (rd0 hx7), (rdM o3 hx7), (rd0 hx8), (rdM o3 hx8), c10, trivial⟩ (ih (w64 (v5 + 1)) _ h)
    · have h := Option.some.inj h
      subst h
      exact go_ret hΘ hm hP hn (hs := [⟨1, .br false, none⟩]) (rh := []) (ph := .raw) (ps := [(decide (v5 < (p1.length : Int))) = false, (B true) = (B true), litA (B true) = true]) (by kernel_rfl) ⟨c11, rfl, rfl, trivial⟩
noncomputable def slices_Equal_int_int (p1 : (List Int)) (p2 : (List Int)) : Option Bool :=
  if ((p1.length : Int) != (p2.length : Int)) = true then
    some false
  else
    slices_Equal_int_int_l0 p1 p2 FU 0
theorem slices_Equal_int_int_m {p1 : (List Int)} {p2 : (List Int)} {r : Bool} (h : slices_Equal_int_int p1 p2 = some r) : Meets Try.prog 59 [(AV.ro 1 (p1.map o3)), (AV.ro 1 (p2.map o3))] (B r) := by
  refine meets_ofC Θ_ok Try.func59 rfl (c := body59) (by kernel_rfl) (Nat.le_of_ble_eq_true rfl) ?_
  intro E hP hn hx
  replace hn : E.n = 26 := hn
  have hm : E.P.follows .mixedOrders = true := by rw [hP]; exact mixed
  have hΘ : TOK E.P Θ := by rw [hP]; exact Θ_ok
  unfold slices_Equal_int_int at h
  show WAt E body59 (FQ (RetE Θ Try.f59.results.toList [] [] (B r) E)) [] ⟨[(0, (AV.ro 1 (p1.map o3))), (1, (AV.ro 1 (p2.map o3)))], [], [JJ]⟩
  rcases itS h with ⟨c3, h⟩ | ⟨c4, h⟩
  · have h := Option.some.inj h
    subst h
    exact go_ret hΘ hm hP hn (hs := [⟨2, .no, some (I (p1.length : Int))⟩, ⟨4, .no, some (I (p2.length : Int))⟩, ⟨6, .br true, none⟩]) (rh := []) (ph := .raw) (ps := [AV.lit (.int .i64 (((p1.map o3).length : Nat) : Int)) = (I (p1.length : Int)), AV.lit (.int .i64 (((p2.map o3).length : Nat) : Int)) = (I (p2.length : Int)), ((p1.length : Int) != (p2.length : Int)) = true, (B false) = (B false), litA (B false) = true]) (by kernel_rfl) ⟨(lenM o3), (lenM o3), c3, rfl, rfl, trivial⟩
  · exact go_to hΘ hm hx hP hn (hs := [⟨2, .no, some (I (p1.length : Int))⟩, ⟨4, .no, some (I (p2.length : Int))⟩, ⟨6, .br false, none⟩, ⟨8, .no, some (I (p1.length : Int))⟩]) (π := []) (ts := [0, 1, 12, 13]) (kp := []) (ps := [AV.lit (.int .i64 (((p1.map o3).length : Nat) : Int)) = (I (p1.length : Int)), AV.lit (.int .i64 (((p2.map o3).length : Nat) : Int)) = (I (p2.length : Int)), ((p1.length : Int) != (p2.length : Int)) = false, AV.lit (.int .i64 (((p1.map o3).length : Nat) : Int)) = (I (p1.length : Int))]) (by kernel_rfl) ⟨(lenM o3), (lenM o3), c4, (lenM o3), trivial⟩ (slices_Equal_int_int_l0_m hP hn hx p1 p2 FU 0 _ h)
section
open Go.RowKit Go.Proofs Go.Shelf Go.Lib Go.Sort
shelf_lay_g SlLaysF.n6 Slsf 6 at Try 96 as Try.srtf96
set_option maxHeartbeats 8000000 in
set_option maxRecDepth 1000000 in
theorem compact_calls (enc : Nat → Value) (eqf : Nat → Nat → Bool) (fe : Nat) (cb : Array Value) (g off cap : Nat) (d0 d : Array Nat) (w0 w : World) (R : Row1 enc w0 g off d0) (hs : d.size = d0.size) (S : SW enc w0 g off d w)
    (eg : ∀ args w, (callFunc fe args).run Try.prog w = .ok (.enter fe args) w)
    (heq : ∀ (W : World) (dk : Array Nat), SW enc w0 g off dk W → dk.size = d0.size → ∀ x y, Calls Try.prog fe (#[enc x, enc y] ++ cb) W fun e w' => e = .returned (.bool (eqf x y)) ∧ ∃ q os', w' = grow (W.drewN q) os')
    (zr : Nat) (hz : enc zr = .slice none 0 0) (hsz : d.size < 4611686018427387904) (hcap : d.size ≤ cap) :
    Calls Try.prog 98 #[.slice (some ⟨g, off, none⟩) d.size cap, .func (.func fe) #[] cb] w fun e w' => e = .returned (.slice (some ⟨g, off, none⟩) (keptUpTo (kpE eqf d) d d.size).length cap) ∧ SW enc w0 g off (keptUpTo (kpE eqf d) d d.size ++ List.replicate (d.size - (keptUpTo (kpE eqf d) d d.size).length) zr).toArray w' := by
  have mixed : Try.prog.follows .mixedOrders = true := mixed
  have tS : Try.prog.underlying 43 = some (.slice 33) := tiOf_und ty43
  have tI : Try.prog.underlying 3 = some (.int .i64) := tiOf_und ty3
  have tB : Try.prog.underlying 4 = some .bool := tiOf_und ty4
  have aE : ∀ w, (isAgg 33).run Try.prog w = .ok false w := fun w => by kernel_rfl
  have zE : ∀ w, (Go.sizeOf 33).run Try.prog w = .ok 1 w := fun w => by kernel_rfl
  have vE : ∀ w, (zeroValue 33).run Try.prog w = .ok (enc zr) w := fun w => by rw [hz]; kernel_rfl
  have aS : ∀ w, (isAgg 43).run Try.prog w = .ok false w := fun w => by kernel_rfl
  have zS : ∀ w, (Go.sizeOf 43).run Try.prog w = .ok 1 w := fun w => by kernel_rfl
  have aI : ∀ w, (isAgg 3).run Try.prog w = .ok false w := fun w => by kernel_rfl
  have zI : ∀ w, (Go.sizeOf 3).run Try.prog w = .ok 1 w := fun w => by kernel_rfl
  have uS := run_underlying tS
  have hcl0 := R.hO.cells
  simp only [Value.cells] at hcl0
  have hst := R.hO.store Try.prog
  have HC : Aside _ := heq
  have Hs : Aside (d.size = d0.size) := hs
  clear hs
  have S0 : Aside (SW enc w0 g off d w) := S
  have k0 : kpE eqf d 0 = true := rfl
  have same : ∀ W, SW enc w0 g off d W → (∀ j, j < d.size → kpE eqf d j = true) → (keptUpTo (kpE eqf d) d d.size).length = d.size ∧ SW enc w0 g off (keptUpTo (kpE eqf d) d d.size ++ List.replicate (d.size - (keptUpTo (kpE eqf d) d d.size).length) zr).toArray W := by
    intro W hW hall
    have e : keptUpTo (kpE eqf d) d d.size = d.toList := by rw [keptUpTo_all _ d _ hall, range_map_get]
    rw [e]
    refine ⟨by simp, ?_⟩
    simpa using hW
  have HS : Aside (∀ W, SW enc w0 g off d W → (∀ j, j < d.size → kpE eqf d j = true) → (keptUpTo (kpE eqf d) d d.size).length = d.size ∧ SW enc w0 g off (keptUpTo (kpE eqf d) d d.size ++ List.replicate (d.size - (keptUpTo (kpE eqf d) d d.size).length) zr).toArray W) := same
  clear same S heq
  by_cases h2 : (d.size : Int) < 2
  · go_enter Try.func98, Try.ntmps98
    go_wp2
    go_ret
    obtain ⟨e1, e2⟩ := HS.out w S0.out (fun j hj => by
      have : j = 0 ∨ j = 1 := by omega
      rcases this with rfl | rfl
      · exact k0
      · omega)
    exact ⟨by rw [e1]; rfl, e2⟩
  · go_enter Try.func98, Try.ntmps98
    go_wp2
    go_loopg [5] d.size (fun gg s5 wr => ∃ k : Nat, 1 ≤ k ∧ k ≤ d.size ∧ d.size - k ≤ gg ∧ s5 = .int .i64 k ∧ Aside (SW enc w0 g off d wr) ∧ Aside (∀ j, j < k → kpE eqf d j = true))
    case atStart => exact ⟨1, Nat.le_refl _, by omega, by omega, rfl, S0, fun j hj => by
      have : j = 0 := by omega
      subst this; exact k0⟩
    case round =>
      clear S0
      obtain ⟨k, hk1, hk, hgg, rfl, S1, A1⟩ := hrel
      by_cases hlt : k < d.size
      · obtain ⟨t, rfl⟩ : ∃ t, k = t + 1 := ⟨k - 1, by omega⟩
        have hqz : ((t + 1 : Nat) : Int) = (t : Int) + 1 := by omega
        rw [hqz]
        obtain ⟨iN, hiN⟩ : ∃ q, q = t + 1 := ⟨_, rfl⟩
        obtain ⟨jN, hjN⟩ : ∃ q, q = t := ⟨_, rfl⟩
        have ea : ((t : Int) + 1).toNat = iN := by omega
        have pa : (0 : Int) ≤ (t : Int) + 1 := by omega
        have ba : (t : Int) + 1 < (d.size : Int) := by omega
        have ra : IntKind.i64.wrap ((t : Int) + 1) = (t : Int) + 1 := by rw [IntKind.wrap_i64]; omega
        have ec : ((t : Int)).toNat = jN := by omega
        have pc : (0 : Int) ≤ (t : Int) := by omega
        have bc : (t : Int) < (d.size : Int) := by omega
        have rc : IntKind.i64.wrap ((t : Int)) = (t : Int) := by rw [IntKind.wrap_i64]; omega
        obtain ⟨x, hx⟩ : ∃ x, x = d[t + 1]! := ⟨_, rfl⟩
        obtain ⟨y, hy⟩ : ∃ x, x = d[t]! := ⟨_, rfl⟩
        have la := S1.out.cl R Hs.out (t + 1) (by omega)
        have lb := S1.out.cl R Hs.out t (by omega)
        rw [← hx, ← hiN] at la
        rw [← hy, ← hjN] at lb
        have hc := fun n os => HC.out (grow (wr.drewN n) os) d (S1.out.grown n os) Hs.out x y
        have kk1 : kpE eqf d (t + 1) = !(eqf x y) := by rw [hx, hy]; rfl
        cases hv : eqf x y with
        | true =>
          rw [hv] at kk1
          simp only [hv] at hc
          clear hx hy hiN hjN
          go_wp2_with fail
          go_quiet_grown (first | (go_at_fn fe; refine Calls.grown_of (hc _ _)))
          have S2 : Aside (SW enc w0 g off d (grow (wr.drewN nq) osq)) := S1.out.grown nq osq
          clear la lb hc S1
          generalize grow (wr.drewN nq) osq = w2 at S2 ⊢
          clear nq osq
          clear ea ec
          go_wp2
          go_loopg [5, 7] d.size (fun gg s5 s7 wr => ∃ (kk k2 : Nat) (dk : Array Nat), s5 = .int .i64 kk ∧ s7 = .int .i64 k2 ∧ 1 ≤ k2 ∧ t + 1 + k2 ≤ d.size ∧ d.size - (t + 1 + k2) ≤ gg ∧ Aside (SW enc w0 g off dk wr) ∧ Aside (KeptInv (kpE eqf d) d (t + 1 + k2) kk dk))
          case atStart => exact ⟨t + 1, 1, d, by go_num, rfl, Nat.le_refl _, by omega, by omega, S2, KeptInv.start A1.out kk1⟩
          case round =>
            clear S2
            obtain ⟨kk, k2, dk, rfl, rfl, h1, hle, hg2, S3, I2⟩ := hrel
            by_cases hlt2 : t + 1 + k2 < d.size
            · obtain ⟨r, rfl⟩ : ∃ r, k2 = r + 1 := ⟨k2 - 1, by omega⟩
              have hqz2 : ((r + 1 : Nat) : Int) = (r : Int) + 1 := by omega
              rw [hqz2]
              obtain ⟨pN, hpN⟩ : ∃ q, q = r + 1 := ⟨_, rfl⟩
              obtain ⟨qN, hqN⟩ : ∃ q, q = r := ⟨_, rfl⟩
              have ea2 : ((r : Int) + 1).toNat = pN := by omega
              have pa2 : (0 : Int) ≤ (r : Int) + 1 := by omega
              have ba2 : (r : Int) + 1 < ((d.size - (t + 1) : Nat) : Int) := by omega
              have ra2 : IntKind.i64.wrap ((r : Int) + 1) = (r : Int) + 1 := by rw [IntKind.wrap_i64]; omega
              have ec2 : ((r : Int)).toNat = qN := by omega
              have pc2 : (0 : Int) ≤ (r : Int) := by omega
              have bc2 : (r : Int) < ((d.size - (t + 1) : Nat) : Int) := by omega
              have rc2 : IntKind.i64.wrap ((r : Int)) = (r : Int) := by rw [IntKind.wrap_i64]; omega
              obtain ⟨u, hu⟩ : ∃ x, x = d[t + 1 + (r + 1)]! := ⟨_, rfl⟩
              obtain ⟨v, hv2⟩ : ∃ x, x = d[t + 1 + r]! := ⟨_, rfl⟩
              have hds := I2.out.size
              have hkk := I2.out.lt
              have la2 := S3.out.cl R (by rw [hds, Hs.out]) (t + 1 + (r + 1)) (by omega)
              have lb2 := S3.out.cl R (by rw [hds, Hs.out]) (t + 1 + r) (by omega)
              rw [I2.out.high _ (by omega), ← hu, ← hpN, ← Nat.add_assoc] at la2
              rw [I2.out.high _ (by omega), ← hv2, ← hqN, ← Nat.add_assoc] at lb2
              have hc2 := fun n os => HC.out (grow (wr.drewN n) os) dk (S3.out.grown n os) (by rw [hds, Hs.out]) u v
              have kk2 : kpE eqf d (t + 1 + (r + 1)) = !(eqf u v) := by rw [hu, hv2]; rfl
              have hds2 : Aside (dk.size = d.size) := hds
              have U2 : Aside (u = d[t + 1 + (r + 1)]!) := hu
              clear hds
              cases hvv : eqf u v with
              | true =>
                rw [hvv] at kk2
                simp only [hvv] at hc2
                clear hu hv2 hpN hqN
                go_wp2_with fail
                go_quiet_grown (first | (go_at_fn fe; refine Calls.grown_of (hc2 _ _)))
                have S4 : Aside (SW enc w0 g off dk (grow (wr.drewN nq) osq)) := S3.out.grown nq osq
                clear la2 lb2 hc2 S3
                generalize grow (wr.drewN nq) osq = w3 at S4 ⊢
                clear nq osq
                clear ea2 ec2
                go_wp2
                go_roundg (d.size - (t + 1 + (r + 2)))
                case measure => omega
                case rel => exact ⟨kk, r + 2, dk, rfl, by go_num, by omega, by omega, Nat.le_refl _, S4, I2.out.skip kk2⟩
              | false =>
                rw [hvv] at kk2
                simp only [hvv] at hc2
                have HP : Aside (pN = r + 1) := hpN
                clear hu hv2 hqN hpN
                go_wp2_with fail
                go_quiet_grown (first | (go_at_fn fe; refine Calls.grown_of (hc2 _ _)))
                have S4 : Aside (SW enc w0 g off dk (grow (wr.drewN nq) osq)) := S3.out.grown nq osq
                clear la2 lb2 hc2 S3
                generalize grow (wr.drewN nq) osq = w3 at S4 ⊢
                clear nq osq
                have lc := S4.out.c1 R (by rw [hds2.out, Hs.out]) (t + 1 + (r + 1)) (by have := hds2.out; omega)
                rw [I2.out.high _ (by omega), ← U2.out, ← HP.out, ← Nat.add_assoc] at lc
                have ld := S4.out.c1 R (by rw [hds2.out, Hs.out]) kk (by have := hds2.out; omega)
                have fd := S4.out.f1 R (by rw [hds2.out, Hs.out]) kk (by have := hds2.out; omega)
                generalize dk[kk]! = old at ld
                have kz : ((kk : Nat) : Int) < (d.size : Int) := by omega
                go_wp2
                go_roundg (d.size - (t + 1 + (r + 2)))
                case measure => omega
                case rel => exact ⟨kk + 1, r + 2, dk.setIfInBounds kk u, by go_num, by go_num, by omega, by omega, Nat.le_refl _, Go.T.SW.set S4.out R.hblk kk u (by have := hds2.out; omega), by have := I2.out.keep hlt2 kk2; rwa [← U2.out] at this⟩
            · have hend : t + 1 + k2 = d.size := by omega
              have hkk := I2.out.lt
              have hds2 : Aside (dk.size = d.size) := I2.out.size
              have hH2 := S3.out.holds R.hblk R.hH (by rw [hds2.out, Hs.out])
              have hcl : ∀ ty, (Builtin.clear_ #[43] ty #[.slice (some ⟨g, off + kk, none⟩) (d.size - kk) (cap - kk)]).run Try.prog wr = .ok (.tuple #[]) (wr.setCells g (off + kk) (List.replicate (d.size - kk) (enc zr))) :=
                fun ty => Lib.run_clear_slice wr _ _ ty _ tS vE (R.hO.cells zr) (R.hO zr) g (off + kk) _ _ (by omega) (fun j hj => by rw [show off + kk + j = off + (kk + j) by omega, (hH2 (kk + j) (by have := hds2.out; omega)).1]; rfl) (fun j hj => by rw [show off + kk + j = off + (kk + j) by omega]; exact (hH2 (kk + j) (by have := hds2.out; omega)).2)
              clear hH2
              have kz : ¬ ((k2 : Nat) : Int) < ((d.size - (t + 1) : Nat) : Int) := by omega
              go_wp2
              go_ret
              have hI := I2.out
              rw [hend] at hI
              refine ⟨by rw [hI.len]; rfl, ?_⟩
              have := Go.T.SW.sets S3.out R.hblk kk (List.replicate (d.size - kk) zr) (by rw [List.length_replicate]; have := hds2.out; omega)
              rw [List.map_replicate, hz] at this
              rw [hI.len, ← hI.done zr]
              exact this
        | false =>
          rw [hv] at kk1
          simp only [hv] at hc
          clear hx hy hiN hjN
          go_wp2_with fail
          go_quiet_grown (first | (go_at_fn fe; refine Calls.grown_of (hc _ _)))
          have S2 : Aside (SW enc w0 g off d (grow (wr.drewN nq) osq)) := S1.out.grown nq osq
          clear la lb hc S1
          generalize grow (wr.drewN nq) osq = w2 at S2 ⊢
          clear nq osq
          clear ea ec
          go_wp2
          go_roundg (d.size - (t + 2))
          case measure => omega
          case rel => exact ⟨t + 2, by omega, by omega, Nat.le_refl _, by go_num, S2, fun j hj => by
            by_cases e : j = t + 1
            · subst e; exact kk1
            · exact A1.out j (by omega)⟩
      · have : k = d.size := by omega
        subst this
        go_wp2
        go_ret
        obtain ⟨e1, e2⟩ := HS.out _ S1.out A1.out
        exact ⟨by rw [e1]; rfl, e2⟩

theorem compact_none (fv : Value) (A : Option Addr) (cap : Nat) (w : World) : Calls Try.prog 98 #[.slice A 0 cap, fv] w fun e w' => e = .returned (.slice A 0 cap) ∧ w' = w := by
  have tS : Try.prog.underlying 43 = some (.slice 33) := tiOf_und ty43
  have tI : Try.prog.underlying 3 = some (.int .i64) := tiOf_und ty3
  have uS := run_underlying tS
  go_enter Try.func98, Try.ntmps98
  go_wp2
  go_ret
  exact ⟨rfl, rfl⟩
theorem cmp_pure1 (x y : Int) : cmp_Compare_int x y = some (if x < y then -1 else if x > y then 1 else 0) := by
  rw [cmp_Compare_int, cmp_isNaN_int, cmp_isNaN_int]
  simp only [bne_self_eq_false, Option.bind_some, Bool.false_eq_true, if_false, decide_eq_true_eq]
  split
  · rfl
  · split <;> rfl
theorem cmp_pure (a b : List Int) (ha : a.length < 1099511627776) : slices_Compare_int_int a b = some (cmpL a b) := by
  have key : ∀ (n k : Nat), k ≤ a.length → a.length < n + k → (k ≤ b.length) → slices_Compare_int_int_l0 a b n k = some (cmpL (a.drop k) (b.drop k)) := by
    intro n
    induction n with
    | zero => intro k h1 h2; omega
    | succ n ih =>
      intro k h1 h2 h3
      rw [slices_Compare_int_int_l0]
      by_cases hk : k < a.length
      · have e1 : decide ((k : Int) < (a.length : Int)) = true := by simp; omega
        simp only [e1, if_true, rd_at hk, Option.bind_some]
        by_cases hb : k < b.length
        · have e2 : decide ((k : Int) ≥ (b.length : Int)) = false := by simp; omega
          simp only [e2, Bool.false_eq_true, if_false, rd_at hb, Option.bind_some, cmp_pure1]
          rw [List.drop_eq_getElem_cons hk, List.drop_eq_getElem_cons hb, cmpL]
          split
          · simp
          · split
            · simp
            · simp only [bne_self_eq_false, Bool.false_eq_true, if_false]
              rw [w64_s (by omega)]
              exact ih (k + 1) (by omega) (by omega) (by omega)
        · have e2 : decide ((k : Int) ≥ (b.length : Int)) = true := by simp; omega
          simp only [e2, if_true]
          rw [List.drop_eq_getElem_cons hk, List.drop_of_length_le (show b.length ≤ k by omega), cmpL]
      · have e1 : decide ((k : Int) < (a.length : Int)) = false := by simp; omega
        simp only [e1, Bool.false_eq_true, if_false]
        rw [List.drop_of_length_le (show a.length ≤ k by omega)]
        by_cases hb : k < b.length
        · have e2 : decide ((a.length : Int) < (b.length : Int)) = true := by simp; omega
          simp only [e2, if_true]
          rw [List.drop_eq_getElem_cons hb, cmpL]
        · have e2 : decide ((a.length : Int) < (b.length : Int)) = false := by simp; omega
          simp only [e2, Bool.false_eq_true, if_false]
          rw [List.drop_of_length_le (show b.length ≤ k by omega), cmpL]
  have := key FU 0 (by omega) (FU_gt (by omega)) (by omega)
  rw [slices_Compare_int_int]
  simpa using this
theorem eq_pure (a b : List Int) (ha : a.length < 1099511627776) : slices_Equal_int_int a b = some (a == b) := by
  rw [slices_Equal_int_int]
  by_cases hl : a.length = b.length
  · have e0 : ((a.length : Int) != (b.length : Int)) = false := by rw [hl]; simp
    simp only [e0, Bool.false_eq_true, if_false]
    have key : ∀ (n k : Nat), k ≤ a.length → a.length < n + k → slices_Equal_int_int_l0 a b n k = some (a.drop k == b.drop k) := by
      intro n
      induction n with
      | zero => intro k h1 h2; omega
      | succ n ih =>
        intro k h1 h2
        rw [slices_Equal_int_int_l0]
        by_cases hk : k < a.length
        · have e1 : decide ((k : Int) < (a.length : Int)) = true := by simp; omega
          have hb : k < b.length := by omega
          simp only [e1, if_true, rd_at hk, rd_at hb, Option.bind_some]
          rw [List.drop_eq_getElem_cons hk, List.drop_eq_getElem_cons hb]
          by_cases hx : a[k] = b[k]
          · rw [hx]
            simp only [bne_self_eq_false, Bool.false_eq_true, if_false]
            rw [w64_s (by omega), ih (k + 1) (by omega) (by omega), List.cons_beq_cons, beq_self_eq_true, Bool.true_and]
          · have e3 : (a[k] != b[k]) = true := by simp [hx]
            simp only [e3, if_true]
            have e4 : (a[k] :: a.drop (k + 1) == b[k] :: b.drop (k + 1)) = false := by
              rw [beq_eq_false_iff_ne]
              intro e
              injection e with e1 _
              exact hx e1
            rw [e4]
        · have e1 : decide ((k : Int) < (a.length : Int)) = false := by simp; omega
          simp only [e1, Bool.false_eq_true, if_false]
          rw [List.drop_of_length_le (show a.length ≤ k by omega), List.drop_of_length_le (show b.length ≤ k by omega)]
          rfl
    have := key FU 0 (by omega) (FU_gt (by omega))
    simpa using this
  · have e0 : ((a.length : Int) != (b.length : Int)) = true := by simp; omega
    simp only [e0, if_true]
    have : (a == b) = false := by
      rw [beq_eq_false_iff_ne]
      intro e; exact hl (by rw [e])
    rw [this]
theorem two_rep {w : World} {S : Nat → Prop} {x y : AV} {u v : Value} (h1 : rep w S x u []) (h2 : rep w S y v []) : repL w S [x, y] [u, v] [] := by
  simp only [repL]
  exact ⟨u, _, [], [], rfl, rfl, h1, v, [], [], [], rfl, rfl, h2, rfl, rfl⟩
set_option maxHeartbeats 1000000 in
theorem lists_calls : SortsRows Try.prog 60 := by
  refine ⟨fun A cap w => ?_, fun enc con g cap n w h1 hH hg h0 hn hcap hnil hlen hrep => ?_⟩
  · have sn := fun fv w => sortNone Try.srtf96 A cap fv w
    change ∀ fv w, Calls Try.prog 96 _ _ _ at sn
    go_enter Try.func60, Try.ntmps60
    go_wp2_with (first
      | (go_at_call 96; refine Calls.mono (sn _ _) ?_; rintro e w' ⟨rfl, rfl⟩)
      | (go_at_call 98; refine (compact_none _ A cap _).mono ?_; rintro e w' ⟨rfl, rfl⟩))
    go_ret
    exact ⟨rfl, rfl⟩
  · have egC : ∀ args w, (callFunc 97 args).run Try.prog w = .ok (.enter 97 args) w := enters_of Try.func97 rfl rfl
    have egE : ∀ args w, (callFunc 59 args).run Try.prog w = .ok (.enter 59 args) w := enters_of Try.func59 rfl rfl
    have hsz : (Array.range n).size = n := Array.size_range
    have cmp : CmpLays1 Try.prog 97 #[] enc (fun i j => cmpL (con i) (con j)) g 0 n w := fun m os dk hs x y => by
      have := meets_calls (slices_Compare_int_int_m (cmp_pure (con x) (con y) (hlen x))) rfl (w := sortWorld enc w g 0 m dk os) (vals := [enc x, enc y]) (two_rep (hrep dk _ ⟨m, os, rfl⟩ hs x) (hrep dk _ ⟨m, os, rfl⟩ hs y))
      simpa using this
    have heq : ∀ (W : World) (dk : Array Nat), SW enc w g 0 dk W → dk.size = (Array.range n).size → ∀ x y, Calls Try.prog 59 (#[enc x, enc y] ++ #[]) W fun e w' => e = .returned (.bool (con x == con y)) ∧ ∃ q os', w' = grow (W.drewN q) os' := fun W dk hW hs x y => by
      have := meets_calls (slices_Equal_int_int_m (eq_pure (con x) (con y) (hlen x))) rfl (w := W) (vals := [enc x, enc y]) (two_rep (hrep dk _ hW (by rw [hs, hsz]) x) (hrep dk _ hW (by rw [hs, hsz]) y))
      simpa using this
    have srt := Any.slices_SortFunc Try.srtf96 enc h1 (fun i j => cmpL (con i) (con j)) (swoL con) 97 #[] g 0 cap (Array.range n) w egC (by rw [hsz]; exact cmp) hH hg (by rw [hsz]; exact hn)
    rw [hsz] at srt
    change Calls Try.prog 96 _ _ _ at srt
    have R : Row1 enc w g 0 (Array.range n) := ⟨h1, hH, hg⟩
    have cpt : ∀ (d : Array Nat) (m : Nat) (os : Array Obj), PermIn 0 n (Array.range n) d → SortedIn (ltOf fun i j => cmpL (con i) (con j)) 0 n d → Calls Try.prog 98 #[.slice (some ⟨g, 0, none⟩) n cap, .func (.func 59) #[] #[]] (sortWorld enc w g 0 m d os) fun e w' => ∃ K : List Nat, e = .returned (.slice (some ⟨g, 0, none⟩) K.length cap) ∧ K.map con = sdL ((List.range n).map con) ∧ K.Nodup ∧ (∀ i ∈ K, i < n) ∧ SW enc w g 0 (K ++ List.replicate (n - K.length) n).toArray w' := by
      intro d m os hp hs
      obtain ⟨c1, c2, c3, c4⟩ := compact_sd hp hs
      have := compact_calls enc (fun i j => con i == con j) 59 #[] g 0 cap (Array.range n) d w (sortWorld enc w g 0 m d os) R (by rw [c1, hsz]) ⟨m, os, rfl⟩ egE heq n hnil (by omega) (by omega)
      rw [c1] at this c2 c3 c4
      exact this.mono fun e w' h => ⟨_, h.1, c2, c3, c4, h.2⟩
    clear cmp heq hH hrep R
    have SRT : Aside _ := srt
    have CPT : Aside _ := cpt
    clear srt cpt
    go_enter Try.func60, Try.ntmps60
    go_wp2_with (first
      | (go_at_call 96; refine Calls.mono SRT.out ?_; rintro e w' ⟨rfl, d', m, os, hp, hs, rfl⟩)
      | (go_at_call 98; refine Calls.mono (CPT.out _ _ _ hp hs) ?_; rintro e w' ⟨K, rfl, c2, c3, c4, c5⟩))
    go_ret
    exact ⟨K, rfl, c2, c3, c4, c5⟩
end
noncomputable def impl_lists (p1 : (List (List Int))) : Option (List (List Int)) :=
  lstL p1
theorem impl_lists_m {p1 : (List (List Int))} {r : (List (List Int))} (h : impl_lists p1 = some r) : MeetsR Try.prog 60 [⟨33, 1, (p1.map o33)⟩] [(AV.sl 0 0 (List.length (p1.map o33)))] [false] [⟨33, 1, (p1.map o33)⟩] (AV.own 33 1 (r.map o33)) := by
  unfold impl_lists lstL at h
  split at h
  · rename_i hb
    cases h
    exact meetsR_lists (T := 33) (T2 := 3) (Go.Proofs.enters_of Try.func60 rfl rfl) lists_calls p1 hb.1 hb.2
  · cases h
noncomputable def body52 : Code := match Try.f52.body with | some c => c | none => .skip
noncomputable def impl_lockPairs_l0  (r2 : (List GUnder)) : Nat → (List (List Int)) → (List GUnder) → Int → Option (List (List Int))
  | 0, _, _, _ => none
  | n + 1, a3, a4, v5 =>
  if (decide (v5 < (r2.length : Int))) = true then
    Option.bind (rd a4 v5) fun x7 =>
    Option.bind (app a3 [[x7.Had, x7.Taken]]) fun l8 =>
    impl_lockPairs_l0 r2 n l8 a4 (w64 (v5 + 1))
  else
    Option.bind (impl_lists a3) fun r10 =>
    some r10
theorem impl_lockPairs_l0_m {E : Env} (hP : E.P = Try.prog) (hn : E.n = 25) (hx : ∀ p, p ∈ E.fx → p.1 ∈ ([] : List Nat)) (r2 : (List GUnder))  : ∀ (n : Nat) (a3 : (List (List Int))) (a4 : (List GUnder)) (v5 : Int) (r : (List (List Int))), impl_lockPairs_l0 r2 n a3 a4 v5 = some r → WAt E body52 (FQ (RetE Θ Try.f52.results.toList [] [] (AV.own 33 1 (r.map o33)) E)) [true, true, false, true, false] ⟨[(3, (AV.sl 1 0 (List.length (a3.map o33)))), (8, (AV.sl 2 0 (List.length (a4.map o85)))), (9, (I (r2.length : Int))), (10, (I v5))], [(1, some ⟨33, 1, (a3.map o33)⟩), (2, some ⟨85, 4, (a4.map o85)⟩)], [1, 2, JJ]⟩ := by
  have hm : E.P.follows .mixedOrders = true := by rw [hP]; exact mixed
  have hΘ : TOK E.P Θ := by rw [hP]; exact Θ_ok
  intro n
  induction n with
  | zero => intro a3 a4 v5 r h; simp only [impl_lockPairs_l0] at h; cases h
  | succ n ih =>
    intro a3 a4 v5 r h
    simp only [impl_lockPairs_l0] at h
    rcases itS h with ⟨c6, h⟩ | ⟨c9, h⟩
    · obtain ⟨x7, hx7, h⟩ := bnS h
      obtain ⟨l8, hl8, h⟩ := bnS h
      exact go_to hΘ hm hx hP hn (hs := [⟨1, .br true, none⟩, ⟨3, .row ((o85 x7)), none⟩, ⟨4, .new 1001, none⟩, ⟨11, .new 1002, none⟩, ⟨12, .new 1003, none⟩, ⟨13, .app 1004 ((a3.map o33) ++ [[(AV.sl 1002 0 (List.length ([x7.Had, x7.Taken].map o3)))]]), none⟩, ⟨14, .pack 1004 1002 (List.length a3) 0 [(AV.sl 1002 0 (List.length ([x7.Had, x7.Taken].map o3)))] (l8.map o33), none⟩, ⟨17, .slen 3 (List.length (l8.map o33)), none⟩]) (π := [(1004, 1), (2, 2)]) (ts := [3, 8, 9, 10]) (kp := []) (ps := [(decide (v5 < (r2.length : Int))) = true, (0 : Int) ≤ v5, v5 < (((List.length (a4.map o85)) : Nat) : Int), (a4.map o85)[(Int.toNat v5)]? = some ((o85 x7)), (a3.map o33).take (List.length (a3.map o33)) ++ [[(AV.sl 1002 0 (List.length ([x7.Had, x7.Taken].map o3)))]] = ((a3.map o33) ++ [[(AV.sl 1002 0 (List.length ([x7.Had, x7.Taken].map o3)))]]), [[(AV.sl 1002 0 (List.length ([x7.Had, x7.Taken].map o3)))]].all (fun r => r.all AV.plain) = true, (List.length ((a3.map o33) ++ [[(AV.sl 1002 0 (List.length ([x7.Had, x7.Taken].map o3)))]])) * 24 ≤ 140737488355328, (List.length ((a3.map o33) ++ [[(AV.sl 1002 0 (List.length ([x7.Had, x7.Taken].map o3)))]])) ≤ 140737488355328, ((a3.map o33) ++ [[(AV.sl 1002 0 (List.length ([x7.Had, x7.Taken].map o3)))]])[(List.length a3)]? = some [(AV.sl 1002 0 (List.length ([x7.Had, x7.Taken].map o3)))], [(AV.sl 1002 0 (List.length ([x7.Had, x7.Taken].map o3)))][0]? = some (AV.sl 1002 0 (List.length ([x7.Had, x7.Taken].map o3))), treeLL ([x7.Had, x7.Taken].map o3) = true, ((a3.map o33) ++ [[(AV.sl 1002 0 (List.length ([x7.Had, x7.Taken].map o3)))]]).set (List.length a3) ([(AV.sl 1002 0 (List.length ([x7.Had, x7.Taken].map o3)))].set 0 (AV.own 3 1 ([x7.Had, x7.Taken].map o3))) = (l8.map o33), (List.length ((a3.map o33) ++ [[(AV.sl 1002 0 (List.length ([x7.Had, x7.Taken].map o3)))]])) = (List.length (l8.map o33)), RenOK [(1004, 1), (2, 2)] (l8.map o33), RenOK [(1004, 1), (2, 2)] (a4.map o85)]) (by kernel_rfl) ⟨c6, (rd0 hx7), (rdL o85 hx7), (rdM o85 hx7), (apT o33), rfl, (apB o33 hl8 (by decide)), (apC o33 hl8), (apG o33), rfl, (treeM t3), (apS o33 hl8), (apLn o33 hl8), (rok (treeM t33)), (rok (treeM t85)), trivial⟩ (ih l8 a4 (w64 (v5 + 1)) _ h)
    · obtain ⟨r10, hr10, h⟩ := bnS h
      have h := Option.some.inj h
      subst h
      exact go_ret hΘ hm hP hn (hs := [⟨1, .br false, none⟩, ⟨3, .callX [1] [false] [⟨33, 1, (a3.map o33)⟩] [⟨33, 1, (a3.map o33)⟩] [] (AV.own 33 1 (r10.map o33)) [1005] (AV.sl 1005 0 (List.length (r10.map o33))) [(1005, ⟨33, 1, (r10.map o33)⟩)], none⟩]) (rh := []) (ph := .own) (ps := [(decide (v5 < (r2.length : Int))) = false, MeetsR Try.prog 60 [⟨33, 1, (a3.map o33)⟩] [(AV.sl 0 0 (List.length (a3.map o33)))] [false] [⟨33, 1, (a3.map o33)⟩] (AV.own 33 1 (r10.map o33)), (some (Root.mk 33 1 (a3.map o33)) = some (Root.mk 33 1 (a3.map o33))) ∧ True, (treeLL (a3.map o33) = true ∧ noRoLL (a3.map o33) = true) ∧ True, ((a3.map o33).length = (a3.map o33).length) ∧ True, (rtf (renA [] (AV.own 33 1 (r10.map o33))) [1005]).1 = (AV.sl 1005 0 (List.length (r10.map o33))), (rtf (renA [] (AV.own 33 1 (r10.map o33))) [1005]).2.1 = [(1005, ⟨33, 1, (r10.map o33)⟩)], treeLL ((r10.map o33).take (List.length (r10.map o33))) = true, (r10.map o33).take (List.length (r10.map o33)) = (r10.map o33), noRoLL (r10.map o33) = true]) (by kernel_rfl) ⟨c9, (impl_lists_m hr10), ⟨rfl, trivial⟩, ⟨⟨treeM t33, noRoM n33⟩, trivial⟩, ⟨rfl, trivial⟩, rfl, rfl, (treeT t33), takeM, (noRoM n33), trivial⟩
noncomputable def impl_lockPairs (p1 : (List GEvent)) : Option (List (List Int)) :=
  Option.bind (impl_unders p1) fun r2 =>
  impl_lockPairs_l0 r2 FU [] r2 0
theorem impl_lockPairs_m {p1 : (List GEvent)} {r : (List (List Int))} (h : impl_lockPairs p1 = some r) : Meets Try.prog 52 [(AV.ro 5 (p1.map o64))] (AV.own 33 1 (r.map o33)) := by
  refine meets_ofC Θ_ok Try.func52 rfl (c := body52) (by kernel_rfl) (Nat.le_of_ble_eq_true rfl) ?_
  intro E hP hn hx
  replace hn : E.n = 25 := hn
  have hm : E.P.follows .mixedOrders = true := by rw [hP]; exact mixed
  have hΘ : TOK E.P Θ := by rw [hP]; exact Θ_ok
  unfold impl_lockPairs at h
  show WAt E body52 (FQ (RetE Θ Try.f52.results.toList [] [] (AV.own 33 1 (r.map o33)) E)) [] ⟨[(0, (AV.ro 5 (p1.map o64)))], [], [JJ]⟩
  obtain ⟨r2, hr2, h⟩ := bnS h
  exact go_to hΘ hm hx hP hn (hs := [⟨1, .new 1001, none⟩, ⟨4, .call [] (AV.own 85 4 (r2.map o85)) [1002], none⟩, ⟨5, .no, some (I (r2.length : Int))⟩]) (π := [(1001, 1), (1002, 2)]) (ts := [3, 8, 9, 10]) (kp := []) (ps := [Meets Try.prog 88 [(AV.ro 5 (p1.map o64))] (AV.own 85 4 (r2.map o85)), noRo (AV.own 85 4 (r2.map o85)) = true, AV.lit (.int .i64 (((List.length (r2.map o85)) : Nat) : Int)) = (I (r2.length : Int)), RenOK [(1001, 1), (1002, 2)] ([].map o33), RenOK [(1001, 1), (1002, 2)] (r2.map o85)]) (by kernel_rfl) ⟨(impl_unders_m hr2), (by simp only [noRo, noRoL, noRoM n85, Bool.and_self]), (lenM o85), (rok (treeM t33)), (rok (treeM t85)), trivial⟩ (impl_lockPairs_l0_m hP hn hx r2 FU [] r2 0 _ h)
noncomputable def body67 : Code := match Try.f67.body with | some c => c | none => .skip
noncomputable def impl_WarnsGuarded_1_1 (p1 : GUnder) (p2 : GUnder) : Option Bool :=
  some (p2.Thread != p1.Thread)
theorem impl_WarnsGuarded_1_1_m {p1 : GUnder} {p2 : GUnder} {r : Bool} (h : impl_WarnsGuarded_1_1 p1 p2 = some r) : Meets Try.prog 67 [(AV.agg ((o85 p1))), (AV.rop (o85 p2) 0)] (B r) := by
  refine meets_ofC Θ_ok Try.func67 rfl (c := body67) (by kernel_rfl) (Nat.le_of_ble_eq_true rfl) ?_
  intro E hP hn hx
  replace hn : E.n = 9 := hn
  have hm : E.P.follows .mixedOrders = true := by rw [hP]; exact mixed
  have hΘ : TOK E.P Θ := by rw [hP]; exact Θ_ok
  unfold impl_WarnsGuarded_1_1 at h
  show WAt E body67 (FQ (RetE Θ Try.f67.results.toList [] [] (B r) E)) [] ⟨[(0, (AV.agg ((o85 p1)))), (1, (AV.rop (o85 p2) 0))], [], [JJ]⟩
  have h := Option.some.inj h
  subst h
  exact go_ret hΘ hm hP hn (hs := [⟨0, .new 1001, none⟩]) (rh := []) (ph := .raw) (ps := [(B (p2.Thread != p1.Thread)) = (B (p2.Thread != p1.Thread)), litA (B (p2.Thread != p1.Thread)) = true]) (by kernel_rfl) ⟨rfl, rfl, trivial⟩
noncomputable def body110 : Code := match Try.f110.body with | some c => c | none => .skip
noncomputable def slices_IndexFunc_Under_Under__impl_WarnsGuarded_1_1_l0  (p1 : (List GUnder)) (p2 : GUnder) : Nat → Int → Option Int
  | 0, _ => none
  | n + 1, v3 =>
  if (decide (v3 < (p1.length : Int))) = true then
    Option.bind (rd p1 v3) fun x5 =>
    Option.bind (impl_WarnsGuarded_1_1 x5 p2) fun r6 =>
    if r6 = true then
      some v3
    else
      slices_IndexFunc_Under_Under__impl_WarnsGuarded_1_1_l0 p1 p2 n (w64 (v3 + 1))
  else
    some (-1)
theorem slices_IndexFunc_Under_Under__impl_WarnsGuarded_1_1_l0_m {E : Env} (hP : E.P = Try.prog) (hn : E.n = 19) (hx : ∀ p, p ∈ E.fx → p.1 ∈ ([] : List Nat)) (p1 : (List GUnder)) (p2 : GUnder)  : ∀ (n : Nat) (v3 : Int) (r : Int), slices_IndexFunc_Under_Under__impl_WarnsGuarded_1_1_l0 p1 p2 n v3 = some r → WAt E body110 (FQ (RetE Θ Try.f110.results.toList [] [] (I r) E)) [true, false, true, false] ⟨[(0, (AV.ro 4 (p1.map o85))), (1, (AV.fn 67 [(AV.rop (o85 p2) 0)])), (7, (I (p1.length : Int))), (8, (I v3))], [], [JJ]⟩ := by
  have hm : E.P.follows .mixedOrders = true := by rw [hP]; exact mixed
  have hΘ : TOK E.P Θ := by rw [hP]; exact Θ_ok
  intro n
  induction n with
  | zero => intro v3 r h; simp only [slices_IndexFunc_Under_Under__impl_WarnsGuarded_1_1_l0] at h; cases h
  | succ n ih =>
    intro v3 r h
    simp only [slices_IndexFunc_Under_Under__impl_WarnsGuarded_1_1_l0] at h
    rcases itS h with ⟨c4, h⟩ | ⟨c9, h⟩
    · obtain ⟨x5, hx5, h⟩ := bnS h
      obtain ⟨r6, hr6, h⟩ := bnS h
      rcases itS h with ⟨c7, h⟩ | ⟨c8, h⟩
      · have h := Option.some.inj h
        subst h
        exact go_ret hΘ hm hP hn (hs := [⟨1, .br true, none⟩, ⟨7, .row (o85 x5), none⟩, ⟨9, .callV [[]] (B r6), none⟩, ⟨10, .br true, none⟩]) (rh := []) (ph := .raw) (ps := [(decide (v3 < (p1.length : Int))) = true, (0 : Int) ≤ v3, (p1.map o85)[(Int.toNat v3)]? = some (o85 x5), Meets Try.prog 67 [(AV.agg ((o85 x5))), (AV.rop (o85 p2) 0)] (B r6), litA (B r6) = true, r6 = true, (I v3) = (I v3), litA (I v3) = true]) (by kernel_rfl) ⟨c4, (rd0 hx5), (rdM o85 hx5), (impl_WarnsGuarded_1_1_m hr6), rfl, c7, rfl, rfl, trivial⟩
      · exact go_to hΘ hm hx hP hn (hs := [⟨1, .br true, none⟩, ⟨7, .row (o85 x5), none⟩, ⟨9, .callV [[]] (B r6), none⟩, ⟨10, .br false, none⟩]) (π := []) (ts := [0, 1, 7, 8]) (kp := []) (ps := [(decide (v3 < (p1.length : Int))) = true, (0 : Int) ≤ v3, (p1.map o85)[(Int.toNat v3)]? = some (o85 x5), Meets Try.prog 67 [(AV.agg ((o85 x5))), (AV.rop (o85 p2) 0)] (B r6), litA (B r6) = true, r6 = false]) (by kernel_rfl) ⟨c4, (rd0 hx5), (rdM o85 hx5), (impl_WarnsGuarded_1_1_m hr6), rfl, c8, trivial⟩ (ih (w64 (v3 + 1)) _ h)
    · have h := Option.some.inj h
      subst h
      exact go_ret hΘ hm hP hn (hs := [⟨1, .br false, none⟩]) (rh := []) (ph := .raw) (ps := [(decide (v3 < (p1.length : Int))) = false, (I (-1)) = (I (-1)), litA (I (-1)) = true]) (by kernel_rfl) ⟨c9, rfl, rfl, trivial⟩
noncomputable def slices_IndexFunc_Under_Under__impl_WarnsGuarded_1_1 (p1 : (List GUnder)) (p2 : GUnder) : Option Int :=
  slices_IndexFunc_Under_Under__impl_WarnsGuarded_1_1_l0 p1 p2 FU 0
theorem slices_IndexFunc_Under_Under__impl_WarnsGuarded_1_1_m {p1 : (List GUnder)} {p2 : GUnder} {r : Int} (h : slices_IndexFunc_Under_Under__impl_WarnsGuarded_1_1 p1 p2 = some r) : Meets Try.prog 110 [(AV.ro 4 (p1.map o85)), (AV.fn 67 [(AV.rop (o85 p2) 0)])] (I r) := by
  refine meets_ofC Θ_ok Try.func110 rfl (c := body110) (by kernel_rfl) (Nat.le_of_ble_eq_true rfl) ?_
  intro E hP hn hx
  replace hn : E.n = 19 := hn
  have hm : E.P.follows .mixedOrders = true := by rw [hP]; exact mixed
  have hΘ : TOK E.P Θ := by rw [hP]; exact Θ_ok
  unfold slices_IndexFunc_Under_Under__impl_WarnsGuarded_1_1 at h
  show WAt E body110 (FQ (RetE Θ Try.f110.results.toList [] [] (I r) E)) [] ⟨[(0, (AV.ro 4 (p1.map o85))), (1, (AV.fn 67 [(AV.rop (o85 p2) 0)]))], [], [JJ]⟩
  exact go_to hΘ hm hx hP hn (hs := [⟨2, .no, some (I (p1.length : Int))⟩]) (π := []) (ts := [0, 1, 7, 8]) (kp := []) (ps := [AV.lit (.int .i64 (((p1.map o85).length : Nat) : Int)) = (I (p1.length : Int))]) (by kernel_rfl) ⟨(lenM o85), trivial⟩ (slices_IndexFunc_Under_Under__impl_WarnsGuarded_1_1_l0_m hP hn hx p1 p2 FU 0 _ h)
noncomputable def body65 : Code := match Try.f65.body with | some c => c | none => .skip
noncomputable def slices_ContainsFunc_Under_Under__impl_WarnsGuarded_1_1 (p1 : (List GUnder)) (p2 : GUnder) : Option Bool :=
  Option.bind (slices_IndexFunc_Under_Under__impl_WarnsGuarded_1_1 p1 p2) fun r3 =>
  some (decide (r3 ≥ 0))
theorem slices_ContainsFunc_Under_Under__impl_WarnsGuarded_1_1_m {p1 : (List GUnder)} {p2 : GUnder} {r : Bool} (h : slices_ContainsFunc_Under_Under__impl_WarnsGuarded_1_1 p1 p2 = some r) : Meets Try.prog 65 [(AV.ro 4 (p1.map o85)), (AV.fn 67 [(AV.rop (o85 p2) 0)])] (B r) := by
  refine meets_ofC Θ_ok Try.func65 rfl (c := body65) (by kernel_rfl) (Nat.le_of_ble_eq_true rfl) ?_
  intro E hP hn hx
  replace hn : E.n = 9 := hn
  have hm : E.P.follows .mixedOrders = true := by rw [hP]; exact mixed
  have hΘ : TOK E.P Θ := by rw [hP]; exact Θ_ok
  unfold slices_ContainsFunc_Under_Under__impl_WarnsGuarded_1_1 at h
  show WAt E body65 (FQ (RetE Θ Try.f65.results.toList [] [] (B r) E)) [] ⟨[(0, (AV.ro 4 (p1.map o85))), (1, (AV.fn 67 [(AV.rop (o85 p2) 0)]))], [], [JJ]⟩
  obtain ⟨r3, hr3, h⟩ := bnS h
  have h := Option.some.inj h
  subst h
  exact go_ret hΘ hm hP hn (hs := [⟨3, .callV [] (I r3), none⟩]) (rh := []) (ph := .raw) (ps := [Meets Try.prog 110 [(AV.ro 4 (p1.map o85)), (AV.fn 67 [(AV.rop (o85 p2) 0)])] (I r3), litA (I r3) = true, (B (decide (r3 ≥ 0))) = (B (decide (r3 ≥ 0))), litA (B (decide (r3 ≥ 0))) = true]) (by kernel_rfl) ⟨(slices_IndexFunc_Under_Under__impl_WarnsGuarded_1_1_m hr3), rfl, rfl, rfl, trivial⟩
noncomputable def body66 : Code := match Try.f66.body with | some c => c | none => .skip
noncomputable def impl_WarnsGuarded_1 (p1 : GUnder) (p2 : (List GUnder)) : Option Bool :=
  Option.bind (slices_ContainsFunc_Under_Under__impl_WarnsGuarded_1_1 p2 p1) fun r3 =>
  some r3
theorem impl_WarnsGuarded_1_m {p1 : GUnder} {p2 : (List GUnder)} {r : Bool} (h : impl_WarnsGuarded_1 p1 p2 = some r) : Meets Try.prog 66 [(AV.agg ((o85 p1))), (AV.rop (r80 p2) 0)] (B r) := by
  refine meets_ofC Θ_ok Try.func66 rfl (c := body66) (by kernel_rfl) (Nat.le_of_ble_eq_true rfl) ?_
  intro E hP hn hx
  replace hn : E.n = 7 := hn
  have hm : E.P.follows .mixedOrders = true := by rw [hP]; exact mixed
  have hΘ : TOK E.P Θ := by rw [hP]; exact Θ_ok
  unfold impl_WarnsGuarded_1 at h
  show WAt E body66 (FQ (RetE Θ Try.f66.results.toList [] [] (B r) E)) [] ⟨[(0, (AV.agg ((o85 p1)))), (1, (AV.rop (r80 p2) 0))], [], [JJ]⟩
  obtain ⟨r3, hr3, h⟩ := bnS h
  have h := Option.some.inj h
  subst h
  exact go_ret hΘ hm hP hn (hs := [⟨0, .new 1001, none⟩, ⟨4, .callV [[]] (B r3), none⟩]) (rh := []) (ph := .raw) (ps := [Meets Try.prog 65 [(AV.ro 4 (p2.map o85)), (AV.fn 67 [(AV.rop (o85 p1) 0)])] (B r3), litA (B r3) = true, (B r3) = (B r3), litA (B r3) = true]) (by kernel_rfl) ⟨(slices_ContainsFunc_Under_Under__impl_WarnsGuarded_1_1_m hr3), rfl, rfl, rfl, trivial⟩
noncomputable def body110_106 : Code := match Try.f110.body with | some c => c | none => .skip
noncomputable def slices_IndexFunc_Under_Under__impl_WarnsGuarded_1_l0  (p1 : (List GUnder)) (p2 : (List GUnder)) : Nat → Int → Option Int
  | 0, _ => none
  | n + 1, v3 =>
  if (decide (v3 < (p1.length : Int))) = true then
    Option.bind (rd p1 v3) fun x5 =>
    Option.bind (impl_WarnsGuarded_1 x5 p2) fun r6 =>
    if r6 = true then
      some v3
    else
      slices_IndexFunc_Under_Under__impl_WarnsGuarded_1_l0 p1 p2 n (w64 (v3 + 1))
  else
    some (-1)
theorem slices_IndexFunc_Under_Under__impl_WarnsGuarded_1_l0_m {E : Env} (hP : E.P = Try.prog) (hn : E.n = 19) (hx : ∀ p, p ∈ E.fx → p.1 ∈ ([] : List Nat)) (p1 : (List GUnder)) (p2 : (List GUnder))  : ∀ (n : Nat) (v3 : Int) (r : Int), slices_IndexFunc_Under_Under__impl_WarnsGuarded_1_l0 p1 p2 n v3 = some r → WAt E body110_106 (FQ (RetE Θ Try.f110.results.toList [] [] (I r) E)) [true, false, true, false] ⟨[(0, (AV.ro 4 (p1.map o85))), (1, (AV.fn 66 [(AV.rop (r80 p2) 0)])), (7, (I (p1.length : Int))), (8, (I v3))], [], [JJ]⟩ := by
  have hm : E.P.follows .mixedOrders = true := by rw [hP]; exact mixed
  have hΘ : TOK E.P Θ := by rw [hP]; exact Θ_ok
  intro n
  induction n with
  | zero => intro v3 r h; simp only [slices_IndexFunc_Under_Under__impl_WarnsGuarded_1_l0] at h; cases h
  | succ n ih =>
    intro v3 r h
    simp only [slices_IndexFunc_Under_Under__impl_WarnsGuarded_1_l0] at h
    rcases itS h with ⟨c4, h⟩ | ⟨c9, h⟩
    · obtain ⟨x5, hx5, h⟩ := bnS h
      obtain ⟨r6, hr6, h⟩ := bnS h
      rcases itS h with ⟨c7, h⟩ | ⟨c8, h⟩
      · have h := Option.some.inj h
        subst h
        exact go_ret hΘ hm hP hn (hs := [⟨1, .br true, none⟩, ⟨7, .row (o85 x5), none⟩, ⟨9, .callV [[]] (B r6), none⟩, ⟨10, .br true, none⟩]) (rh := []) (ph := .raw) (ps := [(decide (v3 < (p1.length : Int))) = true, (0 : Int) ≤ v3, (p1.map o85)[(Int.toNat v3)]? = some (o85 x5), Meets Try.prog 66 [(AV.agg ((o85 x5))), (AV.rop (r80 p2) 0)] (B r6), litA (B r6) = true, r6 = true, (I v3) = (I v3), litA (I v3) = true]) (by kernel_rfl) ⟨c4, (rd0 hx5), (rdM o85 hx5), (impl_WarnsGuarded_1_m hr6), rfl, c7, rfl, rfl, trivial⟩
      · exact go_to hΘ hm hx hP hn (hs := [⟨1, .br true, none⟩, ⟨7, .row (o85 x5), none⟩, ⟨9, .callV [[]] (B r6), none⟩, ⟨10, .br false, none⟩]) (π := []) (ts := [0, 1, 7, 8]) (kp := []) (ps := [(decide (v3 < (p1.length : Int))) = true, (0 : Int) ≤ v3, (p1.map o85)[(Int.toNat v3)]? = some (o85 x5), Meets Try.prog 66 [(AV.agg ((o85 x5))), (AV.rop (r80 p2) 0)] (B r6), litA (B r6) = true, r6 = false]) (by kernel_rfl) ⟨c4, (rd0 hx5), (rdM o85 hx5), (impl_WarnsGuarded_1_m hr6), rfl, c8, trivial⟩ (ih (w64 (v3 + 1)) _ h)
    · have h := Option.some.inj h
      subst h
      exact go_ret hΘ hm hP hn (hs := [⟨1, .br false, none⟩]) (rh := []) (ph := .raw) (ps := [(decide (v3 < (p1.length : Int))) = false, (I (-1)) = (I (-1)), litA (I (-1)) = true]) (by kernel_rfl) ⟨c9, rfl, rfl, trivial⟩
noncomputable def slices_IndexFunc_Under_Under__impl_WarnsGuarded_1 (p1 : (List GUnder)) (p2 : (List GUnder)) : Option Int :=
  slices_IndexFunc_Under_Under__impl_WarnsGuarded_1_l0 p1 p2 FU 0
theorem slices_IndexFunc_Under_Under__impl_WarnsGuarded_1_m {p1 : (List GUnder)} {p2 : (List GUnder)} {r : Int} (h : slices_IndexFunc_Under_Under__impl_WarnsGuarded_1 p1 p2 = some r) : Meets Try.prog 110 [(AV.ro 4 (p1.map o85)), (AV.fn 66 [(AV.rop (r80 p2) 0)])] (I r) := by
  refine meets_ofC Θ_ok Try.func110 rfl (c := body110_106) (by kernel_rfl) (Nat.le_of_ble_eq_true rfl) ?_
  intro E hP hn hx
  replace hn : E.n = 19 := hn
  have hm : E.P.follows .mixedOrders = true := by rw [hP]; exact mixed
  have hΘ : TOK E.P Θ := by rw [hP]; exact Θ_ok
  unfold slices_IndexFunc_Under_Under__impl_WarnsGuarded_1 at h
  show WAt E body110_106 (FQ (RetE Θ Try.f110.results.toList [] [] (I r) E)) [] ⟨[(0, (AV.ro 4 (p1.map o85))), (1, (AV.fn 66 [(AV.rop (r80 p2) 0)]))], [], [JJ]⟩
  exact go_to hΘ hm hx hP hn (hs := [⟨2, .no, some (I (p1.length : Int))⟩]) (π := []) (ts := [0, 1, 7, 8]) (kp := []) (ps := [AV.lit (.int .i64 (((p1.map o85).length : Nat) : Int)) = (I (p1.length : Int))]) (by kernel_rfl) ⟨(lenM o85), trivial⟩ (slices_IndexFunc_Under_Under__impl_WarnsGuarded_1_l0_m hP hn hx p1 p2 FU 0 _ h)
noncomputable def body65_107 : Code := match Try.f65.body with | some c => c | none => .skip
noncomputable def slices_ContainsFunc_Under_Under__impl_WarnsGuarded_1 (p1 : (List GUnder)) (p2 : (List GUnder)) : Option Bool :=
  Option.bind (slices_IndexFunc_Under_Under__impl_WarnsGuarded_1 p1 p2) fun r3 =>
  some (decide (r3 ≥ 0))
theorem slices_ContainsFunc_Under_Under__impl_WarnsGuarded_1_m {p1 : (List GUnder)} {p2 : (List GUnder)} {r : Bool} (h : slices_ContainsFunc_Under_Under__impl_WarnsGuarded_1 p1 p2 = some r) : Meets Try.prog 65 [(AV.ro 4 (p1.map o85)), (AV.fn 66 [(AV.rop (r80 p2) 0)])] (B r) := by
  refine meets_ofC Θ_ok Try.func65 rfl (c := body65_107) (by kernel_rfl) (Nat.le_of_ble_eq_true rfl) ?_
  intro E hP hn hx
  replace hn : E.n = 9 := hn
  have hm : E.P.follows .mixedOrders = true := by rw [hP]; exact mixed
  have hΘ : TOK E.P Θ := by rw [hP]; exact Θ_ok
  unfold slices_ContainsFunc_Under_Under__impl_WarnsGuarded_1 at h
  show WAt E body65_107 (FQ (RetE Θ Try.f65.results.toList [] [] (B r) E)) [] ⟨[(0, (AV.ro 4 (p1.map o85))), (1, (AV.fn 66 [(AV.rop (r80 p2) 0)]))], [], [JJ]⟩
  obtain ⟨r3, hr3, h⟩ := bnS h
  have h := Option.some.inj h
  subst h
  exact go_ret hΘ hm hP hn (hs := [⟨3, .callV [] (I r3), none⟩]) (rh := []) (ph := .raw) (ps := [Meets Try.prog 110 [(AV.ro 4 (p1.map o85)), (AV.fn 66 [(AV.rop (r80 p2) 0)])] (I r3), litA (I r3) = true, (B (decide (r3 ≥ 0))) = (B (decide (r3 ≥ 0))), litA (B (decide (r3 ≥ 0))) = true]) (by kernel_rfl) ⟨(slices_IndexFunc_Under_Under__impl_WarnsGuarded_1_m hr3), rfl, rfl, rfl, trivial⟩
noncomputable def body35 : Code := match Try.f35.body with | some c => c | none => .skip
noncomputable def impl_WarnsGuarded_l0  (p1 : (List GEvent)) (r5 : (List (List Int))) : Nat → (List (List Int)) → Int → Option ((List (List Int)) × Bool)
  | 0, _, _ => none
  | n + 1, a6, v7 =>
  if (decide (v7 < (r5.length : Int))) = true then
    Option.bind (rd r5 v7) fun x9 =>
    Option.bind (rd x9 0) fun x10 =>
    Option.bind (rd x9 1) fun x11 =>
    if (decide (x10 ≥ x11)) = true then
      Option.bind (nx1 v7) fun q13 =>
      impl_WarnsGuarded_l0 p1 r5 n a6 (w64 (v7 + 1))
    else
      Option.bind (impl_gate p1 x10 x11) fun r15 =>
      Option.bind (slices_ContainsFunc_Under_Under__impl_WarnsGuarded_1 r15.1 r15.2.1) fun r16 =>
      if ((r15.2.2.length : Int) == 0) = true then
        if r16 = true then
          Option.bind (app a6 [x9]) fun l19 =>
          Option.bind (nx1 v7) fun q20 =>
          impl_WarnsGuarded_l0 p1 r5 n l19 (w64 (v7 + 1))
        else
          Option.bind (nx1 v7) fun q22 =>
          impl_WarnsGuarded_l0 p1 r5 n a6 (w64 (v7 + 1))
      else
        Option.bind (nx1 v7) fun q24 =>
        impl_WarnsGuarded_l0 p1 r5 n a6 (w64 (v7 + 1))
  else
    some (a6, true)
theorem impl_WarnsGuarded_l0_m {E : Env} (hP : E.P = Try.prog) (hn : E.n = 56) (hx : ∀ p, p ∈ E.fx → p.1 ∈ ([] : List Nat)) (p1 : (List GEvent)) (r5 : (List (List Int)))  : ∀ (n : Nat) (a6 : (List (List Int))) (v7 : Int) (r : ((List (List Int)) × Bool)), impl_WarnsGuarded_l0 p1 r5 n a6 v7 = some r → WAt E body35 (FQ (RetE Θ Try.f35.results.toList [] [] (AV.tup [(AV.own 33 1 (r.1.map o33)), (B r.2)]) E)) [true, true, true, false, true, false] ⟨[(0, (AV.ro 5 (p1.map o64))), (4, (AV.sl 1 0 (List.length (a6.map o33)))), (16, (AV.sl 2 0 (List.length (gone o33 r5 (Int.toNat v7))))), (17, (I (r5.length : Int))), (18, (I v7))], [(1, some ⟨33, 1, (a6.map o33)⟩), (2, some ⟨33, 1, (gone o33 r5 (Int.toNat v7))⟩)], [1, 2, JJ]⟩ := by
  have hm : E.P.follows .mixedOrders = true := by rw [hP]; exact mixed
  have hΘ : TOK E.P Θ := by rw [hP]; exact Θ_ok
  intro n
  induction n with
  | zero => intro a6 v7 r h; simp only [impl_WarnsGuarded_l0] at h; cases h
  | succ n ih =>
    intro a6 v7 r h
    simp only [impl_WarnsGuarded_l0] at h
    rcases itS h with ⟨c8, h⟩ | ⟨c25, h⟩
    · obtain ⟨x9, hx9, h⟩ := bnS h
      obtain ⟨x10, hx10, h⟩ := bnS h
      obtain ⟨x11, hx11, h⟩ := bnS h
      rcases itS h with ⟨c12, h⟩ | ⟨c14, h⟩
      · obtain ⟨q13, hq13, h⟩ := bnS h
        exact go_to hΘ hm hx hP hn (hs := [⟨1, .br true, none⟩, ⟨3, .unpack 2 1001 (Int.toNat v7) 0 [(AV.own 3 1 (x9.map o3))] 3 1 (x9.map o3) ((gone o33 r5 (Int.toNat v7)).set (Int.toNat v7) [(AV.sl 1001 0 (List.length (x9.map o3)))]), none⟩, ⟨3, .row [(AV.sl 1001 0 (List.length (x9.map o3)))], none⟩, ⟨7, .row [(I x10)], none⟩, ⟨10, .row [(I x11)], none⟩, ⟨12, .br true, none⟩, ⟨15, .fgt 2 (Int.toNat v7) 0 [(AV.sl 1001 0 (List.length (x9.map o3)))] (gone o33 r5 (Int.toNat (w64 (v7 + 1)))), none⟩, ⟨15, .slen 16 (List.length (gone o33 r5 (Int.toNat (w64 (v7 + 1))))), none⟩]) (π := [(1, 1), (2, 2)]) (ts := [0, 4, 16, 17, 18]) (kp := []) (ps := [(decide (v7 < (r5.length : Int))) = true, (0 : Int) ≤ v7, v7 < (((List.length (gone o33 r5 (Int.toNat v7))) : Nat) : Int), (gone o33 r5 (Int.toNat v7))[(Int.toNat v7)]? = some [(AV.own 3 1 (x9.map o3))], [(AV.own 3 1 (x9.map o3))][0]? = some (AV.own 3 1 (x9.map o3)), 0 < 1, (gone o33 r5 (Int.toNat v7)).set (Int.toNat v7) ([(AV.own 3 1 (x9.map o3))].set 0 (AV.sl 1001 0 (List.length (x9.map o3)))) = ((gone o33 r5 (Int.toNat v7)).set (Int.toNat v7) [(AV.sl 1001 0 (List.length (x9.map o3)))]), ((gone o33 r5 (Int.toNat v7)).set (Int.toNat v7) [(AV.sl 1001 0 (List.length (x9.map o3)))])[(Int.toNat v7)]? = some [(AV.sl 1001 0 (List.length (x9.map o3)))], (0 : Int) ≤ 0, 0 < (((List.length (x9.map o3)) : Nat) : Int), (x9.map o3)[(Int.toNat 0)]? = some [(I x10)], (0 : Int) ≤ 1, 1 < (((List.length (x9.map o3)) : Nat) : Int), (x9.map o3)[(Int.toNat 1)]? = some [(I x11)], (decide (x10 ≥ x11)) = true, ((gone o33 r5 (Int.toNat v7)).set (Int.toNat v7) [(AV.sl 1001 0 (List.length (x9.map o3)))])[(Int.toNat v7)]? = some [(AV.sl 1001 0 (List.length (x9.map o3)))], ((gone o33 r5 (Int.toNat v7)).set (Int.toNat v7) [(AV.sl 1001 0 (List.length (x9.map o3)))]).set (Int.toNat v7) ([(AV.sl 1001 0 (List.length (x9.map o3)))].set 0 .dead) = (gone o33 r5 (Int.toNat (w64 (v7 + 1)))), (List.length (gone o33 r5 (Int.toNat v7))) = (List.length (gone o33 r5 (Int.toNat (w64 (v7 + 1))))), RenOK [(1, 1), (2, 2)] (a6.map o33), RenOK [(1, 1), (2, 2)] (gone o33 r5 (Int.toNat (w64 (v7 + 1))))]) (by kernel_rfl) ⟨c8, (rd0 hx9), (gnL o33 hx9), (gnR o33 hx9), rfl, (by decide), rfl, (setE (gnR o33 hx9)), (rd0 hx10), (rdL o3 hx10), (rdM o3 hx10), (rd0 hx11), (rdL o3 hx11), (rdM o3 hx11), c12, (setE (gnR o33 hx9)), (gnS o33 hx9 hq13), (gnN o33 (x := [AV.dead]) hx9 hq13), (rok (treeM t33)), (rok (gnT t33)), trivial⟩ (ih a6 (w64 (v7 + 1)) _ h)
      · obtain ⟨r15, hr15, h⟩ := bnS h
        obtain ⟨r16, hr16, h⟩ := bnS h
        rcases itS h with ⟨c17, h⟩ | ⟨c23, h⟩
        · rcases itS h with ⟨c18, h⟩ | ⟨c21, h⟩
          · obtain ⟨l19, hl19, h⟩ := bnS h
            obtain ⟨q20, hq20, h⟩ := bnS h
            exact go_to hΘ hm hx hP hn (hs := [⟨1, .br true, none⟩, ⟨3, .unpack 2 1001 (Int.toNat v7) 0 [(AV.own 3 1 (x9.map o3))] 3 1 (x9.map o3) ((gone o33 r5 (Int.toNat v7)).set (Int.toNat v7) [(AV.sl 1001 0 (List.length (x9.map o3)))]), none⟩, ⟨3, .row [(AV.sl 1001 0 (List.length (x9.map o3)))], none⟩, ⟨7, .row [(I x10)], none⟩, ⟨10, .row [(I x11)], none⟩, ⟨12, .br false, none⟩, ⟨16, .row [(I x10)], none⟩, ⟨19, .row [(I x11)], none⟩, ⟨20, .call [] (AV.tup [(AV.own 85 4 (r15.1.map o85)), (AV.own 85 4 (r15.2.1.map o85)), (AV.own 3 1 (r15.2.2.map o3))]) [1002, 1003, 1004], none⟩, ⟨25, .new 1005, none⟩, ⟨31, .pack 1005 1003 0 0 [(AV.sl 1003 0 (List.length (r15.2.1.map o85)))] [[(AV.own 85 4 (r15.2.1.map o85))]], none⟩, ⟨31, .callV [(r15.1.map o85), [[(AV.own 85 4 (r15.2.1.map o85))], (r80 r15.2.1)]] (B r16), none⟩, ⟨34, .no, some (I (r15.2.2.length : Int))⟩, ⟨36, .no, some (B true)⟩, ⟨39, .br true, none⟩, ⟨42, .new 1006, none⟩, ⟨43, .app 1007 ((a6.map o33) ++ [[(AV.sl 1001 0 (List.length (x9.map o3)))]]), none⟩, ⟨44, .pack 1007 1001 (List.length a6) 0 [(AV.sl 1001 0 (List.length (x9.map o3)))] (l19.map o33), none⟩, ⟨47, .fgt 2 (Int.toNat v7) 0 [(AV.sl 1001 0 (List.length (x9.map o3)))] (gone o33 r5 (Int.toNat (w64 (v7 + 1)))), none⟩, ⟨47, .slen 4 (List.length (l19.map o33)), none⟩, ⟨47, .slen 16 (List.length (gone o33 r5 (Int.toNat (w64 (v7 + 1))))), none⟩]) (π := [(1007, 1), (2, 2)]) (ts := [0, 4, 16, 17, 18]) (kp := []) (ps := [(decide (v7 < (r5.length : Int))) = true, (0 : Int) ≤ v7, v7 < (((List.length (gone o33 r5 (Int.toNat v7))) : Nat) : Int), (gone o33 r5 (Int.toNat v7))[(Int.toNat v7)]? = some [(AV.own 3 1 (x9.map o3))], [(AV.own 3 1 (x9.map o3))][0]? = some (AV.own 3 1 (x9.map o3)), 0 < 1, (gone o33 r5 (Int.toNat v7)).set (Int.toNat v7) ([(AV.own 3 1 (x9.map o3))].set 0 (AV.sl 1001 0 (List.length (x9.map o3)))) = ((gone o33 r5 (Int.toNat v7)).set (Int.toNat v7) [(AV.sl 1001 0 (List.length (x9.map o3)))]), ((gone o33 r5 (Int.toNat v7)).set (Int.toNat v7) [(AV.sl 1001 0 (List.length (x9.map o3)))])[(Int.toNat v7)]? = some [(AV.sl 1001 0 (List.length (x9.map o3)))], (0 : Int) ≤ 0, 0 < (((List.length (x9.map o3)) : Nat) : Int), (x9.map o3)[(Int.toNat 0)]? = some [(I x10)], (0 : Int) ≤ 1, 1 < (((List.length (x9.map o3)) : Nat) : Int), (x9.map o3)[(Int.toNat 1)]? = some [(I x11)], (decide (x10 ≥ x11)) = false, (AV.ro 5 (p1.map o64)) = (AV.ro 5 (p1.map o64)), (AV.ro 5 (p1.map o64)) = (AV.ro 5 (p1.map o64)), (AV.sl 1001 0 (List.length (x9.map o3))) = (AV.sl 1001 0 (List.length (x9.map o3))), (AV.sl 1001 0 (List.length (x9.map o3))) = (AV.sl 1001 0 (List.length (x9.map o3))), (AV.ptr 1001 (Int.toNat 0) 0) = (AV.ptr 1001 (Int.toNat 0) 0), (0 : Int) ≤ 0, 0 < (((List.length (x9.map o3)) : Nat) : Int), (AV.ptr 1001 (Int.toNat 0) 0) = (AV.ptr 1001 (Int.toNat 0) 0), (0 : Int) ≤ 0, 0 < (((List.length (x9.map o3)) : Nat) : Int), (I x10) = (I x10), (x9.map o3)[(Int.toNat 0)]? = some [(I x10)], (I x10) = (I x10), (x9.map o3)[(Int.toNat 0)]? = some [(I x10)], (AV.sl 1001 0 (List.length (x9.map o3))) = (AV.sl 1001 0 (List.length (x9.map o3))), (AV.sl 1001 0 (List.length (x9.map o3))) = (AV.sl 1001 0 (List.length (x9.map o3))), (AV.ptr 1001 (Int.toNat 1) 0) = (AV.ptr 1001 (Int.toNat 1) 0), (0 : Int) ≤ 1, 1 < (((List.length (x9.map o3)) : Nat) : Int), (AV.ptr 1001 (Int.toNat 1) 0) = (AV.ptr 1001 (Int.toNat 1) 0), (0 : Int) ≤ 1, 1 < (((List.length (x9.map o3)) : Nat) : Int), (I x11) = (I x11), (x9.map o3)[(Int.toNat 1)]? = some [(I x11)], (I x11) = (I x11), (x9.map o3)[(Int.toNat 1)]? = some [(I x11)], (AV.tup [(AV.sl 1002 0 (List.length (r15.1.map o85))), (AV.sl 1003 0 (List.length (r15.2.1.map o85))), (AV.sl 1004 0 (List.length (r15.2.2.map o3)))]) = (AV.tup [(AV.sl 1002 0 (List.length (r15.1.map o85))), (AV.sl 1003 0 (List.length (r15.2.1.map o85))), (AV.sl 1004 0 (List.length (r15.2.2.map o3)))]), (((rtf (AV.tup [(AV.own 85 4 (r15.1.map o85)), (AV.own 85 4 (r15.2.1.map o85)), (AV.own 3 1 (r15.2.2.map o3))]) [1002, 1003, 1004]).2.1).map sm) = (((rtf (AV.tup [(AV.own 85 4 (r15.1.map o85)), (AV.own 85 4 (r15.2.1.map o85)), (AV.own 3 1 (r15.2.2.map o3))]) [1002, 1003, 1004]).2.1).map sm), Meets Try.prog 64 [(AV.ro 5 (p1.map o64)), (I x10), (I x11)] (AV.tup [(AV.own 85 4 (r15.1.map o85)), (AV.own 85 4 (r15.2.1.map o85)), (AV.own 3 1 (r15.2.2.map o3))]), noRo (AV.tup [(AV.own 85 4 (r15.1.map o85)), (AV.own 85 4 (r15.2.1.map o85)), (AV.own 3 1 (r15.2.2.map o3))]) = true, (AV.tup [(AV.sl 1002 0 (List.length (r15.1.map o85))), (AV.sl 1003 0 (List.length (r15.2.1.map o85))), (AV.sl 1004 0 (List.length (r15.2.2.map o3)))]) = (AV.tup [(AV.sl 1002 0 (List.length (r15.1.map o85))), (AV.sl 1003 0 (List.length (r15.2.1.map o85))), (AV.sl 1004 0 (List.length (r15.2.2.map o3)))]), (((rtf (AV.tup [(AV.own 85 4 (r15.1.map o85)), (AV.own 85 4 (r15.2.1.map o85)), (AV.own 3 1 (r15.2.2.map o3))]) [1002, 1003, 1004]).2.1).map sm) = (((rtf (AV.tup [(AV.own 85 4 (r15.1.map o85)), (AV.own 85 4 (r15.2.1.map o85)), (AV.own 3 1 (r15.2.2.map o3))]) [1002, 1003, 1004]).2.1).map sm), Meets Try.prog 64 [(AV.ro 5 (p1.map o64)), (I x10), (I x11)] (AV.tup [(AV.own 85 4 (r15.1.map o85)), (AV.own 85 4 (r15.2.1.map o85)), (AV.own 3 1 (r15.2.2.map o3))]), noRo (AV.tup [(AV.own 85 4 (r15.1.map o85)), (AV.own 85 4 (r15.2.1.map o85)), (AV.own 3 1 (r15.2.2.map o3))]) = true, (AV.tup [(AV.sl 1002 0 (List.length (r15.1.map o85))), (AV.sl 1003 0 (List.length (r15.2.1.map o85))), (AV.sl 1004 0 (List.length (r15.2.2.map o3)))]) = (AV.tup [(AV.sl 1002 0 (List.length (r15.1.map o85))), (AV.sl 1003 0 (List.length (r15.2.1.map o85))), (AV.sl 1004 0 (List.length (r15.2.2.map o3)))]), (AV.tup [(AV.sl 1002 0 (List.length (r15.1.map o85))), (AV.sl 1003 0 (List.length (r15.2.1.map o85))), (AV.sl 1004 0 (List.length (r15.2.2.map o3)))]) = (AV.tup [(AV.sl 1002 0 (List.length (r15.1.map o85))), (AV.sl 1003 0 (List.length (r15.2.1.map o85))), (AV.sl 1004 0 (List.length (r15.2.2.map o3)))]), (AV.sl 1002 0 (List.length (r15.1.map o85))) = (AV.sl 1002 0 (List.length (r15.1.map o85))), (AV.sl 1002 0 (List.length (r15.1.map o85))) = (AV.sl 1002 0 (List.length (r15.1.map o85))), (AV.sl 1003 0 (List.length (r15.2.1.map o85))) = (AV.sl 1003 0 (List.length (r15.2.1.map o85))), (AV.sl 1003 0 (List.length (r15.2.1.map o85))) = (AV.sl 1003 0 (List.length (r15.2.1.map o85))), (AV.sl 1004 0 (List.length (r15.2.2.map o3))) = (AV.sl 1004 0 (List.length (r15.2.2.map o3))), (AV.sl 1004 0 (List.length (r15.2.2.map o3))) = (AV.sl 1004 0 (List.length (r15.2.2.map o3))), (AV.sl 1004 0 (List.length (r15.2.2.map o3))) = (AV.sl 1004 0 (List.length (r15.2.2.map o3))), (AV.ptr 1005 0 0) = (AV.ptr 1005 0 0), ([(1005, (⟨80, 1, [[(AV.lit (.slice none 0 0))]]⟩ : Root))].map sm) = ([(1005, (⟨80, 1, [[(AV.lit (.slice none 0 0))]]⟩ : Root))].map sm), (AV.ptr 1005 0 0) = (AV.ptr 1005 0 0), ([(1005, (⟨80, 1, [[(AV.lit (.slice none 0 0))]]⟩ : Root))].map sm) = ([(1005, (⟨80, 1, [[(AV.lit (.slice none 0 0))]]⟩ : Root))].map sm), (AV.sl 1002 0 (List.length (r15.1.map o85))) = (AV.sl 1002 0 (List.length (r15.1.map o85))), [(1005, some (⟨80, 1, [[(AV.sl 1003 0 (List.length (r15.2.1.map o85)))]]⟩ : Root))] = [(1005, some (⟨80, 1, [[(AV.sl 1003 0 (List.length (r15.2.1.map o85)))]]⟩ : Root))], [[(AV.sl 1003 0 (List.length (r15.2.1.map o85)))]][0]? = some [(AV.sl 1003 0 (List.length (r15.2.1.map o85)))], [(AV.sl 1003 0 (List.length (r15.2.1.map o85)))][0]? = some (AV.sl 1003 0 (List.length (r15.2.1.map o85))), treeLL (r15.2.1.map o85) = true, [[(AV.sl 1003 0 (List.length (r15.2.1.map o85)))]].set 0 ([(AV.sl 1003 0 (List.length (r15.2.1.map o85)))].set 0 (AV.own 85 4 (r15.2.1.map o85))) = [[(AV.own 85 4 (r15.2.1.map o85))]], Meets Try.prog 65 [(AV.ro 4 (r15.1.map o85)), (AV.fn 66 [(AV.rop (r80 r15.2.1) 0)])] (B r16), litA (B r16) = true, Frz (((r15.1.map o85).drop 0).take (List.length (r15.1.map o85))) (r15.1.map o85), [[(AV.own 85 4 (r15.2.1.map o85))]][0]? = some [(AV.own 85 4 (r15.2.1.map o85))], treeL [(AV.own 85 4 (r15.2.1.map o85))] = true, frzL [(AV.own 85 4 (r15.2.1.map o85))] = (r80 r15.2.1), AV.lit (.int .i64 (((List.length (r15.2.2.map o3)) : Nat) : Int)) = (I (r15.2.2.length : Int)), (B ((r15.2.2.length : Int) == 0)) = (B true), r16 = true, (a6.map o33).take (List.length (a6.map o33)) ++ [[(AV.sl 1001 0 (List.length (x9.map o3)))]] = ((a6.map o33) ++ [[(AV.sl 1001 0 (List.length (x9.map o3)))]]), [[(AV.sl 1001 0 (List.length (x9.map o3)))]].all (fun r => r.all AV.plain) = true, (List.length ((a6.map o33) ++ [[(AV.sl 1001 0 (List.length (x9.map o3)))]])) * 24 ≤ 140737488355328, (List.length ((a6.map o33) ++ [[(AV.sl 1001 0 (List.length (x9.map o3)))]])) ≤ 140737488355328, ((a6.map o33) ++ [[(AV.sl 1001 0 (List.length (x9.map o3)))]])[(List.length a6)]? = some [(AV.sl 1001 0 (List.length (x9.map o3)))], [(AV.sl 1001 0 (List.length (x9.map o3)))][0]? = some (AV.sl 1001 0 (List.length (x9.map o3))), treeLL (x9.map o3) = true, ((a6.map o33) ++ [[(AV.sl 1001 0 (List.length (x9.map o3)))]]).set (List.length a6) ([(AV.sl 1001 0 (List.length (x9.map o3)))].set 0 (AV.own 3 1 (x9.map o3))) = (l19.map o33), ((gone o33 r5 (Int.toNat v7)).set (Int.toNat v7) [(AV.sl 1001 0 (List.length (x9.map o3)))])[(Int.toNat v7)]? = some [(AV.sl 1001 0 (List.length (x9.map o3)))], ((gone o33 r5 (Int.toNat v7)).set (Int.toNat v7) [(AV.sl 1001 0 (List.length (x9.map o3)))]).set (Int.toNat v7) ([(AV.sl 1001 0 (List.length (x9.map o3)))].set 0 .dead) = (gone o33 r5 (Int.toNat (w64 (v7 + 1)))), (List.length ((a6.map o33) ++ [[(AV.sl 1001 0 (List.length (x9.map o3)))]])) = (List.length (l19.map o33)), (List.length (gone o33 r5 (Int.toNat v7))) = (List.length (gone o33 r5 (Int.toNat (w64 (v7 + 1))))), RenOK [(1007, 1), (2, 2)] (l19.map o33), RenOK [(1007, 1), (2, 2)] (gone o33 r5 (Int.toNat (w64 (v7 + 1))))]) (by kernel_rfl) ⟨c8, (rd0 hx9), (gnL o33 hx9), (gnR o33 hx9), rfl, (by decide), rfl, (setE (gnR o33 hx9)), (rd0 hx10), (rdL o3 hx10), (rdM o3 hx10), (rd0 hx11), (rdL o3 hx11), (rdM o3 hx11), c14, rfl, rfl, rfl, rfl, rfl, (rd0 hx10), (rdL o3 hx10), rfl, (rd0 hx10), (rdL o3 hx10), rfl, (rdM o3 hx10), rfl, (rdM o3 hx10), rfl, rfl, rfl, (rd0 hx11), (rdL o3 hx11), rfl, (rd0 hx11), (rdL o3 hx11), rfl, (rdM o3 hx11), rfl, (rdM o3 hx11), rfl, rfl, (impl_gate_m hr15), (by simp only [noRo, noRoL, noRoM n3, noRoM n85, Bool.and_self]), rfl, rfl, (impl_gate_m hr15), (by simp only [noRo, noRoL, noRoM n3, noRoM n85, Bool.and_self]), rfl, rfl, rfl, rfl, rfl, rfl, rfl, rfl, rfl, rfl, rfl, rfl, rfl, rfl, rfl, rfl, rfl, (treeM t85), rfl, (slices_ContainsFunc_Under_Under__impl_WarnsGuarded_1_m hr16), rfl, (frzF t85 z85), rfl, rfl, (z80 r15.2.1), (lenM o3), (litB c17), c18, (apT o33), rfl, (apB o33 hl19 (by decide)), (apC o33 hl19), (apG o33), rfl, (treeM t3), (apS o33 hl19), (setE (gnR o33 hx9)), (gnS o33 hx9 hq20), (apLn o33 hl19), (gnN o33 (x := [AV.dead]) hx9 hq20), (rok (treeM t33)), (rok (gnT t33)), trivial⟩ (ih l19 (w64 (v7 + 1)) _ h)
          · obtain ⟨q22, hq22, h⟩ := bnS h
            exact go_to hΘ hm hx hP hn (hs := [⟨1, .br true, none⟩, ⟨3, .unpack 2 1001 (Int.toNat v7) 0 [(AV.own 3 1 (x9.map o3))] 3 1 (x9.map o3) ((gone o33 r5 (Int.toNat v7)).set (Int.toNat v7) [(AV.sl 1001 0 (List.length (x9.map o3)))]), none⟩, ⟨3, .row [(AV.sl 1001 0 (List.length (x9.map o3)))], none⟩, ⟨7, .row [(I x10)], none⟩, ⟨10, .row [(I x11)], none⟩, ⟨12, .br false, none⟩, ⟨16, .row [(I x10)], none⟩, ⟨19, .row [(I x11)], none⟩, ⟨20, .call [] (AV.tup [(AV.own 85 4 (r15.1.map o85)), (AV.own 85 4 (r15.2.1.map o85)), (AV.own 3 1 (r15.2.2.map o3))]) [1002, 1003, 1004], none⟩, ⟨25, .new 1005, none⟩, ⟨31, .pack 1005 1003 0 0 [(AV.sl 1003 0 (List.length (r15.2.1.map o85)))] [[(AV.own 85 4 (r15.2.1.map o85))]], none⟩, ⟨31, .callV [(r15.1.map o85), [[(AV.own 85 4 (r15.2.1.map o85))], (r80 r15.2.1)]] (B r16), none⟩, ⟨34, .no, some (I (r15.2.2.length : Int))⟩, ⟨36, .no, some (B true)⟩, ⟨39, .br false, none⟩, ⟨42, .fgt 2 (Int.toNat v7) 0 [(AV.sl 1001 0 (List.length (x9.map o3)))] (gone o33 r5 (Int.toNat (w64 (v7 + 1)))), none⟩, ⟨42, .slen 16 (List.length (gone o33 r5 (Int.toNat (w64 (v7 + 1))))), none⟩]) (π := [(1, 1), (2, 2)]) (ts := [0, 4, 16, 17, 18]) (kp := []) (ps := [(decide (v7 < (r5.length : Int))) = true, (0 : Int) ≤ v7, v7 < (((List.length (gone o33 r5 (Int.toNat v7))) : Nat) : Int), (gone o33 r5 (Int.toNat v7))[(Int.toNat v7)]? = some [(AV.own 3 1 (x9.map o3))], [(AV.own 3 1 (x9.map o3))][0]? = some (AV.own 3 1 (x9.map o3)), 0 < 1, (gone o33 r5 (Int.toNat v7)).set (Int.toNat v7) ([(AV.own 3 1 (x9.map o3))].set 0 (AV.sl 1001 0 (List.length (x9.map o3)))) = ((gone o33 r5 (Int.toNat v7)).set (Int.toNat v7) [(AV.sl 1001 0 (List.length (x9.map o3)))]), ((gone o33 r5 (Int.toNat v7)).set (Int.toNat v7) [(AV.sl 1001 0 (List.length (x9.map o3)))])[(Int.toNat v7)]? = some [(AV.sl 1001 0 (List.length (x9.map o3)))], (0 : Int) ≤ 0, 0 < (((List.length (x9.map o3)) : Nat) : Int), (x9.map o3)[(Int.toNat 0)]? = some [(I x10)], (0 : Int) ≤ 1, 1 < (((List.length (x9.map o3)) : Nat) : Int), (x9.map o3)[(Int.toNat 1)]? = some [(I x11)], (decide (x10 ≥ x11)) = false, (AV.ro 5 (p1.map o64)) = (AV.ro 5 (p1.map o64)), (AV.ro 5 (p1.map o64)) = (AV.ro 5 (p1.map o64)), (AV.sl 1001 0 (List.length (x9.map o3))) = (AV.sl 1001 0 (List.length (x9.map o3))), (AV.sl 1001 0 (List.length (x9.map o3))) = (AV.sl 1001 0 (List.length (x9.map o3))), (AV.ptr 1001 (Int.toNat 0) 0) = (AV.ptr 1001 (Int.toNat 0) 0), (0 : Int) ≤ 0, 0 < (((List.length (x9.map o3)) : Nat) : Int), (AV.ptr 1001 (Int.toNat 0) 0) = (AV.ptr 1001 (Int.toNat 0) 0), (0 : Int) ≤ 0, 0 < (((List.length (x9.map o3)) : Nat) : Int), (I x10) = (I x10), (x9.map o3)[(Int.toNat 0)]? = some [(I x10)], (I x10) = (I x10), (x9.map o3)[(Int.toNat 0)]? = some [(I x10)], (AV.sl 1001 0 (List.length (x9.map o3))) = (AV.sl 1001 0 (List.length (x9.map o3))), (AV.sl 1001 0 (List.length (x9.map o3))) = (AV.sl 1001 0 (List.length (x9.map o3))), (AV.ptr 1001 (Int.toNat 1) 0) = (AV.ptr 1001 (Int.toNat 1) 0), (0 : Int) ≤ 1, 1 < (((List.length (x9.map o3)) : Nat) : Int), (AV.ptr 1001 (Int.toNat 1) 0) = (AV.ptr 1001 (Int.toNat 1) 0), (0 : Int) ≤ 1, 1 < (((List.length (x9.map o3)) : Nat) : Int), (I x11) = (I x11), (x9.map o3)[(Int.toNat 1)]? = some [(I x11)], (I x11) = (I x11), (x9.map o3)[(Int.toNat 1)]? = some [(I x11)], (AV.tup [(AV.sl 1002 0 (List.length (r15.1.map o85))), (AV.sl 1003 0 (List.length (r15.2.1.map o85))), (AV.sl 1004 0 (List.length (r15.2.2.map o3)))]) = (AV.tup [(AV.sl 1002 0 (List.length (r15.1.map o85))), (AV.sl 1003 0 (List.length (r15.2.1.map o85))), (AV.sl 1004 0 (List.length (r15.2.2.map o3)))]), (((rtf (AV.tup [(AV.own 85 4 (r15.1.map o85)), (AV.own 85 4 (r15.2.1.map o85)), (AV.own 3 1 (r15.2.2.map o3))]) [1002, 1003, 1004]).2.1).map sm) = (((rtf (AV.tup [(AV.own 85 4 (r15.1.map o85)), (AV.own 85 4 (r15.2.1.map o85)), (AV.own 3 1 (r15.2.2.map o3))]) [1002, 1003, 1004]).2.1).map sm), Meets Try.prog 64 [(AV.ro 5 (p1.map o64)), (I x10), (I x11)] (AV.tup [(AV.own 85 4 (r15.1.map o85)), (AV.own 85 4 (r15.2.1.map o85)), (AV.own 3 1 (r15.2.2.map o3))]), noRo (AV.tup [(AV.own 85 4 (r15.1.map o85)), (AV.own 85 4 (r15.2.1.map o85)), (AV.own 3 1 (r15.2.2.map o3))]) = true, (AV.tup [(AV.sl 1002 0 (List.length (r15.1.map o85))), (AV.sl 1003 0 (List.length (r15.2.1.map o85))), (AV.sl 1004 0 (List.length (r15.2.2.map o3)))]) = (AV.tup [(AV.sl 1002 0 (List.length (r15.1.map o85))), (AV.sl 1003 0 (List.length (r15.2.1.map o85))), (AV.sl 1004 0 (List.length (r15.2.2.map o3)))]), (((rtf (AV.tup [(AV.own 85 4 (r15.1.map o85)), (AV.own 85 4 (r15.2.1.map o85)), (AV.own 3 1 (r15.2.2.map o3))]) [1002, 1003, 1004]).2.1).map sm) = (((rtf (AV.tup [(AV.own 85 4 (r15.1.map o85)), (AV.own 85 4 (r15.2.1.map o85)), (AV.own 3 1 (r15.2.2.map o3))]) [1002, 1003, 1004]).2.1).map sm), Meets Try.prog 64 [(AV.ro 5 (p1.map o64)), (I x10), (I x11)] (AV.tup [(AV.own 85 4 (r15.1.map o85)), (AV.own 85 4 (r15.2.1.map o85)), (AV.own 3 1 (r15.2.2.map o3))]), noRo (AV.tup [(AV.own 85 4 (r15.1.map o85)), (AV.own 85 4 (r15.2.1.map o85)), (AV.own 3 1 (r15.2.2.map o3))]) = true, (AV.tup [(AV.sl 1002 0 (List.length (r15.1.map o85))), (AV.sl 1003 0 (List.length (r15.2.1.map o85))), (AV.sl 1004 0 (List.length (r15.2.2.map o3)))]) = (AV.tup [(AV.sl 1002 0 (List.length (r15.1.map o85))), (AV.sl 1003 0 (List.length (r15.2.1.map o85))), (AV.sl 1004 0 (List.length (r15.2.2.map o3)))]), (AV.tup [(AV.sl 1002 0 (List.length (r15.1.map o85))), (AV.sl 1003 0 (List.length (r15.2.1.map o85))), (AV.sl 1004 0 (List.length (r15.2.2.map o3)))]) = (AV.tup [(AV.sl 1002 0 (List.length (r15.1.map o85))), (AV.sl 1003 0 (List.length (r15.2.1.map o85))), (AV.sl 1004 0 (List.length (r15.2.2.map o3)))]), (AV.sl 1002 0 (List.length (r15.1.map o85))) = (AV.sl 1002 0 (List.length (r15.1.map o85))), (AV.sl 1002 0 (List.length (r15.1.map o85))) = (AV.sl 1002 0 (List.length (r15.1.map o85))), (AV.sl 1003 0 (List.length (r15.2.1.map o85))) = (AV.sl 1003 0 (List.length (r15.2.1.map o85))), (AV.sl 1003 0 (List.length (r15.2.1.map o85))) = (AV.sl 1003 0 (List.length (r15.2.1.map o85))), (AV.sl 1004 0 (List.length (r15.2.2.map o3))) = (AV.sl 1004 0 (List.length (r15.2.2.map o3))), (AV.sl 1004 0 (List.length (r15.2.2.map o3))) = (AV.sl 1004 0 (List.length (r15.2.2.map o3))), (AV.sl 1004 0 (List.length (r15.2.2.map o3))) = (AV.sl 1004 0 (List.length (r15.2.2.map o3))), (AV.ptr 1005 0 0) = (AV.ptr 1005 0 0), ([(1005, (⟨80, 1, [[(AV.lit (.slice none 0 0))]]⟩ : Root))].map sm) = ([(1005, (⟨80, 1, [[(AV.lit (.slice none 0 0))]]⟩ : Root))].map sm), (AV.ptr 1005 0 0) = (AV.ptr 1005 0 0), ([(1005, (⟨80, 1, [[(AV.lit (.slice none 0 0))]]⟩ : Root))].map sm) = ([(1005, (⟨80, 1, [[(AV.lit (.slice none 0 0))]]⟩ : Root))].map sm), (AV.sl 1002 0 (List.length (r15.1.map o85))) = (AV.sl 1002 0 (List.length (r15.1.map o85))), [(1005, some (⟨80, 1, [[(AV.sl 1003 0 (List.length (r15.2.1.map o85)))]]⟩ : Root))] = [(1005, some (⟨80, 1, [[(AV.sl 1003 0 (List.length (r15.2.1.map o85)))]]⟩ : Root))], [[(AV.sl 1003 0 (List.length (r15.2.1.map o85)))]][0]? = some [(AV.sl 1003 0 (List.length (r15.2.1.map o85)))], [(AV.sl 1003 0 (List.length (r15.2.1.map o85)))][0]? = some (AV.sl 1003 0 (List.length (r15.2.1.map o85))), treeLL (r15.2.1.map o85) = true, [[(AV.sl 1003 0 (List.length (r15.2.1.map o85)))]].set 0 ([(AV.sl 1003 0 (List.length (r15.2.1.map o85)))].set 0 (AV.own 85 4 (r15.2.1.map o85))) = [[(AV.own 85 4 (r15.2.1.map o85))]], Meets Try.prog 65 [(AV.ro 4 (r15.1.map o85)), (AV.fn 66 [(AV.rop (r80 r15.2.1) 0)])] (B r16), litA (B r16) = true, Frz (((r15.1.map o85).drop 0).take (List.length (r15.1.map o85))) (r15.1.map o85), [[(AV.own 85 4 (r15.2.1.map o85))]][0]? = some [(AV.own 85 4 (r15.2.1.map o85))], treeL [(AV.own 85 4 (r15.2.1.map o85))] = true, frzL [(AV.own 85 4 (r15.2.1.map o85))] = (r80 r15.2.1), AV.lit (.int .i64 (((List.length (r15.2.2.map o3)) : Nat) : Int)) = (I (r15.2.2.length : Int)), (B ((r15.2.2.length : Int) == 0)) = (B true), r16 = false, ((gone o33 r5 (Int.toNat v7)).set (Int.toNat v7) [(AV.sl 1001 0 (List.length (x9.map o3)))])[(Int.toNat v7)]? = some [(AV.sl 1001 0 (List.length (x9.map o3)))], ((gone o33 r5 (Int.toNat v7)).set (Int.toNat v7) [(AV.sl 1001 0 (List.length (x9.map o3)))]).set (Int.toNat v7) ([(AV.sl 1001 0 (List.length (x9.map o3)))].set 0 .dead) = (gone o33 r5 (Int.toNat (w64 (v7 + 1)))), (List.length (gone o33 r5 (Int.toNat v7))) = (List.length (gone o33 r5 (Int.toNat (w64 (v7 + 1))))), RenOK [(1, 1), (2, 2)] (a6.map o33), RenOK [(1, 1), (2, 2)] (gone o33 r5 (Int.toNat (w64 (v7 + 1))))]) (by kernel_rfl) ⟨c8, (rd0 hx9), (gnL o33 hx9), (gnR o33 hx9), rfl, (by decide), rfl, (setE (gnR o33 hx9)), (rd0 hx10), (rdL o3 hx10), (rdM o3 hx10), (rd0 hx11), (rdL o3 hx11), (rdM o3 hx11), c14, rfl, rfl, rfl, rfl, rfl, (rd0 hx10), (rdL o3 hx10), rfl, (rd0 hx10), (rdL o3 hx10), rfl, (rdM o3 hx10), rfl, (rdM o3 hx10), rfl, rfl, rfl, (rd0 hx11), (rdL o3 hx11), rfl, (rd0 hx11), (rdL o3 hx11), rfl, (rdM o3 hx11), rfl, (rdM o3 hx11), rfl, rfl, (impl_gate_m hr15), (by simp only [noRo, noRoL, noRoM n3, noRoM n85, Bool.and_self]), rfl, rfl, (impl_gate_m hr15), (by simp only [noRo, noRoL, noRoM n3, noRoM n85, Bool.and_self]), rfl, rfl, rfl, rfl, rfl, rfl, rfl, rfl, rfl, rfl, rfl, rfl, rfl, rfl, rfl, rfl, rfl, (treeM t85), rfl, (slices_ContainsFunc_Under_Under__impl_WarnsGuarded_1_m hr16), rfl, (frzF t85 z85), rfl, rfl, (z80 r15.2.1), (lenM o3), (litB c17), c21, (setE (gnR o33 hx9)), (gnS o33 hx9 hq22), (gnN o33 (x := [AV.dead]) hx9 hq22), (rok (treeM t33)), (rok (gnT t33)), trivial⟩ (ih a6 (w64 (v7 + 1)) _ h)
        · obtain ⟨q24, hq24, h⟩ := bnS h
          exact go_to hΘ hm hx hP hn (hs := [⟨1, .br true, none⟩, ⟨3, .unpack 2 1001 (Int.toNat v7) 0 [(AV.own 3 1 (x9.map o3))] 3 1 (x9.map o3) ((gone o33 r5 (Int.toNat v7)).set (Int.toNat v7) [(AV.sl 1001 0 (List.length (x9.map o3)))]), none⟩, ⟨3, .row [(AV.sl 1001 0 (List.length (x9.map o3)))], none⟩, ⟨7, .row [(I x10)], none⟩, ⟨10, .row [(I x11)], none⟩, ⟨12, .br false, none⟩, ⟨16, .row [(I x10)], none⟩, ⟨19, .row [(I x11)], none⟩, ⟨20, .call [] (AV.tup [(AV.own 85 4 (r15.1.map o85)), (AV.own 85 4 (r15.2.1.map o85)), (AV.own 3 1 (r15.2.2.map o3))]) [1002, 1003, 1004], none⟩, ⟨25, .new 1005, none⟩, ⟨31, .pack 1005 1003 0 0 [(AV.sl 1003 0 (List.length (r15.2.1.map o85)))] [[(AV.own 85 4 (r15.2.1.map o85))]], none⟩, ⟨31, .callV [(r15.1.map o85), [[(AV.own 85 4 (r15.2.1.map o85))], (r80 r15.2.1)]] (B r16), none⟩, ⟨34, .no, some (I (r15.2.2.length : Int))⟩, ⟨36, .no, some (B false)⟩, ⟨42, .fgt 2 (Int.toNat v7) 0 [(AV.sl 1001 0 (List.length (x9.map o3)))] (gone o33 r5 (Int.toNat (w64 (v7 + 1)))), none⟩, ⟨42, .slen 16 (List.length (gone o33 r5 (Int.toNat (w64 (v7 + 1))))), none⟩]) (π := [(1, 1), (2, 2)]) (ts := [0, 4, 16, 17, 18]) (kp := []) (ps := [(decide (v7 < (r5.length : Int))) = true, (0 : Int) ≤ v7, v7 < (((List.length (gone o33 r5 (Int.toNat v7))) : Nat) : Int), (gone o33 r5 (Int.toNat v7))[(Int.toNat v7)]? = some [(AV.own 3 1 (x9.map o3))], [(AV.own 3 1 (x9.map o3))][0]? = some (AV.own 3 1 (x9.map o3)), 0 < 1, (gone o33 r5 (Int.toNat v7)).set (Int.toNat v7) ([(AV.own 3 1 (x9.map o3))].set 0 (AV.sl 1001 0 (List.length (x9.map o3)))) = ((gone o33 r5 (Int.toNat v7)).set (Int.toNat v7) [(AV.sl 1001 0 (List.length (x9.map o3)))]), ((gone o33 r5 (Int.toNat v7)).set (Int.toNat v7) [(AV.sl 1001 0 (List.length (x9.map o3)))])[(Int.toNat v7)]? = some [(AV.sl 1001 0 (List.length (x9.map o3)))], (0 : Int) ≤ 0, 0 < (((List.length (x9.map o3)) : Nat) : Int), (x9.map o3)[(Int.toNat 0)]? = some [(I x10)], (0 : Int) ≤ 1, 1 < (((List.length (x9.map o3)) : Nat) : Int), (x9.map o3)[(Int.toNat 1)]? = some [(I x11)], (decide (x10 ≥ x11)) = false, (AV.ro 5 (p1.map o64)) = (AV.ro 5 (p1.map o64)), (AV.ro 5 (p1.map o64)) = (AV.ro 5 (p1.map o64)), (AV.sl 1001 0 (List.length (x9.map o3))) = (AV.sl 1001 0 (List.length (x9.map o3))), (AV.sl 1001 0 (List.length (x9.map o3))) = (AV.sl 1001 0 (List.length (x9.map o3))), (AV.ptr 1001 (Int.toNat 0) 0) = (AV.ptr 1001 (Int.toNat 0) 0), (0 : Int) ≤ 0, 0 < (((List.length (x9.map o3)) : Nat) : Int), (AV.ptr 1001 (Int.toNat 0) 0) = (AV.ptr 1001 (Int.toNat 0) 0), (0 : Int) ≤ 0, 0 < (((List.length (x9.map o3)) : Nat) : Int), (I x10) = (I x10), (x9.map o3)[(Int.toNat 0)]? = some [(I x10)], (I x10) = (I x10), (x9.map o3)[(Int.toNat 0)]? = some [(I x10)], (AV.sl 1001 0 (List.length (x9.map o3))) = (AV.sl 1001 0 (List.length (x9.map o3))), (AV.sl 1001 0 (List.length (x9.map o3))) = (AV.sl 1001 0 (List.length (x9.map o3))), (AV.ptr 1001 (Int.toNat 1) 0) = (AV.ptr 1001 (Int.toNat 1) 0), (0 : Int) ≤ 1, 1 < (((List.length (x9.map o3)) : Nat) : Int), (AV.ptr 1001 (Int.toNat 1) 0) = (AV.ptr 1001 (Int.toNat 1) 0), (0 : Int) ≤ 1, 1 < (((List.length (x9.map o3)) : Nat) : Int), (I x11) = (I x11), (x9.map o3)[(Int.toNat 1)]? = some [(I x11)], (I x11) = (I x11), (x9.map o3)[(Int.toNat 1)]? = some [(I x11)], (AV.tup [(AV.sl 1002 0 (List.length (r15.1.map o85))), (AV.sl 1003 0 (List.length (r15.2.1.map o85))), (AV.sl 1004 0 (List.length (r15.2.2.map o3)))]) = (AV.tup [(AV.sl 1002 0 (List.length (r15.1.map o85))), (AV.sl 1003 0 (List.length (r15.2.1.map o85))), (AV.sl 1004 0 (List.length (r15.2.2.map o3)))]), (((rtf (AV.tup [(AV.own 85 4 (r15.1.map o85)), (AV.own 85 4 (r15.2.1.map o85)), (AV.own 3 1 (r15.2.2.map o3))]) [1002, 1003, 1004]).2.1).map sm) = (((rtf (AV.tup [(AV.own 85 4 (r15.1.map o85)), (AV.own 85 4 (r15.2.1.map o85)), (AV.own 3 1 (r15.2.2.map o3))]) [1002, 1003, 1004]).2.1).map sm), Meets Try.prog 64 [(AV.ro 5 (p1.map o64)), (I x10), (I x11)] (AV.tup [(AV.own 85 4 (r15.1.map o85)), (AV.own 85 4 (r15.2.1.map o85)), (AV.own 3 1 (r15.2.2.map o3))]), noRo (AV.tup [(AV.own 85 4 (r15.1.map o85)), (AV.own 85 4 (r15.2.1.map o85)), (AV.own 3 1 (r15.2.2.map o3))]) = true, (AV.tup [(AV.sl 1002 0 (List.length (r15.1.map o85))), (AV.sl 1003 0 (List.length (r15.2.1.map o85))), (AV.sl 1004 0 (List.length (r15.2.2.map o3)))]) = (AV.tup [(AV.sl 1002 0 (List.length (r15.1.map o85))), (AV.sl 1003 0 (List.length (r15.2.1.map o85))), (AV.sl 1004 0 (List.length (r15.2.2.map o3)))]), (((rtf (AV.tup [(AV.own 85 4 (r15.1.map o85)), (AV.own 85 4 (r15.2.1.map o85)), (AV.own 3 1 (r15.2.2.map o3))]) [1002, 1003, 1004]).2.1).map sm) = (((rtf (AV.tup [(AV.own 85 4 (r15.1.map o85)), (AV.own 85 4 (r15.2.1.map o85)), (AV.own 3 1 (r15.2.2.map o3))]) [1002, 1003, 1004]).2.1).map sm), Meets Try.prog 64 [(AV.ro 5 (p1.map o64)), (I x10), (I x11)] (AV.tup [(AV.own 85 4 (r15.1.map o85)), (AV.own 85 4 (r15.2.1.map o85)), (AV.own 3 1 (r15.2.2.map o3))]), noRo (AV.tup [(AV.own 85 4 (r15.1.map o85)), (AV.own 85 4 (r15.2.1.map o85)), (AV.own 3 1 (r15.2.2.map o3))]) = true, (AV.tup [(AV.sl 1002 0 (List.length (r15.1.map o85))), (AV.sl 1003 0 (List.length (r15.2.1.map o85))), (AV.sl 1004 0 (List.length (r15.2.2.map o3)))]) = (AV.tup [(AV.sl 1002 0 (List.length (r15.1.map o85))), (AV.sl 1003 0 (List.length (r15.2.1.map o85))), (AV.sl 1004 0 (List.length (r15.2.2.map o3)))]), (AV.tup [(AV.sl 1002 0 (List.length (r15.1.map o85))), (AV.sl 1003 0 (List.length (r15.2.1.map o85))), (AV.sl 1004 0 (List.length (r15.2.2.map o3)))]) = (AV.tup [(AV.sl 1002 0 (List.length (r15.1.map o85))), (AV.sl 1003 0 (List.length (r15.2.1.map o85))), (AV.sl 1004 0 (List.length (r15.2.2.map o3)))]), (AV.sl 1002 0 (List.length (r15.1.map o85))) = (AV.sl 1002 0 (List.length (r15.1.map o85))), (AV.sl 1002 0 (List.length (r15.1.map o85))) = (AV.sl 1002 0 (List.length (r15.1.map o85))), (AV.sl 1003 0 (List.length (r15.2.1.map o85))) = (AV.sl 1003 0 (List.length (r15.2.1.map o85))), (AV.sl 1003 0 (List.length (r15.2.1.map o85))) = (AV.sl 1003 0 (List.length (r15.2.1.map o85))), (AV.sl 1004 0 (List.length (r15.2.2.map o3))) = (AV.sl 1004 0 (List.length (r15.2.2.map o3))), (AV.sl 1004 0 (List.length (r15.2.2.map o3))) = (AV.sl 1004 0 (List.length (r15.2.2.map o3))), (AV.sl 1004 0 (List.length (r15.2.2.map o3))) = (AV.sl 1004 0 (List.length (r15.2.2.map o3))), (AV.ptr 1005 0 0) = (AV.ptr 1005 0 0), ([(1005, (⟨80, 1, [[(AV.lit (.slice none 0 0))]]⟩ : Root))].map sm) = ([(1005, (⟨80, 1, [[(AV.lit (.slice none 0 0))]]⟩ : Root))].map sm), (AV.ptr 1005 0 0) = (AV.ptr 1005 0 0), ([(1005, (⟨80, 1, [[(AV.lit (.slice none 0 0))]]⟩ : Root))].map sm) = ([(1005, (⟨80, 1, [[(AV.lit (.slice none 0 0))]]⟩ : Root))].map sm), (AV.sl 1002 0 (List.length (r15.1.map o85))) = (AV.sl 1002 0 (List.length (r15.1.map o85))), [(1005, some (⟨80, 1, [[(AV.sl 1003 0 (List.length (r15.2.1.map o85)))]]⟩ : Root))] = [(1005, some (⟨80, 1, [[(AV.sl 1003 0 (List.length (r15.2.1.map o85)))]]⟩ : Root))], [[(AV.sl 1003 0 (List.length (r15.2.1.map o85)))]][0]? = some [(AV.sl 1003 0 (List.length (r15.2.1.map o85)))], [(AV.sl 1003 0 (List.length (r15.2.1.map o85)))][0]? = some (AV.sl 1003 0 (List.length (r15.2.1.map o85))), treeLL (r15.2.1.map o85) = true, [[(AV.sl 1003 0 (List.length (r15.2.1.map o85)))]].set 0 ([(AV.sl 1003 0 (List.length (r15.2.1.map o85)))].set 0 (AV.own 85 4 (r15.2.1.map o85))) = [[(AV.own 85 4 (r15.2.1.map o85))]], Meets Try.prog 65 [(AV.ro 4 (r15.1.map o85)), (AV.fn 66 [(AV.rop (r80 r15.2.1) 0)])] (B r16), litA (B r16) = true, Frz (((r15.1.map o85).drop 0).take (List.length (r15.1.map o85))) (r15.1.map o85), [[(AV.own 85 4 (r15.2.1.map o85))]][0]? = some [(AV.own 85 4 (r15.2.1.map o85))], treeL [(AV.own 85 4 (r15.2.1.map o85))] = true, frzL [(AV.own 85 4 (r15.2.1.map o85))] = (r80 r15.2.1), AV.lit (.int .i64 (((List.length (r15.2.2.map o3)) : Nat) : Int)) = (I (r15.2.2.length : Int)), (B ((r15.2.2.length : Int) == 0)) = (B false), ((gone o33 r5 (Int.toNat v7)).set (Int.toNat v7) [(AV.sl 1001 0 (List.length (x9.map o3)))])[(Int.toNat v7)]? = some [(AV.sl 1001 0 (List.length (x9.map o3)))], ((gone o33 r5 (Int.toNat v7)).set (Int.toNat v7) [(AV.sl 1001 0 (List.length (x9.map o3)))]).set (Int.toNat v7) ([(AV.sl 1001 0 (List.length (x9.map o3)))].set 0 .dead) = (gone o33 r5 (Int.toNat (w64 (v7 + 1)))), (List.length (gone o33 r5 (Int.toNat v7))) = (List.length (gone o33 r5 (Int.toNat (w64 (v7 + 1))))), RenOK [(1, 1), (2, 2)] (a6.map o33), RenOK [(1, 1), (2, 2)] (gone o33 r5 (Int.toNat (w64 (v7 + 1))))]) (by kernel_rfl) ⟨c8, (rd0 hx9), (gnL o33 hx9), (gnR o33 hx9), rfl, (by decide), rfl, (setE (gnR o33 hx9)), (rd0 hx10), (rdL o3 hx10), (rdM o3 hx10), (rd0 hx11), (rdL o3 hx11), (rdM o3 hx11), c14, rfl, rfl, rfl, rfl, rfl, (rd0 hx10), (rdL o3 hx10), rfl, (rd0 hx10), (rdL o3 hx10), rfl, (rdM o3 hx10), rfl, (rdM o3 hx10), rfl, rfl, rfl, (rd0 hx11), (rdL o3 hx11), rfl, (rd0 hx11), (rdL o3 hx11), rfl, (rdM o3 hx11), rfl, (rdM o3 hx11), rfl, rfl, (impl_gate_m hr15), (by simp only [noRo, noRoL, noRoM n3, noRoM n85, Bool.and_self]), rfl, rfl, (impl_gate_m hr15), (by simp only [noRo, noRoL, noRoM n3, noRoM n85, Bool.and_self]), rfl, rfl, rfl, rfl, rfl, rfl, rfl, rfl, rfl, rfl, rfl, rfl, rfl, rfl, rfl, rfl, rfl, (treeM t85), rfl, (slices_ContainsFunc_Under_Under__impl_WarnsGuarded_1_m hr16), rfl, (frzF t85 z85), rfl, rfl, (z80 r15.2.1), (lenM o3), (litB c23), (setE (gnR o33 hx9)), (gnS o33 hx9 hq24), (gnN o33 (x := [AV.dead]) hx9 hq24), (rok (treeM t33)), (rok (gnT t33)), trivial⟩ (ih a6 (w64 (v7 + 1)) _ h)
    · have h := Option.some.inj h
      subst h
      exact go_ret hΘ hm hP hn (hs := [⟨1, .br false, none⟩]) (rh := []) (ph := .agg [.own, .raw]) (ps := [(decide (v7 < (r5.length : Int))) = false, treeLL ((a6.map o33).take (List.length (a6.map o33))) = true, (a6.map o33).take (List.length (a6.map o33)) = (a6.map o33), noRoLL (a6.map o33) = true, (B true) = (B true), litA (B true) = true]) (by kernel_rfl) ⟨c25, (treeT t33), takeM, (noRoM n33), rfl, rfl, trivial⟩
noncomputable def impl_WarnsGuarded (p1 : (List GEvent)) : Option ((List (List Int)) × Bool) :=
  Option.bind (impl_GoodTrace p1) fun r2 =>
  if (!r2) = true then
    some ([], false)
  else
    Option.bind (impl_lockPairs p1) fun r5 =>
    impl_WarnsGuarded_l0 p1 r5 FU [] 0
theorem impl_WarnsGuarded_m {p1 : (List GEvent)} {r : ((List (List Int)) × Bool)} (h : impl_WarnsGuarded p1 = some r) : Meets Try.prog 35 [(AV.ro 5 (p1.map o64))] (AV.tup [(AV.own 33 1 (r.1.map o33)), (B r.2)]) := by
  refine meets_ofC Θ_ok Try.func35 rfl (c := body35) (by kernel_rfl) (Nat.le_of_ble_eq_true rfl) ?_
  intro E hP hn hx
  replace hn : E.n = 56 := hn
  have hm : E.P.follows .mixedOrders = true := by rw [hP]; exact mixed
  have hΘ : TOK E.P Θ := by rw [hP]; exact Θ_ok
  unfold impl_WarnsGuarded at h
  show WAt E body35 (FQ (RetE Θ Try.f35.results.toList [] [] (AV.tup [(AV.own 33 1 (r.1.map o33)), (B r.2)]) E)) [] ⟨[(0, (AV.ro 5 (p1.map o64)))], [], [JJ]⟩
  obtain ⟨r2, hr2, h⟩ := bnS h
  rcases itS h with ⟨c3, h⟩ | ⟨c4, h⟩
  · have h := Option.some.inj h
    subst h
    exact go_ret hΘ hm hP hn (hs := [⟨3, .callV [] (B r2), none⟩, ⟨5, .br true, none⟩]) (rh := []) (ph := .agg [.own, .raw]) (ps := [Meets Try.prog 47 [(AV.ro 5 (p1.map o64))] (B r2), litA (B r2) = true, (!r2) = true, (B false) = (B false), litA (B false) = true]) (by kernel_rfl) ⟨(impl_GoodTrace_m hr2), rfl, c3, rfl, rfl, trivial⟩
  · obtain ⟨r5, hr5, h⟩ := bnS h
    exact go_to hΘ hm hx hP hn (hs := [⟨3, .callV [] (B r2), none⟩, ⟨5, .br false, none⟩, ⟨6, .new 1001, none⟩, ⟨9, .call [] (AV.own 33 1 (r5.map o33)) [1002], none⟩, ⟨10, .no, some (I (r5.length : Int))⟩, ⟨12, .eqr 1002 (gone o33 r5 (Int.toNat 0)), none⟩, ⟨12, .slen 16 (List.length (gone o33 r5 (Int.toNat 0))), none⟩]) (π := [(1001, 1), (1002, 2)]) (ts := [0, 4, 16, 17, 18]) (kp := []) (ps := [Meets Try.prog 47 [(AV.ro 5 (p1.map o64))] (B r2), litA (B r2) = true, (!r2) = false, Meets Try.prog 52 [(AV.ro 5 (p1.map o64))] (AV.own 33 1 (r5.map o33)), noRo (AV.own 33 1 (r5.map o33)) = true, AV.lit (.int .i64 (((List.length (r5.map o33)) : Nat) : Int)) = (I (r5.length : Int)), (r5.map o33) = (gone o33 r5 (Int.toNat 0)), (List.length (r5.map o33)) = (List.length (gone o33 r5 (Int.toNat 0))), RenOK [(1001, 1), (1002, 2)] ([].map o33), RenOK [(1001, 1), (1002, 2)] (gone o33 r5 (Int.toNat 0))]) (by kernel_rfl) ⟨(impl_GoodTrace_m hr2), rfl, c4, (impl_lockPairs_m hr5), (by simp only [noRo, noRoL, noRoM n33, Bool.and_self]), (lenM o33), (gn0 o33), (gnN0 o33), (rok (treeM t33)), (rok (gnT t33)), trivial⟩ (impl_WarnsGuarded_l0_m hP hn hx p1 r5 FU [] 0 _ h)
noncomputable def body50 : Code := match Try.f50.body with | some c => c | none => .skip
noncomputable def laws_eqEvent (p1 : GEvent) (p2 : GEvent) : Option Bool :=
  if (p1.Thread != p2.Thread) = true then
    some false
  else
    if (p1.Kind != p2.Kind) = true then
      some false
    else
      if (p1.Obj != p2.Obj) = true then
        some false
      else
        if (p1.Lock != p2.Lock) = true then
          some false
        else
          if (p1.Pc != p2.Pc) = true then
            some false
          else
            some true
theorem laws_eqEvent_m {p1 : GEvent} {p2 : GEvent} {r : Bool} (h : laws_eqEvent p1 p2 = some r) : Meets Try.prog 50 [(AV.agg ((o64 p1))), (AV.agg ((o64 p2)))] (B r) := by
  refine meets_ofC Θ_ok Try.func50 rfl (c := body50) (by kernel_rfl) (Nat.le_of_ble_eq_true rfl) ?_
  intro E hP hn hx
  replace hn : E.n = 30 := hn
  have hm : E.P.follows .mixedOrders = true := by rw [hP]; exact mixed
  have hΘ : TOK E.P Θ := by rw [hP]; exact Θ_ok
  unfold laws_eqEvent at h
  show WAt E body50 (FQ (RetE Θ Try.f50.results.toList [] [] (B r) E)) [] ⟨[(0, (AV.agg ((o64 p1)))), (1, (AV.agg ((o64 p2))))], [], [JJ]⟩
  rcases itS h with ⟨c3, h⟩ | ⟨c4, h⟩
  · have h := Option.some.inj h
    subst h
    exact go_ret hΘ hm hP hn (hs := [⟨0, .new 1001, none⟩, ⟨1, .new 1002, none⟩, ⟨8, .br true, none⟩]) (rh := []) (ph := .raw) (ps := [(p1.Thread != p2.Thread) = true, (B false) = (B false), litA (B false) = true]) (by kernel_rfl) ⟨c3, rfl, rfl, trivial⟩
  · rcases itS h with ⟨c5, h⟩ | ⟨c6, h⟩
    · have h := Option.some.inj h
      subst h
      exact go_ret hΘ hm hP hn (hs := [⟨0, .new 1001, none⟩, ⟨1, .new 1002, none⟩, ⟨8, .br false, none⟩, ⟨14, .br true, none⟩]) (rh := []) (ph := .raw) (ps := [(p1.Thread != p2.Thread) = false, (p1.Kind != p2.Kind) = true, (B false) = (B false), litA (B false) = true]) (by kernel_rfl) ⟨c4, c5, rfl, rfl, trivial⟩
    · rcases itS h with ⟨c7, h⟩ | ⟨c8, h⟩
      · have h := Option.some.inj h
        subst h
        exact go_ret hΘ hm hP hn (hs := [⟨0, .new 1001, none⟩, ⟨1, .new 1002, none⟩, ⟨8, .br false, none⟩, ⟨14, .br false, none⟩, ⟨20, .br true, none⟩]) (rh := []) (ph := .raw) (ps := [(p1.Thread != p2.Thread) = false, (p1.Kind != p2.Kind) = false, (p1.Obj != p2.Obj) = true, (B false) = (B false), litA (B false) = true]) (by kernel_rfl) ⟨c4, c6, c7, rfl, rfl, trivial⟩
      · rcases itS h with ⟨c9, h⟩ | ⟨c10, h⟩
        · have h := Option.some.inj h
          subst h
          exact go_ret hΘ hm hP hn (hs := [⟨0, .new 1001, none⟩, ⟨1, .new 1002, none⟩, ⟨8, .br false, none⟩, ⟨14, .br false, none⟩, ⟨20, .br false, none⟩, ⟨26, .br true, none⟩]) (rh := []) (ph := .raw) (ps := [(p1.Thread != p2.Thread) = false, (p1.Kind != p2.Kind) = false, (p1.Obj != p2.Obj) = false, (p1.Lock != p2.Lock) = true, (B false) = (B false), litA (B false) = true]) (by kernel_rfl) ⟨c4, c6, c8, c9, rfl, rfl, trivial⟩
        · rcases itS h with ⟨c11, h⟩ | ⟨c12, h⟩
          · have h := Option.some.inj h
            subst h
            exact go_ret hΘ hm hP hn (hs := [⟨0, .new 1001, none⟩, ⟨1, .new 1002, none⟩, ⟨8, .br false, none⟩, ⟨14, .br false, none⟩, ⟨20, .br false, none⟩, ⟨26, .br false, none⟩, ⟨32, .br true, none⟩]) (rh := []) (ph := .raw) (ps := [(p1.Thread != p2.Thread) = false, (p1.Kind != p2.Kind) = false, (p1.Obj != p2.Obj) = false, (p1.Lock != p2.Lock) = false, (p1.Pc != p2.Pc) = true, (B false) = (B false), litA (B false) = true]) (by kernel_rfl) ⟨c4, c6, c8, c10, c11, rfl, rfl, trivial⟩
          · have h := Option.some.inj h
            subst h
            exact go_ret hΘ hm hP hn (hs := [⟨0, .new 1001, none⟩, ⟨1, .new 1002, none⟩, ⟨8, .br false, none⟩, ⟨14, .br false, none⟩, ⟨20, .br false, none⟩, ⟨26, .br false, none⟩, ⟨32, .br false, none⟩]) (rh := []) (ph := .raw) (ps := [(p1.Thread != p2.Thread) = false, (p1.Kind != p2.Kind) = false, (p1.Obj != p2.Obj) = false, (p1.Lock != p2.Lock) = false, (p1.Pc != p2.Pc) = false, (B true) = (B true), litA (B true) = true]) (by kernel_rfl) ⟨c4, c6, c8, c10, c12, rfl, rfl, trivial⟩
noncomputable def body21 : Code := match Try.f21.body with | some c => c | none => .skip
noncomputable def laws_eqEventS_l0  (p1 : (List GEvent)) (p2 : (List GEvent)) : Nat → Int → Option Bool
  | 0, _ => none
  | n + 1, v5 =>
  if (decide (v5 < (p1.length : Int))) = true then
    Option.bind (rd p1 v5) fun x7 =>
    Option.bind (rd p2 v5) fun x8 =>
    Option.bind (laws_eqEvent x7 x8) fun r9 =>
    if (!r9) = true then
      some false
    else
      laws_eqEventS_l0 p1 p2 n (w64 (v5 + 1))
  else
    some true
theorem laws_eqEventS_l0_m {E : Env} (hP : E.P = Try.prog) (hn : E.n = 27) (hx : ∀ p, p ∈ E.fx → p.1 ∈ ([] : List Nat)) (p1 : (List GEvent)) (p2 : (List GEvent))  : ∀ (n : Nat) (v5 : Int) (r : Bool), laws_eqEventS_l0 p1 p2 n v5 = some r → WAt E body21 (FQ (RetE Θ Try.f21.results.toList [] [] (B r) E)) [true, true, false, true, false] ⟨[(0, (AV.ro 5 (p1.map o64))), (1, (AV.ro 5 (p2.map o64))), (5, (I v5))], [], [JJ]⟩ := by
  have hm : E.P.follows .mixedOrders = true := by rw [hP]; exact mixed
  have hΘ : TOK E.P Θ := by rw [hP]; exact Θ_ok
  intro n
  induction n with
  | zero => intro v5 r h; simp only [laws_eqEventS_l0] at h; cases h
  | succ n ih =>
    intro v5 r h
    simp only [laws_eqEventS_l0] at h
    rcases itS h with ⟨c6, h⟩ | ⟨c12, h⟩
    · obtain ⟨x7, hx7, h⟩ := bnS h
      obtain ⟨x8, hx8, h⟩ := bnS h
      obtain ⟨r9, hr9, h⟩ := bnS h
      rcases itS h with ⟨c10, h⟩ | ⟨c11, h⟩
      · have h := Option.some.inj h
        subst h
        exact go_ret hΘ hm hP hn (hs := [⟨2, .no, some (I (p1.length : Int))⟩, ⟨4, .br true, none⟩, ⟨7, .row (o64 x7), none⟩, ⟨11, .row (o64 x8), none⟩, ⟨13, .callV [[], []] (B r9), none⟩, ⟨15, .br true, none⟩]) (rh := []) (ph := .raw) (ps := [AV.lit (.int .i64 (((p1.map o64).length : Nat) : Int)) = (I (p1.length : Int)), (decide (v5 < (p1.length : Int))) = true, (0 : Int) ≤ v5, (p1.map o64)[(Int.toNat v5)]? = some (o64 x7), (0 : Int) ≤ v5, (p2.map o64)[(Int.toNat v5)]? = some (o64 x8), Meets Try.prog 50 [(AV.agg ((o64 x7))), (AV.agg ((o64 x8)))] (B r9), litA (B r9) = true, (!r9) = true, (B false) = (B false), litA (B false) = true]) (by kernel_rfl) ⟨(lenM o64), c6, (rd0 hx7), (rdM o64 hx7), (rd0 hx8), (rdM o64 hx8), (laws_eqEvent_m hr9), rfl, c10, rfl, rfl, trivial⟩
      · exact go_to hΘ hm hx hP hn (hs := [⟨2, .no, some (I (p1.length : Int))⟩, ⟨4, .br true, none⟩, ⟨7, .row (o64 x7), none⟩, ⟨11, .row (o64 x8), none⟩, ⟨13, .callV [[], []] (B r9), none⟩, ⟨15, .br false, none⟩]) (π := []) (ts := [0, 1, 5]) (kp := []) (ps := [AV.lit (.int .i64 (((p1.map o64).length : Nat) : Int)) = (I (p1.length : Int)), (decide (v5 < (p1.length : Int))) = true, (0 : Int) ≤ v5, (p1.map o64)[(Int.toNat v5)]? = some (o64 x7), (0 : Int) ≤ v5, (p2.map o64)[(Int.toNat v5)]? = some (o64 x8), Meets Try.prog 50 [(AV.agg ((o64 x7))), (AV.agg ((o64 x8)))] (B r9), litA (B r9) = true, (!r9) = false]) (by kernel_rfl) ⟨(lenM o64), c6, (rd0 hx7), (rdM o64 hx7), (rd0 hx8), (rdM o64 hx8), (laws_eqEvent_m hr9), rfl, c11, trivial⟩ (ih (w64 (v5 + 1)) _ h)
    · have h := Option.some.inj h
      subst h
      exact go_ret hΘ hm hP hn (hs := [⟨2, .no, some (I (p1.length : Int))⟩, ⟨4, .br false, none⟩]) (rh := []) (ph := .raw) (ps := [AV.lit (.int .i64 (((p1.map o64).length : Nat) : Int)) = (I (p1.length : Int)), (decide (v5 < (p1.length : Int))) = false, (B true) = (B true), litA (B true) = true]) (by kernel_rfl) ⟨(lenM o64), c12, rfl, rfl, trivial⟩
noncomputable def laws_eqEventS (p1 : (List GEvent)) (p2 : (List GEvent)) : Option Bool :=
  if ((p1.length : Int) != (p2.length : Int)) = true then
    some false
  else
    laws_eqEventS_l0 p1 p2 FU 0
theorem laws_eqEventS_m {p1 : (List GEvent)} {p2 : (List GEvent)} {r : Bool} (h : laws_eqEventS p1 p2 = some r) : Meets Try.prog 21 [(AV.ro 5 (p1.map o64)), (AV.ro 5 (p2.map o64))] (B r) := by
  refine meets_ofC Θ_ok Try.func21 rfl (c := body21) (by kernel_rfl) (Nat.le_of_ble_eq_true rfl) ?_
  intro E hP hn hx
  replace hn : E.n = 27 := hn
  have hm : E.P.follows .mixedOrders = true := by rw [hP]; exact mixed
  have hΘ : TOK E.P Θ := by rw [hP]; exact Θ_ok
  unfold laws_eqEventS at h
  show WAt E body21 (FQ (RetE Θ Try.f21.results.toList [] [] (B r) E)) [] ⟨[(0, (AV.ro 5 (p1.map o64))), (1, (AV.ro 5 (p2.map o64)))], [], [JJ]⟩
  rcases itS h with ⟨c3, h⟩ | ⟨c4, h⟩
  · have h := Option.some.inj h
    subst h
    exact go_ret hΘ hm hP hn (hs := [⟨2, .no, some (I (p1.length : Int))⟩, ⟨4, .no, some (I (p2.length : Int))⟩, ⟨6, .br true, none⟩]) (rh := []) (ph := .raw) (ps := [AV.lit (.int .i64 (((p1.map o64).length : Nat) : Int)) = (I (p1.length : Int)), AV.lit (.int .i64 (((p2.map o64).length : Nat) : Int)) = (I (p2.length : Int)), ((p1.length : Int) != (p2.length : Int)) = true, (B false) = (B false), litA (B false) = true]) (by kernel_rfl) ⟨(lenM o64), (lenM o64), c3, rfl, rfl, trivial⟩
  · exact go_to hΘ hm hx hP hn (hs := [⟨2, .no, some (I (p1.length : Int))⟩, ⟨4, .no, some (I (p2.length : Int))⟩, ⟨6, .br false, none⟩]) (π := []) (ts := [0, 1, 5]) (kp := []) (ps := [AV.lit (.int .i64 (((p1.map o64).length : Nat) : Int)) = (I (p1.length : Int)), AV.lit (.int .i64 (((p2.map o64).length : Nat) : Int)) = (I (p2.length : Int)), ((p1.length : Int) != (p2.length : Int)) = false]) (by kernel_rfl) ⟨(lenM o64), (lenM o64), c4, trivial⟩ (laws_eqEventS_l0_m hP hn hx p1 p2 FU 0 _ h)
noncomputable def body20 : Code := match Try.f20.body with | some c => c | none => .skip
noncomputable def laws_eqIntS_l0  (p1 : (List Int)) (p2 : (List Int)) : Nat → Int → Option Bool
  | 0, _ => none
  | n + 1, v5 =>
  if (decide (v5 < (p1.length : Int))) = true then
    Option.bind (rd p1 v5) fun x7 =>
    Option.bind (rd p2 v5) fun x8 =>
    if (x7 != x8) = true then
      some false
    else
      laws_eqIntS_l0 p1 p2 n (w64 (v5 + 1))
  else
    some true
theorem laws_eqIntS_l0_m {E : Env} (hP : E.P = Try.prog) (hn : E.n = 26) (hx : ∀ p, p ∈ E.fx → p.1 ∈ ([] : List Nat)) (p1 : (List Int)) (p2 : (List Int))  : ∀ (n : Nat) (v5 : Int) (r : Bool), laws_eqIntS_l0 p1 p2 n v5 = some r → WAt E body20 (FQ (RetE Θ Try.f20.results.toList [] [] (B r) E)) [true, true, false, true, false] ⟨[(0, (AV.ro 1 (p1.map o3))), (1, (AV.ro 1 (p2.map o3))), (5, (I v5))], [], [JJ]⟩ := by
  have hm : E.P.follows .mixedOrders = true := by rw [hP]; exact mixed
  have hΘ : TOK E.P Θ := by rw [hP]; exact Θ_ok
  intro n
  induction n with
  | zero => intro v5 r h; simp only [laws_eqIntS_l0] at h; cases h
  | succ n ih =>
    intro v5 r h
    simp only [laws_eqIntS_l0] at h
    rcases itS h with ⟨c6, h⟩ | ⟨c11, h⟩
    · obtain ⟨x7, hx7, h⟩ := bnS h
      obtain ⟨x8, hx8, h⟩ := bnS h
      rcases itS h with ⟨c9, h⟩ | ⟨c10, h⟩
      · have h := Option.some.inj h
        subst h
        exact go_ret hΘ hm hP hn (hs := [⟨2, .no, some (I (p1.length : Int))⟩, ⟨4, .br true, none⟩, ⟨7, .row (o3 x7), none⟩, ⟨11, .row (o3 x8), none⟩, ⟨14, .br true, none⟩]) (rh := []) (ph := .raw) (ps := [AV.lit (.int .i64 (((p1.map o3).length : Nat) : Int)) = (I (p1.length : Int)), (decide (v5 < (p1.length : Int))) = true, (0 : Int) ≤ v5, (p1.map o3)[(Int.toNat v5)]? = some (o3 x7), (0 : Int) ≤ v5, (p2.map o3)[(Int.toNat v5)]? = some (o3 x8), (x7 != x8) = true, (B false) = (B false), litA (B false) = true]) (by kernel_rfl) ⟨(lenM o3), c6, (rd0 hx7), (rdM o3 hx7), (rd0 hx8), (rdM o3 hx8), c9, rfl, rfl, trivial⟩
      · exact go_to hΘ hm hx hP hn (hs := [⟨2, .no, some (I (p1.length : Int))⟩, ⟨4, .br true, none⟩, ⟨7, .row (o3 x7), none⟩, ⟨11, .row (o3 x8), none⟩, ⟨14, .br false, none⟩]) (π := []) (ts := [0, 1, 5]) (kp := []) (ps := [AV.lit (.int .i64 (((p1.map o3).length : Nat) : Int)) = (I (p1.length : Int)), (decide (v5 < (p1.length : Int))) = true, (0 : Int) ≤ v5, (p1.map o3)[(Int.toNat v5)]? = some (o3 x7), (0 : Int) ≤ v5, (p2.map o3)[(Int.toNat v5)]? = some (o3 x8), (x7 != x8) = false]) (by kernel_rfl) ⟨(lenM o3), c6, (rd0 hx7), (rdM o3 hx7), (rd0 hx8), (rdM o3 hx8), c10, trivial⟩ (ih (w64 (v5 + 1)) _ h)
    · have h := Option.some.inj h
      subst h
      exact go_ret hΘ hm hP hn (hs := [⟨2, .no, some (I (p1.length : Int))⟩, ⟨4, .br false, none⟩]) (rh := []) (ph := .raw) (ps := [AV.lit (.int .i64 (((p1.map o3).length : Nat) : Int)) = (I (p1.length : Int)), (decide (v5 < (p1.length : Int))) = false, (B true) = (B true), litA (B true) = true]) (by kernel_rfl) ⟨(lenM o3), c11, rfl, rfl, trivial⟩
noncomputable def laws_eqIntS (p1 : (List Int)) (p2 : (List Int)) : Option Bool :=
  if ((p1.length : Int) != (p2.length : Int)) = true then
    some false
  else
    laws_eqIntS_l0 p1 p2 FU 0
theorem laws_eqIntS_m {p1 : (List Int)} {p2 : (List Int)} {r : Bool} (h : laws_eqIntS p1 p2 = some r) : Meets Try.prog 20 [(AV.ro 1 (p1.map o3)), (AV.ro 1 (p2.map o3))] (B r) := by
  refine meets_ofC Θ_ok Try.func20 rfl (c := body20) (by kernel_rfl) (Nat.le_of_ble_eq_true rfl) ?_
  intro E hP hn hx
  replace hn : E.n = 26 := hn
  have hm : E.P.follows .mixedOrders = true := by rw [hP]; exact mixed
  have hΘ : TOK E.P Θ := by rw [hP]; exact Θ_ok
  unfold laws_eqIntS at h
  show WAt E body20 (FQ (RetE Θ Try.f20.results.toList [] [] (B r) E)) [] ⟨[(0, (AV.ro 1 (p1.map o3))), (1, (AV.ro 1 (p2.map o3)))], [], [JJ]⟩
  rcases itS h with ⟨c3, h⟩ | ⟨c4, h⟩
  · have h := Option.some.inj h
    subst h
    exact go_ret hΘ hm hP hn (hs := [⟨2, .no, some (I (p1.length : Int))⟩, ⟨4, .no, some (I (p2.length : Int))⟩, ⟨6, .br true, none⟩]) (rh := []) (ph := .raw) (ps := [AV.lit (.int .i64 (((p1.map o3).length : Nat) : Int)) = (I (p1.length : Int)), AV.lit (.int .i64 (((p2.map o3).length : Nat) : Int)) = (I (p2.length : Int)), ((p1.length : Int) != (p2.length : Int)) = true, (B false) = (B false), litA (B false) = true]) (by kernel_rfl) ⟨(lenM o3), (lenM o3), c3, rfl, rfl, trivial⟩
  · exact go_to hΘ hm hx hP hn (hs := [⟨2, .no, some (I (p1.length : Int))⟩, ⟨4, .no, some (I (p2.length : Int))⟩, ⟨6, .br false, none⟩]) (π := []) (ts := [0, 1, 5]) (kp := []) (ps := [AV.lit (.int .i64 (((p1.map o3).length : Nat) : Int)) = (I (p1.length : Int)), AV.lit (.int .i64 (((p2.map o3).length : Nat) : Int)) = (I (p2.length : Int)), ((p1.length : Int) != (p2.length : Int)) = false]) (by kernel_rfl) ⟨(lenM o3), (lenM o3), c4, trivial⟩ (laws_eqIntS_l0_m hP hn hx p1 p2 FU 0 _ h)
noncomputable def body27 : Code := match Try.f27.body with | some c => c | none => .skip
noncomputable def laws_eqIntSS_l0  (p1 : (List (List Int))) (p2 : (List (List Int))) : Nat → Int → Option Bool
  | 0, _ => none
  | n + 1, v5 =>
  if (decide (v5 < (p1.length : Int))) = true then
    Option.bind (rd p1 v5) fun x7 =>
    Option.bind (rd p2 v5) fun x8 =>
    Option.bind (laws_eqIntS x7 x8) fun r9 =>
    if (!r9) = true then
      some false
    else
      laws_eqIntSS_l0 p1 p2 n (w64 (v5 + 1))
  else
    some true
theorem laws_eqIntSS_l0_m {E : Env} (hP : E.P = Try.prog) (hn : E.n = 27) (hx : ∀ p, p ∈ E.fx → p.1 ∈ ([] : List Nat)) (p1 : (List (List Int))) (p2 : (List (List Int)))  : ∀ (n : Nat) (v5 : Int) (r : Bool), laws_eqIntSS_l0 p1 p2 n v5 = some r → WAt E body27 (FQ (RetE Θ Try.f27.results.toList [] [] (B r) E)) [true, true, false, true, false] ⟨[(0, (AV.ro 1 (p1.map r33))), (1, (AV.ro 1 (p2.map r33))), (5, (I v5))], [], [JJ]⟩ := by
  have hm : E.P.follows .mixedOrders = true := by rw [hP]; exact mixed
  have hΘ : TOK E.P Θ := by rw [hP]; exact Θ_ok
  intro n
  induction n with
  | zero => intro v5 r h; simp only [laws_eqIntSS_l0] at h; cases h
  | succ n ih =>
    intro v5 r h
    simp only [laws_eqIntSS_l0] at h
    rcases itS h with ⟨c6, h⟩ | ⟨c12, h⟩
    · obtain ⟨x7, hx7, h⟩ := bnS h
      obtain ⟨x8, hx8, h⟩ := bnS h
      obtain ⟨r9, hr9, h⟩ := bnS h
      rcases itS h with ⟨c10, h⟩ | ⟨c11, h⟩
      · have h := Option.some.inj h
        subst h
        exact go_ret hΘ hm hP hn (hs := [⟨2, .no, some (I (p1.length : Int))⟩, ⟨4, .br true, none⟩, ⟨7, .row (r33 x7), none⟩, ⟨11, .row (r33 x8), none⟩, ⟨13, .callV [] (B r9), none⟩, ⟨15, .br true, none⟩]) (rh := []) (ph := .raw) (ps := [AV.lit (.int .i64 (((p1.map r33).length : Nat) : Int)) = (I (p1.length : Int)), (decide (v5 < (p1.length : Int))) = true, (0 : Int) ≤ v5, (p1.map r33)[(Int.toNat v5)]? = some (r33 x7), (0 : Int) ≤ v5, (p2.map r33)[(Int.toNat v5)]? = some (r33 x8), Meets Try.prog 20 [(AV.ro 1 (x7.map o3)), (AV.ro 1 (x8.map o3))] (B r9), litA (B r9) = true, (!r9) = true, (B false) = (B false), litA (B false) = true]) (by kernel_rfl) ⟨(lenM r33), c6, (rd0 hx7), (rdM r33 hx7), (rd0 hx8), (rdM r33 hx8), (laws_eqIntS_m hr9), rfl, c10, rfl, rfl, trivial⟩
      · exact go_to hΘ hm hx hP hn (hs := [⟨2, .no, some (I (p1.length : Int))⟩, ⟨4, .br true, none⟩, ⟨7, .row (r33 x7), none⟩, ⟨11, .row (r33 x8), none⟩, ⟨13, .callV [] (B r9), none⟩, ⟨15, .br false, none⟩]) (π := []) (ts := [0, 1, 5]) (kp := []) (ps := [AV.lit (.int .i64 (((p1.map r33).length : Nat) : Int)) = (I (p1.length : Int)), (decide (v5 < (p1.length : Int))) = true, (0 : Int) ≤ v5, (p1.map r33)[(Int.toNat v5)]? = some (r33 x7), (0 : Int) ≤ v5, (p2.map r33)[(Int.toNat v5)]? = some (r33 x8), Meets Try.prog 20 [(AV.ro 1 (x7.map o3)), (AV.ro 1 (x8.map o3))] (B r9), litA (B r9) = true, (!r9) = false]) (by kernel_rfl) ⟨(lenM r33), c6, (rd0 hx7), (rdM r33 hx7), (rd0 hx8), (rdM r33 hx8), (laws_eqIntS_m hr9), rfl, c11, trivial⟩ (ih (w64 (v5 + 1)) _ h)
    · have h := Option.some.inj h
      subst h
      exact go_ret hΘ hm hP hn (hs := [⟨2, .no, some (I (p1.length : Int))⟩, ⟨4, .br false, none⟩]) (rh := []) (ph := .raw) (ps := [AV.lit (.int .i64 (((p1.map r33).length : Nat) : Int)) = (I (p1.length : Int)), (decide (v5 < (p1.length : Int))) = false, (B true) = (B true), litA (B true) = true]) (by kernel_rfl) ⟨(lenM r33), c12, rfl, rfl, trivial⟩
noncomputable def laws_eqIntSS (p1 : (List (List Int))) (p2 : (List (List Int))) : Option Bool :=
  if ((p1.length : Int) != (p2.length : Int)) = true then
    some false
  else
    laws_eqIntSS_l0 p1 p2 FU 0
theorem laws_eqIntSS_m {p1 : (List (List Int))} {p2 : (List (List Int))} {r : Bool} (h : laws_eqIntSS p1 p2 = some r) : Meets Try.prog 27 [(AV.ro 1 (p1.map r33)), (AV.ro 1 (p2.map r33))] (B r) := by
  refine meets_ofC Θ_ok Try.func27 rfl (c := body27) (by kernel_rfl) (Nat.le_of_ble_eq_true rfl) ?_
  intro E hP hn hx
  replace hn : E.n = 27 := hn
  have hm : E.P.follows .mixedOrders = true := by rw [hP]; exact mixed
  have hΘ : TOK E.P Θ := by rw [hP]; exact Θ_ok
  unfold laws_eqIntSS at h
  show WAt E body27 (FQ (RetE Θ Try.f27.results.toList [] [] (B r) E)) [] ⟨[(0, (AV.ro 1 (p1.map r33))), (1, (AV.ro 1 (p2.map r33)))], [], [JJ]⟩
  rcases itS h with ⟨c3, h⟩ | ⟨c4, h⟩
  · have h := Option.some.inj h
    subst h
    exact go_ret hΘ hm hP hn (hs := [⟨2, .no, some (I (p1.length : Int))⟩, ⟨4, .no, some (I (p2.length : Int))⟩, ⟨6, .br true, none⟩]) (rh := []) (ph := .raw) (ps := [AV.lit (.int .i64 (((p1.map r33).length : Nat) : Int)) = (I (p1.length : Int)), AV.lit (.int .i64 (((p2.map r33).length : Nat) : Int)) = (I (p2.length : Int)), ((p1.length : Int) != (p2.length : Int)) = true, (B false) = (B false), litA (B false) = true]) (by kernel_rfl) ⟨(lenM r33), (lenM r33), c3, rfl, rfl, trivial⟩
  · exact go_to hΘ hm hx hP hn (hs := [⟨2, .no, some (I (p1.length : Int))⟩, ⟨4, .no, some (I (p2.length : Int))⟩, ⟨6, .br false, none⟩]) (π := []) (ts := [0, 1, 5]) (kp := []) (ps := [AV.lit (.int .i64 (((p1.map r33).length : Nat) : Int)) = (I (p1.length : Int)), AV.lit (.int .i64 (((p2.map r33).length : Nat) : Int)) = (I (p2.length : Int)), ((p1.length : Int) != (p2.length : Int)) = false]) (by kernel_rfl) ⟨(lenM r33), (lenM r33), c4, trivial⟩ (laws_eqIntSS_l0_m hP hn hx p1 p2 FU 0 _ h)
end Go.Proofs.Ytihgcgccajikpaa
