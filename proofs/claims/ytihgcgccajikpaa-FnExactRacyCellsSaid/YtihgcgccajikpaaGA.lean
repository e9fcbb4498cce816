/- Functions as plain data, and that the code comes to them; no condition. -/

import Derived.Test.YtihgcgccajikpaaGT
import Derived.Test.YtihgcgccajikpaaSA
import Derived.Ground.SlgmProg
set_option linter.unusedVariables false
set_option maxRecDepth 100000
namespace Go.Proofs.Ytihgcgccajikpaa
open Go Go.T
noncomputable def body101 : Code := match Try.f101.body with | some c => c | none => .skip
noncomputable def impl_in (p1 : Int) (p2 : Int) (p3 : Int) : Option Bool :=
  if (decide (p2 ≤ p1)) = true then
    some (decide (p1 ≤ p3))
  else
    some false
theorem impl_in_m {p1 : Int} {p2 : Int} {p3 : Int} {r : Bool} (h : impl_in p1 p2 p3 = some r) : Meets Try.prog 101 [(I p1), (I p2), (I p3)] (B r) := by
  refine meets_ofC Θ_ok Try.func101 rfl (c := body101) (by kernel_rfl) (Nat.le_of_ble_eq_true rfl) ?_
  intro E hP hn hx
  replace hn : E.n = 15 := hn
  have hm : E.P.follows .mixedOrders = true := by rw [hP]; exact mixed
  have hΘ : TOK E.P Θ := by rw [hP]; exact Θ_ok
  unfold impl_in at h
  show WAt E body101 (FQ (RetE Θ Try.f101.results.toList [] [] (B r) E)) [] ⟨[(0, (I p1)), (1, (I p2)), (2, (I p3))], [], [JJ]⟩
  rcases itS h with ⟨c4, h⟩ | ⟨c5, h⟩
  · have h := Option.some.inj h
    subst h
    exact go_ret hΘ hm hP hn (hs := [⟨4, .no, some (B true)⟩]) (rh := []) (ph := .raw) (ps := [(B (decide (p2 ≤ p1))) = (B true), (B (decide (p1 ≤ p3))) = (B (decide (p1 ≤ p3))), litA (B (decide (p1 ≤ p3))) = true]) (by kernel_rfl) ⟨(litB c4), rfl, rfl, trivial⟩
  · have h := Option.some.inj h
    subst h
    exact go_ret hΘ hm hP hn (hs := [⟨4, .no, some (B false)⟩]) (rh := []) (ph := .raw) (ps := [(B (decide (p2 ≤ p1))) = (B false), (B false) = (B false), litA (B false) = true]) (by kernel_rfl) ⟨(litB c5), rfl, rfl, trivial⟩
noncomputable def body81 : Code := match Try.f81.body with | some c => c | none => .skip
noncomputable def impl_Event_isGood_j0  (p1 : GEvent)  : Option Bool :=
  if (decide (p1.Obj ≥ 0)) = true then
    if (decide (p1.Lock ≥ 0)) = true then
      some true
    else
      if (p1.Kind != 8) = true then
        some (p1.Kind != 9)
      else
        some false
  else
    Option.bind (impl_in p1.Kind 2 10) fun r23 =>
    if (!r23) = true then
      if (decide (p1.Lock ≥ 0)) = true then
        some true
      else
        if (p1.Kind != 8) = true then
          some (p1.Kind != 9)
        else
          some false
    else
      some false
theorem impl_Event_isGood_j0_m {E : Env} (hP : E.P = Try.prog) (hn : E.n = 55) (hx : ∀ p, p ∈ E.fx → p.1 ∈ ([] : List Nat)) (p1 : GEvent)   (r : Bool) (h : impl_Event_isGood_j0 p1  = some r) : WAt E body81 (FQ (RetE Θ Try.f81.results.toList [] [] (B r) E)) [true, false, true, true] ⟨[(1, (AV.ptr 1 0 0))], [(1, some ⟨64, 5, [((o64 p1))]⟩)], [1, JJ]⟩ := by
  have hm : E.P.follows .mixedOrders = true := by rw [hP]; exact mixed
  have hΘ : TOK E.P Θ := by rw [hP]; exact Θ_ok
  unfold impl_Event_isGood_j0 at h
  rcases itS h with ⟨c17, h⟩ | ⟨c22, h⟩
  · rcases itS h with ⟨c18, h⟩ | ⟨c19, h⟩
    · have h := Option.some.inj h
      subst h
      exact go_ret hΘ hm hP hn (hs := [⟨3, .no, some (B true)⟩, ⟨13, .no, some (B true)⟩]) (rh := []) (ph := .raw) (ps := [(B (decide (p1.Obj ≥ 0))) = (B true), (B (decide (p1.Lock ≥ 0))) = (B true), (B true) = (B true), litA (B true) = true]) (by kernel_rfl) ⟨(litB c17), (litB c18), rfl, rfl, trivial⟩
    · rcases itS h with ⟨c20, h⟩ | ⟨c21, h⟩
      · have h := Option.some.inj h
        subst h
        exact go_ret hΘ hm hP hn (hs := [⟨3, .no, some (B true)⟩, ⟨13, .no, some (B false)⟩, ⟨17, .no, some (B true)⟩]) (rh := []) (ph := .raw) (ps := [(B (decide (p1.Obj ≥ 0))) = (B true), (B (decide (p1.Lock ≥ 0))) = (B false), (B (p1.Kind != 8)) = (B true), (B (p1.Kind != 9)) = (B (p1.Kind != 9)), litA (B (p1.Kind != 9)) = true]) (by kernel_rfl) ⟨(litB c17), (litB c19), (litB c20), rfl, rfl, trivial⟩
      · have h := Option.some.inj h
        subst h
        exact go_ret hΘ hm hP hn (hs := [⟨3, .no, some (B true)⟩, ⟨13, .no, some (B false)⟩, ⟨17, .no, some (B false)⟩]) (rh := []) (ph := .raw) (ps := [(B (decide (p1.Obj ≥ 0))) = (B true), (B (decide (p1.Lock ≥ 0))) = (B false), (B (p1.Kind != 8)) = (B false), (B false) = (B false), litA (B false) = true]) (by kernel_rfl) ⟨(litB c17), (litB c19), (litB c21), rfl, rfl, trivial⟩
  · obtain ⟨r23, hr23, h⟩ := bnS h
    rcases itS h with ⟨c24, h⟩ | ⟨c29, h⟩
    · rcases itS h with ⟨c25, h⟩ | ⟨c26, h⟩
      · have h := Option.some.inj h
        subst h
        exact go_ret hΘ hm hP hn (hs := [⟨3, .no, some (B false)⟩, ⟨6, .callV [] (B r23), none⟩, ⟨9, .no, some (B true)⟩, ⟨13, .no, some (B true)⟩]) (rh := []) (ph := .raw) (ps := [(B (decide (p1.Obj ≥ 0))) = (B false), Meets Try.prog 101 [(I p1.Kind), (I 2), (I 10)] (B r23), litA (B r23) = true, (B (!r23)) = (B true), (B (decide (p1.Lock ≥ 0))) = (B true), (B true) = (B true), litA (B true) = true]) (by kernel_rfl) ⟨(litB c22), (impl_in_m hr23), rfl, (litB c24), (litB c25), rfl, rfl, trivial⟩
      · rcases itS h with ⟨c27, h⟩ | ⟨c28, h⟩
        · have h := Option.some.inj h
          subst h
          exact go_ret hΘ hm hP hn (hs := [⟨3, .no, some (B false)⟩, ⟨6, .callV [] (B r23), none⟩, ⟨9, .no, some (B true)⟩, ⟨13, .no, some (B false)⟩, ⟨17, .no, some (B true)⟩]) (rh := []) (ph := .raw) (ps := [(B (decide (p1.Obj ≥ 0))) = (B false), Meets Try.prog 101 [(I p1.Kind), (I 2), (I 10)] (B r23), litA (B r23) = true, (B (!r23)) = (B true), (B (decide (p1.Lock ≥ 0))) = (B false), (B (p1.Kind != 8)) = (B true), (B (p1.Kind != 9)) = (B (p1.Kind != 9)), litA (B (p1.Kind != 9)) = true]) (by kernel_rfl) ⟨(litB c22), (impl_in_m hr23), rfl, (litB c24), (litB c26), (litB c27), rfl, rfl, trivial⟩
        · have h := Option.some.inj h
          subst h
          exact go_ret hΘ hm hP hn (hs := [⟨3, .no, some (B false)⟩, ⟨6, .callV [] (B r23), none⟩, ⟨9, .no, some (B true)⟩, ⟨13, .no, some (B false)⟩, ⟨17, .no, some (B false)⟩]) (rh := []) (ph := .raw) (ps := [(B (decide (p1.Obj ≥ 0))) = (B false), Meets Try.prog 101 [(I p1.Kind), (I 2), (I 10)] (B r23), litA (B r23) = true, (B (!r23)) = (B true), (B (decide (p1.Lock ≥ 0))) = (B false), (B (p1.Kind != 8)) = (B false), (B false) = (B false), litA (B false) = true]) (by kernel_rfl) ⟨(litB c22), (impl_in_m hr23), rfl, (litB c24), (litB c26), (litB c28), rfl, rfl, trivial⟩
    · have h := Option.some.inj h
      subst h
      exact go_ret hΘ hm hP hn (hs := [⟨3, .no, some (B false)⟩, ⟨6, .callV [] (B r23), none⟩, ⟨9, .no, some (B false)⟩]) (rh := []) (ph := .raw) (ps := [(B (decide (p1.Obj ≥ 0))) = (B false), Meets Try.prog 101 [(I p1.Kind), (I 2), (I 10)] (B r23), litA (B r23) = true, (B (!r23)) = (B false), (B false) = (B false), litA (B false) = true]) (by kernel_rfl) ⟨(litB c22), (impl_in_m hr23), rfl, (litB c29), rfl, rfl, trivial⟩
noncomputable def impl_Event_isGood (p1 : GEvent) : Option Bool :=
  Option.bind (impl_in p1.Thread 0 4) fun r2 =>
  if (!r2) = true then
    some false
  else
    Option.bind (impl_in p1.Kind 1 12) fun r5 =>
    if (!r5) = true then
      some false
    else
      Option.bind (impl_in p1.Obj (-1) 99) fun r8 =>
      if (!r8) = true then
        some false
      else
        Option.bind (impl_in p1.Lock (-1) 99) fun r11 =>
        if (!r11) = true then
          some false
        else
          Option.bind (impl_in p1.Pc 0 99) fun r14 =>
          if (!r14) = true then
            some false
          else
            impl_Event_isGood_j0 p1
theorem impl_Event_isGood_m {p1 : GEvent} {r : Bool} (h : impl_Event_isGood p1 = some r) : Meets Try.prog 81 [(AV.agg ((o64 p1)))] (B r) := by
  refine meets_ofC Θ_ok Try.func81 rfl (c := body81) (by kernel_rfl) (Nat.le_of_ble_eq_true rfl) ?_
  intro E hP hn hx
  replace hn : E.n = 55 := hn
  have hm : E.P.follows .mixedOrders = true := by rw [hP]; exact mixed
  have hΘ : TOK E.P Θ := by rw [hP]; exact Θ_ok
  unfold impl_Event_isGood at h
  show WAt E body81 (FQ (RetE Θ Try.f81.results.toList [] [] (B r) E)) [] ⟨[(0, (AV.agg ((o64 p1))))], [], [JJ]⟩
  obtain ⟨r2, hr2, h⟩ := bnS h
  rcases itS h with ⟨c3, h⟩ | ⟨c4, h⟩
  · have h := Option.some.inj h
    subst h
    exact go_ret hΘ hm hP hn (hs := [⟨0, .new 1001, none⟩, ⟨4, .callV [] (B r2), none⟩, ⟨6, .no, some (B true)⟩]) (rh := []) (ph := .raw) (ps := [Meets Try.prog 101 [(I p1.Thread), (I 0), (I 4)] (B r2), litA (B r2) = true, (B (!r2)) = (B true), (B false) = (B false), litA (B false) = true]) (by kernel_rfl) ⟨(impl_in_m hr2), rfl, (litB c3), rfl, rfl, trivial⟩
  · obtain ⟨r5, hr5, h⟩ := bnS h
    rcases itS h with ⟨c6, h⟩ | ⟨c7, h⟩
    · have h := Option.some.inj h
      subst h
      exact go_ret hΘ hm hP hn (hs := [⟨0, .new 1001, none⟩, ⟨4, .callV [] (B r2), none⟩, ⟨6, .no, some (B false)⟩, ⟨9, .callV [] (B r5), none⟩, ⟨12, .no, some (B true)⟩]) (rh := []) (ph := .raw) (ps := [Meets Try.prog 101 [(I p1.Thread), (I 0), (I 4)] (B r2), litA (B r2) = true, (B (!r2)) = (B false), Meets Try.prog 101 [(I p1.Kind), (I 1), (I 12)] (B r5), litA (B r5) = true, (B (!r5)) = (B true), (B false) = (B false), litA (B false) = true]) (by kernel_rfl) ⟨(impl_in_m hr2), rfl, (litB c4), (impl_in_m hr5), rfl, (litB c6), rfl, rfl, trivial⟩
    · obtain ⟨r8, hr8, h⟩ := bnS h
      rcases itS h with ⟨c9, h⟩ | ⟨c10, h⟩
      · have h := Option.some.inj h
        subst h
        exact go_ret hΘ hm hP hn (hs := [⟨0, .new 1001, none⟩, ⟨4, .callV [] (B r2), none⟩, ⟨6, .no, some (B false)⟩, ⟨9, .callV [] (B r5), none⟩, ⟨12, .no, some (B false)⟩, ⟨15, .callV [] (B r8), none⟩, ⟨18, .no, some (B true)⟩]) (rh := []) (ph := .raw) (ps := [Meets Try.prog 101 [(I p1.Thread), (I 0), (I 4)] (B r2), litA (B r2) = true, (B (!r2)) = (B false), Meets Try.prog 101 [(I p1.Kind), (I 1), (I 12)] (B r5), litA (B r5) = true, (B (!r5)) = (B false), Meets Try.prog 101 [(I p1.Obj), (I (-1)), (I 99)] (B r8), litA (B r8) = true, (B (!r8)) = (B true), (B false) = (B false), litA (B false) = true]) (by kernel_rfl) ⟨(impl_in_m hr2), rfl, (litB c4), (impl_in_m hr5), rfl, (litB c7), (impl_in_m hr8), rfl, (litB c9), rfl, rfl, trivial⟩
      · obtain ⟨r11, hr11, h⟩ := bnS h
        rcases itS h with ⟨c12, h⟩ | ⟨c13, h⟩
        · have h := Option.some.inj h
          subst h
          exact go_ret hΘ hm hP hn (hs := [⟨0, .new 1001, none⟩, ⟨4, .callV [] (B r2), none⟩, ⟨6, .no, some (B false)⟩, ⟨9, .callV [] (B r5), none⟩, ⟨12, .no, some (B false)⟩, ⟨15, .callV [] (B r8), none⟩, ⟨18, .no, some (B false)⟩, ⟨21, .callV [] (B r11), none⟩, ⟨24, .no, some (B true)⟩]) (rh := []) (ph := .raw) (ps := [Meets Try.prog 101 [(I p1.Thread), (I 0), (I 4)] (B r2), litA (B r2) = true, (B (!r2)) = (B false), Meets Try.prog 101 [(I p1.Kind), (I 1), (I 12)] (B r5), litA (B r5) = true, (B (!r5)) = (B false), Meets Try.prog 101 [(I p1.Obj), (I (-1)), (I 99)] (B r8), litA (B r8) = true, (B (!r8)) = (B false), Meets Try.prog 101 [(I p1.Lock), (I (-1)), (I 99)] (B r11), litA (B r11) = true, (B (!r11)) = (B true), (B false) = (B false), litA (B false) = true]) (by kernel_rfl) ⟨(impl_in_m hr2), rfl, (litB c4), (impl_in_m hr5), rfl, (litB c7), (impl_in_m hr8), rfl, (litB c10), (impl_in_m hr11), rfl, (litB c12), rfl, rfl, trivial⟩
        · obtain ⟨r14, hr14, h⟩ := bnS h
          rcases itS h with ⟨c15, h⟩ | ⟨c16, h⟩
          · have h := Option.some.inj h
            subst h
            exact go_ret hΘ hm hP hn (hs := [⟨0, .new 1001, none⟩, ⟨4, .callV [] (B r2), none⟩, ⟨6, .no, some (B false)⟩, ⟨9, .callV [] (B r5), none⟩, ⟨12, .no, some (B false)⟩, ⟨15, .callV [] (B r8), none⟩, ⟨18, .no, some (B false)⟩, ⟨21, .callV [] (B r11), none⟩, ⟨24, .no, some (B false)⟩, ⟨27, .callV [] (B r14), none⟩, ⟨30, .br true, none⟩]) (rh := []) (ph := .raw) (ps := [Meets Try.prog 101 [(I p1.Thread), (I 0), (I 4)] (B r2), litA (B r2) = true, (B (!r2)) = (B false), Meets Try.prog 101 [(I p1.Kind), (I 1), (I 12)] (B r5), litA (B r5) = true, (B (!r5)) = (B false), Meets Try.prog 101 [(I p1.Obj), (I (-1)), (I 99)] (B r8), litA (B r8) = true, (B (!r8)) = (B false), Meets Try.prog 101 [(I p1.Lock), (I (-1)), (I 99)] (B r11), litA (B r11) = true, (B (!r11)) = (B false), Meets Try.prog 101 [(I p1.Pc), (I 0), (I 99)] (B r14), litA (B r14) = true, (!r14) = true, (B false) = (B false), litA (B false) = true]) (by kernel_rfl) ⟨(impl_in_m hr2), rfl, (litB c4), (impl_in_m hr5), rfl, (litB c7), (impl_in_m hr8), rfl, (litB c10), (impl_in_m hr11), rfl, (litB c13), (impl_in_m hr14), rfl, c15, rfl, rfl, trivial⟩
          · exact go_to hΘ hm hx hP hn (hs := [⟨0, .new 1001, none⟩, ⟨4, .callV [] (B r2), none⟩, ⟨6, .no, some (B false)⟩, ⟨9, .callV [] (B r5), none⟩, ⟨12, .no, some (B false)⟩, ⟨15, .callV [] (B r8), none⟩, ⟨18, .no, some (B false)⟩, ⟨21, .callV [] (B r11), none⟩, ⟨24, .no, some (B false)⟩, ⟨27, .callV [] (B r14), none⟩, ⟨30, .br false, none⟩]) (π := [(1001, 1)]) (ts := [1]) (kp := []) (ps := [Meets Try.prog 101 [(I p1.Thread), (I 0), (I 4)] (B r2), litA (B r2) = true, (B (!r2)) = (B false), Meets Try.prog 101 [(I p1.Kind), (I 1), (I 12)] (B r5), litA (B r5) = true, (B (!r5)) = (B false), Meets Try.prog 101 [(I p1.Obj), (I (-1)), (I 99)] (B r8), litA (B r8) = true, (B (!r8)) = (B false), Meets Try.prog 101 [(I p1.Lock), (I (-1)), (I 99)] (B r11), litA (B r11) = true, (B (!r11)) = (B false), Meets Try.prog 101 [(I p1.Pc), (I 0), (I 99)] (B r14), litA (B r14) = true, (!r14) = false, RenOK [(1001, 1)] [((o64 p1))]]) (by kernel_rfl) ⟨(impl_in_m hr2), rfl, (litB c4), (impl_in_m hr5), rfl, (litB c7), (impl_in_m hr8), rfl, (litB c10), (impl_in_m hr11), rfl, (litB c13), (impl_in_m hr14), rfl, c16, (rok rfl), trivial⟩ (impl_Event_isGood_j0_m hP hn hx p1  _ h)
noncomputable def body80 : Code := match Try.f80.body with | some c => c | none => .skip
noncomputable def impl_GoodTrace_1 (p1 : GEvent) : Option Bool :=
  Option.bind (impl_Event_isGood p1) fun r2 =>
  some (!r2)
theorem impl_GoodTrace_1_m {p1 : GEvent} {r : Bool} (h : impl_GoodTrace_1 p1 = some r) : Meets Try.prog 80 [(AV.agg ((o64 p1)))] (B r) := by
  refine meets_ofC Θ_ok Try.func80 rfl (c := body80) (by kernel_rfl) (Nat.le_of_ble_eq_true rfl) ?_
  intro E hP hn hx
  replace hn : E.n = 6 := hn
  have hm : E.P.follows .mixedOrders = true := by rw [hP]; exact mixed
  have hΘ : TOK E.P Θ := by rw [hP]; exact Θ_ok
  unfold impl_GoodTrace_1 at h
  show WAt E body80 (FQ (RetE Θ Try.f80.results.toList [] [] (B r) E)) [] ⟨[(0, (AV.agg ((o64 p1))))], [], [JJ]⟩
  obtain ⟨r2, hr2, h⟩ := bnS h
  have h := Option.some.inj h
  subst h
  exact go_ret hΘ hm hP hn (hs := [⟨0, .new 1001, none⟩, ⟨3, .callV [[]] (B r2), none⟩]) (rh := []) (ph := .raw) (ps := [Meets Try.prog 81 [(AV.agg ((o64 p1)))] (B r2), litA (B r2) = true, (B (!r2)) = (B (!r2)), litA (B (!r2)) = true]) (by kernel_rfl) ⟨(impl_Event_isGood_m hr2), rfl, rfl, rfl, trivial⟩
noncomputable def body117 : Code := match Try.f117.body with | some c => c | none => .skip
noncomputable def slices_IndexFunc_Event_Event__impl_GoodTrace_1_l0  (p1 : (List GEvent)) : Nat → Int → Option Int
  | 0, _ => none
  | n + 1, v2 =>
  if (decide (v2 < (p1.length : Int))) = true then
    Option.bind (rd p1 v2) fun x4 =>
    Option.bind (impl_GoodTrace_1 x4) fun r5 =>
    if r5 = true then
      some v2
    else
      slices_IndexFunc_Event_Event__impl_GoodTrace_1_l0 p1 n (w64 (v2 + 1))
  else
    some (-1)
theorem slices_IndexFunc_Event_Event__impl_GoodTrace_1_l0_m {E : Env} (hP : E.P = Try.prog) (hn : E.n = 19) (hx : ∀ p, p ∈ E.fx → p.1 ∈ ([] : List Nat)) (p1 : (List GEvent))  : ∀ (n : Nat) (v2 : Int) (r : Int), slices_IndexFunc_Event_Event__impl_GoodTrace_1_l0 p1 n v2 = some r → WAt E body117 (FQ (RetE Θ Try.f117.results.toList [] [] (I r) E)) [true, false, true, false] ⟨[(0, (AV.ro 5 (p1.map o64))), (1, (AV.fn 80 [])), (7, (I (p1.length : Int))), (8, (I v2))], [], [JJ]⟩ := by
  have hm : E.P.follows .mixedOrders = true := by rw [hP]; exact mixed
  have hΘ : TOK E.P Θ := by rw [hP]; exact Θ_ok
  intro n
  induction n with
  | zero => intro v2 r h; simp only [slices_IndexFunc_Event_Event__impl_GoodTrace_1_l0] at h; cases h
  | succ n ih =>
    intro v2 r h
    simp only [slices_IndexFunc_Event_Event__impl_GoodTrace_1_l0] at h
    rcases itS h with ⟨c3, h⟩ | ⟨c8, h⟩
    · obtain ⟨x4, hx4, h⟩ := bnS h
      obtain ⟨r5, hr5, h⟩ := bnS h
      rcases itS h with ⟨c6, h⟩ | ⟨c7, h⟩
      · have h := Option.some.inj h
        subst h
        exact go_ret hΘ hm hP hn (hs := [⟨1, .br true, none⟩, ⟨7, .row (o64 x4), none⟩, ⟨9, .callV [[]] (B r5), none⟩, ⟨10, .br true, none⟩]) (rh := []) (ph := .raw) (ps := [(decide (v2 < (p1.length : Int))) = true, (0 : Int) ≤ v2, (p1.map o64)[(Int.toNat v2)]? = some (o64 x4), Meets Try.prog 80 [(AV.agg ((o64 x4)))] (B r5), litA (B r5) = true, r5 = true, (I v2) = (I v2), litA (I v2) = true]) (by kernel_rfl) ⟨c3, (rd0 hx4), (rdM o64 hx4), (impl_GoodTrace_1_m hr5), rfl, c6, rfl, rfl, trivial⟩
      · exact go_to hΘ hm hx hP hn (hs := [⟨1, .br true, none⟩, ⟨7, .row (o64 x4), none⟩, ⟨9, .callV [[]] (B r5), none⟩, ⟨10, .br false, none⟩]) (π := []) (ts := [0, 1, 7, 8]) (kp := []) (ps := [(decide (v2 < (p1.length : Int))) = true, (0 : Int) ≤ v2, (p1.map o64)[(Int.toNat v2)]? = some (o64 x4), Meets Try.prog 80 [(AV.agg ((o64 x4)))] (B r5), litA (B r5) = true, r5 = false]) (by kernel_rfl) ⟨c3, (rd0 hx4), (rdM o64 hx4), (impl_GoodTrace_1_m hr5), rfl, c7, trivial⟩ (ih (w64 (v2 + 1)) _ h)
    · have h := Option.some.inj h
      subst h
      exact go_ret hΘ hm hP hn (hs := [⟨1, .br false, none⟩]) (rh := []) (ph := .raw) (ps := [(decide (v2 < (p1.length : Int))) = false, (I (-1)) = (I (-1)), litA (I (-1)) = true]) (by kernel_rfl) ⟨c8, rfl, rfl, trivial⟩
noncomputable def slices_IndexFunc_Event_Event__impl_GoodTrace_1 (p1 : (List GEvent)) : Option Int :=
  slices_IndexFunc_Event_Event__impl_GoodTrace_1_l0 p1 FU 0
theorem slices_IndexFunc_Event_Event__impl_GoodTrace_1_m {p1 : (List GEvent)} {r : Int} (h : slices_IndexFunc_Event_Event__impl_GoodTrace_1 p1 = some r) : Meets Try.prog 117 [(AV.ro 5 (p1.map o64)), (AV.fn 80 [])] (I r) := by
  refine meets_ofC Θ_ok Try.func117 rfl (c := body117) (by kernel_rfl) (Nat.le_of_ble_eq_true rfl) ?_
  intro E hP hn hx
  replace hn : E.n = 19 := hn
  have hm : E.P.follows .mixedOrders = true := by rw [hP]; exact mixed
  have hΘ : TOK E.P Θ := by rw [hP]; exact Θ_ok
  unfold slices_IndexFunc_Event_Event__impl_GoodTrace_1 at h
  show WAt E body117 (FQ (RetE Θ Try.f117.results.toList [] [] (I r) E)) [] ⟨[(0, (AV.ro 5 (p1.map o64))), (1, (AV.fn 80 []))], [], [JJ]⟩
  exact go_to hΘ hm hx hP hn (hs := [⟨2, .no, some (I (p1.length : Int))⟩]) (π := []) (ts := [0, 1, 7, 8]) (kp := []) (ps := [AV.lit (.int .i64 (((p1.map o64).length : Nat) : Int)) = (I (p1.length : Int))]) (by kernel_rfl) ⟨(lenM o64), trivial⟩ (slices_IndexFunc_Event_Event__impl_GoodTrace_1_l0_m hP hn hx p1 FU 0 _ h)
noncomputable def body79 : Code := match Try.f79.body with | some c => c | none => .skip
noncomputable def slices_ContainsFunc_Event_Event__impl_GoodTrace_1 (p1 : (List GEvent)) : Option Bool :=
  Option.bind (slices_IndexFunc_Event_Event__impl_GoodTrace_1 p1) fun r2 =>
  some (decide (r2 ≥ 0))
theorem slices_ContainsFunc_Event_Event__impl_GoodTrace_1_m {p1 : (List GEvent)} {r : Bool} (h : slices_ContainsFunc_Event_Event__impl_GoodTrace_1 p1 = some r) : Meets Try.prog 79 [(AV.ro 5 (p1.map o64)), (AV.fn 80 [])] (B r) := by
  refine meets_ofC Θ_ok Try.func79 rfl (c := body79) (by kernel_rfl) (Nat.le_of_ble_eq_true rfl) ?_
  intro E hP hn hx
  replace hn : E.n = 9 := hn
  have hm : E.P.follows .mixedOrders = true := by rw [hP]; exact mixed
  have hΘ : TOK E.P Θ := by rw [hP]; exact Θ_ok
  unfold slices_ContainsFunc_Event_Event__impl_GoodTrace_1 at h
  show WAt E body79 (FQ (RetE Θ Try.f79.results.toList [] [] (B r) E)) [] ⟨[(0, (AV.ro 5 (p1.map o64))), (1, (AV.fn 80 []))], [], [JJ]⟩
  obtain ⟨r2, hr2, h⟩ := bnS h
  have h := Option.some.inj h
  subst h
  exact go_ret hΘ hm hP hn (hs := [⟨3, .callV [] (I r2), none⟩]) (rh := []) (ph := .raw) (ps := [Meets Try.prog 117 [(AV.ro 5 (p1.map o64)), (AV.fn 80 [])] (I r2), litA (I r2) = true, (B (decide (r2 ≥ 0))) = (B (decide (r2 ≥ 0))), litA (B (decide (r2 ≥ 0))) = true]) (by kernel_rfl) ⟨(slices_IndexFunc_Event_Event__impl_GoodTrace_1_m hr2), rfl, rfl, rfl, trivial⟩
noncomputable def body47 : Code := match Try.f47.body with | some c => c | none => .skip
noncomputable def impl_GoodTrace (p1 : (List GEvent)) : Option Bool :=
  if (decide ((p1.length : Int) ≤ 200)) = true then
    Option.bind (slices_ContainsFunc_Event_Event__impl_GoodTrace_1 p1) fun r3 =>
    some (!r3)
  else
    some false
theorem impl_GoodTrace_m {p1 : (List GEvent)} {r : Bool} (h : impl_GoodTrace p1 = some r) : Meets Try.prog 47 [(AV.ro 5 (p1.map o64))] (B r) := by
  refine meets_ofC Θ_ok Try.func47 rfl (c := body47) (by kernel_rfl) (Nat.le_of_ble_eq_true rfl) ?_
  intro E hP hn hx
  replace hn : E.n = 11 := hn
  have hm : E.P.follows .mixedOrders = true := by rw [hP]; exact mixed
  have hΘ : TOK E.P Θ := by rw [hP]; exact Θ_ok
  unfold impl_GoodTrace at h
  show WAt E body47 (FQ (RetE Θ Try.f47.results.toList [] [] (B r) E)) [] ⟨[(0, (AV.ro 5 (p1.map o64)))], [], [JJ]⟩
  rcases itS h with ⟨c2, h⟩ | ⟨c4, h⟩
  · obtain ⟨r3, hr3, h⟩ := bnS h
    have h := Option.some.inj h
    subst h
    exact go_ret hΘ hm hP hn (hs := [⟨2, .no, some (I (p1.length : Int))⟩, ⟨4, .no, some (B true)⟩, ⟨6, .callV [] (B r3), none⟩]) (rh := []) (ph := .raw) (ps := [AV.lit (.int .i64 (((p1.map o64).length : Nat) : Int)) = (I (p1.length : Int)), (B (decide ((p1.length : Int) ≤ 200))) = (B true), Meets Try.prog 79 [(AV.ro 5 (p1.map o64)), (AV.fn 80 [])] (B r3), litA (B r3) = true, (B (!r3)) = (B (!r3)), litA (B (!r3)) = true]) (by kernel_rfl) ⟨(lenM o64), (litB c2), (slices_ContainsFunc_Event_Event__impl_GoodTrace_1_m hr3), rfl, rfl, rfl, trivial⟩
  · have h := Option.some.inj h
    subst h
    exact go_ret hΘ hm hP hn (hs := [⟨2, .no, some (I (p1.length : Int))⟩, ⟨4, .no, some (B false)⟩]) (rh := []) (ph := .raw) (ps := [AV.lit (.int .i64 (((p1.map o64).length : Nat) : Int)) = (I (p1.length : Int)), (B (decide ((p1.length : Int) ≤ 200))) = (B false), (B false) = (B false), litA (B false) = true]) (by kernel_rfl) ⟨(lenM o64), (litB c4), rfl, rfl, trivial⟩
noncomputable def body83 : Code := match Try.f83.body with | some c => c | none => .skip
noncomputable def impl_Event_touches (p1 : GEvent) : Option Bool :=
  if (p1.Kind == 2) = true then
    some true
  else
    some (p1.Kind == 3)
theorem impl_Event_touches_m {p1 : GEvent} {r : Bool} (h : impl_Event_touches p1 = some r) : Meets Try.prog 83 [(AV.agg ((o64 p1)))] (B r) := by
  refine meets_ofC Θ_ok Try.func83 rfl (c := body83) (by kernel_rfl) (Nat.le_of_ble_eq_true rfl) ?_
  intro E hP hn hx
  replace hn : E.n = 11 := hn
  have hm : E.P.follows .mixedOrders = true := by rw [hP]; exact mixed
  have hΘ : TOK E.P Θ := by rw [hP]; exact Θ_ok
  unfold impl_Event_touches at h
  show WAt E body83 (FQ (RetE Θ Try.f83.results.toList [] [] (B r) E)) [] ⟨[(0, (AV.agg ((o64 p1))))], [], [JJ]⟩
  rcases itS h with ⟨c2, h⟩ | ⟨c3, h⟩
  · have h := Option.some.inj h
    subst h
    exact go_ret hΘ hm hP hn (hs := [⟨0, .new 1001, none⟩, ⟨5, .no, some (B true)⟩]) (rh := []) (ph := .raw) (ps := [(B (p1.Kind == 2)) = (B true), (B true) = (B true), litA (B true) = true]) (by kernel_rfl) ⟨(litB c2), rfl, rfl, trivial⟩
  · have h := Option.some.inj h
    subst h
    exact go_ret hΘ hm hP hn (hs := [⟨0, .new 1001, none⟩, ⟨5, .no, some (B false)⟩]) (rh := []) (ph := .raw) (ps := [(B (p1.Kind == 2)) = (B false), (B (p1.Kind == 3)) = (B (p1.Kind == 3)), litA (B (p1.Kind == 3)) = true]) (by kernel_rfl) ⟨(litB c3), rfl, rfl, trivial⟩
noncomputable def body128 : Code := match Try.f128.body with | some c => c | none => .skip
noncomputable def impl_Event_gives (p1 : GEvent) : Option Int :=
  if (p1.Kind == 5) = true then
    some p1.Obj
  else
    if (p1.Kind == 8) = true then
      some p1.Lock
    else
      some (-1)
theorem impl_Event_gives_m {p1 : GEvent} {r : Int} (h : impl_Event_gives p1 = some r) : Meets Try.prog 128 [(AV.agg ((o64 p1)))] (I r) := by
  refine meets_ofC Θ_ok Try.func128 rfl (c := body128) (by kernel_rfl) (Nat.le_of_ble_eq_true rfl) ?_
  intro E hP hn hx
  replace hn : E.n = 13 := hn
  have hm : E.P.follows .mixedOrders = true := by rw [hP]; exact mixed
  have hΘ : TOK E.P Θ := by rw [hP]; exact Θ_ok
  unfold impl_Event_gives at h
  show WAt E body128 (FQ (RetE Θ Try.f128.results.toList [] [] (I r) E)) [] ⟨[(0, (AV.agg ((o64 p1))))], [], [JJ]⟩
  rcases itS h with ⟨c2, h⟩ | ⟨c3, h⟩
  · have h := Option.some.inj h
    subst h
    exact go_ret hΘ hm hP hn (hs := [⟨0, .new 1001, none⟩, ⟨6, .br true, none⟩]) (rh := []) (ph := .raw) (ps := [(p1.Kind == 5) = true, (I p1.Obj) = (I p1.Obj), litA (I p1.Obj) = true]) (by kernel_rfl) ⟨c2, rfl, rfl, trivial⟩
  · rcases itS h with ⟨c4, h⟩ | ⟨c5, h⟩
    · have h := Option.some.inj h
      subst h
      exact go_ret hΘ hm hP hn (hs := [⟨0, .new 1001, none⟩, ⟨6, .br false, none⟩, ⟨9, .br true, none⟩]) (rh := []) (ph := .raw) (ps := [(p1.Kind == 5) = false, (p1.Kind == 8) = true, (I p1.Lock) = (I p1.Lock), litA (I p1.Lock) = true]) (by kernel_rfl) ⟨c3, c4, rfl, rfl, trivial⟩
    · have h := Option.some.inj h
      subst h
      exact go_ret hΘ hm hP hn (hs := [⟨0, .new 1001, none⟩, ⟨6, .br false, none⟩, ⟨9, .br false, none⟩]) (rh := []) (ph := .raw) (ps := [(p1.Kind == 5) = false, (p1.Kind == 8) = false, (I (-1)) = (I (-1)), litA (I (-1)) = true]) (by kernel_rfl) ⟨c3, c5, rfl, rfl, trivial⟩
noncomputable def body123 : Code := match Try.f123.body with | some c => c | none => .skip
noncomputable def impl_Event_takes (p1 : GEvent) : Option Int :=
  if (p1.Kind == 4) = true then
    some p1.Obj
  else
    if (p1.Kind == 9) = true then
      some p1.Lock
    else
      some (-1)
theorem impl_Event_takes_m {p1 : GEvent} {r : Int} (h : impl_Event_takes p1 = some r) : Meets Try.prog 123 [(AV.agg ((o64 p1)))] (I r) := by
  refine meets_ofC Θ_ok Try.func123 rfl (c := body123) (by kernel_rfl) (Nat.le_of_ble_eq_true rfl) ?_
  intro E hP hn hx
  replace hn : E.n = 13 := hn
  have hm : E.P.follows .mixedOrders = true := by rw [hP]; exact mixed
  have hΘ : TOK E.P Θ := by rw [hP]; exact Θ_ok
  unfold impl_Event_takes at h
  show WAt E body123 (FQ (RetE Θ Try.f123.results.toList [] [] (I r) E)) [] ⟨[(0, (AV.agg ((o64 p1))))], [], [JJ]⟩
  rcases itS h with ⟨c2, h⟩ | ⟨c3, h⟩
  · have h := Option.some.inj h
    subst h
    exact go_ret hΘ hm hP hn (hs := [⟨0, .new 1001, none⟩, ⟨6, .br true, none⟩]) (rh := []) (ph := .raw) (ps := [(p1.Kind == 4) = true, (I p1.Obj) = (I p1.Obj), litA (I p1.Obj) = true]) (by kernel_rfl) ⟨c2, rfl, rfl, trivial⟩
  · rcases itS h with ⟨c4, h⟩ | ⟨c5, h⟩
    · have h := Option.some.inj h
      subst h
      exact go_ret hΘ hm hP hn (hs := [⟨0, .new 1001, none⟩, ⟨6, .br false, none⟩, ⟨9, .br true, none⟩]) (rh := []) (ph := .raw) (ps := [(p1.Kind == 4) = false, (p1.Kind == 9) = true, (I p1.Lock) = (I p1.Lock), litA (I p1.Lock) = true]) (by kernel_rfl) ⟨c3, c4, rfl, rfl, trivial⟩
    · have h := Option.some.inj h
      subst h
      exact go_ret hΘ hm hP hn (hs := [⟨0, .new 1001, none⟩, ⟨6, .br false, none⟩, ⟨9, .br false, none⟩]) (rh := []) (ph := .raw) (ps := [(p1.Kind == 4) = false, (p1.Kind == 9) = false, (I (-1)) = (I (-1)), litA (I (-1)) = true]) (by kernel_rfl) ⟨c3, c5, rfl, rfl, trivial⟩
noncomputable def body118 : Code := match Try.f118.body with | some c => c | none => .skip
noncomputable def impl_leads_j0  (p1 : GEvent) (p2 : GEvent)  : Option Bool :=
  if (p1.Kind == 6) = true then
    some (p1.Obj == p2.Thread)
  else
    if (p1.Kind == 11) = true then
      if (p2.Kind == 7) = true then
        some (p2.Obj == p1.Thread)
      else
        some false
    else
      if (p1.Kind == 10) = true then
        if (p2.Kind == 9) = true then
          some (p1.Lock == p2.Thread)
        else
          some false
      else
        some false
theorem impl_leads_j0_m {E : Env} (hP : E.P = Try.prog) (hn : E.n = 60) (hx : ∀ p, p ∈ E.fx → p.1 ∈ ([] : List Nat)) (p1 : GEvent) (p2 : GEvent)   (r : Bool) (h : impl_leads_j0 p1 p2  = some r) : WAt E body118 (FQ (RetE Θ Try.f118.results.toList [] [] (B r) E)) [true, false, false, true, true] ⟨[(2, (AV.ptr 1 0 0)), (3, (AV.ptr 2 0 0))], [(1, some ⟨64, 5, [((o64 p1))]⟩), (2, some ⟨64, 5, [((o64 p2))]⟩)], [1, 2, JJ]⟩ := by
  have hm : E.P.follows .mixedOrders = true := by rw [hP]; exact mixed
  have hΘ : TOK E.P Θ := by rw [hP]; exact Θ_ok
  unfold impl_leads_j0 at h
  rcases itS h with ⟨c11, h⟩ | ⟨c12, h⟩
  · have h := Option.some.inj h
    subst h
    exact go_ret hΘ hm hP hn (hs := [⟨4, .br true, none⟩]) (rh := []) (ph := .raw) (ps := [(p1.Kind == 6) = true, (B (p1.Obj == p2.Thread)) = (B (p1.Obj == p2.Thread)), litA (B (p1.Obj == p2.Thread)) = true]) (by kernel_rfl) ⟨c11, rfl, rfl, trivial⟩
  · rcases itS h with ⟨c13, h⟩ | ⟨c16, h⟩
    · rcases itS h with ⟨c14, h⟩ | ⟨c15, h⟩
      · have h := Option.some.inj h
        subst h
        exact go_ret hΘ hm hP hn (hs := [⟨4, .br false, none⟩, ⟨9, .br true, none⟩, ⟨13, .no, some (B true)⟩]) (rh := []) (ph := .raw) (ps := [(p1.Kind == 6) = false, (p1.Kind == 11) = true, (B (p2.Kind == 7)) = (B true), (B (p2.Obj == p1.Thread)) = (B (p2.Obj == p1.Thread)), litA (B (p2.Obj == p1.Thread)) = true]) (by kernel_rfl) ⟨c12, c13, (litB c14), rfl, rfl, trivial⟩
      · have h := Option.some.inj h
        subst h
        exact go_ret hΘ hm hP hn (hs := [⟨4, .br false, none⟩, ⟨9, .br true, none⟩, ⟨13, .no, some (B false)⟩]) (rh := []) (ph := .raw) (ps := [(p1.Kind == 6) = false, (p1.Kind == 11) = true, (B (p2.Kind == 7)) = (B false), (B false) = (B false), litA (B false) = true]) (by kernel_rfl) ⟨c12, c13, (litB c15), rfl, rfl, trivial⟩
    · rcases itS h with ⟨c17, h⟩ | ⟨c20, h⟩
      · rcases itS h with ⟨c18, h⟩ | ⟨c19, h⟩
        · have h := Option.some.inj h
          subst h
          exact go_ret hΘ hm hP hn (hs := [⟨4, .br false, none⟩, ⟨9, .br false, none⟩, ⟨14, .br true, none⟩, ⟨18, .no, some (B true)⟩]) (rh := []) (ph := .raw) (ps := [(p1.Kind == 6) = false, (p1.Kind == 11) = false, (p1.Kind == 10) = true, (B (p2.Kind == 9)) = (B true), (B (p1.Lock == p2.Thread)) = (B (p1.Lock == p2.Thread)), litA (B (p1.Lock == p2.Thread)) = true]) (by kernel_rfl) ⟨c12, c16, c17, (litB c18), rfl, rfl, trivial⟩
        · have h := Option.some.inj h
          subst h
          exact go_ret hΘ hm hP hn (hs := [⟨4, .br false, none⟩, ⟨9, .br false, none⟩, ⟨14, .br true, none⟩, ⟨18, .no, some (B false)⟩]) (rh := []) (ph := .raw) (ps := [(p1.Kind == 6) = false, (p1.Kind == 11) = false, (p1.Kind == 10) = true, (B (p2.Kind == 9)) = (B false), (B false) = (B false), litA (B false) = true]) (by kernel_rfl) ⟨c12, c16, c17, (litB c19), rfl, rfl, trivial⟩
      · have h := Option.some.inj h
        subst h
        exact go_ret hΘ hm hP hn (hs := [⟨4, .br false, none⟩, ⟨9, .br false, none⟩, ⟨14, .br false, none⟩]) (rh := []) (ph := .raw) (ps := [(p1.Kind == 6) = false, (p1.Kind == 11) = false, (p1.Kind == 10) = false, (B false) = (B false), litA (B false) = true]) (by kernel_rfl) ⟨c12, c16, c20, rfl, rfl, trivial⟩
noncomputable def impl_leads (p1 : GEvent) (p2 : GEvent) : Option Bool :=
  if (p1.Thread == p2.Thread) = true then
    some true
  else
    Option.bind (impl_Event_gives p1) fun r5 =>
    if (decide (r5 ≥ 0)) = true then
      Option.bind (impl_Event_gives p1) fun r7 =>
      Option.bind (impl_Event_takes p2) fun r8 =>
      if (r7 == r8) = true then
        some true
      else
        impl_leads_j0 p1 p2
    else
      impl_leads_j0 p1 p2
theorem impl_leads_m {p1 : GEvent} {p2 : GEvent} {r : Bool} (h : impl_leads p1 p2 = some r) : Meets Try.prog 118 [(AV.agg ((o64 p1))), (AV.agg ((o64 p2)))] (B r) := by
  refine meets_ofC Θ_ok Try.func118 rfl (c := body118) (by kernel_rfl) (Nat.le_of_ble_eq_true rfl) ?_
  intro E hP hn hx
  replace hn : E.n = 60 := hn
  have hm : E.P.follows .mixedOrders = true := by rw [hP]; exact mixed
  have hΘ : TOK E.P Θ := by rw [hP]; exact Θ_ok
  unfold impl_leads at h
  show WAt E body118 (FQ (RetE Θ Try.f118.results.toList [] [] (B r) E)) [] ⟨[(0, (AV.agg ((o64 p1)))), (1, (AV.agg ((o64 p2))))], [], [JJ]⟩
  rcases itS h with ⟨c3, h⟩ | ⟨c4, h⟩
  · have h := Option.some.inj h
    subst h
    exact go_ret hΘ hm hP hn (hs := [⟨0, .new 1001, none⟩, ⟨1, .new 1002, none⟩, ⟨8, .no, some (B true)⟩]) (rh := []) (ph := .raw) (ps := [(B (p1.Thread == p2.Thread)) = (B true), (B true) = (B true), litA (B true) = true]) (by kernel_rfl) ⟨(litB c3), rfl, rfl, trivial⟩
  · obtain ⟨r5, hr5, h⟩ := bnS h
    rcases itS h with ⟨c6, h⟩ | ⟨c21, h⟩
    · obtain ⟨r7, hr7, h⟩ := bnS h
      obtain ⟨r8, hr8, h⟩ := bnS h
      rcases itS h with ⟨c9, h⟩ | ⟨c10, h⟩
      · have h := Option.some.inj h
        subst h
        exact go_ret hΘ hm hP hn (hs := [⟨0, .new 1001, none⟩, ⟨1, .new 1002, none⟩, ⟨8, .no, some (B false)⟩, ⟨10, .callV [[]] (I r5), none⟩, ⟨12, .no, some (B true)⟩, ⟨14, .callV [[]] (I r7), none⟩, ⟨16, .callV [[]] (I r8), none⟩, ⟨21, .br true, none⟩]) (rh := []) (ph := .raw) (ps := [(B (p1.Thread == p2.Thread)) = (B false), Meets Try.prog 128 [(AV.agg ((o64 p1)))] (I r5), litA (I r5) = true, (B (decide (r5 ≥ 0))) = (B true), Meets Try.prog 128 [(AV.agg ((o64 p1)))] (I r7), litA (I r7) = true, Meets Try.prog 123 [(AV.agg ((o64 p2)))] (I r8), litA (I r8) = true, (r7 == r8) = true, (B true) = (B true), litA (B true) = true]) (by kernel_rfl) ⟨(litB c4), (impl_Event_gives_m hr5), rfl, (litB c6), (impl_Event_gives_m hr7), rfl, (impl_Event_takes_m hr8), rfl, c9, rfl, rfl, trivial⟩
      · exact go_to hΘ hm hx hP hn (hs := [⟨0, .new 1001, none⟩, ⟨1, .new 1002, none⟩, ⟨8, .no, some (B false)⟩, ⟨10, .callV [[]] (I r5), none⟩, ⟨12, .no, some (B true)⟩, ⟨14, .callV [[]] (I r7), none⟩, ⟨16, .callV [[]] (I r8), none⟩, ⟨21, .br false, none⟩]) (π := [(1001, 1), (1002, 2)]) (ts := [2, 3]) (kp := []) (ps := [(B (p1.Thread == p2.Thread)) = (B false), Meets Try.prog 128 [(AV.agg ((o64 p1)))] (I r5), litA (I r5) = true, (B (decide (r5 ≥ 0))) = (B true), Meets Try.prog 128 [(AV.agg ((o64 p1)))] (I r7), litA (I r7) = true, Meets Try.prog 123 [(AV.agg ((o64 p2)))] (I r8), litA (I r8) = true, (r7 == r8) = false, RenOK [(1001, 1), (1002, 2)] [((o64 p1))], RenOK [(1001, 1), (1002, 2)] [((o64 p2))]]) (by kernel_rfl) ⟨(litB c4), (impl_Event_gives_m hr5), rfl, (litB c6), (impl_Event_gives_m hr7), rfl, (impl_Event_takes_m hr8), rfl, c10, (rok rfl), (rok rfl), trivial⟩ (impl_leads_j0_m hP hn hx p1 p2  _ h)
    · exact go_to hΘ hm hx hP hn (hs := [⟨0, .new 1001, none⟩, ⟨1, .new 1002, none⟩, ⟨8, .no, some (B false)⟩, ⟨10, .callV [[]] (I r5), none⟩, ⟨12, .no, some (B false)⟩]) (π := [(1001, 1), (1002, 2)]) (ts := [2, 3]) (kp := []) (ps := [(B (p1.Thread == p2.Thread)) = (B false), Meets Try.prog 128 [(AV.agg ((o64 p1)))] (I r5), litA (I r5) = true, (B (decide (r5 ≥ 0))) = (B false), RenOK [(1001, 1), (1002, 2)] [((o64 p1))], RenOK [(1001, 1), (1002, 2)] [((o64 p2))]]) (by kernel_rfl) ⟨(litB c4), (impl_Event_gives_m hr5), rfl, (litB c21), (rok rfl), (rok rfl), trivial⟩ (impl_leads_j0_m hP hn hx p1 p2  _ h)
noncomputable def body120 : Code := match Try.f120.body with | some c => c | none => .skip
noncomputable def impl_places_joined_l0   : Nat → (Vector Int 4) → (Vector Int 4) → (Vector Int 4) → Int → Option (Vector Int 4)
  | 0, _, _, _, _ => none
  | n + 1, a3, a4, a5, v6 =>
  if (decide (v6 < 4)) = true then
    Option.bind (rdv a3 v6) fun x8 =>
    Option.bind (rdv a4 v6) fun x9 =>
    Option.bind (rdv a3 v6) fun x10 =>
    impl_places_joined_l0 n (a3.setIfInBounds (Int.toNat v6) (ior .u64 x8 x9)) a4 a5 (w64 (v6 + 1))
  else
    some a3
theorem impl_places_joined_l0_m {E : Env} (hP : E.P = Try.prog) (hn : E.n = 19) (hx : ∀ p, p ∈ E.fx → p.1 ∈ ([] : List Nat))   : ∀ (n : Nat) (a3 : (Vector Int 4)) (a4 : (Vector Int 4)) (a5 : (Vector Int 4)) (v6 : Int) (r : (Vector Int 4)), impl_places_joined_l0  n a3 a4 a5 v6 = some r → WAt E body120 (FQ (RetE Θ Try.f120.results.toList [] [] (AV.agg (o104 r)) E)) [true, false, true, false] ⟨[(2, (AV.ptr 1 0 0)), (3, (AV.ptr 2 0 0)), (4, (AV.ptr 3 0 0)), (6, (I v6))], [(1, some ⟨104, 4, [((o104 a3))]⟩), (2, some ⟨104, 4, [((o104 a4))]⟩), (3, some ⟨104, 4, [((o104 a5))]⟩)], [1, 2, 3, JJ]⟩ := by
  have hm : E.P.follows .mixedOrders = true := by rw [hP]; exact mixed
  have hΘ : TOK E.P Θ := by rw [hP]; exact Θ_ok
  intro n
  induction n with
  | zero => intro a3 a4 a5 v6 r h; simp only [impl_places_joined_l0] at h; cases h
  | succ n ih =>
    intro a3 a4 a5 v6 r h
    simp only [impl_places_joined_l0] at h
    rcases itS h with ⟨c7, h⟩ | ⟨c11, h⟩
    · obtain ⟨x8, hx8, h⟩ := bnS h
      obtain ⟨x9, hx9, h⟩ := bnS h
      obtain ⟨x10, hx10, h⟩ := bnS h
      exact go_to hΘ hm hx hP hn (hs := [⟨1, .br true, none⟩, ⟨6, .cel ((o104 a3)) (IK .u64 x8), none⟩, ⟨9, .cel ((o104 a4)) (IK .u64 x9), none⟩, ⟨12, .sto ((o104 a3)) [((o104 (a3.setIfInBounds (Int.toNat v6) (ior .u64 x8 x9))))], none⟩]) (π := [(1, 1), (2, 2), (3, 3)]) (ts := [2, 3, 4, 6]) (kp := []) (ps := [(decide (v6 < 4)) = true, (0 : Int) ≤ v6, v6 < ((4 : Nat) : Int), ((o104 a3))[(Int.toNat v6)]? = some (IK .u64 x8), [((o104 a3))][0]? = some ((o104 a3)), (0 : Int) ≤ v6, v6 < ((4 : Nat) : Int), ((o104 a4))[(Int.toNat v6)]? = some (IK .u64 x9), [((o104 a4))][0]? = some ((o104 a4)), (0 : Int) ≤ v6, v6 < ((4 : Nat) : Int), [((o104 a3))][0]? = some ((o104 a3)), [((o104 a3))].set 0 (wr ((o104 a3)) (Int.toNat v6) [(IK .u64 (ior .u64 x8 x9))]) = [((o104 (a3.setIfInBounds (Int.toNat v6) (ior .u64 x8 x9))))], [(IK .u64 (ior .u64 x8 x9))].length = 1, (Int.toNat v6) + [(IK .u64 (ior .u64 x8 x9))].length ≤ ((o104 a3)).length, RenOK [(1, 1), (2, 2), (3, 3)] [((o104 (a3.setIfInBounds (Int.toNat v6) (ior .u64 x8 x9))))], RenOK [(1, 1), (2, 2), (3, 3)] [((o104 a4))], RenOK [(1, 1), (2, 2), (3, 3)] [((o104 a5))]]) (by kernel_rfl) ⟨c7, (rv0 hx8), (rvL hx8), (rvM k102 hx8), rfl, (rv0 hx9), (rvL hx9), (rvM k102 hx9), rfl, (rv0 hx10), (rvL hx10), rfl, (vecWr k102 _ (rvLt hx10)), rfl, (vecLe k102 hx10), (rok (treeB t104 (a3.setIfInBounds (Int.toNat v6) (ior .u64 x8 x9)))), (rok (treeB t104 a4)), (rok (treeB t104 a5)), trivial⟩ (ih (a3.setIfInBounds (Int.toNat v6) (ior .u64 x8 x9)) a4 a5 (w64 (v6 + 1)) _ h)
    · have h := Option.some.inj h
      subst h
      exact go_ret hΘ hm hP hn (hs := [⟨1, .br false, none⟩, ⟨2, .agg ((o104 a3)) ((o104 a3)), none⟩, ⟨3, .stoS ((o104 a5)) [((o104 a3))], none⟩]) (rh := [.agg ((o104 a3)) ((o104 a3))]) (ph := .raw) (ps := [(decide (v6 < 4)) = false, 0 + 4 ≤ ((o104 a3)).length, (((o104 a3)).drop 0).take 4 = ((o104 a3)), ((o104 a3)).all AV.plain = true, [((o104 a3))][0]? = some ((o104 a3)), [((o104 a5))][0]? = some ((o104 a5)), [((o104 a5))].set 0 (wr ((o104 a5)) 0 ((o104 a3))) = [((o104 a3))], ((o104 a3)).length = 4, 0 + ((o104 a3)).length ≤ ((o104 a5)).length, ((o104 a3)).all okLit = true, 0 + 4 ≤ ((o104 a3)).length, (((o104 a3)).drop 0).take 4 = ((o104 a3)), ((o104 a3)).all AV.plain = true, [((o104 a3))][0]? = some ((o104 a3)), (AV.agg ((o104 a3))) = (AV.agg ((o104 a3))), litA (AV.agg ((o104 a3))) = true]) (by kernel_rfl) ⟨c11, (vecLe0 k102), (vecAgg k102), (p104 _), rfl, rfl, (vecSt k102 k102), (vecLen k102), (vecLL k102 k102), (vecAll k102 (fun _ => rfl)), (vecLe0 k102), (vecAgg k102), (p104 _), rfl, rfl, (vecLit k102 (fun _ => rfl)), trivial⟩
noncomputable def impl_places_joined (p1 : (Vector Int 4)) (p2 : (Vector Int 4)) : Option (Vector Int 4) :=
  impl_places_joined_l0 FU p1 p2 (Vector.replicate 4 0) 0
theorem impl_places_joined_m {p1 : (Vector Int 4)} {p2 : (Vector Int 4)} {r : (Vector Int 4)} (h : impl_places_joined p1 p2 = some r) : Meets Try.prog 120 [(AV.agg ((o104 p1))), (AV.agg ((o104 p2)))] (AV.agg (o104 r)) := by
  refine meets_ofC Θ_ok Try.func120 rfl (c := body120) (by kernel_rfl) (Nat.le_of_ble_eq_true rfl) ?_
  intro E hP hn hx
  replace hn : E.n = 19 := hn
  have hm : E.P.follows .mixedOrders = true := by rw [hP]; exact mixed
  have hΘ : TOK E.P Θ := by rw [hP]; exact Θ_ok
  unfold impl_places_joined at h
  show WAt E body120 (FQ (RetE Θ Try.f120.results.toList [] [] (AV.agg (o104 r)) E)) [] ⟨[(0, (AV.agg ((o104 p1)))), (1, (AV.agg ((o104 p2))))], [], [JJ]⟩
  exact go_to hΘ hm hx hP hn (hs := [⟨0, .nw 1001 [((o104 p1))], none⟩, ⟨1, .nw 1002 [((o104 p2))], none⟩, ⟨2, .nw 1003 [((o104 (Vector.replicate 4 0)))], none⟩]) (π := [(1001, 1), (1002, 2), (1003, 3)]) (ts := [2, 3, 4, 6]) (kp := []) (ps := [[((o104 p1))] = [((o104 p1))], ((o104 p1)).length = 4, ((o104 p1)).all okLit = true, 0 < ((o104 p1)).length, [((o104 p2))] = [((o104 p2))], ((o104 p2)).length = 4, ((o104 p2)).all okLit = true, 0 < ((o104 p2)).length, [litL [.int .u64 0, .int .u64 0, .int .u64 0, .int .u64 0]] = [((o104 (Vector.replicate 4 0)))], RenOK [(1001, 1), (1002, 2), (1003, 3)] [((o104 p1))], RenOK [(1001, 1), (1002, 2), (1003, 3)] [((o104 p2))], RenOK [(1001, 1), (1002, 2), (1003, 3)] [((o104 (Vector.replicate 4 0)))]]) (by kernel_rfl) ⟨rfl, (vecLen k102), (vecAll k102 (fun _ => rfl)), (vecPos k102 (by decide)), rfl, (vecLen k102), (vecAll k102 (fun _ => rfl)), (vecPos k102 (by decide)), rfl, (rok (treeB t104 p1)), (rok (treeB t104 p2)), (rok (treeB t104 (Vector.replicate 4 0))), trivial⟩ (impl_places_joined_l0_m hP hn hx FU p1 p2 (Vector.replicate 4 0) 0 _ h)
noncomputable def body119 : Code := match Try.f119.body with | some c => c | none => .skip
noncomputable def impl_places_with (p1 : (Vector Int 4)) (p2 : Int) : Option (Vector Int 4) :=
  Option.bind (rdv p1 (w64 (Int.tdiv p2 64))) fun x3 =>
  Option.bind (ge0 (Int.tmod p2 64)) fun q4 =>
  Option.bind (rdv p1 (w64 (Int.tdiv p2 64))) fun x5 =>
  some (p1.setIfInBounds (Int.toNat (w64 (Int.tdiv p2 64))) (ior .u64 x3 (IntKind.wrap .u64 (1 * 2 ^ (min (Int.toNat (Int.tmod p2 64)) 64)))))
theorem impl_places_with_m {p1 : (Vector Int 4)} {p2 : Int} {r : (Vector Int 4)} (h : impl_places_with p1 p2 = some r) : Meets Try.prog 119 [(AV.agg ((o104 p1))), (I p2)] (AV.agg (o104 r)) := by
  refine meets_ofC Θ_ok Try.func119 rfl (c := body119) (by kernel_rfl) (Nat.le_of_ble_eq_true rfl) ?_
  intro E hP hn hx
  replace hn : E.n = 15 := hn
  have hm : E.P.follows .mixedOrders = true := by rw [hP]; exact mixed
  have hΘ : TOK E.P Θ := by rw [hP]; exact Θ_ok
  unfold impl_places_with at h
  show WAt E body119 (FQ (RetE Θ Try.f119.results.toList [] [] (AV.agg (o104 r)) E)) [] ⟨[(0, (AV.agg ((o104 p1)))), (1, (I p2))], [], [JJ]⟩
  obtain ⟨x3, hx3, h⟩ := bnS h
  obtain ⟨q4, hq4, h⟩ := bnS h
  obtain ⟨x5, hx5, h⟩ := bnS h
  have h := Option.some.inj h
  subst h
  exact go_ret hΘ hm hP hn (hs := [⟨0, .nw 1001 [((o104 p1))], none⟩, ⟨1, .nw 1002 [((o104 (Vector.replicate 4 0)))], none⟩, ⟨5, .cel ((o104 p1)) (IK .u64 x3), none⟩, ⟨11, .sto ((o104 p1)) [((o104 (p1.setIfInBounds (Int.toNat (w64 (Int.tdiv p2 64))) (ior .u64 x3 (IntKind.wrap .u64 (1 * 2 ^ (min (Int.toNat (Int.tmod p2 64)) 64)))))))], none⟩, ⟨12, .agg ((o104 (p1.setIfInBounds (Int.toNat (w64 (Int.tdiv p2 64))) (ior .u64 x3 (IntKind.wrap .u64 (1 * 2 ^ (min (Int.toNat (Int.tmod p2 64)) 64))))))) ((o104 (p1.setIfInBounds (Int.toNat (w64 (Int.tdiv p2 64))) (ior .u64 x3 (IntKind.wrap .u64 (1 * 2 ^ (min (Int.toNat (Int.tmod p2 64)) 64))))))), none⟩, ⟨13, .stoS ((o104 (Vector.replicate 4 0))) [((o104 (p1.setIfInBounds (Int.toNat (w64 (Int.tdiv p2 64))) (ior .u64 x3 (IntKind.wrap .u64 (1 * 2 ^ (min (Int.toNat (Int.tmod p2 64)) 64)))))))], none⟩]) (rh := [.agg ((o104 (p1.setIfInBounds (Int.toNat (w64 (Int.tdiv p2 64))) (ior .u64 x3 (IntKind.wrap .u64 (1 * 2 ^ (min (Int.toNat (Int.tmod p2 64)) 64))))))) ((o104 (p1.setIfInBounds (Int.toNat (w64 (Int.tdiv p2 64))) (ior .u64 x3 (IntKind.wrap .u64 (1 * 2 ^ (min (Int.toNat (Int.tmod p2 64)) 64)))))))]) (ph := .raw) (ps := [[((o104 p1))] = [((o104 p1))], ((o104 p1)).length = 4, ((o104 p1)).all okLit = true, 0 < ((o104 p1)).length, [litL [.int .u64 0, .int .u64 0, .int .u64 0, .int .u64 0]] = [((o104 (Vector.replicate 4 0)))], 64 ≠ (0 : Int), (0 : Int) ≤ (w64 (Int.tdiv p2 64)), (w64 (Int.tdiv p2 64)) < ((4 : Nat) : Int), ((o104 p1))[(Int.toNat (w64 (Int.tdiv p2 64)))]? = some (IK .u64 x3), [((o104 p1))][0]? = some ((o104 p1)), 64 ≠ (0 : Int), ¬ (Int.tmod p2 64) < (0 : Int), (0 : Int) ≤ (w64 (Int.tdiv p2 64)), (w64 (Int.tdiv p2 64)) < ((4 : Nat) : Int), [((o104 p1))][0]? = some ((o104 p1)), [((o104 p1))].set 0 (wr ((o104 p1)) (Int.toNat (w64 (Int.tdiv p2 64))) [(IK .u64 (ior .u64 x3 (IntKind.wrap .u64 (1 * 2 ^ (min (Int.toNat (Int.tmod p2 64)) 64)))))]) = [((o104 (p1.setIfInBounds (Int.toNat (w64 (Int.tdiv p2 64))) (ior .u64 x3 (IntKind.wrap .u64 (1 * 2 ^ (min (Int.toNat (Int.tmod p2 64)) 64)))))))], [(IK .u64 (ior .u64 x3 (IntKind.wrap .u64 (1 * 2 ^ (min (Int.toNat (Int.tmod p2 64)) 64)))))].length = 1, (Int.toNat (w64 (Int.tdiv p2 64))) + [(IK .u64 (ior .u64 x3 (IntKind.wrap .u64 (1 * 2 ^ (min (Int.toNat (Int.tmod p2 64)) 64)))))].length ≤ ((o104 p1)).length, 0 + 4 ≤ ((o104 (p1.setIfInBounds (Int.toNat (w64 (Int.tdiv p2 64))) (ior .u64 x3 (IntKind.wrap .u64 (1 * 2 ^ (min (Int.toNat (Int.tmod p2 64)) 64))))))).length, (((o104 (p1.setIfInBounds (Int.toNat (w64 (Int.tdiv p2 64))) (ior .u64 x3 (IntKind.wrap .u64 (1 * 2 ^ (min (Int.toNat (Int.tmod p2 64)) 64))))))).drop 0).take 4 = ((o104 (p1.setIfInBounds (Int.toNat (w64 (Int.tdiv p2 64))) (ior .u64 x3 (IntKind.wrap .u64 (1 * 2 ^ (min (Int.toNat (Int.tmod p2 64)) 64))))))), ((o104 (p1.setIfInBounds (Int.toNat (w64 (Int.tdiv p2 64))) (ior .u64 x3 (IntKind.wrap .u64 (1 * 2 ^ (min (Int.toNat (Int.tmod p2 64)) 64))))))).all AV.plain = true, [((o104 (p1.setIfInBounds (Int.toNat (w64 (Int.tdiv p2 64))) (ior .u64 x3 (IntKind.wrap .u64 (1 * 2 ^ (min (Int.toNat (Int.tmod p2 64)) 64)))))))][0]? = some ((o104 (p1.setIfInBounds (Int.toNat (w64 (Int.tdiv p2 64))) (ior .u64 x3 (IntKind.wrap .u64 (1 * 2 ^ (min (Int.toNat (Int.tmod p2 64)) 64))))))), [((o104 (Vector.replicate 4 0)))][0]? = some ((o104 (Vector.replicate 4 0))), [((o104 (Vector.replicate 4 0)))].set 0 (wr ((o104 (Vector.replicate 4 0))) 0 ((o104 (p1.setIfInBounds (Int.toNat (w64 (Int.tdiv p2 64))) (ior .u64 x3 (IntKind.wrap .u64 (1 * 2 ^ (min (Int.toNat (Int.tmod p2 64)) 64)))))))) = [((o104 (p1.setIfInBounds (Int.toNat (w64 (Int.tdiv p2 64))) (ior .u64 x3 (IntKind.wrap .u64 (1 * 2 ^ (min (Int.toNat (Int.tmod p2 64)) 64)))))))], ((o104 (p1.setIfInBounds (Int.toNat (w64 (Int.tdiv p2 64))) (ior .u64 x3 (IntKind.wrap .u64 (1 * 2 ^ (min (Int.toNat (Int.tmod p2 64)) 64))))))).length = 4, 0 + ((o104 (p1.setIfInBounds (Int.toNat (w64 (Int.tdiv p2 64))) (ior .u64 x3 (IntKind.wrap .u64 (1 * 2 ^ (min (Int.toNat (Int.tmod p2 64)) 64))))))).length ≤ ((o104 (Vector.replicate 4 0))).length, ((o104 (p1.setIfInBounds (Int.toNat (w64 (Int.tdiv p2 64))) (ior .u64 x3 (IntKind.wrap .u64 (1 * 2 ^ (min (Int.toNat (Int.tmod p2 64)) 64))))))).all okLit = true, 0 + 4 ≤ ((o104 (p1.setIfInBounds (Int.toNat (w64 (Int.tdiv p2 64))) (ior .u64 x3 (IntKind.wrap .u64 (1 * 2 ^ (min (Int.toNat (Int.tmod p2 64)) 64))))))).length, (((o104 (p1.setIfInBounds (Int.toNat (w64 (Int.tdiv p2 64))) (ior .u64 x3 (IntKind.wrap .u64 (1 * 2 ^ (min (Int.toNat (Int.tmod p2 64)) 64))))))).drop 0).take 4 = ((o104 (p1.setIfInBounds (Int.toNat (w64 (Int.tdiv p2 64))) (ior .u64 x3 (IntKind.wrap .u64 (1 * 2 ^ (min (Int.toNat (Int.tmod p2 64)) 64))))))), ((o104 (p1.setIfInBounds (Int.toNat (w64 (Int.tdiv p2 64))) (ior .u64 x3 (IntKind.wrap .u64 (1 * 2 ^ (min (Int.toNat (Int.tmod p2 64)) 64))))))).all AV.plain = true, [((o104 (p1.setIfInBounds (Int.toNat (w64 (Int.tdiv p2 64))) (ior .u64 x3 (IntKind.wrap .u64 (1 * 2 ^ (min (Int.toNat (Int.tmod p2 64)) 64)))))))][0]? = some ((o104 (p1.setIfInBounds (Int.toNat (w64 (Int.tdiv p2 64))) (ior .u64 x3 (IntKind.wrap .u64 (1 * 2 ^ (min (Int.toNat (Int.tmod p2 64)) 64))))))), (AV.agg ((o104 (p1.setIfInBounds (Int.toNat (w64 (Int.tdiv p2 64))) (ior .u64 x3 (IntKind.wrap .u64 (1 * 2 ^ (min (Int.toNat (Int.tmod p2 64)) 64)))))))) = (AV.agg ((o104 (p1.setIfInBounds (Int.toNat (w64 (Int.tdiv p2 64))) (ior .u64 x3 (IntKind.wrap .u64 (1 * 2 ^ (min (Int.toNat (Int.tmod p2 64)) 64)))))))), litA (AV.agg ((o104 (p1.setIfInBounds (Int.toNat (w64 (Int.tdiv p2 64))) (ior .u64 x3 (IntKind.wrap .u64 (1 * 2 ^ (min (Int.toNat (Int.tmod p2 64)) 64)))))))) = true]) (by kernel_rfl) ⟨rfl, (vecLen k102), (vecAll k102 (fun _ => rfl)), (vecPos k102 (by decide)), rfl, (by decide), (rv0 hx3), (rvL hx3), (rvM k102 hx3), rfl, (by decide), (ge0E hq4), (rv0 hx5), (rvL hx5), rfl, (vecWr k102 _ (rvLt hx5)), rfl, (vecLe k102 hx5), (vecLe0 k102), (vecAgg k102), (p104 _), rfl, rfl, (vecSt k102 k102), (vecLen k102), (vecLL k102 k102), (vecAll k102 (fun _ => rfl)), (vecLe0 k102), (vecAgg k102), (p104 _), rfl, rfl, (vecLit k102 (fun _ => rfl)), trivial⟩
noncomputable def body82 : Code := match Try.f82.body with | some c => c | none => .skip
noncomputable def impl_aheadOf_l1 (K0 : (List (Vector Int 4)) → Int → Option (List (Vector Int 4))) (p1 : (List GEvent)) (v4 : Int) : Nat → (List (Vector Int 4)) → Int → Option (List (Vector Int 4))
  | 0, _, _ => none
  | n + 1, a6, v7 =>
  if (decide (v7 < v4)) = true then
    Option.bind (rd p1 v7) fun x9 =>
    Option.bind (rd p1 v4) fun x10 =>
    Option.bind (impl_leads x9 x10) fun r11 =>
    if r11 = true then
      Option.bind (rd a6 v4) fun x13 =>
      Option.bind (impl_places_with x13 v7) fun r14 =>
      Option.bind (rd a6 v7) fun x15 =>
      Option.bind (impl_places_joined r14 x15) fun r16 =>
      impl_aheadOf_l1 K0 p1 v4 n (a6.set (Int.toNat v4) r16) (w64 (v7 + 1))
    else
      impl_aheadOf_l1 K0 p1 v4 n a6 (w64 (v7 + 1))
  else
    K0 a6 (w64 (v4 + 1))
theorem impl_aheadOf_l1_m {E : Env} (hP : E.P = Try.prog) (hn : E.n = 44) (hx : ∀ p, p ∈ E.fx → p.1 ∈ ([] : List Nat)) (p1 : (List GEvent)) (v4 : Int) {K0 : (List (Vector Int 4)) → Int → Option (List (Vector Int 4))} (hK0 : ∀ (a3 : (List (Vector Int 4))) (v4 : Int) (r : (List (Vector Int 4))), K0 a3 v4 = some r → WAt E body82 (FQ (RetE Θ Try.f82.results.toList [] [] (AV.own 104 4 (r.map o104)) E)) [true, true, false, true, false] ⟨[(0, (AV.ro 5 (p1.map o64))), (3, (AV.sl 1 0 (List.length (a3.map o104)))), (10, (I (p1.length : Int))), (11, (I v4))], [(1, some ⟨104, 4, (a3.map o104)⟩)], [1, JJ]⟩) : ∀ (n : Nat) (a6 : (List (Vector Int 4))) (v7 : Int) (r : (List (Vector Int 4))), impl_aheadOf_l1 K0 p1 v4 n a6 v7 = some r → WAt E body82 (FQ (RetE Θ Try.f82.results.toList [] [] (AV.own 104 4 (r.map o104)) E)) [true, true, false, true, false, false, true, true, false, false, true, true, false] ⟨[(0, (AV.ro 5 (p1.map o64))), (3, (AV.sl 1 0 (List.length (a6.map o104)))), (4, (I v4)), (10, (I (p1.length : Int))), (11, (I v4)), (14, (I v4)), (15, (I v7))], [(1, some ⟨104, 4, (a6.map o104)⟩)], [1, JJ]⟩ := by
  have hm : E.P.follows .mixedOrders = true := by rw [hP]; exact mixed
  have hΘ : TOK E.P Θ := by rw [hP]; exact Θ_ok
  intro n
  induction n with
  | zero => intro a6 v7 r h; simp only [impl_aheadOf_l1] at h; cases h
  | succ n ih =>
    intro a6 v7 r h
    simp only [impl_aheadOf_l1] at h
    rcases itS h with ⟨c8, h⟩ | ⟨c18, h⟩
    · obtain ⟨x9, hx9, h⟩ := bnS h
      obtain ⟨x10, hx10, h⟩ := bnS h
      obtain ⟨r11, hr11, h⟩ := bnS h
      rcases itS h with ⟨c12, h⟩ | ⟨c17, h⟩
      · obtain ⟨x13, hx13, h⟩ := bnS h
        obtain ⟨r14, hr14, h⟩ := bnS h
        obtain ⟨x15, hx15, h⟩ := bnS h
        obtain ⟨r16, hr16, h⟩ := bnS h
        exact go_to hΘ hm hx hP hn (hs := [⟨1, .br true, none⟩, ⟨6, .row (o64 x9), none⟩, ⟨10, .row (o64 x10), none⟩, ⟨12, .callV [[], []] (B r11), none⟩, ⟨13, .br true, none⟩, ⟨19, .agg ((o104 x13)) ((o104 x13)), none⟩, ⟨21, .callV [[[AV.dead]]] (AV.agg (o104 r14)), none⟩, ⟨25, .agg ((o104 x15)) ((o104 x15)), none⟩, ⟨26, .callV [[[AV.dead]], [[AV.dead]]] (AV.agg (o104 r16)), none⟩, ⟨28, .stoS ((o104 x13)) ((a6.set (Int.toNat v4) r16).map o104), none⟩, ⟨31, .slen 3 (List.length ((a6.set (Int.toNat v4) r16).map o104)), none⟩]) (π := [(1, 1)]) (ts := [0, 3, 4, 10, 11, 14, 15]) (kp := []) (ps := [(decide (v7 < v4)) = true, (0 : Int) ≤ v7, (p1.map o64)[(Int.toNat v7)]? = some (o64 x9), (0 : Int) ≤ v4, (p1.map o64)[(Int.toNat v4)]? = some (o64 x10), Meets Try.prog 118 [(AV.agg ((o64 x9))), (AV.agg ((o64 x10)))] (B r11), litA (B r11) = true, r11 = true, (0 : Int) ≤ v4, v4 < (((List.length (a6.map o104)) : Nat) : Int), 0 + 4 ≤ ((o104 x13)).length, (((o104 x13)).drop 0).take 4 = ((o104 x13)), ((o104 x13)).all AV.plain = true, (a6.map o104)[(Int.toNat v4)]? = some ((o104 x13)), Meets Try.prog 119 [(AV.agg ((o104 x13))), (I v7)] (AV.agg (o104 r14)), litA (AV.agg (o104 r14)) = true, ((o104 x13)).all okLit = true, (0 : Int) ≤ v7, v7 < (((List.length (a6.map o104)) : Nat) : Int), 0 + 4 ≤ ((o104 x15)).length, (((o104 x15)).drop 0).take 4 = ((o104 x15)), ((o104 x15)).all AV.plain = true, (a6.map o104)[(Int.toNat v7)]? = some ((o104 x15)), Meets Try.prog 120 [(AV.agg ((o104 r14))), (AV.agg ((o104 x15)))] (AV.agg (o104 r16)), litA (AV.agg (o104 r16)) = true, ((o104 r14)).all okLit = true, ((o104 x15)).all okLit = true, (0 : Int) ≤ v4, v4 < (((List.length (a6.map o104)) : Nat) : Int), (a6.map o104)[(Int.toNat v4)]? = some ((o104 x13)), (a6.map o104).set (Int.toNat v4) (wr ((o104 x13)) 0 ((o104 r16))) = ((a6.set (Int.toNat v4) r16).map o104), ((o104 r16)).length = 4, 0 + ((o104 r16)).length ≤ ((o104 x13)).length, ((o104 r16)).all okLit = true, (List.length (a6.map o104)) = (List.length ((a6.set (Int.toNat v4) r16).map o104)), RenOK [(1, 1)] ((a6.set (Int.toNat v4) r16).map o104)]) (by kernel_rfl) ⟨c8, (rd0 hx9), (rdM o64 hx9), (rd0 hx10), (rdM o64 hx10), (impl_leads_m hr11), rfl, c12, (rd0 hx13), (rdL o104 hx13), (vecLe0 k102), (vecAgg k102), (p104 _), (rdM o104 hx13), (impl_places_with_m hr14), (vecLit k102 (fun _ => rfl)), (vecAll k102 (fun _ => rfl)), (rd0 hx15), (rdL o104 hx15), (vecLe0 k102), (vecAgg k102), (p104 _), (rdM o104 hx15), (impl_places_joined_m hr16), (vecLit k102 (fun _ => rfl)), (vecAll k102 (fun _ => rfl)), (vecAll k102 (fun _ => rfl)), (rd0 hx13), (rdL o104 hx13), (rdM o104 hx13), (setV k102 (fun _ => rfl)), (vecLen k102), (vecLL k102 k102), (vecAll k102 (fun _ => rfl)), (by first | exact lnSet _ | exact lnSet2 _ | simp only [List.length_map, List.length_set, List.length_cons, List.length_nil]), (rok (treeM t104)), trivial⟩ (ih (a6.set (Int.toNat v4) r16) (w64 (v7 + 1)) _ h)
      · exact go_to hΘ hm hx hP hn (hs := [⟨1, .br true, none⟩, ⟨6, .row (o64 x9), none⟩, ⟨10, .row (o64 x10), none⟩, ⟨12, .callV [[], []] (B r11), none⟩, ⟨13, .br false, none⟩]) (π := [(1, 1)]) (ts := [0, 3, 4, 10, 11, 14, 15]) (kp := []) (ps := [(decide (v7 < v4)) = true, (0 : Int) ≤ v7, (p1.map o64)[(Int.toNat v7)]? = some (o64 x9), (0 : Int) ≤ v4, (p1.map o64)[(Int.toNat v4)]? = some (o64 x10), Meets Try.prog 118 [(AV.agg ((o64 x9))), (AV.agg ((o64 x10)))] (B r11), litA (B r11) = true, r11 = false, RenOK [(1, 1)] (a6.map o104)]) (by kernel_rfl) ⟨c8, (rd0 hx9), (rdM o64 hx9), (rd0 hx10), (rdM o64 hx10), (impl_leads_m hr11), rfl, c17, (rok (treeM t104)), trivial⟩ (ih a6 (w64 (v7 + 1)) _ h)
    · exact go_to hΘ hm hx hP hn (hs := [⟨1, .br false, none⟩]) (π := [(1, 1)]) (ts := [0, 3, 10, 11]) (kp := []) (ps := [(decide (v7 < v4)) = false, RenOK [(1, 1)] (a6.map o104)]) (by kernel_rfl) ⟨c18, (rok (treeM t104)), trivial⟩ (hK0 a6 (w64 (v4 + 1)) _ h)
noncomputable def impl_aheadOf_l0  (p1 : (List GEvent)) : Nat → (List (Vector Int 4)) → Int → Option (List (Vector Int 4))
  | 0, _, _ => none
  | n + 1, a3, v4 =>
  if (decide (v4 < (p1.length : Int))) = true then
    impl_aheadOf_l1 (impl_aheadOf_l0 p1 n) p1 v4 FU a3 0
  else
    some a3
theorem impl_aheadOf_l0_m {E : Env} (hP : E.P = Try.prog) (hn : E.n = 44) (hx : ∀ p, p ∈ E.fx → p.1 ∈ ([] : List Nat)) (p1 : (List GEvent))  : ∀ (n : Nat) (a3 : (List (Vector Int 4))) (v4 : Int) (r : (List (Vector Int 4))), impl_aheadOf_l0 p1 n a3 v4 = some r → WAt E body82 (FQ (RetE Θ Try.f82.results.toList [] [] (AV.own 104 4 (r.map o104)) E)) [true, true, false, true, false] ⟨[(0, (AV.ro 5 (p1.map o64))), (3, (AV.sl 1 0 (List.length (a3.map o104)))), (10, (I (p1.length : Int))), (11, (I v4))], [(1, some ⟨104, 4, (a3.map o104)⟩)], [1, JJ]⟩ := by
  have hm : E.P.follows .mixedOrders = true := by rw [hP]; exact mixed
  have hΘ : TOK E.P Θ := by rw [hP]; exact Θ_ok
  intro n
  induction n with
  | zero => intro a3 v4 r h; simp only [impl_aheadOf_l0] at h; cases h
  | succ n ih =>
    intro a3 v4 r h
    simp only [impl_aheadOf_l0] at h
    rcases itS h with ⟨c5, h⟩ | ⟨c19, h⟩
    · exact go_to hΘ hm hx hP hn (hs := [⟨1, .br true, none⟩]) (π := [(1, 1)]) (ts := [0, 3, 4, 10, 11, 14, 15]) (kp := []) (ps := [(decide (v4 < (p1.length : Int))) = true, RenOK [(1, 1)] (a3.map o104)]) (by kernel_rfl) ⟨c5, (rok (treeM t104)), trivial⟩ (impl_aheadOf_l1_m hP hn hx p1 v4 ih FU a3 0 _ h)
    · have h := Option.some.inj h
      subst h
      exact go_ret hΘ hm hP hn (hs := [⟨1, .br false, none⟩]) (rh := []) (ph := .own) (ps := [(decide (v4 < (p1.length : Int))) = false, treeLL ((a3.map o104).take (List.length (a3.map o104))) = true, (a3.map o104).take (List.length (a3.map o104)) = (a3.map o104), noRoLL (a3.map o104) = true]) (by kernel_rfl) ⟨c19, (treeT t104), takeM, (noRoM n104), trivial⟩
noncomputable def impl_aheadOf (p1 : (List GEvent)) : Option (List (Vector Int 4)) :=
  Option.bind (mk (Vector.replicate 4 0) (p1.length : Int)) fun l2 =>
  impl_aheadOf_l0 p1 FU l2 0
theorem impl_aheadOf_m {p1 : (List GEvent)} {r : (List (Vector Int 4))} (h : impl_aheadOf p1 = some r) : Meets Try.prog 82 [(AV.ro 5 (p1.map o64))] (AV.own 104 4 (r.map o104)) := by
  refine meets_ofC Θ_ok Try.func82 rfl (c := body82) (by kernel_rfl) (Nat.le_of_ble_eq_true rfl) ?_
  intro E hP hn hx
  replace hn : E.n = 44 := hn
  have hm : E.P.follows .mixedOrders = true := by rw [hP]; exact mixed
  have hΘ : TOK E.P Θ := by rw [hP]; exact Θ_ok
  unfold impl_aheadOf at h
  show WAt E body82 (FQ (RetE Θ Try.f82.results.toList [] [] (AV.own 104 4 (r.map o104)) E)) [] ⟨[(0, (AV.ro 5 (p1.map o64)))], [], [JJ]⟩
  obtain ⟨l2, hl2, h⟩ := bnS h
  exact go_to hΘ hm hx hP hn (hs := [⟨2, .no, some (I (p1.length : Int))⟩, ⟨3, .nw 1001 (l2.map o104), some (AV.sl 1001 0 (List.length (l2.map o104)))⟩, ⟨6, .no, some (I (p1.length : Int))⟩]) (π := [(1001, 1)]) (ts := [0, 3, 10, 11]) (kp := []) (ps := [AV.lit (.int .i64 (((p1.map o64).length : Nat) : Int)) = (I (p1.length : Int)), List.replicate (Int.toNat (p1.length : Int)) [.lit (.int .u64 0), .lit (.int .u64 0), .lit (.int .u64 0), .lit (.int .u64 0)] = (l2.map o104), AV.sl 1001 0 (Int.toNat (p1.length : Int)) = (AV.sl 1001 0 (List.length (l2.map o104))), (p1.length : Int) = (p1.length : Int), (0 : Int) ≤ (p1.length : Int), (p1.length : Int) * ((32 : Nat) : Int) ≤ 140737488355328, (p1.length : Int) ≤ 140737488355328, AV.lit (.int .i64 (((p1.map o64).length : Nat) : Int)) = (I (p1.length : Int)), RenOK [(1001, 1)] (l2.map o104)]) (by kernel_rfl) ⟨(lenM o64), (mkM o104 hl2), (mkS o104 hl2), rfl, (mk0 hl2), (mkB hl2 (by decide)), (mkC hl2), (lenM o64), (rok (treeM t104)), trivial⟩ (impl_aheadOf_l0_m hP hn hx p1 FU l2 0 _ h)
noncomputable def body84 : Code := match Try.f84.body with | some c => c | none => .skip
noncomputable def impl_places_has (p1 : (Vector Int 4)) (p2 : Int) : Option Bool :=
  Option.bind (rdv p1 (w64 (Int.tdiv p2 64))) fun x3 =>
  Option.bind (ge0 (Int.tmod p2 64)) fun q4 =>
  some ((iand .u64 (Int.fdiv x3 (2 ^ (min (Int.toNat (Int.tmod p2 64)) 64))) 1) == 1)
theorem impl_places_has_m {p1 : (Vector Int 4)} {p2 : Int} {r : Bool} (h : impl_places_has p1 p2 = some r) : Meets Try.prog 84 [(AV.agg ((o104 p1))), (I p2)] (B r) := by
  refine meets_ofC Θ_ok Try.func84 rfl (c := body84) (by kernel_rfl) (Nat.le_of_ble_eq_true rfl) ?_
  intro E hP hn hx
  replace hn : E.n = 14 := hn
  have hm : E.P.follows .mixedOrders = true := by rw [hP]; exact mixed
  have hΘ : TOK E.P Θ := by rw [hP]; exact Θ_ok
  unfold impl_places_has at h
  show WAt E body84 (FQ (RetE Θ Try.f84.results.toList [] [] (B r) E)) [] ⟨[(0, (AV.agg ((o104 p1)))), (1, (I p2))], [], [JJ]⟩
  obtain ⟨x3, hx3, h⟩ := bnS h
  obtain ⟨q4, hq4, h⟩ := bnS h
  have h := Option.some.inj h
  subst h
  exact go_ret hΘ hm hP hn (hs := [⟨0, .nw 1001 [((o104 p1))], none⟩, ⟨5, .cel ((o104 p1)) (IK .u64 x3), none⟩]) (rh := []) (ph := .raw) (ps := [[((o104 p1))] = [((o104 p1))], ((o104 p1)).length = 4, ((o104 p1)).all okLit = true, 0 < ((o104 p1)).length, 64 ≠ (0 : Int), (0 : Int) ≤ (w64 (Int.tdiv p2 64)), (w64 (Int.tdiv p2 64)) < ((4 : Nat) : Int), ((o104 p1))[(Int.toNat (w64 (Int.tdiv p2 64)))]? = some (IK .u64 x3), [((o104 p1))][0]? = some ((o104 p1)), 64 ≠ (0 : Int), ¬ (Int.tmod p2 64) < (0 : Int), (B ((iand .u64 (Int.fdiv x3 (2 ^ (min (Int.toNat (Int.tmod p2 64)) 64))) 1) == 1)) = (B ((iand .u64 (Int.fdiv x3 (2 ^ (min (Int.toNat (Int.tmod p2 64)) 64))) 1) == 1)), litA (B ((iand .u64 (Int.fdiv x3 (2 ^ (min (Int.toNat (Int.tmod p2 64)) 64))) 1) == 1)) = true]) (by kernel_rfl) ⟨rfl, (vecLen k102), (vecAll k102 (fun _ => rfl)), (vecPos k102 (by decide)), (by decide), (rv0 hx3), (rvL hx3), (rvM k102 hx3), rfl, (by decide), (ge0E hq4), rfl, rfl, trivial⟩
noncomputable def body48 : Code := match Try.f48.body with | some c => c | none => .skip
noncomputable def impl_races_j2 (K0 : (List GRace) → (List (Vector Int 4)) → Int → Option (List GRace)) (K1 : (List GRace) → (List (Vector Int 4)) → GEvent → Int → Option (List GRace)) (p1 : (List GEvent)) (v5 : Int) (l8 : (List GEvent)) (a9 : (List GRace)) (a10 : (List (Vector Int 4))) (a11 : GEvent) (v12 : Int) (x14 : GEvent)  : Option (List GRace) :=
  Option.bind (app a9 [(GRace.mk x14.Obj v12 v5)]) fun l25 =>
  K1 l25 a10 a11 (w64 (v12 + 1))
theorem impl_races_j2_m {E : Env} (hP : E.P = Try.prog) (hn : E.n = 78) (hx : ∀ p, p ∈ E.fx → p.1 ∈ ([] : List Nat)) (p1 : (List GEvent)) (v5 : Int) (l8 : (List GEvent)) (a9 : (List GRace)) (a10 : (List (Vector Int 4))) (a11 : GEvent) (v12 : Int) (x14 : GEvent) {K0 : (List GRace) → (List (Vector Int 4)) → Int → Option (List GRace)} (hK0 : ∀ (a3 : (List GRace)) (a4 : (List (Vector Int 4))) (v5 : Int) (r : (List GRace)), K0 a3 a4 v5 = some r → WAt E body48 (FQ (RetE Θ Try.f48.results.toList [] [] (AV.own 61 3 (r.map o61)) E)) [true, true, false, true, false] ⟨[(0, (AV.ro 5 (p1.map o64))), (3, (AV.sl 1 0 (List.length (a3.map o61)))), (4, (AV.sl 2 0 (List.length (a4.map o104)))), (12, (AV.ro 5 (p1.map o64))), (13, (I (p1.length : Int))), (14, (I v5))], [(1, some ⟨61, 3, (a3.map o61)⟩), (2, some ⟨104, 4, (a4.map o104)⟩)], [1, 2, JJ]⟩) {K1 : (List GRace) → (List (Vector Int 4)) → GEvent → Int → Option (List GRace)} (hK1 : ∀ (a9 : (List GRace)) (a10 : (List (Vector Int 4))) (a11 : GEvent) (v12 : Int) (r : (List GRace)), K1 a9 a10 a11 v12 = some r → WAt E body48 (FQ (RetE Θ Try.f48.results.toList [] [] (AV.own 61 3 (r.map o61)) E)) [true, true, false, true, false, false, true, true, false, false, true, true, false] ⟨[(0, (AV.ro 5 (p1.map o64))), (3, (AV.sl 1 0 (List.length (a9.map o61)))), (4, (AV.sl 2 0 (List.length (a10.map o104)))), (5, (I v5)), (6, (AV.ptr 3 0 0)), (12, (AV.ro 5 (p1.map o64))), (13, (I (p1.length : Int))), (14, (I v5)), (21, (AV.ro 5 (l8.map o64))), (22, (I (l8.length : Int))), (23, (I v12))], [(1, some ⟨61, 3, (a9.map o61)⟩), (2, some ⟨104, 4, (a10.map o104)⟩), (3, some ⟨64, 5, [((o64 a11))]⟩)], [1, 2, 3, JJ]⟩)  (r : (List GRace)) (h : impl_races_j2 K0 K1 p1 v5 l8 a9 a10 a11 v12 x14  = some r) : WAt E body48 (FQ (RetE Θ Try.f48.results.toList [] [] (AV.own 61 3 (r.map o61)) E)) [true, true, false, true, false, false, true, true, false, false, true, true, false, false, true, true, false, false, true, true, false] ⟨[(0, (AV.ro 5 (p1.map o64))), (3, (AV.sl 1 0 (List.length (a9.map o61)))), (4, (AV.sl 2 0 (List.length (a10.map o104)))), (5, (I v5)), (6, (AV.ptr 3 0 0)), (7, (I v12)), (8, (AV.ptr 4 0 0)), (12, (AV.ro 5 (p1.map o64))), (13, (I (p1.length : Int))), (14, (I v5)), (21, (AV.ro 5 (l8.map o64))), (22, (I (l8.length : Int))), (23, (I v12))], [(1, some ⟨61, 3, (a9.map o61)⟩), (2, some ⟨104, 4, (a10.map o104)⟩), (3, some ⟨64, 5, [((o64 a11))]⟩), (4, some ⟨64, 5, [((o64 x14))]⟩)], [1, 2, 3, 4, JJ]⟩ := by
  have hm : E.P.follows .mixedOrders = true := by rw [hP]; exact mixed
  have hΘ : TOK E.P Θ := by rw [hP]; exact Θ_ok
  unfold impl_races_j2 at h
  obtain ⟨l25, hl25, h⟩ := bnS h
  exact go_to hΘ hm hx hP hn (hs := [⟨6, .new 1001, none⟩, ⟨7, .app 1002 (l25.map o61), none⟩]) (π := [(1002, 1), (2, 2), (3, 3)]) (ts := [0, 3, 4, 5, 6, 12, 13, 14, 21, 22, 23]) (kp := []) (ps := [(a9.map o61).take (List.length (a9.map o61)) ++ ((([(GRace.mk x14.Obj v12 v5)].map o61).drop 0).take (List.length ([(GRace.mk x14.Obj v12 v5)].map o61))) = (l25.map o61), ((([(GRace.mk x14.Obj v12 v5)].map o61).drop 0).take (List.length ([(GRace.mk x14.Obj v12 v5)].map o61))).all (fun r => r.all AV.plain) = true, (List.length (l25.map o61)) * 24 ≤ 140737488355328, (List.length (l25.map o61)) ≤ 140737488355328, RenOK [(1002, 1), (2, 2), (3, 3)] (l25.map o61), RenOK [(1002, 1), (2, 2), (3, 3)] (a10.map o104), RenOK [(1002, 1), (2, 2), (3, 3)] [((o64 a11))]]) (by kernel_rfl) ⟨(appTD o61 hl25), (plD p61), (appB o61 hl25 (by decide)), (appC o61 hl25), (rok (treeM t61)), (rok (treeM t104)), (rok rfl), trivial⟩ (hK1 l25 a10 a11 (w64 (v12 + 1)) _ h)
noncomputable def impl_races_l1 (K0 : (List GRace) → (List (Vector Int 4)) → Int → Option (List GRace)) (p1 : (List GEvent)) (v5 : Int) (l8 : (List GEvent)) : Nat → (List GRace) → (List (Vector Int 4)) → GEvent → Int → Option (List GRace)
  | 0, _, _, _, _ => none
  | n + 1, a9, a10, a11, v12 =>
  if (decide (v12 < (l8.length : Int))) = true then
    Option.bind (rd l8 v12) fun x14 =>
    Option.bind (impl_Event_touches x14) fun r15 =>
    if r15 = true then
      Option.bind (impl_Event_touches a11) fun r17 =>
      if r17 = true then
        if (x14.Obj == a11.Obj) = true then
          if (x14.Kind == 3) = true then
            if (x14.Thread != a11.Thread) = true then
              Option.bind (rd a10 v5) fun x22 =>
              Option.bind (impl_places_has x22 v12) fun r23 =>
              if (!r23) = true then
                impl_races_j2 K0 (impl_races_l1 K0 p1 v5 l8 n) p1 v5 l8 a9 a10 a11 v12 x14
              else
                impl_races_l1 K0 p1 v5 l8 n a9 a10 a11 (w64 (v12 + 1))
            else
              impl_races_l1 K0 p1 v5 l8 n a9 a10 a11 (w64 (v12 + 1))
          else
            if (a11.Kind == 3) = true then
              if (x14.Thread != a11.Thread) = true then
                Option.bind (rd a10 v5) fun x31 =>
                Option.bind (impl_places_has x31 v12) fun r32 =>
                if (!r32) = true then
                  impl_races_j2 K0 (impl_races_l1 K0 p1 v5 l8 n) p1 v5 l8 a9 a10 a11 v12 x14
                else
                  impl_races_l1 K0 p1 v5 l8 n a9 a10 a11 (w64 (v12 + 1))
              else
                impl_races_l1 K0 p1 v5 l8 n a9 a10 a11 (w64 (v12 + 1))
            else
              impl_races_l1 K0 p1 v5 l8 n a9 a10 a11 (w64 (v12 + 1))
        else
          impl_races_l1 K0 p1 v5 l8 n a9 a10 a11 (w64 (v12 + 1))
      else
        impl_races_l1 K0 p1 v5 l8 n a9 a10 a11 (w64 (v12 + 1))
    else
      impl_races_l1 K0 p1 v5 l8 n a9 a10 a11 (w64 (v12 + 1))
  else
    K0 a9 a10 (w64 (v5 + 1))
theorem impl_races_l1_m {E : Env} (hP : E.P = Try.prog) (hn : E.n = 78) (hx : ∀ p, p ∈ E.fx → p.1 ∈ ([] : List Nat)) (p1 : (List GEvent)) (v5 : Int) (l8 : (List GEvent)) {K0 : (List GRace) → (List (Vector Int 4)) → Int → Option (List GRace)} (hK0 : ∀ (a3 : (List GRace)) (a4 : (List (Vector Int 4))) (v5 : Int) (r : (List GRace)), K0 a3 a4 v5 = some r → WAt E body48 (FQ (RetE Θ Try.f48.results.toList [] [] (AV.own 61 3 (r.map o61)) E)) [true, true, false, true, false] ⟨[(0, (AV.ro 5 (p1.map o64))), (3, (AV.sl 1 0 (List.length (a3.map o61)))), (4, (AV.sl 2 0 (List.length (a4.map o104)))), (12, (AV.ro 5 (p1.map o64))), (13, (I (p1.length : Int))), (14, (I v5))], [(1, some ⟨61, 3, (a3.map o61)⟩), (2, some ⟨104, 4, (a4.map o104)⟩)], [1, 2, JJ]⟩) : ∀ (n : Nat) (a9 : (List GRace)) (a10 : (List (Vector Int 4))) (a11 : GEvent) (v12 : Int) (r : (List GRace)), impl_races_l1 K0 p1 v5 l8 n a9 a10 a11 v12 = some r → WAt E body48 (FQ (RetE Θ Try.f48.results.toList [] [] (AV.own 61 3 (r.map o61)) E)) [true, true, false, true, false, false, true, true, false, false, true, true, false] ⟨[(0, (AV.ro 5 (p1.map o64))), (3, (AV.sl 1 0 (List.length (a9.map o61)))), (4, (AV.sl 2 0 (List.length (a10.map o104)))), (5, (I v5)), (6, (AV.ptr 3 0 0)), (12, (AV.ro 5 (p1.map o64))), (13, (I (p1.length : Int))), (14, (I v5)), (21, (AV.ro 5 (l8.map o64))), (22, (I (l8.length : Int))), (23, (I v12))], [(1, some ⟨61, 3, (a9.map o61)⟩), (2, some ⟨104, 4, (a10.map o104)⟩), (3, some ⟨64, 5, [((o64 a11))]⟩)], [1, 2, 3, JJ]⟩ := by
  have hm : E.P.follows .mixedOrders = true := by rw [hP]; exact mixed
  have hΘ : TOK E.P Θ := by rw [hP]; exact Θ_ok
  intro n
  induction n with
  | zero => intro a9 a10 a11 v12 r h; simp only [impl_races_l1] at h; cases h
  | succ n ih =>
    intro a9 a10 a11 v12 r h
    simp only [impl_races_l1] at h
    rcases itS h with ⟨c13, h⟩ | ⟨c40, h⟩
    · obtain ⟨x14, hx14, h⟩ := bnS h
      obtain ⟨r15, hr15, h⟩ := bnS h
      rcases itS h with ⟨c16, h⟩ | ⟨c39, h⟩
      · obtain ⟨r17, hr17, h⟩ := bnS h
        rcases itS h with ⟨c18, h⟩ | ⟨c38, h⟩
        · rcases itS h with ⟨c19, h⟩ | ⟨c37, h⟩
          · rcases itS h with ⟨c20, h⟩ | ⟨c28, h⟩
            · rcases itS h with ⟨c21, h⟩ | ⟨c27, h⟩
              · obtain ⟨x22, hx22, h⟩ := bnS h
                obtain ⟨r23, hr23, h⟩ := bnS h
                rcases itS h with ⟨c24, h⟩ | ⟨c26, h⟩
                · exact go_to hΘ hm hx hP hn (hs := [⟨1, .br true, none⟩, ⟨3, .row (o64 x14), none⟩, ⟨5, .new 1001, none⟩, ⟨9, .callV [[]] (B r15), none⟩, ⟨10, .no, some (B true)⟩, ⟨12, .callV [[]] (B r17), none⟩, ⟨14, .no, some (B true)⟩, ⟨21, .no, some (B true)⟩, ⟨25, .no, some (B true)⟩, ⟨38, .no, some (B true)⟩, ⟨42, .agg ((o104 x22)) ((o104 x22)), none⟩, ⟨44, .callV [[[AV.dead]]] (B r23), none⟩, ⟨47, .br true, none⟩]) (π := [(1, 1), (2, 2), (3, 3), (1001, 4)]) (ts := [0, 3, 4, 5, 6, 7, 8, 12, 13, 14, 21, 22, 23]) (kp := []) (ps := [(decide (v12 < (l8.length : Int))) = true, (0 : Int) ≤ v12, (l8.map o64)[(Int.toNat v12)]? = some (o64 x14), Meets Try.prog 83 [(AV.agg ((o64 x14)))] (B r15), litA (B r15) = true, (B r15) = (B true), Meets Try.prog 83 [(AV.agg ((o64 a11)))] (B r17), litA (B r17) = true, (B r17) = (B true), (B (x14.Obj == a11.Obj)) = (B true), (B (x14.Kind == 3)) = (B true), (B (x14.Thread != a11.Thread)) = (B true), (0 : Int) ≤ v5, v5 < (((List.length (a10.map o104)) : Nat) : Int), 0 + 4 ≤ ((o104 x22)).length, (((o104 x22)).drop 0).take 4 = ((o104 x22)), ((o104 x22)).all AV.plain = true, (a10.map o104)[(Int.toNat v5)]? = some ((o104 x22)), Meets Try.prog 84 [(AV.agg ((o104 x22))), (I v12)] (B r23), litA (B r23) = true, ((o104 x22)).all okLit = true, (!r23) = true, RenOK [(1, 1), (2, 2), (3, 3), (1001, 4)] (a9.map o61), RenOK [(1, 1), (2, 2), (3, 3), (1001, 4)] (a10.map o104), RenOK [(1, 1), (2, 2), (3, 3), (1001, 4)] [((o64 a11))], RenOK [(1, 1), (2, 2), (3, 3), (1001, 4)] [((o64 x14))]]) (by kernel_rfl) ⟨c13, (rd0 hx14), (rdM o64 hx14), (impl_Event_touches_m hr15), rfl, (litB c16), (impl_Event_touches_m hr17), rfl, (litB c18), (litB c19), (litB c20), (litB c21), (rd0 hx22), (rdL o104 hx22), (vecLe0 k102), (vecAgg k102), (p104 _), (rdM o104 hx22), (impl_places_has_m hr23), rfl, (vecAll k102 (fun _ => rfl)), c24, (rok (treeM t61)), (rok (treeM t104)), (rok rfl), (rok rfl), trivial⟩ (impl_races_j2_m hP hn hx p1 v5 l8 a9 a10 a11 v12 x14 hK0 ih  _ h)
                · exact go_to hΘ hm hx hP hn (hs := [⟨1, .br true, none⟩, ⟨3, .row (o64 x14), none⟩, ⟨5, .new 1001, none⟩, ⟨9, .callV [[]] (B r15), none⟩, ⟨10, .no, some (B true)⟩, ⟨12, .callV [[]] (B r17), none⟩, ⟨14, .no, some (B true)⟩, ⟨21, .no, some (B true)⟩, ⟨25, .no, some (B true)⟩, ⟨38, .no, some (B true)⟩, ⟨42, .agg ((o104 x22)) ((o104 x22)), none⟩, ⟨44, .callV [[[AV.dead]]] (B r23), none⟩, ⟨47, .br false, none⟩]) (π := [(1, 1), (2, 2), (3, 3)]) (ts := [0, 3, 4, 5, 6, 12, 13, 14, 21, 22, 23]) (kp := []) (ps := [(decide (v12 < (l8.length : Int))) = true, (0 : Int) ≤ v12, (l8.map o64)[(Int.toNat v12)]? = some (o64 x14), Meets Try.prog 83 [(AV.agg ((o64 x14)))] (B r15), litA (B r15) = true, (B r15) = (B true), Meets Try.prog 83 [(AV.agg ((o64 a11)))] (B r17), litA (B r17) = true, (B r17) = (B true), (B (x14.Obj == a11.Obj)) = (B true), (B (x14.Kind == 3)) = (B true), (B (x14.Thread != a11.Thread)) = (B true), (0 : Int) ≤ v5, v5 < (((List.length (a10.map o104)) : Nat) : Int), 0 + 4 ≤ ((o104 x22)).length, (((o104 x22)).drop 0).take 4 = ((o104 x22)), ((o104 x22)).all AV.plain = true, (a10.map o104)[(Int.toNat v5)]? = some ((o104 x22)), Meets Try.prog 84 [(AV.agg ((o104 x22))), (I v12)] (B r23), litA (B r23) = true, ((o104 x22)).all okLit = true, (!r23) = false, RenOK [(1, 1), (2, 2), (3, 3)] (a9.map o61), RenOK [(1, 1), (2, 2), (3, 3)] (a10.map o104), RenOK [(1, 1), (2, 2), (3, 3)] [((o64 a11))]]) (by kernel_rfl) ⟨c13, (rd0 hx14), (rdM o64 hx14), (impl_Event_touches_m hr15), rfl, (litB c16), (impl_Event_touches_m hr17), rfl, (litB c18), (litB c19), (litB c20), (litB c21), (rd0 hx22), (rdL o104 hx22), (vecLe0 k102), (vecAgg k102), (p104 _), (rdM o104 hx22), (impl_places_has_m hr23), rfl, (vecAll k102 (fun _ => rfl)), c26, (rok (treeM t61)), (rok (treeM t104)), (rok rfl), trivial⟩ (ih a9 a10 a11 (w64 (v12 + 1)) _ h)
              · exact go_to hΘ hm hx hP hn (hs := [⟨1, .br true, none⟩, ⟨3, .row (o64 x14), none⟩, ⟨5, .new 1001, none⟩, ⟨9, .callV [[]] (B r15), none⟩, ⟨10, .no, some (B true)⟩, ⟨12, .callV [[]] (B r17), none⟩, ⟨14, .no, some (B true)⟩, ⟨21, .no, some (B true)⟩, ⟨25, .no, some (B true)⟩, ⟨38, .no, some (B false)⟩]) (π := [(1, 1), (2, 2), (3, 3)]) (ts := [0, 3, 4, 5, 6, 12, 13, 14, 21, 22, 23]) (kp := []) (ps := [(decide (v12 < (l8.length : Int))) = true, (0 : Int) ≤ v12, (l8.map o64)[(Int.toNat v12)]? = some (o64 x14), Meets Try.prog 83 [(AV.agg ((o64 x14)))] (B r15), litA (B r15) = true, (B r15) = (B true), Meets Try.prog 83 [(AV.agg ((o64 a11)))] (B r17), litA (B r17) = true, (B r17) = (B true), (B (x14.Obj == a11.Obj)) = (B true), (B (x14.Kind == 3)) = (B true), (B (x14.Thread != a11.Thread)) = (B false), RenOK [(1, 1), (2, 2), (3, 3)] (a9.map o61), RenOK [(1, 1), (2, 2), (3, 3)] (a10.map o104), RenOK [(1, 1), (2, 2), (3, 3)] [((o64 a11))]]) (by kernel_rfl) ⟨c13, (rd0 hx14), (rdM o64 hx14), (impl_Event_touches_m hr15), rfl, (litB c16), (impl_Event_touches_m hr17), rfl, (litB c18), (litB c19), (litB c20), (litB c27), (rok (treeM t61)), (rok (treeM t104)), (rok rfl), trivial⟩ (ih a9 a10 a11 (w64 (v12 + 1)) _ h)
            · rcases itS h with ⟨c29, h⟩ | ⟨c36, h⟩
              · rcases itS h with ⟨c30, h⟩ | ⟨c35, h⟩
                · obtain ⟨x31, hx31, h⟩ := bnS h
                  obtain ⟨r32, hr32, h⟩ := bnS h
                  rcases itS h with ⟨c33, h⟩ | ⟨c34, h⟩
                  · exact go_to hΘ hm hx hP hn (hs := [⟨1, .br true, none⟩, ⟨3, .row (o64 x14), none⟩, ⟨5, .new 1001, none⟩, ⟨9, .callV [[]] (B r15), none⟩, ⟨10, .no, some (B true)⟩, ⟨12, .callV [[]] (B r17), none⟩, ⟨14, .no, some (B true)⟩, ⟨21, .no, some (B true)⟩, ⟨25, .no, some (B false)⟩, ⟨31, .no, some (B true)⟩, ⟨38, .no, some (B true)⟩, ⟨42, .agg ((o104 x31)) ((o104 x31)), none⟩, ⟨44, .callV [[[AV.dead]]] (B r32), none⟩, ⟨47, .br true, none⟩]) (π := [(1, 1), (2, 2), (3, 3), (1001, 4)]) (ts := [0, 3, 4, 5, 6, 7, 8, 12, 13, 14, 21, 22, 23]) (kp := []) (ps := [(decide (v12 < (l8.length : Int))) = true, (0 : Int) ≤ v12, (l8.map o64)[(Int.toNat v12)]? = some (o64 x14), Meets Try.prog 83 [(AV.agg ((o64 x14)))] (B r15), litA (B r15) = true, (B r15) = (B true), Meets Try.prog 83 [(AV.agg ((o64 a11)))] (B r17), litA (B r17) = true, (B r17) = (B true), (B (x14.Obj == a11.Obj)) = (B true), (B (x14.Kind == 3)) = (B false), (B (a11.Kind == 3)) = (B true), (B (x14.Thread != a11.Thread)) = (B true), (0 : Int) ≤ v5, v5 < (((List.length (a10.map o104)) : Nat) : Int), 0 + 4 ≤ ((o104 x31)).length, (((o104 x31)).drop 0).take 4 = ((o104 x31)), ((o104 x31)).all AV.plain = true, (a10.map o104)[(Int.toNat v5)]? = some ((o104 x31)), Meets Try.prog 84 [(AV.agg ((o104 x31))), (I v12)] (B r32), litA (B r32) = true, ((o104 x31)).all okLit = true, (!r32) = true, RenOK [(1, 1), (2, 2), (3, 3), (1001, 4)] (a9.map o61), RenOK [(1, 1), (2, 2), (3, 3), (1001, 4)] (a10.map o104), RenOK [(1, 1), (2, 2), (3, 3), (1001, 4)] [((o64 a11))], RenOK [(1, 1), (2, 2), (3, 3), (1001, 4)] [((o64 x14))]]) (by kernel_rfl) ⟨c13, (rd0 hx14), (rdM o64 hx14), (impl_Event_touches_m hr15), rfl, (litB c16), (impl_Event_touches_m hr17), rfl, (litB c18), (litB c19), (litB c28), (litB c29), (litB c30), (rd0 hx31), (rdL o104 hx31), (vecLe0 k102), (vecAgg k102), (p104 _), (rdM o104 hx31), (impl_places_has_m hr32), rfl, (vecAll k102 (fun _ => rfl)), c33, (rok (treeM t61)), (rok (treeM t104)), (rok rfl), (rok rfl), trivial⟩ (impl_races_j2_m hP hn hx p1 v5 l8 a9 a10 a11 v12 x14 hK0 ih  _ h)
                  · exact go_to hΘ hm hx hP hn (hs := [⟨1, .br true, none⟩, ⟨3, .row (o64 x14), none⟩, ⟨5, .new 1001, none⟩, ⟨9, .callV [[]] (B r15), none⟩, ⟨10, .no, some (B true)⟩, ⟨12, .callV [[]] (B r17), none⟩, ⟨14, .no, some (B true)⟩, ⟨21, .no, some (B true)⟩, ⟨25, .no, some (B false)⟩, ⟨31, .no, some (B true)⟩, ⟨38, .no, some (B true)⟩, ⟨42, .agg ((o104 x31)) ((o104 x31)), none⟩, ⟨44, .callV [[[AV.dead]]] (B r32), none⟩, ⟨47, .br false, none⟩]) (π := [(1, 1), (2, 2), (3, 3)]) (ts := [0, 3, 4, 5, 6, 12, 13, 14, 21, 22, 23]) (kp := []) (ps := [(decide (v12 < (l8.length : Int))) = true, (0 : Int) ≤ v12, (l8.map o64)[(Int.toNat v12)]? = some (o64 x14), Meets Try.prog 83 [(AV.agg ((o64 x14)))] (B r15), litA (B r15) = true, (B r15) = (B true), Meets Try.prog 83 [(AV.agg ((o64 a11)))] (B r17), litA (B r17) = true, (B r17) = (B true), (B (x14.Obj == a11.Obj)) = (B true), (B (x14.Kind == 3)) = (B false), (B (a11.Kind == 3)) = (B true), (B (x14.Thread != a11.Thread)) = (B true), (0 : Int) ≤ v5, v5 < (((List.length (a10.map o104)) : Nat) : Int), 0 + 4 ≤ ((o104 x31)).length, (((o104 x31)).drop 0).take 4 = ((o104 x31)), ((o104 x31)).all AV.plain = true, (a10.map o104)[(Int.toNat v5)]? = some ((o104 x31)), Meets Try.prog 84 [(AV.agg ((o104 x31))), (I v12)] (B r32), litA (B r32) = true, ((o104 x31)).all okLit = true, (!r32) = false, RenOK [(1, 1), (2, 2), (3, 3)] (a9.map o61), RenOK [(1, 1), (2, 2), (3, 3)] (a10.map o104), RenOK [(1, 1), (2, 2), (3, 3)] [((o64 a11))]]) (by kernel_rfl) ⟨c13, (rd0 hx14), (rdM o64 hx14), (impl_Event_touches_m hr15), rfl, (litB c16), (impl_Event_touches_m hr17), rfl, (litB c18), (litB c19), (litB c28), (litB c29), (litB c30), (rd0 hx31), (rdL o104 hx31), (vecLe0 k102), (vecAgg k102), (p104 _), (rdM o104 hx31), (impl_places_has_m hr32), rfl, (vecAll k102 (fun _ => rfl)), c34, (rok (treeM t61)), (rok (treeM t104)), (rok rfl), trivial⟩ (ih a9 a10 a11 (w64 (v12 + 1)) _ h)
                · exact go_to hΘ hm hx hP hn (hs := [⟨1, .br true, none⟩, ⟨3, .row (o64 x14), none⟩, ⟨5, .new 1001, none⟩, ⟨9, .callV [[]] (B r15), none⟩, ⟨10, .no, some (B true)⟩, ⟨12, .callV [[]] (B r17), none⟩, ⟨14, .no, some (B true)⟩, ⟨21, .no, some (B true)⟩, ⟨25, .no, some (B false)⟩, ⟨31, .no, some (B true)⟩, ⟨38, .no, some (B false)⟩]) (π := [(1, 1), (2, 2), (3, 3)]) (ts := [0, 3, 4, 5, 6, 12, 13, 14, 21, 22, 23]) (kp := []) (ps := [(decide (v12 < (l8.length : Int))) = true, (0 : Int) ≤ v12, (l8.map o64)[(Int.toNat v12)]? = some (o64 x14), Meets Try.prog 83 [(AV.agg ((o64 x14)))] (B r15), litA (B r15) = true, (B r15) = (B true), Meets Try.prog 83 [(AV.agg ((o64 a11)))] (B r17), litA (B r17) = true, (B r17) = (B true), (B (x14.Obj == a11.Obj)) = (B true), (B (x14.Kind == 3)) = (B false), (B (a11.Kind == 3)) = (B true), (B (x14.Thread != a11.Thread)) = (B false), RenOK [(1, 1), (2, 2), (3, 3)] (a9.map o61), RenOK [(1, 1), (2, 2), (3, 3)] (a10.map o104), RenOK [(1, 1), (2, 2), (3, 3)] [((o64 a11))]]) (by kernel_rfl) ⟨c13, (rd0 hx14), (rdM o64 hx14), (impl_Event_touches_m hr15), rfl, (litB c16), (impl_Event_touches_m hr17), rfl, (litB c18), (litB c19), (litB c28), (litB c29), (litB c35), (rok (treeM t61)), (rok (treeM t104)), (rok rfl), trivial⟩ (ih a9 a10 a11 (w64 (v12 + 1)) _ h)
              · exact go_to hΘ hm hx hP hn (hs := [⟨1, .br true, none⟩, ⟨3, .row (o64 x14), none⟩, ⟨5, .new 1001, none⟩, ⟨9, .callV [[]] (B r15), none⟩, ⟨10, .no, some (B true)⟩, ⟨12, .callV [[]] (B r17), none⟩, ⟨14, .no, some (B true)⟩, ⟨21, .no, some (B true)⟩, ⟨25, .no, some (B false)⟩, ⟨31, .no, some (B false)⟩]) (π := [(1, 1), (2, 2), (3, 3)]) (ts := [0, 3, 4, 5, 6, 12, 13, 14, 21, 22, 23]) (kp := []) (ps := [(decide (v12 < (l8.length : Int))) = true, (0 : Int) ≤ v12, (l8.map o64)[(Int.toNat v12)]? = some (o64 x14), Meets Try.prog 83 [(AV.agg ((o64 x14)))] (B r15), litA (B r15) = true, (B r15) = (B true), Meets Try.prog 83 [(AV.agg ((o64 a11)))] (B r17), litA (B r17) = true, (B r17) = (B true), (B (x14.Obj == a11.Obj)) = (B true), (B (x14.Kind == 3)) = (B false), (B (a11.Kind == 3)) = (B false), RenOK [(1, 1), (2, 2), (3, 3)] (a9.map o61), RenOK [(1, 1), (2, 2), (3, 3)] (a10.map o104), RenOK [(1, 1), (2, 2), (3, 3)] [((o64 a11))]]) (by kernel_rfl) ⟨c13, (rd0 hx14), (rdM o64 hx14), (impl_Event_touches_m hr15), rfl, (litB c16), (impl_Event_touches_m hr17), rfl, (litB c18), (litB c19), (litB c28), (litB c36), (rok (treeM t61)), (rok (treeM t104)), (rok rfl), trivial⟩ (ih a9 a10 a11 (w64 (v12 + 1)) _ h)
          · exact go_to hΘ hm hx hP hn (hs := [⟨1, .br true, none⟩, ⟨3, .row (o64 x14), none⟩, ⟨5, .new 1001, none⟩, ⟨9, .callV [[]] (B r15), none⟩, ⟨10, .no, some (B true)⟩, ⟨12, .callV [[]] (B r17), none⟩, ⟨14, .no, some (B true)⟩, ⟨21, .no, some (B false)⟩]) (π := [(1, 1), (2, 2), (3, 3)]) (ts := [0, 3, 4, 5, 6, 12, 13, 14, 21, 22, 23]) (kp := []) (ps := [(decide (v12 < (l8.length : Int))) = true, (0 : Int) ≤ v12, (l8.map o64)[(Int.toNat v12)]? = some (o64 x14), Meets Try.prog 83 [(AV.agg ((o64 x14)))] (B r15), litA (B r15) = true, (B r15) = (B true), Meets Try.prog 83 [(AV.agg ((o64 a11)))] (B r17), litA (B r17) = true, (B r17) = (B true), (B (x14.Obj == a11.Obj)) = (B false), RenOK [(1, 1), (2, 2), (3, 3)] (a9.map o61), RenOK [(1, 1), (2, 2), (3, 3)] (a10.map o104), RenOK [(1, 1), (2, 2), (3, 3)] [((o64 a11))]]) (by kernel_rfl) ⟨c13, (rd0 hx14), (rdM o64 hx14), (impl_Event_touches_m hr15), rfl, (litB c16), (impl_Event_touches_m hr17), rfl, (litB c18), (litB c37), (rok (treeM t61)), (rok (treeM t104)), (rok rfl), trivial⟩ (ih a9 a10 a11 (w64 (v12 + 1)) _ h)
        · exact go_to hΘ hm hx hP hn (hs := [⟨1, .br true, none⟩, ⟨3, .row (o64 x14), none⟩, ⟨5, .new 1001, none⟩, ⟨9, .callV [[]] (B r15), none⟩, ⟨10, .no, some (B true)⟩, ⟨12, .callV [[]] (B r17), none⟩, ⟨14, .no, some (B false)⟩]) (π := [(1, 1), (2, 2), (3, 3)]) (ts := [0, 3, 4, 5, 6, 12, 13, 14, 21, 22, 23]) (kp := []) (ps := [(decide (v12 < (l8.length : Int))) = true, (0 : Int) ≤ v12, (l8.map o64)[(Int.toNat v12)]? = some (o64 x14), Meets Try.prog 83 [(AV.agg ((o64 x14)))] (B r15), litA (B r15) = true, (B r15) = (B true), Meets Try.prog 83 [(AV.agg ((o64 a11)))] (B r17), litA (B r17) = true, (B r17) = (B false), RenOK [(1, 1), (2, 2), (3, 3)] (a9.map o61), RenOK [(1, 1), (2, 2), (3, 3)] (a10.map o104), RenOK [(1, 1), (2, 2), (3, 3)] [((o64 a11))]]) (by kernel_rfl) ⟨c13, (rd0 hx14), (rdM o64 hx14), (impl_Event_touches_m hr15), rfl, (litB c16), (impl_Event_touches_m hr17), rfl, (litB c38), (rok (treeM t61)), (rok (treeM t104)), (rok rfl), trivial⟩ (ih a9 a10 a11 (w64 (v12 + 1)) _ h)
      · exact go_to hΘ hm hx hP hn (hs := [⟨1, .br true, none⟩, ⟨3, .row (o64 x14), none⟩, ⟨5, .new 1001, none⟩, ⟨9, .callV [[]] (B r15), none⟩, ⟨10, .no, some (B false)⟩]) (π := [(1, 1), (2, 2), (3, 3)]) (ts := [0, 3, 4, 5, 6, 12, 13, 14, 21, 22, 23]) (kp := []) (ps := [(decide (v12 < (l8.length : Int))) = true, (0 : Int) ≤ v12, (l8.map o64)[(Int.toNat v12)]? = some (o64 x14), Meets Try.prog 83 [(AV.agg ((o64 x14)))] (B r15), litA (B r15) = true, (B r15) = (B false), RenOK [(1, 1), (2, 2), (3, 3)] (a9.map o61), RenOK [(1, 1), (2, 2), (3, 3)] (a10.map o104), RenOK [(1, 1), (2, 2), (3, 3)] [((o64 a11))]]) (by kernel_rfl) ⟨c13, (rd0 hx14), (rdM o64 hx14), (impl_Event_touches_m hr15), rfl, (litB c39), (rok (treeM t61)), (rok (treeM t104)), (rok rfl), trivial⟩ (ih a9 a10 a11 (w64 (v12 + 1)) _ h)
    · exact go_to hΘ hm hx hP hn (hs := [⟨1, .br false, none⟩]) (π := [(1, 1), (2, 2)]) (ts := [0, 3, 4, 12, 13, 14]) (kp := []) (ps := [(decide (v12 < (l8.length : Int))) = false, RenOK [(1, 1), (2, 2)] (a9.map o61), RenOK [(1, 1), (2, 2)] (a10.map o104)]) (by kernel_rfl) ⟨c40, (rok (treeM t61)), (rok (treeM t104)), trivial⟩ (hK0 a9 a10 (w64 (v5 + 1)) _ h)
noncomputable def impl_races_l0  (p1 : (List GEvent)) : Nat → (List GRace) → (List (Vector Int 4)) → Int → Option (List GRace)
  | 0, _, _, _ => none
  | n + 1, a3, a4, v5 =>
  if (decide (v5 < (p1.length : Int))) = true then
    Option.bind (rd p1 v5) fun x7 =>
    Option.bind (slc p1 0 v5) fun l8 =>
    impl_races_l1 (impl_races_l0 p1 n) p1 v5 l8 FU a3 a4 x7 0
  else
    some a3
theorem impl_races_l0_m {E : Env} (hP : E.P = Try.prog) (hn : E.n = 78) (hx : ∀ p, p ∈ E.fx → p.1 ∈ ([] : List Nat)) (p1 : (List GEvent))  : ∀ (n : Nat) (a3 : (List GRace)) (a4 : (List (Vector Int 4))) (v5 : Int) (r : (List GRace)), impl_races_l0 p1 n a3 a4 v5 = some r → WAt E body48 (FQ (RetE Θ Try.f48.results.toList [] [] (AV.own 61 3 (r.map o61)) E)) [true, true, false, true, false] ⟨[(0, (AV.ro 5 (p1.map o64))), (3, (AV.sl 1 0 (List.length (a3.map o61)))), (4, (AV.sl 2 0 (List.length (a4.map o104)))), (12, (AV.ro 5 (p1.map o64))), (13, (I (p1.length : Int))), (14, (I v5))], [(1, some ⟨61, 3, (a3.map o61)⟩), (2, some ⟨104, 4, (a4.map o104)⟩)], [1, 2, JJ]⟩ := by
  have hm : E.P.follows .mixedOrders = true := by rw [hP]; exact mixed
  have hΘ : TOK E.P Θ := by rw [hP]; exact Θ_ok
  intro n
  induction n with
  | zero => intro a3 a4 v5 r h; simp only [impl_races_l0] at h; cases h
  | succ n ih =>
    intro a3 a4 v5 r h
    simp only [impl_races_l0] at h
    rcases itS h with ⟨c6, h⟩ | ⟨c41, h⟩
    · obtain ⟨x7, hx7, h⟩ := bnS h
      obtain ⟨l8, hl8, h⟩ := bnS h
      exact go_to hΘ hm hx hP hn (hs := [⟨1, .br true, none⟩, ⟨3, .row (o64 x7), none⟩, ⟨5, .new 1001, none⟩, ⟨10, .no, some (AV.ro 5 (l8.map o64))⟩, ⟨11, .no, some (I (l8.length : Int))⟩]) (π := [(1, 1), (2, 2), (1001, 3)]) (ts := [0, 3, 4, 5, 6, 12, 13, 14, 21, 22, 23]) (kp := []) (ps := [(decide (v5 < (p1.length : Int))) = true, (0 : Int) ≤ v5, (p1.map o64)[(Int.toNat v5)]? = some (o64 x7), AV.ro 5 (((p1.map o64).drop (Int.toNat 0)).take (subO (Int.toNat v5) (Int.toNat 0))) = (AV.ro 5 (l8.map o64)), (0 : Int) ≤ 0, 0 ≤ v5, v5 ≤ (((p1.map o64).length : Nat) : Int), AV.lit (.int .i64 (((l8.map o64).length : Nat) : Int)) = (I (l8.length : Int)), RenOK [(1, 1), (2, 2), (1001, 3)] (a3.map o61), RenOK [(1, 1), (2, 2), (1001, 3)] (a4.map o104), RenOK [(1, 1), (2, 2), (1001, 3)] [((o64 x7))]]) (by kernel_rfl) ⟨c6, (rd0 hx7), (rdM o64 hx7), (slM 5 o64 hl8), (sl0 hl8), (sl1 hl8), (sl2 o64 hl8), (lenM o64), (rok (treeM t61)), (rok (treeM t104)), (rok rfl), trivial⟩ (impl_races_l1_m hP hn hx p1 v5 l8 ih FU a3 a4 x7 0 _ h)
    · have h := Option.some.inj h
      subst h
      exact go_ret hΘ hm hP hn (hs := [⟨1, .br false, none⟩]) (rh := []) (ph := .own) (ps := [(decide (v5 < (p1.length : Int))) = false, treeLL ((a3.map o61).take (List.length (a3.map o61))) = true, (a3.map o61).take (List.length (a3.map o61)) = (a3.map o61), noRoLL (a3.map o61) = true]) (by kernel_rfl) ⟨c41, (treeT t61), takeM, (noRoM n61), trivial⟩
noncomputable def impl_races (p1 : (List GEvent)) : Option (List GRace) :=
  Option.bind (impl_aheadOf p1) fun r2 =>
  impl_races_l0 p1 FU [] r2 0
theorem impl_races_m {p1 : (List GEvent)} {r : (List GRace)} (h : impl_races p1 = some r) : Meets Try.prog 48 [(AV.ro 5 (p1.map o64))] (AV.own 61 3 (r.map o61)) := by
  refine meets_ofC Θ_ok Try.func48 rfl (c := body48) (by kernel_rfl) (Nat.le_of_ble_eq_true rfl) ?_
  intro E hP hn hx
  replace hn : E.n = 78 := hn
  have hm : E.P.follows .mixedOrders = true := by rw [hP]; exact mixed
  have hΘ : TOK E.P Θ := by rw [hP]; exact Θ_ok
  unfold impl_races at h
  show WAt E body48 (FQ (RetE Θ Try.f48.results.toList [] [] (AV.own 61 3 (r.map o61)) E)) [] ⟨[(0, (AV.ro 5 (p1.map o64)))], [], [JJ]⟩
  obtain ⟨r2, hr2, h⟩ := bnS h
  exact go_to hΘ hm hx hP hn (hs := [⟨1, .new 1001, none⟩, ⟨3, .call [] (AV.own 104 4 (r2.map o104)) [1002], none⟩, ⟨7, .no, some (I (p1.length : Int))⟩]) (π := [(1001, 1), (1002, 2)]) (ts := [0, 3, 4, 12, 13, 14]) (kp := []) (ps := [Meets Try.prog 82 [(AV.ro 5 (p1.map o64))] (AV.own 104 4 (r2.map o104)), noRo (AV.own 104 4 (r2.map o104)) = true, AV.lit (.int .i64 (((p1.map o64).length : Nat) : Int)) = (I (p1.length : Int)), RenOK [(1001, 1), (1002, 2)] ([].map o61), RenOK [(1001, 1), (1002, 2)] (r2.map o104)]) (by kernel_rfl) ⟨(impl_aheadOf_m hr2), (by simp only [noRo, noRoL, noRoM n104, Bool.and_self]), (lenM o64), (rok (treeM t61)), (rok (treeM t104)), trivial⟩ (impl_races_l0_m hP hn hx p1 FU [] r2 0 _ h)
noncomputable def body86 : Code := match Try.f86.body with | some c => c | none => .skip
noncomputable def slices_Compact_int_int_l1 (K0 : (List Int) → Int → Option (List Int)) (p1 : (List Int)) (a4 : (List Int)) (v5 : Int) : Nat → (List Int) → Int → Int → Option (List Int)
  | 0, _, _, _ => none
  | n + 1, a11, v12, v13 =>
  if (decide (v13 < (((subO (Int.toNat (((a4.map o3).length : Nat) : Int)) (Int.toNat v5)) : Nat) : Int))) = true then
    Option.bind (rdc a11 (Int.toNat v5) (subO (Int.toNat (((a4.map o3).length : Nat) : Int)) (Int.toNat v5)) v13) fun x15 =>
    Option.bind (rdc a11 (Int.toNat v5) (subO (Int.toNat (((a4.map o3).length : Nat) : Int)) (Int.toNat v5)) (w64 (v13 - 1))) fun x16 =>
    if (x15 != x16) = true then
      Option.bind (rdc a11 (Int.toNat v5) (subO (Int.toNat (((a4.map o3).length : Nat) : Int)) (Int.toNat v5)) v13) fun x18 =>
      Option.bind (rd a11 v12) fun x19 =>
      slices_Compact_int_int_l1 K0 p1 a4 v5 n (a11.set (Int.toNat v12) x18) (w64 (v12 + 1)) (w64 (v13 + 1))
    else
      slices_Compact_int_int_l1 K0 p1 a4 v5 n a11 v12 (w64 (v13 + 1))
  else
    Option.bind (slc a11 v12 (a11.length : Int)) fun l22 =>
    Option.bind (slc (clrT a11 0 (Int.toNat v12) (subO (Int.toNat (((a11.map o3).length : Nat) : Int)) (Int.toNat v12))) 0 v12) fun l23 =>
    some l23
theorem slices_Compact_int_int_l1_m {E : Env} (hP : E.P = Try.prog) (hn : E.n = 61) (hx : ∀ p, p ∈ E.fx → p.1 ∈ ([] : List Nat)) (p1 : (List Int)) (a4 : (List Int)) (v5 : Int) {K0 : (List Int) → Int → Option (List Int)} (hK0 : ∀ (a4 : (List Int)) (v5 : Int) (r : (List Int)), K0 a4 v5 = some r → WAt E body86 (FQ (RetE Θ Try.f86.results.toList [false] [⟨3, 1, (p1.map o3)⟩] (AV.own 3 1 (r.map o3)) E)) [true, true, false, true, false] ⟨[(0, (AV.sl 1 0 (List.length (a4.map o3)))), (3, (I v5))], [(1, some ⟨3, 1, (a4.map o3)⟩)], [1, JJ]⟩) : ∀ (n : Nat) (a11 : (List Int)) (v12 : Int) (v13 : Int) (r : (List Int)), slices_Compact_int_int_l1 K0 p1 a4 v5 n a11 v12 v13 = some r → WAt E body86 (FQ (RetE Θ Try.f86.results.toList [false] [⟨3, 1, (p1.map o3)⟩] (AV.own 3 1 (r.map o3)) E)) [true, true, false, true, false, false, true, false, false, true, false, true, false, true, false] ⟨[(0, (AV.sl 1 0 (List.length (a11.map o3)))), (3, (I v12)), (4, (AV.sl 1 (Int.toNat v5) (subO (Int.toNat (((a4.map o3).length : Nat) : Int)) (Int.toNat v5)))), (5, (I v13))], [(1, some ⟨3, 1, (a11.map o3)⟩)], [1, JJ]⟩ := by
  have hm : E.P.follows .mixedOrders = true := by rw [hP]; exact mixed
  have hΘ : TOK E.P Θ := by rw [hP]; exact Θ_ok
  intro n
  induction n with
  | zero => intro a11 v12 v13 r h; simp only [slices_Compact_int_int_l1] at h; cases h
  | succ n ih =>
    intro a11 v12 v13 r h
    simp only [slices_Compact_int_int_l1] at h
    rcases itS h with ⟨c14, h⟩ | ⟨c21, h⟩
    · obtain ⟨x15, hx15, h⟩ := bnS h
      obtain ⟨x16, hx16, h⟩ := bnS h
      rcases itS h with ⟨c17, h⟩ | ⟨c20, h⟩
      · obtain ⟨x18, hx18, h⟩ := bnS h
        obtain ⟨x19, hx19, h⟩ := bnS h
        exact go_to hΘ hm hx hP hn (hs := [⟨2, .no, some (I (((subO (Int.toNat (((a4.map o3).length : Nat) : Int)) (Int.toNat v5)) : Nat) : Int))⟩, ⟨4, .br true, none⟩, ⟨8, .row [(I x15)], none⟩, ⟨13, .row [(I x16)], none⟩, ⟨15, .br true, none⟩, ⟨21, .row [(I x18)], none⟩, ⟨23, .sto [(I x19)] ((a11.set (Int.toNat v12) x18).map o3), none⟩, ⟨30, .slen 0 (List.length ((a11.set (Int.toNat v12) x18).map o3)), none⟩]) (π := [(1, 1)]) (ts := [0, 3, 4, 5]) (kp := []) (ps := [AV.lit (.int .i64 (((subO (Int.toNat (((a4.map o3).length : Nat) : Int)) (Int.toNat v5)) : Nat) : Int)) = (I (((subO (Int.toNat (((a4.map o3).length : Nat) : Int)) (Int.toNat v5)) : Nat) : Int)), (decide (v13 < (((subO (Int.toNat (((a4.map o3).length : Nat) : Int)) (Int.toNat v5)) : Nat) : Int))) = true, (0 : Int) ≤ v13, v13 < (((subO (Int.toNat (((a4.map o3).length : Nat) : Int)) (Int.toNat v5)) : Nat) : Int), (a11.map o3)[(addO (Int.toNat v5) (Int.toNat v13))]? = some [(I x15)], (0 : Int) ≤ (w64 (v13 - 1)), (w64 (v13 - 1)) < (((subO (Int.toNat (((a4.map o3).length : Nat) : Int)) (Int.toNat v5)) : Nat) : Int), (a11.map o3)[(addO (Int.toNat v5) (Int.toNat (w64 (v13 - 1))))]? = some [(I x16)], (x15 != x16) = true, (0 : Int) ≤ v13, v13 < (((subO (Int.toNat (((a4.map o3).length : Nat) : Int)) (Int.toNat v5)) : Nat) : Int), (a11.map o3)[(addO (Int.toNat v5) (Int.toNat v13))]? = some [(I x18)], (0 : Int) ≤ v12, v12 < (((List.length (a11.map o3)) : Nat) : Int), (a11.map o3)[(Int.toNat v12)]? = some [(I x19)], (a11.map o3).set (Int.toNat v12) (wr [(I x19)] 0 [(I x18)]) = ((a11.set (Int.toNat v12) x18).map o3), [(I x18)].length = 1, 0 + [(I x18)].length ≤ [(I x19)].length, (List.length (a11.map o3)) = (List.length ((a11.set (Int.toNat v12) x18).map o3)), RenOK [(1, 1)] ((a11.set (Int.toNat v12) x18).map o3)]) (by kernel_rfl) ⟨rfl, c14, (rdc0 hx15), (rdcL hx15), (rdM o3 (rdcR hx15)), (rdc0 hx16), (rdcL hx16), (rdM o3 (rdcR hx16)), c17, (rdc0 hx18), (rdcL hx18), (rdM o3 (rdcR hx18)), (rd0 hx19), (rdL o3 hx19), (rdM o3 hx19), (setM o3), rfl, (Nat.le_of_ble_eq_true rfl), (by first | exact lnSet _ | exact lnSet2 _ | simp only [List.length_map, List.length_set, List.length_cons, List.length_nil]), (rok (treeM t3)), trivial⟩ (ih (a11.set (Int.toNat v12) x18) (w64 (v12 + 1)) (w64 (v13 + 1)) _ h)
      · exact go_to hΘ hm hx hP hn (hs := [⟨2, .no, some (I (((subO (Int.toNat (((a4.map o3).length : Nat) : Int)) (Int.toNat v5)) : Nat) : Int))⟩, ⟨4, .br true, none⟩, ⟨8, .row [(I x15)], none⟩, ⟨13, .row [(I x16)], none⟩, ⟨15, .br false, none⟩]) (π := [(1, 1)]) (ts := [0, 3, 4, 5]) (kp := []) (ps := [AV.lit (.int .i64 (((subO (Int.toNat (((a4.map o3).length : Nat) : Int)) (Int.toNat v5)) : Nat) : Int)) = (I (((subO (Int.toNat (((a4.map o3).length : Nat) : Int)) (Int.toNat v5)) : Nat) : Int)), (decide (v13 < (((subO (Int.toNat (((a4.map o3).length : Nat) : Int)) (Int.toNat v5)) : Nat) : Int))) = true, (0 : Int) ≤ v13, v13 < (((subO (Int.toNat (((a4.map o3).length : Nat) : Int)) (Int.toNat v5)) : Nat) : Int), (a11.map o3)[(addO (Int.toNat v5) (Int.toNat v13))]? = some [(I x15)], (0 : Int) ≤ (w64 (v13 - 1)), (w64 (v13 - 1)) < (((subO (Int.toNat (((a4.map o3).length : Nat) : Int)) (Int.toNat v5)) : Nat) : Int), (a11.map o3)[(addO (Int.toNat v5) (Int.toNat (w64 (v13 - 1))))]? = some [(I x16)], (x15 != x16) = false, RenOK [(1, 1)] (a11.map o3)]) (by kernel_rfl) ⟨rfl, c14, (rdc0 hx15), (rdcL hx15), (rdM o3 (rdcR hx15)), (rdc0 hx16), (rdcL hx16), (rdM o3 (rdcR hx16)), c20, (rok (treeM t3)), trivial⟩ (ih a11 v12 (w64 (v13 + 1)) _ h)
    · obtain ⟨l22, hl22, h⟩ := bnS h
      obtain ⟨l23, hl23, h⟩ := bnS h
      have h := Option.some.inj h
      subst h
      exact go_ret hΘ hm hP hn (hs := [⟨2, .no, some (I (((subO (Int.toNat (((a4.map o3).length : Nat) : Int)) (Int.toNat v5)) : Nat) : Int))⟩, ⟨4, .br false, none⟩, ⟨8, .clr ((clrT a11 0 (Int.toNat v12) (subO (Int.toNat (((a11.map o3).length : Nat) : Int)) (Int.toNat v12))).map o3), none⟩, ⟨9, .slen 0 (List.length ((clrT a11 0 (Int.toNat v12) (subO (Int.toNat (((a11.map o3).length : Nat) : Int)) (Int.toNat v12))).map o3)), none⟩]) (rh := []) (ph := .own) (ps := [AV.lit (.int .i64 (((subO (Int.toNat (((a4.map o3).length : Nat) : Int)) (Int.toNat v5)) : Nat) : Int)) = (I (((subO (Int.toNat (((a4.map o3).length : Nat) : Int)) (Int.toNat v5)) : Nat) : Int)), (decide (v13 < (((subO (Int.toNat (((a4.map o3).length : Nat) : Int)) (Int.toNat v5)) : Nat) : Int))) = false, (0 : Int) ≤ v12, v12 ≤ (((a11.map o3).length : Nat) : Int), (((a11.map o3).length : Nat) : Int) ≤ (((List.length (a11.map o3)) : Nat) : Int), litR (a11.map o3) = true, (Int.toNat v12) + (subO (Int.toNat (((a11.map o3).length : Nat) : Int)) (Int.toNat v12)) ≤ (a11.map o3).length, ovr_ (a11.map o3) (Int.toNat v12) (List.replicate (subO (Int.toNat (((a11.map o3).length : Nat) : Int)) (Int.toNat v12)) (o3 0)) = ((clrT a11 0 (Int.toNat v12) (subO (Int.toNat (((a11.map o3).length : Nat) : Int)) (Int.toNat v12))).map o3), (List.length (a11.map o3)) = (List.length ((clrT a11 0 (Int.toNat v12) (subO (Int.toNat (((a11.map o3).length : Nat) : Int)) (Int.toNat v12))).map o3)), (0 : Int) ≤ 0, 0 ≤ v12, v12 ≤ (((List.length ((clrT a11 0 (Int.toNat v12) (subO (Int.toNat (((a11.map o3).length : Nat) : Int)) (Int.toNat v12))).map o3)) : Nat) : Int), treeLL (((clrT a11 0 (Int.toNat v12) (subO (Int.toNat (((a11.map o3).length : Nat) : Int)) (Int.toNat v12))).map o3).take (Int.toNat v12)) = true, ((clrT a11 0 (Int.toNat v12) (subO (Int.toNat (((a11.map o3).length : Nat) : Int)) (Int.toNat v12))).map o3).take (Int.toNat v12) = (l23.map o3), noRoLL (l23.map o3) = true]) (by kernel_rfl) ⟨rfl, c21, (sl0 hl22), (sl1e o3 hl22), (Int.le_refl _), (litR_map (fun _ => rfl) _), (clBe o3 hl22), (clrM o3 rfl), (lnClre o3 hl22), (sl0 hl23), (sl1 hl23), (sl2 o3 hl23), (treeW0 t3 hl23), (winT0 o3 hl23), (noRoM n3), trivial⟩
noncomputable def slices_Compact_int_int_l0  (p1 : (List Int)) : Nat → (List Int) → Int → Option (List Int)
  | 0, _, _ => none
  | n + 1, a4, v5 =>
  if (decide (v5 < (a4.length : Int))) = true then
    Option.bind (rd a4 v5) fun x7 =>
    Option.bind (rd a4 (w64 (v5 - 1))) fun x8 =>
    if (x7 == x8) = true then
      Option.bind (slc a4 v5 (a4.length : Int)) fun l10 =>
      slices_Compact_int_int_l1 (slices_Compact_int_int_l0 p1 n) p1 a4 v5 FU a4 v5 1
    else
      slices_Compact_int_int_l0 p1 n a4 (w64 (v5 + 1))
  else
    some a4
theorem slices_Compact_int_int_l0_m {E : Env} (hP : E.P = Try.prog) (hn : E.n = 61) (hx : ∀ p, p ∈ E.fx → p.1 ∈ ([] : List Nat)) (p1 : (List Int))  : ∀ (n : Nat) (a4 : (List Int)) (v5 : Int) (r : (List Int)), slices_Compact_int_int_l0 p1 n a4 v5 = some r → WAt E body86 (FQ (RetE Θ Try.f86.results.toList [false] [⟨3, 1, (p1.map o3)⟩] (AV.own 3 1 (r.map o3)) E)) [true, true, false, true, false] ⟨[(0, (AV.sl 1 0 (List.length (a4.map o3)))), (3, (I v5))], [(1, some ⟨3, 1, (a4.map o3)⟩)], [1, JJ]⟩ := by
  have hm : E.P.follows .mixedOrders = true := by rw [hP]; exact mixed
  have hΘ : TOK E.P Θ := by rw [hP]; exact Θ_ok
  intro n
  induction n with
  | zero => intro a4 v5 r h; simp only [slices_Compact_int_int_l0] at h; cases h
  | succ n ih =>
    intro a4 v5 r h
    simp only [slices_Compact_int_int_l0] at h
    rcases itS h with ⟨c6, h⟩ | ⟨c25, h⟩
    · obtain ⟨x7, hx7, h⟩ := bnS h
      obtain ⟨x8, hx8, h⟩ := bnS h
      rcases itS h with ⟨c9, h⟩ | ⟨c24, h⟩
      · obtain ⟨l10, hl10, h⟩ := bnS h
        exact go_to hΘ hm hx hP hn (hs := [⟨2, .no, some (I (a4.length : Int))⟩, ⟨4, .br true, none⟩, ⟨8, .row [(I x7)], none⟩, ⟨13, .row [(I x8)], none⟩, ⟨15, .br true, none⟩]) (π := [(1, 1)]) (ts := [0, 3, 4, 5]) (kp := []) (ps := [AV.lit (.int .i64 (((List.length (a4.map o3)) : Nat) : Int)) = (I (a4.length : Int)), (decide (v5 < (a4.length : Int))) = true, (0 : Int) ≤ v5, v5 < (((List.length (a4.map o3)) : Nat) : Int), (a4.map o3)[(Int.toNat v5)]? = some [(I x7)], (0 : Int) ≤ (w64 (v5 - 1)), (w64 (v5 - 1)) < (((List.length (a4.map o3)) : Nat) : Int), (a4.map o3)[(Int.toNat (w64 (v5 - 1)))]? = some [(I x8)], (x7 == x8) = true, (0 : Int) ≤ v5, v5 ≤ (((a4.map o3).length : Nat) : Int), (((a4.map o3).length : Nat) : Int) ≤ (((List.length (a4.map o3)) : Nat) : Int), RenOK [(1, 1)] (a4.map o3)]) (by kernel_rfl) ⟨(lenM o3), c6, (rd0 hx7), (rdL o3 hx7), (rdM o3 hx7), (rd0 hx8), (rdL o3 hx8), (rdM o3 hx8), c9, (sl0 hl10), (sl1e o3 hl10), (Int.le_refl _), (rok (treeM t3)), trivial⟩ (slices_Compact_int_int_l1_m hP hn hx p1 a4 v5 ih FU a4 v5 1 _ h)
      · exact go_to hΘ hm hx hP hn (hs := [⟨2, .no, some (I (a4.length : Int))⟩, ⟨4, .br true, none⟩, ⟨8, .row [(I x7)], none⟩, ⟨13, .row [(I x8)], none⟩, ⟨15, .br false, none⟩]) (π := [(1, 1)]) (ts := [0, 3]) (kp := []) (ps := [AV.lit (.int .i64 (((List.length (a4.map o3)) : Nat) : Int)) = (I (a4.length : Int)), (decide (v5 < (a4.length : Int))) = true, (0 : Int) ≤ v5, v5 < (((List.length (a4.map o3)) : Nat) : Int), (a4.map o3)[(Int.toNat v5)]? = some [(I x7)], (0 : Int) ≤ (w64 (v5 - 1)), (w64 (v5 - 1)) < (((List.length (a4.map o3)) : Nat) : Int), (a4.map o3)[(Int.toNat (w64 (v5 - 1)))]? = some [(I x8)], (x7 == x8) = false, RenOK [(1, 1)] (a4.map o3)]) (by kernel_rfl) ⟨(lenM o3), c6, (rd0 hx7), (rdL o3 hx7), (rdM o3 hx7), (rd0 hx8), (rdL o3 hx8), (rdM o3 hx8), c24, (rok (treeM t3)), trivial⟩ (ih a4 (w64 (v5 + 1)) _ h)
    · have h := Option.some.inj h
      subst h
      exact go_ret hΘ hm hP hn (hs := [⟨2, .no, some (I (a4.length : Int))⟩, ⟨4, .br false, none⟩]) (rh := []) (ph := .own) (ps := [AV.lit (.int .i64 (((List.length (a4.map o3)) : Nat) : Int)) = (I (a4.length : Int)), (decide (v5 < (a4.length : Int))) = false, treeLL ((a4.map o3).take (List.length (a4.map o3))) = true, (a4.map o3).take (List.length (a4.map o3)) = (a4.map o3), noRoLL (a4.map o3) = true]) (by kernel_rfl) ⟨(lenM o3), c25, (treeT t3), takeM, (noRoM n3), trivial⟩
noncomputable def slices_Compact_int_int (p1 : (List Int)) : Option (List Int) :=
  if (decide ((p1.length : Int) < 2)) = true then
    some p1
  else
    slices_Compact_int_int_l0 p1 FU p1 1
theorem slices_Compact_int_int_m {p1 : (List Int)} {r : (List Int)} (h : slices_Compact_int_int p1 = some r) : MeetsR Try.prog 86 [⟨3, 1, (p1.map o3)⟩] [(AV.sl 0 0 (List.length (p1.map o3)))] [false] [⟨3, 1, (p1.map o3)⟩] (AV.own 3 1 (r.map o3)) := by
  refine meetsR_of Θ_ok Try.func86 rfl (c := body86) (by kernel_rfl) (Nat.le_of_ble_eq_true rfl) rfl (Nat.le_of_ble_eq_true rfl) rfl (fr := []) (frI rfl) ?_
  intro E hP hn hx
  replace hn : E.n = 61 := hn
  have hm : E.P.follows .mixedOrders = true := by rw [hP]; exact mixed
  have hΘ : TOK E.P Θ := by rw [hP]; exact Θ_ok
  unfold slices_Compact_int_int at h
  show WAt E body86 (FQ (RetE Θ Try.f86.results.toList [false] [⟨3, 1, (p1.map o3)⟩] (AV.own 3 1 (r.map o3)) E)) [] ⟨[(0, (AV.sl 0 0 (List.length (p1.map o3))))], [(0, some ⟨3, 1, (p1.map o3)⟩)], [0, JJ]⟩
  rcases itS h with ⟨c2, h⟩ | ⟨c3, h⟩
  · have h := Option.some.inj h
    subst h
    exact go_ret hΘ hm hP hn (hs := [⟨2, .no, some (I (p1.length : Int))⟩, ⟨4, .br true, none⟩]) (rh := []) (ph := .own) (ps := [AV.lit (.int .i64 (((List.length (p1.map o3)) : Nat) : Int)) = (I (p1.length : Int)), (decide ((p1.length : Int) < 2)) = true, treeLL ((p1.map o3).take (List.length (p1.map o3))) = true, (p1.map o3).take (List.length (p1.map o3)) = (p1.map o3), noRoLL (p1.map o3) = true]) (by kernel_rfl) ⟨(lenM o3), c2, (treeT t3), takeM, (noRoM n3), trivial⟩
  · exact go_to hΘ hm hx hP hn (hs := [⟨2, .no, some (I (p1.length : Int))⟩, ⟨4, .br false, none⟩]) (π := [(0, 1)]) (ts := [0, 3]) (kp := []) (ps := [AV.lit (.int .i64 (((List.length (p1.map o3)) : Nat) : Int)) = (I (p1.length : Int)), (decide ((p1.length : Int) < 2)) = false, RenOK [(0, 1)] (p1.map o3)]) (by kernel_rfl) ⟨(lenM o3), c3, (rok (treeM t3)), trivial⟩ (slices_Compact_int_int_l0_m hP hn hx p1 FU p1 1 _ h)
section
open Go.RowKit Go.Sort Go.Shelf Go.Proofs
shelf_lay_g SlLaysM.n5 Slgm 5 at Try 85 as Try.srt85
end
noncomputable def slices_Sort_int_int (p1 : (List Int)) : Option (Unit × (List Int)) :=
  srtL p1
theorem slices_Sort_int_int_m {p1 : (List Int)} {r : (Unit × (List Int))} (h : slices_Sort_int_int p1 = some r) : MeetsR Try.prog 85 [⟨3, 1, (p1.map o3)⟩] [(AV.sl 0 0 (List.length (p1.map o3)))] [true] [⟨3, 1, (r.2.map o3)⟩] (AV.tup []) := by
  obtain ⟨h1, rfl⟩ := srtE h
  exact meetsR_sortI Try.srt85 (Go.Proofs.enters_of Try.func85 rfl rfl) 3 p1 h1
noncomputable def body49 : Code := match Try.f49.body with | some c => c | none => .skip
noncomputable def impl_rising (p1 : (List Int)) : Option (List Int) :=
  Option.bind (slices_Sort_int_int p1) fun r2 =>
  Option.bind (sameLen p1 r2.2) fun q3 =>
  Option.bind (slices_Compact_int_int r2.2) fun r4 =>
  some r4
theorem impl_rising_m {p1 : (List Int)} {r : (List Int)} (h : impl_rising p1 = some r) : MeetsR Try.prog 49 [⟨3, 1, (p1.map o3)⟩] [(AV.sl 0 0 (List.length (p1.map o3)))] [false] [⟨3, 1, (p1.map o3)⟩] (AV.own 3 1 (r.map o3)) := by
  refine meetsR_of Θ_ok Try.func49 rfl (c := body49) (by kernel_rfl) (Nat.le_of_ble_eq_true rfl) rfl (Nat.le_of_ble_eq_true rfl) rfl (fr := []) (frI rfl) ?_
  intro E hP hn hx
  replace hn : E.n = 7 := hn
  have hm : E.P.follows .mixedOrders = true := by rw [hP]; exact mixed
  have hΘ : TOK E.P Θ := by rw [hP]; exact Θ_ok
  unfold impl_rising at h
  show WAt E body49 (FQ (RetE Θ Try.f49.results.toList [false] [⟨3, 1, (p1.map o3)⟩] (AV.own 3 1 (r.map o3)) E)) [] ⟨[(0, (AV.sl 0 0 (List.length (p1.map o3))))], [(0, some ⟨3, 1, (p1.map o3)⟩)], [0, JJ]⟩
  obtain ⟨r2, hr2, h⟩ := bnS h
  obtain ⟨q3, hq3, h⟩ := bnS h
  obtain ⟨r4, hr4, h⟩ := bnS h
  have h := Option.some.inj h
  subst h
  exact go_ret hΘ hm hP hn (hs := [⟨2, .callX [0] [true] [⟨3, 1, (p1.map o3)⟩] [⟨3, 1, (r2.2.map o3)⟩] [] (AV.tup []) [] (AV.tup []) [], none⟩, ⟨3, .slen 0 (List.length (r2.2.map o3)), none⟩, ⟨4, .callX [0] [false] [⟨3, 1, (r2.2.map o3)⟩] [⟨3, 1, (r2.2.map o3)⟩] [] (AV.own 3 1 (r4.map o3)) [1001] (AV.sl 1001 0 (List.length (r4.map o3))) [(1001, ⟨3, 1, (r4.map o3)⟩)], none⟩]) (rh := []) (ph := .own) (ps := [MeetsR Try.prog 85 [⟨3, 1, (p1.map o3)⟩] [(AV.sl 0 0 (List.length (p1.map o3)))] [true] [⟨3, 1, (r2.2.map o3)⟩] (AV.tup []), (some (Root.mk 3 1 (p1.map o3)) = some (Root.mk 3 1 (p1.map o3))) ∧ True, (treeLL (p1.map o3) = true ∧ noRoLL (p1.map o3) = true) ∧ True, ((r2.2.map o3).length = (p1.map o3).length) ∧ True, (rtf (renA [(0, 0)] (AV.tup [])) []).1 = (AV.tup []), (rtf (renA [(0, 0)] (AV.tup [])) []).2.1 = [], (List.length (p1.map o3)) = (List.length (r2.2.map o3)), MeetsR Try.prog 86 [⟨3, 1, (r2.2.map o3)⟩] [(AV.sl 0 0 (List.length (r2.2.map o3)))] [false] [⟨3, 1, (r2.2.map o3)⟩] (AV.own 3 1 (r4.map o3)), (some (Root.mk 3 1 (r2.2.map o3)) = some (Root.mk 3 1 (r2.2.map o3))) ∧ True, (treeLL (r2.2.map o3) = true ∧ noRoLL (r2.2.map o3) = true) ∧ True, ((r2.2.map o3).length = (r2.2.map o3).length) ∧ True, (rtf (renA [] (AV.own 3 1 (r4.map o3))) [1001]).1 = (AV.sl 1001 0 (List.length (r4.map o3))), (rtf (renA [] (AV.own 3 1 (r4.map o3))) [1001]).2.1 = [(1001, ⟨3, 1, (r4.map o3)⟩)], treeLL ((r4.map o3).take (List.length (r4.map o3))) = true, (r4.map o3).take (List.length (r4.map o3)) = (r4.map o3), noRoLL (r4.map o3) = true]) (by kernel_rfl) ⟨(slices_Sort_int_int_m hr2), ⟨rfl, trivial⟩, ⟨⟨treeM t3, noRoM n3⟩, trivial⟩, ⟨(sameLenE o3 hq3), trivial⟩, rfl, rfl, (sameLenE o3 hq3).symm, (slices_Compact_int_int_m hr4), ⟨rfl, trivial⟩, ⟨⟨treeM t3, noRoM n3⟩, trivial⟩, ⟨rfl, trivial⟩, rfl, rfl, (treeT t3), takeM, (noRoM n3), trivial⟩
noncomputable def body19 : Code := match Try.f19.body with | some c => c | none => .skip
noncomputable def impl_RacyCells_l0  (r5 : (List GRace)) : Nat → (List Int) → (List GRace) → Int → Option ((List Int) × Bool)
  | 0, _, _, _ => none
  | n + 1, a6, a7, v8 =>
  if (decide (v8 < (r5.length : Int))) = true then
    Option.bind (rd a7 v8) fun x10 =>
    Option.bind (app a6 [x10.Cell]) fun l11 =>
    impl_RacyCells_l0 r5 n l11 a7 (w64 (v8 + 1))
  else
    Option.bind (impl_rising a6) fun r13 =>
    some (r13, true)
theorem impl_RacyCells_l0_m {E : Env} (hP : E.P = Try.prog) (hn : E.n = 26) (hx : ∀ p, p ∈ E.fx → p.1 ∈ ([] : List Nat)) (r5 : (List GRace))  : ∀ (n : Nat) (a6 : (List Int)) (a7 : (List GRace)) (v8 : Int) (r : ((List Int) × Bool)), impl_RacyCells_l0 r5 n a6 a7 v8 = some r → WAt E body19 (FQ (RetE Θ Try.f19.results.toList [] [] (AV.tup [(AV.own 3 1 (r.1.map o3)), (B r.2)]) E)) [true, true, true, false, true, false] ⟨[(4, (AV.sl 1 0 (List.length (a6.map o3)))), (12, (AV.sl 2 0 (List.length (a7.map o61)))), (13, (I (r5.length : Int))), (14, (I v8))], [(1, some ⟨3, 1, (a6.map o3)⟩), (2, some ⟨61, 3, (a7.map o61)⟩)], [1, 2, JJ]⟩ := by
  have hm : E.P.follows .mixedOrders = true := by rw [hP]; exact mixed
  have hΘ : TOK E.P Θ := by rw [hP]; exact Θ_ok
  intro n
  induction n with
  | zero => intro a6 a7 v8 r h; simp only [impl_RacyCells_l0] at h; cases h
  | succ n ih =>
    intro a6 a7 v8 r h
    simp only [impl_RacyCells_l0] at h
    rcases itS h with ⟨c9, h⟩ | ⟨c12, h⟩
    · obtain ⟨x10, hx10, h⟩ := bnS h
      obtain ⟨l11, hl11, h⟩ := bnS h
      exact go_to hΘ hm hx hP hn (hs := [⟨1, .br true, none⟩, ⟨3, .row ((o61 x10)), none⟩, ⟨4, .new 1001, none⟩, ⟨9, .new 1002, none⟩, ⟨10, .app 1003 (l11.map o3), none⟩]) (π := [(1003, 1), (2, 2)]) (ts := [4, 12, 13, 14]) (kp := []) (ps := [(decide (v8 < (r5.length : Int))) = true, (0 : Int) ≤ v8, v8 < (((List.length (a7.map o61)) : Nat) : Int), (a7.map o61)[(Int.toNat v8)]? = some ((o61 x10)), (a6.map o3).take (List.length (a6.map o3)) ++ ((([x10.Cell].map o3).drop 0).take (List.length ([x10.Cell].map o3))) = (l11.map o3), ((([x10.Cell].map o3).drop 0).take (List.length ([x10.Cell].map o3))).all (fun r => r.all AV.plain) = true, (List.length (l11.map o3)) * 8 ≤ 140737488355328, (List.length (l11.map o3)) ≤ 140737488355328, RenOK [(1003, 1), (2, 2)] (l11.map o3), RenOK [(1003, 1), (2, 2)] (a7.map o61)]) (by kernel_rfl) ⟨c9, (rd0 hx10), (rdL o61 hx10), (rdM o61 hx10), (appTD o3 hl11), (plD p3), (appB o3 hl11 (by decide)), (appC o3 hl11), (rok (treeM t3)), (rok (treeM t61)), trivial⟩ (ih l11 a7 (w64 (v8 + 1)) _ h)
    · obtain ⟨r13, hr13, h⟩ := bnS h
      have h := Option.some.inj h
      subst h
      exact go_ret hΘ hm hP hn (hs := [⟨1, .br false, none⟩, ⟨3, .callX [1] [false] [⟨3, 1, (a6.map o3)⟩] [⟨3, 1, (a6.map o3)⟩] [] (AV.own 3 1 (r13.map o3)) [1004] (AV.sl 1004 0 (List.length (r13.map o3))) [(1004, ⟨3, 1, (r13.map o3)⟩)], none⟩]) (rh := []) (ph := .agg [.own, .raw]) (ps := [(decide (v8 < (r5.length : Int))) = false, MeetsR Try.prog 49 [⟨3, 1, (a6.map o3)⟩] [(AV.sl 0 0 (List.length (a6.map o3)))] [false] [⟨3, 1, (a6.map o3)⟩] (AV.own 3 1 (r13.map o3)), (some (Root.mk 3 1 (a6.map o3)) = some (Root.mk 3 1 (a6.map o3))) ∧ True, (treeLL (a6.map o3) = true ∧ noRoLL (a6.map o3) = true) ∧ True, ((a6.map o3).length = (a6.map o3).length) ∧ True, (rtf (renA [] (AV.own 3 1 (r13.map o3))) [1004]).1 = (AV.sl 1004 0 (List.length (r13.map o3))), (rtf (renA [] (AV.own 3 1 (r13.map o3))) [1004]).2.1 = [(1004, ⟨3, 1, (r13.map o3)⟩)], treeLL ((r13.map o3).take (List.length (r13.map o3))) = true, (r13.map o3).take (List.length (r13.map o3)) = (r13.map o3), noRoLL (r13.map o3) = true, (B true) = (B true), litA (B true) = true]) (by kernel_rfl) ⟨c12, (impl_rising_m hr13), ⟨rfl, trivial⟩, ⟨⟨treeM t3, noRoM n3⟩, trivial⟩, ⟨rfl, trivial⟩, rfl, rfl, (treeT t3), takeM, (noRoM n3), rfl, rfl, trivial⟩
noncomputable def impl_RacyCells (p1 : (List GEvent)) : Option ((List Int) × Bool) :=
  Option.bind (impl_GoodTrace p1) fun r2 =>
  if (!r2) = true then
    some ([], false)
  else
    Option.bind (impl_races p1) fun r5 =>
    impl_RacyCells_l0 r5 FU [] r5 0
theorem impl_RacyCells_m {p1 : (List GEvent)} {r : ((List Int) × Bool)} (h : impl_RacyCells p1 = some r) : Meets Try.prog 19 [(AV.ro 5 (p1.map o64))] (AV.tup [(AV.own 3 1 (r.1.map o3)), (B r.2)]) := by
  refine meets_ofC Θ_ok Try.func19 rfl (c := body19) (by kernel_rfl) (Nat.le_of_ble_eq_true rfl) ?_
  intro E hP hn hx
  replace hn : E.n = 26 := hn
  have hm : E.P.follows .mixedOrders = true := by rw [hP]; exact mixed
  have hΘ : TOK E.P Θ := by rw [hP]; exact Θ_ok
  unfold impl_RacyCells at h
  show WAt E body19 (FQ (RetE Θ Try.f19.results.toList [] [] (AV.tup [(AV.own 3 1 (r.1.map o3)), (B r.2)]) E)) [] ⟨[(0, (AV.ro 5 (p1.map o64)))], [], [JJ]⟩
  obtain ⟨r2, hr2, h⟩ := bnS h
  rcases itS h with ⟨c3, h⟩ | ⟨c4, h⟩
  · have h := Option.some.inj h
    subst h
    exact go_ret hΘ hm hP hn (hs := [⟨3, .callV [] (B r2), none⟩, ⟨5, .br true, none⟩]) (rh := []) (ph := .agg [.own, .raw]) (ps := [Meets Try.prog 47 [(AV.ro 5 (p1.map o64))] (B r2), litA (B r2) = true, (!r2) = true, (B false) = (B false), litA (B false) = true]) (by kernel_rfl) ⟨(impl_GoodTrace_m hr2), rfl, c3, rfl, rfl, trivial⟩
  · obtain ⟨r5, hr5, h⟩ := bnS h
    exact go_to hΘ hm hx hP hn (hs := [⟨3, .callV [] (B r2), none⟩, ⟨5, .br false, none⟩, ⟨6, .new 1001, none⟩, ⟨9, .call [] (AV.own 61 3 (r5.map o61)) [1002], none⟩, ⟨10, .no, some (I (r5.length : Int))⟩]) (π := [(1001, 1), (1002, 2)]) (ts := [4, 12, 13, 14]) (kp := []) (ps := [Meets Try.prog 47 [(AV.ro 5 (p1.map o64))] (B r2), litA (B r2) = true, (!r2) = false, Meets Try.prog 48 [(AV.ro 5 (p1.map o64))] (AV.own 61 3 (r5.map o61)), noRo (AV.own 61 3 (r5.map o61)) = true, AV.lit (.int .i64 (((List.length (r5.map o61)) : Nat) : Int)) = (I (r5.length : Int)), RenOK [(1001, 1), (1002, 2)] ([].map o3), RenOK [(1001, 1), (1002, 2)] (r5.map o61)]) (by kernel_rfl) ⟨(impl_GoodTrace_m hr2), rfl, c4, (impl_races_m hr5), (by simp only [noRo, noRoL, noRoM n61, Bool.and_self]), (lenM o61), (rok (treeM t3)), (rok (treeM t61)), trivial⟩ (impl_RacyCells_l0_m hP hn hx r5 FU [] r5 0 _ h)
noncomputable def body50 : Code := match Try.f50.body with | some c => c | none => .skip
noncomputable def laws_eqEvent (p1 : GEvent) (p2 : GEvent) : Option Bool :=
  if (p1.Thread != p2.Thread) = true then
    some false
  else
    if (p1.Kind != p2.Kind) = true then
      some false
    else
      if (p1.Obj != p2.Obj) = true then
        some false
      else
        if (p1.Lock != p2.Lock) = true then
          some false
        else
          if (p1.Pc != p2.Pc) = true then
            some false
          else
            some true
theorem laws_eqEvent_m {p1 : GEvent} {p2 : GEvent} {r : Bool} (h : laws_eqEvent p1 p2 = some r) : Meets Try.prog 50 [(AV.agg ((o64 p1))), (AV.agg ((o64 p2)))] (B r) := by
  refine meets_ofC Θ_ok Try.func50 rfl (c := body50) (by kernel_rfl) (Nat.le_of_ble_eq_true rfl) ?_
  intro E hP hn hx
  replace hn : E.n = 30 := hn
  have hm : E.P.follows .mixedOrders = true := by rw [hP]; exact mixed
  have hΘ : TOK E.P Θ := by rw [hP]; exact Θ_ok
  unfold laws_eqEvent at h
  show WAt E body50 (FQ (RetE Θ Try.f50.results.toList [] [] (B r) E)) [] ⟨[(0, (AV.agg ((o64 p1)))), (1, (AV.agg ((o64 p2))))], [], [JJ]⟩
  rcases itS h with ⟨c3, h⟩ | ⟨c4, h⟩
  · have h := Option.some.inj h
    subst h
    exact go_ret hΘ hm hP hn (hs := [⟨0, .new 1001, none⟩, ⟨1, .new 1002, none⟩, ⟨8, .br true, none⟩]) (rh := []) (ph := .raw) (ps := [(p1.Thread != p2.Thread) = true, (B false) = (B false), litA (B false) = true]) (by kernel_rfl) ⟨c3, rfl, rfl, trivial⟩
  · rcases itS h with ⟨c5, h⟩ | ⟨c6, h⟩
    · have h := Option.some.inj h
      subst h
      exact go_ret hΘ hm hP hn (hs := [⟨0, .new 1001, none⟩, ⟨1, .new 1002, none⟩, ⟨8, .br false, none⟩, ⟨14, .br true, none⟩]) (rh := []) (ph := .raw) (ps := [(p1.Thread != p2.Thread) = false, (p1.Kind != p2.Kind) = true, (B false) = (B false), litA (B false) = true]) (by kernel_rfl) ⟨c4, c5, rfl, rfl, trivial⟩
    · rcases itS h with ⟨c7, h⟩ | ⟨c8, h⟩
      · have h := Option.some.inj h
        subst h
        exact go_ret hΘ hm hP hn (hs := [⟨0, .new 1001, none⟩, ⟨1, .new 1002, none⟩, ⟨8, .br false, none⟩, ⟨14, .br false, none⟩, ⟨20, .br true, none⟩]) (rh := []) (ph := .raw) (ps := [(p1.Thread != p2.Thread) = false, (p1.Kind != p2.Kind) = false, (p1.Obj != p2.Obj) = true, (B false) = (B false), litA (B false) = true]) (by kernel_rfl) ⟨c4, c6, c7, rfl, rfl, trivial⟩
      · rcases itS h with ⟨c9, h⟩ | ⟨c10, h⟩
        · have h := Option.some.inj h
          subst h
          exact go_ret hΘ hm hP hn (hs := [⟨0, .new 1001, none⟩, ⟨1, .new 1002, none⟩, ⟨8, .br false, none⟩, ⟨14, .br false, none⟩, ⟨20, .br false, none⟩, ⟨26, .br true, none⟩]) (rh := []) (ph := .raw) (ps := [(p1.Thread != p2.Thread) = false, (p1.Kind != p2.Kind) = false, (p1.Obj != p2.Obj) = false, (p1.Lock != p2.Lock) = true, (B false) = (B false), litA (B false) = true]) (by kernel_rfl) ⟨c4, c6, c8, c9, rfl, rfl, trivial⟩
        · rcases itS h with ⟨c11, h⟩ | ⟨c12, h⟩
          · have h := Option.some.inj h
            subst h
            exact go_ret hΘ hm hP hn (hs := [⟨0, .new 1001, none⟩, ⟨1, .new 1002, none⟩, ⟨8, .br false, none⟩, ⟨14, .br false, none⟩, ⟨20, .br false, none⟩, ⟨26, .br false, none⟩, ⟨32, .br true, none⟩]) (rh := []) (ph := .raw) (ps := [(p1.Thread != p2.Thread) = false, (p1.Kind != p2.Kind) = false, (p1.Obj != p2.Obj) = false, (p1.Lock != p2.Lock) = false, (p1.Pc != p2.Pc) = true, (B false) = (B false), litA (B false) = true]) (by kernel_rfl) ⟨c4, c6, c8, c10, c11, rfl, rfl, trivial⟩
          · have h := Option.some.inj h
            subst h
            exact go_ret hΘ hm hP hn (hs := [⟨0, .new 1001, none⟩, ⟨1, .new 1002, none⟩, ⟨8, .br false, none⟩, ⟨14, .br false, none⟩, ⟨20, .br false, none⟩, ⟨26, .br false, none⟩, ⟨32, .br false, none⟩]) (rh := []) (ph := .raw) (ps := [(p1.Thread != p2.Thread) = false, (p1.Kind != p2.Kind) = false, (p1.Obj != p2.Obj) = false, (p1.Lock != p2.Lock) = false, (p1.Pc != p2.Pc) = false, (B true) = (B true), litA (B true) = true]) (by kernel_rfl) ⟨c4, c6, c8, c10, c12, rfl, rfl, trivial⟩
noncomputable def body21 : Code := match Try.f21.body with | some c => c | none => .skip
noncomputable def laws_eqEventS_l0  (p1 : (List GEvent)) (p2 : (List GEvent)) : Nat → Int → Option Bool
  | 0, _ => none
  | n + 1, v5 =>
  if (decide (v5 < (p1.length : Int))) = true then
    Option.bind (rd p1 v5) fun x7 =>
    Option.bind (rd p2 v5) fun x8 =>
    Option.bind (laws_eqEvent x7 x8) fun r9 =>
    if (!r9) = true then
      some false
    else
      laws_eqEventS_l0 p1 p2 n (w64 (v5 + 1))
  else
    some true
theorem laws_eqEventS_l0_m {E : Env} (hP : E.P = Try.prog) (hn : E.n = 27) (hx : ∀ p, p ∈ E.fx → p.1 ∈ ([] : List Nat)) (p1 : (List GEvent)) (p2 : (List GEvent))  : ∀ (n : Nat) (v5 : Int) (r : Bool), laws_eqEventS_l0 p1 p2 n v5 = some r → WAt E body21 (FQ (RetE Θ Try.f21.results.toList [] [] (B r) E)) [true, true, false, true, false] ⟨[(0, (AV.ro 5 (p1.map o64))), (1, (AV.ro 5 (p2.map o64))), (5, (I v5))], [], [JJ]⟩ := by
  have hm : E.P.follows .mixedOrders = true := by rw [hP]; exact mixed
  have hΘ : TOK E.P Θ := by rw [hP]; exact Θ_ok
  intro n
  induction n with
  | zero => intro v5 r h; simp only [laws_eqEventS_l0] at h; cases h
  | succ n ih =>
    intro v5 r h
    simp only [laws_eqEventS_l0] at h
    rcases itS h with ⟨c6, h⟩ | ⟨c12, h⟩
    · obtain ⟨x7, hx7, h⟩ := bnS h
      obtain ⟨x8, hx8, h⟩ := bnS h
      obtain ⟨r9, hr9, h⟩ := bnS h
      rcases itS h with ⟨c10, h⟩ | ⟨c11, h⟩
      · have h := Option.some.inj h
        subst h
        exact go_ret hΘ hm hP hn (hs := [⟨2, .no, some (I (p1.length : Int))⟩, ⟨4, .br true, none⟩, ⟨7, .row (o64 x7), none⟩, ⟨11, .row (o64 x8), none⟩, ⟨13, .callV [[], []] (B r9), none⟩, ⟨15, .br true, none⟩]) (rh := []) (ph := .raw) (ps := [AV.lit (.int .i64 (((p1.map o64).length : Nat) : Int)) = (I (p1.length : Int)), (decide (v5 < (p1.length : Int))) = true, (0 : Int) ≤ v5, (p1.map o64)[(Int.toNat v5)]? = some (o64 x7), (0 : Int) ≤ v5, (p2.map o64)[(Int.toNat v5)]? = some (o64 x8), Meets Try.prog 50 [(AV.agg ((o64 x7))), (AV.agg ((o64 x8)))] (B r9), litA (B r9) = true, (!r9) = true, (B false) = (B false), litA (B false) = true]) (by kernel_rfl) ⟨(lenM o64), c6, (rd0 hx7), (rdM o64 hx7), (rd0 hx8), (rdM o64 hx8), (laws_eqEvent_m hr9), rfl, c10, rfl, rfl, trivial⟩
      · exact go_to hΘ hm hx hP hn (hs := [⟨2, .no, some (I (p1.length : Int))⟩, ⟨4, .br true, none⟩, ⟨7, .row (o64 x7), none⟩, ⟨11, .row (o64 x8), none⟩, ⟨13, .callV [[], []] (B r9), none⟩, ⟨15, .br false, none⟩]) (π := []) (ts := [0, 1, 5]) (kp := []) (ps := [AV.lit (.int .i64 (((p1.map o64).length : Nat) : Int)) = (I (p1.length : Int)), (decide (v5 < (p1.length : Int))) = true, (0 : Int) ≤ v5, (p1.map o64)[(Int.toNat v5)]? = some (o64 x7), (0 : Int) ≤ v5, (p2.map o64)[(Int.toNat v5)]? = some (o64 x8), Meets Try.prog 50 [(AV.agg ((o64 x7))), (AV.agg ((o64 x8)))] (B r9), litA (B r9) = true, (!r9) = false]) (by kernel_rfl) ⟨(lenM o64), c6, (rd0 hx7), (rdM o64 hx7), (rd0 hx8), (rdM o64 hx8), (laws_eqEvent_m hr9), rfl, c11, trivial⟩ (ih (w64 (v5 + 1)) _ h)
    · have h := Option.some.inj h
      subst h
      exact go_ret hΘ hm hP hn (hs := [⟨2, .no, some (I (p1.length : Int))⟩, ⟨4, .br false, none⟩]) (rh := []) (ph := .raw) (ps := [AV.lit (.int .i64 (((p1.map o64).length : Nat) : Int)) = (I (p1.length : Int)), (decide (v5 < (p1.length : Int))) = false, (B true) = (B true), litA (B true) = true]) (by kernel_rfl) ⟨(lenM o64), c12, rfl, rfl, trivial⟩
noncomputable def laws_eqEventS (p1 : (List GEvent)) (p2 : (List GEvent)) : Option Bool :=
  if ((p1.length : Int) != (p2.length : Int)) = true then
    some false
  else
    laws_eqEventS_l0 p1 p2 FU 0
theorem laws_eqEventS_m {p1 : (List GEvent)} {p2 : (List GEvent)} {r : Bool} (h : laws_eqEventS p1 p2 = some r) : Meets Try.prog 21 [(AV.ro 5 (p1.map o64)), (AV.ro 5 (p2.map o64))] (B r) := by
  refine meets_ofC Θ_ok Try.func21 rfl (c := body21) (by kernel_rfl) (Nat.le_of_ble_eq_true rfl) ?_
  intro E hP hn hx
  replace hn : E.n = 27 := hn
  have hm : E.P.follows .mixedOrders = true := by rw [hP]; exact mixed
  have hΘ : TOK E.P Θ := by rw [hP]; exact Θ_ok
  unfold laws_eqEventS at h
  show WAt E body21 (FQ (RetE Θ Try.f21.results.toList [] [] (B r) E)) [] ⟨[(0, (AV.ro 5 (p1.map o64))), (1, (AV.ro 5 (p2.map o64)))], [], [JJ]⟩
  rcases itS h with ⟨c3, h⟩ | ⟨c4, h⟩
  · have h := Option.some.inj h
    subst h
    exact go_ret hΘ hm hP hn (hs := [⟨2, .no, some (I (p1.length : Int))⟩, ⟨4, .no, some (I (p2.length : Int))⟩, ⟨6, .br true, none⟩]) (rh := []) (ph := .raw) (ps := [AV.lit (.int .i64 (((p1.map o64).length : Nat) : Int)) = (I (p1.length : Int)), AV.lit (.int .i64 (((p2.map o64).length : Nat) : Int)) = (I (p2.length : Int)), ((p1.length : Int) != (p2.length : Int)) = true, (B false) = (B false), litA (B false) = true]) (by kernel_rfl) ⟨(lenM o64), (lenM o64), c3, rfl, rfl, trivial⟩
  · exact go_to hΘ hm hx hP hn (hs := [⟨2, .no, some (I (p1.length : Int))⟩, ⟨4, .no, some (I (p2.length : Int))⟩, ⟨6, .br false, none⟩]) (π := []) (ts := [0, 1, 5]) (kp := []) (ps := [AV.lit (.int .i64 (((p1.map o64).length : Nat) : Int)) = (I (p1.length : Int)), AV.lit (.int .i64 (((p2.map o64).length : Nat) : Int)) = (I (p2.length : Int)), ((p1.length : Int) != (p2.length : Int)) = false]) (by kernel_rfl) ⟨(lenM o64), (lenM o64), c4, trivial⟩ (laws_eqEventS_l0_m hP hn hx p1 p2 FU 0 _ h)
noncomputable def body20 : Code := match Try.f20.body with | some c => c | none => .skip
noncomputable def laws_eqIntS_l0  (p1 : (List Int)) (p2 : (List Int)) : Nat → Int → Option Bool
  | 0, _ => none
  | n + 1, v5 =>
  if (decide (v5 < (p1.length : Int))) = true then
    Option.bind (rd p1 v5) fun x7 =>
    Option.bind (rd p2 v5) fun x8 =>
    if (x7 != x8) = true then
      some false
    else
      laws_eqIntS_l0 p1 p2 n (w64 (v5 + 1))
  else
    some true
theorem laws_eqIntS_l0_m {E : Env} (hP : E.P = Try.prog) (hn : E.n = 26) (hx : ∀ p, p ∈ E.fx → p.1 ∈ ([] : List Nat)) (p1 : (List Int)) (p2 : (List Int))  : ∀ (n : Nat) (v5 : Int) (r : Bool), laws_eqIntS_l0 p1 p2 n v5 = some r → WAt E body20 (FQ (RetE Θ Try.f20.results.toList [] [] (B r) E)) [true, true, false, true, false] ⟨[(0, (AV.ro 1 (p1.map o3))), (1, (AV.ro 1 (p2.map o3))), (5, (I v5))], [], [JJ]⟩ := by
  have hm : E.P.follows .mixedOrders = true := by rw [hP]; exact mixed
  have hΘ : TOK E.P Θ := by rw [hP]; exact Θ_ok
  intro n
  induction n with
  | zero => intro v5 r h; simp only [laws_eqIntS_l0] at h; cases h
  | succ n ih =>
    intro v5 r h
    simp only [laws_eqIntS_l0] at h
    rcases itS h with ⟨c6, h⟩ | ⟨c11, h⟩
    · obtain ⟨x7, hx7, h⟩ := bnS h
      obtain ⟨x8, hx8, h⟩ := bnS h
      rcases itS h with ⟨c9, h⟩ | ⟨c10, h⟩
      · have h := Option.some.inj h
        subst h
        exact go_ret hΘ hm hP hn (hs := [⟨2, .no, some (I (p1.length : Int))⟩, ⟨4, .br true, none⟩, ⟨7, .row (o3 x7), none⟩, ⟨11, .row (o3 x8), none⟩, ⟨14, .br true, none⟩]) (rh := []) (ph := .raw) (ps := [AV.lit (.int .i64 (((p1.map o3).length : Nat) : Int)) = (I (p1.length : Int)), (decide (v5 < (p1.length : Int))) = true, (0 : Int) ≤ v5, (p1.map o3)[(Int.toNat v5)]? = some (o3 x7), (0 : Int) ≤ v5, (p2.map o3)[(Int.toNat v5)]? = some (o3 x8), (x7 != x8) = true, (B false) = (B false), litA (B false) = true]) (by kernel_rfl) ⟨(lenM o3), c6, (rd0 hx7), (rdM o3 hx7), (rd0 hx8), (rdM o3 hx8), c9, rfl, rfl, trivial⟩
      · exact go_to hΘ hm hx hP hn (hs := [⟨2, .no, some (I (p1.length : Int))⟩, ⟨4, .br true, none⟩, ⟨7, .row (o3 x7), none⟩, ⟨11, .row (o3 x8), none⟩, ⟨14, .br false, none⟩]) (π := []) (ts := [0, 1, 5]) (kp := []) (ps := [AV.lit (.int .i64 (((p1.map o3).length : Nat) : Int)) = (I (p1.length : Int)), (decide (v5 < (p1.length : Int))) = true, (0 : Int) ≤ v5, (p1.map o3)[(Int.toNat v5)]? = some (o3 x7), (0 : Int) ≤ v5, (p2.map o3)[(Int.toNat v5)]? = some (o3 x8), (x7 != x8) = false]) (by kernel_rfl) ⟨(lenM o3), c6, (rd0 hx7), (rdM o3 hx7), (rd0 hx8), (rdM o3 hx8), c10, trivial⟩ (ih (w64 (v5 + 1)) _ h)
    · have h := Option.some.inj h
      subst h
      exact go_ret hΘ hm hP hn (hs := [⟨2, .no, some (I (p1.length : Int))⟩, ⟨4, .br false, none⟩]) (rh := []) (ph := .raw) (ps := [AV.lit (.int .i64 (((p1.map o3).length : Nat) : Int)) = (I (p1.length : Int)), (decide (v5 < (p1.length : Int))) = false, (B true) = (B true), litA (B true) = true]) (by kernel_rfl) ⟨(lenM o3), c11, rfl, rfl, trivial⟩
noncomputable def laws_eqIntS (p1 : (List Int)) (p2 : (List Int)) : Option Bool :=
  if ((p1.length : Int) != (p2.length : Int)) = true then
    some false
  else
    laws_eqIntS_l0 p1 p2 FU 0
theorem laws_eqIntS_m {p1 : (List Int)} {p2 : (List Int)} {r : Bool} (h : laws_eqIntS p1 p2 = some r) : Meets Try.prog 20 [(AV.ro 1 (p1.map o3)), (AV.ro 1 (p2.map o3))] (B r) := by
  refine meets_ofC Θ_ok Try.func20 rfl (c := body20) (by kernel_rfl) (Nat.le_of_ble_eq_true rfl) ?_
  intro E hP hn hx
  replace hn : E.n = 26 := hn
  have hm : E.P.follows .mixedOrders = true := by rw [hP]; exact mixed
  have hΘ : TOK E.P Θ := by rw [hP]; exact Θ_ok
  unfold laws_eqIntS at h
  show WAt E body20 (FQ (RetE Θ Try.f20.results.toList [] [] (B r) E)) [] ⟨[(0, (AV.ro 1 (p1.map o3))), (1, (AV.ro 1 (p2.map o3)))], [], [JJ]⟩
  rcases itS h with ⟨c3, h⟩ | ⟨c4, h⟩
  · have h := Option.some.inj h
    subst h
    exact go_ret hΘ hm hP hn (hs := [⟨2, .no, some (I (p1.length : Int))⟩, ⟨4, .no, some (I (p2.length : Int))⟩, ⟨6, .br true, none⟩]) (rh := []) (ph := .raw) (ps := [AV.lit (.int .i64 (((p1.map o3).length : Nat) : Int)) = (I (p1.length : Int)), AV.lit (.int .i64 (((p2.map o3).length : Nat) : Int)) = (I (p2.length : Int)), ((p1.length : Int) != (p2.length : Int)) = true, (B false) = (B false), litA (B false) = true]) (by kernel_rfl) ⟨(lenM o3), (lenM o3), c3, rfl, rfl, trivial⟩
  · exact go_to hΘ hm hx hP hn (hs := [⟨2, .no, some (I (p1.length : Int))⟩, ⟨4, .no, some (I (p2.length : Int))⟩, ⟨6, .br false, none⟩]) (π := []) (ts := [0, 1, 5]) (kp := []) (ps := [AV.lit (.int .i64 (((p1.map o3).length : Nat) : Int)) = (I (p1.length : Int)), AV.lit (.int .i64 (((p2.map o3).length : Nat) : Int)) = (I (p2.length : Int)), ((p1.length : Int) != (p2.length : Int)) = false]) (by kernel_rfl) ⟨(lenM o3), (lenM o3), c4, trivial⟩ (laws_eqIntS_l0_m hP hn hx p1 p2 FU 0 _ h)
noncomputable def body24 : Code := match Try.f24.body with | some c => c | none => .skip
noncomputable def laws_heldIntS_l0  (p1 : (List Int)) : Nat → Int → Int → Option Int
  | 0, _, _ => none
  | n + 1, v3, v4 =>
  if (decide (v4 < (p1.length : Int))) = true then
    Option.bind (rd p1 v4) fun x6 =>
    if (x6 != v3) = true then
      some (-1)
    else
      laws_heldIntS_l0 p1 n (w64 (v3 + 1)) (w64 (v4 + 1))
  else
    some v3
theorem laws_heldIntS_l0_m {E : Env} (hP : E.P = Try.prog) (hn : E.n = 21) (hx : ∀ p, p ∈ E.fx → p.1 ∈ ([] : List Nat)) (p1 : (List Int))  : ∀ (n : Nat) (v3 : Int) (v4 : Int) (r : Int), laws_heldIntS_l0 p1 n v3 v4 = some r → WAt E body24 (FQ (RetE Θ Try.f24.results.toList [] [] (I r) E)) [true, false, true, false] ⟨[(0, (AV.ro 1 (p1.map o3))), (1, (I v3)), (5, (I v4))], [], [JJ]⟩ := by
  have hm : E.P.follows .mixedOrders = true := by rw [hP]; exact mixed
  have hΘ : TOK E.P Θ := by rw [hP]; exact Θ_ok
  intro n
  induction n with
  | zero => intro v3 v4 r h; simp only [laws_heldIntS_l0] at h; cases h
  | succ n ih =>
    intro v3 v4 r h
    simp only [laws_heldIntS_l0] at h
    rcases itS h with ⟨c5, h⟩ | ⟨c9, h⟩
    · obtain ⟨x6, hx6, h⟩ := bnS h
      rcases itS h with ⟨c7, h⟩ | ⟨c8, h⟩
      · have h := Option.some.inj h
        subst h
        exact go_ret hΘ hm hP hn (hs := [⟨2, .no, some (I (p1.length : Int))⟩, ⟨4, .br true, none⟩, ⟨7, .row (o3 x6), none⟩, ⟨11, .br true, none⟩]) (rh := []) (ph := .raw) (ps := [AV.lit (.int .i64 (((p1.map o3).length : Nat) : Int)) = (I (p1.length : Int)), (decide (v4 < (p1.length : Int))) = true, (0 : Int) ≤ v4, (p1.map o3)[(Int.toNat v4)]? = some (o3 x6), (x6 != v3) = true, (I (-1)) = (I (-1)), litA (I (-1)) = true]) (by kernel_rfl) ⟨(lenM o3), c5, (rd0 hx6), (rdM o3 hx6), c7, rfl, rfl, trivial⟩
      · exact go_to hΘ hm hx hP hn (hs := [⟨2, .no, some (I (p1.length : Int))⟩, ⟨4, .br true, none⟩, ⟨7, .row (o3 x6), none⟩, ⟨11, .br false, none⟩]) (π := []) (ts := [0, 1, 5]) (kp := []) (ps := [AV.lit (.int .i64 (((p1.map o3).length : Nat) : Int)) = (I (p1.length : Int)), (decide (v4 < (p1.length : Int))) = true, (0 : Int) ≤ v4, (p1.map o3)[(Int.toNat v4)]? = some (o3 x6), (x6 != v3) = false]) (by kernel_rfl) ⟨(lenM o3), c5, (rd0 hx6), (rdM o3 hx6), c8, trivial⟩ (ih (w64 (v3 + 1)) (w64 (v4 + 1)) _ h)
    · have h := Option.some.inj h
      subst h
      exact go_ret hΘ hm hP hn (hs := [⟨2, .no, some (I (p1.length : Int))⟩, ⟨4, .br false, none⟩]) (rh := []) (ph := .raw) (ps := [AV.lit (.int .i64 (((p1.map o3).length : Nat) : Int)) = (I (p1.length : Int)), (decide (v4 < (p1.length : Int))) = false, (I v3) = (I v3), litA (I v3) = true]) (by kernel_rfl) ⟨(lenM o3), c9, rfl, rfl, trivial⟩
noncomputable def laws_heldIntS (p1 : (List Int)) (p2 : Int) : Option Int :=
  laws_heldIntS_l0 p1 FU p2 0
theorem laws_heldIntS_m {p1 : (List Int)} {p2 : Int} {r : Int} (h : laws_heldIntS p1 p2 = some r) : Meets Try.prog 24 [(AV.ro 1 (p1.map o3)), (I p2)] (I r) := by
  refine meets_ofC Θ_ok Try.func24 rfl (c := body24) (by kernel_rfl) (Nat.le_of_ble_eq_true rfl) ?_
  intro E hP hn hx
  replace hn : E.n = 21 := hn
  have hm : E.P.follows .mixedOrders = true := by rw [hP]; exact mixed
  have hΘ : TOK E.P Θ := by rw [hP]; exact Θ_ok
  unfold laws_heldIntS at h
  show WAt E body24 (FQ (RetE Θ Try.f24.results.toList [] [] (I r) E)) [] ⟨[(0, (AV.ro 1 (p1.map o3))), (1, (I p2))], [], [JJ]⟩
  exact go_to hΘ hm hx hP hn (hs := []) (π := []) (ts := [0, 1, 5]) (kp := []) (ps := []) (by kernel_rfl) trivial (laws_heldIntS_l0_m hP hn hx p1 FU p2 0 _ h)
noncomputable def body22 : Code := match Try.f22.body with | some c => c | none => .skip
noncomputable def laws_markEventS_l0   : Nat → (List GEvent) → Int → Int → Option (Int × (List GEvent))
  | 0, _, _, _ => none
  | n + 1, a3, v4, v5 =>
  if (decide (v5 < (a3.length : Int))) = true then
    Option.bind (rd a3 v5) fun x7 =>
    laws_markEventS_l0 n (a3.set (Int.toNat v5) (GEvent.mk v4 (w64 (v4 + 1)) (w64 ((w64 (v4 + 1)) + 1)) (w64 ((w64 ((w64 (v4 + 1)) + 1)) + 1)) (w64 ((w64 ((w64 ((w64 (v4 + 1)) + 1)) + 1)) + 1)))) (w64 ((w64 ((w64 ((w64 ((w64 (v4 + 1)) + 1)) + 1)) + 1)) + 1)) (w64 (v5 + 1))
  else
    some (v4, a3)
theorem laws_markEventS_l0_m {E : Env} (hP : E.P = Try.prog) (hn : E.n = 48) (hx : ∀ p, p ∈ E.fx → p.1 ∈ ([0] : List Nat))   : ∀ (n : Nat) (a3 : (List GEvent)) (v4 : Int) (v5 : Int) (r : (Int × (List GEvent))), laws_markEventS_l0  n a3 v4 v5 = some r → WAt E body22 (FQ (RetE Θ Try.f22.results.toList [true] [⟨64, 5, (r.2.map o64)⟩] (I r.1) E)) [true, false, true, false] ⟨[(0, (AV.sl 0 0 (List.length (a3.map o64)))), (1, (I v4)), (5, (I v5))], [(0, some ⟨64, 5, (a3.map o64)⟩)], [0, JJ]⟩ := by
  have hm : E.P.follows .mixedOrders = true := by rw [hP]; exact mixed
  have hΘ : TOK E.P Θ := by rw [hP]; exact Θ_ok
  intro n
  induction n with
  | zero => intro a3 v4 v5 r h; simp only [laws_markEventS_l0] at h; cases h
  | succ n ih =>
    intro a3 v4 v5 r h
    simp only [laws_markEventS_l0] at h
    rcases itS h with ⟨c6, h⟩ | ⟨c8, h⟩
    · obtain ⟨x7, hx7, h⟩ := bnS h
      exact go_to hΘ hm hx hP hn (hs := [⟨2, .no, some (I (a3.length : Int))⟩, ⟨4, .br true, none⟩, ⟨10, .sto ((o64 x7)) ((a3.set (Int.toNat v5) (GEvent.mk v4 x7.Kind x7.Obj x7.Lock x7.Pc)).map o64), none⟩, ⟨14, .slen 0 (List.length ((a3.set (Int.toNat v5) (GEvent.mk v4 x7.Kind x7.Obj x7.Lock x7.Pc)).map o64)), none⟩, ⟨19, .sto [(I v4), (I x7.Kind), (I x7.Obj), (I x7.Lock), (I x7.Pc)] ((a3.set (Int.toNat v5) (GEvent.mk v4 (w64 (v4 + 1)) x7.Obj x7.Lock x7.Pc)).map o64), none⟩, ⟨23, .slen 0 (List.length ((a3.set (Int.toNat v5) (GEvent.mk v4 (w64 (v4 + 1)) x7.Obj x7.Lock x7.Pc)).map o64)), none⟩, ⟨28, .sto [(I v4), (I (w64 (v4 + 1))), (I x7.Obj), (I x7.Lock), (I x7.Pc)] ((a3.set (Int.toNat v5) (GEvent.mk v4 (w64 (v4 + 1)) (w64 ((w64 (v4 + 1)) + 1)) x7.Lock x7.Pc)).map o64), none⟩, ⟨32, .slen 0 (List.length ((a3.set (Int.toNat v5) (GEvent.mk v4 (w64 (v4 + 1)) (w64 ((w64 (v4 + 1)) + 1)) x7.Lock x7.Pc)).map o64)), none⟩, ⟨37, .sto [(I v4), (I (w64 (v4 + 1))), (I (w64 ((w64 (v4 + 1)) + 1))), (I x7.Lock), (I x7.Pc)] ((a3.set (Int.toNat v5) (GEvent.mk v4 (w64 (v4 + 1)) (w64 ((w64 (v4 + 1)) + 1)) (w64 ((w64 ((w64 (v4 + 1)) + 1)) + 1)) x7.Pc)).map o64), none⟩, ⟨41, .slen 0 (List.length ((a3.set (Int.toNat v5) (GEvent.mk v4 (w64 (v4 + 1)) (w64 ((w64 (v4 + 1)) + 1)) (w64 ((w64 ((w64 (v4 + 1)) + 1)) + 1)) x7.Pc)).map o64)), none⟩, ⟨46, .sto [(I v4), (I (w64 (v4 + 1))), (I (w64 ((w64 (v4 + 1)) + 1))), (I (w64 ((w64 ((w64 (v4 + 1)) + 1)) + 1))), (I x7.Pc)] ((a3.set (Int.toNat v5) (GEvent.mk v4 (w64 (v4 + 1)) (w64 ((w64 (v4 + 1)) + 1)) (w64 ((w64 ((w64 (v4 + 1)) + 1)) + 1)) (w64 ((w64 ((w64 ((w64 (v4 + 1)) + 1)) + 1)) + 1)))).map o64), none⟩, ⟨53, .slen 0 (List.length ((a3.set (Int.toNat v5) (GEvent.mk v4 (w64 (v4 + 1)) (w64 ((w64 (v4 + 1)) + 1)) (w64 ((w64 ((w64 (v4 + 1)) + 1)) + 1)) (w64 ((w64 ((w64 ((w64 (v4 + 1)) + 1)) + 1)) + 1)))).map o64)), none⟩]) (π := [(0, 0)]) (ts := [0, 1, 5]) (kp := []) (ps := [AV.lit (.int .i64 (((List.length (a3.map o64)) : Nat) : Int)) = (I (a3.length : Int)), (decide (v5 < (a3.length : Int))) = true, (0 : Int) ≤ v5, v5 < (((List.length (a3.map o64)) : Nat) : Int), (a3.map o64)[(Int.toNat v5)]? = some ((o64 x7)), (a3.map o64).set (Int.toNat v5) (wr ((o64 x7)) 0 [(I v4)]) = ((a3.set (Int.toNat v5) (GEvent.mk v4 x7.Kind x7.Obj x7.Lock x7.Pc)).map o64), [(I v4)].length = 1, 0 + [(I v4)].length ≤ ((o64 x7)).length, (List.length (a3.map o64)) = (List.length ((a3.set (Int.toNat v5) (GEvent.mk v4 x7.Kind x7.Obj x7.Lock x7.Pc)).map o64)), (0 : Int) ≤ v5, v5 < (((List.length ((a3.set (Int.toNat v5) (GEvent.mk v4 x7.Kind x7.Obj x7.Lock x7.Pc)).map o64)) : Nat) : Int), ((a3.set (Int.toNat v5) (GEvent.mk v4 x7.Kind x7.Obj x7.Lock x7.Pc)).map o64)[(Int.toNat v5)]? = some [(I v4), (I x7.Kind), (I x7.Obj), (I x7.Lock), (I x7.Pc)], ((a3.set (Int.toNat v5) (GEvent.mk v4 x7.Kind x7.Obj x7.Lock x7.Pc)).map o64).set (Int.toNat v5) (wr [(I v4), (I x7.Kind), (I x7.Obj), (I x7.Lock), (I x7.Pc)] 1 [(I (w64 (v4 + 1)))]) = ((a3.set (Int.toNat v5) (GEvent.mk v4 (w64 (v4 + 1)) x7.Obj x7.Lock x7.Pc)).map o64), [(I (w64 (v4 + 1)))].length = 1, 1 + [(I (w64 (v4 + 1)))].length ≤ [(I v4), (I x7.Kind), (I x7.Obj), (I x7.Lock), (I x7.Pc)].length, (List.length ((a3.set (Int.toNat v5) (GEvent.mk v4 x7.Kind x7.Obj x7.Lock x7.Pc)).map o64)) = (List.length ((a3.set (Int.toNat v5) (GEvent.mk v4 (w64 (v4 + 1)) x7.Obj x7.Lock x7.Pc)).map o64)), (0 : Int) ≤ v5, v5 < (((List.length ((a3.set (Int.toNat v5) (GEvent.mk v4 (w64 (v4 + 1)) x7.Obj x7.Lock x7.Pc)).map o64)) : Nat) : Int), ((a3.set (Int.toNat v5) (GEvent.mk v4 (w64 (v4 + 1)) x7.Obj x7.Lock x7.Pc)).map o64)[(Int.toNat v5)]? = some [(I v4), (I (w64 (v4 + 1))), (I x7.Obj), (I x7.Lock), (I x7.Pc)], ((a3.set (Int.toNat v5) (GEvent.mk v4 (w64 (v4 + 1)) x7.Obj x7.Lock x7.Pc)).map o64).set (Int.toNat v5) (wr [(I v4), (I (w64 (v4 + 1))), (I x7.Obj), (I x7.Lock), (I x7.Pc)] 2 [(I (w64 ((w64 (v4 + 1)) + 1)))]) = ((a3.set (Int.toNat v5) (GEvent.mk v4 (w64 (v4 + 1)) (w64 ((w64 (v4 + 1)) + 1)) x7.Lock x7.Pc)).map o64), [(I (w64 ((w64 (v4 + 1)) + 1)))].length = 1, 2 + [(I (w64 ((w64 (v4 + 1)) + 1)))].length ≤ [(I v4), (I (w64 (v4 + 1))), (I x7.Obj), (I x7.Lock), (I x7.Pc)].length, (List.length ((a3.set (Int.toNat v5) (GEvent.mk v4 (w64 (v4 + 1)) x7.Obj x7.Lock x7.Pc)).map o64)) = (List.length ((a3.set (Int.toNat v5) (GEvent.mk v4 (w64 (v4 + 1)) (w64 ((w64 (v4 + 1)) + 1)) x7.Lock x7.Pc)).map o64)), (0 : Int) ≤ v5, v5 < (((List.length ((a3.set (Int.toNat v5) (GEvent.mk v4 (w64 (v4 + 1)) (w64 ((w64 (v4 + 1)) + 1)) x7.Lock x7.Pc)).map o64)) : Nat) : Int), ((a3.set (Int.toNat v5) (GEvent.mk v4 (w64 (v4 + 1)) (w64 ((w64 (v4 + 1)) + 1)) x7.Lock x7.Pc)).map o64)[(Int.toNat v5)]? = some [(I v4), (I (w64 (v4 + 1))), (I (w64 ((w64 (v4 + 1)) + 1))), (I x7.Lock), (I x7.Pc)], ((a3.set (Int.toNat v5) (GEvent.mk v4 (w64 (v4 + 1)) (w64 ((w64 (v4 + 1)) + 1)) x7.Lock x7.Pc)).map o64).set (Int.toNat v5) (wr [(I v4), (I (w64 (v4 + 1))), (I (w64 ((w64 (v4 + 1)) + 1))), (I x7.Lock), (I x7.Pc)] 3 [(I (w64 ((w64 ((w64 (v4 + 1)) + 1)) + 1)))]) = ((a3.set (Int.toNat v5) (GEvent.mk v4 (w64 (v4 + 1)) (w64 ((w64 (v4 + 1)) + 1)) (w64 ((w64 ((w64 (v4 + 1)) + 1)) + 1)) x7.Pc)).map o64), [(I (w64 ((w64 ((w64 (v4 + 1)) + 1)) + 1)))].length = 1, 3 + [(I (w64 ((w64 ((w64 (v4 + 1)) + 1)) + 1)))].length ≤ [(I v4), (I (w64 (v4 + 1))), (I (w64 ((w64 (v4 + 1)) + 1))), (I x7.Lock), (I x7.Pc)].length, (List.length ((a3.set (Int.toNat v5) (GEvent.mk v4 (w64 (v4 + 1)) (w64 ((w64 (v4 + 1)) + 1)) x7.Lock x7.Pc)).map o64)) = (List.length ((a3.set (Int.toNat v5) (GEvent.mk v4 (w64 (v4 + 1)) (w64 ((w64 (v4 + 1)) + 1)) (w64 ((w64 ((w64 (v4 + 1)) + 1)) + 1)) x7.Pc)).map o64)), (0 : Int) ≤ v5, v5 < (((List.length ((a3.set (Int.toNat v5) (GEvent.mk v4 (w64 (v4 + 1)) (w64 ((w64 (v4 + 1)) + 1)) (w64 ((w64 ((w64 (v4 + 1)) + 1)) + 1)) x7.Pc)).map o64)) : Nat) : Int), ((a3.set (Int.toNat v5) (GEvent.mk v4 (w64 (v4 + 1)) (w64 ((w64 (v4 + 1)) + 1)) (w64 ((w64 ((w64 (v4 + 1)) + 1)) + 1)) x7.Pc)).map o64)[(Int.toNat v5)]? = some [(I v4), (I (w64 (v4 + 1))), (I (w64 ((w64 (v4 + 1)) + 1))), (I (w64 ((w64 ((w64 (v4 + 1)) + 1)) + 1))), (I x7.Pc)], ((a3.set (Int.toNat v5) (GEvent.mk v4 (w64 (v4 + 1)) (w64 ((w64 (v4 + 1)) + 1)) (w64 ((w64 ((w64 (v4 + 1)) + 1)) + 1)) x7.Pc)).map o64).set (Int.toNat v5) (wr [(I v4), (I (w64 (v4 + 1))), (I (w64 ((w64 (v4 + 1)) + 1))), (I (w64 ((w64 ((w64 (v4 + 1)) + 1)) + 1))), (I x7.Pc)] 4 [(I (w64 ((w64 ((w64 ((w64 (v4 + 1)) + 1)) + 1)) + 1)))]) = ((a3.set (Int.toNat v5) (GEvent.mk v4 (w64 (v4 + 1)) (w64 ((w64 (v4 + 1)) + 1)) (w64 ((w64 ((w64 (v4 + 1)) + 1)) + 1)) (w64 ((w64 ((w64 ((w64 (v4 + 1)) + 1)) + 1)) + 1)))).map o64), [(I (w64 ((w64 ((w64 ((w64 (v4 + 1)) + 1)) + 1)) + 1)))].length = 1, 4 + [(I (w64 ((w64 ((w64 ((w64 (v4 + 1)) + 1)) + 1)) + 1)))].length ≤ [(I v4), (I (w64 (v4 + 1))), (I (w64 ((w64 (v4 + 1)) + 1))), (I (w64 ((w64 ((w64 (v4 + 1)) + 1)) + 1))), (I x7.Pc)].length, (List.length ((a3.set (Int.toNat v5) (GEvent.mk v4 (w64 (v4 + 1)) (w64 ((w64 (v4 + 1)) + 1)) (w64 ((w64 ((w64 (v4 + 1)) + 1)) + 1)) x7.Pc)).map o64)) = (List.length ((a3.set (Int.toNat v5) (GEvent.mk v4 (w64 (v4 + 1)) (w64 ((w64 (v4 + 1)) + 1)) (w64 ((w64 ((w64 (v4 + 1)) + 1)) + 1)) (w64 ((w64 ((w64 ((w64 (v4 + 1)) + 1)) + 1)) + 1)))).map o64)), RenOK [(0, 0)] ((a3.set (Int.toNat v5) (GEvent.mk v4 (w64 (v4 + 1)) (w64 ((w64 (v4 + 1)) + 1)) (w64 ((w64 ((w64 (v4 + 1)) + 1)) + 1)) (w64 ((w64 ((w64 ((w64 (v4 + 1)) + 1)) + 1)) + 1)))).map o64)]) (by kernel_rfl) ⟨(lenM o64), c6, (rd0 hx7), (rdL o64 hx7), (rdM o64 hx7), (setMr o64 (by kernel_rfl)), rfl, (Nat.le_of_ble_eq_true rfl), (by first | exact lnSet _ | exact lnSet2 _ | simp only [List.length_map, List.length_set, List.length_cons, List.length_nil]), (rd0 hx7), (rdL o64 (rdS (y := (GEvent.mk v4 x7.Kind x7.Obj x7.Lock x7.Pc)) hx7)), (rdM o64 (rdS (y := (GEvent.mk v4 x7.Kind x7.Obj x7.Lock x7.Pc)) hx7)), (setSS o64 (by kernel_rfl)), rfl, (Nat.le_of_ble_eq_true rfl), (by first | exact lnSet _ | exact lnSet2 _ | simp only [List.length_map, List.length_set, List.length_cons, List.length_nil]), (rd0 hx7), (rdL o64 (rdS (y := (GEvent.mk v4 (w64 (v4 + 1)) x7.Obj x7.Lock x7.Pc)) hx7)), (rdM o64 (rdS (y := (GEvent.mk v4 (w64 (v4 + 1)) x7.Obj x7.Lock x7.Pc)) hx7)), (setSS o64 (by kernel_rfl)), rfl, (Nat.le_of_ble_eq_true rfl), (by first | exact lnSet _ | exact lnSet2 _ | simp only [List.length_map, List.length_set, List.length_cons, List.length_nil]), (rd0 hx7), (rdL o64 (rdS (y := (GEvent.mk v4 (w64 (v4 + 1)) (w64 ((w64 (v4 + 1)) + 1)) x7.Lock x7.Pc)) hx7)), (rdM o64 (rdS (y := (GEvent.mk v4 (w64 (v4 + 1)) (w64 ((w64 (v4 + 1)) + 1)) x7.Lock x7.Pc)) hx7)), (setSS o64 (by kernel_rfl)), rfl, (Nat.le_of_ble_eq_true rfl), (by first | exact lnSet _ | exact lnSet2 _ | simp only [List.length_map, List.length_set, List.length_cons, List.length_nil]), (rd0 hx7), (rdL o64 (rdS (y := (GEvent.mk v4 (w64 (v4 + 1)) (w64 ((w64 (v4 + 1)) + 1)) (w64 ((w64 ((w64 (v4 + 1)) + 1)) + 1)) x7.Pc)) hx7)), (rdM o64 (rdS (y := (GEvent.mk v4 (w64 (v4 + 1)) (w64 ((w64 (v4 + 1)) + 1)) (w64 ((w64 ((w64 (v4 + 1)) + 1)) + 1)) x7.Pc)) hx7)), (setSS o64 (by kernel_rfl)), rfl, (Nat.le_of_ble_eq_true rfl), (by first | exact lnSet _ | exact lnSet2 _ | simp only [List.length_map, List.length_set, List.length_cons, List.length_nil]), (rok (treeM t64)), trivial⟩ (ih (a3.set (Int.toNat v5) (GEvent.mk v4 (w64 (v4 + 1)) (w64 ((w64 (v4 + 1)) + 1)) (w64 ((w64 ((w64 (v4 + 1)) + 1)) + 1)) (w64 ((w64 ((w64 ((w64 (v4 + 1)) + 1)) + 1)) + 1)))) (w64 ((w64 ((w64 ((w64 ((w64 (v4 + 1)) + 1)) + 1)) + 1)) + 1)) (w64 (v5 + 1)) _ h)
    · have h := Option.some.inj h
      subst h
      exact go_ret hΘ hm hP hn (hs := [⟨2, .no, some (I (a3.length : Int))⟩, ⟨4, .br false, none⟩]) (rh := []) (ph := .raw) (ps := [AV.lit (.int .i64 (((List.length (a3.map o64)) : Nat) : Int)) = (I (a3.length : Int)), (decide (v5 < (a3.length : Int))) = false, (a3.map o64) = (a3.map o64), treeLL (a3.map o64) = true, noRoLL (a3.map o64) = true, (I v4) = (I v4), litA (I v4) = true]) (by kernel_rfl) ⟨(lenM o64), c8, rfl, (treeM t64), (noRoM n64), rfl, rfl, trivial⟩
noncomputable def laws_markEventS (p1 : (List GEvent)) (p2 : Int) : Option (Int × (List GEvent)) :=
  laws_markEventS_l0 FU p1 p2 0
theorem laws_markEventS_m {p1 : (List GEvent)} {p2 : Int} {r : (Int × (List GEvent))} (h : laws_markEventS p1 p2 = some r) : MeetsR Try.prog 22 [⟨64, 5, (p1.map o64)⟩] [(AV.sl 0 0 (List.length (p1.map o64))), (I p2)] [true] [⟨64, 5, (r.2.map o64)⟩] (I r.1) := by
  refine meetsR_of Θ_ok Try.func22 rfl (c := body22) (by kernel_rfl) (Nat.le_of_ble_eq_true rfl) rfl (Nat.le_of_ble_eq_true rfl) rfl (fr := [0]) (frI rfl) ?_
  intro E hP hn hx
  replace hn : E.n = 48 := hn
  have hm : E.P.follows .mixedOrders = true := by rw [hP]; exact mixed
  have hΘ : TOK E.P Θ := by rw [hP]; exact Θ_ok
  unfold laws_markEventS at h
  show WAt E body22 (FQ (RetE Θ Try.f22.results.toList [true] [⟨64, 5, (r.2.map o64)⟩] (I r.1) E)) [] ⟨[(0, (AV.sl 0 0 (List.length (p1.map o64)))), (1, (I p2))], [(0, some ⟨64, 5, (p1.map o64)⟩)], [0, JJ]⟩
  exact go_to hΘ hm hx hP hn (hs := []) (π := [(0, 0)]) (ts := [0, 1, 5]) (kp := []) (ps := [RenOK [(0, 0)] (p1.map o64)]) (by kernel_rfl) ⟨(rok (treeM t64)), trivial⟩ (laws_markEventS_l0_m hP hn hx FU p1 p2 0 _ h)
noncomputable def body23 : Code := match Try.f23.body with | some c => c | none => .skip
noncomputable def laws_markIntS_l0   : Nat → (List Int) → Int → Int → Option (Int × (List Int))
  | 0, _, _, _ => none
  | n + 1, a3, v4, v5 =>
  if (decide (v5 < (a3.length : Int))) = true then
    Option.bind (rd a3 v5) fun x7 =>
    laws_markIntS_l0 n (a3.set (Int.toNat v5) v4) (w64 (v4 + 1)) (w64 (v5 + 1))
  else
    some (v4, a3)
theorem laws_markIntS_l0_m {E : Env} (hP : E.P = Try.prog) (hn : E.n = 19) (hx : ∀ p, p ∈ E.fx → p.1 ∈ ([0] : List Nat))   : ∀ (n : Nat) (a3 : (List Int)) (v4 : Int) (v5 : Int) (r : (Int × (List Int))), laws_markIntS_l0  n a3 v4 v5 = some r → WAt E body23 (FQ (RetE Θ Try.f23.results.toList [true] [⟨3, 1, (r.2.map o3)⟩] (I r.1) E)) [true, false, true, false] ⟨[(0, (AV.sl 0 0 (List.length (a3.map o3)))), (1, (I v4)), (5, (I v5))], [(0, some ⟨3, 1, (a3.map o3)⟩)], [0, JJ]⟩ := by
  have hm : E.P.follows .mixedOrders = true := by rw [hP]; exact mixed
  have hΘ : TOK E.P Θ := by rw [hP]; exact Θ_ok
  intro n
  induction n with
  | zero => intro a3 v4 v5 r h; simp only [laws_markIntS_l0] at h; cases h
  | succ n ih =>
    intro a3 v4 v5 r h
    simp only [laws_markIntS_l0] at h
    rcases itS h with ⟨c6, h⟩ | ⟨c8, h⟩
    · obtain ⟨x7, hx7, h⟩ := bnS h
      exact go_to hΘ hm hx hP hn (hs := [⟨2, .no, some (I (a3.length : Int))⟩, ⟨4, .br true, none⟩, ⟨9, .sto [(I x7)] ((a3.set (Int.toNat v5) v4).map o3), none⟩, ⟨16, .slen 0 (List.length ((a3.set (Int.toNat v5) v4).map o3)), none⟩]) (π := [(0, 0)]) (ts := [0, 1, 5]) (kp := []) (ps := [AV.lit (.int .i64 (((List.length (a3.map o3)) : Nat) : Int)) = (I (a3.length : Int)), (decide (v5 < (a3.length : Int))) = true, (0 : Int) ≤ v5, v5 < (((List.length (a3.map o3)) : Nat) : Int), (a3.map o3)[(Int.toNat v5)]? = some [(I x7)], (a3.map o3).set (Int.toNat v5) (wr [(I x7)] 0 [(I v4)]) = ((a3.set (Int.toNat v5) v4).map o3), [(I v4)].length = 1, 0 + [(I v4)].length ≤ [(I x7)].length, (List.length (a3.map o3)) = (List.length ((a3.set (Int.toNat v5) v4).map o3)), RenOK [(0, 0)] ((a3.set (Int.toNat v5) v4).map o3)]) (by kernel_rfl) ⟨(lenM o3), c6, (rd0 hx7), (rdL o3 hx7), (rdM o3 hx7), (setM o3), rfl, (Nat.le_of_ble_eq_true rfl), (by first | exact lnSet _ | exact lnSet2 _ | simp only [List.length_map, List.length_set, List.length_cons, List.length_nil]), (rok (treeM t3)), trivial⟩ (ih (a3.set (Int.toNat v5) v4) (w64 (v4 + 1)) (w64 (v5 + 1)) _ h)
    · have h := Option.some.inj h
      subst h
      exact go_ret hΘ hm hP hn (hs := [⟨2, .no, some (I (a3.length : Int))⟩, ⟨4, .br false, none⟩]) (rh := []) (ph := .raw) (ps := [AV.lit (.int .i64 (((List.length (a3.map o3)) : Nat) : Int)) = (I (a3.length : Int)), (decide (v5 < (a3.length : Int))) = false, (a3.map o3) = (a3.map o3), treeLL (a3.map o3) = true, noRoLL (a3.map o3) = true, (I v4) = (I v4), litA (I v4) = true]) (by kernel_rfl) ⟨(lenM o3), c8, rfl, (treeM t3), (noRoM n3), rfl, rfl, trivial⟩
noncomputable def laws_markIntS (p1 : (List Int)) (p2 : Int) : Option (Int × (List Int)) :=
  laws_markIntS_l0 FU p1 p2 0
theorem laws_markIntS_m {p1 : (List Int)} {p2 : Int} {r : (Int × (List Int))} (h : laws_markIntS p1 p2 = some r) : MeetsR Try.prog 23 [⟨3, 1, (p1.map o3)⟩] [(AV.sl 0 0 (List.length (p1.map o3))), (I p2)] [true] [⟨3, 1, (r.2.map o3)⟩] (I r.1) := by
  refine meetsR_of Θ_ok Try.func23 rfl (c := body23) (by kernel_rfl) (Nat.le_of_ble_eq_true rfl) rfl (Nat.le_of_ble_eq_true rfl) rfl (fr := [0]) (frI rfl) ?_
  intro E hP hn hx
  replace hn : E.n = 19 := hn
  have hm : E.P.follows .mixedOrders = true := by rw [hP]; exact mixed
  have hΘ : TOK E.P Θ := by rw [hP]; exact Θ_ok
  unfold laws_markIntS at h
  show WAt E body23 (FQ (RetE Θ Try.f23.results.toList [true] [⟨3, 1, (r.2.map o3)⟩] (I r.1) E)) [] ⟨[(0, (AV.sl 0 0 (List.length (p1.map o3)))), (1, (I p2))], [(0, some ⟨3, 1, (p1.map o3)⟩)], [0, JJ]⟩
  exact go_to hΘ hm hx hP hn (hs := []) (π := [(0, 0)]) (ts := [0, 1, 5]) (kp := []) (ps := [RenOK [(0, 0)] (p1.map o3)]) (by kernel_rfl) ⟨(rok (treeM t3)), trivial⟩ (laws_markIntS_l0_m hP hn hx FU p1 p2 0 _ h)
noncomputable def body16 : Code := match Try.f16.body with | some c => c | none => .skip
noncomputable def laws_szEventS (p1 : (List GEvent)) (p2 : Int) : Option Int :=
  if (decide ((w64 (p2 - (p1.length : Int))) < 0)) = true then
    some (-1)
  else
    some (w64 (p2 - (p1.length : Int)))
theorem laws_szEventS_m {p1 : (List GEvent)} {p2 : Int} {r : Int} (h : laws_szEventS p1 p2 = some r) : Meets Try.prog 16 [(AV.ro 5 (p1.map o66)), (I p2)] (I r) := by
  refine meets_ofC Θ_ok Try.func16 rfl (c := body16) (by kernel_rfl) (Nat.le_of_ble_eq_true rfl) ?_
  intro E hP hn hx
  replace hn : E.n = 12 := hn
  have hm : E.P.follows .mixedOrders = true := by rw [hP]; exact mixed
  have hΘ : TOK E.P Θ := by rw [hP]; exact Θ_ok
  unfold laws_szEventS at h
  show WAt E body16 (FQ (RetE Θ Try.f16.results.toList [] [] (I r) E)) [] ⟨[(0, (AV.ro 5 (p1.map o66))), (1, (I p2))], [], [JJ]⟩
  rcases itS h with ⟨c3, h⟩ | ⟨c4, h⟩
  · have h := Option.some.inj h
    subst h
    exact go_ret hΘ hm hP hn (hs := [⟨3, .no, some (I (p1.length : Int))⟩, ⟨8, .br true, none⟩]) (rh := []) (ph := .raw) (ps := [AV.lit (.int .i64 (((p1.map o66).length : Nat) : Int)) = (I (p1.length : Int)), (decide ((w64 (p2 - (p1.length : Int))) < 0)) = true, (I (-1)) = (I (-1)), litA (I (-1)) = true]) (by kernel_rfl) ⟨(lenM o66), c3, rfl, rfl, trivial⟩
  · have h := Option.some.inj h
    subst h
    exact go_ret hΘ hm hP hn (hs := [⟨3, .no, some (I (p1.length : Int))⟩, ⟨8, .br false, none⟩]) (rh := []) (ph := .raw) (ps := [AV.lit (.int .i64 (((p1.map o66).length : Nat) : Int)) = (I (p1.length : Int)), (decide ((w64 (p2 - (p1.length : Int))) < 0)) = false, (I (w64 (p2 - (p1.length : Int)))) = (I (w64 (p2 - (p1.length : Int)))), litA (I (w64 (p2 - (p1.length : Int)))) = true]) (by kernel_rfl) ⟨(lenM o66), c4, rfl, rfl, trivial⟩
noncomputable def body46 : Code := match Try.f46.body with | some c => c | none => .skip
noncomputable def laws_toEvent (p1 : GEvent) : Option GEvent :=
  some (GEvent.mk p1.Thread p1.Kind p1.Obj p1.Lock p1.Pc)
theorem laws_toEvent_m {p1 : GEvent} {r : GEvent} (h : laws_toEvent p1 = some r) : Meets Try.prog 46 [(AV.agg ((o66 p1)))] (AV.agg (o64 r)) := by
  refine meets_ofC Θ_ok Try.func46 rfl (c := body46) (by kernel_rfl) (Nat.le_of_ble_eq_true rfl) ?_
  intro E hP hn hx
  replace hn : E.n = 20 := hn
  have hm : E.P.follows .mixedOrders = true := by rw [hP]; exact mixed
  have hΘ : TOK E.P Θ := by rw [hP]; exact Θ_ok
  unfold laws_toEvent at h
  show WAt E body46 (FQ (RetE Θ Try.f46.results.toList [] [] (AV.agg (o64 r)) E)) [] ⟨[(0, (AV.agg ((o66 p1))))], [], [JJ]⟩
  have h := Option.some.inj h
  subst h
  exact go_ret hΘ hm hP hn (hs := [⟨0, .new 1001, none⟩, ⟨1, .new 1002, none⟩, ⟨2, .new 1003, none⟩]) (rh := []) (ph := .raw) (ps := [(AV.agg [(I p1.Thread), (I p1.Kind), (I p1.Obj), (I p1.Lock), (I p1.Pc)]) = (AV.agg [(I p1.Thread), (I p1.Kind), (I p1.Obj), (I p1.Lock), (I p1.Pc)]), litA (AV.agg [(I p1.Thread), (I p1.Kind), (I p1.Obj), (I p1.Lock), (I p1.Pc)]) = true]) (by kernel_rfl) ⟨rfl, rfl, trivial⟩
noncomputable def body18 : Code := match Try.f18.body with | some c => c | none => .skip
noncomputable def laws_toEventS_l0  (p1 : (List GEvent)) : Nat → (List GEvent) → Int → Option (List GEvent)
  | 0, _, _ => none
  | n + 1, a3, v4 =>
  if (decide (v4 < (p1.length : Int))) = true then
    Option.bind (rd p1 v4) fun x6 =>
    Option.bind (laws_toEvent x6) fun r7 =>
    Option.bind (rd a3 v4) fun x8 =>
    laws_toEventS_l0 p1 n (a3.set (Int.toNat v4) r7) (w64 (v4 + 1))
  else
    some a3
theorem laws_toEventS_l0_m {E : Env} (hP : E.P = Try.prog) (hn : E.n = 23) (hx : ∀ p, p ∈ E.fx → p.1 ∈ ([] : List Nat)) (p1 : (List GEvent))  : ∀ (n : Nat) (a3 : (List GEvent)) (v4 : Int) (r : (List GEvent)), laws_toEventS_l0 p1 n a3 v4 = some r → WAt E body18 (FQ (RetE Θ Try.f18.results.toList [] [] (AV.own 64 5 (r.map o64)) E)) [true, true, false, true, false] ⟨[(0, (AV.ro 5 (p1.map o66))), (3, (AV.sl 1 0 (List.length (a3.map o64)))), (4, (I v4))], [(1, some ⟨64, 5, (a3.map o64)⟩)], [1, JJ]⟩ := by
  have hm : E.P.follows .mixedOrders = true := by rw [hP]; exact mixed
  have hΘ : TOK E.P Θ := by rw [hP]; exact Θ_ok
  intro n
  induction n with
  | zero => intro a3 v4 r h; simp only [laws_toEventS_l0] at h; cases h
  | succ n ih =>
    intro a3 v4 r h
    simp only [laws_toEventS_l0] at h
    rcases itS h with ⟨c5, h⟩ | ⟨c9, h⟩
    · obtain ⟨x6, hx6, h⟩ := bnS h
      obtain ⟨r7, hr7, h⟩ := bnS h
      obtain ⟨x8, hx8, h⟩ := bnS h
      exact go_to hΘ hm hx hP hn (hs := [⟨2, .no, some (I (p1.length : Int))⟩, ⟨4, .br true, none⟩, ⟨9, .row (o66 x6), none⟩, ⟨11, .callV [[]] (AV.agg (o64 r7)), none⟩, ⟨13, .sto ((o64 x8)) ((a3.set (Int.toNat v4) r7).map o64), none⟩, ⟨17, .slen 3 (List.length ((a3.set (Int.toNat v4) r7).map o64)), none⟩]) (π := [(1, 1)]) (ts := [0, 3, 4]) (kp := []) (ps := [AV.lit (.int .i64 (((p1.map o66).length : Nat) : Int)) = (I (p1.length : Int)), (decide (v4 < (p1.length : Int))) = true, (0 : Int) ≤ v4, (p1.map o66)[(Int.toNat v4)]? = some (o66 x6), Meets Try.prog 46 [(AV.agg ((o66 x6)))] (AV.agg (o64 r7)), litA (AV.agg (o64 r7)) = true, (0 : Int) ≤ v4, v4 < (((List.length (a3.map o64)) : Nat) : Int), (a3.map o64)[(Int.toNat v4)]? = some ((o64 x8)), (a3.map o64).set (Int.toNat v4) (wr ((o64 x8)) 0 ((o64 r7))) = ((a3.set (Int.toNat v4) r7).map o64), ((o64 r7)).length = 5, 0 + ((o64 r7)).length ≤ ((o64 x8)).length, (List.length (a3.map o64)) = (List.length ((a3.set (Int.toNat v4) r7).map o64)), RenOK [(1, 1)] ((a3.set (Int.toNat v4) r7).map o64)]) (by kernel_rfl) ⟨(lenM o66), c5, (rd0 hx6), (rdM o66 hx6), (laws_toEvent_m hr7), rfl, (rd0 hx8), (rdL o64 hx8), (rdM o64 hx8), (setMr o64 (by kernel_rfl)), rfl, (Nat.le_of_ble_eq_true rfl), (by first | exact lnSet _ | exact lnSet2 _ | simp only [List.length_map, List.length_set, List.length_cons, List.length_nil]), (rok (treeM t64)), trivial⟩ (ih (a3.set (Int.toNat v4) r7) (w64 (v4 + 1)) _ h)
    · have h := Option.some.inj h
      subst h
      exact go_ret hΘ hm hP hn (hs := [⟨2, .no, some (I (p1.length : Int))⟩, ⟨4, .br false, none⟩]) (rh := []) (ph := .own) (ps := [AV.lit (.int .i64 (((p1.map o66).length : Nat) : Int)) = (I (p1.length : Int)), (decide (v4 < (p1.length : Int))) = false, treeLL ((a3.map o64).take (List.length (a3.map o64))) = true, (a3.map o64).take (List.length (a3.map o64)) = (a3.map o64), noRoLL (a3.map o64) = true]) (by kernel_rfl) ⟨(lenM o66), c9, (treeT t64), takeM, (noRoM n64), trivial⟩
noncomputable def laws_toEventS (p1 : (List GEvent)) : Option (List GEvent) :=
  Option.bind (mk (GEvent.mk 0 0 0 0 0) (p1.length : Int)) fun l2 =>
  laws_toEventS_l0 p1 FU l2 0
theorem laws_toEventS_m {p1 : (List GEvent)} {r : (List GEvent)} (h : laws_toEventS p1 = some r) : Meets Try.prog 18 [(AV.ro 5 (p1.map o66))] (AV.own 64 5 (r.map o64)) := by
  refine meets_ofC Θ_ok Try.func18 rfl (c := body18) (by kernel_rfl) (Nat.le_of_ble_eq_true rfl) ?_
  intro E hP hn hx
  replace hn : E.n = 23 := hn
  have hm : E.P.follows .mixedOrders = true := by rw [hP]; exact mixed
  have hΘ : TOK E.P Θ := by rw [hP]; exact Θ_ok
  unfold laws_toEventS at h
  show WAt E body18 (FQ (RetE Θ Try.f18.results.toList [] [] (AV.own 64 5 (r.map o64)) E)) [] ⟨[(0, (AV.ro 5 (p1.map o66)))], [], [JJ]⟩
  obtain ⟨l2, hl2, h⟩ := bnS h
  exact go_to hΘ hm hx hP hn (hs := [⟨2, .no, some (I (p1.length : Int))⟩, ⟨3, .nw 1001 (l2.map o64), some (AV.sl 1001 0 (List.length (l2.map o64)))⟩]) (π := [(1001, 1)]) (ts := [0, 3, 4]) (kp := []) (ps := [AV.lit (.int .i64 (((p1.map o66).length : Nat) : Int)) = (I (p1.length : Int)), List.replicate (Int.toNat (p1.length : Int)) [.lit (.int .i64 0), .lit (.int .i64 0), .lit (.int .i64 0), .lit (.int .i64 0), .lit (.int .i64 0)] = (l2.map o64), AV.sl 1001 0 (Int.toNat (p1.length : Int)) = (AV.sl 1001 0 (List.length (l2.map o64))), (p1.length : Int) = (p1.length : Int), (0 : Int) ≤ (p1.length : Int), (p1.length : Int) * ((40 : Nat) : Int) ≤ 140737488355328, (p1.length : Int) ≤ 140737488355328, RenOK [(1001, 1)] (l2.map o64)]) (by kernel_rfl) ⟨(lenM o66), (mkM o64 hl2), (mkS o64 hl2), rfl, (mk0 hl2), (mkB hl2 (by decide)), (mkC hl2), (rok (treeM t64)), trivial⟩ (laws_toEventS_l0_m hP hn hx p1 FU l2 0 _ h)
noncomputable def body45 : Code := match Try.f45.body with | some c => c | none => .skip
noncomputable def spec_l1Put_j2  (p1 : (List Int)) (p2 : Int) (v3 : Int)  : Option (List Int) :=
  Option.bind (slc p1 0 v3) fun l12 =>
  Option.bind (app [] l12) fun l13 =>
  Option.bind (app l13 [p2]) fun l14 =>
  Option.bind (slc p1 v3 (p1.length : Int)) fun l15 =>
  Option.bind (app l14 l15) fun l16 =>
  some l16
theorem spec_l1Put_j2_m {E : Env} (hP : E.P = Try.prog) (hn : E.n = 48) (hx : ∀ p, p ∈ E.fx → p.1 ∈ ([] : List Nat)) (p1 : (List Int)) (p2 : Int) (v3 : Int)   (r : (List Int)) (h : spec_l1Put_j2 p1 p2 v3  = some r) : WAt E body45 (FQ (RetE Θ Try.f45.results.toList [false] [⟨3, 1, (p1.map o3)⟩] (AV.own 3 1 (r.map o3)) E)) [true, true, true, false, true, true] ⟨[(0, (AV.sl 1 0 (List.length (p1.map o3)))), (1, (I p2)), (5, (I v3))], [(1, some ⟨3, 1, (p1.map o3)⟩)], [1, JJ]⟩ := by
  have hm : E.P.follows .mixedOrders = true := by rw [hP]; exact mixed
  have hΘ : TOK E.P Θ := by rw [hP]; exact Θ_ok
  unfold spec_l1Put_j2 at h
  obtain ⟨l12, hl12, h⟩ := bnS h
  obtain ⟨l13, hl13, h⟩ := bnS h
  obtain ⟨l14, hl14, h⟩ := bnS h
  obtain ⟨l15, hl15, h⟩ := bnS h
  obtain ⟨l16, hl16, h⟩ := bnS h
  have h := Option.some.inj h
  subst h
  exact go_ret hΘ hm hP hn (hs := [⟨0, .new 1001, none⟩, ⟨4, .app 1002 (l13.map o3), none⟩, ⟨8, .new 1003, none⟩, ⟨9, .app 1004 (l14.map o3), none⟩, ⟨15, .app 1005 (l16.map o3), none⟩]) (rh := []) (ph := .own) (ps := [(0 : Int) ≤ 0, 0 ≤ v3, v3 ≤ (((List.length (p1.map o3)) : Nat) : Int), ([].map o3).take (List.length ([].map o3)) ++ (((p1.map o3).drop 0).take (Int.toNat v3)) = (l13.map o3), (((p1.map o3).drop 0).take (Int.toNat v3)).all (fun r => r.all AV.plain) = true, (List.length (l13.map o3)) * 8 ≤ 140737488355328, (List.length (l13.map o3)) ≤ 140737488355328, (l13.map o3).take (List.length (l13.map o3)) ++ ((([p2].map o3).drop 0).take (List.length ([p2].map o3))) = (l14.map o3), ((([p2].map o3).drop 0).take (List.length ([p2].map o3))).all (fun r => r.all AV.plain) = true, (List.length (l14.map o3)) * 8 ≤ 140737488355328, (List.length (l14.map o3)) ≤ 140737488355328, (0 : Int) ≤ v3, v3 ≤ (((p1.map o3).length : Nat) : Int), (((p1.map o3).length : Nat) : Int) ≤ (((List.length (p1.map o3)) : Nat) : Int), (l14.map o3).take (List.length (l14.map o3)) ++ (((p1.map o3).drop (Int.toNat v3)).take (subO (Int.toNat (((p1.map o3).length : Nat) : Int)) (Int.toNat v3))) = (l16.map o3), (((p1.map o3).drop (Int.toNat v3)).take (subO (Int.toNat (((p1.map o3).length : Nat) : Int)) (Int.toNat v3))).all (fun r => r.all AV.plain) = true, (List.length (l16.map o3)) * 8 ≤ 140737488355328, (List.length (l16.map o3)) ≤ 140737488355328, treeLL ((l16.map o3).take (List.length (l16.map o3))) = true, (l16.map o3).take (List.length (l16.map o3)) = (l16.map o3), noRoLL (l16.map o3) = true]) (by kernel_rfl) ⟨(sl0 hl12), (sl1 hl12), (sl2 o3 hl12), (appTDS0 o3 hl13 hl12), (plD p3), (appB o3 hl13 (by decide)), (appC o3 hl13), (appTD o3 hl14), (plD p3), (appB o3 hl14 (by decide)), (appC o3 hl14), (sl0 hl15), (sl1e o3 hl15), (Int.le_refl _), (appTDSe o3 hl16 hl15), (plD p3), (appB o3 hl16 (by decide)), (appC o3 hl16), (treeT t3), takeM, (noRoM n3), trivial⟩
noncomputable def spec_l1Put_j1 (K0 : Int → Option (List Int)) (p1 : (List Int)) (p2 : Int) (v3 : Int)  : Option (List Int) :=
  if (decide (v3 < (p1.length : Int))) = true then
    Option.bind (rd p1 v3) fun x9 =>
    if (x9 == p2) = true then
      some p1
    else
      spec_l1Put_j2 p1 p2 v3
  else
    spec_l1Put_j2 p1 p2 v3
theorem spec_l1Put_j1_m {E : Env} (hP : E.P = Try.prog) (hn : E.n = 48) (hx : ∀ p, p ∈ E.fx → p.1 ∈ ([] : List Nat)) (p1 : (List Int)) (p2 : Int) (v3 : Int) {K0 : Int → Option (List Int)} (hK0 : ∀ (v3 : Int) (r : (List Int)), K0 v3 = some r → WAt E body45 (FQ (RetE Θ Try.f45.results.toList [false] [⟨3, 1, (p1.map o3)⟩] (AV.own 3 1 (r.map o3)) E)) [true, true, false, false] ⟨[(0, (AV.sl 1 0 (List.length (p1.map o3)))), (1, (I p2)), (5, (I v3))], [(1, some ⟨3, 1, (p1.map o3)⟩)], [1, JJ]⟩)  (r : (List Int)) (h : spec_l1Put_j1 K0 p1 p2 v3  = some r) : WAt E body45 (FQ (RetE Θ Try.f45.results.toList [false] [⟨3, 1, (p1.map o3)⟩] (AV.own 3 1 (r.map o3)) E)) [true, true, false, false, false, false, true, true] ⟨[(0, (AV.sl 1 0 (List.length (p1.map o3)))), (1, (I p2)), (5, (I v3))], [(1, some ⟨3, 1, (p1.map o3)⟩)], [1, JJ]⟩ := by
  have hm : E.P.follows .mixedOrders = true := by rw [hP]; exact mixed
  have hΘ : TOK E.P Θ := by rw [hP]; exact Θ_ok
  unfold spec_l1Put_j1 at h
  rcases itS h with ⟨c8, h⟩ | ⟨c17, h⟩
  · obtain ⟨x9, hx9, h⟩ := bnS h
    rcases itS h with ⟨c10, h⟩ | ⟨c11, h⟩
    · have h := Option.some.inj h
      subst h
      exact go_ret hΘ hm hP hn (hs := [⟨2, .no, some (I (p1.length : Int))⟩, ⟨4, .no, some (B true)⟩, ⟨8, .row [(I x9)], none⟩, ⟨12, .br true, none⟩]) (rh := []) (ph := .own) (ps := [AV.lit (.int .i64 (((List.length (p1.map o3)) : Nat) : Int)) = (I (p1.length : Int)), (B (decide (v3 < (p1.length : Int)))) = (B true), (0 : Int) ≤ v3, v3 < (((List.length (p1.map o3)) : Nat) : Int), (p1.map o3)[(Int.toNat v3)]? = some [(I x9)], (x9 == p2) = true, treeLL ((p1.map o3).take (List.length (p1.map o3))) = true, (p1.map o3).take (List.length (p1.map o3)) = (p1.map o3), noRoLL (p1.map o3) = true]) (by kernel_rfl) ⟨(lenM o3), (litB c8), (rd0 hx9), (rdL o3 hx9), (rdM o3 hx9), c10, (treeT t3), takeM, (noRoM n3), trivial⟩
    · exact go_to hΘ hm hx hP hn (hs := [⟨2, .no, some (I (p1.length : Int))⟩, ⟨4, .no, some (B true)⟩, ⟨8, .row [(I x9)], none⟩, ⟨12, .br false, none⟩]) (π := [(1, 1)]) (ts := [0, 1, 5]) (kp := []) (ps := [AV.lit (.int .i64 (((List.length (p1.map o3)) : Nat) : Int)) = (I (p1.length : Int)), (B (decide (v3 < (p1.length : Int)))) = (B true), (0 : Int) ≤ v3, v3 < (((List.length (p1.map o3)) : Nat) : Int), (p1.map o3)[(Int.toNat v3)]? = some [(I x9)], (x9 == p2) = false, RenOK [(1, 1)] (p1.map o3)]) (by kernel_rfl) ⟨(lenM o3), (litB c8), (rd0 hx9), (rdL o3 hx9), (rdM o3 hx9), c11, (rok (treeM t3)), trivial⟩ (spec_l1Put_j2_m hP hn hx p1 p2 v3  _ h)
  · exact go_to hΘ hm hx hP hn (hs := [⟨2, .no, some (I (p1.length : Int))⟩, ⟨4, .no, some (B false)⟩]) (π := [(1, 1)]) (ts := [0, 1, 5]) (kp := []) (ps := [AV.lit (.int .i64 (((List.length (p1.map o3)) : Nat) : Int)) = (I (p1.length : Int)), (B (decide (v3 < (p1.length : Int)))) = (B false), RenOK [(1, 1)] (p1.map o3)]) (by kernel_rfl) ⟨(lenM o3), (litB c17), (rok (treeM t3)), trivial⟩ (spec_l1Put_j2_m hP hn hx p1 p2 v3  _ h)
noncomputable def spec_l1Put_l0  (p1 : (List Int)) (p2 : Int) : Nat → Int → Option (List Int)
  | 0, _ => none
  | n + 1, v3 =>
  if (decide (v3 < (p1.length : Int))) = true then
    Option.bind (rd p1 v3) fun x5 =>
    if (decide (x5 < p2)) = true then
      spec_l1Put_l0 p1 p2 n (w64 (v3 + 1))
    else
      spec_l1Put_j1 (spec_l1Put_l0 p1 p2 n) p1 p2 v3
  else
    spec_l1Put_j1 (spec_l1Put_l0 p1 p2 n) p1 p2 v3
theorem spec_l1Put_l0_m {E : Env} (hP : E.P = Try.prog) (hn : E.n = 48) (hx : ∀ p, p ∈ E.fx → p.1 ∈ ([] : List Nat)) (p1 : (List Int)) (p2 : Int)  : ∀ (n : Nat) (v3 : Int) (r : (List Int)), spec_l1Put_l0 p1 p2 n v3 = some r → WAt E body45 (FQ (RetE Θ Try.f45.results.toList [false] [⟨3, 1, (p1.map o3)⟩] (AV.own 3 1 (r.map o3)) E)) [true, true, false, false] ⟨[(0, (AV.sl 1 0 (List.length (p1.map o3)))), (1, (I p2)), (5, (I v3))], [(1, some ⟨3, 1, (p1.map o3)⟩)], [1, JJ]⟩ := by
  have hm : E.P.follows .mixedOrders = true := by rw [hP]; exact mixed
  have hΘ : TOK E.P Θ := by rw [hP]; exact Θ_ok
  intro n
  induction n with
  | zero => intro v3 r h; simp only [spec_l1Put_l0] at h; cases h
  | succ n ih =>
    intro v3 r h
    simp only [spec_l1Put_l0] at h
    rcases itS h with ⟨c4, h⟩ | ⟨c18, h⟩
    · obtain ⟨x5, hx5, h⟩ := bnS h
      rcases itS h with ⟨c6, h⟩ | ⟨c7, h⟩
      · exact go_to hΘ hm hx hP hn (hs := [⟨2, .no, some (I (p1.length : Int))⟩, ⟨4, .no, some (B true)⟩, ⟨8, .row [(I x5)], none⟩, ⟨12, .br true, none⟩]) (π := [(1, 1)]) (ts := [0, 1, 5]) (kp := []) (ps := [AV.lit (.int .i64 (((List.length (p1.map o3)) : Nat) : Int)) = (I (p1.length : Int)), (B (decide (v3 < (p1.length : Int)))) = (B true), (0 : Int) ≤ v3, v3 < (((List.length (p1.map o3)) : Nat) : Int), (p1.map o3)[(Int.toNat v3)]? = some [(I x5)], (decide (x5 < p2)) = true, RenOK [(1, 1)] (p1.map o3)]) (by kernel_rfl) ⟨(lenM o3), (litB c4), (rd0 hx5), (rdL o3 hx5), (rdM o3 hx5), c6, (rok (treeM t3)), trivial⟩ (ih (w64 (v3 + 1)) _ h)
      · exact go_to hΘ hm hx hP hn (hs := [⟨2, .no, some (I (p1.length : Int))⟩, ⟨4, .no, some (B true)⟩, ⟨8, .row [(I x5)], none⟩, ⟨12, .br false, none⟩]) (π := [(1, 1)]) (ts := [0, 1, 5]) (kp := []) (ps := [AV.lit (.int .i64 (((List.length (p1.map o3)) : Nat) : Int)) = (I (p1.length : Int)), (B (decide (v3 < (p1.length : Int)))) = (B true), (0 : Int) ≤ v3, v3 < (((List.length (p1.map o3)) : Nat) : Int), (p1.map o3)[(Int.toNat v3)]? = some [(I x5)], (decide (x5 < p2)) = false, RenOK [(1, 1)] (p1.map o3)]) (by kernel_rfl) ⟨(lenM o3), (litB c4), (rd0 hx5), (rdL o3 hx5), (rdM o3 hx5), c7, (rok (treeM t3)), trivial⟩ (spec_l1Put_j1_m hP hn hx p1 p2 v3 ih  _ h)
    · exact go_to hΘ hm hx hP hn (hs := [⟨2, .no, some (I (p1.length : Int))⟩, ⟨4, .no, some (B false)⟩]) (π := [(1, 1)]) (ts := [0, 1, 5]) (kp := []) (ps := [AV.lit (.int .i64 (((List.length (p1.map o3)) : Nat) : Int)) = (I (p1.length : Int)), (B (decide (v3 < (p1.length : Int)))) = (B false), RenOK [(1, 1)] (p1.map o3)]) (by kernel_rfl) ⟨(lenM o3), (litB c18), (rok (treeM t3)), trivial⟩ (spec_l1Put_j1_m hP hn hx p1 p2 v3 ih  _ h)
noncomputable def spec_l1Put (p1 : (List Int)) (p2 : Int) : Option (List Int) :=
  spec_l1Put_l0 p1 p2 FU 0
theorem spec_l1Put_m {p1 : (List Int)} {p2 : Int} {r : (List Int)} (h : spec_l1Put p1 p2 = some r) : MeetsR Try.prog 45 [⟨3, 1, (p1.map o3)⟩] [(AV.sl 0 0 (List.length (p1.map o3))), (I p2)] [false] [⟨3, 1, (p1.map o3)⟩] (AV.own 3 1 (r.map o3)) := by
  refine meetsR_of Θ_ok Try.func45 rfl (c := body45) (by kernel_rfl) (Nat.le_of_ble_eq_true rfl) rfl (Nat.le_of_ble_eq_true rfl) rfl (fr := []) (frI rfl) ?_
  intro E hP hn hx
  replace hn : E.n = 48 := hn
  have hm : E.P.follows .mixedOrders = true := by rw [hP]; exact mixed
  have hΘ : TOK E.P Θ := by rw [hP]; exact Θ_ok
  unfold spec_l1Put at h
  show WAt E body45 (FQ (RetE Θ Try.f45.results.toList [false] [⟨3, 1, (p1.map o3)⟩] (AV.own 3 1 (r.map o3)) E)) [] ⟨[(0, (AV.sl 0 0 (List.length (p1.map o3)))), (1, (I p2))], [(0, some ⟨3, 1, (p1.map o3)⟩)], [0, JJ]⟩
  exact go_to hΘ hm hx hP hn (hs := []) (π := [(0, 1)]) (ts := [0, 1, 5]) (kp := []) (ps := [RenOK [(0, 1)] (p1.map o3)]) (by kernel_rfl) ⟨(rok (treeM t3)), trivial⟩ (spec_l1Put_l0_m hP hn hx p1 p2 FU 0 _ h)
noncomputable def body111 : Code := match Try.f111.body with | some c => c | none => .skip
noncomputable def spec_l1In (p1 : Int) (p2 : Int) (p3 : Int) : Option Bool :=
  if (decide (p1 ≥ p2)) = true then
    some (decide (p1 ≤ p3))
  else
    some false
theorem spec_l1In_m {p1 : Int} {p2 : Int} {p3 : Int} {r : Bool} (h : spec_l1In p1 p2 p3 = some r) : Meets Try.prog 111 [(I p1), (I p2), (I p3)] (B r) := by
  refine meets_ofC Θ_ok Try.func111 rfl (c := body111) (by kernel_rfl) (Nat.le_of_ble_eq_true rfl) ?_
  intro E hP hn hx
  replace hn : E.n = 15 := hn
  have hm : E.P.follows .mixedOrders = true := by rw [hP]; exact mixed
  have hΘ : TOK E.P Θ := by rw [hP]; exact Θ_ok
  unfold spec_l1In at h
  show WAt E body111 (FQ (RetE Θ Try.f111.results.toList [] [] (B r) E)) [] ⟨[(0, (I p1)), (1, (I p2)), (2, (I p3))], [], [JJ]⟩
  rcases itS h with ⟨c4, h⟩ | ⟨c5, h⟩
  · have h := Option.some.inj h
    subst h
    exact go_ret hΘ hm hP hn (hs := [⟨4, .no, some (B true)⟩]) (rh := []) (ph := .raw) (ps := [(B (decide (p1 ≥ p2))) = (B true), (B (decide (p1 ≤ p3))) = (B (decide (p1 ≤ p3))), litA (B (decide (p1 ≤ p3))) = true]) (by kernel_rfl) ⟨(litB c4), rfl, rfl, trivial⟩
  · have h := Option.some.inj h
    subst h
    exact go_ret hΘ hm hP hn (hs := [⟨4, .no, some (B false)⟩]) (rh := []) (ph := .raw) (ps := [(B (decide (p1 ≥ p2))) = (B false), (B false) = (B false), litA (B false) = true]) (by kernel_rfl) ⟨(litB c5), rfl, rfl, trivial⟩
noncomputable def body76 : Code := match Try.f76.body with | some c => c | none => .skip
noncomputable def spec_l6Event_j0  (p1 : GEvent)  : Option Bool :=
  Option.bind (spec_l1In p1.Thread 0 4) fun r9 =>
  if r9 = true then
    Option.bind (spec_l1In p1.Kind 1 12) fun r11 =>
    if r11 = true then
      Option.bind (spec_l1In p1.Obj (-1) 99) fun r13 =>
      if r13 = true then
        Option.bind (spec_l1In p1.Lock (-1) 99) fun r15 =>
        if r15 = true then
          Option.bind (spec_l1In p1.Pc 0 99) fun r17 =>
          some r17
        else
          some false
      else
        some false
    else
      some false
  else
    some false
theorem spec_l6Event_j0_m {E : Env} (hP : E.P = Try.prog) (hn : E.n = 49) (hx : ∀ p, p ∈ E.fx → p.1 ∈ ([] : List Nat)) (p1 : GEvent)   (r : Bool) (h : spec_l6Event_j0 p1  = some r) : WAt E body76 (FQ (RetE Θ Try.f76.results.toList [] [] (B r) E)) [true, false, true, true] ⟨[(1, (AV.ptr 1 0 0))], [(1, some ⟨64, 5, [((o64 p1))]⟩)], [1, JJ]⟩ := by
  have hm : E.P.follows .mixedOrders = true := by rw [hP]; exact mixed
  have hΘ : TOK E.P Θ := by rw [hP]; exact Θ_ok
  unfold spec_l6Event_j0 at h
  obtain ⟨r9, hr9, h⟩ := bnS h
  rcases itS h with ⟨c10, h⟩ | ⟨c21, h⟩
  · obtain ⟨r11, hr11, h⟩ := bnS h
    rcases itS h with ⟨c12, h⟩ | ⟨c20, h⟩
    · obtain ⟨r13, hr13, h⟩ := bnS h
      rcases itS h with ⟨c14, h⟩ | ⟨c19, h⟩
      · obtain ⟨r15, hr15, h⟩ := bnS h
        rcases itS h with ⟨c16, h⟩ | ⟨c18, h⟩
        · obtain ⟨r17, hr17, h⟩ := bnS h
          have h := Option.some.inj h
          subst h
          exact go_ret hΘ hm hP hn (hs := [⟨2, .callV [] (B r9), none⟩, ⟨3, .no, some (B true)⟩, ⟨6, .callV [] (B r11), none⟩, ⟨8, .no, some (B true)⟩, ⟨11, .callV [] (B r13), none⟩, ⟨13, .no, some (B true)⟩, ⟨16, .callV [] (B r15), none⟩, ⟨18, .no, some (B true)⟩, ⟨21, .callV [] (B r17), none⟩]) (rh := []) (ph := .raw) (ps := [Meets Try.prog 111 [(I p1.Thread), (I 0), (I 4)] (B r9), litA (B r9) = true, (B r9) = (B true), Meets Try.prog 111 [(I p1.Kind), (I 1), (I 12)] (B r11), litA (B r11) = true, (B r11) = (B true), Meets Try.prog 111 [(I p1.Obj), (I (-1)), (I 99)] (B r13), litA (B r13) = true, (B r13) = (B true), Meets Try.prog 111 [(I p1.Lock), (I (-1)), (I 99)] (B r15), litA (B r15) = true, (B r15) = (B true), Meets Try.prog 111 [(I p1.Pc), (I 0), (I 99)] (B r17), litA (B r17) = true, (B r17) = (B r17), litA (B r17) = true]) (by kernel_rfl) ⟨(spec_l1In_m hr9), rfl, (litB c10), (spec_l1In_m hr11), rfl, (litB c12), (spec_l1In_m hr13), rfl, (litB c14), (spec_l1In_m hr15), rfl, (litB c16), (spec_l1In_m hr17), rfl, rfl, rfl, trivial⟩
        · have h := Option.some.inj h
          subst h
          exact go_ret hΘ hm hP hn (hs := [⟨2, .callV [] (B r9), none⟩, ⟨3, .no, some (B true)⟩, ⟨6, .callV [] (B r11), none⟩, ⟨8, .no, some (B true)⟩, ⟨11, .callV [] (B r13), none⟩, ⟨13, .no, some (B true)⟩, ⟨16, .callV [] (B r15), none⟩, ⟨18, .no, some (B false)⟩]) (rh := []) (ph := .raw) (ps := [Meets Try.prog 111 [(I p1.Thread), (I 0), (I 4)] (B r9), litA (B r9) = true, (B r9) = (B true), Meets Try.prog 111 [(I p1.Kind), (I 1), (I 12)] (B r11), litA (B r11) = true, (B r11) = (B true), Meets Try.prog 111 [(I p1.Obj), (I (-1)), (I 99)] (B r13), litA (B r13) = true, (B r13) = (B true), Meets Try.prog 111 [(I p1.Lock), (I (-1)), (I 99)] (B r15), litA (B r15) = true, (B r15) = (B false), (B false) = (B false), litA (B false) = true]) (by kernel_rfl) ⟨(spec_l1In_m hr9), rfl, (litB c10), (spec_l1In_m hr11), rfl, (litB c12), (spec_l1In_m hr13), rfl, (litB c14), (spec_l1In_m hr15), rfl, (litB c18), rfl, rfl, trivial⟩
      · have h := Option.some.inj h
        subst h
        exact go_ret hΘ hm hP hn (hs := [⟨2, .callV [] (B r9), none⟩, ⟨3, .no, some (B true)⟩, ⟨6, .callV [] (B r11), none⟩, ⟨8, .no, some (B true)⟩, ⟨11, .callV [] (B r13), none⟩, ⟨13, .no, some (B false)⟩]) (rh := []) (ph := .raw) (ps := [Meets Try.prog 111 [(I p1.Thread), (I 0), (I 4)] (B r9), litA (B r9) = true, (B r9) = (B true), Meets Try.prog 111 [(I p1.Kind), (I 1), (I 12)] (B r11), litA (B r11) = true, (B r11) = (B true), Meets Try.prog 111 [(I p1.Obj), (I (-1)), (I 99)] (B r13), litA (B r13) = true, (B r13) = (B false), (B false) = (B false), litA (B false) = true]) (by kernel_rfl) ⟨(spec_l1In_m hr9), rfl, (litB c10), (spec_l1In_m hr11), rfl, (litB c12), (spec_l1In_m hr13), rfl, (litB c19), rfl, rfl, trivial⟩
    · have h := Option.some.inj h
      subst h
      exact go_ret hΘ hm hP hn (hs := [⟨2, .callV [] (B r9), none⟩, ⟨3, .no, some (B true)⟩, ⟨6, .callV [] (B r11), none⟩, ⟨8, .no, some (B false)⟩]) (rh := []) (ph := .raw) (ps := [Meets Try.prog 111 [(I p1.Thread), (I 0), (I 4)] (B r9), litA (B r9) = true, (B r9) = (B true), Meets Try.prog 111 [(I p1.Kind), (I 1), (I 12)] (B r11), litA (B r11) = true, (B r11) = (B false), (B false) = (B false), litA (B false) = true]) (by kernel_rfl) ⟨(spec_l1In_m hr9), rfl, (litB c10), (spec_l1In_m hr11), rfl, (litB c20), rfl, rfl, trivial⟩
  · have h := Option.some.inj h
    subst h
    exact go_ret hΘ hm hP hn (hs := [⟨2, .callV [] (B r9), none⟩, ⟨3, .no, some (B false)⟩]) (rh := []) (ph := .raw) (ps := [Meets Try.prog 111 [(I p1.Thread), (I 0), (I 4)] (B r9), litA (B r9) = true, (B r9) = (B false), (B false) = (B false), litA (B false) = true]) (by kernel_rfl) ⟨(spec_l1In_m hr9), rfl, (litB c21), rfl, rfl, trivial⟩
noncomputable def spec_l6Event (p1 : GEvent) : Option Bool :=
  Option.bind (spec_l1In p1.Kind 2 10) fun r2 =>
  if r2 = true then
    if (decide (p1.Obj < 0)) = true then
      some false
    else
      if (p1.Kind == 8) = true then
        if (decide (p1.Lock < 0)) = true then
          some false
        else
          spec_l6Event_j0 p1
      else
        if (p1.Kind == 9) = true then
          if (decide (p1.Lock < 0)) = true then
            some false
          else
            spec_l6Event_j0 p1
        else
          spec_l6Event_j0 p1
  else
    if (p1.Kind == 8) = true then
      if (decide (p1.Lock < 0)) = true then
        some false
      else
        spec_l6Event_j0 p1
    else
      if (p1.Kind == 9) = true then
        if (decide (p1.Lock < 0)) = true then
          some false
        else
          spec_l6Event_j0 p1
      else
        spec_l6Event_j0 p1
theorem spec_l6Event_m {p1 : GEvent} {r : Bool} (h : spec_l6Event p1 = some r) : Meets Try.prog 76 [(AV.agg ((o64 p1)))] (B r) := by
  refine meets_ofC Θ_ok Try.func76 rfl (c := body76) (by kernel_rfl) (Nat.le_of_ble_eq_true rfl) ?_
  intro E hP hn hx
  replace hn : E.n = 49 := hn
  have hm : E.P.follows .mixedOrders = true := by rw [hP]; exact mixed
  have hΘ : TOK E.P Θ := by rw [hP]; exact Θ_ok
  unfold spec_l6Event at h
  show WAt E body76 (FQ (RetE Θ Try.f76.results.toList [] [] (B r) E)) [] ⟨[(0, (AV.agg ((o64 p1))))], [], [JJ]⟩
  obtain ⟨r2, hr2, h⟩ := bnS h
  rcases itS h with ⟨c3, h⟩ | ⟨c27, h⟩
  · rcases itS h with ⟨c4, h⟩ | ⟨c5, h⟩
    · have h := Option.some.inj h
      subst h
      exact go_ret hΘ hm hP hn (hs := [⟨0, .new 1001, none⟩, ⟨4, .callV [] (B r2), none⟩, ⟨5, .no, some (B true)⟩, ⟨10, .no, some (B true)⟩]) (rh := []) (ph := .raw) (ps := [Meets Try.prog 111 [(I p1.Kind), (I 2), (I 10)] (B r2), litA (B r2) = true, (B r2) = (B true), (B (decide (p1.Obj < 0))) = (B true), (B false) = (B false), litA (B false) = true]) (by kernel_rfl) ⟨(spec_l1In_m hr2), rfl, (litB c3), (litB c4), rfl, rfl, trivial⟩
    · rcases itS h with ⟨c6, h⟩ | ⟨c22, h⟩
      · rcases itS h with ⟨c7, h⟩ | ⟨c8, h⟩
        · have h := Option.some.inj h
          subst h
          exact go_ret hΘ hm hP hn (hs := [⟨0, .new 1001, none⟩, ⟨4, .callV [] (B r2), none⟩, ⟨5, .no, some (B true)⟩, ⟨10, .no, some (B false)⟩, ⟨14, .no, some (B true)⟩, ⟨25, .br true, none⟩]) (rh := []) (ph := .raw) (ps := [Meets Try.prog 111 [(I p1.Kind), (I 2), (I 10)] (B r2), litA (B r2) = true, (B r2) = (B true), (B (decide (p1.Obj < 0))) = (B false), (B (p1.Kind == 8)) = (B true), (decide (p1.Lock < 0)) = true, (B false) = (B false), litA (B false) = true]) (by kernel_rfl) ⟨(spec_l1In_m hr2), rfl, (litB c3), (litB c5), (litB c6), c7, rfl, rfl, trivial⟩
        · exact go_to hΘ hm hx hP hn (hs := [⟨0, .new 1001, none⟩, ⟨4, .callV [] (B r2), none⟩, ⟨5, .no, some (B true)⟩, ⟨10, .no, some (B false)⟩, ⟨14, .no, some (B true)⟩, ⟨25, .br false, none⟩]) (π := [(1001, 1)]) (ts := [1]) (kp := []) (ps := [Meets Try.prog 111 [(I p1.Kind), (I 2), (I 10)] (B r2), litA (B r2) = true, (B r2) = (B true), (B (decide (p1.Obj < 0))) = (B false), (B (p1.Kind == 8)) = (B true), (decide (p1.Lock < 0)) = false, RenOK [(1001, 1)] [((o64 p1))]]) (by kernel_rfl) ⟨(spec_l1In_m hr2), rfl, (litB c3), (litB c5), (litB c6), c8, (rok rfl), trivial⟩ (spec_l6Event_j0_m hP hn hx p1  _ h)
      · rcases itS h with ⟨c23, h⟩ | ⟨c26, h⟩
        · rcases itS h with ⟨c24, h⟩ | ⟨c25, h⟩
          · have h := Option.some.inj h
            subst h
            exact go_ret hΘ hm hP hn (hs := [⟨0, .new 1001, none⟩, ⟨4, .callV [] (B r2), none⟩, ⟨5, .no, some (B true)⟩, ⟨10, .no, some (B false)⟩, ⟨14, .no, some (B false)⟩, ⟨19, .no, some (B true)⟩, ⟨25, .br true, none⟩]) (rh := []) (ph := .raw) (ps := [Meets Try.prog 111 [(I p1.Kind), (I 2), (I 10)] (B r2), litA (B r2) = true, (B r2) = (B true), (B (decide (p1.Obj < 0))) = (B false), (B (p1.Kind == 8)) = (B false), (B (p1.Kind == 9)) = (B true), (decide (p1.Lock < 0)) = true, (B false) = (B false), litA (B false) = true]) (by kernel_rfl) ⟨(spec_l1In_m hr2), rfl, (litB c3), (litB c5), (litB c22), (litB c23), c24, rfl, rfl, trivial⟩
          · exact go_to hΘ hm hx hP hn (hs := [⟨0, .new 1001, none⟩, ⟨4, .callV [] (B r2), none⟩, ⟨5, .no, some (B true)⟩, ⟨10, .no, some (B false)⟩, ⟨14, .no, some (B false)⟩, ⟨19, .no, some (B true)⟩, ⟨25, .br false, none⟩]) (π := [(1001, 1)]) (ts := [1]) (kp := []) (ps := [Meets Try.prog 111 [(I p1.Kind), (I 2), (I 10)] (B r2), litA (B r2) = true, (B r2) = (B true), (B (decide (p1.Obj < 0))) = (B false), (B (p1.Kind == 8)) = (B false), (B (p1.Kind == 9)) = (B true), (decide (p1.Lock < 0)) = false, RenOK [(1001, 1)] [((o64 p1))]]) (by kernel_rfl) ⟨(spec_l1In_m hr2), rfl, (litB c3), (litB c5), (litB c22), (litB c23), c25, (rok rfl), trivial⟩ (spec_l6Event_j0_m hP hn hx p1  _ h)
        · exact go_to hΘ hm hx hP hn (hs := [⟨0, .new 1001, none⟩, ⟨4, .callV [] (B r2), none⟩, ⟨5, .no, some (B true)⟩, ⟨10, .no, some (B false)⟩, ⟨14, .no, some (B false)⟩, ⟨19, .no, some (B false)⟩]) (π := [(1001, 1)]) (ts := [1]) (kp := []) (ps := [Meets Try.prog 111 [(I p1.Kind), (I 2), (I 10)] (B r2), litA (B r2) = true, (B r2) = (B true), (B (decide (p1.Obj < 0))) = (B false), (B (p1.Kind == 8)) = (B false), (B (p1.Kind == 9)) = (B false), RenOK [(1001, 1)] [((o64 p1))]]) (by kernel_rfl) ⟨(spec_l1In_m hr2), rfl, (litB c3), (litB c5), (litB c22), (litB c26), (rok rfl), trivial⟩ (spec_l6Event_j0_m hP hn hx p1  _ h)
  · rcases itS h with ⟨c28, h⟩ | ⟨c31, h⟩
    · rcases itS h with ⟨c29, h⟩ | ⟨c30, h⟩
      · have h := Option.some.inj h
        subst h
        exact go_ret hΘ hm hP hn (hs := [⟨0, .new 1001, none⟩, ⟨4, .callV [] (B r2), none⟩, ⟨5, .no, some (B false)⟩, ⟨14, .no, some (B true)⟩, ⟨25, .br true, none⟩]) (rh := []) (ph := .raw) (ps := [Meets Try.prog 111 [(I p1.Kind), (I 2), (I 10)] (B r2), litA (B r2) = true, (B r2) = (B false), (B (p1.Kind == 8)) = (B true), (decide (p1.Lock < 0)) = true, (B false) = (B false), litA (B false) = true]) (by kernel_rfl) ⟨(spec_l1In_m hr2), rfl, (litB c27), (litB c28), c29, rfl, rfl, trivial⟩
      · exact go_to hΘ hm hx hP hn (hs := [⟨0, .new 1001, none⟩, ⟨4, .callV [] (B r2), none⟩, ⟨5, .no, some (B false)⟩, ⟨14, .no, some (B true)⟩, ⟨25, .br false, none⟩]) (π := [(1001, 1)]) (ts := [1]) (kp := []) (ps := [Meets Try.prog 111 [(I p1.Kind), (I 2), (I 10)] (B r2), litA (B r2) = true, (B r2) = (B false), (B (p1.Kind == 8)) = (B true), (decide (p1.Lock < 0)) = false, RenOK [(1001, 1)] [((o64 p1))]]) (by kernel_rfl) ⟨(spec_l1In_m hr2), rfl, (litB c27), (litB c28), c30, (rok rfl), trivial⟩ (spec_l6Event_j0_m hP hn hx p1  _ h)
    · rcases itS h with ⟨c32, h⟩ | ⟨c35, h⟩
      · rcases itS h with ⟨c33, h⟩ | ⟨c34, h⟩
        · have h := Option.some.inj h
          subst h
          exact go_ret hΘ hm hP hn (hs := [⟨0, .new 1001, none⟩, ⟨4, .callV [] (B r2), none⟩, ⟨5, .no, some (B false)⟩, ⟨14, .no, some (B false)⟩, ⟨19, .no, some (B true)⟩, ⟨25, .br true, none⟩]) (rh := []) (ph := .raw) (ps := [Meets Try.prog 111 [(I p1.Kind), (I 2), (I 10)] (B r2), litA (B r2) = true, (B r2) = (B false), (B (p1.Kind == 8)) = (B false), (B (p1.Kind == 9)) = (B true), (decide (p1.Lock < 0)) = true, (B false) = (B false), litA (B false) = true]) (by kernel_rfl) ⟨(spec_l1In_m hr2), rfl, (litB c27), (litB c31), (litB c32), c33, rfl, rfl, trivial⟩
        · exact go_to hΘ hm hx hP hn (hs := [⟨0, .new 1001, none⟩, ⟨4, .callV [] (B r2), none⟩, ⟨5, .no, some (B false)⟩, ⟨14, .no, some (B false)⟩, ⟨19, .no, some (B true)⟩, ⟨25, .br false, none⟩]) (π := [(1001, 1)]) (ts := [1]) (kp := []) (ps := [Meets Try.prog 111 [(I p1.Kind), (I 2), (I 10)] (B r2), litA (B r2) = true, (B r2) = (B false), (B (p1.Kind == 8)) = (B false), (B (p1.Kind == 9)) = (B true), (decide (p1.Lock < 0)) = false, RenOK [(1001, 1)] [((o64 p1))]]) (by kernel_rfl) ⟨(spec_l1In_m hr2), rfl, (litB c27), (litB c31), (litB c32), c34, (rok rfl), trivial⟩ (spec_l6Event_j0_m hP hn hx p1  _ h)
      · exact go_to hΘ hm hx hP hn (hs := [⟨0, .new 1001, none⟩, ⟨4, .callV [] (B r2), none⟩, ⟨5, .no, some (B false)⟩, ⟨14, .no, some (B false)⟩, ⟨19, .no, some (B false)⟩]) (π := [(1001, 1)]) (ts := [1]) (kp := []) (ps := [Meets Try.prog 111 [(I p1.Kind), (I 2), (I 10)] (B r2), litA (B r2) = true, (B r2) = (B false), (B (p1.Kind == 8)) = (B false), (B (p1.Kind == 9)) = (B false), RenOK [(1001, 1)] [((o64 p1))]]) (by kernel_rfl) ⟨(spec_l1In_m hr2), rfl, (litB c27), (litB c31), (litB c35), (rok rfl), trivial⟩ (spec_l6Event_j0_m hP hn hx p1  _ h)
noncomputable def body43 : Code := match Try.f43.body with | some c => c | none => .skip
noncomputable def spec_l6Trace_l0  (p1 : (List GEvent)) : Nat → Int → Option Bool
  | 0, _ => none
  | n + 1, v2 =>
  if (decide (v2 < (p1.length : Int))) = true then
    Option.bind (rd p1 v2) fun x4 =>
    Option.bind (spec_l6Event x4) fun r5 =>
    if (!r5) = true then
      some false
    else
      spec_l6Trace_l0 p1 n (w64 (v2 + 1))
  else
    some (decide ((p1.length : Int) ≤ 200))
theorem spec_l6Trace_l0_m {E : Env} (hP : E.P = Try.prog) (hn : E.n = 18) (hx : ∀ p, p ∈ E.fx → p.1 ∈ ([] : List Nat)) (p1 : (List GEvent))  : ∀ (n : Nat) (v2 : Int) (r : Bool), spec_l6Trace_l0 p1 n v2 = some r → WAt E body43 (FQ (RetE Θ Try.f43.results.toList [] [] (B r) E)) [true, false, true, false] ⟨[(0, (AV.ro 5 (p1.map o64))), (5, (AV.ro 5 (p1.map o64))), (6, (I (p1.length : Int))), (7, (I v2))], [], [JJ]⟩ := by
  have hm : E.P.follows .mixedOrders = true := by rw [hP]; exact mixed
  have hΘ : TOK E.P Θ := by rw [hP]; exact Θ_ok
  intro n
  induction n with
  | zero => intro v2 r h; simp only [spec_l6Trace_l0] at h; cases h
  | succ n ih =>
    intro v2 r h
    simp only [spec_l6Trace_l0] at h
    rcases itS h with ⟨c3, h⟩ | ⟨c8, h⟩
    · obtain ⟨x4, hx4, h⟩ := bnS h
      obtain ⟨r5, hr5, h⟩ := bnS h
      rcases itS h with ⟨c6, h⟩ | ⟨c7, h⟩
      · have h := Option.some.inj h
        subst h
        exact go_ret hΘ hm hP hn (hs := [⟨1, .br true, none⟩, ⟨2, .row (o64 x4), none⟩, ⟨4, .new 1001, none⟩, ⟨7, .callV [[]] (B r5), none⟩, ⟨9, .br true, none⟩]) (rh := []) (ph := .raw) (ps := [(decide (v2 < (p1.length : Int))) = true, (0 : Int) ≤ v2, (p1.map o64)[(Int.toNat v2)]? = some (o64 x4), Meets Try.prog 76 [(AV.agg ((o64 x4)))] (B r5), litA (B r5) = true, (!r5) = true, (B false) = (B false), litA (B false) = true]) (by kernel_rfl) ⟨c3, (rd0 hx4), (rdM o64 hx4), (spec_l6Event_m hr5), rfl, c6, rfl, rfl, trivial⟩
      · exact go_to hΘ hm hx hP hn (hs := [⟨1, .br true, none⟩, ⟨2, .row (o64 x4), none⟩, ⟨4, .new 1001, none⟩, ⟨7, .callV [[]] (B r5), none⟩, ⟨9, .br false, none⟩]) (π := []) (ts := [0, 5, 6, 7]) (kp := []) (ps := [(decide (v2 < (p1.length : Int))) = true, (0 : Int) ≤ v2, (p1.map o64)[(Int.toNat v2)]? = some (o64 x4), Meets Try.prog 76 [(AV.agg ((o64 x4)))] (B r5), litA (B r5) = true, (!r5) = false]) (by kernel_rfl) ⟨c3, (rd0 hx4), (rdM o64 hx4), (spec_l6Event_m hr5), rfl, c7, trivial⟩ (ih (w64 (v2 + 1)) _ h)
    · have h := Option.some.inj h
      subst h
      exact go_ret hΘ hm hP hn (hs := [⟨1, .br false, none⟩, ⟨3, .no, some (I (p1.length : Int))⟩]) (rh := []) (ph := .raw) (ps := [(decide (v2 < (p1.length : Int))) = false, AV.lit (.int .i64 (((p1.map o64).length : Nat) : Int)) = (I (p1.length : Int)), (B (decide ((p1.length : Int) ≤ 200))) = (B (decide ((p1.length : Int) ≤ 200))), litA (B (decide ((p1.length : Int) ≤ 200))) = true]) (by kernel_rfl) ⟨c8, (lenM o64), rfl, rfl, trivial⟩
noncomputable def spec_l6Trace (p1 : (List GEvent)) : Option Bool :=
  spec_l6Trace_l0 p1 FU 0
theorem spec_l6Trace_m {p1 : (List GEvent)} {r : Bool} (h : spec_l6Trace p1 = some r) : Meets Try.prog 43 [(AV.ro 5 (p1.map o64))] (B r) := by
  refine meets_ofC Θ_ok Try.func43 rfl (c := body43) (by kernel_rfl) (Nat.le_of_ble_eq_true rfl) ?_
  intro E hP hn hx
  replace hn : E.n = 18 := hn
  have hm : E.P.follows .mixedOrders = true := by rw [hP]; exact mixed
  have hΘ : TOK E.P Θ := by rw [hP]; exact Θ_ok
  unfold spec_l6Trace at h
  show WAt E body43 (FQ (RetE Θ Try.f43.results.toList [] [] (B r) E)) [] ⟨[(0, (AV.ro 5 (p1.map o64)))], [], [JJ]⟩
  exact go_to hΘ hm hx hP hn (hs := [⟨2, .no, some (I (p1.length : Int))⟩]) (π := []) (ts := [0, 5, 6, 7]) (kp := []) (ps := [AV.lit (.int .i64 (((p1.map o64).length : Nat) : Int)) = (I (p1.length : Int))]) (by kernel_rfl) ⟨(lenM o64), trivial⟩ (spec_l6Trace_l0_m hP hn hx p1 FU 0 _ h)
noncomputable def body132 : Code := match Try.f132.body with | some c => c | none => .skip
noncomputable def spec_l6Gives (p1 : GEvent) : Option Int :=
  if (p1.Kind == 5) = true then
    some p1.Obj
  else
    if (p1.Kind == 8) = true then
      some p1.Lock
    else
      some (-2)
theorem spec_l6Gives_m {p1 : GEvent} {r : Int} (h : spec_l6Gives p1 = some r) : Meets Try.prog 132 [(AV.agg ((o64 p1)))] (I r) := by
  refine meets_ofC Θ_ok Try.func132 rfl (c := body132) (by kernel_rfl) (Nat.le_of_ble_eq_true rfl) ?_
  intro E hP hn hx
  replace hn : E.n = 13 := hn
  have hm : E.P.follows .mixedOrders = true := by rw [hP]; exact mixed
  have hΘ : TOK E.P Θ := by rw [hP]; exact Θ_ok
  unfold spec_l6Gives at h
  show WAt E body132 (FQ (RetE Θ Try.f132.results.toList [] [] (I r) E)) [] ⟨[(0, (AV.agg ((o64 p1))))], [], [JJ]⟩
  rcases itS h with ⟨c2, h⟩ | ⟨c3, h⟩
  · have h := Option.some.inj h
    subst h
    exact go_ret hΘ hm hP hn (hs := [⟨0, .new 1001, none⟩, ⟨6, .br true, none⟩]) (rh := []) (ph := .raw) (ps := [(p1.Kind == 5) = true, (I p1.Obj) = (I p1.Obj), litA (I p1.Obj) = true]) (by kernel_rfl) ⟨c2, rfl, rfl, trivial⟩
  · rcases itS h with ⟨c4, h⟩ | ⟨c5, h⟩
    · have h := Option.some.inj h
      subst h
      exact go_ret hΘ hm hP hn (hs := [⟨0, .new 1001, none⟩, ⟨6, .br false, none⟩, ⟨9, .br true, none⟩]) (rh := []) (ph := .raw) (ps := [(p1.Kind == 5) = false, (p1.Kind == 8) = true, (I p1.Lock) = (I p1.Lock), litA (I p1.Lock) = true]) (by kernel_rfl) ⟨c3, c4, rfl, rfl, trivial⟩
    · have h := Option.some.inj h
      subst h
      exact go_ret hΘ hm hP hn (hs := [⟨0, .new 1001, none⟩, ⟨6, .br false, none⟩, ⟨9, .br false, none⟩]) (rh := []) (ph := .raw) (ps := [(p1.Kind == 5) = false, (p1.Kind == 8) = false, (I (-2)) = (I (-2)), litA (I (-2)) = true]) (by kernel_rfl) ⟨c3, c5, rfl, rfl, trivial⟩
noncomputable def body122 : Code := match Try.f122.body with | some c => c | none => .skip
noncomputable def spec_l6Takes (p1 : GEvent) : Option Int :=
  if (p1.Kind == 4) = true then
    some p1.Obj
  else
    if (p1.Kind == 9) = true then
      some p1.Lock
    else
      some (-3)
theorem spec_l6Takes_m {p1 : GEvent} {r : Int} (h : spec_l6Takes p1 = some r) : Meets Try.prog 122 [(AV.agg ((o64 p1)))] (I r) := by
  refine meets_ofC Θ_ok Try.func122 rfl (c := body122) (by kernel_rfl) (Nat.le_of_ble_eq_true rfl) ?_
  intro E hP hn hx
  replace hn : E.n = 13 := hn
  have hm : E.P.follows .mixedOrders = true := by rw [hP]; exact mixed
  have hΘ : TOK E.P Θ := by rw [hP]; exact Θ_ok
  unfold spec_l6Takes at h
  show WAt E body122 (FQ (RetE Θ Try.f122.results.toList [] [] (I r) E)) [] ⟨[(0, (AV.agg ((o64 p1))))], [], [JJ]⟩
  rcases itS h with ⟨c2, h⟩ | ⟨c3, h⟩
  · have h := Option.some.inj h
    subst h
    exact go_ret hΘ hm hP hn (hs := [⟨0, .new 1001, none⟩, ⟨6, .br true, none⟩]) (rh := []) (ph := .raw) (ps := [(p1.Kind == 4) = true, (I p1.Obj) = (I p1.Obj), litA (I p1.Obj) = true]) (by kernel_rfl) ⟨c2, rfl, rfl, trivial⟩
  · rcases itS h with ⟨c4, h⟩ | ⟨c5, h⟩
    · have h := Option.some.inj h
      subst h
      exact go_ret hΘ hm hP hn (hs := [⟨0, .new 1001, none⟩, ⟨6, .br false, none⟩, ⟨9, .br true, none⟩]) (rh := []) (ph := .raw) (ps := [(p1.Kind == 4) = false, (p1.Kind == 9) = true, (I p1.Lock) = (I p1.Lock), litA (I p1.Lock) = true]) (by kernel_rfl) ⟨c3, c4, rfl, rfl, trivial⟩
    · have h := Option.some.inj h
      subst h
      exact go_ret hΘ hm hP hn (hs := [⟨0, .new 1001, none⟩, ⟨6, .br false, none⟩, ⟨9, .br false, none⟩]) (rh := []) (ph := .raw) (ps := [(p1.Kind == 4) = false, (p1.Kind == 9) = false, (I (-3)) = (I (-3)), litA (I (-3)) = true]) (by kernel_rfl) ⟨c3, c5, rfl, rfl, trivial⟩
noncomputable def body116 : Code := match Try.f116.body with | some c => c | none => .skip
noncomputable def spec_l6Right_j0  (p1 : GEvent) (p2 : GEvent) (v4 : Bool) : Option Bool :=
  if v4 = true then
    some true
  else
    if (p1.Kind == 6) = true then
      some (p1.Obj == p2.Thread)
    else
      if (p1.Kind == 11) = true then
        if (p2.Kind == 7) = true then
          some (p2.Obj == p1.Thread)
        else
          some false
      else
        if (p1.Kind == 10) = true then
          if (p2.Kind == 9) = true then
            some (p1.Lock == p2.Thread)
          else
            some false
        else
          some false
theorem spec_l6Right_j0_m {E : Env} (hP : E.P = Try.prog) (hn : E.n = 53) (hx : ∀ p, p ∈ E.fx → p.1 ∈ ([] : List Nat)) (p1 : GEvent) (p2 : GEvent)  (v4 : Bool) (r : Bool) (h : spec_l6Right_j0 p1 p2 v4 = some r) : WAt E body116 (FQ (RetE Θ Try.f116.results.toList [] [] (B r) E)) [true, false, false, true] ⟨[(2, (AV.ptr 1 0 0)), (3, (AV.ptr 2 0 0)), (5, (B v4))], [(1, some ⟨64, 5, [((o64 p1))]⟩), (2, some ⟨64, 5, [((o64 p2))]⟩)], [1, 2, JJ]⟩ := by
  have hm : E.P.follows .mixedOrders = true := by rw [hP]; exact mixed
  have hΘ : TOK E.P Θ := by rw [hP]; exact Θ_ok
  unfold spec_l6Right_j0 at h
  rcases itS h with ⟨c5, h⟩ | ⟨c6, h⟩
  · have h := Option.some.inj h
    subst h
    exact go_ret hΘ hm hP hn (hs := [⟨0, .br true, none⟩]) (rh := []) (ph := .raw) (ps := [v4 = true, (B true) = (B true), litA (B true) = true]) (by kernel_rfl) ⟨c5, rfl, rfl, trivial⟩
  · rcases itS h with ⟨c7, h⟩ | ⟨c8, h⟩
    · have h := Option.some.inj h
      subst h
      exact go_ret hΘ hm hP hn (hs := [⟨0, .br false, none⟩, ⟨5, .br true, none⟩]) (rh := []) (ph := .raw) (ps := [v4 = false, (p1.Kind == 6) = true, (B (p1.Obj == p2.Thread)) = (B (p1.Obj == p2.Thread)), litA (B (p1.Obj == p2.Thread)) = true]) (by kernel_rfl) ⟨c6, c7, rfl, rfl, trivial⟩
    · rcases itS h with ⟨c9, h⟩ | ⟨c12, h⟩
      · rcases itS h with ⟨c10, h⟩ | ⟨c11, h⟩
        · have h := Option.some.inj h
          subst h
          exact go_ret hΘ hm hP hn (hs := [⟨0, .br false, none⟩, ⟨5, .br false, none⟩, ⟨10, .br true, none⟩, ⟨14, .no, some (B true)⟩]) (rh := []) (ph := .raw) (ps := [v4 = false, (p1.Kind == 6) = false, (p1.Kind == 11) = true, (B (p2.Kind == 7)) = (B true), (B (p2.Obj == p1.Thread)) = (B (p2.Obj == p1.Thread)), litA (B (p2.Obj == p1.Thread)) = true]) (by kernel_rfl) ⟨c6, c8, c9, (litB c10), rfl, rfl, trivial⟩
        · have h := Option.some.inj h
          subst h
          exact go_ret hΘ hm hP hn (hs := [⟨0, .br false, none⟩, ⟨5, .br false, none⟩, ⟨10, .br true, none⟩, ⟨14, .no, some (B false)⟩]) (rh := []) (ph := .raw) (ps := [v4 = false, (p1.Kind == 6) = false, (p1.Kind == 11) = true, (B (p2.Kind == 7)) = (B false), (B false) = (B false), litA (B false) = true]) (by kernel_rfl) ⟨c6, c8, c9, (litB c11), rfl, rfl, trivial⟩
      · rcases itS h with ⟨c13, h⟩ | ⟨c16, h⟩
        · rcases itS h with ⟨c14, h⟩ | ⟨c15, h⟩
          · have h := Option.some.inj h
            subst h
            exact go_ret hΘ hm hP hn (hs := [⟨0, .br false, none⟩, ⟨5, .br false, none⟩, ⟨10, .br false, none⟩, ⟨15, .br true, none⟩, ⟨19, .no, some (B true)⟩]) (rh := []) (ph := .raw) (ps := [v4 = false, (p1.Kind == 6) = false, (p1.Kind == 11) = false, (p1.Kind == 10) = true, (B (p2.Kind == 9)) = (B true), (B (p1.Lock == p2.Thread)) = (B (p1.Lock == p2.Thread)), litA (B (p1.Lock == p2.Thread)) = true]) (by kernel_rfl) ⟨c6, c8, c12, c13, (litB c14), rfl, rfl, trivial⟩
          · have h := Option.some.inj h
            subst h
            exact go_ret hΘ hm hP hn (hs := [⟨0, .br false, none⟩, ⟨5, .br false, none⟩, ⟨10, .br false, none⟩, ⟨15, .br true, none⟩, ⟨19, .no, some (B false)⟩]) (rh := []) (ph := .raw) (ps := [v4 = false, (p1.Kind == 6) = false, (p1.Kind == 11) = false, (p1.Kind == 10) = true, (B (p2.Kind == 9)) = (B false), (B false) = (B false), litA (B false) = true]) (by kernel_rfl) ⟨c6, c8, c12, c13, (litB c15), rfl, rfl, trivial⟩
        · have h := Option.some.inj h
          subst h
          exact go_ret hΘ hm hP hn (hs := [⟨0, .br false, none⟩, ⟨5, .br false, none⟩, ⟨10, .br false, none⟩, ⟨15, .br false, none⟩]) (rh := []) (ph := .raw) (ps := [v4 = false, (p1.Kind == 6) = false, (p1.Kind == 11) = false, (p1.Kind == 10) = false, (B false) = (B false), litA (B false) = true]) (by kernel_rfl) ⟨c6, c8, c12, c16, rfl, rfl, trivial⟩
noncomputable def spec_l6Right (p1 : GEvent) (p2 : GEvent) : Option Bool :=
  if (p1.Thread == p2.Thread) = true then
    spec_l6Right_j0 p1 p2 (p1.Thread == p2.Thread)
  else
    Option.bind (spec_l6Gives p1) fun r18 =>
    Option.bind (spec_l6Takes p2) fun r19 =>
    spec_l6Right_j0 p1 p2 (r18 == r19)
theorem spec_l6Right_m {p1 : GEvent} {p2 : GEvent} {r : Bool} (h : spec_l6Right p1 p2 = some r) : Meets Try.prog 116 [(AV.agg ((o64 p1))), (AV.agg ((o64 p2)))] (B r) := by
  refine meets_ofC Θ_ok Try.func116 rfl (c := body116) (by kernel_rfl) (Nat.le_of_ble_eq_true rfl) ?_
  intro E hP hn hx
  replace hn : E.n = 53 := hn
  have hm : E.P.follows .mixedOrders = true := by rw [hP]; exact mixed
  have hΘ : TOK E.P Θ := by rw [hP]; exact Θ_ok
  unfold spec_l6Right at h
  show WAt E body116 (FQ (RetE Θ Try.f116.results.toList [] [] (B r) E)) [] ⟨[(0, (AV.agg ((o64 p1)))), (1, (AV.agg ((o64 p2))))], [], [JJ]⟩
  rcases itS h with ⟨c3, h⟩ | ⟨c17, h⟩
  · exact go_to hΘ hm hx hP hn (hs := [⟨0, .new 1001, none⟩, ⟨1, .new 1002, none⟩, ⟨9, .br true, none⟩]) (π := [(1001, 1), (1002, 2)]) (ts := [2, 3, 5]) (kp := []) (ps := [(p1.Thread == p2.Thread) = true, RenOK [(1001, 1), (1002, 2)] [((o64 p1))], RenOK [(1001, 1), (1002, 2)] [((o64 p2))]]) (by kernel_rfl) ⟨c3, (rok rfl), (rok rfl), trivial⟩ (spec_l6Right_j0_m hP hn hx p1 p2 (p1.Thread == p2.Thread) _ h)
  · obtain ⟨r18, hr18, h⟩ := bnS h
    obtain ⟨r19, hr19, h⟩ := bnS h
    exact go_to hΘ hm hx hP hn (hs := [⟨0, .new 1001, none⟩, ⟨1, .new 1002, none⟩, ⟨9, .br false, none⟩, ⟨11, .callV [[]] (I r18), none⟩, ⟨13, .callV [[]] (I r19), none⟩]) (π := [(1001, 1), (1002, 2)]) (ts := [2, 3, 5]) (kp := []) (ps := [(p1.Thread == p2.Thread) = false, Meets Try.prog 132 [(AV.agg ((o64 p1)))] (I r18), litA (I r18) = true, Meets Try.prog 122 [(AV.agg ((o64 p2)))] (I r19), litA (I r19) = true, RenOK [(1001, 1), (1002, 2)] [((o64 p1))], RenOK [(1001, 1), (1002, 2)] [((o64 p2))]]) (by kernel_rfl) ⟨c17, (spec_l6Gives_m hr18), rfl, (spec_l6Takes_m hr19), rfl, (rok rfl), (rok rfl), trivial⟩ (spec_l6Right_j0_m hP hn hx p1 p2 (r18 == r19) _ h)
end Go.Proofs.Ytihgcgccajikpaa
