/- Functions as plain data, and that the code comes to them; no condition. -/

import Derived.Test.YtihgcgccajikpaaGT
import Derived.Test.YtihgcgccajikpaaSC
import Derived.Test.YtihgcgccajikpaaPA
import Derived.Ground.SlsfProg
import Derived.Test.YtihgcgccajikpaaSD
set_option linter.unusedVariables false
set_option maxRecDepth 100000
namespace Go.Proofs.Ytihgcgccajikpaa
open Go Go.T
noncomputable def body101 : Code := match Try.f101.body with | some c => c | none => .skip
noncomputable def impl_in (p1 : Int) (p2 : Int) (p3 : Int) : Option Bool :=
  if (decide (p2 ≤ p1)) = true then
    some (decide (p1 ≤ p3))
  else
    some false
theorem impl_in_m {p1 : Int} {p2 : Int} {p3 : Int} {r : Bool} (h : impl_in p1 p2 p3 = some r) : Meets Try.prog 101 [(I p1), (I p2), (I p3)] (B r) := by
  refine meets_ofC Θ_ok Try.func101 rfl (c := body101) (by kernel_rfl) (Nat.le_of_ble_eq_true rfl) ?_
  intro E hP hn hx
  replace hn : E.n = 15 := hn
  have hm : E.P.follows .mixedOrders = true := by rw [hP]; exact mixed
  have hΘ : TOK E.P Θ := by rw [hP]; exact Θ_ok
  unfold impl_in at h
  show WAt E body101 (FQ (RetE Θ Try.f101.results.toList [] [] (B r) E)) [] ⟨[(0, (I p1)), (1, (I p2)), (2, (I p3))], [], [JJ]⟩
  rcases itS h with ⟨c4, h⟩ | ⟨c5, h⟩
  · have h := Option.some.inj h
    subst h
    exact go_ret hΘ hm hP hn (hs := [⟨4, .no, some (B true)⟩]) (rh := []) (ph := .raw) (ps := [(B (decide (p2 ≤ p1))) = (B true), (B (decide (p1 ≤ p3))) = (B (decide (p1 ≤ p3))), litA (B (decide (p1 ≤ p3))) = true]) (by kernel_rfl) ⟨(litB c4), rfl, rfl, trivial⟩
  · have h := Option.some.inj h
    subst h
    exact go_ret hΘ hm hP hn (hs := [⟨4, .no, some (B false)⟩]) (rh := []) (ph := .raw) (ps := [(B (decide (p2 ≤ p1))) = (B false), (B false) = (B false), litA (B false) = true]) (by kernel_rfl) ⟨(litB c5), rfl, rfl, trivial⟩
noncomputable def body71 : Code := match Try.f71.body with | some c => c | none => .skip
noncomputable def impl_Pair_isGood (p1 : GPair) : Option Bool :=
  Option.bind (impl_in p1.Cell 0 99) fun r2 =>
  if r2 = true then
    Option.bind (impl_in p1.One 0 999) fun r4 =>
    if r4 = true then
      Option.bind (impl_in p1.Two 0 999) fun r6 =>
      some r6
    else
      some false
  else
    some false
theorem impl_Pair_isGood_m {p1 : GPair} {r : Bool} (h : impl_Pair_isGood p1 = some r) : Meets Try.prog 71 [(AV.agg ((o51 p1)))] (B r) := by
  refine meets_ofC Θ_ok Try.func71 rfl (c := body71) (by kernel_rfl) (Nat.le_of_ble_eq_true rfl) ?_
  intro E hP hn hx
  replace hn : E.n = 16 := hn
  have hm : E.P.follows .mixedOrders = true := by rw [hP]; exact mixed
  have hΘ : TOK E.P Θ := by rw [hP]; exact Θ_ok
  unfold impl_Pair_isGood at h
  show WAt E body71 (FQ (RetE Θ Try.f71.results.toList [] [] (B r) E)) [] ⟨[(0, (AV.agg ((o51 p1))))], [], [JJ]⟩
  obtain ⟨r2, hr2, h⟩ := bnS h
  rcases itS h with ⟨c3, h⟩ | ⟨c8, h⟩
  · obtain ⟨r4, hr4, h⟩ := bnS h
    rcases itS h with ⟨c5, h⟩ | ⟨c7, h⟩
    · obtain ⟨r6, hr6, h⟩ := bnS h
      have h := Option.some.inj h
      subst h
      exact go_ret hΘ hm hP hn (hs := [⟨0, .new 1001, none⟩, ⟨4, .callV [] (B r2), none⟩, ⟨5, .no, some (B true)⟩, ⟨8, .callV [] (B r4), none⟩, ⟨10, .no, some (B true)⟩, ⟨13, .callV [] (B r6), none⟩]) (rh := []) (ph := .raw) (ps := [Meets Try.prog 101 [(I p1.Cell), (I 0), (I 99)] (B r2), litA (B r2) = true, (B r2) = (B true), Meets Try.prog 101 [(I p1.One), (I 0), (I 999)] (B r4), litA (B r4) = true, (B r4) = (B true), Meets Try.prog 101 [(I p1.Two), (I 0), (I 999)] (B r6), litA (B r6) = true, (B r6) = (B r6), litA (B r6) = true]) (by kernel_rfl) ⟨(impl_in_m hr2), rfl, (litB c3), (impl_in_m hr4), rfl, (litB c5), (impl_in_m hr6), rfl, rfl, rfl, trivial⟩
    · have h := Option.some.inj h
      subst h
      exact go_ret hΘ hm hP hn (hs := [⟨0, .new 1001, none⟩, ⟨4, .callV [] (B r2), none⟩, ⟨5, .no, some (B true)⟩, ⟨8, .callV [] (B r4), none⟩, ⟨10, .no, some (B false)⟩]) (rh := []) (ph := .raw) (ps := [Meets Try.prog 101 [(I p1.Cell), (I 0), (I 99)] (B r2), litA (B r2) = true, (B r2) = (B true), Meets Try.prog 101 [(I p1.One), (I 0), (I 999)] (B r4), litA (B r4) = true, (B r4) = (B false), (B false) = (B false), litA (B false) = true]) (by kernel_rfl) ⟨(impl_in_m hr2), rfl, (litB c3), (impl_in_m hr4), rfl, (litB c7), rfl, rfl, trivial⟩
  · have h := Option.some.inj h
    subst h
    exact go_ret hΘ hm hP hn (hs := [⟨0, .new 1001, none⟩, ⟨4, .callV [] (B r2), none⟩, ⟨5, .no, some (B false)⟩]) (rh := []) (ph := .raw) (ps := [Meets Try.prog 101 [(I p1.Cell), (I 0), (I 99)] (B r2), litA (B r2) = true, (B r2) = (B false), (B false) = (B false), litA (B false) = true]) (by kernel_rfl) ⟨(impl_in_m hr2), rfl, (litB c8), rfl, rfl, trivial⟩
noncomputable def body135 : Code := match Try.f135.body with | some c => c | none => .skip
noncomputable def cmp_isNaN_int (p1 : Int) : Option Bool :=
  some (p1 != p1)
theorem cmp_isNaN_int_m {p1 : Int} {r : Bool} (h : cmp_isNaN_int p1 = some r) : Meets Try.prog 135 [(I p1)] (B r) := by
  refine meets_ofC Θ_ok Try.func135 rfl (c := body135) (by kernel_rfl) (Nat.le_of_ble_eq_true rfl) ?_
  intro E hP hn hx
  replace hn : E.n = 6 := hn
  have hm : E.P.follows .mixedOrders = true := by rw [hP]; exact mixed
  have hΘ : TOK E.P Θ := by rw [hP]; exact Θ_ok
  unfold cmp_isNaN_int at h
  show WAt E body135 (FQ (RetE Θ Try.f135.results.toList [] [] (B r) E)) [] ⟨[(0, (I p1))], [], [JJ]⟩
  have h := Option.some.inj h
  subst h
  exact go_ret hΘ hm hP hn (hs := []) (rh := []) (ph := .raw) (ps := [(B (p1 != p1)) = (B (p1 != p1)), litA (B (p1 != p1)) = true]) (by kernel_rfl) ⟨rfl, rfl, trivial⟩
noncomputable def body113 : Code := match Try.f113.body with | some c => c | none => .skip
noncomputable def cmp_Compare_int (p1 : Int) (p2 : Int) : Option Int :=
  Option.bind (cmp_isNaN_int p1) fun r3 =>
  Option.bind (cmp_isNaN_int p2) fun r4 =>
  if r3 = true then
    if r4 = true then
      some 0
    else
      some (-1)
  else
    if r4 = true then
      some 1
    else
      if (decide (p1 < p2)) = true then
        some (-1)
      else
        if (decide (p1 > p2)) = true then
          some 1
        else
          some 0
theorem cmp_Compare_int_m {p1 : Int} {p2 : Int} {r : Int} (h : cmp_Compare_int p1 p2 = some r) : Meets Try.prog 113 [(I p1), (I p2)] (I r) := by
  refine meets_ofC Θ_ok Try.func113 rfl (c := body113) (by kernel_rfl) (Nat.le_of_ble_eq_true rfl) ?_
  intro E hP hn hx
  replace hn : E.n = 20 := hn
  have hm : E.P.follows .mixedOrders = true := by rw [hP]; exact mixed
  have hΘ : TOK E.P Θ := by rw [hP]; exact Θ_ok
  unfold cmp_Compare_int at h
  show WAt E body113 (FQ (RetE Θ Try.f113.results.toList [] [] (I r) E)) [] ⟨[(0, (I p1)), (1, (I p2))], [], [JJ]⟩
  obtain ⟨r3, hr3, h⟩ := bnS h
  obtain ⟨r4, hr4, h⟩ := bnS h
  rcases itS h with ⟨c5, h⟩ | ⟨c8, h⟩
  · rcases itS h with ⟨c6, h⟩ | ⟨c7, h⟩
    · have h := Option.some.inj h
      subst h
      exact go_ret hΘ hm hP hn (hs := [⟨2, .callV [] (B r3), none⟩, ⟨5, .callV [] (B r4), none⟩, ⟨8, .br true, none⟩, ⟨10, .br true, none⟩]) (rh := []) (ph := .raw) (ps := [Meets Try.prog 135 [(I p1)] (B r3), litA (B r3) = true, Meets Try.prog 135 [(I p2)] (B r4), litA (B r4) = true, r3 = true, r4 = true, (I 0) = (I 0), litA (I 0) = true]) (by kernel_rfl) ⟨(cmp_isNaN_int_m hr3), rfl, (cmp_isNaN_int_m hr4), rfl, c5, c6, rfl, rfl, trivial⟩
    · have h := Option.some.inj h
      subst h
      exact go_ret hΘ hm hP hn (hs := [⟨2, .callV [] (B r3), none⟩, ⟨5, .callV [] (B r4), none⟩, ⟨8, .br true, none⟩, ⟨10, .br false, none⟩]) (rh := []) (ph := .raw) (ps := [Meets Try.prog 135 [(I p1)] (B r3), litA (B r3) = true, Meets Try.prog 135 [(I p2)] (B r4), litA (B r4) = true, r3 = true, r4 = false, (I (-1)) = (I (-1)), litA (I (-1)) = true]) (by kernel_rfl) ⟨(cmp_isNaN_int_m hr3), rfl, (cmp_isNaN_int_m hr4), rfl, c5, c7, rfl, rfl, trivial⟩
  · rcases itS h with ⟨c9, h⟩ | ⟨c10, h⟩
    · have h := Option.some.inj h
      subst h
      exact go_ret hΘ hm hP hn (hs := [⟨2, .callV [] (B r3), none⟩, ⟨5, .callV [] (B r4), none⟩, ⟨8, .br false, none⟩, ⟨10, .br true, none⟩]) (rh := []) (ph := .raw) (ps := [Meets Try.prog 135 [(I p1)] (B r3), litA (B r3) = true, Meets Try.prog 135 [(I p2)] (B r4), litA (B r4) = true, r3 = false, r4 = true, (I 1) = (I 1), litA (I 1) = true]) (by kernel_rfl) ⟨(cmp_isNaN_int_m hr3), rfl, (cmp_isNaN_int_m hr4), rfl, c8, c9, rfl, rfl, trivial⟩
    · rcases itS h with ⟨c11, h⟩ | ⟨c12, h⟩
      · have h := Option.some.inj h
        subst h
        exact go_ret hΘ hm hP hn (hs := [⟨2, .callV [] (B r3), none⟩, ⟨5, .callV [] (B r4), none⟩, ⟨8, .br false, none⟩, ⟨10, .br false, none⟩, ⟨14, .br true, none⟩]) (rh := []) (ph := .raw) (ps := [Meets Try.prog 135 [(I p1)] (B r3), litA (B r3) = true, Meets Try.prog 135 [(I p2)] (B r4), litA (B r4) = true, r3 = false, r4 = false, (decide (p1 < p2)) = true, (I (-1)) = (I (-1)), litA (I (-1)) = true]) (by kernel_rfl) ⟨(cmp_isNaN_int_m hr3), rfl, (cmp_isNaN_int_m hr4), rfl, c8, c10, c11, rfl, rfl, trivial⟩
      · rcases itS h with ⟨c13, h⟩ | ⟨c14, h⟩
        · have h := Option.some.inj h
          subst h
          exact go_ret hΘ hm hP hn (hs := [⟨2, .callV [] (B r3), none⟩, ⟨5, .callV [] (B r4), none⟩, ⟨8, .br false, none⟩, ⟨10, .br false, none⟩, ⟨14, .br false, none⟩, ⟨18, .br true, none⟩]) (rh := []) (ph := .raw) (ps := [Meets Try.prog 135 [(I p1)] (B r3), litA (B r3) = true, Meets Try.prog 135 [(I p2)] (B r4), litA (B r4) = true, r3 = false, r4 = false, (decide (p1 < p2)) = false, (decide (p1 > p2)) = true, (I 1) = (I 1), litA (I 1) = true]) (by kernel_rfl) ⟨(cmp_isNaN_int_m hr3), rfl, (cmp_isNaN_int_m hr4), rfl, c8, c10, c12, c13, rfl, rfl, trivial⟩
        · have h := Option.some.inj h
          subst h
          exact go_ret hΘ hm hP hn (hs := [⟨2, .callV [] (B r3), none⟩, ⟨5, .callV [] (B r4), none⟩, ⟨8, .br false, none⟩, ⟨10, .br false, none⟩, ⟨14, .br false, none⟩, ⟨18, .br false, none⟩]) (rh := []) (ph := .raw) (ps := [Meets Try.prog 135 [(I p1)] (B r3), litA (B r3) = true, Meets Try.prog 135 [(I p2)] (B r4), litA (B r4) = true, r3 = false, r4 = false, (decide (p1 < p2)) = false, (decide (p1 > p2)) = false, (I 0) = (I 0), litA (I 0) = true]) (by kernel_rfl) ⟨(cmp_isNaN_int_m hr3), rfl, (cmp_isNaN_int_m hr4), rfl, c8, c10, c12, c14, rfl, rfl, trivial⟩
noncomputable def body112 : Code := match Try.f112.body with | some c => c | none => .skip
noncomputable def cmp_Or_int_l0  (p1 : (List Int)) : Nat → Int → Option Int
  | 0, _ => none
  | n + 1, v2 =>
  if (decide (v2 < (p1.length : Int))) = true then
    Option.bind (rd p1 v2) fun x4 =>
    if (x4 != 0) = true then
      some x4
    else
      cmp_Or_int_l0 p1 n (w64 (v2 + 1))
  else
    some 0
theorem cmp_Or_int_l0_m {E : Env} (hP : E.P = Try.prog) (hn : E.n = 18) (hx : ∀ p, p ∈ E.fx → p.1 ∈ ([] : List Nat)) (p1 : (List Int))  : ∀ (n : Nat) (v2 : Int) (r : Int), cmp_Or_int_l0 p1 n v2 = some r → WAt E body112 (FQ (RetE Θ Try.f112.results.toList [] [] (I r) E)) [true, true, false, true, false] ⟨[(3, (I 0)), (6, (AV.ro 1 (p1.map o3))), (7, (I (p1.length : Int))), (8, (I v2))], [], [JJ]⟩ := by
  have hm : E.P.follows .mixedOrders = true := by rw [hP]; exact mixed
  have hΘ : TOK E.P Θ := by rw [hP]; exact Θ_ok
  intro n
  induction n with
  | zero => intro v2 r h; simp only [cmp_Or_int_l0] at h; cases h
  | succ n ih =>
    intro v2 r h
    simp only [cmp_Or_int_l0] at h
    rcases itS h with ⟨c3, h⟩ | ⟨c7, h⟩
    · obtain ⟨x4, hx4, h⟩ := bnS h
      rcases itS h with ⟨c5, h⟩ | ⟨c6, h⟩
      · have h := Option.some.inj h
        subst h
        exact go_ret hΘ hm hP hn (hs := [⟨1, .br true, none⟩, ⟨2, .row (o3 x4), none⟩, ⟨8, .br true, none⟩]) (rh := []) (ph := .raw) (ps := [(decide (v2 < (p1.length : Int))) = true, (0 : Int) ≤ v2, (p1.map o3)[(Int.toNat v2)]? = some (o3 x4), (x4 != 0) = true, (I x4) = (I x4), litA (I x4) = true]) (by kernel_rfl) ⟨c3, (rd0 hx4), (rdM o3 hx4), c5, rfl, rfl, trivial⟩
      · exact go_to hΘ hm hx hP hn (hs := [⟨1, .br true, none⟩, ⟨2, .row (o3 x4), none⟩, ⟨8, .br false, none⟩]) (π := []) (ts := [3, 6, 7, 8]) (kp := []) (ps := [(decide (v2 < (p1.length : Int))) = true, (0 : Int) ≤ v2, (p1.map o3)[(Int.toNat v2)]? = some (o3 x4), (x4 != 0) = false]) (by kernel_rfl) ⟨c3, (rd0 hx4), (rdM o3 hx4), c6, trivial⟩ (ih (w64 (v2 + 1)) _ h)
    · have h := Option.some.inj h
      subst h
      exact go_ret hΘ hm hP hn (hs := [⟨1, .br false, none⟩]) (rh := []) (ph := .raw) (ps := [(decide (v2 < (p1.length : Int))) = false, (I 0) = (I 0), litA (I 0) = true]) (by kernel_rfl) ⟨c7, rfl, rfl, trivial⟩
noncomputable def cmp_Or_int (p1 : (List Int)) : Option Int :=
  cmp_Or_int_l0 p1 FU 0
theorem cmp_Or_int_m {p1 : (List Int)} {r : Int} (h : cmp_Or_int p1 = some r) : Meets Try.prog 112 [(AV.ro 1 (p1.map o3))] (I r) := by
  refine meets_ofC Θ_ok Try.func112 rfl (c := body112) (by kernel_rfl) (Nat.le_of_ble_eq_true rfl) ?_
  intro E hP hn hx
  replace hn : E.n = 18 := hn
  have hm : E.P.follows .mixedOrders = true := by rw [hP]; exact mixed
  have hΘ : TOK E.P Θ := by rw [hP]; exact Θ_ok
  unfold cmp_Or_int at h
  show WAt E body112 (FQ (RetE Θ Try.f112.results.toList [] [] (I r) E)) [] ⟨[(0, (AV.ro 1 (p1.map o3)))], [], [JJ]⟩
  exact go_to hΘ hm hx hP hn (hs := [⟨3, .no, some (I (p1.length : Int))⟩]) (π := []) (ts := [3, 6, 7, 8]) (kp := []) (ps := [AV.lit (.int .i64 (((p1.map o3).length : Nat) : Int)) = (I (p1.length : Int))]) (by kernel_rfl) ⟨(lenM o3), trivial⟩ (cmp_Or_int_l0_m hP hn hx p1 FU 0 _ h)
noncomputable def body72 : Code := match Try.f72.body with | some c => c | none => .skip
noncomputable def impl_Pair_order (p1 : GPair) (p2 : GPair) : Option Int :=
  Option.bind (cmp_Compare_int p1.Cell p2.Cell) fun r3 =>
  Option.bind (cmp_Compare_int p1.One p2.One) fun r4 =>
  Option.bind (cmp_Compare_int p1.Two p2.Two) fun r5 =>
  Option.bind (cmp_Or_int [r3, r4, r5]) fun r6 =>
  some r6
theorem impl_Pair_order_m {p1 : GPair} {p2 : GPair} {r : Int} (h : impl_Pair_order p1 p2 = some r) : Meets Try.prog 72 [(AV.agg ((o51 p1))), (AV.agg ((o51 p2)))] (I r) := by
  refine meets_ofC Θ_ok Try.func72 rfl (c := body72) (by kernel_rfl) (Nat.le_of_ble_eq_true rfl) ?_
  intro E hP hn hx
  replace hn : E.n = 22 := hn
  have hm : E.P.follows .mixedOrders = true := by rw [hP]; exact mixed
  have hΘ : TOK E.P Θ := by rw [hP]; exact Θ_ok
  unfold impl_Pair_order at h
  show WAt E body72 (FQ (RetE Θ Try.f72.results.toList [] [] (I r) E)) [] ⟨[(0, (AV.agg ((o51 p1)))), (1, (AV.agg ((o51 p2))))], [], [JJ]⟩
  obtain ⟨r3, hr3, h⟩ := bnS h
  obtain ⟨r4, hr4, h⟩ := bnS h
  obtain ⟨r5, hr5, h⟩ := bnS h
  obtain ⟨r6, hr6, h⟩ := bnS h
  have h := Option.some.inj h
  subst h
  exact go_ret hΘ hm hP hn (hs := [⟨0, .new 1001, none⟩, ⟨1, .new 1002, none⟩, ⟨7, .callV [] (I r3), none⟩, ⟨12, .callV [] (I r4), none⟩, ⟨17, .callV [] (I r5), none⟩, ⟨18, .new 1003, none⟩, ⟨19, .callV [([r3, r4, r5].map o3)] (I r6), none⟩]) (rh := []) (ph := .raw) (ps := [Meets Try.prog 113 [(I p1.Cell), (I p2.Cell)] (I r3), litA (I r3) = true, Meets Try.prog 113 [(I p1.One), (I p2.One)] (I r4), litA (I r4) = true, Meets Try.prog 113 [(I p1.Two), (I p2.Two)] (I r5), litA (I r5) = true, Meets Try.prog 112 [(AV.ro 1 ([r3, r4, r5].map o3))] (I r6), litA (I r6) = true, Frz ((([r3, r4, r5].map o3).drop 0).take (List.length ([r3, r4, r5].map o3))) ([r3, r4, r5].map o3), (I r6) = (I r6), litA (I r6) = true]) (by kernel_rfl) ⟨(cmp_Compare_int_m hr3), rfl, (cmp_Compare_int_m hr4), rfl, (cmp_Compare_int_m hr5), rfl, (cmp_Or_int_m hr6), rfl, (frzF t3 z3), rfl, rfl, trivial⟩
noncomputable def body39 : Code := match Try.f39.body with | some c => c | none => .skip
noncomputable def impl_areRising_l0  (p1 : (List GPair)) : Nat → Int → Option Bool
  | 0, _ => none
  | n + 1, v2 =>
  if (decide (v2 < (p1.length : Int))) = true then
    Option.bind (rd p1 v2) fun x4 =>
    Option.bind (impl_Pair_isGood x4) fun r5 =>
    if (!r5) = true then
      some false
    else
      if (decide (v2 > 0)) = true then
        Option.bind (rd p1 (w64 (v2 - 1))) fun x9 =>
        Option.bind (impl_Pair_order x9 x4) fun r10 =>
        if (decide (r10 ≥ 0)) = true then
          some false
        else
          impl_areRising_l0 p1 n (w64 (v2 + 1))
      else
        impl_areRising_l0 p1 n (w64 (v2 + 1))
  else
    some (decide ((p1.length : Int) ≤ 200))
theorem impl_areRising_l0_m {E : Env} (hP : E.P = Try.prog) (hn : E.n = 33) (hx : ∀ p, p ∈ E.fx → p.1 ∈ ([] : List Nat)) (p1 : (List GPair))  : ∀ (n : Nat) (v2 : Int) (r : Bool), impl_areRising_l0 p1 n v2 = some r → WAt E body39 (FQ (RetE Θ Try.f39.results.toList [] [] (B r) E)) [true, false, true, false] ⟨[(0, (AV.ro 3 (p1.map o51))), (5, (AV.ro 3 (p1.map o51))), (6, (I (p1.length : Int))), (7, (I v2))], [], [JJ]⟩ := by
  have hm : E.P.follows .mixedOrders = true := by rw [hP]; exact mixed
  have hΘ : TOK E.P Θ := by rw [hP]; exact Θ_ok
  intro n
  induction n with
  | zero => intro v2 r h; simp only [impl_areRising_l0] at h; cases h
  | succ n ih =>
    intro v2 r h
    simp only [impl_areRising_l0] at h
    rcases itS h with ⟨c3, h⟩ | ⟨c14, h⟩
    · obtain ⟨x4, hx4, h⟩ := bnS h
      obtain ⟨r5, hr5, h⟩ := bnS h
      rcases itS h with ⟨c6, h⟩ | ⟨c7, h⟩
      · have h := Option.some.inj h
        subst h
        exact go_ret hΘ hm hP hn (hs := [⟨1, .br true, none⟩, ⟨3, .row (o51 x4), none⟩, ⟨5, .new 1001, none⟩, ⟨9, .callV [[]] (B r5), none⟩, ⟨11, .no, some (B true)⟩]) (rh := []) (ph := .raw) (ps := [(decide (v2 < (p1.length : Int))) = true, (0 : Int) ≤ v2, (p1.map o51)[(Int.toNat v2)]? = some (o51 x4), Meets Try.prog 71 [(AV.agg ((o51 x4)))] (B r5), litA (B r5) = true, (B (!r5)) = (B true), (B false) = (B false), litA (B false) = true]) (by kernel_rfl) ⟨c3, (rd0 hx4), (rdM o51 hx4), (impl_Pair_isGood_m hr5), rfl, (litB c6), rfl, rfl, trivial⟩
      · rcases itS h with ⟨c8, h⟩ | ⟨c13, h⟩
        · obtain ⟨x9, hx9, h⟩ := bnS h
          obtain ⟨r10, hr10, h⟩ := bnS h
          rcases itS h with ⟨c11, h⟩ | ⟨c12, h⟩
          · have h := Option.some.inj h
            subst h
            exact go_ret hΘ hm hP hn (hs := [⟨1, .br true, none⟩, ⟨3, .row (o51 x4), none⟩, ⟨5, .new 1001, none⟩, ⟨9, .callV [[]] (B r5), none⟩, ⟨11, .no, some (B false)⟩, ⟨14, .no, some (B true)⟩, ⟨18, .row (o51 x9), none⟩, ⟨21, .callV [[], []] (I r10), none⟩, ⟨25, .br true, none⟩]) (rh := []) (ph := .raw) (ps := [(decide (v2 < (p1.length : Int))) = true, (0 : Int) ≤ v2, (p1.map o51)[(Int.toNat v2)]? = some (o51 x4), Meets Try.prog 71 [(AV.agg ((o51 x4)))] (B r5), litA (B r5) = true, (B (!r5)) = (B false), (B (decide (v2 > 0))) = (B true), (0 : Int) ≤ (w64 (v2 - 1)), (p1.map o51)[(Int.toNat (w64 (v2 - 1)))]? = some (o51 x9), Meets Try.prog 72 [(AV.agg ((o51 x9))), (AV.agg ((o51 x4)))] (I r10), litA (I r10) = true, (decide (r10 ≥ 0)) = true, (B false) = (B false), litA (B false) = true]) (by kernel_rfl) ⟨c3, (rd0 hx4), (rdM o51 hx4), (impl_Pair_isGood_m hr5), rfl, (litB c7), (litB c8), (rd0 hx9), (rdM o51 hx9), (impl_Pair_order_m hr10), rfl, c11, rfl, rfl, trivial⟩
          · exact go_to hΘ hm hx hP hn (hs := [⟨1, .br true, none⟩, ⟨3, .row (o51 x4), none⟩, ⟨5, .new 1001, none⟩, ⟨9, .callV [[]] (B r5), none⟩, ⟨11, .no, some (B false)⟩, ⟨14, .no, some (B true)⟩, ⟨18, .row (o51 x9), none⟩, ⟨21, .callV [[], []] (I r10), none⟩, ⟨25, .br false, none⟩]) (π := []) (ts := [0, 5, 6, 7]) (kp := []) (ps := [(decide (v2 < (p1.length : Int))) = true, (0 : Int) ≤ v2, (p1.map o51)[(Int.toNat v2)]? = some (o51 x4), Meets Try.prog 71 [(AV.agg ((o51 x4)))] (B r5), litA (B r5) = true, (B (!r5)) = (B false), (B (decide (v2 > 0))) = (B true), (0 : Int) ≤ (w64 (v2 - 1)), (p1.map o51)[(Int.toNat (w64 (v2 - 1)))]? = some (o51 x9), Meets Try.prog 72 [(AV.agg ((o51 x9))), (AV.agg ((o51 x4)))] (I r10), litA (I r10) = true, (decide (r10 ≥ 0)) = false]) (by kernel_rfl) ⟨c3, (rd0 hx4), (rdM o51 hx4), (impl_Pair_isGood_m hr5), rfl, (litB c7), (litB c8), (rd0 hx9), (rdM o51 hx9), (impl_Pair_order_m hr10), rfl, c12, trivial⟩ (ih (w64 (v2 + 1)) _ h)
        · exact go_to hΘ hm hx hP hn (hs := [⟨1, .br true, none⟩, ⟨3, .row (o51 x4), none⟩, ⟨5, .new 1001, none⟩, ⟨9, .callV [[]] (B r5), none⟩, ⟨11, .no, some (B false)⟩, ⟨14, .no, some (B false)⟩]) (π := []) (ts := [0, 5, 6, 7]) (kp := []) (ps := [(decide (v2 < (p1.length : Int))) = true, (0 : Int) ≤ v2, (p1.map o51)[(Int.toNat v2)]? = some (o51 x4), Meets Try.prog 71 [(AV.agg ((o51 x4)))] (B r5), litA (B r5) = true, (B (!r5)) = (B false), (B (decide (v2 > 0))) = (B false)]) (by kernel_rfl) ⟨c3, (rd0 hx4), (rdM o51 hx4), (impl_Pair_isGood_m hr5), rfl, (litB c7), (litB c13), trivial⟩ (ih (w64 (v2 + 1)) _ h)
    · have h := Option.some.inj h
      subst h
      exact go_ret hΘ hm hP hn (hs := [⟨1, .br false, none⟩, ⟨3, .no, some (I (p1.length : Int))⟩]) (rh := []) (ph := .raw) (ps := [(decide (v2 < (p1.length : Int))) = false, AV.lit (.int .i64 (((p1.map o51).length : Nat) : Int)) = (I (p1.length : Int)), (B (decide ((p1.length : Int) ≤ 200))) = (B (decide ((p1.length : Int) ≤ 200))), litA (B (decide ((p1.length : Int) ≤ 200))) = true]) (by kernel_rfl) ⟨c14, (lenM o51), rfl, rfl, trivial⟩
noncomputable def impl_areRising (p1 : (List GPair)) : Option Bool :=
  impl_areRising_l0 p1 FU 0
theorem impl_areRising_m {p1 : (List GPair)} {r : Bool} (h : impl_areRising p1 = some r) : Meets Try.prog 39 [(AV.ro 3 (p1.map o51))] (B r) := by
  refine meets_ofC Θ_ok Try.func39 rfl (c := body39) (by kernel_rfl) (Nat.le_of_ble_eq_true rfl) ?_
  intro E hP hn hx
  replace hn : E.n = 33 := hn
  have hm : E.P.follows .mixedOrders = true := by rw [hP]; exact mixed
  have hΘ : TOK E.P Θ := by rw [hP]; exact Θ_ok
  unfold impl_areRising at h
  show WAt E body39 (FQ (RetE Θ Try.f39.results.toList [] [] (B r) E)) [] ⟨[(0, (AV.ro 3 (p1.map o51)))], [], [JJ]⟩
  exact go_to hΘ hm hx hP hn (hs := [⟨2, .no, some (I (p1.length : Int))⟩]) (π := []) (ts := [0, 5, 6, 7]) (kp := []) (ps := [AV.lit (.int .i64 (((p1.map o51).length : Nat) : Int)) = (I (p1.length : Int))]) (by kernel_rfl) ⟨(lenM o51), trivial⟩ (impl_areRising_l0_m hP hn hx p1 FU 0 _ h)
noncomputable def body74 : Code := match Try.f74.body with | some c => c | none => .skip
noncomputable def slices_Compact_Pair_Pair_l1 (K0 : (List GPair) → Int → Option (List GPair)) (p1 : (List GPair)) (a4 : (List GPair)) (v5 : Int) : Nat → (List GPair) → Int → Int → Option (List GPair)
  | 0, _, _, _ => none
  | n + 1, a11, v12, v13 =>
  if (decide (v13 < (((subO (Int.toNat (((a4.map o51).length : Nat) : Int)) (Int.toNat v5)) : Nat) : Int))) = true then
    Option.bind (rdc a11 (Int.toNat v5) (subO (Int.toNat (((a4.map o51).length : Nat) : Int)) (Int.toNat v5)) v13) fun x15 =>
    Option.bind (rdc a11 (Int.toNat v5) (subO (Int.toNat (((a4.map o51).length : Nat) : Int)) (Int.toNat v5)) (w64 (v13 - 1))) fun x16 =>
    if (!(decide (x15 = x16))) = true then
      Option.bind (rdc a11 (Int.toNat v5) (subO (Int.toNat (((a4.map o51).length : Nat) : Int)) (Int.toNat v5)) v13) fun x18 =>
      Option.bind (rd a11 v12) fun x19 =>
      slices_Compact_Pair_Pair_l1 K0 p1 a4 v5 n (a11.set (Int.toNat v12) x18) (w64 (v12 + 1)) (w64 (v13 + 1))
    else
      slices_Compact_Pair_Pair_l1 K0 p1 a4 v5 n a11 v12 (w64 (v13 + 1))
  else
    Option.bind (slc a11 v12 (a11.length : Int)) fun l22 =>
    Option.bind (slc (clrT a11 (GPair.mk 0 0 0) (Int.toNat v12) (subO (Int.toNat (((a11.map o51).length : Nat) : Int)) (Int.toNat v12))) 0 v12) fun l23 =>
    some l23
theorem slices_Compact_Pair_Pair_l1_m {E : Env} (hP : E.P = Try.prog) (hn : E.n = 61) (hx : ∀ p, p ∈ E.fx → p.1 ∈ ([] : List Nat)) (p1 : (List GPair)) (a4 : (List GPair)) (v5 : Int) {K0 : (List GPair) → Int → Option (List GPair)} (hK0 : ∀ (a4 : (List GPair)) (v5 : Int) (r : (List GPair)), K0 a4 v5 = some r → WAt E body74 (FQ (RetE Θ Try.f74.results.toList [false] [⟨51, 3, (p1.map o51)⟩] (AV.own 51 3 (r.map o51)) E)) [true, true, false, true, false] ⟨[(0, (AV.sl 1 0 (List.length (a4.map o51)))), (3, (I v5))], [(1, some ⟨51, 3, (a4.map o51)⟩)], [1, JJ]⟩) : ∀ (n : Nat) (a11 : (List GPair)) (v12 : Int) (v13 : Int) (r : (List GPair)), slices_Compact_Pair_Pair_l1 K0 p1 a4 v5 n a11 v12 v13 = some r → WAt E body74 (FQ (RetE Θ Try.f74.results.toList [false] [⟨51, 3, (p1.map o51)⟩] (AV.own 51 3 (r.map o51)) E)) [true, true, false, true, false, false, true, false, false, true, false, true, false, true, false] ⟨[(0, (AV.sl 1 0 (List.length (a11.map o51)))), (3, (I v12)), (4, (AV.sl 1 (Int.toNat v5) (subO (Int.toNat (((a4.map o51).length : Nat) : Int)) (Int.toNat v5)))), (5, (I v13))], [(1, some ⟨51, 3, (a11.map o51)⟩)], [1, JJ]⟩ := by
  have hm : E.P.follows .mixedOrders = true := by rw [hP]; exact mixed
  have hΘ : TOK E.P Θ := by rw [hP]; exact Θ_ok
  intro n
  induction n with
  | zero => intro a11 v12 v13 r h; simp only [slices_Compact_Pair_Pair_l1] at h; cases h
  | succ n ih =>
    intro a11 v12 v13 r h
    simp only [slices_Compact_Pair_Pair_l1] at h
    rcases itS h with ⟨c14, h⟩ | ⟨c21, h⟩
    · obtain ⟨x15, hx15, h⟩ := bnS h
      obtain ⟨x16, hx16, h⟩ := bnS h
      rcases itS h with ⟨c17, h⟩ | ⟨c20, h⟩
      · obtain ⟨x18, hx18, h⟩ := bnS h
        obtain ⟨x19, hx19, h⟩ := bnS h
        exact go_to hΘ hm hx hP hn (hs := [⟨2, .no, some (I (((subO (Int.toNat (((a4.map o51).length : Nat) : Int)) (Int.toNat v5)) : Nat) : Int))⟩, ⟨4, .br true, none⟩, ⟨8, .row ((o51 x15)), none⟩, ⟨13, .row ((o51 x16)), none⟩, ⟨14, .bin (B (!(decide (x15 = x16)))), none⟩, ⟨15, .br true, none⟩, ⟨21, .row ((o51 x18)), none⟩, ⟨23, .sto ((o51 x19)) ((a11.set (Int.toNat v12) x18).map o51), none⟩, ⟨30, .slen 0 (List.length ((a11.set (Int.toNat v12) x18).map o51)), none⟩]) (π := [(1, 1)]) (ts := [0, 3, 4, 5]) (kp := []) (ps := [AV.lit (.int .i64 (((subO (Int.toNat (((a4.map o51).length : Nat) : Int)) (Int.toNat v5)) : Nat) : Int)) = (I (((subO (Int.toNat (((a4.map o51).length : Nat) : Int)) (Int.toNat v5)) : Nat) : Int)), (decide (v13 < (((subO (Int.toNat (((a4.map o51).length : Nat) : Int)) (Int.toNat v5)) : Nat) : Int))) = true, (0 : Int) ≤ v13, v13 < (((subO (Int.toNat (((a4.map o51).length : Nat) : Int)) (Int.toNat v5)) : Nat) : Int), (a11.map o51)[(addO (Int.toNat v5) (Int.toNat v13))]? = some ((o51 x15)), (0 : Int) ≤ (w64 (v13 - 1)), (w64 (v13 - 1)) < (((subO (Int.toNat (((a4.map o51).length : Nat) : Int)) (Int.toNat v5)) : Nat) : Int), (a11.map o51)[(addO (Int.toNat v5) (Int.toNat (w64 (v13 - 1))))]? = some ((o51 x16)), BinS Try.prog .neq 51 (AV.agg ((o51 x15))) (AV.agg ((o51 x16))) (B (!(decide (x15 = x16)))), (!(decide (x15 = x16))) = true, (0 : Int) ≤ v13, v13 < (((subO (Int.toNat (((a4.map o51).length : Nat) : Int)) (Int.toNat v5)) : Nat) : Int), (a11.map o51)[(addO (Int.toNat v5) (Int.toNat v13))]? = some ((o51 x18)), (0 : Int) ≤ v12, v12 < (((List.length (a11.map o51)) : Nat) : Int), (a11.map o51)[(Int.toNat v12)]? = some ((o51 x19)), (a11.map o51).set (Int.toNat v12) (wr ((o51 x19)) 0 ((o51 x18))) = ((a11.set (Int.toNat v12) x18).map o51), ((o51 x18)).length = 3, 0 + ((o51 x18)).length ≤ ((o51 x19)).length, (List.length (a11.map o51)) = (List.length ((a11.set (Int.toNat v12) x18).map o51)), RenOK [(1, 1)] ((a11.set (Int.toNat v12) x18).map o51)]) (by kernel_rfl) ⟨rfl, c14, (rdc0 hx15), (rdcL hx15), (rdM o51 (rdcR hx15)), (rdc0 hx16), (rdcL hx16), (rdM o51 (rdcR hx16)), (nes51 _ _), c17, (rdc0 hx18), (rdcL hx18), (rdM o51 (rdcR hx18)), (rd0 hx19), (rdL o51 hx19), (rdM o51 hx19), (setMr o51 (by kernel_rfl)), rfl, (Nat.le_of_ble_eq_true rfl), (by first | exact lnSet _ | exact lnSet2 _ | simp only [List.length_map, List.length_set, List.length_cons, List.length_nil]), (rok (treeM t51)), trivial⟩ (ih (a11.set (Int.toNat v12) x18) (w64 (v12 + 1)) (w64 (v13 + 1)) _ h)
      · exact go_to hΘ hm hx hP hn (hs := [⟨2, .no, some (I (((subO (Int.toNat (((a4.map o51).length : Nat) : Int)) (Int.toNat v5)) : Nat) : Int))⟩, ⟨4, .br true, none⟩, ⟨8, .row ((o51 x15)), none⟩, ⟨13, .row ((o51 x16)), none⟩, ⟨14, .bin (B (!(decide (x15 = x16)))), none⟩, ⟨15, .br false, none⟩]) (π := [(1, 1)]) (ts := [0, 3, 4, 5]) (kp := []) (ps := [AV.lit (.int .i64 (((subO (Int.toNat (((a4.map o51).length : Nat) : Int)) (Int.toNat v5)) : Nat) : Int)) = (I (((subO (Int.toNat (((a4.map o51).length : Nat) : Int)) (Int.toNat v5)) : Nat) : Int)), (decide (v13 < (((subO (Int.toNat (((a4.map o51).length : Nat) : Int)) (Int.toNat v5)) : Nat) : Int))) = true, (0 : Int) ≤ v13, v13 < (((subO (Int.toNat (((a4.map o51).length : Nat) : Int)) (Int.toNat v5)) : Nat) : Int), (a11.map o51)[(addO (Int.toNat v5) (Int.toNat v13))]? = some ((o51 x15)), (0 : Int) ≤ (w64 (v13 - 1)), (w64 (v13 - 1)) < (((subO (Int.toNat (((a4.map o51).length : Nat) : Int)) (Int.toNat v5)) : Nat) : Int), (a11.map o51)[(addO (Int.toNat v5) (Int.toNat (w64 (v13 - 1))))]? = some ((o51 x16)), BinS Try.prog .neq 51 (AV.agg ((o51 x15))) (AV.agg ((o51 x16))) (B (!(decide (x15 = x16)))), (!(decide (x15 = x16))) = false, RenOK [(1, 1)] (a11.map o51)]) (by kernel_rfl) ⟨rfl, c14, (rdc0 hx15), (rdcL hx15), (rdM o51 (rdcR hx15)), (rdc0 hx16), (rdcL hx16), (rdM o51 (rdcR hx16)), (nes51 _ _), c20, (rok (treeM t51)), trivial⟩ (ih a11 v12 (w64 (v13 + 1)) _ h)
    · obtain ⟨l22, hl22, h⟩ := bnS h
      obtain ⟨l23, hl23, h⟩ := bnS h
      have h := Option.some.inj h
      subst h
      exact go_ret hΘ hm hP hn (hs := [⟨2, .no, some (I (((subO (Int.toNat (((a4.map o51).length : Nat) : Int)) (Int.toNat v5)) : Nat) : Int))⟩, ⟨4, .br false, none⟩, ⟨8, .clr ((clrT a11 (GPair.mk 0 0 0) (Int.toNat v12) (subO (Int.toNat (((a11.map o51).length : Nat) : Int)) (Int.toNat v12))).map o51), none⟩, ⟨9, .slen 0 (List.length ((clrT a11 (GPair.mk 0 0 0) (Int.toNat v12) (subO (Int.toNat (((a11.map o51).length : Nat) : Int)) (Int.toNat v12))).map o51)), none⟩]) (rh := []) (ph := .own) (ps := [AV.lit (.int .i64 (((subO (Int.toNat (((a4.map o51).length : Nat) : Int)) (Int.toNat v5)) : Nat) : Int)) = (I (((subO (Int.toNat (((a4.map o51).length : Nat) : Int)) (Int.toNat v5)) : Nat) : Int)), (decide (v13 < (((subO (Int.toNat (((a4.map o51).length : Nat) : Int)) (Int.toNat v5)) : Nat) : Int))) = false, (0 : Int) ≤ v12, v12 ≤ (((a11.map o51).length : Nat) : Int), (((a11.map o51).length : Nat) : Int) ≤ (((List.length (a11.map o51)) : Nat) : Int), litR (a11.map o51) = true, (Int.toNat v12) + (subO (Int.toNat (((a11.map o51).length : Nat) : Int)) (Int.toNat v12)) ≤ (a11.map o51).length, ovr_ (a11.map o51) (Int.toNat v12) (List.replicate (subO (Int.toNat (((a11.map o51).length : Nat) : Int)) (Int.toNat v12)) (o51 (GPair.mk 0 0 0))) = ((clrT a11 (GPair.mk 0 0 0) (Int.toNat v12) (subO (Int.toNat (((a11.map o51).length : Nat) : Int)) (Int.toNat v12))).map o51), (List.length (a11.map o51)) = (List.length ((clrT a11 (GPair.mk 0 0 0) (Int.toNat v12) (subO (Int.toNat (((a11.map o51).length : Nat) : Int)) (Int.toNat v12))).map o51)), (0 : Int) ≤ 0, 0 ≤ v12, v12 ≤ (((List.length ((clrT a11 (GPair.mk 0 0 0) (Int.toNat v12) (subO (Int.toNat (((a11.map o51).length : Nat) : Int)) (Int.toNat v12))).map o51)) : Nat) : Int), treeLL (((clrT a11 (GPair.mk 0 0 0) (Int.toNat v12) (subO (Int.toNat (((a11.map o51).length : Nat) : Int)) (Int.toNat v12))).map o51).take (Int.toNat v12)) = true, ((clrT a11 (GPair.mk 0 0 0) (Int.toNat v12) (subO (Int.toNat (((a11.map o51).length : Nat) : Int)) (Int.toNat v12))).map o51).take (Int.toNat v12) = (l23.map o51), noRoLL (l23.map o51) = true]) (by kernel_rfl) ⟨rfl, c21, (sl0 hl22), (sl1e o51 hl22), (Int.le_refl _), (litR_map (fun _ => rfl) _), (clBe o51 hl22), (clrM o51 rfl), (lnClre o51 hl22), (sl0 hl23), (sl1 hl23), (sl2 o51 hl23), (treeW0 t51 hl23), (winT0 o51 hl23), (noRoM n51), trivial⟩
noncomputable def slices_Compact_Pair_Pair_l0  (p1 : (List GPair)) : Nat → (List GPair) → Int → Option (List GPair)
  | 0, _, _ => none
  | n + 1, a4, v5 =>
  if (decide (v5 < (a4.length : Int))) = true then
    Option.bind (rd a4 v5) fun x7 =>
    Option.bind (rd a4 (w64 (v5 - 1))) fun x8 =>
    if (decide (x7 = x8)) = true then
      Option.bind (slc a4 v5 (a4.length : Int)) fun l10 =>
      slices_Compact_Pair_Pair_l1 (slices_Compact_Pair_Pair_l0 p1 n) p1 a4 v5 FU a4 v5 1
    else
      slices_Compact_Pair_Pair_l0 p1 n a4 (w64 (v5 + 1))
  else
    some a4
theorem slices_Compact_Pair_Pair_l0_m {E : Env} (hP : E.P = Try.prog) (hn : E.n = 61) (hx : ∀ p, p ∈ E.fx → p.1 ∈ ([] : List Nat)) (p1 : (List GPair))  : ∀ (n : Nat) (a4 : (List GPair)) (v5 : Int) (r : (List GPair)), slices_Compact_Pair_Pair_l0 p1 n a4 v5 = some r → WAt E body74 (FQ (RetE Θ Try.f74.results.toList [false] [⟨51, 3, (p1.map o51)⟩] (AV.own 51 3 (r.map o51)) E)) [true, true, false, true, false] ⟨[(0, (AV.sl 1 0 (List.length (a4.map o51)))), (3, (I v5))], [(1, some ⟨51, 3, (a4.map o51)⟩)], [1, JJ]⟩ := by
  have hm : E.P.follows .mixedOrders = true := by rw [hP]; exact mixed
  have hΘ : TOK E.P Θ := by rw [hP]; exact Θ_ok
  intro n
  induction n with
  | zero => intro a4 v5 r h; simp only [slices_Compact_Pair_Pair_l0] at h; cases h
  | succ n ih =>
    intro a4 v5 r h
    simp only [slices_Compact_Pair_Pair_l0] at h
    rcases itS h with ⟨c6, h⟩ | ⟨c25, h⟩
    · obtain ⟨x7, hx7, h⟩ := bnS h
      obtain ⟨x8, hx8, h⟩ := bnS h
      rcases itS h with ⟨c9, h⟩ | ⟨c24, h⟩
      · obtain ⟨l10, hl10, h⟩ := bnS h
        exact go_to hΘ hm hx hP hn (hs := [⟨2, .no, some (I (a4.length : Int))⟩, ⟨4, .br true, none⟩, ⟨8, .row ((o51 x7)), none⟩, ⟨13, .row ((o51 x8)), none⟩, ⟨14, .bin (B (decide (x7 = x8))), none⟩, ⟨15, .br true, none⟩]) (π := [(1, 1)]) (ts := [0, 3, 4, 5]) (kp := []) (ps := [AV.lit (.int .i64 (((List.length (a4.map o51)) : Nat) : Int)) = (I (a4.length : Int)), (decide (v5 < (a4.length : Int))) = true, (0 : Int) ≤ v5, v5 < (((List.length (a4.map o51)) : Nat) : Int), (a4.map o51)[(Int.toNat v5)]? = some ((o51 x7)), (0 : Int) ≤ (w64 (v5 - 1)), (w64 (v5 - 1)) < (((List.length (a4.map o51)) : Nat) : Int), (a4.map o51)[(Int.toNat (w64 (v5 - 1)))]? = some ((o51 x8)), BinS Try.prog .eql 51 (AV.agg ((o51 x7))) (AV.agg ((o51 x8))) (B (decide (x7 = x8))), (decide (x7 = x8)) = true, (0 : Int) ≤ v5, v5 ≤ (((a4.map o51).length : Nat) : Int), (((a4.map o51).length : Nat) : Int) ≤ (((List.length (a4.map o51)) : Nat) : Int), RenOK [(1, 1)] (a4.map o51)]) (by kernel_rfl) ⟨(lenM o51), c6, (rd0 hx7), (rdL o51 hx7), (rdM o51 hx7), (rd0 hx8), (rdL o51 hx8), (rdM o51 hx8), (eqs51 _ _), c9, (sl0 hl10), (sl1e o51 hl10), (Int.le_refl _), (rok (treeM t51)), trivial⟩ (slices_Compact_Pair_Pair_l1_m hP hn hx p1 a4 v5 ih FU a4 v5 1 _ h)
      · exact go_to hΘ hm hx hP hn (hs := [⟨2, .no, some (I (a4.length : Int))⟩, ⟨4, .br true, none⟩, ⟨8, .row ((o51 x7)), none⟩, ⟨13, .row ((o51 x8)), none⟩, ⟨14, .bin (B (decide (x7 = x8))), none⟩, ⟨15, .br false, none⟩]) (π := [(1, 1)]) (ts := [0, 3]) (kp := []) (ps := [AV.lit (.int .i64 (((List.length (a4.map o51)) : Nat) : Int)) = (I (a4.length : Int)), (decide (v5 < (a4.length : Int))) = true, (0 : Int) ≤ v5, v5 < (((List.length (a4.map o51)) : Nat) : Int), (a4.map o51)[(Int.toNat v5)]? = some ((o51 x7)), (0 : Int) ≤ (w64 (v5 - 1)), (w64 (v5 - 1)) < (((List.length (a4.map o51)) : Nat) : Int), (a4.map o51)[(Int.toNat (w64 (v5 - 1)))]? = some ((o51 x8)), BinS Try.prog .eql 51 (AV.agg ((o51 x7))) (AV.agg ((o51 x8))) (B (decide (x7 = x8))), (decide (x7 = x8)) = false, RenOK [(1, 1)] (a4.map o51)]) (by kernel_rfl) ⟨(lenM o51), c6, (rd0 hx7), (rdL o51 hx7), (rdM o51 hx7), (rd0 hx8), (rdL o51 hx8), (rdM o51 hx8), (eqs51 _ _), c24, (rok (treeM t51)), trivial⟩ (ih a4 (w64 (v5 + 1)) _ h)
    · have h := Option.some.inj h
      subst h
      exact go_ret hΘ hm hP hn (hs := [⟨2, .no, some (I (a4.length : Int))⟩, ⟨4, .br false, none⟩]) (rh := []) (ph := .own) (ps := [AV.lit (.int .i64 (((List.length (a4.map o51)) : Nat) : Int)) = (I (a4.length : Int)), (decide (v5 < (a4.length : Int))) = false, treeLL ((a4.map o51).take (List.length (a4.map o51))) = true, (a4.map o51).take (List.length (a4.map o51)) = (a4.map o51), noRoLL (a4.map o51) = true]) (by kernel_rfl) ⟨(lenM o51), c25, (treeT t51), takeM, (noRoM n51), trivial⟩
noncomputable def slices_Compact_Pair_Pair (p1 : (List GPair)) : Option (List GPair) :=
  if (decide ((p1.length : Int) < 2)) = true then
    some p1
  else
    slices_Compact_Pair_Pair_l0 p1 FU p1 1
theorem slices_Compact_Pair_Pair_m {p1 : (List GPair)} {r : (List GPair)} (h : slices_Compact_Pair_Pair p1 = some r) : MeetsR Try.prog 74 [⟨51, 3, (p1.map o51)⟩] [(AV.sl 0 0 (List.length (p1.map o51)))] [false] [⟨51, 3, (p1.map o51)⟩] (AV.own 51 3 (r.map o51)) := by
  refine meetsR_of Θ_ok Try.func74 rfl (c := body74) (by kernel_rfl) (Nat.le_of_ble_eq_true rfl) rfl (Nat.le_of_ble_eq_true rfl) rfl (fr := []) (frI rfl) ?_
  intro E hP hn hx
  replace hn : E.n = 61 := hn
  have hm : E.P.follows .mixedOrders = true := by rw [hP]; exact mixed
  have hΘ : TOK E.P Θ := by rw [hP]; exact Θ_ok
  unfold slices_Compact_Pair_Pair at h
  show WAt E body74 (FQ (RetE Θ Try.f74.results.toList [false] [⟨51, 3, (p1.map o51)⟩] (AV.own 51 3 (r.map o51)) E)) [] ⟨[(0, (AV.sl 0 0 (List.length (p1.map o51))))], [(0, some ⟨51, 3, (p1.map o51)⟩)], [0, JJ]⟩
  rcases itS h with ⟨c2, h⟩ | ⟨c3, h⟩
  · have h := Option.some.inj h
    subst h
    exact go_ret hΘ hm hP hn (hs := [⟨2, .no, some (I (p1.length : Int))⟩, ⟨4, .br true, none⟩]) (rh := []) (ph := .own) (ps := [AV.lit (.int .i64 (((List.length (p1.map o51)) : Nat) : Int)) = (I (p1.length : Int)), (decide ((p1.length : Int) < 2)) = true, treeLL ((p1.map o51).take (List.length (p1.map o51))) = true, (p1.map o51).take (List.length (p1.map o51)) = (p1.map o51), noRoLL (p1.map o51) = true]) (by kernel_rfl) ⟨(lenM o51), c2, (treeT t51), takeM, (noRoM n51), trivial⟩
  · exact go_to hΘ hm hx hP hn (hs := [⟨2, .no, some (I (p1.length : Int))⟩, ⟨4, .br false, none⟩]) (π := [(0, 1)]) (ts := [0, 3]) (kp := []) (ps := [AV.lit (.int .i64 (((List.length (p1.map o51)) : Nat) : Int)) = (I (p1.length : Int)), (decide ((p1.length : Int) < 2)) = false, RenOK [(0, 1)] (p1.map o51)]) (by kernel_rfl) ⟨(lenM o51), c3, (rok (treeM t51)), trivial⟩ (slices_Compact_Pair_Pair_l0_m hP hn hx p1 FU p1 1 _ h)
section
open Go.RowKit Go.Sort Go.Shelf Go.Proofs
shelf_lay_g SlLaysF0.n6 Slsf 6 at Try 73 as Try.srk73
end
def enc73 (x : GPair) : List Value := [.int .i64 x.Cell, .int .i64 x.One, .int .i64 x.Two]
noncomputable def slices_SortFunc_Pair_Pair__impl_Pair_order (p1 : (List GPair)) : Option (Unit × (List GPair)) :=
  srtK impl_Pair_order p1
theorem slices_SortFunc_Pair_Pair__impl_Pair_order_m {p1 : (List GPair)} {r : (Unit × (List GPair))} (h : slices_SortFunc_Pair_Pair__impl_Pair_order p1 = some r) : MeetsR Try.prog 73 [⟨51, 3, (p1.map o51)⟩] [(AV.sl 0 0 (List.length (p1.map o51))), (AV.fn 72 [])] [true] [⟨51, 3, (r.2.map o51)⟩] (AV.tup []) := by
  obtain ⟨⟨h1, h2⟩, rfl⟩ := srtKE h
  haveI : Inhabited GPair := ⟨(GPair.mk 0 0 0)⟩
  exact meetsR_sortK Try.srk73 (Go.Proofs.enters_of Try.func73 rfl rfl) 51 3 (fun w => by kernel_rfl) (fun w => by kernel_rfl) enc73 (fun _ => rfl) (by intro x v hv; simp only [enc73, List.mem_cons, List.not_mem_nil, or_false] at hv; rcases hv with rfl | rfl | rfl <;> rfl) (by intro x v hv; simp only [enc73, List.mem_cons, List.not_mem_nil, or_false] at hv; rcases hv with rfl | rfl | rfl <;> rfl) 72 (Go.Proofs.enters_of Try.func72 rfl rfl) impl_Pair_order (fun x y r h => impl_Pair_order_m h) p1 h1 h2
noncomputable def body40 : Code := match Try.f40.body with | some c => c | none => .skip
noncomputable def impl_pairs (p1 : (List GPair)) : Option (List GPair) :=
  Option.bind (slices_SortFunc_Pair_Pair__impl_Pair_order p1) fun r2 =>
  Option.bind (sameLen p1 r2.2) fun q3 =>
  Option.bind (slices_Compact_Pair_Pair r2.2) fun r4 =>
  some r4
theorem impl_pairs_m {p1 : (List GPair)} {r : (List GPair)} (h : impl_pairs p1 = some r) : MeetsR Try.prog 40 [⟨51, 3, (p1.map o51)⟩] [(AV.sl 0 0 (List.length (p1.map o51)))] [false] [⟨51, 3, (p1.map o51)⟩] (AV.own 51 3 (r.map o51)) := by
  refine meetsR_of Θ_ok Try.func40 rfl (c := body40) (by kernel_rfl) (Nat.le_of_ble_eq_true rfl) rfl (Nat.le_of_ble_eq_true rfl) rfl (fr := []) (frI rfl) ?_
  intro E hP hn hx
  replace hn : E.n = 7 := hn
  have hm : E.P.follows .mixedOrders = true := by rw [hP]; exact mixed
  have hΘ : TOK E.P Θ := by rw [hP]; exact Θ_ok
  unfold impl_pairs at h
  show WAt E body40 (FQ (RetE Θ Try.f40.results.toList [false] [⟨51, 3, (p1.map o51)⟩] (AV.own 51 3 (r.map o51)) E)) [] ⟨[(0, (AV.sl 0 0 (List.length (p1.map o51))))], [(0, some ⟨51, 3, (p1.map o51)⟩)], [0, JJ]⟩
  obtain ⟨r2, hr2, h⟩ := bnS h
  obtain ⟨q3, hq3, h⟩ := bnS h
  obtain ⟨r4, hr4, h⟩ := bnS h
  have h := Option.some.inj h
  subst h
  exact go_ret hΘ hm hP hn (hs := [⟨2, .callX [0] [true] [⟨51, 3, (p1.map o51)⟩] [⟨51, 3, (r2.2.map o51)⟩] [] (AV.tup []) [] (AV.tup []) [], none⟩, ⟨3, .slen 0 (List.length (r2.2.map o51)), none⟩, ⟨4, .callX [0] [false] [⟨51, 3, (r2.2.map o51)⟩] [⟨51, 3, (r2.2.map o51)⟩] [] (AV.own 51 3 (r4.map o51)) [1001] (AV.sl 1001 0 (List.length (r4.map o51))) [(1001, ⟨51, 3, (r4.map o51)⟩)], none⟩]) (rh := []) (ph := .own) (ps := [MeetsR Try.prog 73 [⟨51, 3, (p1.map o51)⟩] [(AV.sl 0 0 (List.length (p1.map o51))), (AV.fn 72 [])] [true] [⟨51, 3, (r2.2.map o51)⟩] (AV.tup []), (some (Root.mk 51 3 (p1.map o51)) = some (Root.mk 51 3 (p1.map o51))) ∧ True, (treeLL (p1.map o51) = true ∧ noRoLL (p1.map o51) = true) ∧ True, ((r2.2.map o51).length = (p1.map o51).length) ∧ True, (rtf (renA [(0, 0)] (AV.tup [])) []).1 = (AV.tup []), (rtf (renA [(0, 0)] (AV.tup [])) []).2.1 = [], (List.length (p1.map o51)) = (List.length (r2.2.map o51)), MeetsR Try.prog 74 [⟨51, 3, (r2.2.map o51)⟩] [(AV.sl 0 0 (List.length (r2.2.map o51)))] [false] [⟨51, 3, (r2.2.map o51)⟩] (AV.own 51 3 (r4.map o51)), (some (Root.mk 51 3 (r2.2.map o51)) = some (Root.mk 51 3 (r2.2.map o51))) ∧ True, (treeLL (r2.2.map o51) = true ∧ noRoLL (r2.2.map o51) = true) ∧ True, ((r2.2.map o51).length = (r2.2.map o51).length) ∧ True, (rtf (renA [] (AV.own 51 3 (r4.map o51))) [1001]).1 = (AV.sl 1001 0 (List.length (r4.map o51))), (rtf (renA [] (AV.own 51 3 (r4.map o51))) [1001]).2.1 = [(1001, ⟨51, 3, (r4.map o51)⟩)], treeLL ((r4.map o51).take (List.length (r4.map o51))) = true, (r4.map o51).take (List.length (r4.map o51)) = (r4.map o51), noRoLL (r4.map o51) = true]) (by kernel_rfl) ⟨(slices_SortFunc_Pair_Pair__impl_Pair_order_m hr2), ⟨rfl, trivial⟩, ⟨⟨treeM t51, noRoM n51⟩, trivial⟩, ⟨(sameLenE o51 hq3), trivial⟩, rfl, rfl, (sameLenE o51 hq3).symm, (slices_Compact_Pair_Pair_m hr4), ⟨rfl, trivial⟩, ⟨⟨treeM t51, noRoM n51⟩, trivial⟩, ⟨rfl, trivial⟩, rfl, rfl, (treeT t51), takeM, (noRoM n51), trivial⟩
section
open Go.RowKit
theorem grow75_calls (n : Nat) (w : World) (hn : n ≤ 1099511627776) : Calls Try.prog 75 #[.slice none 0 0, .int .i64 n] w fun e w' => ∃ v, e = .returned v ∧ w'.ownsRow w.heap.size 51 3 v 0 [] ∧ w.grownBy w' none ∧ w.drawn ≤ w'.drawn := by
  have mixed : Try.prog.follows .mixedOrders = true := mixed
  have tS : Try.prog.underlying 24 = some (.slice 51) := tiOf_und ty24
  have uS := run_underlying tS
  have zE : ∀ w, (Go.sizeOf 51).run Try.prog w = .ok 3 w := fun w => by kernel_rfl
  have aS : ∀ w, (isAgg 24).run Try.prog w = .ok false w := fun w => by kernel_rfl
  have zS : ∀ w, (Go.sizeOf 24).run Try.prog w = .ok 1 w := fun w => by kernel_rfl
  go_enter Try.func75, Try.ntmps75
  by_cases h0 : n = 0
  · subst h0
    go_wp2
    go_ret
    exact ⟨_, rfl, ⟨rfl, .inl ⟨rfl, rfl⟩⟩, ⟨rfl, rfl, rfl, Nat.le_refl _, fun _ _ _ => rfl⟩, Nat.le_refl _⟩
  · obtain ⟨cap, w1, ha, hc, ho, hg, hd⟩ := append_make_cut w ty24 rfl ty3 rfl ty51 rfl (by decide) (by decide) n (by omega) hn
    go_wp2_with (first | (at_builtin; refine wpList_append_make _ rfl _ _ _ _ rfl n _ w1 rfl rfl ha ?_) | go_in)
    go_ret
    exact ⟨_, rfl, ho, hg, hd⟩
end
noncomputable def slices_Grow_Pair_Pair (p1 : Int) : Option (List GPair) :=
  growK p1
theorem slices_Grow_Pair_Pair_m {p1 : Int} {r : (List GPair)} (h : slices_Grow_Pair_Pair p1 = some r) : Meets Try.prog 75 [(AV.lit (.slice none 0 0)), (I p1)] (AV.own 51 3 (r.map o51)) := by
  obtain ⟨h1, rfl⟩ := growKE h
  exact meets_grow (Go.Proofs.enters_of Try.func75 rfl rfl) (fun n w h => grow75_calls n w h) p1 h1
noncomputable def body41 : Code := match Try.f41.body with | some c => c | none => .skip
noncomputable def slices_Concat_Pair_Pair_l1  (p1 : (List (List GPair))) : Nat → (List GPair) → Int → Option (List GPair)
  | 0, _, _ => none
  | n + 1, a10, v11 =>
  if (decide (v11 < (p1.length : Int))) = true then
    Option.bind (rd p1 v11) fun x13 =>
    Option.bind (app a10 x13) fun l14 =>
    slices_Concat_Pair_Pair_l1 p1 n l14 (w64 (v11 + 1))
  else
    some a10
theorem slices_Concat_Pair_Pair_l1_m {E : Env} (hP : E.P = Try.prog) (hn : E.n = 36) (hx : ∀ p, p ∈ E.fx → p.1 ∈ ([] : List Nat)) (p1 : (List (List GPair)))  : ∀ (n : Nat) (a10 : (List GPair)) (v11 : Int) (r : (List GPair)), slices_Concat_Pair_Pair_l1 p1 n a10 v11 = some r → WAt E body41 (FQ (RetE Θ Try.f41.results.toList [] [] (AV.own 51 3 (r.map o51)) E)) [true, true, true, true, false, true, false] ⟨[(6, (AV.sl 1 0 (List.length (a10.map o51)))), (25, (AV.ro 1 (p1.map r24))), (26, (I (p1.length : Int))), (27, (I v11))], [(1, some ⟨51, 3, (a10.map o51)⟩)], [1, JJ]⟩ := by
  have hm : E.P.follows .mixedOrders = true := by rw [hP]; exact mixed
  have hΘ : TOK E.P Θ := by rw [hP]; exact Θ_ok
  intro n
  induction n with
  | zero => intro a10 v11 r h; simp only [slices_Concat_Pair_Pair_l1] at h; cases h
  | succ n ih =>
    intro a10 v11 r h
    simp only [slices_Concat_Pair_Pair_l1] at h
    rcases itS h with ⟨c12, h⟩ | ⟨c15, h⟩
    · obtain ⟨x13, hx13, h⟩ := bnS h
      obtain ⟨l14, hl14, h⟩ := bnS h
      exact go_to hΘ hm hx hP hn (hs := [⟨1, .br true, none⟩, ⟨2, .row (r24 x13), none⟩, ⟨7, .app 1001 (l14.map o51), none⟩]) (π := [(1001, 1)]) (ts := [6, 25, 26, 27]) (kp := []) (ps := [(decide (v11 < (p1.length : Int))) = true, (0 : Int) ≤ v11, (p1.map r24)[(Int.toNat v11)]? = some (r24 x13), (a10.map o51).take (List.length (a10.map o51)) ++ (x13.map o51) = (l14.map o51), (x13.map o51).all (fun r => r.all AV.plain) = true, (List.length (l14.map o51)) * 24 ≤ 140737488355328, (List.length (l14.map o51)) ≤ 140737488355328, RenOK [(1001, 1)] (l14.map o51)]) (by kernel_rfl) ⟨c12, (rd0 hx13), (rdM r24 hx13), (appT o51 hl14), (plM p51), (appB o51 hl14 (by decide)), (appC o51 hl14), (rok (treeM t51)), trivial⟩ (ih l14 (w64 (v11 + 1)) _ h)
    · have h := Option.some.inj h
      subst h
      exact go_ret hΘ hm hP hn (hs := [⟨1, .br false, none⟩]) (rh := []) (ph := .own) (ps := [(decide (v11 < (p1.length : Int))) = false, treeLL ((a10.map o51).take (List.length (a10.map o51))) = true, (a10.map o51).take (List.length (a10.map o51)) = (a10.map o51), noRoLL (a10.map o51) = true]) (by kernel_rfl) ⟨c15, (treeT t51), takeM, (noRoM n51), trivial⟩
noncomputable def slices_Concat_Pair_Pair_l0  (p1 : (List (List GPair))) : Nat → Int → Int → Option (List GPair)
  | 0, _, _ => none
  | n + 1, v2, v3 =>
  if (decide (v3 < (p1.length : Int))) = true then
    Option.bind (rd p1 v3) fun x5 =>
    if (decide ((w64 (v2 + (x5.length : Int))) < 0)) = true then
      none
    else
      slices_Concat_Pair_Pair_l0 p1 n (w64 (v2 + (x5.length : Int))) (w64 (v3 + 1))
  else
    Option.bind (slices_Grow_Pair_Pair v2) fun r9 =>
    slices_Concat_Pair_Pair_l1 p1 FU r9 0
theorem slices_Concat_Pair_Pair_l0_m {E : Env} (hP : E.P = Try.prog) (hn : E.n = 36) (hx : ∀ p, p ∈ E.fx → p.1 ∈ ([] : List Nat)) (p1 : (List (List GPair)))  : ∀ (n : Nat) (v2 : Int) (v3 : Int) (r : (List GPair)), slices_Concat_Pair_Pair_l0 p1 n v2 v3 = some r → WAt E body41 (FQ (RetE Θ Try.f41.results.toList [] [] (AV.own 51 3 (r.map o51)) E)) [true, true, false, true, false] ⟨[(0, (AV.ro 1 (p1.map r24))), (3, (I v2)), (9, (AV.ro 1 (p1.map r24))), (10, (I (p1.length : Int))), (11, (I v3))], [], [JJ]⟩ := by
  have hm : E.P.follows .mixedOrders = true := by rw [hP]; exact mixed
  have hΘ : TOK E.P Θ := by rw [hP]; exact Θ_ok
  intro n
  induction n with
  | zero => intro v2 v3 r h; simp only [slices_Concat_Pair_Pair_l0] at h; cases h
  | succ n ih =>
    intro v2 v3 r h
    simp only [slices_Concat_Pair_Pair_l0] at h
    rcases itS h with ⟨c4, h⟩ | ⟨c8, h⟩
    · obtain ⟨x5, hx5, h⟩ := bnS h
      rcases itS h with ⟨c6, h⟩ | ⟨c7, h⟩
      · cases h
      · exact go_to hΘ hm hx hP hn (hs := [⟨1, .br true, none⟩, ⟨2, .row (r24 x5), none⟩, ⟨7, .no, some (I (x5.length : Int))⟩, ⟨12, .br false, none⟩]) (π := []) (ts := [0, 3, 9, 10, 11]) (kp := []) (ps := [(decide (v3 < (p1.length : Int))) = true, (0 : Int) ≤ v3, (p1.map r24)[(Int.toNat v3)]? = some (r24 x5), AV.lit (.int .i64 (((x5.map o51).length : Nat) : Int)) = (I (x5.length : Int)), (decide ((w64 (v2 + (x5.length : Int))) < 0)) = false]) (by kernel_rfl) ⟨c4, (rd0 hx5), (rdM r24 hx5), (lenM o51), c7, trivial⟩ (ih (w64 (v2 + (x5.length : Int))) (w64 (v3 + 1)) _ h)
    · obtain ⟨r9, hr9, h⟩ := bnS h
      exact go_to hΘ hm hx hP hn (hs := [⟨1, .br false, none⟩, ⟨3, .call [] (AV.own 51 3 (r9.map o51)) [1001], none⟩, ⟨6, .no, some (I (p1.length : Int))⟩]) (π := [(1001, 1)]) (ts := [6, 25, 26, 27]) (kp := []) (ps := [(decide (v3 < (p1.length : Int))) = false, Meets Try.prog 75 [(AV.lit (.slice none 0 0)), (I v2)] (AV.own 51 3 (r9.map o51)), noRo (AV.own 51 3 (r9.map o51)) = true, AV.lit (.int .i64 (((p1.map r24).length : Nat) : Int)) = (I (p1.length : Int)), RenOK [(1001, 1)] (r9.map o51)]) (by kernel_rfl) ⟨c8, (slices_Grow_Pair_Pair_m hr9), (by simp only [noRo, noRoL, noRoM n51, Bool.and_self]), (lenM r24), (rok (treeM t51)), trivial⟩ (slices_Concat_Pair_Pair_l1_m hP hn hx p1 FU r9 0 _ h)
noncomputable def slices_Concat_Pair_Pair (p1 : (List (List GPair))) : Option (List GPair) :=
  slices_Concat_Pair_Pair_l0 p1 FU 0 0
theorem slices_Concat_Pair_Pair_m {p1 : (List (List GPair))} {r : (List GPair)} (h : slices_Concat_Pair_Pair p1 = some r) : Meets Try.prog 41 [(AV.ro 1 (p1.map r24))] (AV.own 51 3 (r.map o51)) := by
  refine meets_ofC Θ_ok Try.func41 rfl (c := body41) (by kernel_rfl) (Nat.le_of_ble_eq_true rfl) ?_
  intro E hP hn hx
  replace hn : E.n = 36 := hn
  have hm : E.P.follows .mixedOrders = true := by rw [hP]; exact mixed
  have hΘ : TOK E.P Θ := by rw [hP]; exact Θ_ok
  unfold slices_Concat_Pair_Pair at h
  show WAt E body41 (FQ (RetE Θ Try.f41.results.toList [] [] (AV.own 51 3 (r.map o51)) E)) [] ⟨[(0, (AV.ro 1 (p1.map r24)))], [], [JJ]⟩
  exact go_to hΘ hm hx hP hn (hs := [⟨3, .no, some (I (p1.length : Int))⟩]) (π := []) (ts := [0, 3, 9, 10, 11]) (kp := []) (ps := [AV.lit (.int .i64 (((p1.map r24).length : Nat) : Int)) = (I (p1.length : Int))]) (by kernel_rfl) ⟨(lenM r24), trivial⟩ (slices_Concat_Pair_Pair_l0_m hP hn hx p1 FU 0 0 _ h)
noncomputable def body12 : Code := match Try.f12.body with | some c => c | none => .skip
noncomputable def impl_AddPairs_j0  (p1 : (List GPair)) (p2 : (List GPair))  : Option ((List GPair) × Bool) :=
  Option.bind (slices_Concat_Pair_Pair [p1, p2]) fun r9 =>
  Option.bind (impl_pairs r9) fun r10 =>
  if (decide ((r10.length : Int) > 200)) = true then
    some ([], false)
  else
    some (r10, true)
theorem impl_AddPairs_j0_m {E : Env} (hP : E.P = Try.prog) (hn : E.n = 24) (hx : ∀ p, p ∈ E.fx → p.1 ∈ ([] : List Nat)) (p1 : (List GPair)) (p2 : (List GPair))   (r : ((List GPair) × Bool)) (h : impl_AddPairs_j0 p1 p2  = some r) : WAt E body12 (FQ (RetE Θ Try.f12.results.toList [] [] (AV.tup [(AV.own 51 3 (r.1.map o51)), (B r.2)]) E)) [true, false, true, true] ⟨[(0, (AV.ro 3 (p1.map o51))), (1, (AV.ro 3 (p2.map o51)))], [], [JJ]⟩ := by
  have hm : E.P.follows .mixedOrders = true := by rw [hP]; exact mixed
  have hΘ : TOK E.P Θ := by rw [hP]; exact Θ_ok
  unfold impl_AddPairs_j0 at h
  obtain ⟨r9, hr9, h⟩ := bnS h
  obtain ⟨r10, hr10, h⟩ := bnS h
  rcases itS h with ⟨c11, h⟩ | ⟨c12, h⟩
  · have h := Option.some.inj h
    subst h
    exact go_ret hΘ hm hP hn (hs := [⟨2, .new 1001, none⟩, ⟨3, .call [(([p1, p2] : List (List GPair)).map r24)] (AV.own 51 3 (r9.map o51)) [1002], none⟩, ⟨4, .callX [1002] [false] [⟨51, 3, (r9.map o51)⟩] [⟨51, 3, (r9.map o51)⟩] [] (AV.own 51 3 (r10.map o51)) [1003] (AV.sl 1003 0 (List.length (r10.map o51))) [(1003, ⟨51, 3, (r10.map o51)⟩)], none⟩, ⟨7, .no, some (I (r10.length : Int))⟩, ⟨9, .br true, none⟩]) (rh := []) (ph := .agg [.own, .raw]) (ps := [Meets Try.prog 41 [(AV.ro 1 (([p1, p2] : List (List GPair)).map r24))] (AV.own 51 3 (r9.map o51)), noRo (AV.own 51 3 (r9.map o51)) = true, Frz (([[(AV.ro 3 (p1.map o51))], [(AV.ro 3 (p2.map o51))]].drop 0).take (List.length [[(AV.ro 3 (p1.map o51))], [(AV.ro 3 (p2.map o51))]])) (([p1, p2] : List (List GPair)).map r24), MeetsR Try.prog 40 [⟨51, 3, (r9.map o51)⟩] [(AV.sl 0 0 (List.length (r9.map o51)))] [false] [⟨51, 3, (r9.map o51)⟩] (AV.own 51 3 (r10.map o51)), (some (Root.mk 51 3 (r9.map o51)) = some (Root.mk 51 3 (r9.map o51))) ∧ True, (treeLL (r9.map o51) = true ∧ noRoLL (r9.map o51) = true) ∧ True, ((r9.map o51).length = (r9.map o51).length) ∧ True, (rtf (renA [] (AV.own 51 3 (r10.map o51))) [1003]).1 = (AV.sl 1003 0 (List.length (r10.map o51))), (rtf (renA [] (AV.own 51 3 (r10.map o51))) [1003]).2.1 = [(1003, ⟨51, 3, (r10.map o51)⟩)], AV.lit (.int .i64 (((List.length (r10.map o51)) : Nat) : Int)) = (I (r10.length : Int)), (decide ((r10.length : Int) > 200)) = true, (B false) = (B false), litA (B false) = true]) (by kernel_rfl) ⟨(slices_Concat_Pair_Pair_m hr9), (by simp only [noRo, noRoL, noRoM n51, Bool.and_self]), ⟨rfl, rfl⟩, (impl_pairs_m hr10), ⟨rfl, trivial⟩, ⟨⟨treeM t51, noRoM n51⟩, trivial⟩, ⟨rfl, trivial⟩, rfl, rfl, (lenM o51), c11, rfl, rfl, trivial⟩
  · have h := Option.some.inj h
    subst h
    exact go_ret hΘ hm hP hn (hs := [⟨2, .new 1001, none⟩, ⟨3, .call [(([p1, p2] : List (List GPair)).map r24)] (AV.own 51 3 (r9.map o51)) [1002], none⟩, ⟨4, .callX [1002] [false] [⟨51, 3, (r9.map o51)⟩] [⟨51, 3, (r9.map o51)⟩] [] (AV.own 51 3 (r10.map o51)) [1003] (AV.sl 1003 0 (List.length (r10.map o51))) [(1003, ⟨51, 3, (r10.map o51)⟩)], none⟩, ⟨7, .no, some (I (r10.length : Int))⟩, ⟨9, .br false, none⟩]) (rh := []) (ph := .agg [.own, .raw]) (ps := [Meets Try.prog 41 [(AV.ro 1 (([p1, p2] : List (List GPair)).map r24))] (AV.own 51 3 (r9.map o51)), noRo (AV.own 51 3 (r9.map o51)) = true, Frz (([[(AV.ro 3 (p1.map o51))], [(AV.ro 3 (p2.map o51))]].drop 0).take (List.length [[(AV.ro 3 (p1.map o51))], [(AV.ro 3 (p2.map o51))]])) (([p1, p2] : List (List GPair)).map r24), MeetsR Try.prog 40 [⟨51, 3, (r9.map o51)⟩] [(AV.sl 0 0 (List.length (r9.map o51)))] [false] [⟨51, 3, (r9.map o51)⟩] (AV.own 51 3 (r10.map o51)), (some (Root.mk 51 3 (r9.map o51)) = some (Root.mk 51 3 (r9.map o51))) ∧ True, (treeLL (r9.map o51) = true ∧ noRoLL (r9.map o51) = true) ∧ True, ((r9.map o51).length = (r9.map o51).length) ∧ True, (rtf (renA [] (AV.own 51 3 (r10.map o51))) [1003]).1 = (AV.sl 1003 0 (List.length (r10.map o51))), (rtf (renA [] (AV.own 51 3 (r10.map o51))) [1003]).2.1 = [(1003, ⟨51, 3, (r10.map o51)⟩)], AV.lit (.int .i64 (((List.length (r10.map o51)) : Nat) : Int)) = (I (r10.length : Int)), (decide ((r10.length : Int) > 200)) = false, treeLL ((r10.map o51).take (List.length (r10.map o51))) = true, (r10.map o51).take (List.length (r10.map o51)) = (r10.map o51), noRoLL (r10.map o51) = true, (B true) = (B true), litA (B true) = true]) (by kernel_rfl) ⟨(slices_Concat_Pair_Pair_m hr9), (by simp only [noRo, noRoL, noRoM n51, Bool.and_self]), ⟨rfl, rfl⟩, (impl_pairs_m hr10), ⟨rfl, trivial⟩, ⟨⟨treeM t51, noRoM n51⟩, trivial⟩, ⟨rfl, trivial⟩, rfl, rfl, (lenM o51), c12, (treeT t51), takeM, (noRoM n51), rfl, rfl, trivial⟩
noncomputable def impl_AddPairs (p1 : (List GPair)) (p2 : (List GPair)) : Option ((List GPair) × Bool) :=
  Option.bind (impl_areRising p1) fun r3 =>
  if (!r3) = true then
    some ([], false)
  else
    Option.bind (impl_areRising p2) fun r6 =>
    if (!r6) = true then
      some ([], false)
    else
      impl_AddPairs_j0 p1 p2
theorem impl_AddPairs_m {p1 : (List GPair)} {p2 : (List GPair)} {r : ((List GPair) × Bool)} (h : impl_AddPairs p1 p2 = some r) : Meets Try.prog 12 [(AV.ro 3 (p1.map o51)), (AV.ro 3 (p2.map o51))] (AV.tup [(AV.own 51 3 (r.1.map o51)), (B r.2)]) := by
  refine meets_ofC Θ_ok Try.func12 rfl (c := body12) (by kernel_rfl) (Nat.le_of_ble_eq_true rfl) ?_
  intro E hP hn hx
  replace hn : E.n = 24 := hn
  have hm : E.P.follows .mixedOrders = true := by rw [hP]; exact mixed
  have hΘ : TOK E.P Θ := by rw [hP]; exact Θ_ok
  unfold impl_AddPairs at h
  show WAt E body12 (FQ (RetE Θ Try.f12.results.toList [] [] (AV.tup [(AV.own 51 3 (r.1.map o51)), (B r.2)]) E)) [] ⟨[(0, (AV.ro 3 (p1.map o51))), (1, (AV.ro 3 (p2.map o51)))], [], [JJ]⟩
  obtain ⟨r3, hr3, h⟩ := bnS h
  rcases itS h with ⟨c4, h⟩ | ⟨c5, h⟩
  · have h := Option.some.inj h
    subst h
    exact go_ret hΘ hm hP hn (hs := [⟨3, .callV [] (B r3), none⟩, ⟨5, .no, some (B true)⟩]) (rh := []) (ph := .agg [.own, .raw]) (ps := [Meets Try.prog 39 [(AV.ro 3 (p1.map o51))] (B r3), litA (B r3) = true, (B (!r3)) = (B true), (B false) = (B false), litA (B false) = true]) (by kernel_rfl) ⟨(impl_areRising_m hr3), rfl, (litB c4), rfl, rfl, trivial⟩
  · obtain ⟨r6, hr6, h⟩ := bnS h
    rcases itS h with ⟨c7, h⟩ | ⟨c8, h⟩
    · have h := Option.some.inj h
      subst h
      exact go_ret hΘ hm hP hn (hs := [⟨3, .callV [] (B r3), none⟩, ⟨5, .no, some (B false)⟩, ⟨7, .callV [] (B r6), none⟩, ⟨10, .br true, none⟩]) (rh := []) (ph := .agg [.own, .raw]) (ps := [Meets Try.prog 39 [(AV.ro 3 (p1.map o51))] (B r3), litA (B r3) = true, (B (!r3)) = (B false), Meets Try.prog 39 [(AV.ro 3 (p2.map o51))] (B r6), litA (B r6) = true, (!r6) = true, (B false) = (B false), litA (B false) = true]) (by kernel_rfl) ⟨(impl_areRising_m hr3), rfl, (litB c5), (impl_areRising_m hr6), rfl, c7, rfl, rfl, trivial⟩
    · exact go_to hΘ hm hx hP hn (hs := [⟨3, .callV [] (B r3), none⟩, ⟨5, .no, some (B false)⟩, ⟨7, .callV [] (B r6), none⟩, ⟨10, .br false, none⟩]) (π := []) (ts := [0, 1]) (kp := []) (ps := [Meets Try.prog 39 [(AV.ro 3 (p1.map o51))] (B r3), litA (B r3) = true, (B (!r3)) = (B false), Meets Try.prog 39 [(AV.ro 3 (p2.map o51))] (B r6), litA (B r6) = true, (!r6) = false]) (by kernel_rfl) ⟨(impl_areRising_m hr3), rfl, (litB c5), (impl_areRising_m hr6), rfl, c8, trivial⟩ (impl_AddPairs_j0_m hP hn hx p1 p2  _ h)
noncomputable def body42 : Code := match Try.f42.body with | some c => c | none => .skip
noncomputable def laws_eqPair (p1 : GPair) (p2 : GPair) : Option Bool :=
  if (p1.Cell != p2.Cell) = true then
    some false
  else
    if (p1.One != p2.One) = true then
      some false
    else
      if (p1.Two != p2.Two) = true then
        some false
      else
        some true
theorem laws_eqPair_m {p1 : GPair} {p2 : GPair} {r : Bool} (h : laws_eqPair p1 p2 = some r) : Meets Try.prog 42 [(AV.agg ((o51 p1))), (AV.agg ((o51 p2)))] (B r) := by
  refine meets_ofC Θ_ok Try.func42 rfl (c := body42) (by kernel_rfl) (Nat.le_of_ble_eq_true rfl) ?_
  intro E hP hn hx
  replace hn : E.n = 20 := hn
  have hm : E.P.follows .mixedOrders = true := by rw [hP]; exact mixed
  have hΘ : TOK E.P Θ := by rw [hP]; exact Θ_ok
  unfold laws_eqPair at h
  show WAt E body42 (FQ (RetE Θ Try.f42.results.toList [] [] (B r) E)) [] ⟨[(0, (AV.agg ((o51 p1)))), (1, (AV.agg ((o51 p2))))], [], [JJ]⟩
  rcases itS h with ⟨c3, h⟩ | ⟨c4, h⟩
  · have h := Option.some.inj h
    subst h
    exact go_ret hΘ hm hP hn (hs := [⟨0, .new 1001, none⟩, ⟨1, .new 1002, none⟩, ⟨8, .br true, none⟩]) (rh := []) (ph := .raw) (ps := [(p1.Cell != p2.Cell) = true, (B false) = (B false), litA (B false) = true]) (by kernel_rfl) ⟨c3, rfl, rfl, trivial⟩
  · rcases itS h with ⟨c5, h⟩ | ⟨c6, h⟩
    · have h := Option.some.inj h
      subst h
      exact go_ret hΘ hm hP hn (hs := [⟨0, .new 1001, none⟩, ⟨1, .new 1002, none⟩, ⟨8, .br false, none⟩, ⟨14, .br true, none⟩]) (rh := []) (ph := .raw) (ps := [(p1.Cell != p2.Cell) = false, (p1.One != p2.One) = true, (B false) = (B false), litA (B false) = true]) (by kernel_rfl) ⟨c4, c5, rfl, rfl, trivial⟩
    · rcases itS h with ⟨c7, h⟩ | ⟨c8, h⟩
      · have h := Option.some.inj h
        subst h
        exact go_ret hΘ hm hP hn (hs := [⟨0, .new 1001, none⟩, ⟨1, .new 1002, none⟩, ⟨8, .br false, none⟩, ⟨14, .br false, none⟩, ⟨20, .br true, none⟩]) (rh := []) (ph := .raw) (ps := [(p1.Cell != p2.Cell) = false, (p1.One != p2.One) = false, (p1.Two != p2.Two) = true, (B false) = (B false), litA (B false) = true]) (by kernel_rfl) ⟨c4, c6, c7, rfl, rfl, trivial⟩
      · have h := Option.some.inj h
        subst h
        exact go_ret hΘ hm hP hn (hs := [⟨0, .new 1001, none⟩, ⟨1, .new 1002, none⟩, ⟨8, .br false, none⟩, ⟨14, .br false, none⟩, ⟨20, .br false, none⟩]) (rh := []) (ph := .raw) (ps := [(p1.Cell != p2.Cell) = false, (p1.One != p2.One) = false, (p1.Two != p2.Two) = false, (B true) = (B true), litA (B true) = true]) (by kernel_rfl) ⟨c4, c6, c8, rfl, rfl, trivial⟩
noncomputable def body13 : Code := match Try.f13.body with | some c => c | none => .skip
noncomputable def laws_eqPairS_l0  (p1 : (List GPair)) (p2 : (List GPair)) : Nat → Int → Option Bool
  | 0, _ => none
  | n + 1, v5 =>
  if (decide (v5 < (p1.length : Int))) = true then
    Option.bind (rd p1 v5) fun x7 =>
    Option.bind (rd p2 v5) fun x8 =>
    Option.bind (laws_eqPair x7 x8) fun r9 =>
    if (!r9) = true then
      some false
    else
      laws_eqPairS_l0 p1 p2 n (w64 (v5 + 1))
  else
    some true
theorem laws_eqPairS_l0_m {E : Env} (hP : E.P = Try.prog) (hn : E.n = 27) (hx : ∀ p, p ∈ E.fx → p.1 ∈ ([] : List Nat)) (p1 : (List GPair)) (p2 : (List GPair))  : ∀ (n : Nat) (v5 : Int) (r : Bool), laws_eqPairS_l0 p1 p2 n v5 = some r → WAt E body13 (FQ (RetE Θ Try.f13.results.toList [] [] (B r) E)) [true, true, false, true, false] ⟨[(0, (AV.ro 3 (p1.map o51))), (1, (AV.ro 3 (p2.map o51))), (5, (I v5))], [], [JJ]⟩ := by
  have hm : E.P.follows .mixedOrders = true := by rw [hP]; exact mixed
  have hΘ : TOK E.P Θ := by rw [hP]; exact Θ_ok
  intro n
  induction n with
  | zero => intro v5 r h; simp only [laws_eqPairS_l0] at h; cases h
  | succ n ih =>
    intro v5 r h
    simp only [laws_eqPairS_l0] at h
    rcases itS h with ⟨c6, h⟩ | ⟨c12, h⟩
    · obtain ⟨x7, hx7, h⟩ := bnS h
      obtain ⟨x8, hx8, h⟩ := bnS h
      obtain ⟨r9, hr9, h⟩ := bnS h
      rcases itS h with ⟨c10, h⟩ | ⟨c11, h⟩
      · have h := Option.some.inj h
        subst h
        exact go_ret hΘ hm hP hn (hs := [⟨2, .no, some (I (p1.length : Int))⟩, ⟨4, .br true, none⟩, ⟨7, .row (o51 x7), none⟩, ⟨11, .row (o51 x8), none⟩, ⟨13, .callV [[], []] (B r9), none⟩, ⟨15, .br true, none⟩]) (rh := []) (ph := .raw) (ps := [AV.lit (.int .i64 (((p1.map o51).length : Nat) : Int)) = (I (p1.length : Int)), (decide (v5 < (p1.length : Int))) = true, (0 : Int) ≤ v5, (p1.map o51)[(Int.toNat v5)]? = some (o51 x7), (0 : Int) ≤ v5, (p2.map o51)[(Int.toNat v5)]? = some (o51 x8), Meets Try.prog 42 [(AV.agg ((o51 x7))), (AV.agg ((o51 x8)))] (B r9), litA (B r9) = true, (!r9) = true, (B false) = (B false), litA (B false) = true]) (by kernel_rfl) ⟨(lenM o51), c6, (rd0 hx7), (rdM o51 hx7), (rd0 hx8), (rdM o51 hx8), (laws_eqPair_m hr9), rfl, c10, rfl, rfl, trivial⟩
      · exact go_to hΘ hm hx hP hn (hs := [⟨2, .no, some (I (p1.length : Int))⟩, ⟨4, .br true, none⟩, ⟨7, .row (o51 x7), none⟩, ⟨11, .row (o51 x8), none⟩, ⟨13, .callV [[], []] (B r9), none⟩, ⟨15, .br false, none⟩]) (π := []) (ts := [0, 1, 5]) (kp := []) (ps := [AV.lit (.int .i64 (((p1.map o51).length : Nat) : Int)) = (I (p1.length : Int)), (decide (v5 < (p1.length : Int))) = true, (0 : Int) ≤ v5, (p1.map o51)[(Int.toNat v5)]? = some (o51 x7), (0 : Int) ≤ v5, (p2.map o51)[(Int.toNat v5)]? = some (o51 x8), Meets Try.prog 42 [(AV.agg ((o51 x7))), (AV.agg ((o51 x8)))] (B r9), litA (B r9) = true, (!r9) = false]) (by kernel_rfl) ⟨(lenM o51), c6, (rd0 hx7), (rdM o51 hx7), (rd0 hx8), (rdM o51 hx8), (laws_eqPair_m hr9), rfl, c11, trivial⟩ (ih (w64 (v5 + 1)) _ h)
    · have h := Option.some.inj h
      subst h
      exact go_ret hΘ hm hP hn (hs := [⟨2, .no, some (I (p1.length : Int))⟩, ⟨4, .br false, none⟩]) (rh := []) (ph := .raw) (ps := [AV.lit (.int .i64 (((p1.map o51).length : Nat) : Int)) = (I (p1.length : Int)), (decide (v5 < (p1.length : Int))) = false, (B true) = (B true), litA (B true) = true]) (by kernel_rfl) ⟨(lenM o51), c12, rfl, rfl, trivial⟩
noncomputable def laws_eqPairS (p1 : (List GPair)) (p2 : (List GPair)) : Option Bool :=
  if ((p1.length : Int) != (p2.length : Int)) = true then
    some false
  else
    laws_eqPairS_l0 p1 p2 FU 0
theorem laws_eqPairS_m {p1 : (List GPair)} {p2 : (List GPair)} {r : Bool} (h : laws_eqPairS p1 p2 = some r) : Meets Try.prog 13 [(AV.ro 3 (p1.map o51)), (AV.ro 3 (p2.map o51))] (B r) := by
  refine meets_ofC Θ_ok Try.func13 rfl (c := body13) (by kernel_rfl) (Nat.le_of_ble_eq_true rfl) ?_
  intro E hP hn hx
  replace hn : E.n = 27 := hn
  have hm : E.P.follows .mixedOrders = true := by rw [hP]; exact mixed
  have hΘ : TOK E.P Θ := by rw [hP]; exact Θ_ok
  unfold laws_eqPairS at h
  show WAt E body13 (FQ (RetE Θ Try.f13.results.toList [] [] (B r) E)) [] ⟨[(0, (AV.ro 3 (p1.map o51))), (1, (AV.ro 3 (p2.map o51)))], [], [JJ]⟩
  rcases itS h with ⟨c3, h⟩ | ⟨c4, h⟩
  · have h := Option.some.inj h
    subst h
    exact go_ret hΘ hm hP hn (hs := [⟨2, .no, some (I (p1.length : Int))⟩, ⟨4, .no, some (I (p2.length : Int))⟩, ⟨6, .br true, none⟩]) (rh := []) (ph := .raw) (ps := [AV.lit (.int .i64 (((p1.map o51).length : Nat) : Int)) = (I (p1.length : Int)), AV.lit (.int .i64 (((p2.map o51).length : Nat) : Int)) = (I (p2.length : Int)), ((p1.length : Int) != (p2.length : Int)) = true, (B false) = (B false), litA (B false) = true]) (by kernel_rfl) ⟨(lenM o51), (lenM o51), c3, rfl, rfl, trivial⟩
  · exact go_to hΘ hm hx hP hn (hs := [⟨2, .no, some (I (p1.length : Int))⟩, ⟨4, .no, some (I (p2.length : Int))⟩, ⟨6, .br false, none⟩]) (π := []) (ts := [0, 1, 5]) (kp := []) (ps := [AV.lit (.int .i64 (((p1.map o51).length : Nat) : Int)) = (I (p1.length : Int)), AV.lit (.int .i64 (((p2.map o51).length : Nat) : Int)) = (I (p2.length : Int)), ((p1.length : Int) != (p2.length : Int)) = false]) (by kernel_rfl) ⟨(lenM o51), (lenM o51), c4, trivial⟩ (laws_eqPairS_l0_m hP hn hx p1 p2 FU 0 _ h)
noncomputable def body15 : Code := match Try.f15.body with | some c => c | none => .skip
noncomputable def laws_heldPairS_l0  (p1 : (List GPair)) : Nat → Int → Int → Option Int
  | 0, _, _ => none
  | n + 1, v3, v4 =>
  if (decide (v4 < (p1.length : Int))) = true then
    Option.bind (rd p1 v4) fun x6 =>
    if (x6.Cell != v3) = true then
      some (-1)
    else
      if (x6.One != (w64 (v3 + 1))) = true then
        some (-1)
      else
        if (x6.Two != (w64 ((w64 (v3 + 1)) + 1))) = true then
          some (-1)
        else
          laws_heldPairS_l0 p1 n (w64 ((w64 ((w64 (v3 + 1)) + 1)) + 1)) (w64 (v4 + 1))
  else
    some v3
theorem laws_heldPairS_l0_m {E : Env} (hP : E.P = Try.prog) (hn : E.n = 40) (hx : ∀ p, p ∈ E.fx → p.1 ∈ ([] : List Nat)) (p1 : (List GPair))  : ∀ (n : Nat) (v3 : Int) (v4 : Int) (r : Int), laws_heldPairS_l0 p1 n v3 v4 = some r → WAt E body15 (FQ (RetE Θ Try.f15.results.toList [] [] (I r) E)) [true, false, true, false] ⟨[(0, (AV.ro 3 (p1.map o51))), (1, (I v3)), (5, (I v4))], [], [JJ]⟩ := by
  have hm : E.P.follows .mixedOrders = true := by rw [hP]; exact mixed
  have hΘ : TOK E.P Θ := by rw [hP]; exact Θ_ok
  intro n
  induction n with
  | zero => intro v3 v4 r h; simp only [laws_heldPairS_l0] at h; cases h
  | succ n ih =>
    intro v3 v4 r h
    simp only [laws_heldPairS_l0] at h
    rcases itS h with ⟨c5, h⟩ | ⟨c13, h⟩
    · obtain ⟨x6, hx6, h⟩ := bnS h
      rcases itS h with ⟨c7, h⟩ | ⟨c8, h⟩
      · have h := Option.some.inj h
        subst h
        exact go_ret hΘ hm hP hn (hs := [⟨2, .no, some (I (p1.length : Int))⟩, ⟨4, .br true, none⟩, ⟨7, .row (o51 x6), none⟩, ⟨12, .br true, none⟩]) (rh := []) (ph := .raw) (ps := [AV.lit (.int .i64 (((p1.map o51).length : Nat) : Int)) = (I (p1.length : Int)), (decide (v4 < (p1.length : Int))) = true, (0 : Int) ≤ v4, (p1.map o51)[(Int.toNat v4)]? = some (o51 x6), (x6.Cell != v3) = true, (I (-1)) = (I (-1)), litA (I (-1)) = true]) (by kernel_rfl) ⟨(lenM o51), c5, (rd0 hx6), (rdM o51 hx6), c7, rfl, rfl, trivial⟩
      · rcases itS h with ⟨c9, h⟩ | ⟨c10, h⟩
        · have h := Option.some.inj h
          subst h
          exact go_ret hΘ hm hP hn (hs := [⟨2, .no, some (I (p1.length : Int))⟩, ⟨4, .br true, none⟩, ⟨7, .row (o51 x6), none⟩, ⟨12, .br false, none⟩, ⟨18, .row (o51 x6), none⟩, ⟨23, .br true, none⟩]) (rh := []) (ph := .raw) (ps := [AV.lit (.int .i64 (((p1.map o51).length : Nat) : Int)) = (I (p1.length : Int)), (decide (v4 < (p1.length : Int))) = true, (0 : Int) ≤ v4, (p1.map o51)[(Int.toNat v4)]? = some (o51 x6), (x6.Cell != v3) = false, (0 : Int) ≤ v4, (p1.map o51)[(Int.toNat v4)]? = some (o51 x6), (x6.One != (w64 (v3 + 1))) = true, (I (-1)) = (I (-1)), litA (I (-1)) = true]) (by kernel_rfl) ⟨(lenM o51), c5, (rd0 hx6), (rdM o51 hx6), c8, (rd0 hx6), (rdM o51 hx6), c9, rfl, rfl, trivial⟩
        · rcases itS h with ⟨c11, h⟩ | ⟨c12, h⟩
          · have h := Option.some.inj h
            subst h
            exact go_ret hΘ hm hP hn (hs := [⟨2, .no, some (I (p1.length : Int))⟩, ⟨4, .br true, none⟩, ⟨7, .row (o51 x6), none⟩, ⟨12, .br false, none⟩, ⟨18, .row (o51 x6), none⟩, ⟨23, .br false, none⟩, ⟨29, .row (o51 x6), none⟩, ⟨34, .br true, none⟩]) (rh := []) (ph := .raw) (ps := [AV.lit (.int .i64 (((p1.map o51).length : Nat) : Int)) = (I (p1.length : Int)), (decide (v4 < (p1.length : Int))) = true, (0 : Int) ≤ v4, (p1.map o51)[(Int.toNat v4)]? = some (o51 x6), (x6.Cell != v3) = false, (0 : Int) ≤ v4, (p1.map o51)[(Int.toNat v4)]? = some (o51 x6), (x6.One != (w64 (v3 + 1))) = false, (0 : Int) ≤ v4, (p1.map o51)[(Int.toNat v4)]? = some (o51 x6), (x6.Two != (w64 ((w64 (v3 + 1)) + 1))) = true, (I (-1)) = (I (-1)), litA (I (-1)) = true]) (by kernel_rfl) ⟨(lenM o51), c5, (rd0 hx6), (rdM o51 hx6), c8, (rd0 hx6), (rdM o51 hx6), c10, (rd0 hx6), (rdM o51 hx6), c11, rfl, rfl, trivial⟩
          · exact go_to hΘ hm hx hP hn (hs := [⟨2, .no, some (I (p1.length : Int))⟩, ⟨4, .br true, none⟩, ⟨7, .row (o51 x6), none⟩, ⟨12, .br false, none⟩, ⟨18, .row (o51 x6), none⟩, ⟨23, .br false, none⟩, ⟨29, .row (o51 x6), none⟩, ⟨34, .br false, none⟩]) (π := []) (ts := [0, 1, 5]) (kp := []) (ps := [AV.lit (.int .i64 (((p1.map o51).length : Nat) : Int)) = (I (p1.length : Int)), (decide (v4 < (p1.length : Int))) = true, (0 : Int) ≤ v4, (p1.map o51)[(Int.toNat v4)]? = some (o51 x6), (x6.Cell != v3) = false, (0 : Int) ≤ v4, (p1.map o51)[(Int.toNat v4)]? = some (o51 x6), (x6.One != (w64 (v3 + 1))) = false, (0 : Int) ≤ v4, (p1.map o51)[(Int.toNat v4)]? = some (o51 x6), (x6.Two != (w64 ((w64 (v3 + 1)) + 1))) = false]) (by kernel_rfl) ⟨(lenM o51), c5, (rd0 hx6), (rdM o51 hx6), c8, (rd0 hx6), (rdM o51 hx6), c10, (rd0 hx6), (rdM o51 hx6), c12, trivial⟩ (ih (w64 ((w64 ((w64 (v3 + 1)) + 1)) + 1)) (w64 (v4 + 1)) _ h)
    · have h := Option.some.inj h
      subst h
      exact go_ret hΘ hm hP hn (hs := [⟨2, .no, some (I (p1.length : Int))⟩, ⟨4, .br false, none⟩]) (rh := []) (ph := .raw) (ps := [AV.lit (.int .i64 (((p1.map o51).length : Nat) : Int)) = (I (p1.length : Int)), (decide (v4 < (p1.length : Int))) = false, (I v3) = (I v3), litA (I v3) = true]) (by kernel_rfl) ⟨(lenM o51), c13, rfl, rfl, trivial⟩
noncomputable def laws_heldPairS (p1 : (List GPair)) (p2 : Int) : Option Int :=
  laws_heldPairS_l0 p1 FU p2 0
theorem laws_heldPairS_m {p1 : (List GPair)} {p2 : Int} {r : Int} (h : laws_heldPairS p1 p2 = some r) : Meets Try.prog 15 [(AV.ro 3 (p1.map o51)), (I p2)] (I r) := by
  refine meets_ofC Θ_ok Try.func15 rfl (c := body15) (by kernel_rfl) (Nat.le_of_ble_eq_true rfl) ?_
  intro E hP hn hx
  replace hn : E.n = 40 := hn
  have hm : E.P.follows .mixedOrders = true := by rw [hP]; exact mixed
  have hΘ : TOK E.P Θ := by rw [hP]; exact Θ_ok
  unfold laws_heldPairS at h
  show WAt E body15 (FQ (RetE Θ Try.f15.results.toList [] [] (I r) E)) [] ⟨[(0, (AV.ro 3 (p1.map o51))), (1, (I p2))], [], [JJ]⟩
  exact go_to hΘ hm hx hP hn (hs := []) (π := []) (ts := [0, 1, 5]) (kp := []) (ps := []) (by kernel_rfl) trivial (laws_heldPairS_l0_m hP hn hx p1 FU p2 0 _ h)
noncomputable def body14 : Code := match Try.f14.body with | some c => c | none => .skip
noncomputable def laws_markPairS_l0   : Nat → (List GPair) → Int → Int → Option (Int × (List GPair))
  | 0, _, _, _ => none
  | n + 1, a3, v4, v5 =>
  if (decide (v5 < (a3.length : Int))) = true then
    Option.bind (rd a3 v5) fun x7 =>
    laws_markPairS_l0 n (a3.set (Int.toNat v5) (GPair.mk v4 (w64 (v4 + 1)) (w64 ((w64 (v4 + 1)) + 1)))) (w64 ((w64 ((w64 (v4 + 1)) + 1)) + 1)) (w64 (v5 + 1))
  else
    some (v4, a3)
theorem laws_markPairS_l0_m {E : Env} (hP : E.P = Try.prog) (hn : E.n = 34) (hx : ∀ p, p ∈ E.fx → p.1 ∈ ([0] : List Nat))   : ∀ (n : Nat) (a3 : (List GPair)) (v4 : Int) (v5 : Int) (r : (Int × (List GPair))), laws_markPairS_l0  n a3 v4 v5 = some r → WAt E body14 (FQ (RetE Θ Try.f14.results.toList [true] [⟨51, 3, (r.2.map o51)⟩] (I r.1) E)) [true, false, true, false] ⟨[(0, (AV.sl 0 0 (List.length (a3.map o51)))), (1, (I v4)), (5, (I v5))], [(0, some ⟨51, 3, (a3.map o51)⟩)], [0, JJ]⟩ := by
  have hm : E.P.follows .mixedOrders = true := by rw [hP]; exact mixed
  have hΘ : TOK E.P Θ := by rw [hP]; exact Θ_ok
  intro n
  induction n with
  | zero => intro a3 v4 v5 r h; simp only [laws_markPairS_l0] at h; cases h
  | succ n ih =>
    intro a3 v4 v5 r h
    simp only [laws_markPairS_l0] at h
    rcases itS h with ⟨c6, h⟩ | ⟨c8, h⟩
    · obtain ⟨x7, hx7, h⟩ := bnS h
      exact go_to hΘ hm hx hP hn (hs := [⟨2, .no, some (I (a3.length : Int))⟩, ⟨4, .br true, none⟩, ⟨10, .sto ((o51 x7)) ((a3.set (Int.toNat v5) (GPair.mk v4 x7.One x7.Two)).map o51), none⟩, ⟨14, .slen 0 (List.length ((a3.set (Int.toNat v5) (GPair.mk v4 x7.One x7.Two)).map o51)), none⟩, ⟨19, .sto [(I v4), (I x7.One), (I x7.Two)] ((a3.set (Int.toNat v5) (GPair.mk v4 (w64 (v4 + 1)) x7.Two)).map o51), none⟩, ⟨23, .slen 0 (List.length ((a3.set (Int.toNat v5) (GPair.mk v4 (w64 (v4 + 1)) x7.Two)).map o51)), none⟩, ⟨28, .sto [(I v4), (I (w64 (v4 + 1))), (I x7.Two)] ((a3.set (Int.toNat v5) (GPair.mk v4 (w64 (v4 + 1)) (w64 ((w64 (v4 + 1)) + 1)))).map o51), none⟩, ⟨35, .slen 0 (List.length ((a3.set (Int.toNat v5) (GPair.mk v4 (w64 (v4 + 1)) (w64 ((w64 (v4 + 1)) + 1)))).map o51)), none⟩]) (π := [(0, 0)]) (ts := [0, 1, 5]) (kp := []) (ps := [AV.lit (.int .i64 (((List.length (a3.map o51)) : Nat) : Int)) = (I (a3.length : Int)), (decide (v5 < (a3.length : Int))) = true, (0 : Int) ≤ v5, v5 < (((List.length (a3.map o51)) : Nat) : Int), (a3.map o51)[(Int.toNat v5)]? = some ((o51 x7)), (a3.map o51).set (Int.toNat v5) (wr ((o51 x7)) 0 [(I v4)]) = ((a3.set (Int.toNat v5) (GPair.mk v4 x7.One x7.Two)).map o51), [(I v4)].length = 1, 0 + [(I v4)].length ≤ ((o51 x7)).length, (List.length (a3.map o51)) = (List.length ((a3.set (Int.toNat v5) (GPair.mk v4 x7.One x7.Two)).map o51)), (0 : Int) ≤ v5, v5 < (((List.length ((a3.set (Int.toNat v5) (GPair.mk v4 x7.One x7.Two)).map o51)) : Nat) : Int), ((a3.set (Int.toNat v5) (GPair.mk v4 x7.One x7.Two)).map o51)[(Int.toNat v5)]? = some [(I v4), (I x7.One), (I x7.Two)], ((a3.set (Int.toNat v5) (GPair.mk v4 x7.One x7.Two)).map o51).set (Int.toNat v5) (wr [(I v4), (I x7.One), (I x7.Two)] 1 [(I (w64 (v4 + 1)))]) = ((a3.set (Int.toNat v5) (GPair.mk v4 (w64 (v4 + 1)) x7.Two)).map o51), [(I (w64 (v4 + 1)))].length = 1, 1 + [(I (w64 (v4 + 1)))].length ≤ [(I v4), (I x7.One), (I x7.Two)].length, (List.length ((a3.set (Int.toNat v5) (GPair.mk v4 x7.One x7.Two)).map o51)) = (List.length ((a3.set (Int.toNat v5) (GPair.mk v4 (w64 (v4 + 1)) x7.Two)).map o51)), (0 : Int) ≤ v5, v5 < (((List.length ((a3.set (Int.toNat v5) (GPair.mk v4 (w64 (v4 + 1)) x7.Two)).map o51)) : Nat) : Int), ((a3.set (Int.toNat v5) (GPair.mk v4 (w64 (v4 + 1)) x7.Two)).map o51)[(Int.toNat v5)]? = some [(I v4), (I (w64 (v4 + 1))), (I x7.Two)], ((a3.set (Int.toNat v5) (GPair.mk v4 (w64 (v4 + 1)) x7.Two)).map o51).set (Int.toNat v5) (wr [(I v4), (I (w64 (v4 + 1))), (I x7.Two)] 2 [(I (w64 ((w64 (v4 + 1)) + 1)))]) = ((a3.set (Int.toNat v5) (GPair.mk v4 (w64 (v4 + 1)) (w64 ((w64 (v4 + 1)) + 1)))).map o51), [(I (w64 ((w64 (v4 + 1)) + 1)))].length = 1, 2 + [(I (w64 ((w64 (v4 + 1)) + 1)))].length ≤ [(I v4), (I (w64 (v4 + 1))), (I x7.Two)].length, (List.length ((a3.set (Int.toNat v5) (GPair.mk v4 (w64 (v4 + 1)) x7.Two)).map o51)) = (List.length ((a3.set (Int.toNat v5) (GPair.mk v4 (w64 (v4 + 1)) (w64 ((w64 (v4 + 1)) + 1)))).map o51)), RenOK [(0, 0)] ((a3.set (Int.toNat v5) (GPair.mk v4 (w64 (v4 + 1)) (w64 ((w64 (v4 + 1)) + 1)))).map o51)]) (by kernel_rfl) ⟨(lenM o51), c6, (rd0 hx7), (rdL o51 hx7), (rdM o51 hx7), (setMr o51 (by kernel_rfl)), rfl, (Nat.le_of_ble_eq_true rfl), (by first | exact lnSet _ | exact lnSet2 _ | simp only [List.length_map, List.length_set, List.length_cons, List.length_nil]), (rd0 hx7), (rdL o51 (rdS (y := (GPair.mk v4 x7.One x7.Two)) hx7)), (rdM o51 (rdS (y := (GPair.mk v4 x7.One x7.Two)) hx7)), (setSS o51 (by kernel_rfl)), rfl, (Nat.le_of_ble_eq_true rfl), (by first | exact lnSet _ | exact lnSet2 _ | simp only [List.length_map, List.length_set, List.length_cons, List.length_nil]), (rd0 hx7), (rdL o51 (rdS (y := (GPair.mk v4 (w64 (v4 + 1)) x7.Two)) hx7)), (rdM o51 (rdS (y := (GPair.mk v4 (w64 (v4 + 1)) x7.Two)) hx7)), (setSS o51 (by kernel_rfl)), rfl, (Nat.le_of_ble_eq_true rfl), (by first | exact lnSet _ | exact lnSet2 _ | simp only [List.length_map, List.length_set, List.length_cons, List.length_nil]), (rok (treeM t51)), trivial⟩ (ih (a3.set (Int.toNat v5) (GPair.mk v4 (w64 (v4 + 1)) (w64 ((w64 (v4 + 1)) + 1)))) (w64 ((w64 ((w64 (v4 + 1)) + 1)) + 1)) (w64 (v5 + 1)) _ h)
    · have h := Option.some.inj h
      subst h
      exact go_ret hΘ hm hP hn (hs := [⟨2, .no, some (I (a3.length : Int))⟩, ⟨4, .br false, none⟩]) (rh := []) (ph := .raw) (ps := [AV.lit (.int .i64 (((List.length (a3.map o51)) : Nat) : Int)) = (I (a3.length : Int)), (decide (v5 < (a3.length : Int))) = false, (a3.map o51) = (a3.map o51), treeLL (a3.map o51) = true, noRoLL (a3.map o51) = true, (I v4) = (I v4), litA (I v4) = true]) (by kernel_rfl) ⟨(lenM o51), c8, rfl, (treeM t51), (noRoM n51), rfl, rfl, trivial⟩
noncomputable def laws_markPairS (p1 : (List GPair)) (p2 : Int) : Option (Int × (List GPair)) :=
  laws_markPairS_l0 FU p1 p2 0
theorem laws_markPairS_m {p1 : (List GPair)} {p2 : Int} {r : (Int × (List GPair))} (h : laws_markPairS p1 p2 = some r) : MeetsR Try.prog 14 [⟨51, 3, (p1.map o51)⟩] [(AV.sl 0 0 (List.length (p1.map o51))), (I p2)] [true] [⟨51, 3, (r.2.map o51)⟩] (I r.1) := by
  refine meetsR_of Θ_ok Try.func14 rfl (c := body14) (by kernel_rfl) (Nat.le_of_ble_eq_true rfl) rfl (Nat.le_of_ble_eq_true rfl) rfl (fr := [0]) (frI rfl) ?_
  intro E hP hn hx
  replace hn : E.n = 34 := hn
  have hm : E.P.follows .mixedOrders = true := by rw [hP]; exact mixed
  have hΘ : TOK E.P Θ := by rw [hP]; exact Θ_ok
  unfold laws_markPairS at h
  show WAt E body14 (FQ (RetE Θ Try.f14.results.toList [true] [⟨51, 3, (r.2.map o51)⟩] (I r.1) E)) [] ⟨[(0, (AV.sl 0 0 (List.length (p1.map o51)))), (1, (I p2))], [(0, some ⟨51, 3, (p1.map o51)⟩)], [0, JJ]⟩
  exact go_to hΘ hm hx hP hn (hs := []) (π := [(0, 0)]) (ts := [0, 1, 5]) (kp := []) (ps := [RenOK [(0, 0)] (p1.map o51)]) (by kernel_rfl) ⟨(rok (treeM t51)), trivial⟩ (laws_markPairS_l0_m hP hn hx FU p1 p2 0 _ h)
noncomputable def body9 : Code := match Try.f9.body with | some c => c | none => .skip
noncomputable def laws_szPairS (p1 : (List GPair)) (p2 : Int) : Option Int :=
  if (decide ((w64 (p2 - (p1.length : Int))) < 0)) = true then
    some (-1)
  else
    some (w64 (p2 - (p1.length : Int)))
theorem laws_szPairS_m {p1 : (List GPair)} {p2 : Int} {r : Int} (h : laws_szPairS p1 p2 = some r) : Meets Try.prog 9 [(AV.ro 3 (p1.map o53)), (I p2)] (I r) := by
  refine meets_ofC Θ_ok Try.func9 rfl (c := body9) (by kernel_rfl) (Nat.le_of_ble_eq_true rfl) ?_
  intro E hP hn hx
  replace hn : E.n = 12 := hn
  have hm : E.P.follows .mixedOrders = true := by rw [hP]; exact mixed
  have hΘ : TOK E.P Θ := by rw [hP]; exact Θ_ok
  unfold laws_szPairS at h
  show WAt E body9 (FQ (RetE Θ Try.f9.results.toList [] [] (I r) E)) [] ⟨[(0, (AV.ro 3 (p1.map o53))), (1, (I p2))], [], [JJ]⟩
  rcases itS h with ⟨c3, h⟩ | ⟨c4, h⟩
  · have h := Option.some.inj h
    subst h
    exact go_ret hΘ hm hP hn (hs := [⟨3, .no, some (I (p1.length : Int))⟩, ⟨8, .br true, none⟩]) (rh := []) (ph := .raw) (ps := [AV.lit (.int .i64 (((p1.map o53).length : Nat) : Int)) = (I (p1.length : Int)), (decide ((w64 (p2 - (p1.length : Int))) < 0)) = true, (I (-1)) = (I (-1)), litA (I (-1)) = true]) (by kernel_rfl) ⟨(lenM o53), c3, rfl, rfl, trivial⟩
  · have h := Option.some.inj h
    subst h
    exact go_ret hΘ hm hP hn (hs := [⟨3, .no, some (I (p1.length : Int))⟩, ⟨8, .br false, none⟩]) (rh := []) (ph := .raw) (ps := [AV.lit (.int .i64 (((p1.map o53).length : Nat) : Int)) = (I (p1.length : Int)), (decide ((w64 (p2 - (p1.length : Int))) < 0)) = false, (I (w64 (p2 - (p1.length : Int)))) = (I (w64 (p2 - (p1.length : Int)))), litA (I (w64 (p2 - (p1.length : Int)))) = true]) (by kernel_rfl) ⟨(lenM o53), c4, rfl, rfl, trivial⟩
noncomputable def body38 : Code := match Try.f38.body with | some c => c | none => .skip
noncomputable def laws_toPair (p1 : GPair) : Option GPair :=
  some (GPair.mk p1.Cell p1.One p1.Two)
theorem laws_toPair_m {p1 : GPair} {r : GPair} (h : laws_toPair p1 = some r) : Meets Try.prog 38 [(AV.agg ((o53 p1)))] (AV.agg (o51 r)) := by
  refine meets_ofC Θ_ok Try.func38 rfl (c := body38) (by kernel_rfl) (Nat.le_of_ble_eq_true rfl) ?_
  intro E hP hn hx
  replace hn : E.n = 14 := hn
  have hm : E.P.follows .mixedOrders = true := by rw [hP]; exact mixed
  have hΘ : TOK E.P Θ := by rw [hP]; exact Θ_ok
  unfold laws_toPair at h
  show WAt E body38 (FQ (RetE Θ Try.f38.results.toList [] [] (AV.agg (o51 r)) E)) [] ⟨[(0, (AV.agg ((o53 p1))))], [], [JJ]⟩
  have h := Option.some.inj h
  subst h
  exact go_ret hΘ hm hP hn (hs := [⟨0, .new 1001, none⟩, ⟨1, .new 1002, none⟩, ⟨2, .new 1003, none⟩]) (rh := []) (ph := .raw) (ps := [(AV.agg [(I p1.Cell), (I p1.One), (I p1.Two)]) = (AV.agg [(I p1.Cell), (I p1.One), (I p1.Two)]), litA (AV.agg [(I p1.Cell), (I p1.One), (I p1.Two)]) = true]) (by kernel_rfl) ⟨rfl, rfl, trivial⟩
noncomputable def body11 : Code := match Try.f11.body with | some c => c | none => .skip
noncomputable def laws_toPairS_l0  (p1 : (List GPair)) : Nat → (List GPair) → Int → Option (List GPair)
  | 0, _, _ => none
  | n + 1, a3, v4 =>
  if (decide (v4 < (p1.length : Int))) = true then
    Option.bind (rd p1 v4) fun x6 =>
    Option.bind (laws_toPair x6) fun r7 =>
    Option.bind (rd a3 v4) fun x8 =>
    laws_toPairS_l0 p1 n (a3.set (Int.toNat v4) r7) (w64 (v4 + 1))
  else
    some a3
theorem laws_toPairS_l0_m {E : Env} (hP : E.P = Try.prog) (hn : E.n = 23) (hx : ∀ p, p ∈ E.fx → p.1 ∈ ([] : List Nat)) (p1 : (List GPair))  : ∀ (n : Nat) (a3 : (List GPair)) (v4 : Int) (r : (List GPair)), laws_toPairS_l0 p1 n a3 v4 = some r → WAt E body11 (FQ (RetE Θ Try.f11.results.toList [] [] (AV.own 51 3 (r.map o51)) E)) [true, true, false, true, false] ⟨[(0, (AV.ro 3 (p1.map o53))), (3, (AV.sl 1 0 (List.length (a3.map o51)))), (4, (I v4))], [(1, some ⟨51, 3, (a3.map o51)⟩)], [1, JJ]⟩ := by
  have hm : E.P.follows .mixedOrders = true := by rw [hP]; exact mixed
  have hΘ : TOK E.P Θ := by rw [hP]; exact Θ_ok
  intro n
  induction n with
  | zero => intro a3 v4 r h; simp only [laws_toPairS_l0] at h; cases h
  | succ n ih =>
    intro a3 v4 r h
    simp only [laws_toPairS_l0] at h
    rcases itS h with ⟨c5, h⟩ | ⟨c9, h⟩
    · obtain ⟨x6, hx6, h⟩ := bnS h
      obtain ⟨r7, hr7, h⟩ := bnS h
      obtain ⟨x8, hx8, h⟩ := bnS h
      exact go_to hΘ hm hx hP hn (hs := [⟨2, .no, some (I (p1.length : Int))⟩, ⟨4, .br true, none⟩, ⟨9, .row (o53 x6), none⟩, ⟨11, .callV [[]] (AV.agg (o51 r7)), none⟩, ⟨13, .sto ((o51 x8)) ((a3.set (Int.toNat v4) r7).map o51), none⟩, ⟨17, .slen 3 (List.length ((a3.set (Int.toNat v4) r7).map o51)), none⟩]) (π := [(1, 1)]) (ts := [0, 3, 4]) (kp := []) (ps := [AV.lit (.int .i64 (((p1.map o53).length : Nat) : Int)) = (I (p1.length : Int)), (decide (v4 < (p1.length : Int))) = true, (0 : Int) ≤ v4, (p1.map o53)[(Int.toNat v4)]? = some (o53 x6), Meets Try.prog 38 [(AV.agg ((o53 x6)))] (AV.agg (o51 r7)), litA (AV.agg (o51 r7)) = true, (0 : Int) ≤ v4, v4 < (((List.length (a3.map o51)) : Nat) : Int), (a3.map o51)[(Int.toNat v4)]? = some ((o51 x8)), (a3.map o51).set (Int.toNat v4) (wr ((o51 x8)) 0 ((o51 r7))) = ((a3.set (Int.toNat v4) r7).map o51), ((o51 r7)).length = 3, 0 + ((o51 r7)).length ≤ ((o51 x8)).length, (List.length (a3.map o51)) = (List.length ((a3.set (Int.toNat v4) r7).map o51)), RenOK [(1, 1)] ((a3.set (Int.toNat v4) r7).map o51)]) (by kernel_rfl) ⟨(lenM o53), c5, (rd0 hx6), (rdM o53 hx6), (laws_toPair_m hr7), rfl, (rd0 hx8), (rdL o51 hx8), (rdM o51 hx8), (setMr o51 (by kernel_rfl)), rfl, (Nat.le_of_ble_eq_true rfl), (by first | exact lnSet _ | exact lnSet2 _ | simp only [List.length_map, List.length_set, List.length_cons, List.length_nil]), (rok (treeM t51)), trivial⟩ (ih (a3.set (Int.toNat v4) r7) (w64 (v4 + 1)) _ h)
    · have h := Option.some.inj h
      subst h
      exact go_ret hΘ hm hP hn (hs := [⟨2, .no, some (I (p1.length : Int))⟩, ⟨4, .br false, none⟩]) (rh := []) (ph := .own) (ps := [AV.lit (.int .i64 (((p1.map o53).length : Nat) : Int)) = (I (p1.length : Int)), (decide (v4 < (p1.length : Int))) = false, treeLL ((a3.map o51).take (List.length (a3.map o51))) = true, (a3.map o51).take (List.length (a3.map o51)) = (a3.map o51), noRoLL (a3.map o51) = true]) (by kernel_rfl) ⟨(lenM o53), c9, (treeT t51), takeM, (noRoM n51), trivial⟩
noncomputable def laws_toPairS (p1 : (List GPair)) : Option (List GPair) :=
  Option.bind (mk (GPair.mk 0 0 0) (p1.length : Int)) fun l2 =>
  laws_toPairS_l0 p1 FU l2 0
theorem laws_toPairS_m {p1 : (List GPair)} {r : (List GPair)} (h : laws_toPairS p1 = some r) : Meets Try.prog 11 [(AV.ro 3 (p1.map o53))] (AV.own 51 3 (r.map o51)) := by
  refine meets_ofC Θ_ok Try.func11 rfl (c := body11) (by kernel_rfl) (Nat.le_of_ble_eq_true rfl) ?_
  intro E hP hn hx
  replace hn : E.n = 23 := hn
  have hm : E.P.follows .mixedOrders = true := by rw [hP]; exact mixed
  have hΘ : TOK E.P Θ := by rw [hP]; exact Θ_ok
  unfold laws_toPairS at h
  show WAt E body11 (FQ (RetE Θ Try.f11.results.toList [] [] (AV.own 51 3 (r.map o51)) E)) [] ⟨[(0, (AV.ro 3 (p1.map o53)))], [], [JJ]⟩
  obtain ⟨l2, hl2, h⟩ := bnS h
  exact go_to hΘ hm hx hP hn (hs := [⟨2, .no, some (I (p1.length : Int))⟩, ⟨3, .nw 1001 (l2.map o51), some (AV.sl 1001 0 (List.length (l2.map o51)))⟩]) (π := [(1001, 1)]) (ts := [0, 3, 4]) (kp := []) (ps := [AV.lit (.int .i64 (((p1.map o53).length : Nat) : Int)) = (I (p1.length : Int)), List.replicate (Int.toNat (p1.length : Int)) [.lit (.int .i64 0), .lit (.int .i64 0), .lit (.int .i64 0)] = (l2.map o51), AV.sl 1001 0 (Int.toNat (p1.length : Int)) = (AV.sl 1001 0 (List.length (l2.map o51))), (p1.length : Int) = (p1.length : Int), (0 : Int) ≤ (p1.length : Int), (p1.length : Int) * ((24 : Nat) : Int) ≤ 140737488355328, (p1.length : Int) ≤ 140737488355328, RenOK [(1001, 1)] (l2.map o51)]) (by kernel_rfl) ⟨(lenM o53), (mkM o51 hl2), (mkS o51 hl2), rfl, (mk0 hl2), (mkB hl2 (by decide)), (mkC hl2), (rok (treeM t51)), trivial⟩ (laws_toPairS_l0_m hP hn hx p1 FU l2 0 _ h)
noncomputable def body69 : Code := match Try.f69.body with | some c => c | none => .skip
noncomputable def spec_l11Key (p1 : GPair) : Option Int :=
  some (w64 ((w64 ((w64 (p1.Cell * 1000000)) + (w64 (p1.One * 1000)))) + p1.Two))
theorem spec_l11Key_m {p1 : GPair} {r : Int} (h : spec_l11Key p1 = some r) : Meets Try.prog 69 [(AV.agg ((o51 p1)))] (I r) := by
  refine meets_ofC Θ_ok Try.func69 rfl (c := body69) (by kernel_rfl) (Nat.le_of_ble_eq_true rfl) ?_
  intro E hP hn hx
  replace hn : E.n = 13 := hn
  have hm : E.P.follows .mixedOrders = true := by rw [hP]; exact mixed
  have hΘ : TOK E.P Θ := by rw [hP]; exact Θ_ok
  unfold spec_l11Key at h
  show WAt E body69 (FQ (RetE Θ Try.f69.results.toList [] [] (I r) E)) [] ⟨[(0, (AV.agg ((o51 p1))))], [], [JJ]⟩
  have h := Option.some.inj h
  subst h
  exact go_ret hΘ hm hP hn (hs := [⟨0, .new 1001, none⟩]) (rh := []) (ph := .raw) (ps := [(I (w64 ((w64 ((w64 (p1.Cell * 1000000)) + (w64 (p1.One * 1000)))) + p1.Two))) = (I (w64 ((w64 ((w64 (p1.Cell * 1000000)) + (w64 (p1.One * 1000)))) + p1.Two))), litA (I (w64 ((w64 ((w64 (p1.Cell * 1000000)) + (w64 (p1.One * 1000)))) + p1.Two))) = true]) (by kernel_rfl) ⟨rfl, rfl, trivial⟩
noncomputable def body70 : Code := match Try.f70.body with | some c => c | none => .skip
noncomputable def spec_l11Add_j1 (K0 : (List GPair) → GPair → (List GPair) → Bool → Int → Option (List GPair)) (p1 : (List GPair)) (a3 : (List GPair)) (a4 : GPair) (a5 : (List GPair)) (v7 : Int) (x9 : GPair)  : Option (List GPair) :=
  Option.bind (app a5 [a4]) fun l16 =>
  Option.bind (app l16 [x9]) fun l17 =>
  K0 a3 a4 l17 true (w64 (v7 + 1))
theorem spec_l11Add_j1_m {E : Env} (hP : E.P = Try.prog) (hn : E.n = 44) (hx : ∀ p, p ∈ E.fx → p.1 ∈ ([] : List Nat)) (p1 : (List GPair)) (a3 : (List GPair)) (a4 : GPair) (a5 : (List GPair)) (v7 : Int) (x9 : GPair) {K0 : (List GPair) → GPair → (List GPair) → Bool → Int → Option (List GPair)} (hK0 : ∀ (a3 : (List GPair)) (a4 : GPair) (a5 : (List GPair)) (v6 : Bool) (v7 : Int) (r : (List GPair)), K0 a3 a4 a5 v6 v7 = some r → WAt E body70 (FQ (RetE Θ Try.f70.results.toList [false] [⟨51, 3, (p1.map o51)⟩] (AV.own 51 3 (r.map o51)) E)) [true, true, true, false, true, false] ⟨[(0, (AV.sl 1 0 (List.length (a3.map o51)))), (3, (AV.ptr 2 0 0)), (5, (AV.sl 3 0 (List.length (a5.map o51)))), (6, (B v6)), (9, (AV.sl 1 0 (List.length (a3.map o51)))), (10, (I (p1.length : Int))), (11, (I v7))], [(1, some ⟨51, 3, (a3.map o51)⟩), (2, some ⟨51, 3, [((o51 a4))]⟩), (3, some ⟨51, 3, (a5.map o51)⟩)], [1, 2, 3, JJ]⟩)  (r : (List GPair)) (h : spec_l11Add_j1 K0 p1 a3 a4 a5 v7 x9  = some r) : WAt E body70 (FQ (RetE Θ Try.f70.results.toList [false] [⟨51, 3, (p1.map o51)⟩] (AV.own 51 3 (r.map o51)) E)) [true, true, true, false, true, false, false, true, true, false, false, true, true, false, true, false] ⟨[(0, (AV.sl 1 0 (List.length (a3.map o51)))), (3, (AV.ptr 2 0 0)), (5, (AV.sl 3 0 (List.length (a5.map o51)))), (8, (AV.ptr 4 0 0)), (9, (AV.sl 1 0 (List.length (a3.map o51)))), (10, (I (p1.length : Int))), (11, (I v7))], [(1, some ⟨51, 3, (a3.map o51)⟩), (2, some ⟨51, 3, [((o51 a4))]⟩), (3, some ⟨51, 3, (a5.map o51)⟩), (4, some ⟨51, 3, [((o51 x9))]⟩)], [1, 2, 3, 4, JJ]⟩ := by
  have hm : E.P.follows .mixedOrders = true := by rw [hP]; exact mixed
  have hΘ : TOK E.P Θ := by rw [hP]; exact Θ_ok
  unfold spec_l11Add_j1 at h
  obtain ⟨l16, hl16, h⟩ := bnS h
  obtain ⟨l17, hl17, h⟩ := bnS h
  exact go_to hΘ hm hx hP hn (hs := [⟨2, .new 1001, none⟩, ⟨3, .app 1002 (l16.map o51), none⟩, ⟨8, .new 1003, none⟩, ⟨9, .app 1004 (l17.map o51), none⟩]) (π := [(1, 1), (2, 2), (1004, 3)]) (ts := [0, 3, 5, 6, 9, 10, 11]) (kp := []) (ps := [(a5.map o51).take (List.length (a5.map o51)) ++ ((([a4].map o51).drop 0).take (List.length ([a4].map o51))) = (l16.map o51), ((([a4].map o51).drop 0).take (List.length ([a4].map o51))).all (fun r => r.all AV.plain) = true, (List.length (l16.map o51)) * 24 ≤ 140737488355328, (List.length (l16.map o51)) ≤ 140737488355328, (l16.map o51).take (List.length (l16.map o51)) ++ ((([x9].map o51).drop 0).take (List.length ([x9].map o51))) = (l17.map o51), ((([x9].map o51).drop 0).take (List.length ([x9].map o51))).all (fun r => r.all AV.plain) = true, (List.length (l17.map o51)) * 24 ≤ 140737488355328, (List.length (l17.map o51)) ≤ 140737488355328, RenOK [(1, 1), (2, 2), (1004, 3)] (a3.map o51), RenOK [(1, 1), (2, 2), (1004, 3)] [((o51 a4))], RenOK [(1, 1), (2, 2), (1004, 3)] (l17.map o51)]) (by kernel_rfl) ⟨(appTD o51 hl16), (plD p51), (appB o51 hl16 (by decide)), (appC o51 hl16), (appTD o51 hl17), (plD p51), (appB o51 hl17 (by decide)), (appC o51 hl17), (rok (treeM t51)), (rok rfl), (rok (treeM t51)), trivial⟩ (hK0 a3 a4 l17 true (w64 (v7 + 1)) _ h)
noncomputable def spec_l11Add_l0  (p1 : (List GPair)) : Nat → (List GPair) → GPair → (List GPair) → Bool → Int → Option (List GPair)
  | 0, _, _, _, _, _ => none
  | n + 1, a3, a4, a5, v6, v7 =>
  if (decide (v7 < (p1.length : Int))) = true then
    Option.bind (rd a3 v7) fun x9 =>
    if (decide (x9 = a4)) = true then
      some a3
    else
      if (!v6) = true then
        Option.bind (spec_l11Key a4) fun r13 =>
        Option.bind (spec_l11Key x9) fun r14 =>
        if (decide (r13 < r14)) = true then
          spec_l11Add_j1 (spec_l11Add_l0 p1 n) p1 a3 a4 a5 v7 x9
        else
          Option.bind (app a5 [x9]) fun l19 =>
          spec_l11Add_l0 p1 n a3 a4 l19 v6 (w64 (v7 + 1))
      else
        Option.bind (app a5 [x9]) fun l21 =>
        spec_l11Add_l0 p1 n a3 a4 l21 v6 (w64 (v7 + 1))
  else
    if (!v6) = true then
      Option.bind (app a5 [a4]) fun l24 =>
      some l24
    else
      some a5
theorem spec_l11Add_l0_m {E : Env} (hP : E.P = Try.prog) (hn : E.n = 44) (hx : ∀ p, p ∈ E.fx → p.1 ∈ ([] : List Nat)) (p1 : (List GPair))  : ∀ (n : Nat) (a3 : (List GPair)) (a4 : GPair) (a5 : (List GPair)) (v6 : Bool) (v7 : Int) (r : (List GPair)), spec_l11Add_l0 p1 n a3 a4 a5 v6 v7 = some r → WAt E body70 (FQ (RetE Θ Try.f70.results.toList [false] [⟨51, 3, (p1.map o51)⟩] (AV.own 51 3 (r.map o51)) E)) [true, true, true, false, true, false] ⟨[(0, (AV.sl 1 0 (List.length (a3.map o51)))), (3, (AV.ptr 2 0 0)), (5, (AV.sl 3 0 (List.length (a5.map o51)))), (6, (B v6)), (9, (AV.sl 1 0 (List.length (a3.map o51)))), (10, (I (p1.length : Int))), (11, (I v7))], [(1, some ⟨51, 3, (a3.map o51)⟩), (2, some ⟨51, 3, [((o51 a4))]⟩), (3, some ⟨51, 3, (a5.map o51)⟩)], [1, 2, 3, JJ]⟩ := by
  have hm : E.P.follows .mixedOrders = true := by rw [hP]; exact mixed
  have hΘ : TOK E.P Θ := by rw [hP]; exact Θ_ok
  intro n
  induction n with
  | zero => intro a3 a4 a5 v6 v7 r h; simp only [spec_l11Add_l0] at h; cases h
  | succ n ih =>
    intro a3 a4 a5 v6 v7 r h
    simp only [spec_l11Add_l0] at h
    rcases itS h with ⟨c8, h⟩ | ⟨c22, h⟩
    · obtain ⟨x9, hx9, h⟩ := bnS h
      rcases itS h with ⟨c10, h⟩ | ⟨c11, h⟩
      · have h := Option.some.inj h
        subst h
        exact go_ret hΘ hm hP hn (hs := [⟨1, .br true, none⟩, ⟨3, .row ((o51 x9)), none⟩, ⟨4, .new 1001, none⟩, ⟨8, .bin (B (decide (x9 = a4))), none⟩, ⟨9, .br true, none⟩]) (rh := []) (ph := .own) (ps := [(decide (v7 < (p1.length : Int))) = true, (0 : Int) ≤ v7, v7 < (((List.length (a3.map o51)) : Nat) : Int), (a3.map o51)[(Int.toNat v7)]? = some ((o51 x9)), BinS Try.prog .eql 51 (AV.agg ((o51 x9))) (AV.agg ((o51 a4))) (B (decide (x9 = a4))), (decide (x9 = a4)) = true, treeLL ((a3.map o51).take (List.length (a3.map o51))) = true, (a3.map o51).take (List.length (a3.map o51)) = (a3.map o51), noRoLL (a3.map o51) = true]) (by kernel_rfl) ⟨c8, (rd0 hx9), (rdL o51 hx9), (rdM o51 hx9), (eqs51 _ _), c10, (treeT t51), takeM, (noRoM n51), trivial⟩
      · rcases itS h with ⟨c12, h⟩ | ⟨c20, h⟩
        · obtain ⟨r13, hr13, h⟩ := bnS h
          obtain ⟨r14, hr14, h⟩ := bnS h
          rcases itS h with ⟨c15, h⟩ | ⟨c18, h⟩
          · exact go_to hΘ hm hx hP hn (hs := [⟨1, .br true, none⟩, ⟨3, .row ((o51 x9)), none⟩, ⟨4, .new 1001, none⟩, ⟨8, .bin (B (decide (x9 = a4))), none⟩, ⟨9, .br false, none⟩, ⟨12, .no, some (B true)⟩, ⟨14, .callV [[]] (I r13), none⟩, ⟨16, .callV [[]] (I r14), none⟩, ⟨19, .br true, none⟩]) (π := [(1, 1), (2, 2), (3, 3), (1001, 4)]) (ts := [0, 3, 5, 8, 9, 10, 11]) (kp := []) (ps := [(decide (v7 < (p1.length : Int))) = true, (0 : Int) ≤ v7, v7 < (((List.length (a3.map o51)) : Nat) : Int), (a3.map o51)[(Int.toNat v7)]? = some ((o51 x9)), BinS Try.prog .eql 51 (AV.agg ((o51 x9))) (AV.agg ((o51 a4))) (B (decide (x9 = a4))), (decide (x9 = a4)) = false, (B (!v6)) = (B true), Meets Try.prog 69 [(AV.agg ((o51 a4)))] (I r13), litA (I r13) = true, Meets Try.prog 69 [(AV.agg ((o51 x9)))] (I r14), litA (I r14) = true, (decide (r13 < r14)) = true, RenOK [(1, 1), (2, 2), (3, 3), (1001, 4)] (a3.map o51), RenOK [(1, 1), (2, 2), (3, 3), (1001, 4)] [((o51 a4))], RenOK [(1, 1), (2, 2), (3, 3), (1001, 4)] (a5.map o51), RenOK [(1, 1), (2, 2), (3, 3), (1001, 4)] [((o51 x9))]]) (by kernel_rfl) ⟨c8, (rd0 hx9), (rdL o51 hx9), (rdM o51 hx9), (eqs51 _ _), c11, (litB c12), (spec_l11Key_m hr13), rfl, (spec_l11Key_m hr14), rfl, c15, (rok (treeM t51)), (rok rfl), (rok (treeM t51)), (rok rfl), trivial⟩ (spec_l11Add_j1_m hP hn hx p1 a3 a4 a5 v7 x9 ih  _ h)
          · obtain ⟨l19, hl19, h⟩ := bnS h
            exact go_to hΘ hm hx hP hn (hs := [⟨1, .br true, none⟩, ⟨3, .row ((o51 x9)), none⟩, ⟨4, .new 1001, none⟩, ⟨8, .bin (B (decide (x9 = a4))), none⟩, ⟨9, .br false, none⟩, ⟨12, .no, some (B true)⟩, ⟨14, .callV [[]] (I r13), none⟩, ⟨16, .callV [[]] (I r14), none⟩, ⟨19, .br false, none⟩, ⟨22, .new 1005, none⟩, ⟨23, .app 1006 (l19.map o51), none⟩]) (π := [(1, 1), (2, 2), (1006, 3)]) (ts := [0, 3, 5, 6, 9, 10, 11]) (kp := []) (ps := [(decide (v7 < (p1.length : Int))) = true, (0 : Int) ≤ v7, v7 < (((List.length (a3.map o51)) : Nat) : Int), (a3.map o51)[(Int.toNat v7)]? = some ((o51 x9)), BinS Try.prog .eql 51 (AV.agg ((o51 x9))) (AV.agg ((o51 a4))) (B (decide (x9 = a4))), (decide (x9 = a4)) = false, (B (!v6)) = (B true), Meets Try.prog 69 [(AV.agg ((o51 a4)))] (I r13), litA (I r13) = true, Meets Try.prog 69 [(AV.agg ((o51 x9)))] (I r14), litA (I r14) = true, (decide (r13 < r14)) = false, (a5.map o51).take (List.length (a5.map o51)) ++ ((([x9].map o51).drop 0).take (List.length ([x9].map o51))) = (l19.map o51), ((([x9].map o51).drop 0).take (List.length ([x9].map o51))).all (fun r => r.all AV.plain) = true, (List.length (l19.map o51)) * 24 ≤ 140737488355328, (List.length (l19.map o51)) ≤ 140737488355328, RenOK [(1, 1), (2, 2), (1006, 3)] (a3.map o51), RenOK [(1, 1), (2, 2), (1006, 3)] [((o51 a4))], RenOK [(1, 1), (2, 2), (1006, 3)] (l19.map o51)]) (by kernel_rfl) ⟨c8, (rd0 hx9), (rdL o51 hx9), (rdM o51 hx9), (eqs51 _ _), c11, (litB c12), (spec_l11Key_m hr13), rfl, (spec_l11Key_m hr14), rfl, c18, (appTD o51 hl19), (plD p51), (appB o51 hl19 (by decide)), (appC o51 hl19), (rok (treeM t51)), (rok rfl), (rok (treeM t51)), trivial⟩ (ih a3 a4 l19 v6 (w64 (v7 + 1)) _ h)
        · obtain ⟨l21, hl21, h⟩ := bnS h
          exact go_to hΘ hm hx hP hn (hs := [⟨1, .br true, none⟩, ⟨3, .row ((o51 x9)), none⟩, ⟨4, .new 1001, none⟩, ⟨8, .bin (B (decide (x9 = a4))), none⟩, ⟨9, .br false, none⟩, ⟨12, .no, some (B false)⟩, ⟨22, .new 1007, none⟩, ⟨23, .app 1008 (l21.map o51), none⟩]) (π := [(1, 1), (2, 2), (1008, 3)]) (ts := [0, 3, 5, 6, 9, 10, 11]) (kp := []) (ps := [(decide (v7 < (p1.length : Int))) = true, (0 : Int) ≤ v7, v7 < (((List.length (a3.map o51)) : Nat) : Int), (a3.map o51)[(Int.toNat v7)]? = some ((o51 x9)), BinS Try.prog .eql 51 (AV.agg ((o51 x9))) (AV.agg ((o51 a4))) (B (decide (x9 = a4))), (decide (x9 = a4)) = false, (B (!v6)) = (B false), (a5.map o51).take (List.length (a5.map o51)) ++ ((([x9].map o51).drop 0).take (List.length ([x9].map o51))) = (l21.map o51), ((([x9].map o51).drop 0).take (List.length ([x9].map o51))).all (fun r => r.all AV.plain) = true, (List.length (l21.map o51)) * 24 ≤ 140737488355328, (List.length (l21.map o51)) ≤ 140737488355328, RenOK [(1, 1), (2, 2), (1008, 3)] (a3.map o51), RenOK [(1, 1), (2, 2), (1008, 3)] [((o51 a4))], RenOK [(1, 1), (2, 2), (1008, 3)] (l21.map o51)]) (by kernel_rfl) ⟨c8, (rd0 hx9), (rdL o51 hx9), (rdM o51 hx9), (eqs51 _ _), c11, (litB c20), (appTD o51 hl21), (plD p51), (appB o51 hl21 (by decide)), (appC o51 hl21), (rok (treeM t51)), (rok rfl), (rok (treeM t51)), trivial⟩ (ih a3 a4 l21 v6 (w64 (v7 + 1)) _ h)
    · rcases itS h with ⟨c23, h⟩ | ⟨c25, h⟩
      · obtain ⟨l24, hl24, h⟩ := bnS h
        have h := Option.some.inj h
        subst h
        exact go_ret hΘ hm hP hn (hs := [⟨1, .br false, none⟩, ⟨4, .br true, none⟩, ⟨7, .new 1009, none⟩, ⟨8, .app 1010 (l24.map o51), none⟩]) (rh := []) (ph := .own) (ps := [(decide (v7 < (p1.length : Int))) = false, (!v6) = true, (a5.map o51).take (List.length (a5.map o51)) ++ ((([a4].map o51).drop 0).take (List.length ([a4].map o51))) = (l24.map o51), ((([a4].map o51).drop 0).take (List.length ([a4].map o51))).all (fun r => r.all AV.plain) = true, (List.length (l24.map o51)) * 24 ≤ 140737488355328, (List.length (l24.map o51)) ≤ 140737488355328, treeLL ((l24.map o51).take (List.length (l24.map o51))) = true, (l24.map o51).take (List.length (l24.map o51)) = (l24.map o51), noRoLL (l24.map o51) = true]) (by kernel_rfl) ⟨c22, c23, (appTD o51 hl24), (plD p51), (appB o51 hl24 (by decide)), (appC o51 hl24), (treeT t51), takeM, (noRoM n51), trivial⟩
      · have h := Option.some.inj h
        subst h
        exact go_ret hΘ hm hP hn (hs := [⟨1, .br false, none⟩, ⟨4, .br false, none⟩]) (rh := []) (ph := .own) (ps := [(decide (v7 < (p1.length : Int))) = false, (!v6) = false, treeLL ((a5.map o51).take (List.length (a5.map o51))) = true, (a5.map o51).take (List.length (a5.map o51)) = (a5.map o51), noRoLL (a5.map o51) = true]) (by kernel_rfl) ⟨c22, c25, (treeT t51), takeM, (noRoM n51), trivial⟩
noncomputable def spec_l11Add (p1 : (List GPair)) (p2 : GPair) : Option (List GPair) :=
  spec_l11Add_l0 p1 FU p1 p2 [] false 0
theorem spec_l11Add_m {p1 : (List GPair)} {p2 : GPair} {r : (List GPair)} (h : spec_l11Add p1 p2 = some r) : MeetsR Try.prog 70 [⟨51, 3, (p1.map o51)⟩] [(AV.sl 0 0 (List.length (p1.map o51))), (AV.agg ((o51 p2)))] [false] [⟨51, 3, (p1.map o51)⟩] (AV.own 51 3 (r.map o51)) := by
  refine meetsR_of Θ_ok Try.func70 rfl (c := body70) (by kernel_rfl) (Nat.le_of_ble_eq_true rfl) rfl (Nat.le_of_ble_eq_true rfl) rfl (fr := []) (frI rfl) ?_
  intro E hP hn hx
  replace hn : E.n = 44 := hn
  have hm : E.P.follows .mixedOrders = true := by rw [hP]; exact mixed
  have hΘ : TOK E.P Θ := by rw [hP]; exact Θ_ok
  unfold spec_l11Add at h
  show WAt E body70 (FQ (RetE Θ Try.f70.results.toList [false] [⟨51, 3, (p1.map o51)⟩] (AV.own 51 3 (r.map o51)) E)) [] ⟨[(0, (AV.sl 0 0 (List.length (p1.map o51)))), (1, (AV.agg ((o51 p2))))], [(0, some ⟨51, 3, (p1.map o51)⟩)], [0, JJ]⟩
  exact go_to hΘ hm hx hP hn (hs := [⟨0, .new 1001, none⟩, ⟨5, .no, some (I (p1.length : Int))⟩, ⟨7, .nil 5 1002 51 3, none⟩]) (π := [(0, 1), (1001, 2), (1002, 3)]) (ts := [0, 3, 5, 6, 9, 10, 11]) (kp := []) (ps := [AV.lit (.int .i64 (((List.length (p1.map o51)) : Nat) : Int)) = (I (p1.length : Int)), RenOK [(0, 1), (1001, 2), (1002, 3)] (p1.map o51), RenOK [(0, 1), (1001, 2), (1002, 3)] [((o51 p2))], RenOK [(0, 1), (1001, 2), (1002, 3)] ([].map o51)]) (by kernel_rfl) ⟨(lenM o51), (rok (treeM t51)), (rok rfl), (rok (treeM t51)), trivial⟩ (spec_l11Add_l0_m hP hn hx p1 FU p1 p2 [] false 0 _ h)
noncomputable def body37 : Code := match Try.f37.body with | some c => c | none => .skip
noncomputable def spec_l11All_l0  (p2 : (List GPair)) : Nat → (List GPair) → Int → Option (List GPair)
  | 0, _, _ => none
  | n + 1, a4, v5 =>
  if (decide (v5 < (p2.length : Int))) = true then
    Option.bind (rd p2 v5) fun x7 =>
    Option.bind (spec_l11Add a4 x7) fun r8 =>
    spec_l11All_l0 p2 n r8 (w64 (v5 + 1))
  else
    some a4
theorem spec_l11All_l0_m {E : Env} (hP : E.P = Try.prog) (hn : E.n = 22) (hx : ∀ p, p ∈ E.fx → p.1 ∈ ([] : List Nat)) (p2 : (List GPair))  : ∀ (n : Nat) (a4 : (List GPair)) (v5 : Int) (r : (List GPair)), spec_l11All_l0 p2 n a4 v5 = some r → WAt E body37 (FQ (RetE Θ Try.f37.results.toList [] [] (AV.own 51 3 (r.map o51)) E)) [true, true, false, true, false] ⟨[(5, (AV.sl 1 0 (List.length (a4.map o51)))), (11, (AV.ro 3 (p2.map o51))), (12, (I (p2.length : Int))), (13, (I v5))], [(1, some ⟨51, 3, (a4.map o51)⟩)], [1, JJ]⟩ := by
  have hm : E.P.follows .mixedOrders = true := by rw [hP]; exact mixed
  have hΘ : TOK E.P Θ := by rw [hP]; exact Θ_ok
  intro n
  induction n with
  | zero => intro a4 v5 r h; simp only [spec_l11All_l0] at h; cases h
  | succ n ih =>
    intro a4 v5 r h
    simp only [spec_l11All_l0] at h
    rcases itS h with ⟨c6, h⟩ | ⟨c9, h⟩
    · obtain ⟨x7, hx7, h⟩ := bnS h
      obtain ⟨r8, hr8, h⟩ := bnS h
      exact go_to hΘ hm hx hP hn (hs := [⟨1, .br true, none⟩, ⟨2, .row (o51 x7), none⟩, ⟨4, .new 1001, none⟩, ⟨8, .callX [1] [false] [⟨51, 3, (a4.map o51)⟩] [⟨51, 3, (a4.map o51)⟩] [[]] (AV.own 51 3 (r8.map o51)) [1002] (AV.sl 1002 0 (List.length (r8.map o51))) [(1002, ⟨51, 3, (r8.map o51)⟩)], none⟩]) (π := [(1002, 1)]) (ts := [5, 11, 12, 13]) (kp := []) (ps := [(decide (v5 < (p2.length : Int))) = true, (0 : Int) ≤ v5, (p2.map o51)[(Int.toNat v5)]? = some (o51 x7), MeetsR Try.prog 70 [⟨51, 3, (a4.map o51)⟩] [(AV.sl 0 0 (List.length (a4.map o51))), (AV.agg ((o51 x7)))] [false] [⟨51, 3, (a4.map o51)⟩] (AV.own 51 3 (r8.map o51)), (some (Root.mk 51 3 (a4.map o51)) = some (Root.mk 51 3 (a4.map o51))) ∧ True, (treeLL (a4.map o51) = true ∧ noRoLL (a4.map o51) = true) ∧ True, ((a4.map o51).length = (a4.map o51).length) ∧ True, (rtf (renA [] (AV.own 51 3 (r8.map o51))) [1002]).1 = (AV.sl 1002 0 (List.length (r8.map o51))), (rtf (renA [] (AV.own 51 3 (r8.map o51))) [1002]).2.1 = [(1002, ⟨51, 3, (r8.map o51)⟩)], RenOK [(1002, 1)] (r8.map o51)]) (by kernel_rfl) ⟨c6, (rd0 hx7), (rdM o51 hx7), (spec_l11Add_m hr8), ⟨rfl, trivial⟩, ⟨⟨treeM t51, noRoM n51⟩, trivial⟩, ⟨rfl, trivial⟩, rfl, rfl, (rok (treeM t51)), trivial⟩ (ih r8 (w64 (v5 + 1)) _ h)
    · have h := Option.some.inj h
      subst h
      exact go_ret hΘ hm hP hn (hs := [⟨1, .br false, none⟩]) (rh := []) (ph := .own) (ps := [(decide (v5 < (p2.length : Int))) = false, treeLL ((a4.map o51).take (List.length (a4.map o51))) = true, (a4.map o51).take (List.length (a4.map o51)) = (a4.map o51), noRoLL (a4.map o51) = true]) (by kernel_rfl) ⟨c9, (treeT t51), takeM, (noRoM n51), trivial⟩
noncomputable def spec_l11All (p1 : (List GPair)) (p2 : (List GPair)) : Option (List GPair) :=
  Option.bind (app [] p1) fun l3 =>
  spec_l11All_l0 p2 FU l3 0
theorem spec_l11All_m {p1 : (List GPair)} {p2 : (List GPair)} {r : (List GPair)} (h : spec_l11All p1 p2 = some r) : Meets Try.prog 37 [(AV.ro 3 (p1.map o51)), (AV.ro 3 (p2.map o51))] (AV.own 51 3 (r.map o51)) := by
  refine meets_ofC Θ_ok Try.func37 rfl (c := body37) (by kernel_rfl) (Nat.le_of_ble_eq_true rfl) ?_
  intro E hP hn hx
  replace hn : E.n = 22 := hn
  have hm : E.P.follows .mixedOrders = true := by rw [hP]; exact mixed
  have hΘ : TOK E.P Θ := by rw [hP]; exact Θ_ok
  unfold spec_l11All at h
  show WAt E body37 (FQ (RetE Θ Try.f37.results.toList [] [] (AV.own 51 3 (r.map o51)) E)) [] ⟨[(0, (AV.ro 3 (p1.map o51))), (1, (AV.ro 3 (p2.map o51)))], [], [JJ]⟩
  obtain ⟨l3, hl3, h⟩ := bnS h
  exact go_to hΘ hm hx hP hn (hs := [⟨1, .new 1001, none⟩, ⟨3, .app 1002 (l3.map o51), none⟩, ⟨6, .no, some (I (p2.length : Int))⟩]) (π := [(1002, 1)]) (ts := [5, 11, 12, 13]) (kp := []) (ps := [([].map o51).take (List.length ([].map o51)) ++ (p1.map o51) = (l3.map o51), (p1.map o51).all (fun r => r.all AV.plain) = true, (List.length (l3.map o51)) * 24 ≤ 140737488355328, (List.length (l3.map o51)) ≤ 140737488355328, AV.lit (.int .i64 (((p2.map o51).length : Nat) : Int)) = (I (p2.length : Int)), RenOK [(1002, 1)] (l3.map o51)]) (by kernel_rfl) ⟨(appT o51 hl3), (plM p51), (appB o51 hl3 (by decide)), (appC o51 hl3), (lenM o51), (rok (treeM t51)), trivial⟩ (spec_l11All_l0_m hP hn hx p2 FU l3 0 _ h)
noncomputable def body111 : Code := match Try.f111.body with | some c => c | none => .skip
noncomputable def spec_l1In (p1 : Int) (p2 : Int) (p3 : Int) : Option Bool :=
  if (decide (p1 ≥ p2)) = true then
    some (decide (p1 ≤ p3))
  else
    some false
theorem spec_l1In_m {p1 : Int} {p2 : Int} {p3 : Int} {r : Bool} (h : spec_l1In p1 p2 p3 = some r) : Meets Try.prog 111 [(I p1), (I p2), (I p3)] (B r) := by
  refine meets_ofC Θ_ok Try.func111 rfl (c := body111) (by kernel_rfl) (Nat.le_of_ble_eq_true rfl) ?_
  intro E hP hn hx
  replace hn : E.n = 15 := hn
  have hm : E.P.follows .mixedOrders = true := by rw [hP]; exact mixed
  have hΘ : TOK E.P Θ := by rw [hP]; exact Θ_ok
  unfold spec_l1In at h
  show WAt E body111 (FQ (RetE Θ Try.f111.results.toList [] [] (B r) E)) [] ⟨[(0, (I p1)), (1, (I p2)), (2, (I p3))], [], [JJ]⟩
  rcases itS h with ⟨c4, h⟩ | ⟨c5, h⟩
  · have h := Option.some.inj h
    subst h
    exact go_ret hΘ hm hP hn (hs := [⟨4, .no, some (B true)⟩]) (rh := []) (ph := .raw) (ps := [(B (decide (p1 ≥ p2))) = (B true), (B (decide (p1 ≤ p3))) = (B (decide (p1 ≤ p3))), litA (B (decide (p1 ≤ p3))) = true]) (by kernel_rfl) ⟨(litB c4), rfl, rfl, trivial⟩
  · have h := Option.some.inj h
    subst h
    exact go_ret hΘ hm hP hn (hs := [⟨4, .no, some (B false)⟩]) (rh := []) (ph := .raw) (ps := [(B (decide (p1 ≥ p2))) = (B false), (B false) = (B false), litA (B false) = true]) (by kernel_rfl) ⟨(litB c5), rfl, rfl, trivial⟩
noncomputable def body68 : Code := match Try.f68.body with | some c => c | none => .skip
noncomputable def spec_l11Pair (p1 : GPair) : Option Bool :=
  Option.bind (spec_l1In p1.Cell 0 99) fun r2 =>
  if r2 = true then
    Option.bind (spec_l1In p1.One 0 999) fun r4 =>
    if r4 = true then
      Option.bind (spec_l1In p1.Two 0 999) fun r6 =>
      some r6
    else
      some false
  else
    some false
theorem spec_l11Pair_m {p1 : GPair} {r : Bool} (h : spec_l11Pair p1 = some r) : Meets Try.prog 68 [(AV.agg ((o51 p1)))] (B r) := by
  refine meets_ofC Θ_ok Try.func68 rfl (c := body68) (by kernel_rfl) (Nat.le_of_ble_eq_true rfl) ?_
  intro E hP hn hx
  replace hn : E.n = 16 := hn
  have hm : E.P.follows .mixedOrders = true := by rw [hP]; exact mixed
  have hΘ : TOK E.P Θ := by rw [hP]; exact Θ_ok
  unfold spec_l11Pair at h
  show WAt E body68 (FQ (RetE Θ Try.f68.results.toList [] [] (B r) E)) [] ⟨[(0, (AV.agg ((o51 p1))))], [], [JJ]⟩
  obtain ⟨r2, hr2, h⟩ := bnS h
  rcases itS h with ⟨c3, h⟩ | ⟨c8, h⟩
  · obtain ⟨r4, hr4, h⟩ := bnS h
    rcases itS h with ⟨c5, h⟩ | ⟨c7, h⟩
    · obtain ⟨r6, hr6, h⟩ := bnS h
      have h := Option.some.inj h
      subst h
      exact go_ret hΘ hm hP hn (hs := [⟨0, .new 1001, none⟩, ⟨4, .callV [] (B r2), none⟩, ⟨5, .no, some (B true)⟩, ⟨8, .callV [] (B r4), none⟩, ⟨10, .no, some (B true)⟩, ⟨13, .callV [] (B r6), none⟩]) (rh := []) (ph := .raw) (ps := [Meets Try.prog 111 [(I p1.Cell), (I 0), (I 99)] (B r2), litA (B r2) = true, (B r2) = (B true), Meets Try.prog 111 [(I p1.One), (I 0), (I 999)] (B r4), litA (B r4) = true, (B r4) = (B true), Meets Try.prog 111 [(I p1.Two), (I 0), (I 999)] (B r6), litA (B r6) = true, (B r6) = (B r6), litA (B r6) = true]) (by kernel_rfl) ⟨(spec_l1In_m hr2), rfl, (litB c3), (spec_l1In_m hr4), rfl, (litB c5), (spec_l1In_m hr6), rfl, rfl, rfl, trivial⟩
    · have h := Option.some.inj h
      subst h
      exact go_ret hΘ hm hP hn (hs := [⟨0, .new 1001, none⟩, ⟨4, .callV [] (B r2), none⟩, ⟨5, .no, some (B true)⟩, ⟨8, .callV [] (B r4), none⟩, ⟨10, .no, some (B false)⟩]) (rh := []) (ph := .raw) (ps := [Meets Try.prog 111 [(I p1.Cell), (I 0), (I 99)] (B r2), litA (B r2) = true, (B r2) = (B true), Meets Try.prog 111 [(I p1.One), (I 0), (I 999)] (B r4), litA (B r4) = true, (B r4) = (B false), (B false) = (B false), litA (B false) = true]) (by kernel_rfl) ⟨(spec_l1In_m hr2), rfl, (litB c3), (spec_l1In_m hr4), rfl, (litB c7), rfl, rfl, trivial⟩
  · have h := Option.some.inj h
    subst h
    exact go_ret hΘ hm hP hn (hs := [⟨0, .new 1001, none⟩, ⟨4, .callV [] (B r2), none⟩, ⟨5, .no, some (B false)⟩]) (rh := []) (ph := .raw) (ps := [Meets Try.prog 111 [(I p1.Cell), (I 0), (I 99)] (B r2), litA (B r2) = true, (B r2) = (B false), (B false) = (B false), litA (B false) = true]) (by kernel_rfl) ⟨(spec_l1In_m hr2), rfl, (litB c8), rfl, rfl, trivial⟩
noncomputable def body36 : Code := match Try.f36.body with | some c => c | none => .skip
noncomputable def spec_l11Rising_l0  (p1 : (List GPair)) : Nat → Int → Option Bool
  | 0, _ => none
  | n + 1, v2 =>
  if (decide (v2 < (p1.length : Int))) = true then
    Option.bind (rd p1 v2) fun x4 =>
    Option.bind (spec_l11Pair x4) fun r5 =>
    if (!r5) = true then
      some false
    else
      if (decide (v2 > 0)) = true then
        Option.bind (rd p1 (w64 (v2 - 1))) fun x9 =>
        Option.bind (spec_l11Key x9) fun r10 =>
        Option.bind (spec_l11Key x4) fun r11 =>
        if (decide (r10 ≥ r11)) = true then
          some false
        else
          spec_l11Rising_l0 p1 n (w64 (v2 + 1))
      else
        spec_l11Rising_l0 p1 n (w64 (v2 + 1))
  else
    some (decide ((p1.length : Int) ≤ 200))
theorem spec_l11Rising_l0_m {E : Env} (hP : E.P = Try.prog) (hn : E.n = 34) (hx : ∀ p, p ∈ E.fx → p.1 ∈ ([] : List Nat)) (p1 : (List GPair))  : ∀ (n : Nat) (v2 : Int) (r : Bool), spec_l11Rising_l0 p1 n v2 = some r → WAt E body36 (FQ (RetE Θ Try.f36.results.toList [] [] (B r) E)) [true, false, true, false] ⟨[(0, (AV.ro 3 (p1.map o51))), (5, (AV.ro 3 (p1.map o51))), (6, (I (p1.length : Int))), (7, (I v2))], [], [JJ]⟩ := by
  have hm : E.P.follows .mixedOrders = true := by rw [hP]; exact mixed
  have hΘ : TOK E.P Θ := by rw [hP]; exact Θ_ok
  intro n
  induction n with
  | zero => intro v2 r h; simp only [spec_l11Rising_l0] at h; cases h
  | succ n ih =>
    intro v2 r h
    simp only [spec_l11Rising_l0] at h
    rcases itS h with ⟨c3, h⟩ | ⟨c15, h⟩
    · obtain ⟨x4, hx4, h⟩ := bnS h
      obtain ⟨r5, hr5, h⟩ := bnS h
      rcases itS h with ⟨c6, h⟩ | ⟨c7, h⟩
      · have h := Option.some.inj h
        subst h
        exact go_ret hΘ hm hP hn (hs := [⟨1, .br true, none⟩, ⟨3, .row (o51 x4), none⟩, ⟨5, .new 1001, none⟩, ⟨9, .callV [[]] (B r5), none⟩, ⟨11, .no, some (B true)⟩]) (rh := []) (ph := .raw) (ps := [(decide (v2 < (p1.length : Int))) = true, (0 : Int) ≤ v2, (p1.map o51)[(Int.toNat v2)]? = some (o51 x4), Meets Try.prog 68 [(AV.agg ((o51 x4)))] (B r5), litA (B r5) = true, (B (!r5)) = (B true), (B false) = (B false), litA (B false) = true]) (by kernel_rfl) ⟨c3, (rd0 hx4), (rdM o51 hx4), (spec_l11Pair_m hr5), rfl, (litB c6), rfl, rfl, trivial⟩
      · rcases itS h with ⟨c8, h⟩ | ⟨c14, h⟩
        · obtain ⟨x9, hx9, h⟩ := bnS h
          obtain ⟨r10, hr10, h⟩ := bnS h
          obtain ⟨r11, hr11, h⟩ := bnS h
          rcases itS h with ⟨c12, h⟩ | ⟨c13, h⟩
          · have h := Option.some.inj h
            subst h
            exact go_ret hΘ hm hP hn (hs := [⟨1, .br true, none⟩, ⟨3, .row (o51 x4), none⟩, ⟨5, .new 1001, none⟩, ⟨9, .callV [[]] (B r5), none⟩, ⟨11, .no, some (B false)⟩, ⟨14, .no, some (B true)⟩, ⟨18, .row (o51 x9), none⟩, ⟨20, .callV [[]] (I r10), none⟩, ⟨22, .callV [[]] (I r11), none⟩, ⟨26, .br true, none⟩]) (rh := []) (ph := .raw) (ps := [(decide (v2 < (p1.length : Int))) = true, (0 : Int) ≤ v2, (p1.map o51)[(Int.toNat v2)]? = some (o51 x4), Meets Try.prog 68 [(AV.agg ((o51 x4)))] (B r5), litA (B r5) = true, (B (!r5)) = (B false), (B (decide (v2 > 0))) = (B true), (0 : Int) ≤ (w64 (v2 - 1)), (p1.map o51)[(Int.toNat (w64 (v2 - 1)))]? = some (o51 x9), Meets Try.prog 69 [(AV.agg ((o51 x9)))] (I r10), litA (I r10) = true, Meets Try.prog 69 [(AV.agg ((o51 x4)))] (I r11), litA (I r11) = true, (decide (r10 ≥ r11)) = true, (B false) = (B false), litA (B false) = true]) (by kernel_rfl) ⟨c3, (rd0 hx4), (rdM o51 hx4), (spec_l11Pair_m hr5), rfl, (litB c7), (litB c8), (rd0 hx9), (rdM o51 hx9), (spec_l11Key_m hr10), rfl, (spec_l11Key_m hr11), rfl, c12, rfl, rfl, trivial⟩
          · exact go_to hΘ hm hx hP hn (hs := [⟨1, .br true, none⟩, ⟨3, .row (o51 x4), none⟩, ⟨5, .new 1001, none⟩, ⟨9, .callV [[]] (B r5), none⟩, ⟨11, .no, some (B false)⟩, ⟨14, .no, some (B true)⟩, ⟨18, .row (o51 x9), none⟩, ⟨20, .callV [[]] (I r10), none⟩, ⟨22, .callV [[]] (I r11), none⟩, ⟨26, .br false, none⟩]) (π := []) (ts := [0, 5, 6, 7]) (kp := []) (ps := [(decide (v2 < (p1.length : Int))) = true, (0 : Int) ≤ v2, (p1.map o51)[(Int.toNat v2)]? = some (o51 x4), Meets Try.prog 68 [(AV.agg ((o51 x4)))] (B r5), litA (B r5) = true, (B (!r5)) = (B false), (B (decide (v2 > 0))) = (B true), (0 : Int) ≤ (w64 (v2 - 1)), (p1.map o51)[(Int.toNat (w64 (v2 - 1)))]? = some (o51 x9), Meets Try.prog 69 [(AV.agg ((o51 x9)))] (I r10), litA (I r10) = true, Meets Try.prog 69 [(AV.agg ((o51 x4)))] (I r11), litA (I r11) = true, (decide (r10 ≥ r11)) = false]) (by kernel_rfl) ⟨c3, (rd0 hx4), (rdM o51 hx4), (spec_l11Pair_m hr5), rfl, (litB c7), (litB c8), (rd0 hx9), (rdM o51 hx9), (spec_l11Key_m hr10), rfl, (spec_l11Key_m hr11), rfl, c13, trivial⟩ (ih (w64 (v2 + 1)) _ h)
        · exact go_to hΘ hm hx hP hn (hs := [⟨1, .br true, none⟩, ⟨3, .row (o51 x4), none⟩, ⟨5, .new 1001, none⟩, ⟨9, .callV [[]] (B r5), none⟩, ⟨11, .no, some (B false)⟩, ⟨14, .no, some (B false)⟩]) (π := []) (ts := [0, 5, 6, 7]) (kp := []) (ps := [(decide (v2 < (p1.length : Int))) = true, (0 : Int) ≤ v2, (p1.map o51)[(Int.toNat v2)]? = some (o51 x4), Meets Try.prog 68 [(AV.agg ((o51 x4)))] (B r5), litA (B r5) = true, (B (!r5)) = (B false), (B (decide (v2 > 0))) = (B false)]) (by kernel_rfl) ⟨c3, (rd0 hx4), (rdM o51 hx4), (spec_l11Pair_m hr5), rfl, (litB c7), (litB c14), trivial⟩ (ih (w64 (v2 + 1)) _ h)
    · have h := Option.some.inj h
      subst h
      exact go_ret hΘ hm hP hn (hs := [⟨1, .br false, none⟩, ⟨3, .no, some (I (p1.length : Int))⟩]) (rh := []) (ph := .raw) (ps := [(decide (v2 < (p1.length : Int))) = false, AV.lit (.int .i64 (((p1.map o51).length : Nat) : Int)) = (I (p1.length : Int)), (B (decide ((p1.length : Int) ≤ 200))) = (B (decide ((p1.length : Int) ≤ 200))), litA (B (decide ((p1.length : Int) ≤ 200))) = true]) (by kernel_rfl) ⟨c15, (lenM o51), rfl, rfl, trivial⟩
noncomputable def spec_l11Rising (p1 : (List GPair)) : Option Bool :=
  spec_l11Rising_l0 p1 FU 0
theorem spec_l11Rising_m {p1 : (List GPair)} {r : Bool} (h : spec_l11Rising p1 = some r) : Meets Try.prog 36 [(AV.ro 3 (p1.map o51))] (B r) := by
  refine meets_ofC Θ_ok Try.func36 rfl (c := body36) (by kernel_rfl) (Nat.le_of_ble_eq_true rfl) ?_
  intro E hP hn hx
  replace hn : E.n = 34 := hn
  have hm : E.P.follows .mixedOrders = true := by rw [hP]; exact mixed
  have hΘ : TOK E.P Θ := by rw [hP]; exact Θ_ok
  unfold spec_l11Rising at h
  show WAt E body36 (FQ (RetE Θ Try.f36.results.toList [] [] (B r) E)) [] ⟨[(0, (AV.ro 3 (p1.map o51)))], [], [JJ]⟩
  exact go_to hΘ hm hx hP hn (hs := [⟨2, .no, some (I (p1.length : Int))⟩]) (π := []) (ts := [0, 5, 6, 7]) (kp := []) (ps := [AV.lit (.int .i64 (((p1.map o51).length : Nat) : Int)) = (I (p1.length : Int))]) (by kernel_rfl) ⟨(lenM o51), trivial⟩ (spec_l11Rising_l0_m hP hn hx p1 FU 0 _ h)
noncomputable def body10 : Code := match Try.f10.body with | some c => c | none => .skip
noncomputable def spec_AddPairs_j0  (p1 : (List GPair)) (p2 : (List GPair))  : Option ((List GPair) × Bool) :=
  Option.bind (spec_l11All p1 p2) fun r9 =>
  if (decide ((r9.length : Int) > 200)) = true then
    some ([], false)
  else
    some (r9, true)
theorem spec_AddPairs_j0_m {E : Env} (hP : E.P = Try.prog) (hn : E.n = 22) (hx : ∀ p, p ∈ E.fx → p.1 ∈ ([] : List Nat)) (p1 : (List GPair)) (p2 : (List GPair))   (r : ((List GPair) × Bool)) (h : spec_AddPairs_j0 p1 p2  = some r) : WAt E body10 (FQ (RetE Θ Try.f10.results.toList [] [] (AV.tup [(AV.own 51 3 (r.1.map o51)), (B r.2)]) E)) [true, false, true, true] ⟨[(0, (AV.ro 3 (p1.map o51))), (1, (AV.ro 3 (p2.map o51)))], [], [JJ]⟩ := by
  have hm : E.P.follows .mixedOrders = true := by rw [hP]; exact mixed
  have hΘ : TOK E.P Θ := by rw [hP]; exact Θ_ok
  unfold spec_AddPairs_j0 at h
  obtain ⟨r9, hr9, h⟩ := bnS h
  rcases itS h with ⟨c10, h⟩ | ⟨c11, h⟩
  · have h := Option.some.inj h
    subst h
    exact go_ret hΘ hm hP hn (hs := [⟨2, .call [] (AV.own 51 3 (r9.map o51)) [1001], none⟩, ⟨5, .no, some (I (r9.length : Int))⟩, ⟨7, .br true, none⟩]) (rh := []) (ph := .agg [.own, .raw]) (ps := [Meets Try.prog 37 [(AV.ro 3 (p1.map o51)), (AV.ro 3 (p2.map o51))] (AV.own 51 3 (r9.map o51)), noRo (AV.own 51 3 (r9.map o51)) = true, AV.lit (.int .i64 (((List.length (r9.map o51)) : Nat) : Int)) = (I (r9.length : Int)), (decide ((r9.length : Int) > 200)) = true, (B false) = (B false), litA (B false) = true]) (by kernel_rfl) ⟨(spec_l11All_m hr9), (by simp only [noRo, noRoL, noRoM n51, Bool.and_self]), (lenM o51), c10, rfl, rfl, trivial⟩
  · have h := Option.some.inj h
    subst h
    exact go_ret hΘ hm hP hn (hs := [⟨2, .call [] (AV.own 51 3 (r9.map o51)) [1001], none⟩, ⟨5, .no, some (I (r9.length : Int))⟩, ⟨7, .br false, none⟩]) (rh := []) (ph := .agg [.own, .raw]) (ps := [Meets Try.prog 37 [(AV.ro 3 (p1.map o51)), (AV.ro 3 (p2.map o51))] (AV.own 51 3 (r9.map o51)), noRo (AV.own 51 3 (r9.map o51)) = true, AV.lit (.int .i64 (((List.length (r9.map o51)) : Nat) : Int)) = (I (r9.length : Int)), (decide ((r9.length : Int) > 200)) = false, treeLL ((r9.map o51).take (List.length (r9.map o51))) = true, (r9.map o51).take (List.length (r9.map o51)) = (r9.map o51), noRoLL (r9.map o51) = true, (B true) = (B true), litA (B true) = true]) (by kernel_rfl) ⟨(spec_l11All_m hr9), (by simp only [noRo, noRoL, noRoM n51, Bool.and_self]), (lenM o51), c11, (treeT t51), takeM, (noRoM n51), rfl, rfl, trivial⟩
noncomputable def spec_AddPairs (p1 : (List GPair)) (p2 : (List GPair)) : Option ((List GPair) × Bool) :=
  Option.bind (spec_l11Rising p1) fun r3 =>
  if (!r3) = true then
    some ([], false)
  else
    Option.bind (spec_l11Rising p2) fun r6 =>
    if (!r6) = true then
      some ([], false)
    else
      spec_AddPairs_j0 p1 p2
theorem spec_AddPairs_m {p1 : (List GPair)} {p2 : (List GPair)} {r : ((List GPair) × Bool)} (h : spec_AddPairs p1 p2 = some r) : Meets Try.prog 10 [(AV.ro 3 (p1.map o51)), (AV.ro 3 (p2.map o51))] (AV.tup [(AV.own 51 3 (r.1.map o51)), (B r.2)]) := by
  refine meets_ofC Θ_ok Try.func10 rfl (c := body10) (by kernel_rfl) (Nat.le_of_ble_eq_true rfl) ?_
  intro E hP hn hx
  replace hn : E.n = 22 := hn
  have hm : E.P.follows .mixedOrders = true := by rw [hP]; exact mixed
  have hΘ : TOK E.P Θ := by rw [hP]; exact Θ_ok
  unfold spec_AddPairs at h
  show WAt E body10 (FQ (RetE Θ Try.f10.results.toList [] [] (AV.tup [(AV.own 51 3 (r.1.map o51)), (B r.2)]) E)) [] ⟨[(0, (AV.ro 3 (p1.map o51))), (1, (AV.ro 3 (p2.map o51)))], [], [JJ]⟩
  obtain ⟨r3, hr3, h⟩ := bnS h
  rcases itS h with ⟨c4, h⟩ | ⟨c5, h⟩
  · have h := Option.some.inj h
    subst h
    exact go_ret hΘ hm hP hn (hs := [⟨3, .callV [] (B r3), none⟩, ⟨5, .no, some (B true)⟩]) (rh := []) (ph := .agg [.own, .raw]) (ps := [Meets Try.prog 36 [(AV.ro 3 (p1.map o51))] (B r3), litA (B r3) = true, (B (!r3)) = (B true), (B false) = (B false), litA (B false) = true]) (by kernel_rfl) ⟨(spec_l11Rising_m hr3), rfl, (litB c4), rfl, rfl, trivial⟩
  · obtain ⟨r6, hr6, h⟩ := bnS h
    rcases itS h with ⟨c7, h⟩ | ⟨c8, h⟩
    · have h := Option.some.inj h
      subst h
      exact go_ret hΘ hm hP hn (hs := [⟨3, .callV [] (B r3), none⟩, ⟨5, .no, some (B false)⟩, ⟨7, .callV [] (B r6), none⟩, ⟨10, .br true, none⟩]) (rh := []) (ph := .agg [.own, .raw]) (ps := [Meets Try.prog 36 [(AV.ro 3 (p1.map o51))] (B r3), litA (B r3) = true, (B (!r3)) = (B false), Meets Try.prog 36 [(AV.ro 3 (p2.map o51))] (B r6), litA (B r6) = true, (!r6) = true, (B false) = (B false), litA (B false) = true]) (by kernel_rfl) ⟨(spec_l11Rising_m hr3), rfl, (litB c5), (spec_l11Rising_m hr6), rfl, c7, rfl, rfl, trivial⟩
    · exact go_to hΘ hm hx hP hn (hs := [⟨3, .callV [] (B r3), none⟩, ⟨5, .no, some (B false)⟩, ⟨7, .callV [] (B r6), none⟩, ⟨10, .br false, none⟩]) (π := []) (ts := [0, 1]) (kp := []) (ps := [Meets Try.prog 36 [(AV.ro 3 (p1.map o51))] (B r3), litA (B r3) = true, (B (!r3)) = (B false), Meets Try.prog 36 [(AV.ro 3 (p2.map o51))] (B r6), litA (B r6) = true, (!r6) = false]) (by kernel_rfl) ⟨(spec_l11Rising_m hr3), rfl, (litB c5), (spec_l11Rising_m hr6), rfl, c8, trivial⟩ (spec_AddPairs_j0_m hP hn hx p1 p2  _ h)
noncomputable def body3 : Code := match Try.f3.body with | some c => c | none => .skip
noncomputable def laws_FnExactAddPairs_j2  (r42 : (Int × (List GPair)))  : Option Bool :=
  Option.bind (laws_heldPairS r42.2 1) fun r57 =>
  if (decide (r57 < 0)) = true then
    some false
  else
    if (r57 != r42.1) = true then
      some false
    else
      some true
theorem laws_FnExactAddPairs_j2_m {E : Env} (hP : E.P = Try.prog) (hn : E.n = 119) (hx : ∀ p, p ∈ E.fx → p.1 ∈ ([] : List Nat)) (r42 : (Int × (List GPair)))   (r : Bool) (h : laws_FnExactAddPairs_j2 r42  = some r) : WAt E body3 (FQ (RetE Θ Try.f3.results.toList [] [] (B r) E)) [true, true, true, true, true, true, true, true, true, true, true, true, true, true, true, true, true, true, true, true, true, true, true, true, false, true, true] ⟨[(10, (AV.sl 1 0 (List.length (r42.2.map o51)))), (13, (I r42.1))], [(1, some ⟨51, 3, (r42.2.map o51)⟩)], [1, JJ]⟩ := by
  have hm : E.P.follows .mixedOrders = true := by rw [hP]; exact mixed
  have hΘ : TOK E.P Θ := by rw [hP]; exact Θ_ok
  unfold laws_FnExactAddPairs_j2 at h
  obtain ⟨r57, hr57, h⟩ := bnS h
  rcases itS h with ⟨c58, h⟩ | ⟨c59, h⟩
  · have h := Option.some.inj h
    subst h
    exact go_ret hΘ hm hP hn (hs := [⟨3, .callV [(r42.2.map o51)] (I r57), none⟩, ⟨7, .br true, none⟩]) (rh := []) (ph := .raw) (ps := [Meets Try.prog 15 [(AV.ro 3 (r42.2.map o51)), (I 1)] (I r57), litA (I r57) = true, Frz (((r42.2.map o51).drop 0).take (List.length (r42.2.map o51))) (r42.2.map o51), (decide (r57 < 0)) = true, (B false) = (B false), litA (B false) = true]) (by kernel_rfl) ⟨(laws_heldPairS_m hr57), rfl, (frzF t51 z51), c58, rfl, rfl, trivial⟩
  · rcases itS h with ⟨c60, h⟩ | ⟨c61, h⟩
    · have h := Option.some.inj h
      subst h
      exact go_ret hΘ hm hP hn (hs := [⟨3, .callV [(r42.2.map o51)] (I r57), none⟩, ⟨7, .br false, none⟩, ⟨11, .br true, none⟩]) (rh := []) (ph := .raw) (ps := [Meets Try.prog 15 [(AV.ro 3 (r42.2.map o51)), (I 1)] (I r57), litA (I r57) = true, Frz (((r42.2.map o51).drop 0).take (List.length (r42.2.map o51))) (r42.2.map o51), (decide (r57 < 0)) = false, (r57 != r42.1) = true, (B false) = (B false), litA (B false) = true]) (by kernel_rfl) ⟨(laws_heldPairS_m hr57), rfl, (frzF t51 z51), c59, c60, rfl, rfl, trivial⟩
    · have h := Option.some.inj h
      subst h
      exact go_ret hΘ hm hP hn (hs := [⟨3, .callV [(r42.2.map o51)] (I r57), none⟩, ⟨7, .br false, none⟩, ⟨11, .br false, none⟩]) (rh := []) (ph := .raw) (ps := [Meets Try.prog 15 [(AV.ro 3 (r42.2.map o51)), (I 1)] (I r57), litA (I r57) = true, Frz (((r42.2.map o51).drop 0).take (List.length (r42.2.map o51))) (r42.2.map o51), (decide (r57 < 0)) = false, (r57 != r42.1) = false, (B true) = (B true), litA (B true) = true]) (by kernel_rfl) ⟨(laws_heldPairS_m hr57), rfl, (frzF t51 z51), c59, c61, rfl, rfl, trivial⟩
noncomputable def laws_FnExactAddPairs_j1  (p1 : (List GPair)) (p2 : (List GPair)) (r11 : ((List GPair) × Bool)) (r14 : ((List GPair) × Bool))  : Option Bool :=
  Option.bind (laws_markPairS r14.1 1) fun r42 =>
  Option.bind (sameLen r14.1 r42.2) fun q43 =>
  Option.bind (laws_heldPairS r42.2 1) fun r44 =>
  if (decide (r44 < 0)) = true then
    some false
  else
    if (r44 != r42.1) = true then
      some false
    else
      Option.bind (laws_toPairS p1) fun r49 =>
      Option.bind (laws_toPairS p2) fun r50 =>
      Option.bind (impl_AddPairs r49 r50) fun r51 =>
      Option.bind (laws_eqPairS r51.1 r11.1) fun r52 =>
      if (!r52) = true then
        some false
      else
        if (!(r51.2 == r11.2)) = true then
          some false
        else
          laws_FnExactAddPairs_j2 r42
theorem laws_FnExactAddPairs_j1_m {E : Env} (hP : E.P = Try.prog) (hn : E.n = 119) (hx : ∀ p, p ∈ E.fx → p.1 ∈ ([] : List Nat)) (p1 : (List GPair)) (p2 : (List GPair)) (r11 : ((List GPair) × Bool)) (r14 : ((List GPair) × Bool))   (r : Bool) (h : laws_FnExactAddPairs_j1 p1 p2 r11 r14  = some r) : WAt E body3 (FQ (RetE Θ Try.f3.results.toList [] [] (B r) E)) [true, true, true, true, true, true, true, true, true, true, true, true, true, true, true, true, false, true, true] ⟨[(0, (AV.ro 3 (p1.map o53))), (1, (AV.ro 3 (p2.map o53))), (6, (AV.sl 1 0 (List.length (r11.1.map o51)))), (7, (B r11.2)), (10, (AV.sl 2 0 (List.length (r14.1.map o51))))], [(1, some ⟨51, 3, (r11.1.map o51)⟩), (2, some ⟨51, 3, (r14.1.map o51)⟩)], [1, 2, JJ]⟩ := by
  have hm : E.P.follows .mixedOrders = true := by rw [hP]; exact mixed
  have hΘ : TOK E.P Θ := by rw [hP]; exact Θ_ok
  unfold laws_FnExactAddPairs_j1 at h
  obtain ⟨r42, hr42, h⟩ := bnS h
  obtain ⟨q43, hq43, h⟩ := bnS h
  obtain ⟨r44, hr44, h⟩ := bnS h
  rcases itS h with ⟨c45, h⟩ | ⟨c46, h⟩
  · have h := Option.some.inj h
    subst h
    exact go_ret hΘ hm hP hn (hs := [⟨3, .callX [2] [true] [⟨51, 3, (r14.1.map o51)⟩] [⟨51, 3, (r42.2.map o51)⟩] [] (I r42.1) [] (I r42.1) [], none⟩, ⟨6, .slen 10 (List.length (r42.2.map o51)), none⟩, ⟨8, .callV [(r42.2.map o51)] (I r44), none⟩, ⟨12, .br true, none⟩]) (rh := []) (ph := .raw) (ps := [MeetsR Try.prog 14 [⟨51, 3, (r14.1.map o51)⟩] [(AV.sl 0 0 (List.length (r14.1.map o51))), (I 1)] [true] [⟨51, 3, (r42.2.map o51)⟩] (I r42.1), (some (Root.mk 51 3 (r14.1.map o51)) = some (Root.mk 51 3 (r14.1.map o51))) ∧ True, (treeLL (r14.1.map o51) = true ∧ noRoLL (r14.1.map o51) = true) ∧ True, ((r42.2.map o51).length = (r14.1.map o51).length) ∧ True, (rtf (renA [(0, 2)] (I r42.1)) []).1 = (I r42.1), (rtf (renA [(0, 2)] (I r42.1)) []).2.1 = [], (List.length (r14.1.map o51)) = (List.length (r42.2.map o51)), Meets Try.prog 15 [(AV.ro 3 (r42.2.map o51)), (I 1)] (I r44), litA (I r44) = true, Frz (((r42.2.map o51).drop 0).take (List.length (r42.2.map o51))) (r42.2.map o51), (decide (r44 < 0)) = true, (B false) = (B false), litA (B false) = true]) (by kernel_rfl) ⟨(laws_markPairS_m hr42), ⟨rfl, trivial⟩, ⟨⟨treeM t51, noRoM n51⟩, trivial⟩, ⟨(sameLenE o51 hq43), trivial⟩, rfl, rfl, (sameLenE o51 hq43).symm, (laws_heldPairS_m hr44), rfl, (frzF t51 z51), c45, rfl, rfl, trivial⟩
  · rcases itS h with ⟨c47, h⟩ | ⟨c48, h⟩
    · have h := Option.some.inj h
      subst h
      exact go_ret hΘ hm hP hn (hs := [⟨3, .callX [2] [true] [⟨51, 3, (r14.1.map o51)⟩] [⟨51, 3, (r42.2.map o51)⟩] [] (I r42.1) [] (I r42.1) [], none⟩, ⟨6, .slen 10 (List.length (r42.2.map o51)), none⟩, ⟨8, .callV [(r42.2.map o51)] (I r44), none⟩, ⟨12, .br false, none⟩, ⟨16, .br true, none⟩]) (rh := []) (ph := .raw) (ps := [MeetsR Try.prog 14 [⟨51, 3, (r14.1.map o51)⟩] [(AV.sl 0 0 (List.length (r14.1.map o51))), (I 1)] [true] [⟨51, 3, (r42.2.map o51)⟩] (I r42.1), (some (Root.mk 51 3 (r14.1.map o51)) = some (Root.mk 51 3 (r14.1.map o51))) ∧ True, (treeLL (r14.1.map o51) = true ∧ noRoLL (r14.1.map o51) = true) ∧ True, ((r42.2.map o51).length = (r14.1.map o51).length) ∧ True, (rtf (renA [(0, 2)] (I r42.1)) []).1 = (I r42.1), (rtf (renA [(0, 2)] (I r42.1)) []).2.1 = [], (List.length (r14.1.map o51)) = (List.length (r42.2.map o51)), Meets Try.prog 15 [(AV.ro 3 (r42.2.map o51)), (I 1)] (I r44), litA (I r44) = true, Frz (((r42.2.map o51).drop 0).take (List.length (r42.2.map o51))) (r42.2.map o51), (decide (r44 < 0)) = false, (r44 != r42.1) = true, (B false) = (B false), litA (B false) = true]) (by kernel_rfl) ⟨(laws_markPairS_m hr42), ⟨rfl, trivial⟩, ⟨⟨treeM t51, noRoM n51⟩, trivial⟩, ⟨(sameLenE o51 hq43), trivial⟩, rfl, rfl, (sameLenE o51 hq43).symm, (laws_heldPairS_m hr44), rfl, (frzF t51 z51), c46, c47, rfl, rfl, trivial⟩
    · obtain ⟨r49, hr49, h⟩ := bnS h
      obtain ⟨r50, hr50, h⟩ := bnS h
      obtain ⟨r51, hr51, h⟩ := bnS h
      obtain ⟨r52, hr52, h⟩ := bnS h
      rcases itS h with ⟨c53, h⟩ | ⟨c54, h⟩
      · have h := Option.some.inj h
        subst h
        exact go_ret hΘ hm hP hn (hs := [⟨3, .callX [2] [true] [⟨51, 3, (r14.1.map o51)⟩] [⟨51, 3, (r42.2.map o51)⟩] [] (I r42.1) [] (I r42.1) [], none⟩, ⟨6, .slen 10 (List.length (r42.2.map o51)), none⟩, ⟨8, .callV [(r42.2.map o51)] (I r44), none⟩, ⟨12, .br false, none⟩, ⟨16, .br false, none⟩, ⟨18, .call [] (AV.own 51 3 (r49.map o51)) [1001], none⟩, ⟨20, .call [] (AV.own 51 3 (r50.map o51)) [1002], none⟩, ⟨21, .call [(r49.map o51), (r50.map o51)] (AV.tup [(AV.own 51 3 (r51.1.map o51)), (B r51.2)]) [1003], none⟩, ⟨29, .callV [(r51.1.map o51), (r11.1.map o51)] (B r52), none⟩, ⟨31, .no, some (B true)⟩]) (rh := []) (ph := .raw) (ps := [MeetsR Try.prog 14 [⟨51, 3, (r14.1.map o51)⟩] [(AV.sl 0 0 (List.length (r14.1.map o51))), (I 1)] [true] [⟨51, 3, (r42.2.map o51)⟩] (I r42.1), (some (Root.mk 51 3 (r14.1.map o51)) = some (Root.mk 51 3 (r14.1.map o51))) ∧ True, (treeLL (r14.1.map o51) = true ∧ noRoLL (r14.1.map o51) = true) ∧ True, ((r42.2.map o51).length = (r14.1.map o51).length) ∧ True, (rtf (renA [(0, 2)] (I r42.1)) []).1 = (I r42.1), (rtf (renA [(0, 2)] (I r42.1)) []).2.1 = [], (List.length (r14.1.map o51)) = (List.length (r42.2.map o51)), Meets Try.prog 15 [(AV.ro 3 (r42.2.map o51)), (I 1)] (I r44), litA (I r44) = true, Frz (((r42.2.map o51).drop 0).take (List.length (r42.2.map o51))) (r42.2.map o51), (decide (r44 < 0)) = false, (r44 != r42.1) = false, Meets Try.prog 11 [(AV.ro 3 (p1.map o53))] (AV.own 51 3 (r49.map o51)), noRo (AV.own 51 3 (r49.map o51)) = true, Meets Try.prog 11 [(AV.ro 3 (p2.map o53))] (AV.own 51 3 (r50.map o51)), noRo (AV.own 51 3 (r50.map o51)) = true, Meets Try.prog 12 [(AV.ro 3 (r49.map o51)), (AV.ro 3 (r50.map o51))] (AV.tup [(AV.own 51 3 (r51.1.map o51)), (B r51.2)]), noRo (AV.tup [(AV.own 51 3 (r51.1.map o51)), (B r51.2)]) = true, Frz (((r49.map o51).drop 0).take (List.length (r49.map o51))) (r49.map o51), Frz (((r50.map o51).drop 0).take (List.length (r50.map o51))) (r50.map o51), Meets Try.prog 13 [(AV.ro 3 (r51.1.map o51)), (AV.ro 3 (r11.1.map o51))] (B r52), litA (B r52) = true, Frz (((r51.1.map o51).drop 0).take (List.length (r51.1.map o51))) (r51.1.map o51), Frz (((r11.1.map o51).drop 0).take (List.length (r11.1.map o51))) (r11.1.map o51), (B (!r52)) = (B true), (B false) = (B false), litA (B false) = true]) (by kernel_rfl) ⟨(laws_markPairS_m hr42), ⟨rfl, trivial⟩, ⟨⟨treeM t51, noRoM n51⟩, trivial⟩, ⟨(sameLenE o51 hq43), trivial⟩, rfl, rfl, (sameLenE o51 hq43).symm, (laws_heldPairS_m hr44), rfl, (frzF t51 z51), c46, c48, (laws_toPairS_m hr49), (by simp only [noRo, noRoL, noRoM n51, Bool.and_self]), (laws_toPairS_m hr50), (by simp only [noRo, noRoL, noRoM n51, Bool.and_self]), (impl_AddPairs_m hr51), (by simp only [noRo, noRoL, noRoM n51, Bool.and_self]), (frzF t51 z51), (frzF t51 z51), (laws_eqPairS_m hr52), rfl, (frzF t51 z51), (frzF t51 z51), (litB c53), rfl, rfl, trivial⟩
      · rcases itS h with ⟨c55, h⟩ | ⟨c56, h⟩
        · have h := Option.some.inj h
          subst h
          exact go_ret hΘ hm hP hn (hs := [⟨3, .callX [2] [true] [⟨51, 3, (r14.1.map o51)⟩] [⟨51, 3, (r42.2.map o51)⟩] [] (I r42.1) [] (I r42.1) [], none⟩, ⟨6, .slen 10 (List.length (r42.2.map o51)), none⟩, ⟨8, .callV [(r42.2.map o51)] (I r44), none⟩, ⟨12, .br false, none⟩, ⟨16, .br false, none⟩, ⟨18, .call [] (AV.own 51 3 (r49.map o51)) [1001], none⟩, ⟨20, .call [] (AV.own 51 3 (r50.map o51)) [1002], none⟩, ⟨21, .call [(r49.map o51), (r50.map o51)] (AV.tup [(AV.own 51 3 (r51.1.map o51)), (B r51.2)]) [1003], none⟩, ⟨29, .callV [(r51.1.map o51), (r11.1.map o51)] (B r52), none⟩, ⟨31, .no, some (B false)⟩, ⟨36, .br true, none⟩]) (rh := []) (ph := .raw) (ps := [MeetsR Try.prog 14 [⟨51, 3, (r14.1.map o51)⟩] [(AV.sl 0 0 (List.length (r14.1.map o51))), (I 1)] [true] [⟨51, 3, (r42.2.map o51)⟩] (I r42.1), (some (Root.mk 51 3 (r14.1.map o51)) = some (Root.mk 51 3 (r14.1.map o51))) ∧ True, (treeLL (r14.1.map o51) = true ∧ noRoLL (r14.1.map o51) = true) ∧ True, ((r42.2.map o51).length = (r14.1.map o51).length) ∧ True, (rtf (renA [(0, 2)] (I r42.1)) []).1 = (I r42.1), (rtf (renA [(0, 2)] (I r42.1)) []).2.1 = [], (List.length (r14.1.map o51)) = (List.length (r42.2.map o51)), Meets Try.prog 15 [(AV.ro 3 (r42.2.map o51)), (I 1)] (I r44), litA (I r44) = true, Frz (((r42.2.map o51).drop 0).take (List.length (r42.2.map o51))) (r42.2.map o51), (decide (r44 < 0)) = false, (r44 != r42.1) = false, Meets Try.prog 11 [(AV.ro 3 (p1.map o53))] (AV.own 51 3 (r49.map o51)), noRo (AV.own 51 3 (r49.map o51)) = true, Meets Try.prog 11 [(AV.ro 3 (p2.map o53))] (AV.own 51 3 (r50.map o51)), noRo (AV.own 51 3 (r50.map o51)) = true, Meets Try.prog 12 [(AV.ro 3 (r49.map o51)), (AV.ro 3 (r50.map o51))] (AV.tup [(AV.own 51 3 (r51.1.map o51)), (B r51.2)]), noRo (AV.tup [(AV.own 51 3 (r51.1.map o51)), (B r51.2)]) = true, Frz (((r49.map o51).drop 0).take (List.length (r49.map o51))) (r49.map o51), Frz (((r50.map o51).drop 0).take (List.length (r50.map o51))) (r50.map o51), Meets Try.prog 13 [(AV.ro 3 (r51.1.map o51)), (AV.ro 3 (r11.1.map o51))] (B r52), litA (B r52) = true, Frz (((r51.1.map o51).drop 0).take (List.length (r51.1.map o51))) (r51.1.map o51), Frz (((r11.1.map o51).drop 0).take (List.length (r11.1.map o51))) (r11.1.map o51), (B (!r52)) = (B false), (!(r51.2 == r11.2)) = true, (B false) = (B false), litA (B false) = true]) (by kernel_rfl) ⟨(laws_markPairS_m hr42), ⟨rfl, trivial⟩, ⟨⟨treeM t51, noRoM n51⟩, trivial⟩, ⟨(sameLenE o51 hq43), trivial⟩, rfl, rfl, (sameLenE o51 hq43).symm, (laws_heldPairS_m hr44), rfl, (frzF t51 z51), c46, c48, (laws_toPairS_m hr49), (by simp only [noRo, noRoL, noRoM n51, Bool.and_self]), (laws_toPairS_m hr50), (by simp only [noRo, noRoL, noRoM n51, Bool.and_self]), (impl_AddPairs_m hr51), (by simp only [noRo, noRoL, noRoM n51, Bool.and_self]), (frzF t51 z51), (frzF t51 z51), (laws_eqPairS_m hr52), rfl, (frzF t51 z51), (frzF t51 z51), (litB c54), c55, rfl, rfl, trivial⟩
        · exact go_to hΘ hm hx hP hn (hs := [⟨3, .callX [2] [true] [⟨51, 3, (r14.1.map o51)⟩] [⟨51, 3, (r42.2.map o51)⟩] [] (I r42.1) [] (I r42.1) [], none⟩, ⟨6, .slen 10 (List.length (r42.2.map o51)), none⟩, ⟨8, .callV [(r42.2.map o51)] (I r44), none⟩, ⟨12, .br false, none⟩, ⟨16, .br false, none⟩, ⟨18, .call [] (AV.own 51 3 (r49.map o51)) [1001], none⟩, ⟨20, .call [] (AV.own 51 3 (r50.map o51)) [1002], none⟩, ⟨21, .call [(r49.map o51), (r50.map o51)] (AV.tup [(AV.own 51 3 (r51.1.map o51)), (B r51.2)]) [1003], none⟩, ⟨29, .callV [(r51.1.map o51), (r11.1.map o51)] (B r52), none⟩, ⟨31, .no, some (B false)⟩, ⟨36, .br false, none⟩]) (π := [(2, 1)]) (ts := [10, 13]) (kp := []) (ps := [MeetsR Try.prog 14 [⟨51, 3, (r14.1.map o51)⟩] [(AV.sl 0 0 (List.length (r14.1.map o51))), (I 1)] [true] [⟨51, 3, (r42.2.map o51)⟩] (I r42.1), (some (Root.mk 51 3 (r14.1.map o51)) = some (Root.mk 51 3 (r14.1.map o51))) ∧ True, (treeLL (r14.1.map o51) = true ∧ noRoLL (r14.1.map o51) = true) ∧ True, ((r42.2.map o51).length = (r14.1.map o51).length) ∧ True, (rtf (renA [(0, 2)] (I r42.1)) []).1 = (I r42.1), (rtf (renA [(0, 2)] (I r42.1)) []).2.1 = [], (List.length (r14.1.map o51)) = (List.length (r42.2.map o51)), Meets Try.prog 15 [(AV.ro 3 (r42.2.map o51)), (I 1)] (I r44), litA (I r44) = true, Frz (((r42.2.map o51).drop 0).take (List.length (r42.2.map o51))) (r42.2.map o51), (decide (r44 < 0)) = false, (r44 != r42.1) = false, Meets Try.prog 11 [(AV.ro 3 (p1.map o53))] (AV.own 51 3 (r49.map o51)), noRo (AV.own 51 3 (r49.map o51)) = true, Meets Try.prog 11 [(AV.ro 3 (p2.map o53))] (AV.own 51 3 (r50.map o51)), noRo (AV.own 51 3 (r50.map o51)) = true, Meets Try.prog 12 [(AV.ro 3 (r49.map o51)), (AV.ro 3 (r50.map o51))] (AV.tup [(AV.own 51 3 (r51.1.map o51)), (B r51.2)]), noRo (AV.tup [(AV.own 51 3 (r51.1.map o51)), (B r51.2)]) = true, Frz (((r49.map o51).drop 0).take (List.length (r49.map o51))) (r49.map o51), Frz (((r50.map o51).drop 0).take (List.length (r50.map o51))) (r50.map o51), Meets Try.prog 13 [(AV.ro 3 (r51.1.map o51)), (AV.ro 3 (r11.1.map o51))] (B r52), litA (B r52) = true, Frz (((r51.1.map o51).drop 0).take (List.length (r51.1.map o51))) (r51.1.map o51), Frz (((r11.1.map o51).drop 0).take (List.length (r11.1.map o51))) (r11.1.map o51), (B (!r52)) = (B false), (!(r51.2 == r11.2)) = false, RenOK [(2, 1)] (r42.2.map o51)]) (by kernel_rfl) ⟨(laws_markPairS_m hr42), ⟨rfl, trivial⟩, ⟨⟨treeM t51, noRoM n51⟩, trivial⟩, ⟨(sameLenE o51 hq43), trivial⟩, rfl, rfl, (sameLenE o51 hq43).symm, (laws_heldPairS_m hr44), rfl, (frzF t51 z51), c46, c48, (laws_toPairS_m hr49), (by simp only [noRo, noRoL, noRoM n51, Bool.and_self]), (laws_toPairS_m hr50), (by simp only [noRo, noRoL, noRoM n51, Bool.and_self]), (impl_AddPairs_m hr51), (by simp only [noRo, noRoL, noRoM n51, Bool.and_self]), (frzF t51 z51), (frzF t51 z51), (laws_eqPairS_m hr52), rfl, (frzF t51 z51), (frzF t51 z51), (litB c54), c56, (rok (treeM t51)), trivial⟩ (laws_FnExactAddPairs_j2_m hP hn hx r42  _ h)
noncomputable def laws_FnExactAddPairs_j0  (p1 : (List GPair)) (p2 : (List GPair)) (r11 : ((List GPair) × Bool)) (r12 : (List GPair)) (r13 : (List GPair)) (r14 : ((List GPair) × Bool))  : Option Bool :=
  Option.bind (laws_toPairS p1) fun r20 =>
  Option.bind (laws_eqPairS r12 r20) fun r21 =>
  if (!r21) = true then
    some false
  else
    Option.bind (laws_toPairS p2) fun r25 =>
    Option.bind (laws_eqPairS r13 r25) fun r26 =>
    if (!r26) = true then
      some false
    else
      Option.bind (laws_markPairS r12 1) fun r29 =>
      Option.bind (sameLen r12 r29.2) fun q30 =>
      Option.bind (laws_markPairS r13 r29.1) fun r32 =>
      Option.bind (sameLen r13 r32.2) fun q33 =>
      if (decide (r32.1 < 0)) = true then
        some false
      else
        Option.bind (laws_eqPairS r14.1 r11.1) fun r37 =>
        if (!r37) = true then
          some false
        else
          if (!(r14.2 == r11.2)) = true then
            some false
          else
            laws_FnExactAddPairs_j1 p1 p2 r11 r14
theorem laws_FnExactAddPairs_j0_m {E : Env} (hP : E.P = Try.prog) (hn : E.n = 119) (hx : ∀ p, p ∈ E.fx → p.1 ∈ ([] : List Nat)) (p1 : (List GPair)) (p2 : (List GPair)) (r11 : ((List GPair) × Bool)) (r12 : (List GPair)) (r13 : (List GPair)) (r14 : ((List GPair) × Bool))   (r : Bool) (h : laws_FnExactAddPairs_j0 p1 p2 r11 r12 r13 r14  = some r) : WAt E body3 (FQ (RetE Θ Try.f3.results.toList [] [] (B r) E)) [true, true, true, true, true, true, true, true, true, true, false, true, true] ⟨[(0, (AV.ro 3 (p1.map o53))), (1, (AV.ro 3 (p2.map o53))), (6, (AV.sl 1 0 (List.length (r11.1.map o51)))), (7, (B r11.2)), (8, (AV.sl 2 0 (List.length (r12.map o51)))), (9, (AV.sl 3 0 (List.length (r13.map o51)))), (10, (AV.sl 4 0 (List.length (r14.1.map o51)))), (11, (B r14.2))], [(1, some ⟨51, 3, (r11.1.map o51)⟩), (2, some ⟨51, 3, (r12.map o51)⟩), (3, some ⟨51, 3, (r13.map o51)⟩), (4, some ⟨51, 3, (r14.1.map o51)⟩)], [1, 2, 3, 4, JJ]⟩ := by
  have hm : E.P.follows .mixedOrders = true := by rw [hP]; exact mixed
  have hΘ : TOK E.P Θ := by rw [hP]; exact Θ_ok
  unfold laws_FnExactAddPairs_j0 at h
  obtain ⟨r20, hr20, h⟩ := bnS h
  obtain ⟨r21, hr21, h⟩ := bnS h
  rcases itS h with ⟨c22, h⟩ | ⟨c23, h⟩
  · have h := Option.some.inj h
    subst h
    exact go_ret hΘ hm hP hn (hs := [⟨2, .call [] (AV.own 51 3 (r20.map o51)) [1001], none⟩, ⟨3, .callV [(r12.map o51), (r20.map o51)] (B r21), none⟩, ⟨5, .br true, none⟩]) (rh := []) (ph := .raw) (ps := [Meets Try.prog 11 [(AV.ro 3 (p1.map o53))] (AV.own 51 3 (r20.map o51)), noRo (AV.own 51 3 (r20.map o51)) = true, Meets Try.prog 13 [(AV.ro 3 (r12.map o51)), (AV.ro 3 (r20.map o51))] (B r21), litA (B r21) = true, Frz (((r12.map o51).drop 0).take (List.length (r12.map o51))) (r12.map o51), Frz (((r20.map o51).drop 0).take (List.length (r20.map o51))) (r20.map o51), (!r21) = true, (B false) = (B false), litA (B false) = true]) (by kernel_rfl) ⟨(laws_toPairS_m hr20), (by simp only [noRo, noRoL, noRoM n51, Bool.and_self]), (laws_eqPairS_m hr21), rfl, (frzF t51 z51), (frzF t51 z51), c22, rfl, rfl, trivial⟩
  · obtain ⟨r25, hr25, h⟩ := bnS h
    obtain ⟨r26, hr26, h⟩ := bnS h
    rcases itS h with ⟨c27, h⟩ | ⟨c28, h⟩
    · have h := Option.some.inj h
      subst h
      exact go_ret hΘ hm hP hn (hs := [⟨2, .call [] (AV.own 51 3 (r20.map o51)) [1001], none⟩, ⟨3, .callV [(r12.map o51), (r20.map o51)] (B r21), none⟩, ⟨5, .br false, none⟩, ⟨8, .call [] (AV.own 51 3 (r25.map o51)) [1002], none⟩, ⟨9, .callV [(r13.map o51), (r25.map o51)] (B r26), none⟩, ⟨11, .br true, none⟩]) (rh := []) (ph := .raw) (ps := [Meets Try.prog 11 [(AV.ro 3 (p1.map o53))] (AV.own 51 3 (r20.map o51)), noRo (AV.own 51 3 (r20.map o51)) = true, Meets Try.prog 13 [(AV.ro 3 (r12.map o51)), (AV.ro 3 (r20.map o51))] (B r21), litA (B r21) = true, Frz (((r12.map o51).drop 0).take (List.length (r12.map o51))) (r12.map o51), Frz (((r20.map o51).drop 0).take (List.length (r20.map o51))) (r20.map o51), (!r21) = false, Meets Try.prog 11 [(AV.ro 3 (p2.map o53))] (AV.own 51 3 (r25.map o51)), noRo (AV.own 51 3 (r25.map o51)) = true, Meets Try.prog 13 [(AV.ro 3 (r13.map o51)), (AV.ro 3 (r25.map o51))] (B r26), litA (B r26) = true, Frz (((r13.map o51).drop 0).take (List.length (r13.map o51))) (r13.map o51), Frz (((r25.map o51).drop 0).take (List.length (r25.map o51))) (r25.map o51), (!r26) = true, (B false) = (B false), litA (B false) = true]) (by kernel_rfl) ⟨(laws_toPairS_m hr20), (by simp only [noRo, noRoL, noRoM n51, Bool.and_self]), (laws_eqPairS_m hr21), rfl, (frzF t51 z51), (frzF t51 z51), c23, (laws_toPairS_m hr25), (by simp only [noRo, noRoL, noRoM n51, Bool.and_self]), (laws_eqPairS_m hr26), rfl, (frzF t51 z51), (frzF t51 z51), c27, rfl, rfl, trivial⟩
    · obtain ⟨r29, hr29, h⟩ := bnS h
      obtain ⟨q30, hq30, h⟩ := bnS h
      obtain ⟨r32, hr32, h⟩ := bnS h
      obtain ⟨q33, hq33, h⟩ := bnS h
      rcases itS h with ⟨c34, h⟩ | ⟨c35, h⟩
      · have h := Option.some.inj h
        subst h
        exact go_ret hΘ hm hP hn (hs := [⟨2, .call [] (AV.own 51 3 (r20.map o51)) [1001], none⟩, ⟨3, .callV [(r12.map o51), (r20.map o51)] (B r21), none⟩, ⟨5, .br false, none⟩, ⟨8, .call [] (AV.own 51 3 (r25.map o51)) [1002], none⟩, ⟨9, .callV [(r13.map o51), (r25.map o51)] (B r26), none⟩, ⟨11, .br false, none⟩, ⟨15, .callX [2] [true] [⟨51, 3, (r12.map o51)⟩] [⟨51, 3, (r29.2.map o51)⟩] [] (I r29.1) [] (I r29.1) [], none⟩, ⟨19, .callX [3] [true] [⟨51, 3, (r13.map o51)⟩] [⟨51, 3, (r32.2.map o51)⟩] [] (I r32.1) [] (I r32.1) [], none⟩, ⟨23, .no, some (B true)⟩]) (rh := []) (ph := .raw) (ps := [Meets Try.prog 11 [(AV.ro 3 (p1.map o53))] (AV.own 51 3 (r20.map o51)), noRo (AV.own 51 3 (r20.map o51)) = true, Meets Try.prog 13 [(AV.ro 3 (r12.map o51)), (AV.ro 3 (r20.map o51))] (B r21), litA (B r21) = true, Frz (((r12.map o51).drop 0).take (List.length (r12.map o51))) (r12.map o51), Frz (((r20.map o51).drop 0).take (List.length (r20.map o51))) (r20.map o51), (!r21) = false, Meets Try.prog 11 [(AV.ro 3 (p2.map o53))] (AV.own 51 3 (r25.map o51)), noRo (AV.own 51 3 (r25.map o51)) = true, Meets Try.prog 13 [(AV.ro 3 (r13.map o51)), (AV.ro 3 (r25.map o51))] (B r26), litA (B r26) = true, Frz (((r13.map o51).drop 0).take (List.length (r13.map o51))) (r13.map o51), Frz (((r25.map o51).drop 0).take (List.length (r25.map o51))) (r25.map o51), (!r26) = false, MeetsR Try.prog 14 [⟨51, 3, (r12.map o51)⟩] [(AV.sl 0 0 (List.length (r12.map o51))), (I 1)] [true] [⟨51, 3, (r29.2.map o51)⟩] (I r29.1), (some (Root.mk 51 3 (r12.map o51)) = some (Root.mk 51 3 (r12.map o51))) ∧ True, (treeLL (r12.map o51) = true ∧ noRoLL (r12.map o51) = true) ∧ True, ((r29.2.map o51).length = (r12.map o51).length) ∧ True, (rtf (renA [(0, 2)] (I r29.1)) []).1 = (I r29.1), (rtf (renA [(0, 2)] (I r29.1)) []).2.1 = [], MeetsR Try.prog 14 [⟨51, 3, (r13.map o51)⟩] [(AV.sl 0 0 (List.length (r13.map o51))), (I r29.1)] [true] [⟨51, 3, (r32.2.map o51)⟩] (I r32.1), (some (Root.mk 51 3 (r13.map o51)) = some (Root.mk 51 3 (r13.map o51))) ∧ True, (treeLL (r13.map o51) = true ∧ noRoLL (r13.map o51) = true) ∧ True, ((r32.2.map o51).length = (r13.map o51).length) ∧ True, (rtf (renA [(0, 3)] (I r32.1)) []).1 = (I r32.1), (rtf (renA [(0, 3)] (I r32.1)) []).2.1 = [], (B (decide (r32.1 < 0))) = (B true), (B false) = (B false), litA (B false) = true]) (by kernel_rfl) ⟨(laws_toPairS_m hr20), (by simp only [noRo, noRoL, noRoM n51, Bool.and_self]), (laws_eqPairS_m hr21), rfl, (frzF t51 z51), (frzF t51 z51), c23, (laws_toPairS_m hr25), (by simp only [noRo, noRoL, noRoM n51, Bool.and_self]), (laws_eqPairS_m hr26), rfl, (frzF t51 z51), (frzF t51 z51), c28, (laws_markPairS_m hr29), ⟨rfl, trivial⟩, ⟨⟨treeM t51, noRoM n51⟩, trivial⟩, ⟨(sameLenE o51 hq30), trivial⟩, rfl, rfl, (laws_markPairS_m hr32), ⟨rfl, trivial⟩, ⟨⟨treeM t51, noRoM n51⟩, trivial⟩, ⟨(sameLenE o51 hq33), trivial⟩, rfl, rfl, (litB c34), rfl, rfl, trivial⟩
      · obtain ⟨r37, hr37, h⟩ := bnS h
        rcases itS h with ⟨c38, h⟩ | ⟨c39, h⟩
        · have h := Option.some.inj h
          subst h
          exact go_ret hΘ hm hP hn (hs := [⟨2, .call [] (AV.own 51 3 (r20.map o51)) [1001], none⟩, ⟨3, .callV [(r12.map o51), (r20.map o51)] (B r21), none⟩, ⟨5, .br false, none⟩, ⟨8, .call [] (AV.own 51 3 (r25.map o51)) [1002], none⟩, ⟨9, .callV [(r13.map o51), (r25.map o51)] (B r26), none⟩, ⟨11, .br false, none⟩, ⟨15, .callX [2] [true] [⟨51, 3, (r12.map o51)⟩] [⟨51, 3, (r29.2.map o51)⟩] [] (I r29.1) [] (I r29.1) [], none⟩, ⟨19, .callX [3] [true] [⟨51, 3, (r13.map o51)⟩] [⟨51, 3, (r32.2.map o51)⟩] [] (I r32.1) [] (I r32.1) [], none⟩, ⟨23, .no, some (B false)⟩, ⟨26, .callV [(r14.1.map o51), (r11.1.map o51)] (B r37), none⟩, ⟨29, .no, some (B true)⟩]) (rh := []) (ph := .raw) (ps := [Meets Try.prog 11 [(AV.ro 3 (p1.map o53))] (AV.own 51 3 (r20.map o51)), noRo (AV.own 51 3 (r20.map o51)) = true, Meets Try.prog 13 [(AV.ro 3 (r12.map o51)), (AV.ro 3 (r20.map o51))] (B r21), litA (B r21) = true, Frz (((r12.map o51).drop 0).take (List.length (r12.map o51))) (r12.map o51), Frz (((r20.map o51).drop 0).take (List.length (r20.map o51))) (r20.map o51), (!r21) = false, Meets Try.prog 11 [(AV.ro 3 (p2.map o53))] (AV.own 51 3 (r25.map o51)), noRo (AV.own 51 3 (r25.map o51)) = true, Meets Try.prog 13 [(AV.ro 3 (r13.map o51)), (AV.ro 3 (r25.map o51))] (B r26), litA (B r26) = true, Frz (((r13.map o51).drop 0).take (List.length (r13.map o51))) (r13.map o51), Frz (((r25.map o51).drop 0).take (List.length (r25.map o51))) (r25.map o51), (!r26) = false, MeetsR Try.prog 14 [⟨51, 3, (r12.map o51)⟩] [(AV.sl 0 0 (List.length (r12.map o51))), (I 1)] [true] [⟨51, 3, (r29.2.map o51)⟩] (I r29.1), (some (Root.mk 51 3 (r12.map o51)) = some (Root.mk 51 3 (r12.map o51))) ∧ True, (treeLL (r12.map o51) = true ∧ noRoLL (r12.map o51) = true) ∧ True, ((r29.2.map o51).length = (r12.map o51).length) ∧ True, (rtf (renA [(0, 2)] (I r29.1)) []).1 = (I r29.1), (rtf (renA [(0, 2)] (I r29.1)) []).2.1 = [], MeetsR Try.prog 14 [⟨51, 3, (r13.map o51)⟩] [(AV.sl 0 0 (List.length (r13.map o51))), (I r29.1)] [true] [⟨51, 3, (r32.2.map o51)⟩] (I r32.1), (some (Root.mk 51 3 (r13.map o51)) = some (Root.mk 51 3 (r13.map o51))) ∧ True, (treeLL (r13.map o51) = true ∧ noRoLL (r13.map o51) = true) ∧ True, ((r32.2.map o51).length = (r13.map o51).length) ∧ True, (rtf (renA [(0, 3)] (I r32.1)) []).1 = (I r32.1), (rtf (renA [(0, 3)] (I r32.1)) []).2.1 = [], (B (decide (r32.1 < 0))) = (B false), Meets Try.prog 13 [(AV.ro 3 (r14.1.map o51)), (AV.ro 3 (r11.1.map o51))] (B r37), litA (B r37) = true, Frz (((r14.1.map o51).drop 0).take (List.length (r14.1.map o51))) (r14.1.map o51), Frz (((r11.1.map o51).drop 0).take (List.length (r11.1.map o51))) (r11.1.map o51), (B (!r37)) = (B true), (B false) = (B false), litA (B false) = true]) (by kernel_rfl) ⟨(laws_toPairS_m hr20), (by simp only [noRo, noRoL, noRoM n51, Bool.and_self]), (laws_eqPairS_m hr21), rfl, (frzF t51 z51), (frzF t51 z51), c23, (laws_toPairS_m hr25), (by simp only [noRo, noRoL, noRoM n51, Bool.and_self]), (laws_eqPairS_m hr26), rfl, (frzF t51 z51), (frzF t51 z51), c28, (laws_markPairS_m hr29), ⟨rfl, trivial⟩, ⟨⟨treeM t51, noRoM n51⟩, trivial⟩, ⟨(sameLenE o51 hq30), trivial⟩, rfl, rfl, (laws_markPairS_m hr32), ⟨rfl, trivial⟩, ⟨⟨treeM t51, noRoM n51⟩, trivial⟩, ⟨(sameLenE o51 hq33), trivial⟩, rfl, rfl, (litB c35), (laws_eqPairS_m hr37), rfl, (frzF t51 z51), (frzF t51 z51), (litB c38), rfl, rfl, trivial⟩
        · rcases itS h with ⟨c40, h⟩ | ⟨c41, h⟩
          · have h := Option.some.inj h
            subst h
            exact go_ret hΘ hm hP hn (hs := [⟨2, .call [] (AV.own 51 3 (r20.map o51)) [1001], none⟩, ⟨3, .callV [(r12.map o51), (r20.map o51)] (B r21), none⟩, ⟨5, .br false, none⟩, ⟨8, .call [] (AV.own 51 3 (r25.map o51)) [1002], none⟩, ⟨9, .callV [(r13.map o51), (r25.map o51)] (B r26), none⟩, ⟨11, .br false, none⟩, ⟨15, .callX [2] [true] [⟨51, 3, (r12.map o51)⟩] [⟨51, 3, (r29.2.map o51)⟩] [] (I r29.1) [] (I r29.1) [], none⟩, ⟨19, .callX [3] [true] [⟨51, 3, (r13.map o51)⟩] [⟨51, 3, (r32.2.map o51)⟩] [] (I r32.1) [] (I r32.1) [], none⟩, ⟨23, .no, some (B false)⟩, ⟨26, .callV [(r14.1.map o51), (r11.1.map o51)] (B r37), none⟩, ⟨29, .no, some (B false)⟩, ⟨34, .br true, none⟩]) (rh := []) (ph := .raw) (ps := [Meets Try.prog 11 [(AV.ro 3 (p1.map o53))] (AV.own 51 3 (r20.map o51)), noRo (AV.own 51 3 (r20.map o51)) = true, Meets Try.prog 13 [(AV.ro 3 (r12.map o51)), (AV.ro 3 (r20.map o51))] (B r21), litA (B r21) = true, Frz (((r12.map o51).drop 0).take (List.length (r12.map o51))) (r12.map o51), Frz (((r20.map o51).drop 0).take (List.length (r20.map o51))) (r20.map o51), (!r21) = false, Meets Try.prog 11 [(AV.ro 3 (p2.map o53))] (AV.own 51 3 (r25.map o51)), noRo (AV.own 51 3 (r25.map o51)) = true, Meets Try.prog 13 [(AV.ro 3 (r13.map o51)), (AV.ro 3 (r25.map o51))] (B r26), litA (B r26) = true, Frz (((r13.map o51).drop 0).take (List.length (r13.map o51))) (r13.map o51), Frz (((r25.map o51).drop 0).take (List.length (r25.map o51))) (r25.map o51), (!r26) = false, MeetsR Try.prog 14 [⟨51, 3, (r12.map o51)⟩] [(AV.sl 0 0 (List.length (r12.map o51))), (I 1)] [true] [⟨51, 3, (r29.2.map o51)⟩] (I r29.1), (some (Root.mk 51 3 (r12.map o51)) = some (Root.mk 51 3 (r12.map o51))) ∧ True, (treeLL (r12.map o51) = true ∧ noRoLL (r12.map o51) = true) ∧ True, ((r29.2.map o51).length = (r12.map o51).length) ∧ True, (rtf (renA [(0, 2)] (I r29.1)) []).1 = (I r29.1), (rtf (renA [(0, 2)] (I r29.1)) []).2.1 = [], MeetsR Try.prog 14 [⟨51, 3, (r13.map o51)⟩] [(AV.sl 0 0 (List.length (r13.map o51))), (I r29.1)] [true] [⟨51, 3, (r32.2.map o51)⟩] (I r32.1), (some (Root.mk 51 3 (r13.map o51)) = some (Root.mk 51 3 (r13.map o51))) ∧ True, (treeLL (r13.map o51) = true ∧ noRoLL (r13.map o51) = true) ∧ True, ((r32.2.map o51).length = (r13.map o51).length) ∧ True, (rtf (renA [(0, 3)] (I r32.1)) []).1 = (I r32.1), (rtf (renA [(0, 3)] (I r32.1)) []).2.1 = [], (B (decide (r32.1 < 0))) = (B false), Meets Try.prog 13 [(AV.ro 3 (r14.1.map o51)), (AV.ro 3 (r11.1.map o51))] (B r37), litA (B r37) = true, Frz (((r14.1.map o51).drop 0).take (List.length (r14.1.map o51))) (r14.1.map o51), Frz (((r11.1.map o51).drop 0).take (List.length (r11.1.map o51))) (r11.1.map o51), (B (!r37)) = (B false), (!(r14.2 == r11.2)) = true, (B false) = (B false), litA (B false) = true]) (by kernel_rfl) ⟨(laws_toPairS_m hr20), (by simp only [noRo, noRoL, noRoM n51, Bool.and_self]), (laws_eqPairS_m hr21), rfl, (frzF t51 z51), (frzF t51 z51), c23, (laws_toPairS_m hr25), (by simp only [noRo, noRoL, noRoM n51, Bool.and_self]), (laws_eqPairS_m hr26), rfl, (frzF t51 z51), (frzF t51 z51), c28, (laws_markPairS_m hr29), ⟨rfl, trivial⟩, ⟨⟨treeM t51, noRoM n51⟩, trivial⟩, ⟨(sameLenE o51 hq30), trivial⟩, rfl, rfl, (laws_markPairS_m hr32), ⟨rfl, trivial⟩, ⟨⟨treeM t51, noRoM n51⟩, trivial⟩, ⟨(sameLenE o51 hq33), trivial⟩, rfl, rfl, (litB c35), (laws_eqPairS_m hr37), rfl, (frzF t51 z51), (frzF t51 z51), (litB c39), c40, rfl, rfl, trivial⟩
          · exact go_to hΘ hm hx hP hn (hs := [⟨2, .call [] (AV.own 51 3 (r20.map o51)) [1001], none⟩, ⟨3, .callV [(r12.map o51), (r20.map o51)] (B r21), none⟩, ⟨5, .br false, none⟩, ⟨8, .call [] (AV.own 51 3 (r25.map o51)) [1002], none⟩, ⟨9, .callV [(r13.map o51), (r25.map o51)] (B r26), none⟩, ⟨11, .br false, none⟩, ⟨15, .callX [2] [true] [⟨51, 3, (r12.map o51)⟩] [⟨51, 3, (r29.2.map o51)⟩] [] (I r29.1) [] (I r29.1) [], none⟩, ⟨19, .callX [3] [true] [⟨51, 3, (r13.map o51)⟩] [⟨51, 3, (r32.2.map o51)⟩] [] (I r32.1) [] (I r32.1) [], none⟩, ⟨23, .no, some (B false)⟩, ⟨26, .callV [(r14.1.map o51), (r11.1.map o51)] (B r37), none⟩, ⟨29, .no, some (B false)⟩, ⟨34, .br false, none⟩]) (π := [(1, 1), (4, 2)]) (ts := [0, 1, 6, 7, 10]) (kp := []) (ps := [Meets Try.prog 11 [(AV.ro 3 (p1.map o53))] (AV.own 51 3 (r20.map o51)), noRo (AV.own 51 3 (r20.map o51)) = true, Meets Try.prog 13 [(AV.ro 3 (r12.map o51)), (AV.ro 3 (r20.map o51))] (B r21), litA (B r21) = true, Frz (((r12.map o51).drop 0).take (List.length (r12.map o51))) (r12.map o51), Frz (((r20.map o51).drop 0).take (List.length (r20.map o51))) (r20.map o51), (!r21) = false, Meets Try.prog 11 [(AV.ro 3 (p2.map o53))] (AV.own 51 3 (r25.map o51)), noRo (AV.own 51 3 (r25.map o51)) = true, Meets Try.prog 13 [(AV.ro 3 (r13.map o51)), (AV.ro 3 (r25.map o51))] (B r26), litA (B r26) = true, Frz (((r13.map o51).drop 0).take (List.length (r13.map o51))) (r13.map o51), Frz (((r25.map o51).drop 0).take (List.length (r25.map o51))) (r25.map o51), (!r26) = false, MeetsR Try.prog 14 [⟨51, 3, (r12.map o51)⟩] [(AV.sl 0 0 (List.length (r12.map o51))), (I 1)] [true] [⟨51, 3, (r29.2.map o51)⟩] (I r29.1), (some (Root.mk 51 3 (r12.map o51)) = some (Root.mk 51 3 (r12.map o51))) ∧ True, (treeLL (r12.map o51) = true ∧ noRoLL (r12.map o51) = true) ∧ True, ((r29.2.map o51).length = (r12.map o51).length) ∧ True, (rtf (renA [(0, 2)] (I r29.1)) []).1 = (I r29.1), (rtf (renA [(0, 2)] (I r29.1)) []).2.1 = [], MeetsR Try.prog 14 [⟨51, 3, (r13.map o51)⟩] [(AV.sl 0 0 (List.length (r13.map o51))), (I r29.1)] [true] [⟨51, 3, (r32.2.map o51)⟩] (I r32.1), (some (Root.mk 51 3 (r13.map o51)) = some (Root.mk 51 3 (r13.map o51))) ∧ True, (treeLL (r13.map o51) = true ∧ noRoLL (r13.map o51) = true) ∧ True, ((r32.2.map o51).length = (r13.map o51).length) ∧ True, (rtf (renA [(0, 3)] (I r32.1)) []).1 = (I r32.1), (rtf (renA [(0, 3)] (I r32.1)) []).2.1 = [], (B (decide (r32.1 < 0))) = (B false), Meets Try.prog 13 [(AV.ro 3 (r14.1.map o51)), (AV.ro 3 (r11.1.map o51))] (B r37), litA (B r37) = true, Frz (((r14.1.map o51).drop 0).take (List.length (r14.1.map o51))) (r14.1.map o51), Frz (((r11.1.map o51).drop 0).take (List.length (r11.1.map o51))) (r11.1.map o51), (B (!r37)) = (B false), (!(r14.2 == r11.2)) = false, RenOK [(1, 1), (4, 2)] (r11.1.map o51), RenOK [(1, 1), (4, 2)] (r14.1.map o51)]) (by kernel_rfl) ⟨(laws_toPairS_m hr20), (by simp only [noRo, noRoL, noRoM n51, Bool.and_self]), (laws_eqPairS_m hr21), rfl, (frzF t51 z51), (frzF t51 z51), c23, (laws_toPairS_m hr25), (by simp only [noRo, noRoL, noRoM n51, Bool.and_self]), (laws_eqPairS_m hr26), rfl, (frzF t51 z51), (frzF t51 z51), c28, (laws_markPairS_m hr29), ⟨rfl, trivial⟩, ⟨⟨treeM t51, noRoM n51⟩, trivial⟩, ⟨(sameLenE o51 hq30), trivial⟩, rfl, rfl, (laws_markPairS_m hr32), ⟨rfl, trivial⟩, ⟨⟨treeM t51, noRoM n51⟩, trivial⟩, ⟨(sameLenE o51 hq33), trivial⟩, rfl, rfl, (litB c35), (laws_eqPairS_m hr37), rfl, (frzF t51 z51), (frzF t51 z51), (litB c39), c41, (rok (treeM t51)), (rok (treeM t51)), trivial⟩ (laws_FnExactAddPairs_j1_m hP hn hx p1 p2 r11 r14  _ h)
noncomputable def laws_FnExactAddPairs (p1 : (List GPair)) (p2 : (List GPair)) : Option Bool :=
  Option.bind (laws_szPairS p1 1048576) fun r3 =>
  if (decide (r3 < 0)) = true then
    some true
  else
    Option.bind (laws_szPairS p2 r3) fun r6 =>
    if (decide (r6 < 0)) = true then
      some true
    else
      Option.bind (laws_toPairS p1) fun r9 =>
      Option.bind (laws_toPairS p2) fun r10 =>
      Option.bind (spec_AddPairs r9 r10) fun r11 =>
      Option.bind (laws_toPairS p1) fun r12 =>
      Option.bind (laws_toPairS p2) fun r13 =>
      Option.bind (impl_AddPairs r12 r13) fun r14 =>
      Option.bind (laws_eqPairS r14.1 r11.1) fun r15 =>
      if (!r15) = true then
        some false
      else
        if (!(r14.2 == r11.2)) = true then
          some false
        else
          laws_FnExactAddPairs_j0 p1 p2 r11 r12 r13 r14
theorem laws_FnExactAddPairs_m {p1 : (List GPair)} {p2 : (List GPair)} {r : Bool} (h : laws_FnExactAddPairs p1 p2 = some r) : Meets Try.prog 3 [(AV.ro 3 (p1.map o53)), (AV.ro 3 (p2.map o53))] (B r) := by
  refine meets_ofC Θ_ok Try.func3 rfl (c := body3) (by kernel_rfl) (Nat.le_of_ble_eq_true rfl) ?_
  intro E hP hn hx
  replace hn : E.n = 119 := hn
  have hm : E.P.follows .mixedOrders = true := by rw [hP]; exact mixed
  have hΘ : TOK E.P Θ := by rw [hP]; exact Θ_ok
  unfold laws_FnExactAddPairs at h
  show WAt E body3 (FQ (RetE Θ Try.f3.results.toList [] [] (B r) E)) [] ⟨[(0, (AV.ro 3 (p1.map o53))), (1, (AV.ro 3 (p2.map o53)))], [], [JJ]⟩
  obtain ⟨r3, hr3, h⟩ := bnS h
  rcases itS h with ⟨c4, h⟩ | ⟨c5, h⟩
  · have h := Option.some.inj h
    subst h
    exact go_ret hΘ hm hP hn (hs := [⟨4, .callV [] (I r3), none⟩, ⟨8, .br true, none⟩]) (rh := []) (ph := .raw) (ps := [Meets Try.prog 9 [(AV.ro 3 (p1.map o53)), (I 1048576)] (I r3), litA (I r3) = true, (decide (r3 < 0)) = true, (B true) = (B true), litA (B true) = true]) (by kernel_rfl) ⟨(laws_szPairS_m hr3), rfl, c4, rfl, rfl, trivial⟩
  · obtain ⟨r6, hr6, h⟩ := bnS h
    rcases itS h with ⟨c7, h⟩ | ⟨c8, h⟩
    · have h := Option.some.inj h
      subst h
      exact go_ret hΘ hm hP hn (hs := [⟨4, .callV [] (I r3), none⟩, ⟨8, .br false, none⟩, ⟨11, .callV [] (I r6), none⟩, ⟨15, .br true, none⟩]) (rh := []) (ph := .raw) (ps := [Meets Try.prog 9 [(AV.ro 3 (p1.map o53)), (I 1048576)] (I r3), litA (I r3) = true, (decide (r3 < 0)) = false, Meets Try.prog 9 [(AV.ro 3 (p2.map o53)), (I r3)] (I r6), litA (I r6) = true, (decide (r6 < 0)) = true, (B true) = (B true), litA (B true) = true]) (by kernel_rfl) ⟨(laws_szPairS_m hr3), rfl, c5, (laws_szPairS_m hr6), rfl, c7, rfl, rfl, trivial⟩
    · obtain ⟨r9, hr9, h⟩ := bnS h
      obtain ⟨r10, hr10, h⟩ := bnS h
      obtain ⟨r11, hr11, h⟩ := bnS h
      obtain ⟨r12, hr12, h⟩ := bnS h
      obtain ⟨r13, hr13, h⟩ := bnS h
      obtain ⟨r14, hr14, h⟩ := bnS h
      obtain ⟨r15, hr15, h⟩ := bnS h
      rcases itS h with ⟨c16, h⟩ | ⟨c17, h⟩
      · have h := Option.some.inj h
        subst h
        exact go_ret hΘ hm hP hn (hs := [⟨4, .callV [] (I r3), none⟩, ⟨8, .br false, none⟩, ⟨11, .callV [] (I r6), none⟩, ⟨15, .br false, none⟩, ⟨17, .call [] (AV.own 51 3 (r9.map o51)) [1001], none⟩, ⟨19, .call [] (AV.own 51 3 (r10.map o51)) [1002], none⟩, ⟨20, .call [(r9.map o51), (r10.map o51)] (AV.tup [(AV.own 51 3 (r11.1.map o51)), (B r11.2)]) [1003], none⟩, ⟨27, .call [] (AV.own 51 3 (r12.map o51)) [1004], none⟩, ⟨30, .call [] (AV.own 51 3 (r13.map o51)) [1005], none⟩, ⟨34, .call [(r12.map o51), (r13.map o51)] (AV.tup [(AV.own 51 3 (r14.1.map o51)), (B r14.2)]) [1006], none⟩, ⟨42, .callV [(r14.1.map o51), (r11.1.map o51)] (B r15), none⟩, ⟨44, .no, some (B true)⟩]) (rh := []) (ph := .raw) (ps := [Meets Try.prog 9 [(AV.ro 3 (p1.map o53)), (I 1048576)] (I r3), litA (I r3) = true, (decide (r3 < 0)) = false, Meets Try.prog 9 [(AV.ro 3 (p2.map o53)), (I r3)] (I r6), litA (I r6) = true, (decide (r6 < 0)) = false, Meets Try.prog 11 [(AV.ro 3 (p1.map o53))] (AV.own 51 3 (r9.map o51)), noRo (AV.own 51 3 (r9.map o51)) = true, Meets Try.prog 11 [(AV.ro 3 (p2.map o53))] (AV.own 51 3 (r10.map o51)), noRo (AV.own 51 3 (r10.map o51)) = true, Meets Try.prog 10 [(AV.ro 3 (r9.map o51)), (AV.ro 3 (r10.map o51))] (AV.tup [(AV.own 51 3 (r11.1.map o51)), (B r11.2)]), noRo (AV.tup [(AV.own 51 3 (r11.1.map o51)), (B r11.2)]) = true, Frz (((r9.map o51).drop 0).take (List.length (r9.map o51))) (r9.map o51), Frz (((r10.map o51).drop 0).take (List.length (r10.map o51))) (r10.map o51), Meets Try.prog 11 [(AV.ro 3 (p1.map o53))] (AV.own 51 3 (r12.map o51)), noRo (AV.own 51 3 (r12.map o51)) = true, Meets Try.prog 11 [(AV.ro 3 (p2.map o53))] (AV.own 51 3 (r13.map o51)), noRo (AV.own 51 3 (r13.map o51)) = true, Meets Try.prog 12 [(AV.ro 3 (r12.map o51)), (AV.ro 3 (r13.map o51))] (AV.tup [(AV.own 51 3 (r14.1.map o51)), (B r14.2)]), noRo (AV.tup [(AV.own 51 3 (r14.1.map o51)), (B r14.2)]) = true, Frz (((r12.map o51).drop 0).take (List.length (r12.map o51))) (r12.map o51), Frz (((r13.map o51).drop 0).take (List.length (r13.map o51))) (r13.map o51), Meets Try.prog 13 [(AV.ro 3 (r14.1.map o51)), (AV.ro 3 (r11.1.map o51))] (B r15), litA (B r15) = true, Frz (((r14.1.map o51).drop 0).take (List.length (r14.1.map o51))) (r14.1.map o51), Frz (((r11.1.map o51).drop 0).take (List.length (r11.1.map o51))) (r11.1.map o51), (B (!r15)) = (B true), (B false) = (B false), litA (B false) = true]) (by kernel_rfl) ⟨(laws_szPairS_m hr3), rfl, c5, (laws_szPairS_m hr6), rfl, c8, (laws_toPairS_m hr9), (by simp only [noRo, noRoL, noRoM n51, Bool.and_self]), (laws_toPairS_m hr10), (by simp only [noRo, noRoL, noRoM n51, Bool.and_self]), (spec_AddPairs_m hr11), (by simp only [noRo, noRoL, noRoM n51, Bool.and_self]), (frzF t51 z51), (frzF t51 z51), (laws_toPairS_m hr12), (by simp only [noRo, noRoL, noRoM n51, Bool.and_self]), (laws_toPairS_m hr13), (by simp only [noRo, noRoL, noRoM n51, Bool.and_self]), (impl_AddPairs_m hr14), (by simp only [noRo, noRoL, noRoM n51, Bool.and_self]), (frzF t51 z51), (frzF t51 z51), (laws_eqPairS_m hr15), rfl, (frzF t51 z51), (frzF t51 z51), (litB c16), rfl, rfl, trivial⟩
      · rcases itS h with ⟨c18, h⟩ | ⟨c19, h⟩
        · have h := Option.some.inj h
          subst h
          exact go_ret hΘ hm hP hn (hs := [⟨4, .callV [] (I r3), none⟩, ⟨8, .br false, none⟩, ⟨11, .callV [] (I r6), none⟩, ⟨15, .br false, none⟩, ⟨17, .call [] (AV.own 51 3 (r9.map o51)) [1001], none⟩, ⟨19, .call [] (AV.own 51 3 (r10.map o51)) [1002], none⟩, ⟨20, .call [(r9.map o51), (r10.map o51)] (AV.tup [(AV.own 51 3 (r11.1.map o51)), (B r11.2)]) [1003], none⟩, ⟨27, .call [] (AV.own 51 3 (r12.map o51)) [1004], none⟩, ⟨30, .call [] (AV.own 51 3 (r13.map o51)) [1005], none⟩, ⟨34, .call [(r12.map o51), (r13.map o51)] (AV.tup [(AV.own 51 3 (r14.1.map o51)), (B r14.2)]) [1006], none⟩, ⟨42, .callV [(r14.1.map o51), (r11.1.map o51)] (B r15), none⟩, ⟨44, .no, some (B false)⟩, ⟨49, .br true, none⟩]) (rh := []) (ph := .raw) (ps := [Meets Try.prog 9 [(AV.ro 3 (p1.map o53)), (I 1048576)] (I r3), litA (I r3) = true, (decide (r3 < 0)) = false, Meets Try.prog 9 [(AV.ro 3 (p2.map o53)), (I r3)] (I r6), litA (I r6) = true, (decide (r6 < 0)) = false, Meets Try.prog 11 [(AV.ro 3 (p1.map o53))] (AV.own 51 3 (r9.map o51)), noRo (AV.own 51 3 (r9.map o51)) = true, Meets Try.prog 11 [(AV.ro 3 (p2.map o53))] (AV.own 51 3 (r10.map o51)), noRo (AV.own 51 3 (r10.map o51)) = true, Meets Try.prog 10 [(AV.ro 3 (r9.map o51)), (AV.ro 3 (r10.map o51))] (AV.tup [(AV.own 51 3 (r11.1.map o51)), (B r11.2)]), noRo (AV.tup [(AV.own 51 3 (r11.1.map o51)), (B r11.2)]) = true, Frz (((r9.map o51).drop 0).take (List.length (r9.map o51))) (r9.map o51), Frz (((r10.map o51).drop 0).take (List.length (r10.map o51))) (r10.map o51), Meets Try.prog 11 [(AV.ro 3 (p1.map o53))] (AV.own 51 3 (r12.map o51)), noRo (AV.own 51 3 (r12.map o51)) = true, Meets Try.prog 11 [(AV.ro 3 (p2.map o53))] (AV.own 51 3 (r13.map o51)), noRo (AV.own 51 3 (r13.map o51)) = true, Meets Try.prog 12 [(AV.ro 3 (r12.map o51)), (AV.ro 3 (r13.map o51))] (AV.tup [(AV.own 51 3 (r14.1.map o51)), (B r14.2)]), noRo (AV.tup [(AV.own 51 3 (r14.1.map o51)), (B r14.2)]) = true, Frz (((r12.map o51).drop 0).take (List.length (r12.map o51))) (r12.map o51), Frz (((r13.map o51).drop 0).take (List.length (r13.map o51))) (r13.map o51), Meets Try.prog 13 [(AV.ro 3 (r14.1.map o51)), (AV.ro 3 (r11.1.map o51))] (B r15), litA (B r15) = true, Frz (((r14.1.map o51).drop 0).take (List.length (r14.1.map o51))) (r14.1.map o51), Frz (((r11.1.map o51).drop 0).take (List.length (r11.1.map o51))) (r11.1.map o51), (B (!r15)) = (B false), (!(r14.2 == r11.2)) = true, (B false) = (B false), litA (B false) = true]) (by kernel_rfl) ⟨(laws_szPairS_m hr3), rfl, c5, (laws_szPairS_m hr6), rfl, c8, (laws_toPairS_m hr9), (by simp only [noRo, noRoL, noRoM n51, Bool.and_self]), (laws_toPairS_m hr10), (by simp only [noRo, noRoL, noRoM n51, Bool.and_self]), (spec_AddPairs_m hr11), (by simp only [noRo, noRoL, noRoM n51, Bool.and_self]), (frzF t51 z51), (frzF t51 z51), (laws_toPairS_m hr12), (by simp only [noRo, noRoL, noRoM n51, Bool.and_self]), (laws_toPairS_m hr13), (by simp only [noRo, noRoL, noRoM n51, Bool.and_self]), (impl_AddPairs_m hr14), (by simp only [noRo, noRoL, noRoM n51, Bool.and_self]), (frzF t51 z51), (frzF t51 z51), (laws_eqPairS_m hr15), rfl, (frzF t51 z51), (frzF t51 z51), (litB c17), c18, rfl, rfl, trivial⟩
        · exact go_to hΘ hm hx hP hn (hs := [⟨4, .callV [] (I r3), none⟩, ⟨8, .br false, none⟩, ⟨11, .callV [] (I r6), none⟩, ⟨15, .br false, none⟩, ⟨17, .call [] (AV.own 51 3 (r9.map o51)) [1001], none⟩, ⟨19, .call [] (AV.own 51 3 (r10.map o51)) [1002], none⟩, ⟨20, .call [(r9.map o51), (r10.map o51)] (AV.tup [(AV.own 51 3 (r11.1.map o51)), (B r11.2)]) [1003], none⟩, ⟨27, .call [] (AV.own 51 3 (r12.map o51)) [1004], none⟩, ⟨30, .call [] (AV.own 51 3 (r13.map o51)) [1005], none⟩, ⟨34, .call [(r12.map o51), (r13.map o51)] (AV.tup [(AV.own 51 3 (r14.1.map o51)), (B r14.2)]) [1006], none⟩, ⟨42, .callV [(r14.1.map o51), (r11.1.map o51)] (B r15), none⟩, ⟨44, .no, some (B false)⟩, ⟨49, .br false, none⟩]) (π := [(1003, 1), (1004, 2), (1005, 3), (1006, 4)]) (ts := [0, 1, 6, 7, 8, 9, 10, 11]) (kp := []) (ps := [Meets Try.prog 9 [(AV.ro 3 (p1.map o53)), (I 1048576)] (I r3), litA (I r3) = true, (decide (r3 < 0)) = false, Meets Try.prog 9 [(AV.ro 3 (p2.map o53)), (I r3)] (I r6), litA (I r6) = true, (decide (r6 < 0)) = false, Meets Try.prog 11 [(AV.ro 3 (p1.map o53))] (AV.own 51 3 (r9.map o51)), noRo (AV.own 51 3 (r9.map o51)) = true, Meets Try.prog 11 [(AV.ro 3 (p2.map o53))] (AV.own 51 3 (r10.map o51)), noRo (AV.own 51 3 (r10.map o51)) = true, Meets Try.prog 10 [(AV.ro 3 (r9.map o51)), (AV.ro 3 (r10.map o51))] (AV.tup [(AV.own 51 3 (r11.1.map o51)), (B r11.2)]), noRo (AV.tup [(AV.own 51 3 (r11.1.map o51)), (B r11.2)]) = true, Frz (((r9.map o51).drop 0).take (List.length (r9.map o51))) (r9.map o51), Frz (((r10.map o51).drop 0).take (List.length (r10.map o51))) (r10.map o51), Meets Try.prog 11 [(AV.ro 3 (p1.map o53))] (AV.own 51 3 (r12.map o51)), noRo (AV.own 51 3 (r12.map o51)) = true, Meets Try.prog 11 [(AV.ro 3 (p2.map o53))] (AV.own 51 3 (r13.map o51)), noRo (AV.own 51 3 (r13.map o51)) = true, Meets Try.prog 12 [(AV.ro 3 (r12.map o51)), (AV.ro 3 (r13.map o51))] (AV.tup [(AV.own 51 3 (r14.1.map o51)), (B r14.2)]), noRo (AV.tup [(AV.own 51 3 (r14.1.map o51)), (B r14.2)]) = true, Frz (((r12.map o51).drop 0).take (List.length (r12.map o51))) (r12.map o51), Frz (((r13.map o51).drop 0).take (List.length (r13.map o51))) (r13.map o51), Meets Try.prog 13 [(AV.ro 3 (r14.1.map o51)), (AV.ro 3 (r11.1.map o51))] (B r15), litA (B r15) = true, Frz (((r14.1.map o51).drop 0).take (List.length (r14.1.map o51))) (r14.1.map o51), Frz (((r11.1.map o51).drop 0).take (List.length (r11.1.map o51))) (r11.1.map o51), (B (!r15)) = (B false), (!(r14.2 == r11.2)) = false, RenOK [(1003, 1), (1004, 2), (1005, 3), (1006, 4)] (r11.1.map o51), RenOK [(1003, 1), (1004, 2), (1005, 3), (1006, 4)] (r12.map o51), RenOK [(1003, 1), (1004, 2), (1005, 3), (1006, 4)] (r13.map o51), RenOK [(1003, 1), (1004, 2), (1005, 3), (1006, 4)] (r14.1.map o51)]) (by kernel_rfl) ⟨(laws_szPairS_m hr3), rfl, c5, (laws_szPairS_m hr6), rfl, c8, (laws_toPairS_m hr9), (by simp only [noRo, noRoL, noRoM n51, Bool.and_self]), (laws_toPairS_m hr10), (by simp only [noRo, noRoL, noRoM n51, Bool.and_self]), (spec_AddPairs_m hr11), (by simp only [noRo, noRoL, noRoM n51, Bool.and_self]), (frzF t51 z51), (frzF t51 z51), (laws_toPairS_m hr12), (by simp only [noRo, noRoL, noRoM n51, Bool.and_self]), (laws_toPairS_m hr13), (by simp only [noRo, noRoL, noRoM n51, Bool.and_self]), (impl_AddPairs_m hr14), (by simp only [noRo, noRoL, noRoM n51, Bool.and_self]), (frzF t51 z51), (frzF t51 z51), (laws_eqPairS_m hr15), rfl, (frzF t51 z51), (frzF t51 z51), (litB c17), c19, (rok (treeM t51)), (rok (treeM t51)), (rok (treeM t51)), (rok (treeM t51)), trivial⟩ (laws_FnExactAddPairs_j0_m hP hn hx p1 p2 r11 r12 r13 r14  _ h)
end Go.Proofs.Ytihgcgccajikpaa
