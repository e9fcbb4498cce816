/- Functions as plain data, and that the code comes to them; no condition. -/

import Derived.Test.YthhcnmideecfpaaGreatGA
set_option linter.unusedVariables false
set_option maxRecDepth 100000
namespace Go.Proofs.YthhcnmideecfpaaGreat
open Go Go.T
noncomputable def body35 : Code := match Tryz.f35.body with | some c => c | none => .skip
noncomputable def laws_szPct (p1 : GPct) (p2 : Int) : Option Int :=
  Option.bind (laws_szIntS p1.Ranks p2) fun r3 =>
  if (decide (r3 < 0)) = true then
    some (-1)
  else
    Option.bind (laws_szIntS p1.Changes r3) fun r6 =>
    if (decide (r6 < 0)) = true then
      some (-1)
    else
      some r6
theorem laws_szPct_m {p1 : GPct} {p2 : Int} {r : Int} (h : laws_szPct p1 p2 = some r) : Meets Tryz.prog 35 [(AV.agg ((r70 p1))), (I p2)] (I r) := by
  refine meets_ofC Θ_ok Tryz.func35 rfl (c := body35) (by kernel_rfl) (Nat.le_of_ble_eq_true rfl) ?_
  intro E hP hn hx
  replace hn : E.n = 18 := hn
  have hm : E.P.follows .mixedOrders = true := by rw [hP]; exact mixed
  have hΘ : TOK E.P Θ := by rw [hP]; exact Θ_ok
  unfold laws_szPct at h
  show WAt E body35 (FQ (RetE Θ Tryz.f35.results.toList [] [] (I r) E)) [] ⟨[(0, (AV.agg ((r70 p1)))), (1, (I p2))], [], [JJ]⟩
  obtain ⟨r3, hr3, h⟩ := bnS h
  rcases itS h with ⟨c4, h⟩ | ⟨c5, h⟩
  · have h := Option.some.inj h
    subst h
    exact go_ret hΘ hm hP hn (hs := [⟨0, .new 1001, none⟩, ⟨5, .callV [] (I r3), none⟩, ⟨9, .br true, none⟩]) (rh := []) (ph := .raw) (ps := [Meets Tryz.prog 66 [(AV.ro 1 (p1.Ranks.map o3)), (I p2)] (I r3), litA (I r3) = true, (decide (r3 < 0)) = true, (I (-1)) = (I (-1)), litA (I (-1)) = true]) (by kernel_rfl) ⟨(laws_szIntS_m hr3), rfl, c4, rfl, rfl, trivial⟩
  · obtain ⟨r6, hr6, h⟩ := bnS h
    rcases itS h with ⟨c7, h⟩ | ⟨c8, h⟩
    · have h := Option.some.inj h
      subst h
      exact go_ret hΘ hm hP hn (hs := [⟨0, .new 1001, none⟩, ⟨5, .callV [] (I r3), none⟩, ⟨9, .br false, none⟩, ⟨13, .callV [] (I r6), none⟩, ⟨17, .br true, none⟩]) (rh := []) (ph := .raw) (ps := [Meets Tryz.prog 66 [(AV.ro 1 (p1.Ranks.map o3)), (I p2)] (I r3), litA (I r3) = true, (decide (r3 < 0)) = false, Meets Tryz.prog 66 [(AV.ro 1 (p1.Changes.map o3)), (I r3)] (I r6), litA (I r6) = true, (decide (r6 < 0)) = true, (I (-1)) = (I (-1)), litA (I (-1)) = true]) (by kernel_rfl) ⟨(laws_szIntS_m hr3), rfl, c5, (laws_szIntS_m hr6), rfl, c7, rfl, rfl, trivial⟩
    · have h := Option.some.inj h
      subst h
      exact go_ret hΘ hm hP hn (hs := [⟨0, .new 1001, none⟩, ⟨5, .callV [] (I r3), none⟩, ⟨9, .br false, none⟩, ⟨13, .callV [] (I r6), none⟩, ⟨17, .br false, none⟩]) (rh := []) (ph := .raw) (ps := [Meets Tryz.prog 66 [(AV.ro 1 (p1.Ranks.map o3)), (I p2)] (I r3), litA (I r3) = true, (decide (r3 < 0)) = false, Meets Tryz.prog 66 [(AV.ro 1 (p1.Changes.map o3)), (I r3)] (I r6), litA (I r6) = true, (decide (r6 < 0)) = false, (I r6) = (I r6), litA (I r6) = true]) (by kernel_rfl) ⟨(laws_szIntS_m hr3), rfl, c5, (laws_szIntS_m hr6), rfl, c8, rfl, rfl, trivial⟩
noncomputable def body10 : Code := match Tryz.f10.body with | some c => c | none => .skip
noncomputable def laws_szPctS_l0  (p1 : (List GPct)) : Nat → Int → Int → Option Int
  | 0, _, _ => none
  | n + 1, v5, v6 =>
  if (decide (v6 < (p1.length : Int))) = true then
    Option.bind (rd p1 v6) fun x8 =>
    Option.bind (laws_szPct x8 v5) fun r9 =>
    if (decide (r9 < 0)) = true then
      some (-1)
    else
      laws_szPctS_l0 p1 n r9 (w64 (v6 + 1))
  else
    some v5
theorem laws_szPctS_l0_m {E : Env} (hP : E.P = Tryz.prog) (hn : E.n = 27) (hx : ∀ p, p ∈ E.fx → p.1 ∈ ([] : List Nat)) (p1 : (List GPct))  : ∀ (n : Nat) (v5 : Int) (v6 : Int) (r : Int), laws_szPctS_l0 p1 n v5 v6 = some r → WAt E body10 (FQ (RetE Θ Tryz.f10.results.toList [] [] (I r) E)) [true, true, true, false, true, false] ⟨[(0, (AV.ro 2 (p1.map r70))), (1, (I v5)), (5, (I v6))], [], [JJ]⟩ := by
  have hm : E.P.follows .mixedOrders = true := by rw [hP]; exact mixed
  have hΘ : TOK E.P Θ := by rw [hP]; exact Θ_ok
  intro n
  induction n with
  | zero => intro v5 v6 r h; simp only [laws_szPctS_l0] at h; cases h
  | succ n ih =>
    intro v5 v6 r h
    simp only [laws_szPctS_l0] at h
    rcases itS h with ⟨c7, h⟩ | ⟨c12, h⟩
    · obtain ⟨x8, hx8, h⟩ := bnS h
      obtain ⟨r9, hr9, h⟩ := bnS h
      rcases itS h with ⟨c10, h⟩ | ⟨c11, h⟩
      · have h := Option.some.inj h
        subst h
        exact go_ret hΘ hm hP hn (hs := [⟨2, .no, some (I (p1.length : Int))⟩, ⟨4, .br true, none⟩, ⟨7, .row (r70 x8), none⟩, ⟨10, .callV [[]] (I r9), none⟩, ⟨14, .br true, none⟩]) (rh := []) (ph := .raw) (ps := [AV.lit (.int .i64 (((p1.map r70).length : Nat) : Int)) = (I (p1.length : Int)), (decide (v6 < (p1.length : Int))) = true, (0 : Int) ≤ v6, (p1.map r70)[(Int.toNat v6)]? = some (r70 x8), Meets Tryz.prog 35 [(AV.agg ((r70 x8))), (I v5)] (I r9), litA (I r9) = true, (decide (r9 < 0)) = true, (I (-1)) = (I (-1)), litA (I (-1)) = true]) (by kernel_rfl) ⟨(lenM r70), c7, (rd0 hx8), (rdM r70 hx8), (laws_szPct_m hr9), rfl, c10, rfl, rfl, trivial⟩
      · exact go_to hΘ hm hx hP hn (hs := [⟨2, .no, some (I (p1.length : Int))⟩, ⟨4, .br true, none⟩, ⟨7, .row (r70 x8), none⟩, ⟨10, .callV [[]] (I r9), none⟩, ⟨14, .br false, none⟩]) (π := []) (ts := [0, 1, 5]) (kp := []) (ps := [AV.lit (.int .i64 (((p1.map r70).length : Nat) : Int)) = (I (p1.length : Int)), (decide (v6 < (p1.length : Int))) = true, (0 : Int) ≤ v6, (p1.map r70)[(Int.toNat v6)]? = some (r70 x8), Meets Tryz.prog 35 [(AV.agg ((r70 x8))), (I v5)] (I r9), litA (I r9) = true, (decide (r9 < 0)) = false]) (by kernel_rfl) ⟨(lenM r70), c7, (rd0 hx8), (rdM r70 hx8), (laws_szPct_m hr9), rfl, c11, trivial⟩ (ih r9 (w64 (v6 + 1)) _ h)
    · have h := Option.some.inj h
      subst h
      exact go_ret hΘ hm hP hn (hs := [⟨2, .no, some (I (p1.length : Int))⟩, ⟨4, .br false, none⟩]) (rh := []) (ph := .raw) (ps := [AV.lit (.int .i64 (((p1.map r70).length : Nat) : Int)) = (I (p1.length : Int)), (decide (v6 < (p1.length : Int))) = false, (I v5) = (I v5), litA (I v5) = true]) (by kernel_rfl) ⟨(lenM r70), c12, rfl, rfl, trivial⟩
noncomputable def laws_szPctS (p1 : (List GPct)) (p2 : Int) : Option Int :=
  if (decide ((w64 (p2 - (p1.length : Int))) < 0)) = true then
    some (-1)
  else
    laws_szPctS_l0 p1 FU (w64 (p2 - (p1.length : Int))) 0
theorem laws_szPctS_m {p1 : (List GPct)} {p2 : Int} {r : Int} (h : laws_szPctS p1 p2 = some r) : Meets Tryz.prog 10 [(AV.ro 2 (p1.map r70)), (I p2)] (I r) := by
  refine meets_ofC Θ_ok Tryz.func10 rfl (c := body10) (by kernel_rfl) (Nat.le_of_ble_eq_true rfl) ?_
  intro E hP hn hx
  replace hn : E.n = 27 := hn
  have hm : E.P.follows .mixedOrders = true := by rw [hP]; exact mixed
  have hΘ : TOK E.P Θ := by rw [hP]; exact Θ_ok
  unfold laws_szPctS at h
  show WAt E body10 (FQ (RetE Θ Tryz.f10.results.toList [] [] (I r) E)) [] ⟨[(0, (AV.ro 2 (p1.map r70))), (1, (I p2))], [], [JJ]⟩
  rcases itS h with ⟨c3, h⟩ | ⟨c4, h⟩
  · have h := Option.some.inj h
    subst h
    exact go_ret hΘ hm hP hn (hs := [⟨3, .no, some (I (p1.length : Int))⟩, ⟨8, .br true, none⟩]) (rh := []) (ph := .raw) (ps := [AV.lit (.int .i64 (((p1.map r70).length : Nat) : Int)) = (I (p1.length : Int)), (decide ((w64 (p2 - (p1.length : Int))) < 0)) = true, (I (-1)) = (I (-1)), litA (I (-1)) = true]) (by kernel_rfl) ⟨(lenM r70), c3, rfl, rfl, trivial⟩
  · exact go_to hΘ hm hx hP hn (hs := [⟨3, .no, some (I (p1.length : Int))⟩, ⟨8, .br false, none⟩]) (π := []) (ts := [0, 1, 5]) (kp := []) (ps := [AV.lit (.int .i64 (((p1.map r70).length : Nat) : Int)) = (I (p1.length : Int)), (decide ((w64 (p2 - (p1.length : Int))) < 0)) = false]) (by kernel_rfl) ⟨(lenM r70), c4, trivial⟩ (laws_szPctS_l0_m hP hn hx p1 FU (w64 (p2 - (p1.length : Int))) 0 _ h)
noncomputable def body65 : Code := match Tryz.f65.body with | some c => c | none => .skip
noncomputable def laws_szOpS (p1 : (List GOp)) (p2 : Int) : Option Int :=
  if (decide ((w64 (p2 - (p1.length : Int))) < 0)) = true then
    some (-1)
  else
    some (w64 (p2 - (p1.length : Int)))
theorem laws_szOpS_m {p1 : (List GOp)} {p2 : Int} {r : Int} (h : laws_szOpS p1 p2 = some r) : Meets Tryz.prog 65 [(AV.ro 4 (p1.map o118)), (I p2)] (I r) := by
  refine meets_ofC Θ_ok Tryz.func65 rfl (c := body65) (by kernel_rfl) (Nat.le_of_ble_eq_true rfl) ?_
  intro E hP hn hx
  replace hn : E.n = 12 := hn
  have hm : E.P.follows .mixedOrders = true := by rw [hP]; exact mixed
  have hΘ : TOK E.P Θ := by rw [hP]; exact Θ_ok
  unfold laws_szOpS at h
  show WAt E body65 (FQ (RetE Θ Tryz.f65.results.toList [] [] (I r) E)) [] ⟨[(0, (AV.ro 4 (p1.map o118))), (1, (I p2))], [], [JJ]⟩
  rcases itS h with ⟨c3, h⟩ | ⟨c4, h⟩
  · have h := Option.some.inj h
    subst h
    exact go_ret hΘ hm hP hn (hs := [⟨3, .no, some (I (p1.length : Int))⟩, ⟨8, .br true, none⟩]) (rh := []) (ph := .raw) (ps := [AV.lit (.int .i64 (((p1.map o118).length : Nat) : Int)) = (I (p1.length : Int)), (decide ((w64 (p2 - (p1.length : Int))) < 0)) = true, (I (-1)) = (I (-1)), litA (I (-1)) = true]) (by kernel_rfl) ⟨(lenM o118), c3, rfl, rfl, trivial⟩
  · have h := Option.some.inj h
    subst h
    exact go_ret hΘ hm hP hn (hs := [⟨3, .no, some (I (p1.length : Int))⟩, ⟨8, .br false, none⟩]) (rh := []) (ph := .raw) (ps := [AV.lit (.int .i64 (((p1.map o118).length : Nat) : Int)) = (I (p1.length : Int)), (decide ((w64 (p2 - (p1.length : Int))) < 0)) = false, (I (w64 (p2 - (p1.length : Int)))) = (I (w64 (p2 - (p1.length : Int)))), litA (I (w64 (p2 - (p1.length : Int)))) = true]) (by kernel_rfl) ⟨(lenM o118), c4, rfl, rfl, trivial⟩
noncomputable def body34 : Code := match Tryz.f34.body with | some c => c | none => .skip
noncomputable def laws_szOpSS_l0  (p1 : (List (List GOp))) : Nat → Int → Int → Option Int
  | 0, _, _ => none
  | n + 1, v5, v6 =>
  if (decide (v6 < (p1.length : Int))) = true then
    Option.bind (rd p1 v6) fun x8 =>
    Option.bind (laws_szOpS x8 v5) fun r9 =>
    if (decide (r9 < 0)) = true then
      some (-1)
    else
      laws_szOpSS_l0 p1 n r9 (w64 (v6 + 1))
  else
    some v5
theorem laws_szOpSS_l0_m {E : Env} (hP : E.P = Tryz.prog) (hn : E.n = 27) (hx : ∀ p, p ∈ E.fx → p.1 ∈ ([] : List Nat)) (p1 : (List (List GOp)))  : ∀ (n : Nat) (v5 : Int) (v6 : Int) (r : Int), laws_szOpSS_l0 p1 n v5 v6 = some r → WAt E body34 (FQ (RetE Θ Tryz.f34.results.toList [] [] (I r) E)) [true, true, true, false, true, false] ⟨[(0, (AV.ro 1 (p1.map r104))), (1, (I v5)), (5, (I v6))], [], [JJ]⟩ := by
  have hm : E.P.follows .mixedOrders = true := by rw [hP]; exact mixed
  have hΘ : TOK E.P Θ := by rw [hP]; exact Θ_ok
  intro n
  induction n with
  | zero => intro v5 v6 r h; simp only [laws_szOpSS_l0] at h; cases h
  | succ n ih =>
    intro v5 v6 r h
    simp only [laws_szOpSS_l0] at h
    rcases itS h with ⟨c7, h⟩ | ⟨c12, h⟩
    · obtain ⟨x8, hx8, h⟩ := bnS h
      obtain ⟨r9, hr9, h⟩ := bnS h
      rcases itS h with ⟨c10, h⟩ | ⟨c11, h⟩
      · have h := Option.some.inj h
        subst h
        exact go_ret hΘ hm hP hn (hs := [⟨2, .no, some (I (p1.length : Int))⟩, ⟨4, .br true, none⟩, ⟨7, .row (r104 x8), none⟩, ⟨10, .callV [] (I r9), none⟩, ⟨14, .br true, none⟩]) (rh := []) (ph := .raw) (ps := [AV.lit (.int .i64 (((p1.map r104).length : Nat) : Int)) = (I (p1.length : Int)), (decide (v6 < (p1.length : Int))) = true, (0 : Int) ≤ v6, (p1.map r104)[(Int.toNat v6)]? = some (r104 x8), Meets Tryz.prog 65 [(AV.ro 4 (x8.map o118)), (I v5)] (I r9), litA (I r9) = true, (decide (r9 < 0)) = true, (I (-1)) = (I (-1)), litA (I (-1)) = true]) (by kernel_rfl) ⟨(lenM r104), c7, (rd0 hx8), (rdM r104 hx8), (laws_szOpS_m hr9), rfl, c10, rfl, rfl, trivial⟩
      · exact go_to hΘ hm hx hP hn (hs := [⟨2, .no, some (I (p1.length : Int))⟩, ⟨4, .br true, none⟩, ⟨7, .row (r104 x8), none⟩, ⟨10, .callV [] (I r9), none⟩, ⟨14, .br false, none⟩]) (π := []) (ts := [0, 1, 5]) (kp := []) (ps := [AV.lit (.int .i64 (((p1.map r104).length : Nat) : Int)) = (I (p1.length : Int)), (decide (v6 < (p1.length : Int))) = true, (0 : Int) ≤ v6, (p1.map r104)[(Int.toNat v6)]? = some (r104 x8), Meets Tryz.prog 65 [(AV.ro 4 (x8.map o118)), (I v5)] (I r9), litA (I r9) = true, (decide (r9 < 0)) = false]) (by kernel_rfl) ⟨(lenM r104), c7, (rd0 hx8), (rdM r104 hx8), (laws_szOpS_m hr9), rfl, c11, trivial⟩ (ih r9 (w64 (v6 + 1)) _ h)
    · have h := Option.some.inj h
      subst h
      exact go_ret hΘ hm hP hn (hs := [⟨2, .no, some (I (p1.length : Int))⟩, ⟨4, .br false, none⟩]) (rh := []) (ph := .raw) (ps := [AV.lit (.int .i64 (((p1.map r104).length : Nat) : Int)) = (I (p1.length : Int)), (decide (v6 < (p1.length : Int))) = false, (I v5) = (I v5), litA (I v5) = true]) (by kernel_rfl) ⟨(lenM r104), c12, rfl, rfl, trivial⟩
noncomputable def laws_szOpSS (p1 : (List (List GOp))) (p2 : Int) : Option Int :=
  if (decide ((w64 (p2 - (p1.length : Int))) < 0)) = true then
    some (-1)
  else
    laws_szOpSS_l0 p1 FU (w64 (p2 - (p1.length : Int))) 0
theorem laws_szOpSS_m {p1 : (List (List GOp))} {p2 : Int} {r : Int} (h : laws_szOpSS p1 p2 = some r) : Meets Tryz.prog 34 [(AV.ro 1 (p1.map r104)), (I p2)] (I r) := by
  refine meets_ofC Θ_ok Tryz.func34 rfl (c := body34) (by kernel_rfl) (Nat.le_of_ble_eq_true rfl) ?_
  intro E hP hn hx
  replace hn : E.n = 27 := hn
  have hm : E.P.follows .mixedOrders = true := by rw [hP]; exact mixed
  have hΘ : TOK E.P Θ := by rw [hP]; exact Θ_ok
  unfold laws_szOpSS at h
  show WAt E body34 (FQ (RetE Θ Tryz.f34.results.toList [] [] (I r) E)) [] ⟨[(0, (AV.ro 1 (p1.map r104))), (1, (I p2))], [], [JJ]⟩
  rcases itS h with ⟨c3, h⟩ | ⟨c4, h⟩
  · have h := Option.some.inj h
    subst h
    exact go_ret hΘ hm hP hn (hs := [⟨3, .no, some (I (p1.length : Int))⟩, ⟨8, .br true, none⟩]) (rh := []) (ph := .raw) (ps := [AV.lit (.int .i64 (((p1.map r104).length : Nat) : Int)) = (I (p1.length : Int)), (decide ((w64 (p2 - (p1.length : Int))) < 0)) = true, (I (-1)) = (I (-1)), litA (I (-1)) = true]) (by kernel_rfl) ⟨(lenM r104), c3, rfl, rfl, trivial⟩
  · exact go_to hΘ hm hx hP hn (hs := [⟨3, .no, some (I (p1.length : Int))⟩, ⟨8, .br false, none⟩]) (π := []) (ts := [0, 1, 5]) (kp := []) (ps := [AV.lit (.int .i64 (((p1.map r104).length : Nat) : Int)) = (I (p1.length : Int)), (decide ((w64 (p2 - (p1.length : Int))) < 0)) = false]) (by kernel_rfl) ⟨(lenM r104), c4, trivial⟩ (laws_szOpSS_l0_m hP hn hx p1 FU (w64 (p2 - (p1.length : Int))) 0 _ h)
noncomputable def body9 : Code := match Tryz.f9.body with | some c => c | none => .skip
noncomputable def laws_szProg (p1 : GProg) (p2 : Int) : Option Int :=
  Option.bind (laws_szOpSS p1.Routines p2) fun r3 =>
  if (decide (r3 < 0)) = true then
    some (-1)
  else
    some r3
theorem laws_szProg_m {p1 : GProg} {p2 : Int} {r : Int} (h : laws_szProg p1 p2 = some r) : Meets Tryz.prog 9 [(AV.agg ((r24 p1))), (I p2)] (I r) := by
  refine meets_ofC Θ_ok Tryz.func9 rfl (c := body9) (by kernel_rfl) (Nat.le_of_ble_eq_true rfl) ?_
  intro E hP hn hx
  replace hn : E.n = 12 := hn
  have hm : E.P.follows .mixedOrders = true := by rw [hP]; exact mixed
  have hΘ : TOK E.P Θ := by rw [hP]; exact Θ_ok
  unfold laws_szProg at h
  show WAt E body9 (FQ (RetE Θ Tryz.f9.results.toList [] [] (I r) E)) [] ⟨[(0, (AV.agg ((r24 p1)))), (1, (I p2))], [], [JJ]⟩
  obtain ⟨r3, hr3, h⟩ := bnS h
  rcases itS h with ⟨c4, h⟩ | ⟨c5, h⟩
  · have h := Option.some.inj h
    subst h
    exact go_ret hΘ hm hP hn (hs := [⟨0, .new 1001, none⟩, ⟨5, .callV [] (I r3), none⟩, ⟨9, .br true, none⟩]) (rh := []) (ph := .raw) (ps := [Meets Tryz.prog 34 [(AV.ro 1 (p1.Routines.map r104)), (I p2)] (I r3), litA (I r3) = true, (decide (r3 < 0)) = true, (I (-1)) = (I (-1)), litA (I (-1)) = true]) (by kernel_rfl) ⟨(laws_szOpSS_m hr3), rfl, c4, rfl, rfl, trivial⟩
  · have h := Option.some.inj h
    subst h
    exact go_ret hΘ hm hP hn (hs := [⟨0, .new 1001, none⟩, ⟨5, .callV [] (I r3), none⟩, ⟨9, .br false, none⟩]) (rh := []) (ph := .raw) (ps := [Meets Tryz.prog 34 [(AV.ro 1 (p1.Routines.map r104)), (I p2)] (I r3), litA (I r3) = true, (decide (r3 < 0)) = false, (I r3) = (I r3), litA (I r3) = true]) (by kernel_rfl) ⟨(laws_szOpSS_m hr3), rfl, c5, rfl, rfl, trivial⟩
noncomputable def body4 : Code := match Tryz.f4.body with | some c => c | none => .skip
noncomputable def laws_szHunt (p1 : GHunt) (p2 : Int) : Option Int :=
  Option.bind (laws_szProg p1.Prog p2) fun r3 =>
  if (decide (r3 < 0)) = true then
    some (-1)
  else
    Option.bind (laws_szPctS p1.Kept r3) fun r6 =>
    if (decide (r6 < 0)) = true then
      some (-1)
    else
      Option.bind (laws_szPairS p1.Covered r6) fun r9 =>
      if (decide (r9 < 0)) = true then
        some (-1)
      else
        Option.bind (laws_szFoundS p1.Finds r9) fun r12 =>
        if (decide (r12 < 0)) = true then
          some (-1)
        else
          some r12
theorem laws_szHunt_m {p1 : GHunt} {p2 : Int} {r : Int} (h : laws_szHunt p1 p2 = some r) : Meets Tryz.prog 4 [(AV.agg ((r29 p1))), (I p2)] (I r) := by
  refine meets_ofC Θ_ok Tryz.func4 rfl (c := body4) (by kernel_rfl) (Nat.le_of_ble_eq_true rfl) ?_
  intro E hP hn hx
  replace hn : E.n = 30 := hn
  have hm : E.P.follows .mixedOrders = true := by rw [hP]; exact mixed
  have hΘ : TOK E.P Θ := by rw [hP]; exact Θ_ok
  unfold laws_szHunt at h
  show WAt E body4 (FQ (RetE Θ Tryz.f4.results.toList [] [] (I r) E)) [] ⟨[(0, (AV.agg ((r29 p1)))), (1, (I p2))], [], [JJ]⟩
  obtain ⟨r3, hr3, h⟩ := bnS h
  rcases itS h with ⟨c4, h⟩ | ⟨c5, h⟩
  · have h := Option.some.inj h
    subst h
    exact go_ret hΘ hm hP hn (hs := [⟨0, .new 1001, none⟩, ⟨5, .callV [[]] (I r3), none⟩, ⟨9, .br true, none⟩]) (rh := []) (ph := .raw) (ps := [Meets Tryz.prog 9 [(AV.agg ((r24 p1.Prog))), (I p2)] (I r3), litA (I r3) = true, (decide (r3 < 0)) = true, (I (-1)) = (I (-1)), litA (I (-1)) = true]) (by kernel_rfl) ⟨(laws_szProg_m hr3), rfl, c4, rfl, rfl, trivial⟩
  · obtain ⟨r6, hr6, h⟩ := bnS h
    rcases itS h with ⟨c7, h⟩ | ⟨c8, h⟩
    · have h := Option.some.inj h
      subst h
      exact go_ret hΘ hm hP hn (hs := [⟨0, .new 1001, none⟩, ⟨5, .callV [[]] (I r3), none⟩, ⟨9, .br false, none⟩, ⟨13, .callV [] (I r6), none⟩, ⟨17, .br true, none⟩]) (rh := []) (ph := .raw) (ps := [Meets Tryz.prog 9 [(AV.agg ((r24 p1.Prog))), (I p2)] (I r3), litA (I r3) = true, (decide (r3 < 0)) = false, Meets Tryz.prog 10 [(AV.ro 2 (p1.Kept.map r70)), (I r3)] (I r6), litA (I r6) = true, (decide (r6 < 0)) = true, (I (-1)) = (I (-1)), litA (I (-1)) = true]) (by kernel_rfl) ⟨(laws_szProg_m hr3), rfl, c5, (laws_szPctS_m hr6), rfl, c7, rfl, rfl, trivial⟩
    · obtain ⟨r9, hr9, h⟩ := bnS h
      rcases itS h with ⟨c10, h⟩ | ⟨c11, h⟩
      · have h := Option.some.inj h
        subst h
        exact go_ret hΘ hm hP hn (hs := [⟨0, .new 1001, none⟩, ⟨5, .callV [[]] (I r3), none⟩, ⟨9, .br false, none⟩, ⟨13, .callV [] (I r6), none⟩, ⟨17, .br false, none⟩, ⟨21, .callV [] (I r9), none⟩, ⟨25, .br true, none⟩]) (rh := []) (ph := .raw) (ps := [Meets Tryz.prog 9 [(AV.agg ((r24 p1.Prog))), (I p2)] (I r3), litA (I r3) = true, (decide (r3 < 0)) = false, Meets Tryz.prog 10 [(AV.ro 2 (p1.Kept.map r70)), (I r3)] (I r6), litA (I r6) = true, (decide (r6 < 0)) = false, Meets Tryz.prog 11 [(AV.ro 3 (p1.Covered.map o87)), (I r6)] (I r9), litA (I r9) = true, (decide (r9 < 0)) = true, (I (-1)) = (I (-1)), litA (I (-1)) = true]) (by kernel_rfl) ⟨(laws_szProg_m hr3), rfl, c5, (laws_szPctS_m hr6), rfl, c8, (laws_szPairS_m hr9), rfl, c10, rfl, rfl, trivial⟩
      · obtain ⟨r12, hr12, h⟩ := bnS h
        rcases itS h with ⟨c13, h⟩ | ⟨c14, h⟩
        · have h := Option.some.inj h
          subst h
          exact go_ret hΘ hm hP hn (hs := [⟨0, .new 1001, none⟩, ⟨5, .callV [[]] (I r3), none⟩, ⟨9, .br false, none⟩, ⟨13, .callV [] (I r6), none⟩, ⟨17, .br false, none⟩, ⟨21, .callV [] (I r9), none⟩, ⟨25, .br false, none⟩, ⟨29, .callV [] (I r12), none⟩, ⟨33, .br true, none⟩]) (rh := []) (ph := .raw) (ps := [Meets Tryz.prog 9 [(AV.agg ((r24 p1.Prog))), (I p2)] (I r3), litA (I r3) = true, (decide (r3 < 0)) = false, Meets Tryz.prog 10 [(AV.ro 2 (p1.Kept.map r70)), (I r3)] (I r6), litA (I r6) = true, (decide (r6 < 0)) = false, Meets Tryz.prog 11 [(AV.ro 3 (p1.Covered.map o87)), (I r6)] (I r9), litA (I r9) = true, (decide (r9 < 0)) = false, Meets Tryz.prog 12 [(AV.ro 2 (p1.Finds.map r72)), (I r9)] (I r12), litA (I r12) = true, (decide (r12 < 0)) = true, (I (-1)) = (I (-1)), litA (I (-1)) = true]) (by kernel_rfl) ⟨(laws_szProg_m hr3), rfl, c5, (laws_szPctS_m hr6), rfl, c8, (laws_szPairS_m hr9), rfl, c11, (laws_szFoundS_m hr12), rfl, c13, rfl, rfl, trivial⟩
        · have h := Option.some.inj h
          subst h
          exact go_ret hΘ hm hP hn (hs := [⟨0, .new 1001, none⟩, ⟨5, .callV [[]] (I r3), none⟩, ⟨9, .br false, none⟩, ⟨13, .callV [] (I r6), none⟩, ⟨17, .br false, none⟩, ⟨21, .callV [] (I r9), none⟩, ⟨25, .br false, none⟩, ⟨29, .callV [] (I r12), none⟩, ⟨33, .br false, none⟩]) (rh := []) (ph := .raw) (ps := [Meets Tryz.prog 9 [(AV.agg ((r24 p1.Prog))), (I p2)] (I r3), litA (I r3) = true, (decide (r3 < 0)) = false, Meets Tryz.prog 10 [(AV.ro 2 (p1.Kept.map r70)), (I r3)] (I r6), litA (I r6) = true, (decide (r6 < 0)) = false, Meets Tryz.prog 11 [(AV.ro 3 (p1.Covered.map o87)), (I r6)] (I r9), litA (I r9) = true, (decide (r9 < 0)) = false, Meets Tryz.prog 12 [(AV.ro 2 (p1.Finds.map r72)), (I r9)] (I r12), litA (I r12) = true, (decide (r12 < 0)) = false, (I r12) = (I r12), litA (I r12) = true]) (by kernel_rfl) ⟨(laws_szProg_m hr3), rfl, c5, (laws_szPctS_m hr6), rfl, c8, (laws_szPairS_m hr9), rfl, c11, (laws_szFoundS_m hr12), rfl, c14, rfl, rfl, trivial⟩
noncomputable def body69 : Code := match Tryz.f69.body with | some c => c | none => .skip
noncomputable def laws_toIntS_l0  (p1 : (List Int)) : Nat → (List Int) → Int → Option (List Int)
  | 0, _, _ => none
  | n + 1, a3, v4 =>
  if (decide (v4 < (p1.length : Int))) = true then
    Option.bind (rd p1 v4) fun x6 =>
    Option.bind (rd a3 v4) fun x7 =>
    laws_toIntS_l0 p1 n (a3.set (Int.toNat v4) x6) (w64 (v4 + 1))
  else
    some a3
theorem laws_toIntS_l0_m {E : Env} (hP : E.P = Tryz.prog) (hn : E.n = 22) (hx : ∀ p, p ∈ E.fx → p.1 ∈ ([] : List Nat)) (p1 : (List Int))  : ∀ (n : Nat) (a3 : (List Int)) (v4 : Int) (r : (List Int)), laws_toIntS_l0 p1 n a3 v4 = some r → WAt E body69 (FQ (RetE Θ Tryz.f69.results.toList [] [] (AV.own 3 1 (r.map o3)) E)) [true, true, false, true, false] ⟨[(0, (AV.ro 1 (p1.map o3))), (3, (AV.sl 1 0 (List.length (a3.map o3)))), (4, (I v4))], [(1, some ⟨3, 1, (a3.map o3)⟩)], [1, JJ]⟩ := by
  have hm : E.P.follows .mixedOrders = true := by rw [hP]; exact mixed
  have hΘ : TOK E.P Θ := by rw [hP]; exact Θ_ok
  intro n
  induction n with
  | zero => intro a3 v4 r h; simp only [laws_toIntS_l0] at h; cases h
  | succ n ih =>
    intro a3 v4 r h
    simp only [laws_toIntS_l0] at h
    rcases itS h with ⟨c5, h⟩ | ⟨c8, h⟩
    · obtain ⟨x6, hx6, h⟩ := bnS h
      obtain ⟨x7, hx7, h⟩ := bnS h
      exact go_to hΘ hm hx hP hn (hs := [⟨2, .no, some (I (p1.length : Int))⟩, ⟨4, .br true, none⟩, ⟨9, .row (o3 x6), none⟩, ⟨12, .sto [(I x7)] ((a3.set (Int.toNat v4) x6).map o3), none⟩, ⟨16, .slen 3 (List.length ((a3.set (Int.toNat v4) x6).map o3)), none⟩]) (π := [(1, 1)]) (ts := [0, 3, 4]) (kp := []) (ps := [AV.lit (.int .i64 (((p1.map o3).length : Nat) : Int)) = (I (p1.length : Int)), (decide (v4 < (p1.length : Int))) = true, (0 : Int) ≤ v4, (p1.map o3)[(Int.toNat v4)]? = some (o3 x6), (0 : Int) ≤ v4, v4 < (((List.length (a3.map o3)) : Nat) : Int), (a3.map o3)[(Int.toNat v4)]? = some [(I x7)], (a3.map o3).set (Int.toNat v4) (wr [(I x7)] 0 [(I x6)]) = ((a3.set (Int.toNat v4) x6).map o3), [(I x6)].length = 1, 0 + [(I x6)].length ≤ [(I x7)].length, (List.length (a3.map o3)) = (List.length ((a3.set (Int.toNat v4) x6).map o3)), RenOK [(1, 1)] ((a3.set (Int.toNat v4) x6).map o3)]) (by kernel_rfl) ⟨(lenM o3), c5, (rd0 hx6), (rdM o3 hx6), (rd0 hx7), (rdL o3 hx7), (rdM o3 hx7), (setM o3), rfl, (Nat.le_of_ble_eq_true rfl), (by first | exact lnSet _ | exact lnSet2 _ | simp only [List.length_map, List.length_set, List.length_cons, List.length_nil]), (rok (treeM t3)), trivial⟩ (ih (a3.set (Int.toNat v4) x6) (w64 (v4 + 1)) _ h)
    · have h := Option.some.inj h
      subst h
      exact go_ret hΘ hm hP hn (hs := [⟨2, .no, some (I (p1.length : Int))⟩, ⟨4, .br false, none⟩]) (rh := []) (ph := .own) (ps := [AV.lit (.int .i64 (((p1.map o3).length : Nat) : Int)) = (I (p1.length : Int)), (decide (v4 < (p1.length : Int))) = false, treeLL ((a3.map o3).take (List.length (a3.map o3))) = true, (a3.map o3).take (List.length (a3.map o3)) = (a3.map o3), noRoLL (a3.map o3) = true]) (by kernel_rfl) ⟨(lenM o3), c8, (treeT t3), takeM, (noRoM n3), trivial⟩
noncomputable def laws_toIntS (p1 : (List Int)) : Option (List Int) :=
  Option.bind (mk 0 (p1.length : Int)) fun l2 =>
  laws_toIntS_l0 p1 FU l2 0
theorem laws_toIntS_m {p1 : (List Int)} {r : (List Int)} (h : laws_toIntS p1 = some r) : Meets Tryz.prog 69 [(AV.ro 1 (p1.map o3))] (AV.own 3 1 (r.map o3)) := by
  refine meets_ofC Θ_ok Tryz.func69 rfl (c := body69) (by kernel_rfl) (Nat.le_of_ble_eq_true rfl) ?_
  intro E hP hn hx
  replace hn : E.n = 22 := hn
  have hm : E.P.follows .mixedOrders = true := by rw [hP]; exact mixed
  have hΘ : TOK E.P Θ := by rw [hP]; exact Θ_ok
  unfold laws_toIntS at h
  show WAt E body69 (FQ (RetE Θ Tryz.f69.results.toList [] [] (AV.own 3 1 (r.map o3)) E)) [] ⟨[(0, (AV.ro 1 (p1.map o3)))], [], [JJ]⟩
  obtain ⟨l2, hl2, h⟩ := bnS h
  exact go_to hΘ hm hx hP hn (hs := [⟨2, .no, some (I (p1.length : Int))⟩, ⟨3, .nw 1001 (l2.map o3), some (AV.sl 1001 0 (List.length (l2.map o3)))⟩]) (π := [(1001, 1)]) (ts := [0, 3, 4]) (kp := []) (ps := [AV.lit (.int .i64 (((p1.map o3).length : Nat) : Int)) = (I (p1.length : Int)), List.replicate (Int.toNat (p1.length : Int)) [.lit (.int .i64 0)] = (l2.map o3), AV.sl 1001 0 (Int.toNat (p1.length : Int)) = (AV.sl 1001 0 (List.length (l2.map o3))), (p1.length : Int) = (p1.length : Int), (0 : Int) ≤ (p1.length : Int), (p1.length : Int) * ((8 : Nat) : Int) ≤ 140737488355328, (p1.length : Int) ≤ 140737488355328, RenOK [(1001, 1)] (l2.map o3)]) (by kernel_rfl) ⟨(lenM o3), (mkM o3 hl2), (mkS o3 hl2), rfl, (mk0 hl2), (mkB hl2 (by decide)), (mkC hl2), (rok (treeM t3)), trivial⟩ (laws_toIntS_l0_m hP hn hx p1 FU l2 0 _ h)
noncomputable def body47 : Code := match Tryz.f47.body with | some c => c | none => .skip
noncomputable def laws_toFound (p1 : GFound) : Option GFound :=
  Option.bind (laws_toIntS p1.Picks) fun r2 =>
  some (GFound.mk p1.Sign r2)
theorem laws_toFound_m {p1 : GFound} {r : GFound} (h : laws_toFound p1 = some r) : Meets Tryz.prog 47 [(AV.agg ((r72 p1)))] (AV.agg (o61 r)) := by
  refine meets_ofC Θ_ok Tryz.func47 rfl (c := body47) (by kernel_rfl) (Nat.le_of_ble_eq_true rfl) ?_
  intro E hP hn hx
  replace hn : E.n = 12 := hn
  have hm : E.P.follows .mixedOrders = true := by rw [hP]; exact mixed
  have hΘ : TOK E.P Θ := by rw [hP]; exact Θ_ok
  unfold laws_toFound at h
  show WAt E body47 (FQ (RetE Θ Tryz.f47.results.toList [] [] (AV.agg (o61 r)) E)) [] ⟨[(0, (AV.agg ((r72 p1))))], [], [JJ]⟩
  obtain ⟨r2, hr2, h⟩ := bnS h
  have h := Option.some.inj h
  subst h
  exact go_ret hΘ hm hP hn (hs := [⟨0, .new 1001, none⟩, ⟨1, .new 1002, none⟩, ⟨2, .new 1003, none⟩, ⟨9, .call [] (AV.own 3 1 (r2.map o3)) [1004], none⟩]) (rh := []) (ph := .agg [.raw, .own]) (ps := [Meets Tryz.prog 69 [(AV.ro 1 (p1.Picks.map o3))] (AV.own 3 1 (r2.map o3)), noRo (AV.own 3 1 (r2.map o3)) = true, (SK p1.Sign) = (SK p1.Sign), litA (SK p1.Sign) = true, treeLL ((r2.map o3).take (List.length (r2.map o3))) = true, (r2.map o3).take (List.length (r2.map o3)) = (r2.map o3), noRoLL (r2.map o3) = true]) (by kernel_rfl) ⟨(laws_toIntS_m hr2), (by simp only [noRo, noRoL, noRoM n3, Bool.and_self]), rfl, rfl, (treeT t3), takeM, (noRoM n3), trivial⟩
noncomputable def body21 : Code := match Tryz.f21.body with | some c => c | none => .skip
noncomputable def laws_toFoundS_l0  (p1 : (List GFound)) : Nat → (List GFound) → Int → Option (List GFound)
  | 0, _, _ => none
  | n + 1, a3, v4 =>
  if (decide (v4 < (p1.length : Int))) = true then
    Option.bind (rd p1 v4) fun x6 =>
    Option.bind (laws_toFound x6) fun r7 =>
    Option.bind (rd a3 v4) fun x8 =>
    laws_toFoundS_l0 p1 n (a3.set (Int.toNat v4) (GFound.mk r7.Sign r7.Picks)) (w64 (v4 + 1))
  else
    some a3
theorem laws_toFoundS_l0_m {E : Env} (hP : E.P = Tryz.prog) (hn : E.n = 23) (hx : ∀ p, p ∈ E.fx → p.1 ∈ ([] : List Nat)) (p1 : (List GFound))  : ∀ (n : Nat) (a3 : (List GFound)) (v4 : Int) (r : (List GFound)), laws_toFoundS_l0 p1 n a3 v4 = some r → WAt E body21 (FQ (RetE Θ Tryz.f21.results.toList [] [] (AV.own 61 2 (r.map o61)) E)) [true, true, false, true, false] ⟨[(0, (AV.ro 2 (p1.map r72))), (3, (AV.sl 1 0 (List.length (a3.map o61)))), (4, (I v4))], [(1, some ⟨61, 2, (a3.map o61)⟩)], [1, JJ]⟩ := by
  have hm : E.P.follows .mixedOrders = true := by rw [hP]; exact mixed
  have hΘ : TOK E.P Θ := by rw [hP]; exact Θ_ok
  intro n
  induction n with
  | zero => intro a3 v4 r h; simp only [laws_toFoundS_l0] at h; cases h
  | succ n ih =>
    intro a3 v4 r h
    simp only [laws_toFoundS_l0] at h
    rcases itS h with ⟨c5, h⟩ | ⟨c9, h⟩
    · obtain ⟨x6, hx6, h⟩ := bnS h
      obtain ⟨r7, hr7, h⟩ := bnS h
      obtain ⟨x8, hx8, h⟩ := bnS h
      exact go_to hΘ hm hx hP hn (hs := [⟨2, .no, some (I (p1.length : Int))⟩, ⟨4, .br true, none⟩, ⟨9, .row (r72 x6), none⟩, ⟨11, .call [[]] (AV.agg (o61 r7)) [1001], none⟩, ⟨13, .sto ((o61 x8)) ((a3.map o61).set (Int.toNat v4) [(SK r7.Sign), (AV.sl 1001 0 (List.length (r7.Picks.map o3)))]), none⟩, ⟨14, .pack 1 1001 (Int.toNat v4) 1 [(SK r7.Sign), (AV.sl 1001 0 (List.length (r7.Picks.map o3)))] ((a3.set (Int.toNat v4) (GFound.mk r7.Sign r7.Picks)).map o61), none⟩, ⟨17, .slen 3 (List.length ((a3.set (Int.toNat v4) (GFound.mk r7.Sign r7.Picks)).map o61)), none⟩]) (π := [(1, 1)]) (ts := [0, 3, 4]) (kp := []) (ps := [AV.lit (.int .i64 (((p1.map r72).length : Nat) : Int)) = (I (p1.length : Int)), (decide (v4 < (p1.length : Int))) = true, (0 : Int) ≤ v4, (p1.map r72)[(Int.toNat v4)]? = some (r72 x6), Meets Tryz.prog 47 [(AV.agg ((r72 x6)))] (AV.agg (o61 r7)), noRo (AV.agg (o61 r7)) = true, (0 : Int) ≤ v4, v4 < (((List.length (a3.map o61)) : Nat) : Int), (a3.map o61)[(Int.toNat v4)]? = some ((o61 x8)), (a3.map o61).set (Int.toNat v4) (wr ((o61 x8)) 0 [(SK r7.Sign), (AV.sl 1001 0 (List.length (r7.Picks.map o3)))]) = ((a3.map o61).set (Int.toNat v4) [(SK r7.Sign), (AV.sl 1001 0 (List.length (r7.Picks.map o3)))]), [(SK r7.Sign), (AV.sl 1001 0 (List.length (r7.Picks.map o3)))].length = 2, 0 + [(SK r7.Sign), (AV.sl 1001 0 (List.length (r7.Picks.map o3)))].length ≤ ((o61 x8)).length, ((a3.map o61).set (Int.toNat v4) [(SK r7.Sign), (AV.sl 1001 0 (List.length (r7.Picks.map o3)))])[(Int.toNat v4)]? = some [(SK r7.Sign), (AV.sl 1001 0 (List.length (r7.Picks.map o3)))], [(SK r7.Sign), (AV.sl 1001 0 (List.length (r7.Picks.map o3)))][1]? = some (AV.sl 1001 0 (List.length (r7.Picks.map o3))), treeLL (r7.Picks.map o3) = true, ((a3.map o61).set (Int.toNat v4) [(SK r7.Sign), (AV.sl 1001 0 (List.length (r7.Picks.map o3)))]).set (Int.toNat v4) ([(SK r7.Sign), (AV.sl 1001 0 (List.length (r7.Picks.map o3)))].set 1 (AV.own 3 1 (r7.Picks.map o3))) = ((a3.set (Int.toNat v4) (GFound.mk r7.Sign r7.Picks)).map o61), (List.length (a3.map o61)) = (List.length ((a3.set (Int.toNat v4) (GFound.mk r7.Sign r7.Picks)).map o61)), RenOK [(1, 1)] ((a3.set (Int.toNat v4) (GFound.mk r7.Sign r7.Picks)).map o61)]) (by kernel_rfl) ⟨(lenM r72), c5, (rd0 hx6), (rdM r72 hx6), (laws_toFound_m hr7), (by simp only [noRo, noRoL, noRoM n3, o61, Bool.and_self]), (rd0 hx8), (rdL o61 hx8), (rdM o61 hx8), rfl, rfl, (Nat.le_of_ble_eq_true rfl), (setE (rdM o61 hx8)), rfl, (treeM t3), (setPe o61 (y := (GFound.mk r7.Sign r7.Picks)) rfl), (by first | exact lnSet _ | exact lnSet2 _ | simp only [List.length_map, List.length_set, List.length_cons, List.length_nil]), (rok (treeM t61)), trivial⟩ (ih (a3.set (Int.toNat v4) (GFound.mk r7.Sign r7.Picks)) (w64 (v4 + 1)) _ h)
    · have h := Option.some.inj h
      subst h
      exact go_ret hΘ hm hP hn (hs := [⟨2, .no, some (I (p1.length : Int))⟩, ⟨4, .br false, none⟩]) (rh := []) (ph := .own) (ps := [AV.lit (.int .i64 (((p1.map r72).length : Nat) : Int)) = (I (p1.length : Int)), (decide (v4 < (p1.length : Int))) = false, treeLL ((a3.map o61).take (List.length (a3.map o61))) = true, (a3.map o61).take (List.length (a3.map o61)) = (a3.map o61), noRoLL (a3.map o61) = true]) (by kernel_rfl) ⟨(lenM r72), c9, (treeT t61), takeM, (noRoM n61), trivial⟩
noncomputable def laws_toFoundS (p1 : (List GFound)) : Option (List GFound) :=
  Option.bind (mk (GFound.mk [] []) (p1.length : Int)) fun l2 =>
  laws_toFoundS_l0 p1 FU l2 0
theorem laws_toFoundS_m {p1 : (List GFound)} {r : (List GFound)} (h : laws_toFoundS p1 = some r) : Meets Tryz.prog 21 [(AV.ro 2 (p1.map r72))] (AV.own 61 2 (r.map o61)) := by
  refine meets_ofC Θ_ok Tryz.func21 rfl (c := body21) (by kernel_rfl) (Nat.le_of_ble_eq_true rfl) ?_
  intro E hP hn hx
  replace hn : E.n = 23 := hn
  have hm : E.P.follows .mixedOrders = true := by rw [hP]; exact mixed
  have hΘ : TOK E.P Θ := by rw [hP]; exact Θ_ok
  unfold laws_toFoundS at h
  show WAt E body21 (FQ (RetE Θ Tryz.f21.results.toList [] [] (AV.own 61 2 (r.map o61)) E)) [] ⟨[(0, (AV.ro 2 (p1.map r72)))], [], [JJ]⟩
  obtain ⟨l2, hl2, h⟩ := bnS h
  exact go_to hΘ hm hx hP hn (hs := [⟨2, .no, some (I (p1.length : Int))⟩, ⟨3, .nw 1001 (List.replicate (Int.toNat (p1.length : Int)) [AV.lit (.string ⟨#[]⟩), AV.lit (.slice none 0 0)]), some (AV.sl 1001 0 (List.length (l2.map o61)))⟩, ⟨4, .own0 1001 (Int.toNat (p1.length : Int)) [AV.lit (.string ⟨#[]⟩)] [] 3 1 (l2.map o61), none⟩]) (π := [(1001, 1)]) (ts := [0, 3, 4]) (kp := []) (ps := [AV.lit (.int .i64 (((p1.map r72).length : Nat) : Int)) = (I (p1.length : Int)), List.replicate (Int.toNat (p1.length : Int)) [.lit (.string ⟨#[]⟩), .lit (.slice none 0 0)] = (List.replicate (Int.toNat (p1.length : Int)) [AV.lit (.string ⟨#[]⟩), AV.lit (.slice none 0 0)]), AV.sl 1001 0 (Int.toNat (p1.length : Int)) = (AV.sl 1001 0 (List.length (l2.map o61))), (p1.length : Int) = (p1.length : Int), (0 : Int) ≤ (p1.length : Int), (p1.length : Int) * ((40 : Nat) : Int) ≤ 140737488355328, (p1.length : Int) ≤ 140737488355328, (List.replicate (Int.toNat (p1.length : Int)) [AV.lit (.string ⟨#[]⟩), AV.lit (.slice none 0 0)]) = List.replicate (Int.toNat (p1.length : Int)) ([AV.lit (.string ⟨#[]⟩)] ++ AV.lit (.slice none 0 0) :: []), List.replicate (Int.toNat (p1.length : Int)) ([AV.lit (.string ⟨#[]⟩)] ++ AV.own 3 1 [] :: []) = (l2.map o61), RenOK [(1001, 1)] (l2.map o61)]) (by kernel_rfl) ⟨(lenM r72), rfl, (mkS o61 hl2), rfl, (mk0 hl2), (mkB hl2 (by decide)), (mkC hl2), rfl, (mkM o61 hl2), (rok (treeM t61)), trivial⟩ (laws_toFoundS_l0_m hP hn hx p1 FU l2 0 _ h)
noncomputable def body46 : Code := match Tryz.f46.body with | some c => c | none => .skip
noncomputable def laws_toPair (p1 : GPair) : Option GPair :=
  some (GPair.mk p1.Cell p1.One p1.Two)
theorem laws_toPair_m {p1 : GPair} {r : GPair} (h : laws_toPair p1 = some r) : Meets Tryz.prog 46 [(AV.agg ((o87 p1)))] (AV.agg (o80 r)) := by
  refine meets_ofC Θ_ok Tryz.func46 rfl (c := body46) (by kernel_rfl) (Nat.le_of_ble_eq_true rfl) ?_
  intro E hP hn hx
  replace hn : E.n = 14 := hn
  have hm : E.P.follows .mixedOrders = true := by rw [hP]; exact mixed
  have hΘ : TOK E.P Θ := by rw [hP]; exact Θ_ok
  unfold laws_toPair at h
  show WAt E body46 (FQ (RetE Θ Tryz.f46.results.toList [] [] (AV.agg (o80 r)) E)) [] ⟨[(0, (AV.agg ((o87 p1))))], [], [JJ]⟩
  have h := Option.some.inj h
  subst h
  exact go_ret hΘ hm hP hn (hs := [⟨0, .new 1001, none⟩, ⟨1, .new 1002, none⟩, ⟨2, .new 1003, none⟩]) (rh := []) (ph := .raw) (ps := [(AV.agg [(I p1.Cell), (I p1.One), (I p1.Two)]) = (AV.agg [(I p1.Cell), (I p1.One), (I p1.Two)]), litA (AV.agg [(I p1.Cell), (I p1.One), (I p1.Two)]) = true]) (by kernel_rfl) ⟨rfl, rfl, trivial⟩
noncomputable def body20 : Code := match Tryz.f20.body with | some c => c | none => .skip
noncomputable def laws_toPairS_l0  (p1 : (List GPair)) : Nat → (List GPair) → Int → Option (List GPair)
  | 0, _, _ => none
  | n + 1, a3, v4 =>
  if (decide (v4 < (p1.length : Int))) = true then
    Option.bind (rd p1 v4) fun x6 =>
    Option.bind (laws_toPair x6) fun r7 =>
    Option.bind (rd a3 v4) fun x8 =>
    laws_toPairS_l0 p1 n (a3.set (Int.toNat v4) r7) (w64 (v4 + 1))
  else
    some a3
theorem laws_toPairS_l0_m {E : Env} (hP : E.P = Tryz.prog) (hn : E.n = 23) (hx : ∀ p, p ∈ E.fx → p.1 ∈ ([] : List Nat)) (p1 : (List GPair))  : ∀ (n : Nat) (a3 : (List GPair)) (v4 : Int) (r : (List GPair)), laws_toPairS_l0 p1 n a3 v4 = some r → WAt E body20 (FQ (RetE Θ Tryz.f20.results.toList [] [] (AV.own 80 3 (r.map o80)) E)) [true, true, false, true, false] ⟨[(0, (AV.ro 3 (p1.map o87))), (3, (AV.sl 1 0 (List.length (a3.map o80)))), (4, (I v4))], [(1, some ⟨80, 3, (a3.map o80)⟩)], [1, JJ]⟩ := by
  have hm : E.P.follows .mixedOrders = true := by rw [hP]; exact mixed
  have hΘ : TOK E.P Θ := by rw [hP]; exact Θ_ok
  intro n
  induction n with
  | zero => intro a3 v4 r h; simp only [laws_toPairS_l0] at h; cases h
  | succ n ih =>
    intro a3 v4 r h
    simp only [laws_toPairS_l0] at h
    rcases itS h with ⟨c5, h⟩ | ⟨c9, h⟩
    · obtain ⟨x6, hx6, h⟩ := bnS h
      obtain ⟨r7, hr7, h⟩ := bnS h
      obtain ⟨x8, hx8, h⟩ := bnS h
      exact go_to hΘ hm hx hP hn (hs := [⟨2, .no, some (I (p1.length : Int))⟩, ⟨4, .br true, none⟩, ⟨9, .row (o87 x6), none⟩, ⟨11, .callV [[]] (AV.agg (o80 r7)), none⟩, ⟨13, .sto ((o80 x8)) ((a3.set (Int.toNat v4) r7).map o80), none⟩, ⟨17, .slen 3 (List.length ((a3.set (Int.toNat v4) r7).map o80)), none⟩]) (π := [(1, 1)]) (ts := [0, 3, 4]) (kp := []) (ps := [AV.lit (.int .i64 (((p1.map o87).length : Nat) : Int)) = (I (p1.length : Int)), (decide (v4 < (p1.length : Int))) = true, (0 : Int) ≤ v4, (p1.map o87)[(Int.toNat v4)]? = some (o87 x6), Meets Tryz.prog 46 [(AV.agg ((o87 x6)))] (AV.agg (o80 r7)), litA (AV.agg (o80 r7)) = true, (0 : Int) ≤ v4, v4 < (((List.length (a3.map o80)) : Nat) : Int), (a3.map o80)[(Int.toNat v4)]? = some ((o80 x8)), (a3.map o80).set (Int.toNat v4) (wr ((o80 x8)) 0 ((o80 r7))) = ((a3.set (Int.toNat v4) r7).map o80), ((o80 r7)).length = 3, 0 + ((o80 r7)).length ≤ ((o80 x8)).length, (List.length (a3.map o80)) = (List.length ((a3.set (Int.toNat v4) r7).map o80)), RenOK [(1, 1)] ((a3.set (Int.toNat v4) r7).map o80)]) (by kernel_rfl) ⟨(lenM o87), c5, (rd0 hx6), (rdM o87 hx6), (laws_toPair_m hr7), rfl, (rd0 hx8), (rdL o80 hx8), (rdM o80 hx8), (setMr o80 (by kernel_rfl)), rfl, (Nat.le_of_ble_eq_true rfl), (by first | exact lnSet _ | exact lnSet2 _ | simp only [List.length_map, List.length_set, List.length_cons, List.length_nil]), (rok (treeM t80)), trivial⟩ (ih (a3.set (Int.toNat v4) r7) (w64 (v4 + 1)) _ h)
    · have h := Option.some.inj h
      subst h
      exact go_ret hΘ hm hP hn (hs := [⟨2, .no, some (I (p1.length : Int))⟩, ⟨4, .br false, none⟩]) (rh := []) (ph := .own) (ps := [AV.lit (.int .i64 (((p1.map o87).length : Nat) : Int)) = (I (p1.length : Int)), (decide (v4 < (p1.length : Int))) = false, treeLL ((a3.map o80).take (List.length (a3.map o80))) = true, (a3.map o80).take (List.length (a3.map o80)) = (a3.map o80), noRoLL (a3.map o80) = true]) (by kernel_rfl) ⟨(lenM o87), c9, (treeT t80), takeM, (noRoM n80), trivial⟩
noncomputable def laws_toPairS (p1 : (List GPair)) : Option (List GPair) :=
  Option.bind (mk (GPair.mk 0 0 0) (p1.length : Int)) fun l2 =>
  laws_toPairS_l0 p1 FU l2 0
theorem laws_toPairS_m {p1 : (List GPair)} {r : (List GPair)} (h : laws_toPairS p1 = some r) : Meets Tryz.prog 20 [(AV.ro 3 (p1.map o87))] (AV.own 80 3 (r.map o80)) := by
  refine meets_ofC Θ_ok Tryz.func20 rfl (c := body20) (by kernel_rfl) (Nat.le_of_ble_eq_true rfl) ?_
  intro E hP hn hx
  replace hn : E.n = 23 := hn
  have hm : E.P.follows .mixedOrders = true := by rw [hP]; exact mixed
  have hΘ : TOK E.P Θ := by rw [hP]; exact Θ_ok
  unfold laws_toPairS at h
  show WAt E body20 (FQ (RetE Θ Tryz.f20.results.toList [] [] (AV.own 80 3 (r.map o80)) E)) [] ⟨[(0, (AV.ro 3 (p1.map o87)))], [], [JJ]⟩
  obtain ⟨l2, hl2, h⟩ := bnS h
  exact go_to hΘ hm hx hP hn (hs := [⟨2, .no, some (I (p1.length : Int))⟩, ⟨3, .nw 1001 (l2.map o80), some (AV.sl 1001 0 (List.length (l2.map o80)))⟩]) (π := [(1001, 1)]) (ts := [0, 3, 4]) (kp := []) (ps := [AV.lit (.int .i64 (((p1.map o87).length : Nat) : Int)) = (I (p1.length : Int)), List.replicate (Int.toNat (p1.length : Int)) [.lit (.int .i64 0), .lit (.int .i64 0), .lit (.int .i64 0)] = (l2.map o80), AV.sl 1001 0 (Int.toNat (p1.length : Int)) = (AV.sl 1001 0 (List.length (l2.map o80))), (p1.length : Int) = (p1.length : Int), (0 : Int) ≤ (p1.length : Int), (p1.length : Int) * ((24 : Nat) : Int) ≤ 140737488355328, (p1.length : Int) ≤ 140737488355328, RenOK [(1001, 1)] (l2.map o80)]) (by kernel_rfl) ⟨(lenM o87), (mkM o80 hl2), (mkS o80 hl2), rfl, (mk0 hl2), (mkB hl2 (by decide)), (mkC hl2), (rok (treeM t80)), trivial⟩ (laws_toPairS_l0_m hP hn hx p1 FU l2 0 _ h)
noncomputable def body45 : Code := match Tryz.f45.body with | some c => c | none => .skip
noncomputable def laws_toPct (p1 : GPct) : Option GPct :=
  Option.bind (laws_toIntS p1.Ranks) fun r2 =>
  Option.bind (laws_toIntS p1.Changes) fun r3 =>
  some (GPct.mk r2 r3)
theorem laws_toPct_m {p1 : GPct} {r : GPct} (h : laws_toPct p1 = some r) : Meets Tryz.prog 45 [(AV.agg ((r70 p1)))] (AV.agg (o49 r)) := by
  refine meets_ofC Θ_ok Tryz.func45 rfl (c := body45) (by kernel_rfl) (Nat.le_of_ble_eq_true rfl) ?_
  intro E hP hn hx
  replace hn : E.n = 13 := hn
  have hm : E.P.follows .mixedOrders = true := by rw [hP]; exact mixed
  have hΘ : TOK E.P Θ := by rw [hP]; exact Θ_ok
  unfold laws_toPct at h
  show WAt E body45 (FQ (RetE Θ Tryz.f45.results.toList [] [] (AV.agg (o49 r)) E)) [] ⟨[(0, (AV.agg ((r70 p1))))], [], [JJ]⟩
  obtain ⟨r2, hr2, h⟩ := bnS h
  obtain ⟨r3, hr3, h⟩ := bnS h
  have h := Option.some.inj h
  subst h
  exact go_ret hΘ hm hP hn (hs := [⟨0, .new 1001, none⟩, ⟨1, .new 1002, none⟩, ⟨2, .new 1003, none⟩, ⟨5, .call [] (AV.own 3 1 (r2.map o3)) [1004], none⟩, ⟨10, .call [] (AV.own 3 1 (r3.map o3)) [1005], none⟩]) (rh := []) (ph := .agg [.own, .own]) (ps := [Meets Tryz.prog 69 [(AV.ro 1 (p1.Ranks.map o3))] (AV.own 3 1 (r2.map o3)), noRo (AV.own 3 1 (r2.map o3)) = true, Meets Tryz.prog 69 [(AV.ro 1 (p1.Changes.map o3))] (AV.own 3 1 (r3.map o3)), noRo (AV.own 3 1 (r3.map o3)) = true, treeLL ((r2.map o3).take (List.length (r2.map o3))) = true, (r2.map o3).take (List.length (r2.map o3)) = (r2.map o3), noRoLL (r2.map o3) = true, treeLL ((r3.map o3).take (List.length (r3.map o3))) = true, (r3.map o3).take (List.length (r3.map o3)) = (r3.map o3), noRoLL (r3.map o3) = true]) (by kernel_rfl) ⟨(laws_toIntS_m hr2), (by simp only [noRo, noRoL, noRoM n3, Bool.and_self]), (laws_toIntS_m hr3), (by simp only [noRo, noRoL, noRoM n3, Bool.and_self]), (treeT t3), takeM, (noRoM n3), (treeT t3), takeM, (noRoM n3), trivial⟩
noncomputable def body19 : Code := match Tryz.f19.body with | some c => c | none => .skip
noncomputable def laws_toPctS_l0  (p1 : (List GPct)) : Nat → (List GPct) → Int → Option (List GPct)
  | 0, _, _ => none
  | n + 1, a3, v4 =>
  if (decide (v4 < (p1.length : Int))) = true then
    Option.bind (rd p1 v4) fun x6 =>
    Option.bind (laws_toPct x6) fun r7 =>
    Option.bind (rd a3 v4) fun x8 =>
    laws_toPctS_l0 p1 n (a3.set (Int.toNat v4) (GPct.mk r7.Ranks r7.Changes)) (w64 (v4 + 1))
  else
    some a3
theorem laws_toPctS_l0_m {E : Env} (hP : E.P = Tryz.prog) (hn : E.n = 23) (hx : ∀ p, p ∈ E.fx → p.1 ∈ ([] : List Nat)) (p1 : (List GPct))  : ∀ (n : Nat) (a3 : (List GPct)) (v4 : Int) (r : (List GPct)), laws_toPctS_l0 p1 n a3 v4 = some r → WAt E body19 (FQ (RetE Θ Tryz.f19.results.toList [] [] (AV.own 49 2 (r.map o49)) E)) [true, true, false, true, false] ⟨[(0, (AV.ro 2 (p1.map r70))), (3, (AV.sl 1 0 (List.length (a3.map o49)))), (4, (I v4))], [(1, some ⟨49, 2, (a3.map o49)⟩)], [1, JJ]⟩ := by
  have hm : E.P.follows .mixedOrders = true := by rw [hP]; exact mixed
  have hΘ : TOK E.P Θ := by rw [hP]; exact Θ_ok
  intro n
  induction n with
  | zero => intro a3 v4 r h; simp only [laws_toPctS_l0] at h; cases h
  | succ n ih =>
    intro a3 v4 r h
    simp only [laws_toPctS_l0] at h
    rcases itS h with ⟨c5, h⟩ | ⟨c9, h⟩
    · obtain ⟨x6, hx6, h⟩ := bnS h
      obtain ⟨r7, hr7, h⟩ := bnS h
      obtain ⟨x8, hx8, h⟩ := bnS h
      exact go_to hΘ hm hx hP hn (hs := [⟨2, .no, some (I (p1.length : Int))⟩, ⟨4, .br true, none⟩, ⟨9, .row (r70 x6), none⟩, ⟨11, .call [[]] (AV.agg (o49 r7)) [1001, 1002], none⟩, ⟨13, .sto ((o49 x8)) ((a3.map o49).set (Int.toNat v4) [(AV.sl 1001 0 (List.length (r7.Ranks.map o3))), (AV.sl 1002 0 (List.length (r7.Changes.map o3)))]), none⟩, ⟨14, .pack 1 1001 (Int.toNat v4) 0 [(AV.sl 1001 0 (List.length (r7.Ranks.map o3))), (AV.sl 1002 0 (List.length (r7.Changes.map o3)))] ((a3.map o49).set (Int.toNat v4) [(AV.own 3 1 (r7.Ranks.map o3)), (AV.sl 1002 0 (List.length (r7.Changes.map o3)))]), none⟩, ⟨14, .pack 1 1002 (Int.toNat v4) 1 [(AV.own 3 1 (r7.Ranks.map o3)), (AV.sl 1002 0 (List.length (r7.Changes.map o3)))] ((a3.set (Int.toNat v4) (GPct.mk r7.Ranks r7.Changes)).map o49), none⟩, ⟨17, .slen 3 (List.length ((a3.set (Int.toNat v4) (GPct.mk r7.Ranks r7.Changes)).map o49)), none⟩]) (π := [(1, 1)]) (ts := [0, 3, 4]) (kp := []) (ps := [AV.lit (.int .i64 (((p1.map r70).length : Nat) : Int)) = (I (p1.length : Int)), (decide (v4 < (p1.length : Int))) = true, (0 : Int) ≤ v4, (p1.map r70)[(Int.toNat v4)]? = some (r70 x6), Meets Tryz.prog 45 [(AV.agg ((r70 x6)))] (AV.agg (o49 r7)), noRo (AV.agg (o49 r7)) = true, (0 : Int) ≤ v4, v4 < (((List.length (a3.map o49)) : Nat) : Int), (a3.map o49)[(Int.toNat v4)]? = some ((o49 x8)), (a3.map o49).set (Int.toNat v4) (wr ((o49 x8)) 0 [(AV.sl 1001 0 (List.length (r7.Ranks.map o3))), (AV.sl 1002 0 (List.length (r7.Changes.map o3)))]) = ((a3.map o49).set (Int.toNat v4) [(AV.sl 1001 0 (List.length (r7.Ranks.map o3))), (AV.sl 1002 0 (List.length (r7.Changes.map o3)))]), [(AV.sl 1001 0 (List.length (r7.Ranks.map o3))), (AV.sl 1002 0 (List.length (r7.Changes.map o3)))].length = 2, 0 + [(AV.sl 1001 0 (List.length (r7.Ranks.map o3))), (AV.sl 1002 0 (List.length (r7.Changes.map o3)))].length ≤ ((o49 x8)).length, ((a3.map o49).set (Int.toNat v4) [(AV.sl 1001 0 (List.length (r7.Ranks.map o3))), (AV.sl 1002 0 (List.length (r7.Changes.map o3)))])[(Int.toNat v4)]? = some [(AV.sl 1001 0 (List.length (r7.Ranks.map o3))), (AV.sl 1002 0 (List.length (r7.Changes.map o3)))], [(AV.sl 1001 0 (List.length (r7.Ranks.map o3))), (AV.sl 1002 0 (List.length (r7.Changes.map o3)))][0]? = some (AV.sl 1001 0 (List.length (r7.Ranks.map o3))), treeLL (r7.Ranks.map o3) = true, ((a3.map o49).set (Int.toNat v4) [(AV.sl 1001 0 (List.length (r7.Ranks.map o3))), (AV.sl 1002 0 (List.length (r7.Changes.map o3)))]).set (Int.toNat v4) ([(AV.sl 1001 0 (List.length (r7.Ranks.map o3))), (AV.sl 1002 0 (List.length (r7.Changes.map o3)))].set 0 (AV.own 3 1 (r7.Ranks.map o3))) = ((a3.map o49).set (Int.toNat v4) [(AV.own 3 1 (r7.Ranks.map o3)), (AV.sl 1002 0 (List.length (r7.Changes.map o3)))]), ((a3.map o49).set (Int.toNat v4) [(AV.own 3 1 (r7.Ranks.map o3)), (AV.sl 1002 0 (List.length (r7.Changes.map o3)))])[(Int.toNat v4)]? = some [(AV.own 3 1 (r7.Ranks.map o3)), (AV.sl 1002 0 (List.length (r7.Changes.map o3)))], [(AV.own 3 1 (r7.Ranks.map o3)), (AV.sl 1002 0 (List.length (r7.Changes.map o3)))][1]? = some (AV.sl 1002 0 (List.length (r7.Changes.map o3))), treeLL (r7.Changes.map o3) = true, ((a3.map o49).set (Int.toNat v4) [(AV.own 3 1 (r7.Ranks.map o3)), (AV.sl 1002 0 (List.length (r7.Changes.map o3)))]).set (Int.toNat v4) ([(AV.own 3 1 (r7.Ranks.map o3)), (AV.sl 1002 0 (List.length (r7.Changes.map o3)))].set 1 (AV.own 3 1 (r7.Changes.map o3))) = ((a3.set (Int.toNat v4) (GPct.mk r7.Ranks r7.Changes)).map o49), (List.length (a3.map o49)) = (List.length ((a3.set (Int.toNat v4) (GPct.mk r7.Ranks r7.Changes)).map o49)), RenOK [(1, 1)] ((a3.set (Int.toNat v4) (GPct.mk r7.Ranks r7.Changes)).map o49)]) (by kernel_rfl) ⟨(lenM r70), c5, (rd0 hx6), (rdM r70 hx6), (laws_toPct_m hr7), (by simp only [noRo, noRoL, noRoM n3, o49, Bool.and_self]), (rd0 hx8), (rdL o49 hx8), (rdM o49 hx8), rfl, rfl, (Nat.le_of_ble_eq_true rfl), (setE (rdM o49 hx8)), rfl, (treeM t3), (setHH rfl), (setE (rdM o49 hx8)), rfl, (treeM t3), (setPe o49 (y := (GPct.mk r7.Ranks r7.Changes)) rfl), (by first | exact lnSet _ | exact lnSet2 _ | simp only [List.length_map, List.length_set, List.length_cons, List.length_nil]), (rok (treeM t49)), trivial⟩ (ih (a3.set (Int.toNat v4) (GPct.mk r7.Ranks r7.Changes)) (w64 (v4 + 1)) _ h)
    · have h := Option.some.inj h
      subst h
      exact go_ret hΘ hm hP hn (hs := [⟨2, .no, some (I (p1.length : Int))⟩, ⟨4, .br false, none⟩]) (rh := []) (ph := .own) (ps := [AV.lit (.int .i64 (((p1.map r70).length : Nat) : Int)) = (I (p1.length : Int)), (decide (v4 < (p1.length : Int))) = false, treeLL ((a3.map o49).take (List.length (a3.map o49))) = true, (a3.map o49).take (List.length (a3.map o49)) = (a3.map o49), noRoLL (a3.map o49) = true]) (by kernel_rfl) ⟨(lenM r70), c9, (treeT t49), takeM, (noRoM n49), trivial⟩
noncomputable def laws_toPctS (p1 : (List GPct)) : Option (List GPct) :=
  Option.bind (mk (GPct.mk [] []) (p1.length : Int)) fun l2 =>
  laws_toPctS_l0 p1 FU l2 0
theorem laws_toPctS_m {p1 : (List GPct)} {r : (List GPct)} (h : laws_toPctS p1 = some r) : Meets Tryz.prog 19 [(AV.ro 2 (p1.map r70))] (AV.own 49 2 (r.map o49)) := by
  refine meets_ofC Θ_ok Tryz.func19 rfl (c := body19) (by kernel_rfl) (Nat.le_of_ble_eq_true rfl) ?_
  intro E hP hn hx
  replace hn : E.n = 23 := hn
  have hm : E.P.follows .mixedOrders = true := by rw [hP]; exact mixed
  have hΘ : TOK E.P Θ := by rw [hP]; exact Θ_ok
  unfold laws_toPctS at h
  show WAt E body19 (FQ (RetE Θ Tryz.f19.results.toList [] [] (AV.own 49 2 (r.map o49)) E)) [] ⟨[(0, (AV.ro 2 (p1.map r70)))], [], [JJ]⟩
  obtain ⟨l2, hl2, h⟩ := bnS h
  exact go_to hΘ hm hx hP hn (hs := [⟨2, .no, some (I (p1.length : Int))⟩, ⟨3, .nw 1001 (List.replicate (Int.toNat (p1.length : Int)) [AV.lit (.slice none 0 0), AV.lit (.slice none 0 0)]), some (AV.sl 1001 0 (List.length (l2.map o49)))⟩, ⟨4, .own0 1001 (Int.toNat (p1.length : Int)) [] [AV.lit (.slice none 0 0)] 3 1 (List.replicate (Int.toNat (p1.length : Int)) [AV.own 3 1 [], AV.lit (.slice none 0 0)]), none⟩, ⟨4, .own0 1001 (Int.toNat (p1.length : Int)) [AV.own 3 1 []] [] 3 1 (l2.map o49), none⟩]) (π := [(1001, 1)]) (ts := [0, 3, 4]) (kp := []) (ps := [AV.lit (.int .i64 (((p1.map r70).length : Nat) : Int)) = (I (p1.length : Int)), List.replicate (Int.toNat (p1.length : Int)) [.lit (.slice none 0 0), .lit (.slice none 0 0)] = (List.replicate (Int.toNat (p1.length : Int)) [AV.lit (.slice none 0 0), AV.lit (.slice none 0 0)]), AV.sl 1001 0 (Int.toNat (p1.length : Int)) = (AV.sl 1001 0 (List.length (l2.map o49))), (p1.length : Int) = (p1.length : Int), (0 : Int) ≤ (p1.length : Int), (p1.length : Int) * ((48 : Nat) : Int) ≤ 140737488355328, (p1.length : Int) ≤ 140737488355328, (List.replicate (Int.toNat (p1.length : Int)) [AV.lit (.slice none 0 0), AV.lit (.slice none 0 0)]) = List.replicate (Int.toNat (p1.length : Int)) ([] ++ AV.lit (.slice none 0 0) :: [AV.lit (.slice none 0 0)]), List.replicate (Int.toNat (p1.length : Int)) ([] ++ AV.own 3 1 [] :: [AV.lit (.slice none 0 0)]) = (List.replicate (Int.toNat (p1.length : Int)) [AV.own 3 1 [], AV.lit (.slice none 0 0)]), (List.replicate (Int.toNat (p1.length : Int)) [AV.own 3 1 [], AV.lit (.slice none 0 0)]) = List.replicate (Int.toNat (p1.length : Int)) ([AV.own 3 1 []] ++ AV.lit (.slice none 0 0) :: []), List.replicate (Int.toNat (p1.length : Int)) ([AV.own 3 1 []] ++ AV.own 3 1 [] :: []) = (l2.map o49), RenOK [(1001, 1)] (l2.map o49)]) (by kernel_rfl) ⟨(lenM r70), rfl, (mkS o49 hl2), rfl, (mk0 hl2), (mkB hl2 (by decide)), (mkC hl2), rfl, rfl, rfl, (mkM o49 hl2), (rok (treeM t49)), trivial⟩ (laws_toPctS_l0_m hP hn hx p1 FU l2 0 _ h)
noncomputable def body82 : Code := match Tryz.f82.body with | some c => c | none => .skip
noncomputable def laws_toOp (p1 : GOp) : Option GOp :=
  some (GOp.mk p1.Code p1.A p1.B p1.V)
theorem laws_toOp_m {p1 : GOp} {r : GOp} (h : laws_toOp p1 = some r) : Meets Tryz.prog 82 [(AV.agg ((o118 p1)))] (AV.agg (o77 r)) := by
  refine meets_ofC Θ_ok Tryz.func82 rfl (c := body82) (by kernel_rfl) (Nat.le_of_ble_eq_true rfl) ?_
  intro E hP hn hx
  replace hn : E.n = 17 := hn
  have hm : E.P.follows .mixedOrders = true := by rw [hP]; exact mixed
  have hΘ : TOK E.P Θ := by rw [hP]; exact Θ_ok
  unfold laws_toOp at h
  show WAt E body82 (FQ (RetE Θ Tryz.f82.results.toList [] [] (AV.agg (o77 r)) E)) [] ⟨[(0, (AV.agg ((o118 p1))))], [], [JJ]⟩
  have h := Option.some.inj h
  subst h
  exact go_ret hΘ hm hP hn (hs := [⟨0, .new 1001, none⟩, ⟨1, .new 1002, none⟩, ⟨2, .new 1003, none⟩]) (rh := []) (ph := .raw) (ps := [(AV.agg [(I p1.Code), (I p1.A), (I p1.B), (FK p1.V)]) = (AV.agg [(I p1.Code), (I p1.A), (I p1.B), (FK p1.V)]), litA (AV.agg [(I p1.Code), (I p1.A), (I p1.B), (FK p1.V)]) = true]) (by kernel_rfl) ⟨rfl, rfl, trivial⟩
noncomputable def body68 : Code := match Tryz.f68.body with | some c => c | none => .skip
noncomputable def laws_toOpS_l0  (p1 : (List GOp)) : Nat → (List GOp) → Int → Option (List GOp)
  | 0, _, _ => none
  | n + 1, a3, v4 =>
  if (decide (v4 < (p1.length : Int))) = true then
    Option.bind (rd p1 v4) fun x6 =>
    Option.bind (laws_toOp x6) fun r7 =>
    Option.bind (rd a3 v4) fun x8 =>
    laws_toOpS_l0 p1 n (a3.set (Int.toNat v4) r7) (w64 (v4 + 1))
  else
    some a3
theorem laws_toOpS_l0_m {E : Env} (hP : E.P = Tryz.prog) (hn : E.n = 23) (hx : ∀ p, p ∈ E.fx → p.1 ∈ ([] : List Nat)) (p1 : (List GOp))  : ∀ (n : Nat) (a3 : (List GOp)) (v4 : Int) (r : (List GOp)), laws_toOpS_l0 p1 n a3 v4 = some r → WAt E body68 (FQ (RetE Θ Tryz.f68.results.toList [] [] (AV.own 77 4 (r.map o77)) E)) [true, true, false, true, false] ⟨[(0, (AV.ro 4 (p1.map o118))), (3, (AV.sl 1 0 (List.length (a3.map o77)))), (4, (I v4))], [(1, some ⟨77, 4, (a3.map o77)⟩)], [1, JJ]⟩ := by
  have hm : E.P.follows .mixedOrders = true := by rw [hP]; exact mixed
  have hΘ : TOK E.P Θ := by rw [hP]; exact Θ_ok
  intro n
  induction n with
  | zero => intro a3 v4 r h; simp only [laws_toOpS_l0] at h; cases h
  | succ n ih =>
    intro a3 v4 r h
    simp only [laws_toOpS_l0] at h
    rcases itS h with ⟨c5, h⟩ | ⟨c9, h⟩
    · obtain ⟨x6, hx6, h⟩ := bnS h
      obtain ⟨r7, hr7, h⟩ := bnS h
      obtain ⟨x8, hx8, h⟩ := bnS h
      exact go_to hΘ hm hx hP hn (hs := [⟨2, .no, some (I (p1.length : Int))⟩, ⟨4, .br true, none⟩, ⟨9, .row (o118 x6), none⟩, ⟨11, .callV [[]] (AV.agg (o77 r7)), none⟩, ⟨13, .sto ((o77 x8)) ((a3.set (Int.toNat v4) r7).map o77), none⟩, ⟨17, .slen 3 (List.length ((a3.set (Int.toNat v4) r7).map o77)), none⟩]) (π := [(1, 1)]) (ts := [0, 3, 4]) (kp := []) (ps := [AV.lit (.int .i64 (((p1.map o118).length : Nat) : Int)) = (I (p1.length : Int)), (decide (v4 < (p1.length : Int))) = true, (0 : Int) ≤ v4, (p1.map o118)[(Int.toNat v4)]? = some (o118 x6), Meets Tryz.prog 82 [(AV.agg ((o118 x6)))] (AV.agg (o77 r7)), litA (AV.agg (o77 r7)) = true, (0 : Int) ≤ v4, v4 < (((List.length (a3.map o77)) : Nat) : Int), (a3.map o77)[(Int.toNat v4)]? = some ((o77 x8)), (a3.map o77).set (Int.toNat v4) (wr ((o77 x8)) 0 ((o77 r7))) = ((a3.set (Int.toNat v4) r7).map o77), ((o77 r7)).length = 4, 0 + ((o77 r7)).length ≤ ((o77 x8)).length, (List.length (a3.map o77)) = (List.length ((a3.set (Int.toNat v4) r7).map o77)), RenOK [(1, 1)] ((a3.set (Int.toNat v4) r7).map o77)]) (by kernel_rfl) ⟨(lenM o118), c5, (rd0 hx6), (rdM o118 hx6), (laws_toOp_m hr7), rfl, (rd0 hx8), (rdL o77 hx8), (rdM o77 hx8), (setMr o77 (by kernel_rfl)), rfl, (Nat.le_of_ble_eq_true rfl), (by first | exact lnSet _ | exact lnSet2 _ | simp only [List.length_map, List.length_set, List.length_cons, List.length_nil]), (rok (treeM t77)), trivial⟩ (ih (a3.set (Int.toNat v4) r7) (w64 (v4 + 1)) _ h)
    · have h := Option.some.inj h
      subst h
      exact go_ret hΘ hm hP hn (hs := [⟨2, .no, some (I (p1.length : Int))⟩, ⟨4, .br false, none⟩]) (rh := []) (ph := .own) (ps := [AV.lit (.int .i64 (((p1.map o118).length : Nat) : Int)) = (I (p1.length : Int)), (decide (v4 < (p1.length : Int))) = false, treeLL ((a3.map o77).take (List.length (a3.map o77))) = true, (a3.map o77).take (List.length (a3.map o77)) = (a3.map o77), noRoLL (a3.map o77) = true]) (by kernel_rfl) ⟨(lenM o118), c9, (treeT t77), takeM, (noRoM n77), trivial⟩
noncomputable def laws_toOpS (p1 : (List GOp)) : Option (List GOp) :=
  Option.bind (mk (GOp.mk 0 0 0 0) (p1.length : Int)) fun l2 =>
  laws_toOpS_l0 p1 FU l2 0
theorem laws_toOpS_m {p1 : (List GOp)} {r : (List GOp)} (h : laws_toOpS p1 = some r) : Meets Tryz.prog 68 [(AV.ro 4 (p1.map o118))] (AV.own 77 4 (r.map o77)) := by
  refine meets_ofC Θ_ok Tryz.func68 rfl (c := body68) (by kernel_rfl) (Nat.le_of_ble_eq_true rfl) ?_
  intro E hP hn hx
  replace hn : E.n = 23 := hn
  have hm : E.P.follows .mixedOrders = true := by rw [hP]; exact mixed
  have hΘ : TOK E.P Θ := by rw [hP]; exact Θ_ok
  unfold laws_toOpS at h
  show WAt E body68 (FQ (RetE Θ Tryz.f68.results.toList [] [] (AV.own 77 4 (r.map o77)) E)) [] ⟨[(0, (AV.ro 4 (p1.map o118)))], [], [JJ]⟩
  obtain ⟨l2, hl2, h⟩ := bnS h
  exact go_to hΘ hm hx hP hn (hs := [⟨2, .no, some (I (p1.length : Int))⟩, ⟨3, .nw 1001 (l2.map o77), some (AV.sl 1001 0 (List.length (l2.map o77)))⟩]) (π := [(1001, 1)]) (ts := [0, 3, 4]) (kp := []) (ps := [AV.lit (.int .i64 (((p1.map o118).length : Nat) : Int)) = (I (p1.length : Int)), List.replicate (Int.toNat (p1.length : Int)) [.lit (.int .i64 0), .lit (.int .i64 0), .lit (.int .i64 0), .lit (.float .f64 0)] = (l2.map o77), AV.sl 1001 0 (Int.toNat (p1.length : Int)) = (AV.sl 1001 0 (List.length (l2.map o77))), (p1.length : Int) = (p1.length : Int), (0 : Int) ≤ (p1.length : Int), (p1.length : Int) * ((32 : Nat) : Int) ≤ 140737488355328, (p1.length : Int) ≤ 140737488355328, RenOK [(1001, 1)] (l2.map o77)]) (by kernel_rfl) ⟨(lenM o118), (mkM o77 hl2), (mkS o77 hl2), rfl, (mk0 hl2), (mkB hl2 (by decide)), (mkC hl2), (rok (treeM t77)), trivial⟩ (laws_toOpS_l0_m hP hn hx p1 FU l2 0 _ h)
noncomputable def body44 : Code := match Tryz.f44.body with | some c => c | none => .skip
noncomputable def laws_toOpSS_l0  (p1 : (List (List GOp))) : Nat → (List (List GOp)) → Int → Option (List (List GOp))
  | 0, _, _ => none
  | n + 1, a3, v4 =>
  if (decide (v4 < (p1.length : Int))) = true then
    Option.bind (rd p1 v4) fun x6 =>
    Option.bind (laws_toOpS x6) fun r7 =>
    Option.bind (rd a3 v4) fun x8 =>
    laws_toOpSS_l0 p1 n (a3.set (Int.toNat v4) r7) (w64 (v4 + 1))
  else
    some a3
theorem laws_toOpSS_l0_m {E : Env} (hP : E.P = Tryz.prog) (hn : E.n = 23) (hx : ∀ p, p ∈ E.fx → p.1 ∈ ([] : List Nat)) (p1 : (List (List GOp)))  : ∀ (n : Nat) (a3 : (List (List GOp))) (v4 : Int) (r : (List (List GOp))), laws_toOpSS_l0 p1 n a3 v4 = some r → WAt E body44 (FQ (RetE Θ Tryz.f44.results.toList [] [] (AV.own 74 1 (r.map o74)) E)) [true, true, false, true, false] ⟨[(0, (AV.ro 1 (p1.map r104))), (3, (AV.sl 1 0 (List.length (a3.map o74)))), (4, (I v4))], [(1, some ⟨74, 1, (a3.map o74)⟩)], [1, JJ]⟩ := by
  have hm : E.P.follows .mixedOrders = true := by rw [hP]; exact mixed
  have hΘ : TOK E.P Θ := by rw [hP]; exact Θ_ok
  intro n
  induction n with
  | zero => intro a3 v4 r h; simp only [laws_toOpSS_l0] at h; cases h
  | succ n ih =>
    intro a3 v4 r h
    simp only [laws_toOpSS_l0] at h
    rcases itS h with ⟨c5, h⟩ | ⟨c9, h⟩
    · obtain ⟨x6, hx6, h⟩ := bnS h
      obtain ⟨r7, hr7, h⟩ := bnS h
      obtain ⟨x8, hx8, h⟩ := bnS h
      exact go_to hΘ hm hx hP hn (hs := [⟨2, .no, some (I (p1.length : Int))⟩, ⟨4, .br true, none⟩, ⟨9, .row (r104 x6), none⟩, ⟨11, .call [] (AV.own 77 4 (r7.map o77)) [1001], none⟩, ⟨13, .sto [(AV.own 77 4 (x8.map o77))] ((a3.map o74).set (Int.toNat v4) [(AV.sl 1001 0 (List.length (r7.map o77)))]), none⟩, ⟨14, .pack 1 1001 (Int.toNat v4) 0 [(AV.sl 1001 0 (List.length (r7.map o77)))] ((a3.set (Int.toNat v4) r7).map o74), none⟩, ⟨17, .slen 3 (List.length ((a3.set (Int.toNat v4) r7).map o74)), none⟩]) (π := [(1, 1)]) (ts := [0, 3, 4]) (kp := []) (ps := [AV.lit (.int .i64 (((p1.map r104).length : Nat) : Int)) = (I (p1.length : Int)), (decide (v4 < (p1.length : Int))) = true, (0 : Int) ≤ v4, (p1.map r104)[(Int.toNat v4)]? = some (r104 x6), Meets Tryz.prog 68 [(AV.ro 4 (x6.map o118))] (AV.own 77 4 (r7.map o77)), noRo (AV.own 77 4 (r7.map o77)) = true, (0 : Int) ≤ v4, v4 < (((List.length (a3.map o74)) : Nat) : Int), (a3.map o74)[(Int.toNat v4)]? = some [(AV.own 77 4 (x8.map o77))], (a3.map o74).set (Int.toNat v4) (wr [(AV.own 77 4 (x8.map o77))] 0 [(AV.sl 1001 0 (List.length (r7.map o77)))]) = ((a3.map o74).set (Int.toNat v4) [(AV.sl 1001 0 (List.length (r7.map o77)))]), [(AV.sl 1001 0 (List.length (r7.map o77)))].length = 1, 0 + [(AV.sl 1001 0 (List.length (r7.map o77)))].length ≤ [(AV.own 77 4 (x8.map o77))].length, ((a3.map o74).set (Int.toNat v4) [(AV.sl 1001 0 (List.length (r7.map o77)))])[(Int.toNat v4)]? = some [(AV.sl 1001 0 (List.length (r7.map o77)))], [(AV.sl 1001 0 (List.length (r7.map o77)))][0]? = some (AV.sl 1001 0 (List.length (r7.map o77))), treeLL (r7.map o77) = true, ((a3.map o74).set (Int.toNat v4) [(AV.sl 1001 0 (List.length (r7.map o77)))]).set (Int.toNat v4) ([(AV.sl 1001 0 (List.length (r7.map o77)))].set 0 (AV.own 77 4 (r7.map o77))) = ((a3.set (Int.toNat v4) r7).map o74), (List.length (a3.map o74)) = (List.length ((a3.set (Int.toNat v4) r7).map o74)), RenOK [(1, 1)] ((a3.set (Int.toNat v4) r7).map o74)]) (by kernel_rfl) ⟨(lenM r104), c5, (rd0 hx6), (rdM r104 hx6), (laws_toOpS_m hr7), (by simp only [noRo, noRoL, noRoM n77, Bool.and_self]), (rd0 hx8), (rdL o74 hx8), (rdM o74 hx8), rfl, rfl, (Nat.le_of_ble_eq_true rfl), (setE (rdM o74 hx8)), rfl, (treeM t77), (setP o74), (by first | exact lnSet _ | exact lnSet2 _ | simp only [List.length_map, List.length_set, List.length_cons, List.length_nil]), (rok (treeM t74)), trivial⟩ (ih (a3.set (Int.toNat v4) r7) (w64 (v4 + 1)) _ h)
    · have h := Option.some.inj h
      subst h
      exact go_ret hΘ hm hP hn (hs := [⟨2, .no, some (I (p1.length : Int))⟩, ⟨4, .br false, none⟩]) (rh := []) (ph := .own) (ps := [AV.lit (.int .i64 (((p1.map r104).length : Nat) : Int)) = (I (p1.length : Int)), (decide (v4 < (p1.length : Int))) = false, treeLL ((a3.map o74).take (List.length (a3.map o74))) = true, (a3.map o74).take (List.length (a3.map o74)) = (a3.map o74), noRoLL (a3.map o74) = true]) (by kernel_rfl) ⟨(lenM r104), c9, (treeT t74), takeM, (noRoM n74), trivial⟩
noncomputable def laws_toOpSS (p1 : (List (List GOp))) : Option (List (List GOp)) :=
  Option.bind (mk [] (p1.length : Int)) fun l2 =>
  laws_toOpSS_l0 p1 FU l2 0
theorem laws_toOpSS_m {p1 : (List (List GOp))} {r : (List (List GOp))} (h : laws_toOpSS p1 = some r) : Meets Tryz.prog 44 [(AV.ro 1 (p1.map r104))] (AV.own 74 1 (r.map o74)) := by
  refine meets_ofC Θ_ok Tryz.func44 rfl (c := body44) (by kernel_rfl) (Nat.le_of_ble_eq_true rfl) ?_
  intro E hP hn hx
  replace hn : E.n = 23 := hn
  have hm : E.P.follows .mixedOrders = true := by rw [hP]; exact mixed
  have hΘ : TOK E.P Θ := by rw [hP]; exact Θ_ok
  unfold laws_toOpSS at h
  show WAt E body44 (FQ (RetE Θ Tryz.f44.results.toList [] [] (AV.own 74 1 (r.map o74)) E)) [] ⟨[(0, (AV.ro 1 (p1.map r104)))], [], [JJ]⟩
  obtain ⟨l2, hl2, h⟩ := bnS h
  exact go_to hΘ hm hx hP hn (hs := [⟨2, .no, some (I (p1.length : Int))⟩, ⟨3, .nw 1001 (List.replicate (Int.toNat (p1.length : Int)) [AV.lit (.slice none 0 0)]), some (AV.sl 1001 0 (List.length (l2.map o74)))⟩, ⟨4, .own0 1001 (Int.toNat (p1.length : Int)) [] [] 77 4 (l2.map o74), none⟩]) (π := [(1001, 1)]) (ts := [0, 3, 4]) (kp := []) (ps := [AV.lit (.int .i64 (((p1.map r104).length : Nat) : Int)) = (I (p1.length : Int)), List.replicate (Int.toNat (p1.length : Int)) [.lit (.slice none 0 0)] = (List.replicate (Int.toNat (p1.length : Int)) [AV.lit (.slice none 0 0)]), AV.sl 1001 0 (Int.toNat (p1.length : Int)) = (AV.sl 1001 0 (List.length (l2.map o74))), (p1.length : Int) = (p1.length : Int), (0 : Int) ≤ (p1.length : Int), (p1.length : Int) * ((24 : Nat) : Int) ≤ 140737488355328, (p1.length : Int) ≤ 140737488355328, (List.replicate (Int.toNat (p1.length : Int)) [AV.lit (.slice none 0 0)]) = List.replicate (Int.toNat (p1.length : Int)) ([] ++ AV.lit (.slice none 0 0) :: []), List.replicate (Int.toNat (p1.length : Int)) ([] ++ AV.own 77 4 [] :: []) = (l2.map o74), RenOK [(1001, 1)] (l2.map o74)]) (by kernel_rfl) ⟨(lenM r104), rfl, (mkS o74 hl2), rfl, (mk0 hl2), (mkB hl2 (by decide)), (mkC hl2), rfl, (mkM o74 hl2), (rok (treeM t74)), trivial⟩ (laws_toOpSS_l0_m hP hn hx p1 FU l2 0 _ h)
noncomputable def body18 : Code := match Tryz.f18.body with | some c => c | none => .skip
noncomputable def laws_toProg (p1 : GProg) : Option GProg :=
  Option.bind (laws_toOpSS p1.Routines) fun r2 =>
  some (GProg.mk p1.Cells p1.Locks p1.Conds r2)
theorem laws_toProg_m {p1 : GProg} {r : GProg} (h : laws_toProg p1 = some r) : Meets Tryz.prog 18 [(AV.agg ((r24 p1)))] (AV.agg (o34 r)) := by
  refine meets_ofC Θ_ok Tryz.func18 rfl (c := body18) (by kernel_rfl) (Nat.le_of_ble_eq_true rfl) ?_
  intro E hP hn hx
  replace hn : E.n = 18 := hn
  have hm : E.P.follows .mixedOrders = true := by rw [hP]; exact mixed
  have hΘ : TOK E.P Θ := by rw [hP]; exact Θ_ok
  unfold laws_toProg at h
  show WAt E body18 (FQ (RetE Θ Tryz.f18.results.toList [] [] (AV.agg (o34 r)) E)) [] ⟨[(0, (AV.agg ((r24 p1))))], [], [JJ]⟩
  obtain ⟨r2, hr2, h⟩ := bnS h
  have h := Option.some.inj h
  subst h
  exact go_ret hΘ hm hP hn (hs := [⟨0, .new 1001, none⟩, ⟨1, .new 1002, none⟩, ⟨2, .new 1003, none⟩, ⟨17, .call [] (AV.own 74 1 (r2.map o74)) [1004], none⟩]) (rh := []) (ph := .agg [.raw, .raw, .raw, .own]) (ps := [Meets Tryz.prog 44 [(AV.ro 1 (p1.Routines.map r104))] (AV.own 74 1 (r2.map o74)), noRo (AV.own 74 1 (r2.map o74)) = true, (I p1.Cells) = (I p1.Cells), litA (I p1.Cells) = true, (I p1.Locks) = (I p1.Locks), litA (I p1.Locks) = true, (I p1.Conds) = (I p1.Conds), litA (I p1.Conds) = true, treeLL ((r2.map o74).take (List.length (r2.map o74))) = true, (r2.map o74).take (List.length (r2.map o74)) = (r2.map o74), noRoLL (r2.map o74) = true]) (by kernel_rfl) ⟨(laws_toOpSS_m hr2), (by simp only [noRo, noRoL, noRoM n74, Bool.and_self]), rfl, rfl, rfl, rfl, rfl, rfl, (treeT t74), takeM, (noRoM n74), trivial⟩
noncomputable def body6 : Code := match Tryz.f6.body with | some c => c | none => .skip
noncomputable def laws_toHunt (p1 : GHunt) : Option GHunt :=
  Option.bind (laws_toProg p1.Prog) fun r2 =>
  Option.bind (laws_toPctS p1.Kept) fun r3 =>
  Option.bind (laws_toPairS p1.Covered) fun r4 =>
  Option.bind (laws_toFoundS p1.Finds) fun r5 =>
  some (GHunt.mk (GProg.mk r2.Cells r2.Locks r2.Conds r2.Routines) r3 r4 r5 p1.Tried)
theorem laws_toHunt_m {p1 : GHunt} {r : GHunt} (h : laws_toHunt p1 = some r) : Meets Tryz.prog 6 [(AV.agg ((r29 p1)))] (AV.agg (o39 r)) := by
  refine meets_ofC Θ_ok Tryz.func6 rfl (c := body6) (by kernel_rfl) (Nat.le_of_ble_eq_true rfl) ?_
  intro E hP hn hx
  replace hn : E.n = 24 := hn
  have hm : E.P.follows .mixedOrders = true := by rw [hP]; exact mixed
  have hΘ : TOK E.P Θ := by rw [hP]; exact Θ_ok
  unfold laws_toHunt at h
  show WAt E body6 (FQ (RetE Θ Tryz.f6.results.toList [] [] (AV.agg (o39 r)) E)) [] ⟨[(0, (AV.agg ((r29 p1))))], [], [JJ]⟩
  obtain ⟨r2, hr2, h⟩ := bnS h
  obtain ⟨r3, hr3, h⟩ := bnS h
  obtain ⟨r4, hr4, h⟩ := bnS h
  obtain ⟨r5, hr5, h⟩ := bnS h
  have h := Option.some.inj h
  subst h
  exact go_ret hΘ hm hP hn (hs := [⟨0, .new 1001, none⟩, ⟨1, .new 1002, none⟩, ⟨2, .new 1003, none⟩, ⟨5, .call [[]] (AV.agg (o34 r2)) [1004], none⟩, ⟨10, .call [] (AV.own 49 2 (r3.map o49)) [1005], none⟩, ⟨15, .call [] (AV.own 80 3 (r4.map o80)) [1006], none⟩, ⟨20, .call [] (AV.own 61 2 (r5.map o61)) [1007], none⟩]) (rh := []) (ph := .agg [.raw, .raw, .raw, .own, .own, .own, .own, .raw]) (ps := [Meets Tryz.prog 18 [(AV.agg ((r24 p1.Prog)))] (AV.agg (o34 r2)), noRo (AV.agg (o34 r2)) = true, Meets Tryz.prog 19 [(AV.ro 2 (p1.Kept.map r70))] (AV.own 49 2 (r3.map o49)), noRo (AV.own 49 2 (r3.map o49)) = true, Meets Tryz.prog 20 [(AV.ro 3 (p1.Covered.map o87))] (AV.own 80 3 (r4.map o80)), noRo (AV.own 80 3 (r4.map o80)) = true, Meets Tryz.prog 21 [(AV.ro 2 (p1.Finds.map r72))] (AV.own 61 2 (r5.map o61)), noRo (AV.own 61 2 (r5.map o61)) = true, (I r2.Cells) = (I r2.Cells), litA (I r2.Cells) = true, (I r2.Locks) = (I r2.Locks), litA (I r2.Locks) = true, (I r2.Conds) = (I r2.Conds), litA (I r2.Conds) = true, treeLL ((r2.Routines.map o74).take (List.length (r2.Routines.map o74))) = true, (r2.Routines.map o74).take (List.length (r2.Routines.map o74)) = (r2.Routines.map o74), noRoLL (r2.Routines.map o74) = true, treeLL ((r3.map o49).take (List.length (r3.map o49))) = true, (r3.map o49).take (List.length (r3.map o49)) = (r3.map o49), noRoLL (r3.map o49) = true, treeLL ((r4.map o80).take (List.length (r4.map o80))) = true, (r4.map o80).take (List.length (r4.map o80)) = (r4.map o80), noRoLL (r4.map o80) = true, treeLL ((r5.map o61).take (List.length (r5.map o61))) = true, (r5.map o61).take (List.length (r5.map o61)) = (r5.map o61), noRoLL (r5.map o61) = true, (I p1.Tried) = (I p1.Tried), litA (I p1.Tried) = true]) (by kernel_rfl) ⟨(laws_toProg_m hr2), (by simp only [noRo, noRoL, noRoM n74, o34, Bool.and_self]), (laws_toPctS_m hr3), (by simp only [noRo, noRoL, noRoM n49, Bool.and_self]), (laws_toPairS_m hr4), (by simp only [noRo, noRoL, noRoM n80, Bool.and_self]), (laws_toFoundS_m hr5), (by simp only [noRo, noRoL, noRoM n61, Bool.and_self]), rfl, rfl, rfl, rfl, rfl, rfl, (treeT t74), takeM, (noRoM n74), (treeT t49), takeM, (noRoM n49), (treeT t80), takeM, (noRoM n80), (treeT t61), takeM, (noRoM n61), rfl, rfl, trivial⟩
noncomputable def body17 : Code := match Tryz.f17.body with | some c => c | none => .skip
noncomputable def spec_l1In (p1 : Int) (p2 : Int) (p3 : Int) : Option Bool :=
  if (decide (p1 ≥ p2)) = true then
    some (decide (p1 ≤ p3))
  else
    some false
theorem spec_l1In_m {p1 : Int} {p2 : Int} {p3 : Int} {r : Bool} (h : spec_l1In p1 p2 p3 = some r) : Meets Tryz.prog 17 [(I p1), (I p2), (I p3)] (B r) := by
  refine meets_ofC Θ_ok Tryz.func17 rfl (c := body17) (by kernel_rfl) (Nat.le_of_ble_eq_true rfl) ?_
  intro E hP hn hx
  replace hn : E.n = 15 := hn
  have hm : E.P.follows .mixedOrders = true := by rw [hP]; exact mixed
  have hΘ : TOK E.P Θ := by rw [hP]; exact Θ_ok
  unfold spec_l1In at h
  show WAt E body17 (FQ (RetE Θ Tryz.f17.results.toList [] [] (B r) E)) [] ⟨[(0, (I p1)), (1, (I p2)), (2, (I p3))], [], [JJ]⟩
  rcases itS h with ⟨c4, h⟩ | ⟨c5, h⟩
  · have h := Option.some.inj h
    subst h
    exact go_ret hΘ hm hP hn (hs := [⟨4, .no, some (B true)⟩]) (rh := []) (ph := .raw) (ps := [(B (decide (p1 ≥ p2))) = (B true), (B (decide (p1 ≤ p3))) = (B (decide (p1 ≤ p3))), litA (B (decide (p1 ≤ p3))) = true]) (by kernel_rfl) ⟨(litB c4), rfl, rfl, trivial⟩
  · have h := Option.some.inj h
    subst h
    exact go_ret hΘ hm hP hn (hs := [⟨4, .no, some (B false)⟩]) (rh := []) (ph := .raw) (ps := [(B (decide (p1 ≥ p2))) = (B false), (B false) = (B false), litA (B false) = true]) (by kernel_rfl) ⟨(litB c5), rfl, rfl, trivial⟩
noncomputable def body37 : Code := match Tryz.f37.body with | some c => c | none => .skip
noncomputable def spec_l1All_l0  (p1 : (List Int)) (p2 : Int) (p3 : Int) : Nat → Int → Option Bool
  | 0, _ => none
  | n + 1, v4 =>
  if (decide (v4 < (p1.length : Int))) = true then
    Option.bind (rd p1 v4) fun x6 =>
    Option.bind (spec_l1In x6 p2 p3) fun r7 =>
    if (!r7) = true then
      some false
    else
      spec_l1All_l0 p1 p2 p3 n (w64 (v4 + 1))
  else
    some true
theorem spec_l1All_l0_m {E : Env} (hP : E.P = Tryz.prog) (hn : E.n = 21) (hx : ∀ p, p ∈ E.fx → p.1 ∈ ([] : List Nat)) (p1 : (List Int)) (p2 : Int) (p3 : Int)  : ∀ (n : Nat) (v4 : Int) (r : Bool), spec_l1All_l0 p1 p2 p3 n v4 = some r → WAt E body37 (FQ (RetE Θ Tryz.f37.results.toList [] [] (B r) E)) [true, false, true, false] ⟨[(1, (I p2)), (2, (I p3)), (9, (AV.ro 1 (p1.map o3))), (10, (I (p1.length : Int))), (11, (I v4))], [], [JJ]⟩ := by
  have hm : E.P.follows .mixedOrders = true := by rw [hP]; exact mixed
  have hΘ : TOK E.P Θ := by rw [hP]; exact Θ_ok
  intro n
  induction n with
  | zero => intro v4 r h; simp only [spec_l1All_l0] at h; cases h
  | succ n ih =>
    intro v4 r h
    simp only [spec_l1All_l0] at h
    rcases itS h with ⟨c5, h⟩ | ⟨c10, h⟩
    · obtain ⟨x6, hx6, h⟩ := bnS h
      obtain ⟨r7, hr7, h⟩ := bnS h
      rcases itS h with ⟨c8, h⟩ | ⟨c9, h⟩
      · have h := Option.some.inj h
        subst h
        exact go_ret hΘ hm hP hn (hs := [⟨1, .br true, none⟩, ⟨2, .row (o3 x6), none⟩, ⟨8, .callV [] (B r7), none⟩, ⟨10, .br true, none⟩]) (rh := []) (ph := .raw) (ps := [(decide (v4 < (p1.length : Int))) = true, (0 : Int) ≤ v4, (p1.map o3)[(Int.toNat v4)]? = some (o3 x6), Meets Tryz.prog 17 [(I x6), (I p2), (I p3)] (B r7), litA (B r7) = true, (!r7) = true, (B false) = (B false), litA (B false) = true]) (by kernel_rfl) ⟨c5, (rd0 hx6), (rdM o3 hx6), (spec_l1In_m hr7), rfl, c8, rfl, rfl, trivial⟩
      · exact go_to hΘ hm hx hP hn (hs := [⟨1, .br true, none⟩, ⟨2, .row (o3 x6), none⟩, ⟨8, .callV [] (B r7), none⟩, ⟨10, .br false, none⟩]) (π := []) (ts := [1, 2, 9, 10, 11]) (kp := []) (ps := [(decide (v4 < (p1.length : Int))) = true, (0 : Int) ≤ v4, (p1.map o3)[(Int.toNat v4)]? = some (o3 x6), Meets Tryz.prog 17 [(I x6), (I p2), (I p3)] (B r7), litA (B r7) = true, (!r7) = false]) (by kernel_rfl) ⟨c5, (rd0 hx6), (rdM o3 hx6), (spec_l1In_m hr7), rfl, c9, trivial⟩ (ih (w64 (v4 + 1)) _ h)
    · have h := Option.some.inj h
      subst h
      exact go_ret hΘ hm hP hn (hs := [⟨1, .br false, none⟩]) (rh := []) (ph := .raw) (ps := [(decide (v4 < (p1.length : Int))) = false, (B true) = (B true), litA (B true) = true]) (by kernel_rfl) ⟨c10, rfl, rfl, trivial⟩
noncomputable def spec_l1All (p1 : (List Int)) (p2 : Int) (p3 : Int) : Option Bool :=
  spec_l1All_l0 p1 p2 p3 FU 0
theorem spec_l1All_m {p1 : (List Int)} {p2 : Int} {p3 : Int} {r : Bool} (h : spec_l1All p1 p2 p3 = some r) : Meets Tryz.prog 37 [(AV.ro 1 (p1.map o3)), (I p2), (I p3)] (B r) := by
  refine meets_ofC Θ_ok Tryz.func37 rfl (c := body37) (by kernel_rfl) (Nat.le_of_ble_eq_true rfl) ?_
  intro E hP hn hx
  replace hn : E.n = 21 := hn
  have hm : E.P.follows .mixedOrders = true := by rw [hP]; exact mixed
  have hΘ : TOK E.P Θ := by rw [hP]; exact Θ_ok
  unfold spec_l1All at h
  show WAt E body37 (FQ (RetE Θ Tryz.f37.results.toList [] [] (B r) E)) [] ⟨[(0, (AV.ro 1 (p1.map o3))), (1, (I p2)), (2, (I p3))], [], [JJ]⟩
  exact go_to hΘ hm hx hP hn (hs := [⟨2, .no, some (I (p1.length : Int))⟩]) (π := []) (ts := [1, 2, 9, 10, 11]) (kp := []) (ps := [AV.lit (.int .i64 (((p1.map o3).length : Nat) : Int)) = (I (p1.length : Int))]) (by kernel_rfl) ⟨(lenM o3), trivial⟩ (spec_l1All_l0_m hP hn hx p1 p2 p3 FU 0 _ h)
noncomputable def body38 : Code := match Tryz.f38.body with | some c => c | none => .skip
noncomputable def spec_l1Has_l0  (p1 : (List Int)) (p2 : Int) : Nat → Int → Option Bool
  | 0, _ => none
  | n + 1, v3 =>
  if (decide (v3 < (p1.length : Int))) = true then
    Option.bind (rd p1 v3) fun x5 =>
    if (x5 == p2) = true then
      some true
    else
      spec_l1Has_l0 p1 p2 n (w64 (v3 + 1))
  else
    some false
theorem spec_l1Has_l0_m {E : Env} (hP : E.P = Tryz.prog) (hn : E.n = 17) (hx : ∀ p, p ∈ E.fx → p.1 ∈ ([] : List Nat)) (p1 : (List Int)) (p2 : Int)  : ∀ (n : Nat) (v3 : Int) (r : Bool), spec_l1Has_l0 p1 p2 n v3 = some r → WAt E body38 (FQ (RetE Θ Tryz.f38.results.toList [] [] (B r) E)) [true, false, true, false] ⟨[(1, (I p2)), (7, (AV.ro 1 (p1.map o3))), (8, (I (p1.length : Int))), (9, (I v3))], [], [JJ]⟩ := by
  have hm : E.P.follows .mixedOrders = true := by rw [hP]; exact mixed
  have hΘ : TOK E.P Θ := by rw [hP]; exact Θ_ok
  intro n
  induction n with
  | zero => intro v3 r h; simp only [spec_l1Has_l0] at h; cases h
  | succ n ih =>
    intro v3 r h
    simp only [spec_l1Has_l0] at h
    rcases itS h with ⟨c4, h⟩ | ⟨c8, h⟩
    · obtain ⟨x5, hx5, h⟩ := bnS h
      rcases itS h with ⟨c6, h⟩ | ⟨c7, h⟩
      · have h := Option.some.inj h
        subst h
        exact go_ret hΘ hm hP hn (hs := [⟨1, .br true, none⟩, ⟨2, .row (o3 x5), none⟩, ⟨8, .br true, none⟩]) (rh := []) (ph := .raw) (ps := [(decide (v3 < (p1.length : Int))) = true, (0 : Int) ≤ v3, (p1.map o3)[(Int.toNat v3)]? = some (o3 x5), (x5 == p2) = true, (B true) = (B true), litA (B true) = true]) (by kernel_rfl) ⟨c4, (rd0 hx5), (rdM o3 hx5), c6, rfl, rfl, trivial⟩
      · exact go_to hΘ hm hx hP hn (hs := [⟨1, .br true, none⟩, ⟨2, .row (o3 x5), none⟩, ⟨8, .br false, none⟩]) (π := []) (ts := [1, 7, 8, 9]) (kp := []) (ps := [(decide (v3 < (p1.length : Int))) = true, (0 : Int) ≤ v3, (p1.map o3)[(Int.toNat v3)]? = some (o3 x5), (x5 == p2) = false]) (by kernel_rfl) ⟨c4, (rd0 hx5), (rdM o3 hx5), c7, trivial⟩ (ih (w64 (v3 + 1)) _ h)
    · have h := Option.some.inj h
      subst h
      exact go_ret hΘ hm hP hn (hs := [⟨1, .br false, none⟩]) (rh := []) (ph := .raw) (ps := [(decide (v3 < (p1.length : Int))) = false, (B false) = (B false), litA (B false) = true]) (by kernel_rfl) ⟨c8, rfl, rfl, trivial⟩
noncomputable def spec_l1Has (p1 : (List Int)) (p2 : Int) : Option Bool :=
  spec_l1Has_l0 p1 p2 FU 0
theorem spec_l1Has_m {p1 : (List Int)} {p2 : Int} {r : Bool} (h : spec_l1Has p1 p2 = some r) : Meets Tryz.prog 38 [(AV.ro 1 (p1.map o3)), (I p2)] (B r) := by
  refine meets_ofC Θ_ok Tryz.func38 rfl (c := body38) (by kernel_rfl) (Nat.le_of_ble_eq_true rfl) ?_
  intro E hP hn hx
  replace hn : E.n = 17 := hn
  have hm : E.P.follows .mixedOrders = true := by rw [hP]; exact mixed
  have hΘ : TOK E.P Θ := by rw [hP]; exact Θ_ok
  unfold spec_l1Has at h
  show WAt E body38 (FQ (RetE Θ Tryz.f38.results.toList [] [] (B r) E)) [] ⟨[(0, (AV.ro 1 (p1.map o3))), (1, (I p2))], [], [JJ]⟩
  exact go_to hΘ hm hx hP hn (hs := [⟨2, .no, some (I (p1.length : Int))⟩]) (π := []) (ts := [1, 7, 8, 9]) (kp := []) (ps := [AV.lit (.int .i64 (((p1.map o3).length : Nat) : Int)) = (I (p1.length : Int))]) (by kernel_rfl) ⟨(lenM o3), trivial⟩ (spec_l1Has_l0_m hP hn hx p1 p2 FU 0 _ h)
noncomputable def body39 : Code := match Tryz.f39.body with | some c => c | none => .skip
noncomputable def spec_l1Rising_l0  (p1 : (List Int)) (p2 : Int) (p3 : Int) : Nat → Int → Option Bool
  | 0, _ => none
  | n + 1, v4 =>
  if (decide (v4 < (p1.length : Int))) = true then
    Option.bind (rd p1 v4) fun x6 =>
    Option.bind (spec_l1In x6 p2 p3) fun r7 =>
    if (!r7) = true then
      some false
    else
      if (decide (v4 > 0)) = true then
        Option.bind (rd p1 (w64 (v4 - 1))) fun x11 =>
        if (decide (x11 ≥ x6)) = true then
          some false
        else
          spec_l1Rising_l0 p1 p2 p3 n (w64 (v4 + 1))
      else
        spec_l1Rising_l0 p1 p2 p3 n (w64 (v4 + 1))
  else
    some true
theorem spec_l1Rising_l0_m {E : Env} (hP : E.P = Tryz.prog) (hn : E.n = 35) (hx : ∀ p, p ∈ E.fx → p.1 ∈ ([] : List Nat)) (p1 : (List Int)) (p2 : Int) (p3 : Int)  : ∀ (n : Nat) (v4 : Int) (r : Bool), spec_l1Rising_l0 p1 p2 p3 n v4 = some r → WAt E body39 (FQ (RetE Θ Tryz.f39.results.toList [] [] (B r) E)) [true, false, true, false] ⟨[(0, (AV.ro 1 (p1.map o3))), (1, (I p2)), (2, (I p3)), (9, (AV.ro 1 (p1.map o3))), (10, (I (p1.length : Int))), (11, (I v4))], [], [JJ]⟩ := by
  have hm : E.P.follows .mixedOrders = true := by rw [hP]; exact mixed
  have hΘ : TOK E.P Θ := by rw [hP]; exact Θ_ok
  intro n
  induction n with
  | zero => intro v4 r h; simp only [spec_l1Rising_l0] at h; cases h
  | succ n ih =>
    intro v4 r h
    simp only [spec_l1Rising_l0] at h
    rcases itS h with ⟨c5, h⟩ | ⟨c15, h⟩
    · obtain ⟨x6, hx6, h⟩ := bnS h
      obtain ⟨r7, hr7, h⟩ := bnS h
      rcases itS h with ⟨c8, h⟩ | ⟨c9, h⟩
      · have h := Option.some.inj h
        subst h
        exact go_ret hΘ hm hP hn (hs := [⟨1, .br true, none⟩, ⟨3, .row (o3 x6), none⟩, ⟨10, .callV [] (B r7), none⟩, ⟨12, .no, some (B true)⟩]) (rh := []) (ph := .raw) (ps := [(decide (v4 < (p1.length : Int))) = true, (0 : Int) ≤ v4, (p1.map o3)[(Int.toNat v4)]? = some (o3 x6), Meets Tryz.prog 17 [(I x6), (I p2), (I p3)] (B r7), litA (B r7) = true, (B (!r7)) = (B true), (B false) = (B false), litA (B false) = true]) (by kernel_rfl) ⟨c5, (rd0 hx6), (rdM o3 hx6), (spec_l1In_m hr7), rfl, (litB c8), rfl, rfl, trivial⟩
      · rcases itS h with ⟨c10, h⟩ | ⟨c14, h⟩
        · obtain ⟨x11, hx11, h⟩ := bnS h
          rcases itS h with ⟨c12, h⟩ | ⟨c13, h⟩
          · have h := Option.some.inj h
            subst h
            exact go_ret hΘ hm hP hn (hs := [⟨1, .br true, none⟩, ⟨3, .row (o3 x6), none⟩, ⟨10, .callV [] (B r7), none⟩, ⟨12, .no, some (B false)⟩, ⟨15, .no, some (B true)⟩, ⟨19, .row (o3 x11), none⟩, ⟨25, .br true, none⟩]) (rh := []) (ph := .raw) (ps := [(decide (v4 < (p1.length : Int))) = true, (0 : Int) ≤ v4, (p1.map o3)[(Int.toNat v4)]? = some (o3 x6), Meets Tryz.prog 17 [(I x6), (I p2), (I p3)] (B r7), litA (B r7) = true, (B (!r7)) = (B false), (B (decide (v4 > 0))) = (B true), (0 : Int) ≤ (w64 (v4 - 1)), (p1.map o3)[(Int.toNat (w64 (v4 - 1)))]? = some (o3 x11), (decide (x11 ≥ x6)) = true, (B false) = (B false), litA (B false) = true]) (by kernel_rfl) ⟨c5, (rd0 hx6), (rdM o3 hx6), (spec_l1In_m hr7), rfl, (litB c9), (litB c10), (rd0 hx11), (rdM o3 hx11), c12, rfl, rfl, trivial⟩
          · exact go_to hΘ hm hx hP hn (hs := [⟨1, .br true, none⟩, ⟨3, .row (o3 x6), none⟩, ⟨10, .callV [] (B r7), none⟩, ⟨12, .no, some (B false)⟩, ⟨15, .no, some (B true)⟩, ⟨19, .row (o3 x11), none⟩, ⟨25, .br false, none⟩]) (π := []) (ts := [0, 1, 2, 9, 10, 11]) (kp := []) (ps := [(decide (v4 < (p1.length : Int))) = true, (0 : Int) ≤ v4, (p1.map o3)[(Int.toNat v4)]? = some (o3 x6), Meets Tryz.prog 17 [(I x6), (I p2), (I p3)] (B r7), litA (B r7) = true, (B (!r7)) = (B false), (B (decide (v4 > 0))) = (B true), (0 : Int) ≤ (w64 (v4 - 1)), (p1.map o3)[(Int.toNat (w64 (v4 - 1)))]? = some (o3 x11), (decide (x11 ≥ x6)) = false]) (by kernel_rfl) ⟨c5, (rd0 hx6), (rdM o3 hx6), (spec_l1In_m hr7), rfl, (litB c9), (litB c10), (rd0 hx11), (rdM o3 hx11), c13, trivial⟩ (ih (w64 (v4 + 1)) _ h)
        · exact go_to hΘ hm hx hP hn (hs := [⟨1, .br true, none⟩, ⟨3, .row (o3 x6), none⟩, ⟨10, .callV [] (B r7), none⟩, ⟨12, .no, some (B false)⟩, ⟨15, .no, some (B false)⟩]) (π := []) (ts := [0, 1, 2, 9, 10, 11]) (kp := []) (ps := [(decide (v4 < (p1.length : Int))) = true, (0 : Int) ≤ v4, (p1.map o3)[(Int.toNat v4)]? = some (o3 x6), Meets Tryz.prog 17 [(I x6), (I p2), (I p3)] (B r7), litA (B r7) = true, (B (!r7)) = (B false), (B (decide (v4 > 0))) = (B false)]) (by kernel_rfl) ⟨c5, (rd0 hx6), (rdM o3 hx6), (spec_l1In_m hr7), rfl, (litB c9), (litB c14), trivial⟩ (ih (w64 (v4 + 1)) _ h)
    · have h := Option.some.inj h
      subst h
      exact go_ret hΘ hm hP hn (hs := [⟨1, .br false, none⟩]) (rh := []) (ph := .raw) (ps := [(decide (v4 < (p1.length : Int))) = false, (B true) = (B true), litA (B true) = true]) (by kernel_rfl) ⟨c15, rfl, rfl, trivial⟩
noncomputable def spec_l1Rising (p1 : (List Int)) (p2 : Int) (p3 : Int) : Option Bool :=
  spec_l1Rising_l0 p1 p2 p3 FU 0
theorem spec_l1Rising_m {p1 : (List Int)} {p2 : Int} {p3 : Int} {r : Bool} (h : spec_l1Rising p1 p2 p3 = some r) : Meets Tryz.prog 39 [(AV.ro 1 (p1.map o3)), (I p2), (I p3)] (B r) := by
  refine meets_ofC Θ_ok Tryz.func39 rfl (c := body39) (by kernel_rfl) (Nat.le_of_ble_eq_true rfl) ?_
  intro E hP hn hx
  replace hn : E.n = 35 := hn
  have hm : E.P.follows .mixedOrders = true := by rw [hP]; exact mixed
  have hΘ : TOK E.P Θ := by rw [hP]; exact Θ_ok
  unfold spec_l1Rising at h
  show WAt E body39 (FQ (RetE Θ Tryz.f39.results.toList [] [] (B r) E)) [] ⟨[(0, (AV.ro 1 (p1.map o3))), (1, (I p2)), (2, (I p3))], [], [JJ]⟩
  exact go_to hΘ hm hx hP hn (hs := [⟨2, .no, some (I (p1.length : Int))⟩]) (π := []) (ts := [0, 1, 2, 9, 10, 11]) (kp := []) (ps := [AV.lit (.int .i64 (((p1.map o3).length : Nat) : Int)) = (I (p1.length : Int))]) (by kernel_rfl) ⟨(lenM o3), trivial⟩ (spec_l1Rising_l0_m hP hn hx p1 p2 p3 FU 0 _ h)
noncomputable def body13 : Code := match Tryz.f13.body with | some c => c | none => .skip
noncomputable def spec_GoodPct_l0  (p1 : GPct) : Nat → Int → Option Bool
  | 0, _ => none
  | n + 1, v7 =>
  if (decide (v7 < (p1.Ranks.length : Int))) = true then
    Option.bind (rd p1.Ranks v7) fun x9 =>
    Option.bind (slc p1.Ranks 0 v7) fun l10 =>
    Option.bind (spec_l1Has l10 x9) fun r11 =>
    if r11 = true then
      some false
    else
      spec_GoodPct_l0 p1 n (w64 (v7 + 1))
  else
    if (decide ((p1.Changes.length : Int) ≤ 4)) = true then
      Option.bind (spec_l1Rising p1.Changes 0 199) fun r16 =>
      some r16
    else
      some false
theorem spec_GoodPct_l0_m {E : Env} (hP : E.P = Tryz.prog) (hn : E.n = 39) (hx : ∀ p, p ∈ E.fx → p.1 ∈ ([] : List Nat)) (p1 : GPct)  : ∀ (n : Nat) (v7 : Int) (r : Bool), spec_GoodPct_l0 p1 n v7 = some r → WAt E body13 (FQ (RetE Θ Tryz.f13.results.toList [] [] (B r) E)) [true, true, false, true, false] ⟨[(1, (AV.ptr 1 0 0)), (16, (AV.ro 1 (p1.Ranks.map o3))), (17, (I (p1.Ranks.length : Int))), (18, (I v7))], [(1, some ⟨49, 2, [((r49 p1))]⟩)], [1, JJ]⟩ := by
  have hm : E.P.follows .mixedOrders = true := by rw [hP]; exact mixed
  have hΘ : TOK E.P Θ := by rw [hP]; exact Θ_ok
  intro n
  induction n with
  | zero => intro v7 r h; simp only [spec_GoodPct_l0] at h; cases h
  | succ n ih =>
    intro v7 r h
    simp only [spec_GoodPct_l0] at h
    rcases itS h with ⟨c8, h⟩ | ⟨c14, h⟩
    · obtain ⟨x9, hx9, h⟩ := bnS h
      obtain ⟨l10, hl10, h⟩ := bnS h
      obtain ⟨r11, hr11, h⟩ := bnS h
      rcases itS h with ⟨c12, h⟩ | ⟨c13, h⟩
      · have h := Option.some.inj h
        subst h
        exact go_ret hΘ hm hP hn (hs := [⟨1, .br true, none⟩, ⟨3, .row (o3 x9), none⟩, ⟨10, .no, some (AV.ro 1 (l10.map o3))⟩, ⟨12, .callV [] (B r11), none⟩, ⟨13, .br true, none⟩]) (rh := []) (ph := .raw) (ps := [(decide (v7 < (p1.Ranks.length : Int))) = true, (0 : Int) ≤ v7, (p1.Ranks.map o3)[(Int.toNat v7)]? = some (o3 x9), AV.ro 1 (((p1.Ranks.map o3).drop (Int.toNat 0)).take (subO (Int.toNat v7) (Int.toNat 0))) = (AV.ro 1 (l10.map o3)), (0 : Int) ≤ 0, 0 ≤ v7, v7 ≤ (((p1.Ranks.map o3).length : Nat) : Int), Meets Tryz.prog 38 [(AV.ro 1 (l10.map o3)), (I x9)] (B r11), litA (B r11) = true, r11 = true, (B false) = (B false), litA (B false) = true]) (by kernel_rfl) ⟨c8, (rd0 hx9), (rdM o3 hx9), (slM 1 o3 hl10), (sl0 hl10), (sl1 hl10), (sl2 o3 hl10), (spec_l1Has_m hr11), rfl, c12, rfl, rfl, trivial⟩
      · exact go_to hΘ hm hx hP hn (hs := [⟨1, .br true, none⟩, ⟨3, .row (o3 x9), none⟩, ⟨10, .no, some (AV.ro 1 (l10.map o3))⟩, ⟨12, .callV [] (B r11), none⟩, ⟨13, .br false, none⟩]) (π := [(1, 1)]) (ts := [1, 16, 17, 18]) (kp := []) (ps := [(decide (v7 < (p1.Ranks.length : Int))) = true, (0 : Int) ≤ v7, (p1.Ranks.map o3)[(Int.toNat v7)]? = some (o3 x9), AV.ro 1 (((p1.Ranks.map o3).drop (Int.toNat 0)).take (subO (Int.toNat v7) (Int.toNat 0))) = (AV.ro 1 (l10.map o3)), (0 : Int) ≤ 0, 0 ≤ v7, v7 ≤ (((p1.Ranks.map o3).length : Nat) : Int), Meets Tryz.prog 38 [(AV.ro 1 (l10.map o3)), (I x9)] (B r11), litA (B r11) = true, r11 = false, RenOK [(1, 1)] [((r49 p1))]]) (by kernel_rfl) ⟨c8, (rd0 hx9), (rdM o3 hx9), (slM 1 o3 hl10), (sl0 hl10), (sl1 hl10), (sl2 o3 hl10), (spec_l1Has_m hr11), rfl, c13, (rok (treeB t49 p1)), trivial⟩ (ih (w64 (v7 + 1)) _ h)
    · rcases itS h with ⟨c15, h⟩ | ⟨c17, h⟩
      · obtain ⟨r16, hr16, h⟩ := bnS h
        have h := Option.some.inj h
        subst h
        exact go_ret hΘ hm hP hn (hs := [⟨1, .br false, none⟩, ⟨4, .no, some (I (p1.Changes.length : Int))⟩, ⟨6, .no, some (B true)⟩, ⟨9, .callV [] (B r16), none⟩]) (rh := []) (ph := .raw) (ps := [(decide (v7 < (p1.Ranks.length : Int))) = false, AV.lit (.int .i64 (((p1.Changes.map o3).length : Nat) : Int)) = (I (p1.Changes.length : Int)), (B (decide ((p1.Changes.length : Int) ≤ 4))) = (B true), Meets Tryz.prog 39 [(AV.ro 1 (p1.Changes.map o3)), (I 0), (I 199)] (B r16), litA (B r16) = true, (B r16) = (B r16), litA (B r16) = true]) (by kernel_rfl) ⟨c14, (lenM o3), (litB c15), (spec_l1Rising_m hr16), rfl, rfl, rfl, trivial⟩
      · have h := Option.some.inj h
        subst h
        exact go_ret hΘ hm hP hn (hs := [⟨1, .br false, none⟩, ⟨4, .no, some (I (p1.Changes.length : Int))⟩, ⟨6, .no, some (B false)⟩]) (rh := []) (ph := .raw) (ps := [(decide (v7 < (p1.Ranks.length : Int))) = false, AV.lit (.int .i64 (((p1.Changes.map o3).length : Nat) : Int)) = (I (p1.Changes.length : Int)), (B (decide ((p1.Changes.length : Int) ≤ 4))) = (B false), (B false) = (B false), litA (B false) = true]) (by kernel_rfl) ⟨c14, (lenM o3), (litB c17), rfl, rfl, trivial⟩
noncomputable def spec_GoodPct (p1 : GPct) : Option Bool :=
  if ((p1.Ranks.length : Int) != 5) = true then
    some false
  else
    Option.bind (spec_l1All p1.Ranks 0 4) fun r4 =>
    if (!r4) = true then
      some false
    else
      spec_GoodPct_l0 p1 FU 0
theorem spec_GoodPct_m {p1 : GPct} {r : Bool} (h : spec_GoodPct p1 = some r) : Meets Tryz.prog 13 [(AV.agg ((r49 p1)))] (B r) := by
  refine meets_ofC Θ_ok Tryz.func13 rfl (c := body13) (by kernel_rfl) (Nat.le_of_ble_eq_true rfl) ?_
  intro E hP hn hx
  replace hn : E.n = 39 := hn
  have hm : E.P.follows .mixedOrders = true := by rw [hP]; exact mixed
  have hΘ : TOK E.P Θ := by rw [hP]; exact Θ_ok
  unfold spec_GoodPct at h
  show WAt E body13 (FQ (RetE Θ Tryz.f13.results.toList [] [] (B r) E)) [] ⟨[(0, (AV.agg ((r49 p1))))], [], [JJ]⟩
  rcases itS h with ⟨c2, h⟩ | ⟨c3, h⟩
  · have h := Option.some.inj h
    subst h
    exact go_ret hΘ hm hP hn (hs := [⟨0, .new 1001, none⟩, ⟨4, .no, some (I (p1.Ranks.length : Int))⟩, ⟨6, .no, some (B true)⟩]) (rh := []) (ph := .raw) (ps := [AV.lit (.int .i64 (((p1.Ranks.map o3).length : Nat) : Int)) = (I (p1.Ranks.length : Int)), (B ((p1.Ranks.length : Int) != 5)) = (B true), (B false) = (B false), litA (B false) = true]) (by kernel_rfl) ⟨(lenM o3), (litB c2), rfl, rfl, trivial⟩
  · obtain ⟨r4, hr4, h⟩ := bnS h
    rcases itS h with ⟨c5, h⟩ | ⟨c6, h⟩
    · have h := Option.some.inj h
      subst h
      exact go_ret hΘ hm hP hn (hs := [⟨0, .new 1001, none⟩, ⟨4, .no, some (I (p1.Ranks.length : Int))⟩, ⟨6, .no, some (B false)⟩, ⟨9, .callV [] (B r4), none⟩, ⟨12, .br true, none⟩]) (rh := []) (ph := .raw) (ps := [AV.lit (.int .i64 (((p1.Ranks.map o3).length : Nat) : Int)) = (I (p1.Ranks.length : Int)), (B ((p1.Ranks.length : Int) != 5)) = (B false), Meets Tryz.prog 37 [(AV.ro 1 (p1.Ranks.map o3)), (I 0), (I 4)] (B r4), litA (B r4) = true, (!r4) = true, (B false) = (B false), litA (B false) = true]) (by kernel_rfl) ⟨(lenM o3), (litB c3), (spec_l1All_m hr4), rfl, c5, rfl, rfl, trivial⟩
    · exact go_to hΘ hm hx hP hn (hs := [⟨0, .new 1001, none⟩, ⟨4, .no, some (I (p1.Ranks.length : Int))⟩, ⟨6, .no, some (B false)⟩, ⟨9, .callV [] (B r4), none⟩, ⟨12, .br false, none⟩, ⟨15, .no, some (I (p1.Ranks.length : Int))⟩]) (π := [(1001, 1)]) (ts := [1, 16, 17, 18]) (kp := []) (ps := [AV.lit (.int .i64 (((p1.Ranks.map o3).length : Nat) : Int)) = (I (p1.Ranks.length : Int)), (B ((p1.Ranks.length : Int) != 5)) = (B false), Meets Tryz.prog 37 [(AV.ro 1 (p1.Ranks.map o3)), (I 0), (I 4)] (B r4), litA (B r4) = true, (!r4) = false, AV.lit (.int .i64 (((p1.Ranks.map o3).length : Nat) : Int)) = (I (p1.Ranks.length : Int)), RenOK [(1001, 1)] [((r49 p1))]]) (by kernel_rfl) ⟨(lenM o3), (litB c3), (spec_l1All_m hr4), rfl, c6, (lenM o3), (rok (treeB t49 p1)), trivial⟩ (spec_GoodPct_l0_m hP hn hx p1 FU 0 _ h)
noncomputable def body90 : Code := match Tryz.f90.body with | some c => c | none => .skip
noncomputable def spec_IsMinus (p1 : Nat) : Option Bool :=
  if ((fcmp p1 0) == some .lt) = true then
    some true
  else
    if ((fcmp p1 0) == some .eq) = true then
      some ((fcmp (fdv 4607182418800017408 p1) 0) == some .lt)
    else
      some false
theorem spec_IsMinus_m {p1 : Nat} {r : Bool} (h : spec_IsMinus p1 = some r) : Meets Tryz.prog 90 [(FK p1)] (B r) := by
  refine meets_ofC Θ_ok Tryz.func90 rfl (c := body90) (by kernel_rfl) (Nat.le_of_ble_eq_true rfl) ?_
  intro E hP hn hx
  replace hn : E.n = 14 := hn
  have hm : E.P.follows .mixedOrders = true := by rw [hP]; exact mixed
  have hΘ : TOK E.P Θ := by rw [hP]; exact Θ_ok
  unfold spec_IsMinus at h
  show WAt E body90 (FQ (RetE Θ Tryz.f90.results.toList [] [] (B r) E)) [] ⟨[(0, (FK p1))], [], [JJ]⟩
  rcases itS h with ⟨c2, h⟩ | ⟨c3, h⟩
  · have h := Option.some.inj h
    subst h
    exact go_ret hΘ hm hP hn (hs := [⟨2, .bin (B ((fcmp p1 0) == some .lt)), none⟩, ⟨3, .no, some (B true)⟩]) (rh := []) (ph := .raw) (ps := [BinS Tryz.prog .lss 75 (FK p1) (FK 0) (B ((fcmp p1 0) == some .lt)), (B ((fcmp p1 0) == some .lt)) = (B true), (B true) = (B true), litA (B true) = true]) (by kernel_rfl) ⟨fLss, (litB c2), rfl, rfl, trivial⟩
  · rcases itS h with ⟨c4, h⟩ | ⟨c5, h⟩
    · have h := Option.some.inj h
      subst h
      exact go_ret hΘ hm hP hn (hs := [⟨2, .bin (B ((fcmp p1 0) == some .lt)), none⟩, ⟨3, .no, some (B false)⟩, ⟨5, .bin (B ((fcmp p1 0) == some .eq)), none⟩, ⟨6, .no, some (B true)⟩, ⟨8, .bin (FK (fdv 4607182418800017408 p1)), none⟩, ⟨9, .bin (B ((fcmp (fdv 4607182418800017408 p1) 0) == some .lt)), none⟩]) (rh := []) (ph := .raw) (ps := [BinS Tryz.prog .lss 75 (FK p1) (FK 0) (B ((fcmp p1 0) == some .lt)), (B ((fcmp p1 0) == some .lt)) = (B false), BinS Tryz.prog .eql 75 (FK p1) (FK 0) (B ((fcmp p1 0) == some .eq)), (B ((fcmp p1 0) == some .eq)) = (B true), BinS Tryz.prog .quo 75 (FK 4607182418800017408) (FK p1) (FK (fdv 4607182418800017408 p1)), BinS Tryz.prog .lss 75 (FK (fdv 4607182418800017408 p1)) (FK 0) (B ((fcmp (fdv 4607182418800017408 p1) 0) == some .lt)), (B ((fcmp (fdv 4607182418800017408 p1) 0) == some .lt)) = (B ((fcmp (fdv 4607182418800017408 p1) 0) == some .lt)), litA (B ((fcmp (fdv 4607182418800017408 p1) 0) == some .lt)) = true]) (by kernel_rfl) ⟨fLss, (litB c3), fEql, (litB c4), fQuo, fLss, rfl, rfl, trivial⟩
    · have h := Option.some.inj h
      subst h
      exact go_ret hΘ hm hP hn (hs := [⟨2, .bin (B ((fcmp p1 0) == some .lt)), none⟩, ⟨3, .no, some (B false)⟩, ⟨5, .bin (B ((fcmp p1 0) == some .eq)), none⟩, ⟨6, .no, some (B false)⟩]) (rh := []) (ph := .raw) (ps := [BinS Tryz.prog .lss 75 (FK p1) (FK 0) (B ((fcmp p1 0) == some .lt)), (B ((fcmp p1 0) == some .lt)) = (B false), BinS Tryz.prog .eql 75 (FK p1) (FK 0) (B ((fcmp p1 0) == some .eq)), (B ((fcmp p1 0) == some .eq)) = (B false), (B false) = (B false), litA (B false) = true]) (by kernel_rfl) ⟨fLss, (litB c3), fEql, (litB c5), rfl, rfl, trivial⟩
noncomputable def body89 : Code := match Tryz.f89.body with | some c => c | none => .skip
noncomputable def spec_l1Nan (p1 : Nat) : Option Bool :=
  some ((fcmp p1 p1) != some .eq)
theorem spec_l1Nan_m {p1 : Nat} {r : Bool} (h : spec_l1Nan p1 = some r) : Meets Tryz.prog 89 [(FK p1)] (B r) := by
  refine meets_ofC Θ_ok Tryz.func89 rfl (c := body89) (by kernel_rfl) (Nat.le_of_ble_eq_true rfl) ?_
  intro E hP hn hx
  replace hn : E.n = 6 := hn
  have hm : E.P.follows .mixedOrders = true := by rw [hP]; exact mixed
  have hΘ : TOK E.P Θ := by rw [hP]; exact Θ_ok
  unfold spec_l1Nan at h
  show WAt E body89 (FQ (RetE Θ Tryz.f89.results.toList [] [] (B r) E)) [] ⟨[(0, (FK p1))], [], [JJ]⟩
  have h := Option.some.inj h
  subst h
  exact go_ret hΘ hm hP hn (hs := [⟨3, .bin (B ((fcmp p1 p1) != some .eq)), none⟩]) (rh := []) (ph := .raw) (ps := [BinS Tryz.prog .neq 75 (FK p1) (FK p1) (B ((fcmp p1 p1) != some .eq)), (B ((fcmp p1 p1) != some .eq)) = (B ((fcmp p1 p1) != some .eq)), litA (B ((fcmp p1 p1) != some .eq)) = true]) (by kernel_rfl) ⟨fNeq, rfl, rfl, trivial⟩
noncomputable def body81 : Code := match Tryz.f81.body with | some c => c | none => .skip
noncomputable def spec_l1SameNum_j0  (p1 : Nat) (p2 : Nat)  : Option Bool :=
  if ((fcmp p1 p2) == some .eq) = true then
    Option.bind (spec_IsMinus p1) fun r18 =>
    Option.bind (spec_IsMinus p2) fun r19 =>
    some (r18 == r19)
  else
    some false
theorem spec_l1SameNum_j0_m {E : Env} (hP : E.P = Tryz.prog) (hn : E.n = 27) (hx : ∀ p, p ∈ E.fx → p.1 ∈ ([] : List Nat)) (p1 : Nat) (p2 : Nat)   (r : Bool) (h : spec_l1SameNum_j0 p1 p2  = some r) : WAt E body81 (FQ (RetE Θ Tryz.f81.results.toList [] [] (B r) E)) [true, false, true, true] ⟨[(0, (FK p1)), (1, (FK p2))], [], [JJ]⟩ := by
  have hm : E.P.follows .mixedOrders = true := by rw [hP]; exact mixed
  have hΘ : TOK E.P Θ := by rw [hP]; exact Θ_ok
  unfold spec_l1SameNum_j0 at h
  rcases itS h with ⟨c17, h⟩ | ⟨c20, h⟩
  · obtain ⟨r18, hr18, h⟩ := bnS h
    obtain ⟨r19, hr19, h⟩ := bnS h
    have h := Option.some.inj h
    subst h
    exact go_ret hΘ hm hP hn (hs := [⟨2, .bin (B ((fcmp p1 p2) == some .eq)), none⟩, ⟨3, .no, some (B true)⟩, ⟨5, .callV [] (B r18), none⟩, ⟨7, .callV [] (B r19), none⟩]) (rh := []) (ph := .raw) (ps := [BinS Tryz.prog .eql 75 (FK p1) (FK p2) (B ((fcmp p1 p2) == some .eq)), (B ((fcmp p1 p2) == some .eq)) = (B true), Meets Tryz.prog 90 [(FK p1)] (B r18), litA (B r18) = true, Meets Tryz.prog 90 [(FK p2)] (B r19), litA (B r19) = true, (B (r18 == r19)) = (B (r18 == r19)), litA (B (r18 == r19)) = true]) (by kernel_rfl) ⟨fEql, (litB c17), (spec_IsMinus_m hr18), rfl, (spec_IsMinus_m hr19), rfl, rfl, rfl, trivial⟩
  · have h := Option.some.inj h
    subst h
    exact go_ret hΘ hm hP hn (hs := [⟨2, .bin (B ((fcmp p1 p2) == some .eq)), none⟩, ⟨3, .no, some (B false)⟩]) (rh := []) (ph := .raw) (ps := [BinS Tryz.prog .eql 75 (FK p1) (FK p2) (B ((fcmp p1 p2) == some .eq)), (B ((fcmp p1 p2) == some .eq)) = (B false), (B false) = (B false), litA (B false) = true]) (by kernel_rfl) ⟨fEql, (litB c20), rfl, rfl, trivial⟩
noncomputable def spec_l1SameNum (p1 : Nat) (p2 : Nat) : Option Bool :=
  Option.bind (spec_l1Nan p1) fun r3 =>
  if r3 = true then
    Option.bind (spec_l1Nan p1) fun r5 =>
    if r5 = true then
      Option.bind (spec_l1Nan p2) fun r7 =>
      some r7
    else
      some false
  else
    Option.bind (spec_l1Nan p2) fun r10 =>
    if r10 = true then
      Option.bind (spec_l1Nan p1) fun r12 =>
      if r12 = true then
        Option.bind (spec_l1Nan p2) fun r14 =>
        some r14
      else
        some false
    else
      spec_l1SameNum_j0 p1 p2
theorem spec_l1SameNum_m {p1 : Nat} {p2 : Nat} {r : Bool} (h : spec_l1SameNum p1 p2 = some r) : Meets Tryz.prog 81 [(FK p1), (FK p2)] (B r) := by
  refine meets_ofC Θ_ok Tryz.func81 rfl (c := body81) (by kernel_rfl) (Nat.le_of_ble_eq_true rfl) ?_
  intro E hP hn hx
  replace hn : E.n = 27 := hn
  have hm : E.P.follows .mixedOrders = true := by rw [hP]; exact mixed
  have hΘ : TOK E.P Θ := by rw [hP]; exact Θ_ok
  unfold spec_l1SameNum at h
  show WAt E body81 (FQ (RetE Θ Tryz.f81.results.toList [] [] (B r) E)) [] ⟨[(0, (FK p1)), (1, (FK p2))], [], [JJ]⟩
  obtain ⟨r3, hr3, h⟩ := bnS h
  rcases itS h with ⟨c4, h⟩ | ⟨c9, h⟩
  · obtain ⟨r5, hr5, h⟩ := bnS h
    rcases itS h with ⟨c6, h⟩ | ⟨c8, h⟩
    · obtain ⟨r7, hr7, h⟩ := bnS h
      have h := Option.some.inj h
      subst h
      exact go_ret hΘ hm hP hn (hs := [⟨2, .callV [] (B r3), none⟩, ⟨3, .no, some (B true)⟩, ⟨9, .callV [] (B r5), none⟩, ⟨10, .no, some (B true)⟩, ⟨12, .callV [] (B r7), none⟩]) (rh := []) (ph := .raw) (ps := [Meets Tryz.prog 89 [(FK p1)] (B r3), litA (B r3) = true, (B r3) = (B true), Meets Tryz.prog 89 [(FK p1)] (B r5), litA (B r5) = true, (B r5) = (B true), Meets Tryz.prog 89 [(FK p2)] (B r7), litA (B r7) = true, (B r7) = (B r7), litA (B r7) = true]) (by kernel_rfl) ⟨(spec_l1Nan_m hr3), rfl, (litB c4), (spec_l1Nan_m hr5), rfl, (litB c6), (spec_l1Nan_m hr7), rfl, rfl, rfl, trivial⟩
    · have h := Option.some.inj h
      subst h
      exact go_ret hΘ hm hP hn (hs := [⟨2, .callV [] (B r3), none⟩, ⟨3, .no, some (B true)⟩, ⟨9, .callV [] (B r5), none⟩, ⟨10, .no, some (B false)⟩]) (rh := []) (ph := .raw) (ps := [Meets Tryz.prog 89 [(FK p1)] (B r3), litA (B r3) = true, (B r3) = (B true), Meets Tryz.prog 89 [(FK p1)] (B r5), litA (B r5) = true, (B r5) = (B false), (B false) = (B false), litA (B false) = true]) (by kernel_rfl) ⟨(spec_l1Nan_m hr3), rfl, (litB c4), (spec_l1Nan_m hr5), rfl, (litB c8), rfl, rfl, trivial⟩
  · obtain ⟨r10, hr10, h⟩ := bnS h
    rcases itS h with ⟨c11, h⟩ | ⟨c16, h⟩
    · obtain ⟨r12, hr12, h⟩ := bnS h
      rcases itS h with ⟨c13, h⟩ | ⟨c15, h⟩
      · obtain ⟨r14, hr14, h⟩ := bnS h
        have h := Option.some.inj h
        subst h
        exact go_ret hΘ hm hP hn (hs := [⟨2, .callV [] (B r3), none⟩, ⟨3, .no, some (B false)⟩, ⟨5, .callV [] (B r10), none⟩, ⟨7, .br true, none⟩, ⟨9, .callV [] (B r12), none⟩, ⟨10, .no, some (B true)⟩, ⟨12, .callV [] (B r14), none⟩]) (rh := []) (ph := .raw) (ps := [Meets Tryz.prog 89 [(FK p1)] (B r3), litA (B r3) = true, (B r3) = (B false), Meets Tryz.prog 89 [(FK p2)] (B r10), litA (B r10) = true, r10 = true, Meets Tryz.prog 89 [(FK p1)] (B r12), litA (B r12) = true, (B r12) = (B true), Meets Tryz.prog 89 [(FK p2)] (B r14), litA (B r14) = true, (B r14) = (B r14), litA (B r14) = true]) (by kernel_rfl) ⟨(spec_l1Nan_m hr3), rfl, (litB c9), (spec_l1Nan_m hr10), rfl, c11, (spec_l1Nan_m hr12), rfl, (litB c13), (spec_l1Nan_m hr14), rfl, rfl, rfl, trivial⟩
      · have h := Option.some.inj h
        subst h
        exact go_ret hΘ hm hP hn (hs := [⟨2, .callV [] (B r3), none⟩, ⟨3, .no, some (B false)⟩, ⟨5, .callV [] (B r10), none⟩, ⟨7, .br true, none⟩, ⟨9, .callV [] (B r12), none⟩, ⟨10, .no, some (B false)⟩]) (rh := []) (ph := .raw) (ps := [Meets Tryz.prog 89 [(FK p1)] (B r3), litA (B r3) = true, (B r3) = (B false), Meets Tryz.prog 89 [(FK p2)] (B r10), litA (B r10) = true, r10 = true, Meets Tryz.prog 89 [(FK p1)] (B r12), litA (B r12) = true, (B r12) = (B false), (B false) = (B false), litA (B false) = true]) (by kernel_rfl) ⟨(spec_l1Nan_m hr3), rfl, (litB c9), (spec_l1Nan_m hr10), rfl, c11, (spec_l1Nan_m hr12), rfl, (litB c15), rfl, rfl, trivial⟩
    · exact go_to hΘ hm hx hP hn (hs := [⟨2, .callV [] (B r3), none⟩, ⟨3, .no, some (B false)⟩, ⟨5, .callV [] (B r10), none⟩, ⟨7, .br false, none⟩]) (π := []) (ts := [0, 1]) (kp := []) (ps := [Meets Tryz.prog 89 [(FK p1)] (B r3), litA (B r3) = true, (B r3) = (B false), Meets Tryz.prog 89 [(FK p2)] (B r10), litA (B r10) = true, r10 = false]) (by kernel_rfl) ⟨(spec_l1Nan_m hr3), rfl, (litB c9), (spec_l1Nan_m hr10), rfl, c16, trivial⟩ (spec_l1SameNum_j0_m hP hn hx p1 p2  _ h)
noncomputable def body80 : Code := match Tryz.f80.body with | some c => c | none => .skip
noncomputable def spec_l2Uses_j0  (p1 : Int) (v5 : Bool) : Option Str :=
  if v5 = true then
    some [97]
  else
    if (p1 == 16) = true then
      some [97, 98]
    else
      some []
theorem spec_l2Uses_j0_m {E : Env} (hP : E.P = Tryz.prog) (hn : E.n = 17) (hx : ∀ p, p ∈ E.fx → p.1 ∈ ([] : List Nat)) (p1 : Int)  (v5 : Bool) (r : Str) (h : spec_l2Uses_j0 p1 v5 = some r) : WAt E body80 (FQ (RetE Θ Tryz.f80.results.toList [] [] (SK r) E)) [true, false, true, false, true, true, true] ⟨[(3, (I p1)), (6, (B v5))], [], [JJ]⟩ := by
  have hm : E.P.follows .mixedOrders = true := by rw [hP]; exact mixed
  have hΘ : TOK E.P Θ := by rw [hP]; exact Θ_ok
  unfold spec_l2Uses_j0 at h
  rcases itS h with ⟨c6, h⟩ | ⟨c7, h⟩
  · have h := Option.some.inj h
    subst h
    exact go_ret hΘ hm hP hn (hs := [⟨0, .br true, none⟩]) (rh := []) (ph := .raw) (ps := [v5 = true, (SK [97]) = (SK [97]), litA (SK [97]) = true]) (by kernel_rfl) ⟨c6, rfl, rfl, trivial⟩
  · rcases itS h with ⟨c8, h⟩ | ⟨c9, h⟩
    · have h := Option.some.inj h
      subst h
      exact go_ret hΘ hm hP hn (hs := [⟨0, .br false, none⟩, ⟨3, .br true, none⟩]) (rh := []) (ph := .raw) (ps := [v5 = false, (p1 == 16) = true, (SK [97, 98]) = (SK [97, 98]), litA (SK [97, 98]) = true]) (by kernel_rfl) ⟨c7, c8, rfl, rfl, trivial⟩
    · have h := Option.some.inj h
      subst h
      exact go_ret hΘ hm hP hn (hs := [⟨0, .br false, none⟩, ⟨3, .br false, none⟩]) (rh := []) (ph := .raw) (ps := [v5 = false, (p1 == 16) = false, (SK []) = (SK []), litA (SK []) = true]) (by kernel_rfl) ⟨c7, c9, rfl, rfl, trivial⟩
noncomputable def spec_l2Uses (p1 : Int) : Option Str :=
  if (p1 == 1) = true then
    some [118]
  else
    if (p1 == 2) = true then
      spec_l2Uses_j0 p1 (p1 == 2)
    else
      if (p1 == 3) = true then
        spec_l2Uses_j0 p1 (p1 == 3)
      else
        if (p1 == 10) = true then
          spec_l2Uses_j0 p1 (p1 == 10)
        else
          if (p1 == 11) = true then
            spec_l2Uses_j0 p1 (p1 == 11)
          else
            if (p1 == 12) = true then
              spec_l2Uses_j0 p1 (p1 == 12)
            else
              if (p1 == 13) = true then
                spec_l2Uses_j0 p1 (p1 == 13)
              else
                if (p1 == 14) = true then
                  spec_l2Uses_j0 p1 (p1 == 14)
                else
                  spec_l2Uses_j0 p1 (p1 == 17)
theorem spec_l2Uses_m {p1 : Int} {r : Str} (h : spec_l2Uses p1 = some r) : Meets Tryz.prog 80 [(I p1)] (SK r) := by
  refine meets_ofC Θ_ok Tryz.func80 rfl (c := body80) (by kernel_rfl) (Nat.le_of_ble_eq_true rfl) ?_
  intro E hP hn hx
  replace hn : E.n = 17 := hn
  have hm : E.P.follows .mixedOrders = true := by rw [hP]; exact mixed
  have hΘ : TOK E.P Θ := by rw [hP]; exact Θ_ok
  unfold spec_l2Uses at h
  show WAt E body80 (FQ (RetE Θ Tryz.f80.results.toList [] [] (SK r) E)) [] ⟨[(0, (I p1))], [], [JJ]⟩
  rcases itS h with ⟨c2, h⟩ | ⟨c3, h⟩
  · have h := Option.some.inj h
    subst h
    exact go_ret hΘ hm hP hn (hs := [⟨4, .br true, none⟩]) (rh := []) (ph := .raw) (ps := [(p1 == 1) = true, (SK [118]) = (SK [118]), litA (SK [118]) = true]) (by kernel_rfl) ⟨c2, rfl, rfl, trivial⟩
  · rcases itS h with ⟨c4, h⟩ | ⟨c10, h⟩
    · exact go_to hΘ hm hx hP hn (hs := [⟨4, .br false, none⟩, ⟨7, .br true, none⟩]) (π := []) (ts := [3, 6]) (kp := []) (ps := [(p1 == 1) = false, (p1 == 2) = true]) (by kernel_rfl) ⟨c3, c4, trivial⟩ (spec_l2Uses_j0_m hP hn hx p1 (p1 == 2) _ h)
    · rcases itS h with ⟨c11, h⟩ | ⟨c12, h⟩
      · exact go_to hΘ hm hx hP hn (hs := [⟨4, .br false, none⟩, ⟨7, .br false, none⟩, ⟨10, .br true, none⟩]) (π := []) (ts := [3, 6]) (kp := []) (ps := [(p1 == 1) = false, (p1 == 2) = false, (p1 == 3) = true]) (by kernel_rfl) ⟨c3, c10, c11, trivial⟩ (spec_l2Uses_j0_m hP hn hx p1 (p1 == 3) _ h)
      · rcases itS h with ⟨c13, h⟩ | ⟨c14, h⟩
        · exact go_to hΘ hm hx hP hn (hs := [⟨4, .br false, none⟩, ⟨7, .br false, none⟩, ⟨10, .br false, none⟩, ⟨13, .br true, none⟩]) (π := []) (ts := [3, 6]) (kp := []) (ps := [(p1 == 1) = false, (p1 == 2) = false, (p1 == 3) = false, (p1 == 10) = true]) (by kernel_rfl) ⟨c3, c10, c12, c13, trivial⟩ (spec_l2Uses_j0_m hP hn hx p1 (p1 == 10) _ h)
        · rcases itS h with ⟨c15, h⟩ | ⟨c16, h⟩
          · exact go_to hΘ hm hx hP hn (hs := [⟨4, .br false, none⟩, ⟨7, .br false, none⟩, ⟨10, .br false, none⟩, ⟨13, .br false, none⟩, ⟨16, .br true, none⟩]) (π := []) (ts := [3, 6]) (kp := []) (ps := [(p1 == 1) = false, (p1 == 2) = false, (p1 == 3) = false, (p1 == 10) = false, (p1 == 11) = true]) (by kernel_rfl) ⟨c3, c10, c12, c14, c15, trivial⟩ (spec_l2Uses_j0_m hP hn hx p1 (p1 == 11) _ h)
          · rcases itS h with ⟨c17, h⟩ | ⟨c18, h⟩
            · exact go_to hΘ hm hx hP hn (hs := [⟨4, .br false, none⟩, ⟨7, .br false, none⟩, ⟨10, .br false, none⟩, ⟨13, .br false, none⟩, ⟨16, .br false, none⟩, ⟨19, .br true, none⟩]) (π := []) (ts := [3, 6]) (kp := []) (ps := [(p1 == 1) = false, (p1 == 2) = false, (p1 == 3) = false, (p1 == 10) = false, (p1 == 11) = false, (p1 == 12) = true]) (by kernel_rfl) ⟨c3, c10, c12, c14, c16, c17, trivial⟩ (spec_l2Uses_j0_m hP hn hx p1 (p1 == 12) _ h)
            · rcases itS h with ⟨c19, h⟩ | ⟨c20, h⟩
              · exact go_to hΘ hm hx hP hn (hs := [⟨4, .br false, none⟩, ⟨7, .br false, none⟩, ⟨10, .br false, none⟩, ⟨13, .br false, none⟩, ⟨16, .br false, none⟩, ⟨19, .br false, none⟩, ⟨22, .br true, none⟩]) (π := []) (ts := [3, 6]) (kp := []) (ps := [(p1 == 1) = false, (p1 == 2) = false, (p1 == 3) = false, (p1 == 10) = false, (p1 == 11) = false, (p1 == 12) = false, (p1 == 13) = true]) (by kernel_rfl) ⟨c3, c10, c12, c14, c16, c18, c19, trivial⟩ (spec_l2Uses_j0_m hP hn hx p1 (p1 == 13) _ h)
              · rcases itS h with ⟨c21, h⟩ | ⟨c22, h⟩
                · exact go_to hΘ hm hx hP hn (hs := [⟨4, .br false, none⟩, ⟨7, .br false, none⟩, ⟨10, .br false, none⟩, ⟨13, .br false, none⟩, ⟨16, .br false, none⟩, ⟨19, .br false, none⟩, ⟨22, .br false, none⟩, ⟨25, .br true, none⟩]) (π := []) (ts := [3, 6]) (kp := []) (ps := [(p1 == 1) = false, (p1 == 2) = false, (p1 == 3) = false, (p1 == 10) = false, (p1 == 11) = false, (p1 == 12) = false, (p1 == 13) = false, (p1 == 14) = true]) (by kernel_rfl) ⟨c3, c10, c12, c14, c16, c18, c20, c21, trivial⟩ (spec_l2Uses_j0_m hP hn hx p1 (p1 == 14) _ h)
                · exact go_to hΘ hm hx hP hn (hs := [⟨4, .br false, none⟩, ⟨7, .br false, none⟩, ⟨10, .br false, none⟩, ⟨13, .br false, none⟩, ⟨16, .br false, none⟩, ⟨19, .br false, none⟩, ⟨22, .br false, none⟩, ⟨25, .br false, none⟩]) (π := []) (ts := [3, 6]) (kp := []) (ps := [(p1 == 1) = false, (p1 == 2) = false, (p1 == 3) = false, (p1 == 10) = false, (p1 == 11) = false, (p1 == 12) = false, (p1 == 13) = false, (p1 == 14) = false]) (by kernel_rfl) ⟨c3, c10, c12, c14, c16, c18, c20, c22, trivial⟩ (spec_l2Uses_j0_m hP hn hx p1 (p1 == 17) _ h)
noncomputable def body67 : Code := match Tryz.f67.body with | some c => c | none => .skip
noncomputable def spec_l2Plain_j0  (p1 : GOp) (r2 : Str)  : Option Bool :=
  if (r2 == [118]) = true then
    if (r2 == [97]) = true then
      if (r2 == [97, 98]) = true then
        some true
      else
        some (p1.B == 0)
    else
      if (r2 == [97, 98]) = true then
        if (r2 == [97, 98]) = true then
          some true
        else
          some (p1.B == 0)
      else
        if (p1.A == 0) = true then
          if (r2 == [97, 98]) = true then
            some true
          else
            some (p1.B == 0)
        else
          some false
  else
    Option.bind (spec_l1SameNum p1.V 0) fun r30 =>
    if r30 = true then
      if (r2 == [97]) = true then
        if (r2 == [97, 98]) = true then
          some true
        else
          some (p1.B == 0)
      else
        if (r2 == [97, 98]) = true then
          if (r2 == [97, 98]) = true then
            some true
          else
            some (p1.B == 0)
        else
          if (p1.A == 0) = true then
            if (r2 == [97, 98]) = true then
              some true
            else
              some (p1.B == 0)
          else
            some false
    else
      some false
theorem spec_l2Plain_j0_m {E : Env} (hP : E.P = Tryz.prog) (hn : E.n = 52) (hx : ∀ p, p ∈ E.fx → p.1 ∈ ([] : List Nat)) (p1 : GOp) (r2 : Str)   (r : Bool) (h : spec_l2Plain_j0 p1 r2  = some r) : WAt E body67 (FQ (RetE Θ Tryz.f67.results.toList [] [] (B r) E)) [true, true, false, true, true] ⟨[(1, (AV.ptr 1 0 0)), (3, (SK r2))], [(1, some ⟨77, 4, [((o77 p1))]⟩)], [1, JJ]⟩ := by
  have hm : E.P.follows .mixedOrders = true := by rw [hP]; exact mixed
  have hΘ : TOK E.P Θ := by rw [hP]; exact Θ_ok
  unfold spec_l2Plain_j0 at h
  rcases itS h with ⟨c12, h⟩ | ⟨c25, h⟩
  · rcases itS h with ⟨c13, h⟩ | ⟨c16, h⟩
    · rcases itS h with ⟨c14, h⟩ | ⟨c15, h⟩
      · have h := Option.some.inj h
        subst h
        exact go_ret hΘ hm hP hn (hs := [⟨1, .bin (B (r2 == [118])), none⟩, ⟨2, .no, some (B true)⟩, ⟨9, .bin (B (r2 == [97])), none⟩, ⟨10, .no, some (B true)⟩, ⟨22, .bin (B (r2 == [97, 98])), none⟩, ⟨23, .no, some (B true)⟩]) (rh := []) (ph := .raw) (ps := [BinS Tryz.prog .eql 9 (SK r2) (SK [118]) (B (r2 == [118])), (B (r2 == [118])) = (B true), BinS Tryz.prog .eql 9 (SK r2) (SK [97]) (B (r2 == [97])), (B (r2 == [97])) = (B true), BinS Tryz.prog .eql 9 (SK r2) (SK [97, 98]) (B (r2 == [97, 98])), (B (r2 == [97, 98])) = (B true), (B true) = (B true), litA (B true) = true]) (by kernel_rfl) ⟨sEql, (litB c12), sEql, (litB c13), sEql, (litB c14), rfl, rfl, trivial⟩
      · have h := Option.some.inj h
        subst h
        exact go_ret hΘ hm hP hn (hs := [⟨1, .bin (B (r2 == [118])), none⟩, ⟨2, .no, some (B true)⟩, ⟨9, .bin (B (r2 == [97])), none⟩, ⟨10, .no, some (B true)⟩, ⟨22, .bin (B (r2 == [97, 98])), none⟩, ⟨23, .no, some (B false)⟩]) (rh := []) (ph := .raw) (ps := [BinS Tryz.prog .eql 9 (SK r2) (SK [118]) (B (r2 == [118])), (B (r2 == [118])) = (B true), BinS Tryz.prog .eql 9 (SK r2) (SK [97]) (B (r2 == [97])), (B (r2 == [97])) = (B true), BinS Tryz.prog .eql 9 (SK r2) (SK [97, 98]) (B (r2 == [97, 98])), (B (r2 == [97, 98])) = (B false), (B (p1.B == 0)) = (B (p1.B == 0)), litA (B (p1.B == 0)) = true]) (by kernel_rfl) ⟨sEql, (litB c12), sEql, (litB c13), sEql, (litB c15), rfl, rfl, trivial⟩
    · rcases itS h with ⟨c17, h⟩ | ⟨c20, h⟩
      · rcases itS h with ⟨c18, h⟩ | ⟨c19, h⟩
        · have h := Option.some.inj h
          subst h
          exact go_ret hΘ hm hP hn (hs := [⟨1, .bin (B (r2 == [118])), none⟩, ⟨2, .no, some (B true)⟩, ⟨9, .bin (B (r2 == [97])), none⟩, ⟨10, .no, some (B false)⟩, ⟨12, .bin (B (r2 == [97, 98])), none⟩, ⟨14, .no, some (B true)⟩, ⟨22, .bin (B (r2 == [97, 98])), none⟩, ⟨23, .no, some (B true)⟩]) (rh := []) (ph := .raw) (ps := [BinS Tryz.prog .eql 9 (SK r2) (SK [118]) (B (r2 == [118])), (B (r2 == [118])) = (B true), BinS Tryz.prog .eql 9 (SK r2) (SK [97]) (B (r2 == [97])), (B (r2 == [97])) = (B false), BinS Tryz.prog .eql 9 (SK r2) (SK [97, 98]) (B (r2 == [97, 98])), (B (r2 == [97, 98])) = (B true), BinS Tryz.prog .eql 9 (SK r2) (SK [97, 98]) (B (r2 == [97, 98])), (B (r2 == [97, 98])) = (B true), (B true) = (B true), litA (B true) = true]) (by kernel_rfl) ⟨sEql, (litB c12), sEql, (litB c16), sEql, (litB c17), sEql, (litB c18), rfl, rfl, trivial⟩
        · have h := Option.some.inj h
          subst h
          exact go_ret hΘ hm hP hn (hs := [⟨1, .bin (B (r2 == [118])), none⟩, ⟨2, .no, some (B true)⟩, ⟨9, .bin (B (r2 == [97])), none⟩, ⟨10, .no, some (B false)⟩, ⟨12, .bin (B (r2 == [97, 98])), none⟩, ⟨14, .no, some (B true)⟩, ⟨22, .bin (B (r2 == [97, 98])), none⟩, ⟨23, .no, some (B false)⟩]) (rh := []) (ph := .raw) (ps := [BinS Tryz.prog .eql 9 (SK r2) (SK [118]) (B (r2 == [118])), (B (r2 == [118])) = (B true), BinS Tryz.prog .eql 9 (SK r2) (SK [97]) (B (r2 == [97])), (B (r2 == [97])) = (B false), BinS Tryz.prog .eql 9 (SK r2) (SK [97, 98]) (B (r2 == [97, 98])), (B (r2 == [97, 98])) = (B true), BinS Tryz.prog .eql 9 (SK r2) (SK [97, 98]) (B (r2 == [97, 98])), (B (r2 == [97, 98])) = (B false), (B (p1.B == 0)) = (B (p1.B == 0)), litA (B (p1.B == 0)) = true]) (by kernel_rfl) ⟨sEql, (litB c12), sEql, (litB c16), sEql, (litB c17), sEql, (litB c19), rfl, rfl, trivial⟩
      · rcases itS h with ⟨c21, h⟩ | ⟨c24, h⟩
        · rcases itS h with ⟨c22, h⟩ | ⟨c23, h⟩
          · have h := Option.some.inj h
            subst h
            exact go_ret hΘ hm hP hn (hs := [⟨1, .bin (B (r2 == [118])), none⟩, ⟨2, .no, some (B true)⟩, ⟨9, .bin (B (r2 == [97])), none⟩, ⟨10, .no, some (B false)⟩, ⟨12, .bin (B (r2 == [97, 98])), none⟩, ⟨14, .no, some (B false)⟩, ⟨20, .no, some (B true)⟩, ⟨22, .bin (B (r2 == [97, 98])), none⟩, ⟨23, .no, some (B true)⟩]) (rh := []) (ph := .raw) (ps := [BinS Tryz.prog .eql 9 (SK r2) (SK [118]) (B (r2 == [118])), (B (r2 == [118])) = (B true), BinS Tryz.prog .eql 9 (SK r2) (SK [97]) (B (r2 == [97])), (B (r2 == [97])) = (B false), BinS Tryz.prog .eql 9 (SK r2) (SK [97, 98]) (B (r2 == [97, 98])), (B (r2 == [97, 98])) = (B false), (B (p1.A == 0)) = (B true), BinS Tryz.prog .eql 9 (SK r2) (SK [97, 98]) (B (r2 == [97, 98])), (B (r2 == [97, 98])) = (B true), (B true) = (B true), litA (B true) = true]) (by kernel_rfl) ⟨sEql, (litB c12), sEql, (litB c16), sEql, (litB c20), (litB c21), sEql, (litB c22), rfl, rfl, trivial⟩
          · have h := Option.some.inj h
            subst h
            exact go_ret hΘ hm hP hn (hs := [⟨1, .bin (B (r2 == [118])), none⟩, ⟨2, .no, some (B true)⟩, ⟨9, .bin (B (r2 == [97])), none⟩, ⟨10, .no, some (B false)⟩, ⟨12, .bin (B (r2 == [97, 98])), none⟩, ⟨14, .no, some (B false)⟩, ⟨20, .no, some (B true)⟩, ⟨22, .bin (B (r2 == [97, 98])), none⟩, ⟨23, .no, some (B false)⟩]) (rh := []) (ph := .raw) (ps := [BinS Tryz.prog .eql 9 (SK r2) (SK [118]) (B (r2 == [118])), (B (r2 == [118])) = (B true), BinS Tryz.prog .eql 9 (SK r2) (SK [97]) (B (r2 == [97])), (B (r2 == [97])) = (B false), BinS Tryz.prog .eql 9 (SK r2) (SK [97, 98]) (B (r2 == [97, 98])), (B (r2 == [97, 98])) = (B false), (B (p1.A == 0)) = (B true), BinS Tryz.prog .eql 9 (SK r2) (SK [97, 98]) (B (r2 == [97, 98])), (B (r2 == [97, 98])) = (B false), (B (p1.B == 0)) = (B (p1.B == 0)), litA (B (p1.B == 0)) = true]) (by kernel_rfl) ⟨sEql, (litB c12), sEql, (litB c16), sEql, (litB c20), (litB c21), sEql, (litB c23), rfl, rfl, trivial⟩
        · have h := Option.some.inj h
          subst h
          exact go_ret hΘ hm hP hn (hs := [⟨1, .bin (B (r2 == [118])), none⟩, ⟨2, .no, some (B true)⟩, ⟨9, .bin (B (r2 == [97])), none⟩, ⟨10, .no, some (B false)⟩, ⟨12, .bin (B (r2 == [97, 98])), none⟩, ⟨14, .no, some (B false)⟩, ⟨20, .no, some (B false)⟩]) (rh := []) (ph := .raw) (ps := [BinS Tryz.prog .eql 9 (SK r2) (SK [118]) (B (r2 == [118])), (B (r2 == [118])) = (B true), BinS Tryz.prog .eql 9 (SK r2) (SK [97]) (B (r2 == [97])), (B (r2 == [97])) = (B false), BinS Tryz.prog .eql 9 (SK r2) (SK [97, 98]) (B (r2 == [97, 98])), (B (r2 == [97, 98])) = (B false), (B (p1.A == 0)) = (B false), (B false) = (B false), litA (B false) = true]) (by kernel_rfl) ⟨sEql, (litB c12), sEql, (litB c16), sEql, (litB c20), (litB c24), rfl, rfl, trivial⟩
  · obtain ⟨r30, hr30, h⟩ := bnS h
    rcases itS h with ⟨c31, h⟩ | ⟨c44, h⟩
    · rcases itS h with ⟨c32, h⟩ | ⟨c35, h⟩
      · rcases itS h with ⟨c33, h⟩ | ⟨c34, h⟩
        · have h := Option.some.inj h
          subst h
          exact go_ret hΘ hm hP hn (hs := [⟨1, .bin (B (r2 == [118])), none⟩, ⟨2, .no, some (B false)⟩, ⟨5, .callV [] (B r30), none⟩, ⟨7, .no, some (B true)⟩, ⟨9, .bin (B (r2 == [97])), none⟩, ⟨10, .no, some (B true)⟩, ⟨22, .bin (B (r2 == [97, 98])), none⟩, ⟨23, .no, some (B true)⟩]) (rh := []) (ph := .raw) (ps := [BinS Tryz.prog .eql 9 (SK r2) (SK [118]) (B (r2 == [118])), (B (r2 == [118])) = (B false), Meets Tryz.prog 81 [(FK p1.V), (FK 0)] (B r30), litA (B r30) = true, (B r30) = (B true), BinS Tryz.prog .eql 9 (SK r2) (SK [97]) (B (r2 == [97])), (B (r2 == [97])) = (B true), BinS Tryz.prog .eql 9 (SK r2) (SK [97, 98]) (B (r2 == [97, 98])), (B (r2 == [97, 98])) = (B true), (B true) = (B true), litA (B true) = true]) (by kernel_rfl) ⟨sEql, (litB c25), (spec_l1SameNum_m hr30), rfl, (litB c31), sEql, (litB c32), sEql, (litB c33), rfl, rfl, trivial⟩
        · have h := Option.some.inj h
          subst h
          exact go_ret hΘ hm hP hn (hs := [⟨1, .bin (B (r2 == [118])), none⟩, ⟨2, .no, some (B false)⟩, ⟨5, .callV [] (B r30), none⟩, ⟨7, .no, some (B true)⟩, ⟨9, .bin (B (r2 == [97])), none⟩, ⟨10, .no, some (B true)⟩, ⟨22, .bin (B (r2 == [97, 98])), none⟩, ⟨23, .no, some (B false)⟩]) (rh := []) (ph := .raw) (ps := [BinS Tryz.prog .eql 9 (SK r2) (SK [118]) (B (r2 == [118])), (B (r2 == [118])) = (B false), Meets Tryz.prog 81 [(FK p1.V), (FK 0)] (B r30), litA (B r30) = true, (B r30) = (B true), BinS Tryz.prog .eql 9 (SK r2) (SK [97]) (B (r2 == [97])), (B (r2 == [97])) = (B true), BinS Tryz.prog .eql 9 (SK r2) (SK [97, 98]) (B (r2 == [97, 98])), (B (r2 == [97, 98])) = (B false), (B (p1.B == 0)) = (B (p1.B == 0)), litA (B (p1.B == 0)) = true]) (by kernel_rfl) ⟨sEql, (litB c25), (spec_l1SameNum_m hr30), rfl, (litB c31), sEql, (litB c32), sEql, (litB c34), rfl, rfl, trivial⟩
      · rcases itS h with ⟨c36, h⟩ | ⟨c39, h⟩
        · rcases itS h with ⟨c37, h⟩ | ⟨c38, h⟩
          · have h := Option.some.inj h
            subst h
            exact go_ret hΘ hm hP hn (hs := [⟨1, .bin (B (r2 == [118])), none⟩, ⟨2, .no, some (B false)⟩, ⟨5, .callV [] (B r30), none⟩, ⟨7, .no, some (B true)⟩, ⟨9, .bin (B (r2 == [97])), none⟩, ⟨10, .no, some (B false)⟩, ⟨12, .bin (B (r2 == [97, 98])), none⟩, ⟨14, .no, some (B true)⟩, ⟨22, .bin (B (r2 == [97, 98])), none⟩, ⟨23, .no, some (B true)⟩]) (rh := []) (ph := .raw) (ps := [BinS Tryz.prog .eql 9 (SK r2) (SK [118]) (B (r2 == [118])), (B (r2 == [118])) = (B false), Meets Tryz.prog 81 [(FK p1.V), (FK 0)] (B r30), litA (B r30) = true, (B r30) = (B true), BinS Tryz.prog .eql 9 (SK r2) (SK [97]) (B (r2 == [97])), (B (r2 == [97])) = (B false), BinS Tryz.prog .eql 9 (SK r2) (SK [97, 98]) (B (r2 == [97, 98])), (B (r2 == [97, 98])) = (B true), BinS Tryz.prog .eql 9 (SK r2) (SK [97, 98]) (B (r2 == [97, 98])), (B (r2 == [97, 98])) = (B true), (B true) = (B true), litA (B true) = true]) (by kernel_rfl) ⟨sEql, (litB c25), (spec_l1SameNum_m hr30), rfl, (litB c31), sEql, (litB c35), sEql, (litB c36), sEql, (litB c37), rfl, rfl, trivial⟩
          · have h := Option.some.inj h
            subst h
            exact go_ret hΘ hm hP hn (hs := [⟨1, .bin (B (r2 == [118])), none⟩, ⟨2, .no, some (B false)⟩, ⟨5, .callV [] (B r30), none⟩, ⟨7, .no, some (B true)⟩, ⟨9, .bin (B (r2 == [97])), none⟩, ⟨10, .no, some (B false)⟩, ⟨12, .bin (B (r2 == [97, 98])), none⟩, ⟨14, .no, some (B true)⟩, ⟨22, .bin (B (r2 == [97, 98])), none⟩, ⟨23, .no, some (B false)⟩]) (rh := []) (ph := .raw) (ps := [BinS Tryz.prog .eql 9 (SK r2) (SK [118]) (B (r2 == [118])), (B (r2 == [118])) = (B false), Meets Tryz.prog 81 [(FK p1.V), (FK 0)] (B r30), litA (B r30) = true, (B r30) = (B true), BinS Tryz.prog .eql 9 (SK r2) (SK [97]) (B (r2 == [97])), (B (r2 == [97])) = (B false), BinS Tryz.prog .eql 9 (SK r2) (SK [97, 98]) (B (r2 == [97, 98])), (B (r2 == [97, 98])) = (B true), BinS Tryz.prog .eql 9 (SK r2) (SK [97, 98]) (B (r2 == [97, 98])), (B (r2 == [97, 98])) = (B false), (B (p1.B == 0)) = (B (p1.B == 0)), litA (B (p1.B == 0)) = true]) (by kernel_rfl) ⟨sEql, (litB c25), (spec_l1SameNum_m hr30), rfl, (litB c31), sEql, (litB c35), sEql, (litB c36), sEql, (litB c38), rfl, rfl, trivial⟩
        · rcases itS h with ⟨c40, h⟩ | ⟨c43, h⟩
          · rcases itS h with ⟨c41, h⟩ | ⟨c42, h⟩
            · have h := Option.some.inj h
              subst h
              exact go_ret hΘ hm hP hn (hs := [⟨1, .bin (B (r2 == [118])), none⟩, ⟨2, .no, some (B false)⟩, ⟨5, .callV [] (B r30), none⟩, ⟨7, .no, some (B true)⟩, ⟨9, .bin (B (r2 == [97])), none⟩, ⟨10, .no, some (B false)⟩, ⟨12, .bin (B (r2 == [97, 98])), none⟩, ⟨14, .no, some (B false)⟩, ⟨20, .no, some (B true)⟩, ⟨22, .bin (B (r2 == [97, 98])), none⟩, ⟨23, .no, some (B true)⟩]) (rh := []) (ph := .raw) (ps := [BinS Tryz.prog .eql 9 (SK r2) (SK [118]) (B (r2 == [118])), (B (r2 == [118])) = (B false), Meets Tryz.prog 81 [(FK p1.V), (FK 0)] (B r30), litA (B r30) = true, (B r30) = (B true), BinS Tryz.prog .eql 9 (SK r2) (SK [97]) (B (r2 == [97])), (B (r2 == [97])) = (B false), BinS Tryz.prog .eql 9 (SK r2) (SK [97, 98]) (B (r2 == [97, 98])), (B (r2 == [97, 98])) = (B false), (B (p1.A == 0)) = (B true), BinS Tryz.prog .eql 9 (SK r2) (SK [97, 98]) (B (r2 == [97, 98])), (B (r2 == [97, 98])) = (B true), (B true) = (B true), litA (B true) = true]) (by kernel_rfl) ⟨sEql, (litB c25), (spec_l1SameNum_m hr30), rfl, (litB c31), sEql, (litB c35), sEql, (litB c39), (litB c40), sEql, (litB c41), rfl, rfl, trivial⟩
            · have h := Option.some.inj h
              subst h
              exact go_ret hΘ hm hP hn (hs := [⟨1, .bin (B (r2 == [118])), none⟩, ⟨2, .no, some (B false)⟩, ⟨5, .callV [] (B r30), none⟩, ⟨7, .no, some (B true)⟩, ⟨9, .bin (B (r2 == [97])), none⟩, ⟨10, .no, some (B false)⟩, ⟨12, .bin (B (r2 == [97, 98])), none⟩, ⟨14, .no, some (B false)⟩, ⟨20, .no, some (B true)⟩, ⟨22, .bin (B (r2 == [97, 98])), none⟩, ⟨23, .no, some (B false)⟩]) (rh := []) (ph := .raw) (ps := [BinS Tryz.prog .eql 9 (SK r2) (SK [118]) (B (r2 == [118])), (B (r2 == [118])) = (B false), Meets Tryz.prog 81 [(FK p1.V), (FK 0)] (B r30), litA (B r30) = true, (B r30) = (B true), BinS Tryz.prog .eql 9 (SK r2) (SK [97]) (B (r2 == [97])), (B (r2 == [97])) = (B false), BinS Tryz.prog .eql 9 (SK r2) (SK [97, 98]) (B (r2 == [97, 98])), (B (r2 == [97, 98])) = (B false), (B (p1.A == 0)) = (B true), BinS Tryz.prog .eql 9 (SK r2) (SK [97, 98]) (B (r2 == [97, 98])), (B (r2 == [97, 98])) = (B false), (B (p1.B == 0)) = (B (p1.B == 0)), litA (B (p1.B == 0)) = true]) (by kernel_rfl) ⟨sEql, (litB c25), (spec_l1SameNum_m hr30), rfl, (litB c31), sEql, (litB c35), sEql, (litB c39), (litB c40), sEql, (litB c42), rfl, rfl, trivial⟩
          · have h := Option.some.inj h
            subst h
            exact go_ret hΘ hm hP hn (hs := [⟨1, .bin (B (r2 == [118])), none⟩, ⟨2, .no, some (B false)⟩, ⟨5, .callV [] (B r30), none⟩, ⟨7, .no, some (B true)⟩, ⟨9, .bin (B (r2 == [97])), none⟩, ⟨10, .no, some (B false)⟩, ⟨12, .bin (B (r2 == [97, 98])), none⟩, ⟨14, .no, some (B false)⟩, ⟨20, .no, some (B false)⟩]) (rh := []) (ph := .raw) (ps := [BinS Tryz.prog .eql 9 (SK r2) (SK [118]) (B (r2 == [118])), (B (r2 == [118])) = (B false), Meets Tryz.prog 81 [(FK p1.V), (FK 0)] (B r30), litA (B r30) = true, (B r30) = (B true), BinS Tryz.prog .eql 9 (SK r2) (SK [97]) (B (r2 == [97])), (B (r2 == [97])) = (B false), BinS Tryz.prog .eql 9 (SK r2) (SK [97, 98]) (B (r2 == [97, 98])), (B (r2 == [97, 98])) = (B false), (B (p1.A == 0)) = (B false), (B false) = (B false), litA (B false) = true]) (by kernel_rfl) ⟨sEql, (litB c25), (spec_l1SameNum_m hr30), rfl, (litB c31), sEql, (litB c35), sEql, (litB c39), (litB c43), rfl, rfl, trivial⟩
    · have h := Option.some.inj h
      subst h
      exact go_ret hΘ hm hP hn (hs := [⟨1, .bin (B (r2 == [118])), none⟩, ⟨2, .no, some (B false)⟩, ⟨5, .callV [] (B r30), none⟩, ⟨7, .no, some (B false)⟩]) (rh := []) (ph := .raw) (ps := [BinS Tryz.prog .eql 9 (SK r2) (SK [118]) (B (r2 == [118])), (B (r2 == [118])) = (B false), Meets Tryz.prog 81 [(FK p1.V), (FK 0)] (B r30), litA (B r30) = true, (B r30) = (B false), (B false) = (B false), litA (B false) = true]) (by kernel_rfl) ⟨sEql, (litB c25), (spec_l1SameNum_m hr30), rfl, (litB c44), rfl, rfl, trivial⟩
noncomputable def spec_l2Plain (p1 : GOp) : Option Bool :=
  Option.bind (spec_l2Uses p1.Code) fun r2 =>
  Option.bind (spec_l1In p1.Code 1 17) fun r3 =>
  if (!r3) = true then
    some false
  else
    Option.bind (spec_l1In p1.A 0 999) fun r6 =>
    if (!r6) = true then
      some false
    else
      Option.bind (spec_l1In p1.B 0 999) fun r9 =>
      if (!r9) = true then
        some false
      else
        spec_l2Plain_j0 p1 r2
theorem spec_l2Plain_m {p1 : GOp} {r : Bool} (h : spec_l2Plain p1 = some r) : Meets Tryz.prog 67 [(AV.agg ((o77 p1)))] (B r) := by
  refine meets_ofC Θ_ok Tryz.func67 rfl (c := body67) (by kernel_rfl) (Nat.le_of_ble_eq_true rfl) ?_
  intro E hP hn hx
  replace hn : E.n = 52 := hn
  have hm : E.P.follows .mixedOrders = true := by rw [hP]; exact mixed
  have hΘ : TOK E.P Θ := by rw [hP]; exact Θ_ok
  unfold spec_l2Plain at h
  show WAt E body67 (FQ (RetE Θ Tryz.f67.results.toList [] [] (B r) E)) [] ⟨[(0, (AV.agg ((o77 p1))))], [], [JJ]⟩
  obtain ⟨r2, hr2, h⟩ := bnS h
  obtain ⟨r3, hr3, h⟩ := bnS h
  rcases itS h with ⟨c4, h⟩ | ⟨c5, h⟩
  · have h := Option.some.inj h
    subst h
    exact go_ret hΘ hm hP hn (hs := [⟨0, .new 1001, none⟩, ⟨4, .callV [] (SK r2), none⟩, ⟨8, .callV [] (B r3), none⟩, ⟨10, .no, some (B true)⟩]) (rh := []) (ph := .raw) (ps := [Meets Tryz.prog 80 [(I p1.Code)] (SK r2), litA (SK r2) = true, Meets Tryz.prog 17 [(I p1.Code), (I 1), (I 17)] (B r3), litA (B r3) = true, (B (!r3)) = (B true), (B false) = (B false), litA (B false) = true]) (by kernel_rfl) ⟨(spec_l2Uses_m hr2), rfl, (spec_l1In_m hr3), rfl, (litB c4), rfl, rfl, trivial⟩
  · obtain ⟨r6, hr6, h⟩ := bnS h
    rcases itS h with ⟨c7, h⟩ | ⟨c8, h⟩
    · have h := Option.some.inj h
      subst h
      exact go_ret hΘ hm hP hn (hs := [⟨0, .new 1001, none⟩, ⟨4, .callV [] (SK r2), none⟩, ⟨8, .callV [] (B r3), none⟩, ⟨10, .no, some (B false)⟩, ⟨13, .callV [] (B r6), none⟩, ⟨16, .no, some (B true)⟩]) (rh := []) (ph := .raw) (ps := [Meets Tryz.prog 80 [(I p1.Code)] (SK r2), litA (SK r2) = true, Meets Tryz.prog 17 [(I p1.Code), (I 1), (I 17)] (B r3), litA (B r3) = true, (B (!r3)) = (B false), Meets Tryz.prog 17 [(I p1.A), (I 0), (I 999)] (B r6), litA (B r6) = true, (B (!r6)) = (B true), (B false) = (B false), litA (B false) = true]) (by kernel_rfl) ⟨(spec_l2Uses_m hr2), rfl, (spec_l1In_m hr3), rfl, (litB c5), (spec_l1In_m hr6), rfl, (litB c7), rfl, rfl, trivial⟩
    · obtain ⟨r9, hr9, h⟩ := bnS h
      rcases itS h with ⟨c10, h⟩ | ⟨c11, h⟩
      · have h := Option.some.inj h
        subst h
        exact go_ret hΘ hm hP hn (hs := [⟨0, .new 1001, none⟩, ⟨4, .callV [] (SK r2), none⟩, ⟨8, .callV [] (B r3), none⟩, ⟨10, .no, some (B false)⟩, ⟨13, .callV [] (B r6), none⟩, ⟨16, .no, some (B false)⟩, ⟨19, .callV [] (B r9), none⟩, ⟨22, .br true, none⟩]) (rh := []) (ph := .raw) (ps := [Meets Tryz.prog 80 [(I p1.Code)] (SK r2), litA (SK r2) = true, Meets Tryz.prog 17 [(I p1.Code), (I 1), (I 17)] (B r3), litA (B r3) = true, (B (!r3)) = (B false), Meets Tryz.prog 17 [(I p1.A), (I 0), (I 999)] (B r6), litA (B r6) = true, (B (!r6)) = (B false), Meets Tryz.prog 17 [(I p1.B), (I 0), (I 999)] (B r9), litA (B r9) = true, (!r9) = true, (B false) = (B false), litA (B false) = true]) (by kernel_rfl) ⟨(spec_l2Uses_m hr2), rfl, (spec_l1In_m hr3), rfl, (litB c5), (spec_l1In_m hr6), rfl, (litB c8), (spec_l1In_m hr9), rfl, c10, rfl, rfl, trivial⟩
      · exact go_to hΘ hm hx hP hn (hs := [⟨0, .new 1001, none⟩, ⟨4, .callV [] (SK r2), none⟩, ⟨8, .callV [] (B r3), none⟩, ⟨10, .no, some (B false)⟩, ⟨13, .callV [] (B r6), none⟩, ⟨16, .no, some (B false)⟩, ⟨19, .callV [] (B r9), none⟩, ⟨22, .br false, none⟩]) (π := [(1001, 1)]) (ts := [1, 3]) (kp := []) (ps := [Meets Tryz.prog 80 [(I p1.Code)] (SK r2), litA (SK r2) = true, Meets Tryz.prog 17 [(I p1.Code), (I 1), (I 17)] (B r3), litA (B r3) = true, (B (!r3)) = (B false), Meets Tryz.prog 17 [(I p1.A), (I 0), (I 999)] (B r6), litA (B r6) = true, (B (!r6)) = (B false), Meets Tryz.prog 17 [(I p1.B), (I 0), (I 999)] (B r9), litA (B r9) = true, (!r9) = false, RenOK [(1001, 1)] [((o77 p1))]]) (by kernel_rfl) ⟨(spec_l2Uses_m hr2), rfl, (spec_l1In_m hr3), rfl, (litB c5), (spec_l1In_m hr6), rfl, (litB c8), (spec_l1In_m hr9), rfl, c11, (rok rfl), trivial⟩ (spec_l2Plain_j0_m hP hn hx p1 r2  _ h)
noncomputable def body40 : Code := match Tryz.f40.body with | some c => c | none => .skip
noncomputable def spec_l2Op_j2  (p1 : GProg) (p3 : GOp) (v16 : Bool) : Option Bool :=
  if v16 = true then
    some (decide (p3.A < p1.Locks))
  else
    if (p3.Code == 14) = true then
      some (decide (p3.A < (p1.Routines.length : Int)))
    else
      if (p3.Code == 16) = true then
        if (decide (p3.A < p1.Conds)) = true then
          some (decide (p3.B < p1.Locks))
        else
          some false
      else
        if (p3.Code == 17) = true then
          some (decide (p3.A < p1.Conds))
        else
          some true
theorem spec_l2Op_j2_m {E : Env} (hP : E.P = Tryz.prog) (hn : E.n = 64) (hx : ∀ p, p ∈ E.fx → p.1 ∈ ([] : List Nat)) (p1 : GProg) (p3 : GOp)  (v16 : Bool) (r : Bool) (h : spec_l2Op_j2 p1 p3 v16 = some r) : WAt E body40 (FQ (RetE Θ Tryz.f40.results.toList [] [] (B r) E)) [true, true, false, true, false, true, true, true, true, true] ⟨[(3, (AV.ptr 1 0 0)), (5, (AV.ptr 2 0 0)), (11, (I p3.Code)), (27, (B v16))], [(1, some ⟨34, 4, [((r34 p1))]⟩), (2, some ⟨77, 4, [((o77 p3))]⟩)], [1, 2, JJ]⟩ := by
  have hm : E.P.follows .mixedOrders = true := by rw [hP]; exact mixed
  have hΘ : TOK E.P Θ := by rw [hP]; exact Θ_ok
  unfold spec_l2Op_j2 at h
  rcases itS h with ⟨c17, h⟩ | ⟨c18, h⟩
  · have h := Option.some.inj h
    subst h
    exact go_ret hΘ hm hP hn (hs := [⟨0, .br true, none⟩]) (rh := []) (ph := .raw) (ps := [v16 = true, (B (decide (p3.A < p1.Locks))) = (B (decide (p3.A < p1.Locks))), litA (B (decide (p3.A < p1.Locks))) = true]) (by kernel_rfl) ⟨c17, rfl, rfl, trivial⟩
  · rcases itS h with ⟨c19, h⟩ | ⟨c20, h⟩
    · have h := Option.some.inj h
      subst h
      exact go_ret hΘ hm hP hn (hs := [⟨0, .br false, none⟩, ⟨3, .br true, none⟩, ⟨8, .no, some (I (p1.Routines.length : Int))⟩]) (rh := []) (ph := .raw) (ps := [v16 = false, (p3.Code == 14) = true, AV.lit (.int .i64 (((p1.Routines.map r74).length : Nat) : Int)) = (I (p1.Routines.length : Int)), (B (decide (p3.A < (p1.Routines.length : Int)))) = (B (decide (p3.A < (p1.Routines.length : Int)))), litA (B (decide (p3.A < (p1.Routines.length : Int)))) = true]) (by kernel_rfl) ⟨c18, c19, (lenM r74), rfl, rfl, trivial⟩
    · rcases itS h with ⟨c21, h⟩ | ⟨c24, h⟩
      · rcases itS h with ⟨c22, h⟩ | ⟨c23, h⟩
        · have h := Option.some.inj h
          subst h
          exact go_ret hΘ hm hP hn (hs := [⟨0, .br false, none⟩, ⟨3, .br false, none⟩, ⟨6, .br true, none⟩, ⟨12, .no, some (B true)⟩]) (rh := []) (ph := .raw) (ps := [v16 = false, (p3.Code == 14) = false, (p3.Code == 16) = true, (B (decide (p3.A < p1.Conds))) = (B true), (B (decide (p3.B < p1.Locks))) = (B (decide (p3.B < p1.Locks))), litA (B (decide (p3.B < p1.Locks))) = true]) (by kernel_rfl) ⟨c18, c20, c21, (litB c22), rfl, rfl, trivial⟩
        · have h := Option.some.inj h
          subst h
          exact go_ret hΘ hm hP hn (hs := [⟨0, .br false, none⟩, ⟨3, .br false, none⟩, ⟨6, .br true, none⟩, ⟨12, .no, some (B false)⟩]) (rh := []) (ph := .raw) (ps := [v16 = false, (p3.Code == 14) = false, (p3.Code == 16) = true, (B (decide (p3.A < p1.Conds))) = (B false), (B false) = (B false), litA (B false) = true]) (by kernel_rfl) ⟨c18, c20, c21, (litB c23), rfl, rfl, trivial⟩
      · rcases itS h with ⟨c25, h⟩ | ⟨c26, h⟩
        · have h := Option.some.inj h
          subst h
          exact go_ret hΘ hm hP hn (hs := [⟨0, .br false, none⟩, ⟨3, .br false, none⟩, ⟨6, .br false, none⟩, ⟨9, .br true, none⟩]) (rh := []) (ph := .raw) (ps := [v16 = false, (p3.Code == 14) = false, (p3.Code == 16) = false, (p3.Code == 17) = true, (B (decide (p3.A < p1.Conds))) = (B (decide (p3.A < p1.Conds))), litA (B (decide (p3.A < p1.Conds))) = true]) (by kernel_rfl) ⟨c18, c20, c24, c25, rfl, rfl, trivial⟩
        · have h := Option.some.inj h
          subst h
          exact go_ret hΘ hm hP hn (hs := [⟨0, .br false, none⟩, ⟨3, .br false, none⟩, ⟨6, .br false, none⟩, ⟨9, .br false, none⟩]) (rh := []) (ph := .raw) (ps := [v16 = false, (p3.Code == 14) = false, (p3.Code == 16) = false, (p3.Code == 17) = false, (B true) = (B true), litA (B true) = true]) (by kernel_rfl) ⟨c18, c20, c24, c26, rfl, rfl, trivial⟩
noncomputable def spec_l2Op_j1  (p1 : GProg) (p2 : Int) (p3 : GOp) (v12 : Bool) : Option Bool :=
  if v12 = true then
    some (decide (p3.A ≤ p2))
  else
    if (p3.Code == 12) = true then
      spec_l2Op_j2 p1 p3 (p3.Code == 12)
    else
      spec_l2Op_j2 p1 p3 (p3.Code == 13)
theorem spec_l2Op_j1_m {E : Env} (hP : E.P = Tryz.prog) (hn : E.n = 64) (hx : ∀ p, p ∈ E.fx → p.1 ∈ ([] : List Nat)) (p1 : GProg) (p2 : Int) (p3 : GOp)  (v12 : Bool) (r : Bool) (h : spec_l2Op_j1 p1 p2 p3 v12 = some r) : WAt E body40 (FQ (RetE Θ Tryz.f40.results.toList [] [] (B r) E)) [true, true, false, true, false, true, true, true] ⟨[(1, (I p2)), (3, (AV.ptr 1 0 0)), (5, (AV.ptr 2 0 0)), (11, (I p3.Code)), (20, (B v12))], [(1, some ⟨34, 4, [((r34 p1))]⟩), (2, some ⟨77, 4, [((o77 p3))]⟩)], [1, 2, JJ]⟩ := by
  have hm : E.P.follows .mixedOrders = true := by rw [hP]; exact mixed
  have hΘ : TOK E.P Θ := by rw [hP]; exact Θ_ok
  unfold spec_l2Op_j1 at h
  rcases itS h with ⟨c13, h⟩ | ⟨c14, h⟩
  · have h := Option.some.inj h
    subst h
    exact go_ret hΘ hm hP hn (hs := [⟨0, .br true, none⟩]) (rh := []) (ph := .raw) (ps := [v12 = true, (B (decide (p3.A ≤ p2))) = (B (decide (p3.A ≤ p2))), litA (B (decide (p3.A ≤ p2))) = true]) (by kernel_rfl) ⟨c13, rfl, rfl, trivial⟩
  · rcases itS h with ⟨c15, h⟩ | ⟨c27, h⟩
    · exact go_to hΘ hm hx hP hn (hs := [⟨0, .br false, none⟩, ⟨3, .br true, none⟩]) (π := [(1, 1), (2, 2)]) (ts := [3, 5, 11, 27]) (kp := []) (ps := [v12 = false, (p3.Code == 12) = true, RenOK [(1, 1), (2, 2)] [((r34 p1))], RenOK [(1, 1), (2, 2)] [((o77 p3))]]) (by kernel_rfl) ⟨c14, c15, (rok (treeB t34 p1)), (rok rfl), trivial⟩ (spec_l2Op_j2_m hP hn hx p1 p3 (p3.Code == 12) _ h)
    · exact go_to hΘ hm hx hP hn (hs := [⟨0, .br false, none⟩, ⟨3, .br false, none⟩]) (π := [(1, 1), (2, 2)]) (ts := [3, 5, 11, 27]) (kp := []) (ps := [v12 = false, (p3.Code == 12) = false, RenOK [(1, 1), (2, 2)] [((r34 p1))], RenOK [(1, 1), (2, 2)] [((o77 p3))]]) (by kernel_rfl) ⟨c14, c27, (rok (treeB t34 p1)), (rok rfl), trivial⟩ (spec_l2Op_j2_m hP hn hx p1 p3 (p3.Code == 13) _ h)
noncomputable def spec_l2Op_j0  (p1 : GProg) (p2 : Int) (p3 : GOp) (v8 : Bool) : Option Bool :=
  if v8 = true then
    some (decide (p3.A < p1.Cells))
  else
    if (p3.Code == 10) = true then
      spec_l2Op_j1 p1 p2 p3 (p3.Code == 10)
    else
      spec_l2Op_j1 p1 p2 p3 (p3.Code == 11)
theorem spec_l2Op_j0_m {E : Env} (hP : E.P = Tryz.prog) (hn : E.n = 64) (hx : ∀ p, p ∈ E.fx → p.1 ∈ ([] : List Nat)) (p1 : GProg) (p2 : Int) (p3 : GOp)  (v8 : Bool) (r : Bool) (h : spec_l2Op_j0 p1 p2 p3 v8 = some r) : WAt E body40 (FQ (RetE Θ Tryz.f40.results.toList [] [] (B r) E)) [true, true, false, true, false, true] ⟨[(1, (I p2)), (3, (AV.ptr 1 0 0)), (5, (AV.ptr 2 0 0)), (11, (I p3.Code)), (12, (B v8))], [(1, some ⟨34, 4, [((r34 p1))]⟩), (2, some ⟨77, 4, [((o77 p3))]⟩)], [1, 2, JJ]⟩ := by
  have hm : E.P.follows .mixedOrders = true := by rw [hP]; exact mixed
  have hΘ : TOK E.P Θ := by rw [hP]; exact Θ_ok
  unfold spec_l2Op_j0 at h
  rcases itS h with ⟨c9, h⟩ | ⟨c10, h⟩
  · have h := Option.some.inj h
    subst h
    exact go_ret hΘ hm hP hn (hs := [⟨0, .br true, none⟩]) (rh := []) (ph := .raw) (ps := [v8 = true, (B (decide (p3.A < p1.Cells))) = (B (decide (p3.A < p1.Cells))), litA (B (decide (p3.A < p1.Cells))) = true]) (by kernel_rfl) ⟨c9, rfl, rfl, trivial⟩
  · rcases itS h with ⟨c11, h⟩ | ⟨c28, h⟩
    · exact go_to hΘ hm hx hP hn (hs := [⟨0, .br false, none⟩, ⟨3, .br true, none⟩]) (π := [(1, 1), (2, 2)]) (ts := [1, 3, 5, 11, 20]) (kp := []) (ps := [v8 = false, (p3.Code == 10) = true, RenOK [(1, 1), (2, 2)] [((r34 p1))], RenOK [(1, 1), (2, 2)] [((o77 p3))]]) (by kernel_rfl) ⟨c10, c11, (rok (treeB t34 p1)), (rok rfl), trivial⟩ (spec_l2Op_j1_m hP hn hx p1 p2 p3 (p3.Code == 10) _ h)
    · exact go_to hΘ hm hx hP hn (hs := [⟨0, .br false, none⟩, ⟨3, .br false, none⟩]) (π := [(1, 1), (2, 2)]) (ts := [1, 3, 5, 11, 20]) (kp := []) (ps := [v8 = false, (p3.Code == 10) = false, RenOK [(1, 1), (2, 2)] [((r34 p1))], RenOK [(1, 1), (2, 2)] [((o77 p3))]]) (by kernel_rfl) ⟨c10, c28, (rok (treeB t34 p1)), (rok rfl), trivial⟩ (spec_l2Op_j1_m hP hn hx p1 p2 p3 (p3.Code == 11) _ h)
noncomputable def spec_l2Op (p1 : GProg) (p2 : Int) (p3 : GOp) : Option Bool :=
  Option.bind (spec_l2Plain p3) fun r4 =>
  if (!r4) = true then
    some false
  else
    if (p3.Code == 2) = true then
      spec_l2Op_j0 p1 p2 p3 (p3.Code == 2)
    else
      spec_l2Op_j0 p1 p2 p3 (p3.Code == 3)
theorem spec_l2Op_m {p1 : GProg} {p2 : Int} {p3 : GOp} {r : Bool} (h : spec_l2Op p1 p2 p3 = some r) : Meets Tryz.prog 40 [(AV.agg ((r34 p1))), (I p2), (AV.agg ((o77 p3)))] (B r) := by
  refine meets_ofC Θ_ok Tryz.func40 rfl (c := body40) (by kernel_rfl) (Nat.le_of_ble_eq_true rfl) ?_
  intro E hP hn hx
  replace hn : E.n = 64 := hn
  have hm : E.P.follows .mixedOrders = true := by rw [hP]; exact mixed
  have hΘ : TOK E.P Θ := by rw [hP]; exact Θ_ok
  unfold spec_l2Op at h
  show WAt E body40 (FQ (RetE Θ Tryz.f40.results.toList [] [] (B r) E)) [] ⟨[(0, (AV.agg ((r34 p1)))), (1, (I p2)), (2, (AV.agg ((o77 p3))))], [], [JJ]⟩
  obtain ⟨r4, hr4, h⟩ := bnS h
  rcases itS h with ⟨c5, h⟩ | ⟨c6, h⟩
  · have h := Option.some.inj h
    subst h
    exact go_ret hΘ hm hP hn (hs := [⟨0, .new 1001, none⟩, ⟨1, .new 1002, none⟩, ⟨4, .callV [[]] (B r4), none⟩, ⟨6, .br true, none⟩]) (rh := []) (ph := .raw) (ps := [Meets Tryz.prog 67 [(AV.agg ((o77 p3)))] (B r4), litA (B r4) = true, (!r4) = true, (B false) = (B false), litA (B false) = true]) (by kernel_rfl) ⟨(spec_l2Plain_m hr4), rfl, c5, rfl, rfl, trivial⟩
  · rcases itS h with ⟨c7, h⟩ | ⟨c29, h⟩
    · exact go_to hΘ hm hx hP hn (hs := [⟨0, .new 1001, none⟩, ⟨1, .new 1002, none⟩, ⟨4, .callV [[]] (B r4), none⟩, ⟨6, .br false, none⟩, ⟨11, .br true, none⟩]) (π := [(1001, 1), (1002, 2)]) (ts := [1, 3, 5, 11, 12]) (kp := []) (ps := [Meets Tryz.prog 67 [(AV.agg ((o77 p3)))] (B r4), litA (B r4) = true, (!r4) = false, (p3.Code == 2) = true, RenOK [(1001, 1), (1002, 2)] [((r34 p1))], RenOK [(1001, 1), (1002, 2)] [((o77 p3))]]) (by kernel_rfl) ⟨(spec_l2Plain_m hr4), rfl, c6, c7, (rok (treeB t34 p1)), (rok rfl), trivial⟩ (spec_l2Op_j0_m hP hn hx p1 p2 p3 (p3.Code == 2) _ h)
    · exact go_to hΘ hm hx hP hn (hs := [⟨0, .new 1001, none⟩, ⟨1, .new 1002, none⟩, ⟨4, .callV [[]] (B r4), none⟩, ⟨6, .br false, none⟩, ⟨11, .br false, none⟩]) (π := [(1001, 1), (1002, 2)]) (ts := [1, 3, 5, 11, 12]) (kp := []) (ps := [Meets Tryz.prog 67 [(AV.agg ((o77 p3)))] (B r4), litA (B r4) = true, (!r4) = false, (p3.Code == 2) = false, RenOK [(1001, 1), (1002, 2)] [((r34 p1))], RenOK [(1001, 1), (1002, 2)] [((o77 p3))]]) (by kernel_rfl) ⟨(spec_l2Plain_m hr4), rfl, c6, c29, (rok (treeB t34 p1)), (rok rfl), trivial⟩ (spec_l2Op_j0_m hP hn hx p1 p2 p3 (p3.Code == 3) _ h)
noncomputable def body14 : Code := match Tryz.f14.body with | some c => c | none => .skip
noncomputable def spec_GoodProg_l1 (K0 : GProg → Int → Option Bool) (p1 : GProg) (v15 : Int) (x17 : (List GOp)) : Nat → GProg → Int → Option Bool
  | 0, _, _ => none
  | n + 1, a18, v19 =>
  if (decide (v19 < (x17.length : Int))) = true then
    Option.bind (rd x17 v19) fun x21 =>
    Option.bind (spec_l2Op a18 (x17.length : Int) x21) fun r30 =>
    if (!r30) = true then
      some false
    else
      spec_GoodProg_l1 K0 p1 v15 x17 n a18 (w64 (v19 + 1))
  else
    if (decide ((x17.length : Int) > 24)) = true then
      some false
    else
      K0 a18 (w64 (v15 + 1))
theorem spec_GoodProg_l1_m {E : Env} (hP : E.P = Tryz.prog) (hn : E.n = 54) (hx : ∀ p, p ∈ E.fx → p.1 ∈ ([] : List Nat)) (p1 : GProg) (v15 : Int) (x17 : (List GOp)) {K0 : GProg → Int → Option Bool} (hK0 : ∀ (a14 : GProg) (v15 : Int) (r : Bool), K0 a14 v15 = some r → WAt E body14 (FQ (RetE Θ Tryz.f14.results.toList [] [] (B r) E)) [true, true, false, true, false] ⟨[(1, (AV.ptr 1 0 0)), (31, (AV.ro 1 (p1.Routines.map r74))), (32, (I (p1.Routines.length : Int))), (33, (I v15))], [(1, some ⟨34, 4, [((r34 a14))]⟩)], [1, JJ]⟩) : ∀ (n : Nat) (a18 : GProg) (v19 : Int) (r : Bool), spec_GoodProg_l1 K0 p1 v15 x17 n a18 v19 = some r → WAt E body14 (FQ (RetE Θ Tryz.f14.results.toList [] [] (B r) E)) [true, true, false, true, false, false, true, true, false, false, true, false, true, false] ⟨[(1, (AV.ptr 1 0 0)), (4, (AV.ro 4 (x17.map o77))), (31, (AV.ro 1 (p1.Routines.map r74))), (32, (I (p1.Routines.length : Int))), (33, (I v15)), (37, (AV.ro 4 (x17.map o77))), (38, (I (x17.length : Int))), (39, (I v19))], [(1, some ⟨34, 4, [((r34 a18))]⟩)], [1, JJ]⟩ := by
  have hm : E.P.follows .mixedOrders = true := by rw [hP]; exact mixed
  have hΘ : TOK E.P Θ := by rw [hP]; exact Θ_ok
  intro n
  induction n with
  | zero => intro a18 v19 r h; simp only [spec_GoodProg_l1] at h; cases h
  | succ n ih =>
    intro a18 v19 r h
    simp only [spec_GoodProg_l1] at h
    rcases itS h with ⟨c20, h⟩ | ⟨c33, h⟩
    · obtain ⟨x21, hx21, h⟩ := bnS h
      obtain ⟨r30, hr30, h⟩ := bnS h
      rcases itS h with ⟨c31, h⟩ | ⟨c32, h⟩
      · have h := Option.some.inj h
        subst h
        exact go_ret hΘ hm hP hn (hs := [⟨1, .br true, none⟩, ⟨2, .row (o77 x21), none⟩, ⟨4, .new 1001, none⟩, ⟨8, .no, some (I (x17.length : Int))⟩, ⟨10, .callV [[], []] (B r30), none⟩, ⟨12, .br true, none⟩]) (rh := []) (ph := .raw) (ps := [(decide (v19 < (x17.length : Int))) = true, (0 : Int) ≤ v19, (x17.map o77)[(Int.toNat v19)]? = some (o77 x21), AV.lit (.int .i64 (((x17.map o77).length : Nat) : Int)) = (I (x17.length : Int)), Meets Tryz.prog 40 [(AV.agg ((r34 a18))), (I (x17.length : Int)), (AV.agg ((o77 x21)))] (B r30), litA (B r30) = true, (!r30) = true, (B false) = (B false), litA (B false) = true]) (by kernel_rfl) ⟨c20, (rd0 hx21), (rdM o77 hx21), (lenM o77), (spec_l2Op_m hr30), rfl, c31, rfl, rfl, trivial⟩
      · exact go_to hΘ hm hx hP hn (hs := [⟨1, .br true, none⟩, ⟨2, .row (o77 x21), none⟩, ⟨4, .new 1001, none⟩, ⟨8, .no, some (I (x17.length : Int))⟩, ⟨10, .callV [[], []] (B r30), none⟩, ⟨12, .br false, none⟩]) (π := [(1, 1)]) (ts := [1, 4, 31, 32, 33, 37, 38, 39]) (kp := []) (ps := [(decide (v19 < (x17.length : Int))) = true, (0 : Int) ≤ v19, (x17.map o77)[(Int.toNat v19)]? = some (o77 x21), AV.lit (.int .i64 (((x17.map o77).length : Nat) : Int)) = (I (x17.length : Int)), Meets Tryz.prog 40 [(AV.agg ((r34 a18))), (I (x17.length : Int)), (AV.agg ((o77 x21)))] (B r30), litA (B r30) = true, (!r30) = false, RenOK [(1, 1)] [((r34 a18))]]) (by kernel_rfl) ⟨c20, (rd0 hx21), (rdM o77 hx21), (lenM o77), (spec_l2Op_m hr30), rfl, c32, (rok (treeB t34 a18)), trivial⟩ (ih a18 (w64 (v19 + 1)) _ h)
    · rcases itS h with ⟨c34, h⟩ | ⟨c35, h⟩
      · have h := Option.some.inj h
        subst h
        exact go_ret hΘ hm hP hn (hs := [⟨1, .br false, none⟩, ⟨3, .no, some (I (x17.length : Int))⟩, ⟨5, .br true, none⟩]) (rh := []) (ph := .raw) (ps := [(decide (v19 < (x17.length : Int))) = false, AV.lit (.int .i64 (((x17.map o77).length : Nat) : Int)) = (I (x17.length : Int)), (decide ((x17.length : Int) > 24)) = true, (B false) = (B false), litA (B false) = true]) (by kernel_rfl) ⟨c33, (lenM o77), c34, rfl, rfl, trivial⟩
      · exact go_to hΘ hm hx hP hn (hs := [⟨1, .br false, none⟩, ⟨3, .no, some (I (x17.length : Int))⟩, ⟨5, .br false, none⟩]) (π := [(1, 1)]) (ts := [1, 31, 32, 33]) (kp := []) (ps := [(decide (v19 < (x17.length : Int))) = false, AV.lit (.int .i64 (((x17.map o77).length : Nat) : Int)) = (I (x17.length : Int)), (decide ((x17.length : Int) > 24)) = false, RenOK [(1, 1)] [((r34 a18))]]) (by kernel_rfl) ⟨c33, (lenM o77), c35, (rok (treeB t34 a18)), trivial⟩ (hK0 a18 (w64 (v15 + 1)) _ h)
noncomputable def spec_GoodProg_l0  (p1 : GProg) : Nat → GProg → Int → Option Bool
  | 0, _, _ => none
  | n + 1, a14, v15 =>
  if (decide (v15 < (p1.Routines.length : Int))) = true then
    Option.bind (rd p1.Routines v15) fun x17 =>
    spec_GoodProg_l1 (spec_GoodProg_l0 p1 n) p1 v15 x17 FU a14 0
  else
    some true
theorem spec_GoodProg_l0_m {E : Env} (hP : E.P = Tryz.prog) (hn : E.n = 54) (hx : ∀ p, p ∈ E.fx → p.1 ∈ ([] : List Nat)) (p1 : GProg)  : ∀ (n : Nat) (a14 : GProg) (v15 : Int) (r : Bool), spec_GoodProg_l0 p1 n a14 v15 = some r → WAt E body14 (FQ (RetE Θ Tryz.f14.results.toList [] [] (B r) E)) [true, true, false, true, false] ⟨[(1, (AV.ptr 1 0 0)), (31, (AV.ro 1 (p1.Routines.map r74))), (32, (I (p1.Routines.length : Int))), (33, (I v15))], [(1, some ⟨34, 4, [((r34 a14))]⟩)], [1, JJ]⟩ := by
  have hm : E.P.follows .mixedOrders = true := by rw [hP]; exact mixed
  have hΘ : TOK E.P Θ := by rw [hP]; exact Θ_ok
  intro n
  induction n with
  | zero => intro a14 v15 r h; simp only [spec_GoodProg_l0] at h; cases h
  | succ n ih =>
    intro a14 v15 r h
    simp only [spec_GoodProg_l0] at h
    rcases itS h with ⟨c16, h⟩ | ⟨c36, h⟩
    · obtain ⟨x17, hx17, h⟩ := bnS h
      exact go_to hΘ hm hx hP hn (hs := [⟨1, .br true, none⟩, ⟨2, .row (r74 x17), none⟩, ⟨6, .no, some (I (x17.length : Int))⟩]) (π := [(1, 1)]) (ts := [1, 4, 31, 32, 33, 37, 38, 39]) (kp := []) (ps := [(decide (v15 < (p1.Routines.length : Int))) = true, (0 : Int) ≤ v15, (p1.Routines.map r74)[(Int.toNat v15)]? = some (r74 x17), AV.lit (.int .i64 (((x17.map o77).length : Nat) : Int)) = (I (x17.length : Int)), RenOK [(1, 1)] [((r34 a14))]]) (by kernel_rfl) ⟨c16, (rd0 hx17), (rdM r74 hx17), (lenM o77), (rok (treeB t34 a14)), trivial⟩ (spec_GoodProg_l1_m hP hn hx p1 v15 x17 ih FU a14 0 _ h)
    · have h := Option.some.inj h
      subst h
      exact go_ret hΘ hm hP hn (hs := [⟨1, .br false, none⟩]) (rh := []) (ph := .raw) (ps := [(decide (v15 < (p1.Routines.length : Int))) = false, (B true) = (B true), litA (B true) = true]) (by kernel_rfl) ⟨c36, rfl, rfl, trivial⟩
noncomputable def spec_GoodProg (p1 : GProg) : Option Bool :=
  Option.bind (spec_l1In p1.Cells 0 4) fun r2 =>
  if (!r2) = true then
    some false
  else
    Option.bind (spec_l1In p1.Locks 0 4) fun r5 =>
    if (!r5) = true then
      some false
    else
      Option.bind (spec_l1In p1.Conds 0 2) fun r8 =>
      if (!r8) = true then
        some false
      else
        Option.bind (spec_l1In (p1.Routines.length : Int) 1 4) fun r11 =>
        if (!r11) = true then
          some false
        else
          spec_GoodProg_l0 p1 FU p1 0
theorem spec_GoodProg_m {p1 : GProg} {r : Bool} (h : spec_GoodProg p1 = some r) : Meets Tryz.prog 14 [(AV.agg ((r34 p1)))] (B r) := by
  refine meets_ofC Θ_ok Tryz.func14 rfl (c := body14) (by kernel_rfl) (Nat.le_of_ble_eq_true rfl) ?_
  intro E hP hn hx
  replace hn : E.n = 54 := hn
  have hm : E.P.follows .mixedOrders = true := by rw [hP]; exact mixed
  have hΘ : TOK E.P Θ := by rw [hP]; exact Θ_ok
  unfold spec_GoodProg at h
  show WAt E body14 (FQ (RetE Θ Tryz.f14.results.toList [] [] (B r) E)) [] ⟨[(0, (AV.agg ((r34 p1))))], [], [JJ]⟩
  obtain ⟨r2, hr2, h⟩ := bnS h
  rcases itS h with ⟨c3, h⟩ | ⟨c4, h⟩
  · have h := Option.some.inj h
    subst h
    exact go_ret hΘ hm hP hn (hs := [⟨0, .new 1001, none⟩, ⟨4, .callV [] (B r2), none⟩, ⟨6, .no, some (B true)⟩]) (rh := []) (ph := .raw) (ps := [Meets Tryz.prog 17 [(I p1.Cells), (I 0), (I 4)] (B r2), litA (B r2) = true, (B (!r2)) = (B true), (B false) = (B false), litA (B false) = true]) (by kernel_rfl) ⟨(spec_l1In_m hr2), rfl, (litB c3), rfl, rfl, trivial⟩
  · obtain ⟨r5, hr5, h⟩ := bnS h
    rcases itS h with ⟨c6, h⟩ | ⟨c7, h⟩
    · have h := Option.some.inj h
      subst h
      exact go_ret hΘ hm hP hn (hs := [⟨0, .new 1001, none⟩, ⟨4, .callV [] (B r2), none⟩, ⟨6, .no, some (B false)⟩, ⟨9, .callV [] (B r5), none⟩, ⟨12, .no, some (B true)⟩]) (rh := []) (ph := .raw) (ps := [Meets Tryz.prog 17 [(I p1.Cells), (I 0), (I 4)] (B r2), litA (B r2) = true, (B (!r2)) = (B false), Meets Tryz.prog 17 [(I p1.Locks), (I 0), (I 4)] (B r5), litA (B r5) = true, (B (!r5)) = (B true), (B false) = (B false), litA (B false) = true]) (by kernel_rfl) ⟨(spec_l1In_m hr2), rfl, (litB c4), (spec_l1In_m hr5), rfl, (litB c6), rfl, rfl, trivial⟩
    · obtain ⟨r8, hr8, h⟩ := bnS h
      rcases itS h with ⟨c9, h⟩ | ⟨c10, h⟩
      · have h := Option.some.inj h
        subst h
        exact go_ret hΘ hm hP hn (hs := [⟨0, .new 1001, none⟩, ⟨4, .callV [] (B r2), none⟩, ⟨6, .no, some (B false)⟩, ⟨9, .callV [] (B r5), none⟩, ⟨12, .no, some (B false)⟩, ⟨15, .callV [] (B r8), none⟩, ⟨18, .no, some (B true)⟩]) (rh := []) (ph := .raw) (ps := [Meets Tryz.prog 17 [(I p1.Cells), (I 0), (I 4)] (B r2), litA (B r2) = true, (B (!r2)) = (B false), Meets Tryz.prog 17 [(I p1.Locks), (I 0), (I 4)] (B r5), litA (B r5) = true, (B (!r5)) = (B false), Meets Tryz.prog 17 [(I p1.Conds), (I 0), (I 2)] (B r8), litA (B r8) = true, (B (!r8)) = (B true), (B false) = (B false), litA (B false) = true]) (by kernel_rfl) ⟨(spec_l1In_m hr2), rfl, (litB c4), (spec_l1In_m hr5), rfl, (litB c7), (spec_l1In_m hr8), rfl, (litB c9), rfl, rfl, trivial⟩
      · obtain ⟨r11, hr11, h⟩ := bnS h
        rcases itS h with ⟨c12, h⟩ | ⟨c13, h⟩
        · have h := Option.some.inj h
          subst h
          exact go_ret hΘ hm hP hn (hs := [⟨0, .new 1001, none⟩, ⟨4, .callV [] (B r2), none⟩, ⟨6, .no, some (B false)⟩, ⟨9, .callV [] (B r5), none⟩, ⟨12, .no, some (B false)⟩, ⟨15, .callV [] (B r8), none⟩, ⟨18, .no, some (B false)⟩, ⟨21, .no, some (I (p1.Routines.length : Int))⟩, ⟨22, .callV [] (B r11), none⟩, ⟨25, .br true, none⟩]) (rh := []) (ph := .raw) (ps := [Meets Tryz.prog 17 [(I p1.Cells), (I 0), (I 4)] (B r2), litA (B r2) = true, (B (!r2)) = (B false), Meets Tryz.prog 17 [(I p1.Locks), (I 0), (I 4)] (B r5), litA (B r5) = true, (B (!r5)) = (B false), Meets Tryz.prog 17 [(I p1.Conds), (I 0), (I 2)] (B r8), litA (B r8) = true, (B (!r8)) = (B false), AV.lit (.int .i64 (((p1.Routines.map r74).length : Nat) : Int)) = (I (p1.Routines.length : Int)), Meets Tryz.prog 17 [(I (p1.Routines.length : Int)), (I 1), (I 4)] (B r11), litA (B r11) = true, (!r11) = true, (B false) = (B false), litA (B false) = true]) (by kernel_rfl) ⟨(spec_l1In_m hr2), rfl, (litB c4), (spec_l1In_m hr5), rfl, (litB c7), (spec_l1In_m hr8), rfl, (litB c10), (lenM r74), (spec_l1In_m hr11), rfl, c12, rfl, rfl, trivial⟩
        · exact go_to hΘ hm hx hP hn (hs := [⟨0, .new 1001, none⟩, ⟨4, .callV [] (B r2), none⟩, ⟨6, .no, some (B false)⟩, ⟨9, .callV [] (B r5), none⟩, ⟨12, .no, some (B false)⟩, ⟨15, .callV [] (B r8), none⟩, ⟨18, .no, some (B false)⟩, ⟨21, .no, some (I (p1.Routines.length : Int))⟩, ⟨22, .callV [] (B r11), none⟩, ⟨25, .br false, none⟩, ⟨28, .no, some (I (p1.Routines.length : Int))⟩]) (π := [(1001, 1)]) (ts := [1, 31, 32, 33]) (kp := []) (ps := [Meets Tryz.prog 17 [(I p1.Cells), (I 0), (I 4)] (B r2), litA (B r2) = true, (B (!r2)) = (B false), Meets Tryz.prog 17 [(I p1.Locks), (I 0), (I 4)] (B r5), litA (B r5) = true, (B (!r5)) = (B false), Meets Tryz.prog 17 [(I p1.Conds), (I 0), (I 2)] (B r8), litA (B r8) = true, (B (!r8)) = (B false), AV.lit (.int .i64 (((p1.Routines.map r74).length : Nat) : Int)) = (I (p1.Routines.length : Int)), Meets Tryz.prog 17 [(I (p1.Routines.length : Int)), (I 1), (I 4)] (B r11), litA (B r11) = true, (!r11) = false, AV.lit (.int .i64 (((p1.Routines.map r74).length : Nat) : Int)) = (I (p1.Routines.length : Int)), RenOK [(1001, 1)] [((r34 p1))]]) (by kernel_rfl) ⟨(spec_l1In_m hr2), rfl, (litB c4), (spec_l1In_m hr5), rfl, (litB c7), (spec_l1In_m hr8), rfl, (litB c10), (lenM r74), (spec_l1In_m hr11), rfl, c13, (lenM r74), (rok (treeB t34 p1)), trivial⟩ (spec_GoodProg_l0_m hP hn hx p1 FU p1 0 _ h)
noncomputable def body42 : Code := match Tryz.f42.body with | some c => c | none => .skip
noncomputable def spec_l11Key (p1 : GPair) : Option Int :=
  some (w64 ((w64 ((w64 (p1.Cell * 1000000)) + (w64 (p1.One * 1000)))) + p1.Two))
theorem spec_l11Key_m {p1 : GPair} {r : Int} (h : spec_l11Key p1 = some r) : Meets Tryz.prog 42 [(AV.agg ((o80 p1)))] (I r) := by
  refine meets_ofC Θ_ok Tryz.func42 rfl (c := body42) (by kernel_rfl) (Nat.le_of_ble_eq_true rfl) ?_
  intro E hP hn hx
  replace hn : E.n = 13 := hn
  have hm : E.P.follows .mixedOrders = true := by rw [hP]; exact mixed
  have hΘ : TOK E.P Θ := by rw [hP]; exact Θ_ok
  unfold spec_l11Key at h
  show WAt E body42 (FQ (RetE Θ Tryz.f42.results.toList [] [] (I r) E)) [] ⟨[(0, (AV.agg ((o80 p1))))], [], [JJ]⟩
  have h := Option.some.inj h
  subst h
  exact go_ret hΘ hm hP hn (hs := [⟨0, .new 1001, none⟩]) (rh := []) (ph := .raw) (ps := [(I (w64 ((w64 ((w64 (p1.Cell * 1000000)) + (w64 (p1.One * 1000)))) + p1.Two))) = (I (w64 ((w64 ((w64 (p1.Cell * 1000000)) + (w64 (p1.One * 1000)))) + p1.Two))), litA (I (w64 ((w64 ((w64 (p1.Cell * 1000000)) + (w64 (p1.One * 1000)))) + p1.Two))) = true]) (by kernel_rfl) ⟨rfl, rfl, trivial⟩
noncomputable def body41 : Code := match Tryz.f41.body with | some c => c | none => .skip
noncomputable def spec_l11Pair (p1 : GPair) : Option Bool :=
  Option.bind (spec_l1In p1.Cell 0 99) fun r2 =>
  if r2 = true then
    Option.bind (spec_l1In p1.One 0 999) fun r4 =>
    if r4 = true then
      Option.bind (spec_l1In p1.Two 0 999) fun r6 =>
      some r6
    else
      some false
  else
    some false
theorem spec_l11Pair_m {p1 : GPair} {r : Bool} (h : spec_l11Pair p1 = some r) : Meets Tryz.prog 41 [(AV.agg ((o80 p1)))] (B r) := by
  refine meets_ofC Θ_ok Tryz.func41 rfl (c := body41) (by kernel_rfl) (Nat.le_of_ble_eq_true rfl) ?_
  intro E hP hn hx
  replace hn : E.n = 16 := hn
  have hm : E.P.follows .mixedOrders = true := by rw [hP]; exact mixed
  have hΘ : TOK E.P Θ := by rw [hP]; exact Θ_ok
  unfold spec_l11Pair at h
  show WAt E body41 (FQ (RetE Θ Tryz.f41.results.toList [] [] (B r) E)) [] ⟨[(0, (AV.agg ((o80 p1))))], [], [JJ]⟩
  obtain ⟨r2, hr2, h⟩ := bnS h
  rcases itS h with ⟨c3, h⟩ | ⟨c8, h⟩
  · obtain ⟨r4, hr4, h⟩ := bnS h
    rcases itS h with ⟨c5, h⟩ | ⟨c7, h⟩
    · obtain ⟨r6, hr6, h⟩ := bnS h
      have h := Option.some.inj h
      subst h
      exact go_ret hΘ hm hP hn (hs := [⟨0, .new 1001, none⟩, ⟨4, .callV [] (B r2), none⟩, ⟨5, .no, some (B true)⟩, ⟨8, .callV [] (B r4), none⟩, ⟨10, .no, some (B true)⟩, ⟨13, .callV [] (B r6), none⟩]) (rh := []) (ph := .raw) (ps := [Meets Tryz.prog 17 [(I p1.Cell), (I 0), (I 99)] (B r2), litA (B r2) = true, (B r2) = (B true), Meets Tryz.prog 17 [(I p1.One), (I 0), (I 999)] (B r4), litA (B r4) = true, (B r4) = (B true), Meets Tryz.prog 17 [(I p1.Two), (I 0), (I 999)] (B r6), litA (B r6) = true, (B r6) = (B r6), litA (B r6) = true]) (by kernel_rfl) ⟨(spec_l1In_m hr2), rfl, (litB c3), (spec_l1In_m hr4), rfl, (litB c5), (spec_l1In_m hr6), rfl, rfl, rfl, trivial⟩
    · have h := Option.some.inj h
      subst h
      exact go_ret hΘ hm hP hn (hs := [⟨0, .new 1001, none⟩, ⟨4, .callV [] (B r2), none⟩, ⟨5, .no, some (B true)⟩, ⟨8, .callV [] (B r4), none⟩, ⟨10, .no, some (B false)⟩]) (rh := []) (ph := .raw) (ps := [Meets Tryz.prog 17 [(I p1.Cell), (I 0), (I 99)] (B r2), litA (B r2) = true, (B r2) = (B true), Meets Tryz.prog 17 [(I p1.One), (I 0), (I 999)] (B r4), litA (B r4) = true, (B r4) = (B false), (B false) = (B false), litA (B false) = true]) (by kernel_rfl) ⟨(spec_l1In_m hr2), rfl, (litB c3), (spec_l1In_m hr4), rfl, (litB c7), rfl, rfl, trivial⟩
  · have h := Option.some.inj h
    subst h
    exact go_ret hΘ hm hP hn (hs := [⟨0, .new 1001, none⟩, ⟨4, .callV [] (B r2), none⟩, ⟨5, .no, some (B false)⟩]) (rh := []) (ph := .raw) (ps := [Meets Tryz.prog 17 [(I p1.Cell), (I 0), (I 99)] (B r2), litA (B r2) = true, (B r2) = (B false), (B false) = (B false), litA (B false) = true]) (by kernel_rfl) ⟨(spec_l1In_m hr2), rfl, (litB c8), rfl, rfl, trivial⟩
noncomputable def body15 : Code := match Tryz.f15.body with | some c => c | none => .skip
noncomputable def spec_l11Rising_l0  (p1 : (List GPair)) : Nat → Int → Option Bool
  | 0, _ => none
  | n + 1, v2 =>
  if (decide (v2 < (p1.length : Int))) = true then
    Option.bind (rd p1 v2) fun x4 =>
    Option.bind (spec_l11Pair x4) fun r5 =>
    if (!r5) = true then
      some false
    else
      if (decide (v2 > 0)) = true then
        Option.bind (rd p1 (w64 (v2 - 1))) fun x9 =>
        Option.bind (spec_l11Key x9) fun r10 =>
        Option.bind (spec_l11Key x4) fun r11 =>
        if (decide (r10 ≥ r11)) = true then
          some false
        else
          spec_l11Rising_l0 p1 n (w64 (v2 + 1))
      else
        spec_l11Rising_l0 p1 n (w64 (v2 + 1))
  else
    some (decide ((p1.length : Int) ≤ 200))
theorem spec_l11Rising_l0_m {E : Env} (hP : E.P = Tryz.prog) (hn : E.n = 34) (hx : ∀ p, p ∈ E.fx → p.1 ∈ ([] : List Nat)) (p1 : (List GPair))  : ∀ (n : Nat) (v2 : Int) (r : Bool), spec_l11Rising_l0 p1 n v2 = some r → WAt E body15 (FQ (RetE Θ Tryz.f15.results.toList [] [] (B r) E)) [true, false, true, false] ⟨[(0, (AV.ro 3 (p1.map o80))), (5, (AV.ro 3 (p1.map o80))), (6, (I (p1.length : Int))), (7, (I v2))], [], [JJ]⟩ := by
  have hm : E.P.follows .mixedOrders = true := by rw [hP]; exact mixed
  have hΘ : TOK E.P Θ := by rw [hP]; exact Θ_ok
  intro n
  induction n with
  | zero => intro v2 r h; simp only [spec_l11Rising_l0] at h; cases h
  | succ n ih =>
    intro v2 r h
    simp only [spec_l11Rising_l0] at h
    rcases itS h with ⟨c3, h⟩ | ⟨c15, h⟩
    · obtain ⟨x4, hx4, h⟩ := bnS h
      obtain ⟨r5, hr5, h⟩ := bnS h
      rcases itS h with ⟨c6, h⟩ | ⟨c7, h⟩
      · have h := Option.some.inj h
        subst h
        exact go_ret hΘ hm hP hn (hs := [⟨1, .br true, none⟩, ⟨3, .row (o80 x4), none⟩, ⟨5, .new 1001, none⟩, ⟨9, .callV [[]] (B r5), none⟩, ⟨11, .no, some (B true)⟩]) (rh := []) (ph := .raw) (ps := [(decide (v2 < (p1.length : Int))) = true, (0 : Int) ≤ v2, (p1.map o80)[(Int.toNat v2)]? = some (o80 x4), Meets Tryz.prog 41 [(AV.agg ((o80 x4)))] (B r5), litA (B r5) = true, (B (!r5)) = (B true), (B false) = (B false), litA (B false) = true]) (by kernel_rfl) ⟨c3, (rd0 hx4), (rdM o80 hx4), (spec_l11Pair_m hr5), rfl, (litB c6), rfl, rfl, trivial⟩
      · rcases itS h with ⟨c8, h⟩ | ⟨c14, h⟩
        · obtain ⟨x9, hx9, h⟩ := bnS h
          obtain ⟨r10, hr10, h⟩ := bnS h
          obtain ⟨r11, hr11, h⟩ := bnS h
          rcases itS h with ⟨c12, h⟩ | ⟨c13, h⟩
          · have h := Option.some.inj h
            subst h
            exact go_ret hΘ hm hP hn (hs := [⟨1, .br true, none⟩, ⟨3, .row (o80 x4), none⟩, ⟨5, .new 1001, none⟩, ⟨9, .callV [[]] (B r5), none⟩, ⟨11, .no, some (B false)⟩, ⟨14, .no, some (B true)⟩, ⟨18, .row (o80 x9), none⟩, ⟨20, .callV [[]] (I r10), none⟩, ⟨22, .callV [[]] (I r11), none⟩, ⟨26, .br true, none⟩]) (rh := []) (ph := .raw) (ps := [(decide (v2 < (p1.length : Int))) = true, (0 : Int) ≤ v2, (p1.map o80)[(Int.toNat v2)]? = some (o80 x4), Meets Tryz.prog 41 [(AV.agg ((o80 x4)))] (B r5), litA (B r5) = true, (B (!r5)) = (B false), (B (decide (v2 > 0))) = (B true), (0 : Int) ≤ (w64 (v2 - 1)), (p1.map o80)[(Int.toNat (w64 (v2 - 1)))]? = some (o80 x9), Meets Tryz.prog 42 [(AV.agg ((o80 x9)))] (I r10), litA (I r10) = true, Meets Tryz.prog 42 [(AV.agg ((o80 x4)))] (I r11), litA (I r11) = true, (decide (r10 ≥ r11)) = true, (B false) = (B false), litA (B false) = true]) (by kernel_rfl) ⟨c3, (rd0 hx4), (rdM o80 hx4), (spec_l11Pair_m hr5), rfl, (litB c7), (litB c8), (rd0 hx9), (rdM o80 hx9), (spec_l11Key_m hr10), rfl, (spec_l11Key_m hr11), rfl, c12, rfl, rfl, trivial⟩
          · exact go_to hΘ hm hx hP hn (hs := [⟨1, .br true, none⟩, ⟨3, .row (o80 x4), none⟩, ⟨5, .new 1001, none⟩, ⟨9, .callV [[]] (B r5), none⟩, ⟨11, .no, some (B false)⟩, ⟨14, .no, some (B true)⟩, ⟨18, .row (o80 x9), none⟩, ⟨20, .callV [[]] (I r10), none⟩, ⟨22, .callV [[]] (I r11), none⟩, ⟨26, .br false, none⟩]) (π := []) (ts := [0, 5, 6, 7]) (kp := []) (ps := [(decide (v2 < (p1.length : Int))) = true, (0 : Int) ≤ v2, (p1.map o80)[(Int.toNat v2)]? = some (o80 x4), Meets Tryz.prog 41 [(AV.agg ((o80 x4)))] (B r5), litA (B r5) = true, (B (!r5)) = (B false), (B (decide (v2 > 0))) = (B true), (0 : Int) ≤ (w64 (v2 - 1)), (p1.map o80)[(Int.toNat (w64 (v2 - 1)))]? = some (o80 x9), Meets Tryz.prog 42 [(AV.agg ((o80 x9)))] (I r10), litA (I r10) = true, Meets Tryz.prog 42 [(AV.agg ((o80 x4)))] (I r11), litA (I r11) = true, (decide (r10 ≥ r11)) = false]) (by kernel_rfl) ⟨c3, (rd0 hx4), (rdM o80 hx4), (spec_l11Pair_m hr5), rfl, (litB c7), (litB c8), (rd0 hx9), (rdM o80 hx9), (spec_l11Key_m hr10), rfl, (spec_l11Key_m hr11), rfl, c13, trivial⟩ (ih (w64 (v2 + 1)) _ h)
        · exact go_to hΘ hm hx hP hn (hs := [⟨1, .br true, none⟩, ⟨3, .row (o80 x4), none⟩, ⟨5, .new 1001, none⟩, ⟨9, .callV [[]] (B r5), none⟩, ⟨11, .no, some (B false)⟩, ⟨14, .no, some (B false)⟩]) (π := []) (ts := [0, 5, 6, 7]) (kp := []) (ps := [(decide (v2 < (p1.length : Int))) = true, (0 : Int) ≤ v2, (p1.map o80)[(Int.toNat v2)]? = some (o80 x4), Meets Tryz.prog 41 [(AV.agg ((o80 x4)))] (B r5), litA (B r5) = true, (B (!r5)) = (B false), (B (decide (v2 > 0))) = (B false)]) (by kernel_rfl) ⟨c3, (rd0 hx4), (rdM o80 hx4), (spec_l11Pair_m hr5), rfl, (litB c7), (litB c14), trivial⟩ (ih (w64 (v2 + 1)) _ h)
    · have h := Option.some.inj h
      subst h
      exact go_ret hΘ hm hP hn (hs := [⟨1, .br false, none⟩, ⟨3, .no, some (I (p1.length : Int))⟩]) (rh := []) (ph := .raw) (ps := [(decide (v2 < (p1.length : Int))) = false, AV.lit (.int .i64 (((p1.map o80).length : Nat) : Int)) = (I (p1.length : Int)), (B (decide ((p1.length : Int) ≤ 200))) = (B (decide ((p1.length : Int) ≤ 200))), litA (B (decide ((p1.length : Int) ≤ 200))) = true]) (by kernel_rfl) ⟨c15, (lenM o80), rfl, rfl, trivial⟩
noncomputable def spec_l11Rising (p1 : (List GPair)) : Option Bool :=
  spec_l11Rising_l0 p1 FU 0
theorem spec_l11Rising_m {p1 : (List GPair)} {r : Bool} (h : spec_l11Rising p1 = some r) : Meets Tryz.prog 15 [(AV.ro 3 (p1.map o80))] (B r) := by
  refine meets_ofC Θ_ok Tryz.func15 rfl (c := body15) (by kernel_rfl) (Nat.le_of_ble_eq_true rfl) ?_
  intro E hP hn hx
  replace hn : E.n = 34 := hn
  have hm : E.P.follows .mixedOrders = true := by rw [hP]; exact mixed
  have hΘ : TOK E.P Θ := by rw [hP]; exact Θ_ok
  unfold spec_l11Rising at h
  show WAt E body15 (FQ (RetE Θ Tryz.f15.results.toList [] [] (B r) E)) [] ⟨[(0, (AV.ro 3 (p1.map o80)))], [], [JJ]⟩
  exact go_to hΘ hm hx hP hn (hs := [⟨2, .no, some (I (p1.length : Int))⟩]) (π := []) (ts := [0, 5, 6, 7]) (kp := []) (ps := [AV.lit (.int .i64 (((p1.map o80).length : Nat) : Int)) = (I (p1.length : Int))]) (by kernel_rfl) ⟨(lenM o80), trivial⟩ (spec_l11Rising_l0_m hP hn hx p1 FU 0 _ h)
noncomputable def body43 : Code := match Tryz.f43.body with | some c => c | none => .skip
noncomputable def spec_l4Picks (p1 : (List Int)) : Option Bool :=
  if (decide ((p1.length : Int) ≤ 200)) = true then
    Option.bind (spec_l1All p1 0 999) fun r3 =>
    some r3
  else
    some false
theorem spec_l4Picks_m {p1 : (List Int)} {r : Bool} (h : spec_l4Picks p1 = some r) : Meets Tryz.prog 43 [(AV.ro 1 (p1.map o3))] (B r) := by
  refine meets_ofC Θ_ok Tryz.func43 rfl (c := body43) (by kernel_rfl) (Nat.le_of_ble_eq_true rfl) ?_
  intro E hP hn hx
  replace hn : E.n = 10 := hn
  have hm : E.P.follows .mixedOrders = true := by rw [hP]; exact mixed
  have hΘ : TOK E.P Θ := by rw [hP]; exact Θ_ok
  unfold spec_l4Picks at h
  show WAt E body43 (FQ (RetE Θ Tryz.f43.results.toList [] [] (B r) E)) [] ⟨[(0, (AV.ro 1 (p1.map o3)))], [], [JJ]⟩
  rcases itS h with ⟨c2, h⟩ | ⟨c4, h⟩
  · obtain ⟨r3, hr3, h⟩ := bnS h
    have h := Option.some.inj h
    subst h
    exact go_ret hΘ hm hP hn (hs := [⟨2, .no, some (I (p1.length : Int))⟩, ⟨4, .no, some (B true)⟩, ⟨6, .callV [] (B r3), none⟩]) (rh := []) (ph := .raw) (ps := [AV.lit (.int .i64 (((p1.map o3).length : Nat) : Int)) = (I (p1.length : Int)), (B (decide ((p1.length : Int) ≤ 200))) = (B true), Meets Tryz.prog 37 [(AV.ro 1 (p1.map o3)), (I 0), (I 999)] (B r3), litA (B r3) = true, (B r3) = (B r3), litA (B r3) = true]) (by kernel_rfl) ⟨(lenM o3), (litB c2), (spec_l1All_m hr3), rfl, rfl, rfl, trivial⟩
  · have h := Option.some.inj h
    subst h
    exact go_ret hΘ hm hP hn (hs := [⟨2, .no, some (I (p1.length : Int))⟩, ⟨4, .no, some (B false)⟩]) (rh := []) (ph := .raw) (ps := [AV.lit (.int .i64 (((p1.map o3).length : Nat) : Int)) = (I (p1.length : Int)), (B (decide ((p1.length : Int) ≤ 200))) = (B false), (B false) = (B false), litA (B false) = true]) (by kernel_rfl) ⟨(lenM o3), (litB c4), rfl, rfl, trivial⟩
noncomputable def body16 : Code := match Tryz.f16.body with | some c => c | none => .skip
noncomputable def spec_l13Finds_l1 (K0 : Int → Option Bool) (p1 : (List GFound)) (v2 : Int) (l8 : (List GFound)) : Nat → GFound → Int → Option Bool
  | 0, _, _ => none
  | n + 1, a9, v10 =>
  if (decide (v10 < (l8.length : Int))) = true then
    Option.bind (rd l8 v10) fun x12 =>
    if (a9.Sign == x12.Sign) = true then
      some false
    else
      spec_l13Finds_l1 K0 p1 v2 l8 n a9 (w64 (v10 + 1))
  else
    K0 (w64 (v2 + 1))
theorem spec_l13Finds_l1_m {E : Env} (hP : E.P = Tryz.prog) (hn : E.n = 33) (hx : ∀ p, p ∈ E.fx → p.1 ∈ ([] : List Nat)) (p1 : (List GFound)) (v2 : Int) (l8 : (List GFound)) {K0 : Int → Option Bool} (hK0 : ∀ (v2 : Int) (r : Bool), K0 v2 = some r → WAt E body16 (FQ (RetE Θ Tryz.f16.results.toList [] [] (B r) E)) [true, false, true, false] ⟨[(0, (AV.ro 2 (p1.map r61))), (7, (AV.ro 2 (p1.map r61))), (8, (I (p1.length : Int))), (9, (I v2))], [], [JJ]⟩) : ∀ (n : Nat) (a9 : GFound) (v10 : Int) (r : Bool), spec_l13Finds_l1 K0 p1 v2 l8 n a9 v10 = some r → WAt E body16 (FQ (RetE Θ Tryz.f16.results.toList [] [] (B r) E)) [true, false, true, false, false, true, true, false, false, true, true, true, false] ⟨[(0, (AV.ro 2 (p1.map r61))), (4, (AV.ptr 1 0 0)), (7, (AV.ro 2 (p1.map r61))), (8, (I (p1.length : Int))), (9, (I v2)), (20, (AV.ro 2 (l8.map r61))), (21, (I (l8.length : Int))), (22, (I v10))], [(1, some ⟨61, 2, [((r61 a9))]⟩)], [1, JJ]⟩ := by
  have hm : E.P.follows .mixedOrders = true := by rw [hP]; exact mixed
  have hΘ : TOK E.P Θ := by rw [hP]; exact Θ_ok
  intro n
  induction n with
  | zero => intro a9 v10 r h; simp only [spec_l13Finds_l1] at h; cases h
  | succ n ih =>
    intro a9 v10 r h
    simp only [spec_l13Finds_l1] at h
    rcases itS h with ⟨c11, h⟩ | ⟨c15, h⟩
    · obtain ⟨x12, hx12, h⟩ := bnS h
      rcases itS h with ⟨c13, h⟩ | ⟨c14, h⟩
      · have h := Option.some.inj h
        subst h
        exact go_ret hΘ hm hP hn (hs := [⟨1, .br true, none⟩, ⟨2, .row (r61 x12), none⟩, ⟨4, .new 1001, none⟩, ⟨10, .bin (B (a9.Sign == x12.Sign)), none⟩, ⟨11, .br true, none⟩]) (rh := []) (ph := .raw) (ps := [(decide (v10 < (l8.length : Int))) = true, (0 : Int) ≤ v10, (l8.map r61)[(Int.toNat v10)]? = some (r61 x12), BinS Tryz.prog .eql 9 (SK a9.Sign) (SK x12.Sign) (B (a9.Sign == x12.Sign)), (a9.Sign == x12.Sign) = true, (B false) = (B false), litA (B false) = true]) (by kernel_rfl) ⟨c11, (rd0 hx12), (rdM r61 hx12), sEql, c13, rfl, rfl, trivial⟩
      · exact go_to hΘ hm hx hP hn (hs := [⟨1, .br true, none⟩, ⟨2, .row (r61 x12), none⟩, ⟨4, .new 1001, none⟩, ⟨10, .bin (B (a9.Sign == x12.Sign)), none⟩, ⟨11, .br false, none⟩]) (π := [(1, 1)]) (ts := [0, 4, 7, 8, 9, 20, 21, 22]) (kp := []) (ps := [(decide (v10 < (l8.length : Int))) = true, (0 : Int) ≤ v10, (l8.map r61)[(Int.toNat v10)]? = some (r61 x12), BinS Tryz.prog .eql 9 (SK a9.Sign) (SK x12.Sign) (B (a9.Sign == x12.Sign)), (a9.Sign == x12.Sign) = false, RenOK [(1, 1)] [((r61 a9))]]) (by kernel_rfl) ⟨c11, (rd0 hx12), (rdM r61 hx12), sEql, c14, (rok (treeB t61 a9)), trivial⟩ (ih a9 (w64 (v10 + 1)) _ h)
    · exact go_to hΘ hm hx hP hn (hs := [⟨1, .br false, none⟩]) (π := []) (ts := [0, 7, 8, 9]) (kp := []) (ps := [(decide (v10 < (l8.length : Int))) = false]) (by kernel_rfl) ⟨c15, trivial⟩ (hK0 (w64 (v2 + 1)) _ h)
noncomputable def spec_l13Finds_l0  (p1 : (List GFound)) : Nat → Int → Option Bool
  | 0, _ => none
  | n + 1, v2 =>
  if (decide (v2 < (p1.length : Int))) = true then
    Option.bind (rd p1 v2) fun x4 =>
    Option.bind (spec_l4Picks x4.Picks) fun r5 =>
    if (!r5) = true then
      some false
    else
      Option.bind (slc p1 0 v2) fun l8 =>
      spec_l13Finds_l1 (spec_l13Finds_l0 p1 n) p1 v2 l8 FU x4 0
  else
    some true
theorem spec_l13Finds_l0_m {E : Env} (hP : E.P = Tryz.prog) (hn : E.n = 33) (hx : ∀ p, p ∈ E.fx → p.1 ∈ ([] : List Nat)) (p1 : (List GFound))  : ∀ (n : Nat) (v2 : Int) (r : Bool), spec_l13Finds_l0 p1 n v2 = some r → WAt E body16 (FQ (RetE Θ Tryz.f16.results.toList [] [] (B r) E)) [true, false, true, false] ⟨[(0, (AV.ro 2 (p1.map r61))), (7, (AV.ro 2 (p1.map r61))), (8, (I (p1.length : Int))), (9, (I v2))], [], [JJ]⟩ := by
  have hm : E.P.follows .mixedOrders = true := by rw [hP]; exact mixed
  have hΘ : TOK E.P Θ := by rw [hP]; exact Θ_ok
  intro n
  induction n with
  | zero => intro v2 r h; simp only [spec_l13Finds_l0] at h; cases h
  | succ n ih =>
    intro v2 r h
    simp only [spec_l13Finds_l0] at h
    rcases itS h with ⟨c3, h⟩ | ⟨c16, h⟩
    · obtain ⟨x4, hx4, h⟩ := bnS h
      obtain ⟨r5, hr5, h⟩ := bnS h
      rcases itS h with ⟨c6, h⟩ | ⟨c7, h⟩
      · have h := Option.some.inj h
        subst h
        exact go_ret hΘ hm hP hn (hs := [⟨1, .br true, none⟩, ⟨3, .row (r61 x4), none⟩, ⟨5, .new 1001, none⟩, ⟨10, .callV [] (B r5), none⟩, ⟨12, .br true, none⟩]) (rh := []) (ph := .raw) (ps := [(decide (v2 < (p1.length : Int))) = true, (0 : Int) ≤ v2, (p1.map r61)[(Int.toNat v2)]? = some (r61 x4), Meets Tryz.prog 43 [(AV.ro 1 (x4.Picks.map o3))] (B r5), litA (B r5) = true, (!r5) = true, (B false) = (B false), litA (B false) = true]) (by kernel_rfl) ⟨c3, (rd0 hx4), (rdM r61 hx4), (spec_l4Picks_m hr5), rfl, c6, rfl, rfl, trivial⟩
      · obtain ⟨l8, hl8, h⟩ := bnS h
        exact go_to hΘ hm hx hP hn (hs := [⟨1, .br true, none⟩, ⟨3, .row (r61 x4), none⟩, ⟨5, .new 1001, none⟩, ⟨10, .callV [] (B r5), none⟩, ⟨12, .br false, none⟩, ⟨15, .no, some (AV.ro 2 (l8.map r61))⟩, ⟨16, .no, some (I (l8.length : Int))⟩]) (π := [(1001, 1)]) (ts := [0, 4, 7, 8, 9, 20, 21, 22]) (kp := []) (ps := [(decide (v2 < (p1.length : Int))) = true, (0 : Int) ≤ v2, (p1.map r61)[(Int.toNat v2)]? = some (r61 x4), Meets Tryz.prog 43 [(AV.ro 1 (x4.Picks.map o3))] (B r5), litA (B r5) = true, (!r5) = false, AV.ro 2 (((p1.map r61).drop (Int.toNat 0)).take (subO (Int.toNat v2) (Int.toNat 0))) = (AV.ro 2 (l8.map r61)), (0 : Int) ≤ 0, 0 ≤ v2, v2 ≤ (((p1.map r61).length : Nat) : Int), AV.lit (.int .i64 (((l8.map r61).length : Nat) : Int)) = (I (l8.length : Int)), RenOK [(1001, 1)] [((r61 x4))]]) (by kernel_rfl) ⟨c3, (rd0 hx4), (rdM r61 hx4), (spec_l4Picks_m hr5), rfl, c7, (slM 2 r61 hl8), (sl0 hl8), (sl1 hl8), (sl2 r61 hl8), (lenM r61), (rok (treeB t61 x4)), trivial⟩ (spec_l13Finds_l1_m hP hn hx p1 v2 l8 ih FU x4 0 _ h)
    · have h := Option.some.inj h
      subst h
      exact go_ret hΘ hm hP hn (hs := [⟨1, .br false, none⟩]) (rh := []) (ph := .raw) (ps := [(decide (v2 < (p1.length : Int))) = false, (B true) = (B true), litA (B true) = true]) (by kernel_rfl) ⟨c16, rfl, rfl, trivial⟩
noncomputable def spec_l13Finds (p1 : (List GFound)) : Option Bool :=
  spec_l13Finds_l0 p1 FU 0
theorem spec_l13Finds_m {p1 : (List GFound)} {r : Bool} (h : spec_l13Finds p1 = some r) : Meets Tryz.prog 16 [(AV.ro 2 (p1.map r61))] (B r) := by
  refine meets_ofC Θ_ok Tryz.func16 rfl (c := body16) (by kernel_rfl) (Nat.le_of_ble_eq_true rfl) ?_
  intro E hP hn hx
  replace hn : E.n = 33 := hn
  have hm : E.P.follows .mixedOrders = true := by rw [hP]; exact mixed
  have hΘ : TOK E.P Θ := by rw [hP]; exact Θ_ok
  unfold spec_l13Finds at h
  show WAt E body16 (FQ (RetE Θ Tryz.f16.results.toList [] [] (B r) E)) [] ⟨[(0, (AV.ro 2 (p1.map r61)))], [], [JJ]⟩
  exact go_to hΘ hm hx hP hn (hs := [⟨2, .no, some (I (p1.length : Int))⟩]) (π := []) (ts := [0, 7, 8, 9]) (kp := []) (ps := [AV.lit (.int .i64 (((p1.map r61).length : Nat) : Int)) = (I (p1.length : Int))]) (by kernel_rfl) ⟨(lenM r61), trivial⟩ (spec_l13Finds_l0_m hP hn hx p1 FU 0 _ h)
noncomputable def body5 : Code := match Tryz.f5.body with | some c => c | none => .skip
noncomputable def spec_GoodHunt_l0  (p1 : GHunt) : Nat → GHunt → Int → Option Bool
  | 0, _, _ => none
  | n + 1, a2, v3 =>
  if (decide (v3 < (p1.Kept.length : Int))) = true then
    Option.bind (rd p1.Kept v3) fun x5 =>
    Option.bind (spec_GoodPct x5) fun r6 =>
    if (!r6) = true then
      some false
    else
      spec_GoodHunt_l0 p1 n a2 (w64 (v3 + 1))
  else
    Option.bind (spec_GoodProg a2.Prog) fun r10 =>
    if r10 = true then
      if (decide ((a2.Kept.length : Int) ≤ 30)) = true then
        Option.bind (spec_l11Rising a2.Covered) fun r13 =>
        if r13 = true then
          Option.bind (spec_l13Finds a2.Finds) fun r15 =>
          if r15 = true then
            Option.bind (spec_l1In a2.Tried 0 60) fun r17 =>
            some r17
          else
            some false
        else
          some false
      else
        some false
    else
      some false
theorem spec_GoodHunt_l0_m {E : Env} (hP : E.P = Tryz.prog) (hn : E.n = 40) (hx : ∀ p, p ∈ E.fx → p.1 ∈ ([] : List Nat)) (p1 : GHunt)  : ∀ (n : Nat) (a2 : GHunt) (v3 : Int) (r : Bool), spec_GoodHunt_l0 p1 n a2 v3 = some r → WAt E body5 (FQ (RetE Θ Tryz.f5.results.toList [] [] (B r) E)) [true, false, true, false] ⟨[(1, (AV.ptr 1 0 0)), (6, (AV.ro 2 (p1.Kept.map r49))), (7, (I (p1.Kept.length : Int))), (8, (I v3))], [(1, some ⟨39, 8, [((r39 a2))]⟩)], [1, JJ]⟩ := by
  have hm : E.P.follows .mixedOrders = true := by rw [hP]; exact mixed
  have hΘ : TOK E.P Θ := by rw [hP]; exact Θ_ok
  intro n
  induction n with
  | zero => intro a2 v3 r h; simp only [spec_GoodHunt_l0] at h; cases h
  | succ n ih =>
    intro a2 v3 r h
    simp only [spec_GoodHunt_l0] at h
    rcases itS h with ⟨c4, h⟩ | ⟨c9, h⟩
    · obtain ⟨x5, hx5, h⟩ := bnS h
      obtain ⟨r6, hr6, h⟩ := bnS h
      rcases itS h with ⟨c7, h⟩ | ⟨c8, h⟩
      · have h := Option.some.inj h
        subst h
        exact go_ret hΘ hm hP hn (hs := [⟨1, .br true, none⟩, ⟨2, .row (r49 x5), none⟩, ⟨4, .new 1001, none⟩, ⟨7, .callV [[]] (B r6), none⟩, ⟨9, .br true, none⟩]) (rh := []) (ph := .raw) (ps := [(decide (v3 < (p1.Kept.length : Int))) = true, (0 : Int) ≤ v3, (p1.Kept.map r49)[(Int.toNat v3)]? = some (r49 x5), Meets Tryz.prog 13 [(AV.agg ((r49 x5)))] (B r6), litA (B r6) = true, (!r6) = true, (B false) = (B false), litA (B false) = true]) (by kernel_rfl) ⟨c4, (rd0 hx5), (rdM r49 hx5), (spec_GoodPct_m hr6), rfl, c7, rfl, rfl, trivial⟩
      · exact go_to hΘ hm hx hP hn (hs := [⟨1, .br true, none⟩, ⟨2, .row (r49 x5), none⟩, ⟨4, .new 1001, none⟩, ⟨7, .callV [[]] (B r6), none⟩, ⟨9, .br false, none⟩]) (π := [(1, 1)]) (ts := [1, 6, 7, 8]) (kp := []) (ps := [(decide (v3 < (p1.Kept.length : Int))) = true, (0 : Int) ≤ v3, (p1.Kept.map r49)[(Int.toNat v3)]? = some (r49 x5), Meets Tryz.prog 13 [(AV.agg ((r49 x5)))] (B r6), litA (B r6) = true, (!r6) = false, RenOK [(1, 1)] [((r39 a2))]]) (by kernel_rfl) ⟨c4, (rd0 hx5), (rdM r49 hx5), (spec_GoodPct_m hr6), rfl, c8, (rok (treeB t39 a2)), trivial⟩ (ih a2 (w64 (v3 + 1)) _ h)
    · obtain ⟨r10, hr10, h⟩ := bnS h
      rcases itS h with ⟨c11, h⟩ | ⟨c21, h⟩
      · rcases itS h with ⟨c12, h⟩ | ⟨c20, h⟩
        · obtain ⟨r13, hr13, h⟩ := bnS h
          rcases itS h with ⟨c14, h⟩ | ⟨c19, h⟩
          · obtain ⟨r15, hr15, h⟩ := bnS h
            rcases itS h with ⟨c16, h⟩ | ⟨c18, h⟩
            · obtain ⟨r17, hr17, h⟩ := bnS h
              have h := Option.some.inj h
              subst h
              exact go_ret hΘ hm hP hn (hs := [⟨1, .br false, none⟩, ⟨4, .callV [[]] (B r10), none⟩, ⟨5, .no, some (B true)⟩, ⟨8, .no, some (I (a2.Kept.length : Int))⟩, ⟨11, .no, some (B true)⟩, ⟨14, .callV [] (B r13), none⟩, ⟨16, .no, some (B true)⟩, ⟨19, .callV [] (B r15), none⟩, ⟨21, .no, some (B true)⟩, ⟨24, .callV [] (B r17), none⟩]) (rh := []) (ph := .raw) (ps := [(decide (v3 < (p1.Kept.length : Int))) = false, Meets Tryz.prog 14 [(AV.agg ((r34 a2.Prog)))] (B r10), litA (B r10) = true, (B r10) = (B true), AV.lit (.int .i64 (((a2.Kept.map r49).length : Nat) : Int)) = (I (a2.Kept.length : Int)), (B (decide ((a2.Kept.length : Int) ≤ 30))) = (B true), Meets Tryz.prog 15 [(AV.ro 3 (a2.Covered.map o80))] (B r13), litA (B r13) = true, (B r13) = (B true), Meets Tryz.prog 16 [(AV.ro 2 (a2.Finds.map r61))] (B r15), litA (B r15) = true, (B r15) = (B true), Meets Tryz.prog 17 [(I a2.Tried), (I 0), (I 60)] (B r17), litA (B r17) = true, (B r17) = (B r17), litA (B r17) = true]) (by kernel_rfl) ⟨c9, (spec_GoodProg_m hr10), rfl, (litB c11), (lenM r49), (litB c12), (spec_l11Rising_m hr13), rfl, (litB c14), (spec_l13Finds_m hr15), rfl, (litB c16), (spec_l1In_m hr17), rfl, rfl, rfl, trivial⟩
            · have h := Option.some.inj h
              subst h
              exact go_ret hΘ hm hP hn (hs := [⟨1, .br false, none⟩, ⟨4, .callV [[]] (B r10), none⟩, ⟨5, .no, some (B true)⟩, ⟨8, .no, some (I (a2.Kept.length : Int))⟩, ⟨11, .no, some (B true)⟩, ⟨14, .callV [] (B r13), none⟩, ⟨16, .no, some (B true)⟩, ⟨19, .callV [] (B r15), none⟩, ⟨21, .no, some (B false)⟩]) (rh := []) (ph := .raw) (ps := [(decide (v3 < (p1.Kept.length : Int))) = false, Meets Tryz.prog 14 [(AV.agg ((r34 a2.Prog)))] (B r10), litA (B r10) = true, (B r10) = (B true), AV.lit (.int .i64 (((a2.Kept.map r49).length : Nat) : Int)) = (I (a2.Kept.length : Int)), (B (decide ((a2.Kept.length : Int) ≤ 30))) = (B true), Meets Tryz.prog 15 [(AV.ro 3 (a2.Covered.map o80))] (B r13), litA (B r13) = true, (B r13) = (B true), Meets Tryz.prog 16 [(AV.ro 2 (a2.Finds.map r61))] (B r15), litA (B r15) = true, (B r15) = (B false), (B false) = (B false), litA (B false) = true]) (by kernel_rfl) ⟨c9, (spec_GoodProg_m hr10), rfl, (litB c11), (lenM r49), (litB c12), (spec_l11Rising_m hr13), rfl, (litB c14), (spec_l13Finds_m hr15), rfl, (litB c18), rfl, rfl, trivial⟩
          · have h := Option.some.inj h
            subst h
            exact go_ret hΘ hm hP hn (hs := [⟨1, .br false, none⟩, ⟨4, .callV [[]] (B r10), none⟩, ⟨5, .no, some (B true)⟩, ⟨8, .no, some (I (a2.Kept.length : Int))⟩, ⟨11, .no, some (B true)⟩, ⟨14, .callV [] (B r13), none⟩, ⟨16, .no, some (B false)⟩]) (rh := []) (ph := .raw) (ps := [(decide (v3 < (p1.Kept.length : Int))) = false, Meets Tryz.prog 14 [(AV.agg ((r34 a2.Prog)))] (B r10), litA (B r10) = true, (B r10) = (B true), AV.lit (.int .i64 (((a2.Kept.map r49).length : Nat) : Int)) = (I (a2.Kept.length : Int)), (B (decide ((a2.Kept.length : Int) ≤ 30))) = (B true), Meets Tryz.prog 15 [(AV.ro 3 (a2.Covered.map o80))] (B r13), litA (B r13) = true, (B r13) = (B false), (B false) = (B false), litA (B false) = true]) (by kernel_rfl) ⟨c9, (spec_GoodProg_m hr10), rfl, (litB c11), (lenM r49), (litB c12), (spec_l11Rising_m hr13), rfl, (litB c19), rfl, rfl, trivial⟩
        · have h := Option.some.inj h
          subst h
          exact go_ret hΘ hm hP hn (hs := [⟨1, .br false, none⟩, ⟨4, .callV [[]] (B r10), none⟩, ⟨5, .no, some (B true)⟩, ⟨8, .no, some (I (a2.Kept.length : Int))⟩, ⟨11, .no, some (B false)⟩]) (rh := []) (ph := .raw) (ps := [(decide (v3 < (p1.Kept.length : Int))) = false, Meets Tryz.prog 14 [(AV.agg ((r34 a2.Prog)))] (B r10), litA (B r10) = true, (B r10) = (B true), AV.lit (.int .i64 (((a2.Kept.map r49).length : Nat) : Int)) = (I (a2.Kept.length : Int)), (B (decide ((a2.Kept.length : Int) ≤ 30))) = (B false), (B false) = (B false), litA (B false) = true]) (by kernel_rfl) ⟨c9, (spec_GoodProg_m hr10), rfl, (litB c11), (lenM r49), (litB c20), rfl, rfl, trivial⟩
      · have h := Option.some.inj h
        subst h
        exact go_ret hΘ hm hP hn (hs := [⟨1, .br false, none⟩, ⟨4, .callV [[]] (B r10), none⟩, ⟨5, .no, some (B false)⟩]) (rh := []) (ph := .raw) (ps := [(decide (v3 < (p1.Kept.length : Int))) = false, Meets Tryz.prog 14 [(AV.agg ((r34 a2.Prog)))] (B r10), litA (B r10) = true, (B r10) = (B false), (B false) = (B false), litA (B false) = true]) (by kernel_rfl) ⟨c9, (spec_GoodProg_m hr10), rfl, (litB c21), rfl, rfl, trivial⟩
noncomputable def spec_GoodHunt (p1 : GHunt) : Option Bool :=
  spec_GoodHunt_l0 p1 FU p1 0
theorem spec_GoodHunt_m {p1 : GHunt} {r : Bool} (h : spec_GoodHunt p1 = some r) : Meets Tryz.prog 5 [(AV.agg ((r39 p1)))] (B r) := by
  refine meets_ofC Θ_ok Tryz.func5 rfl (c := body5) (by kernel_rfl) (Nat.le_of_ble_eq_true rfl) ?_
  intro E hP hn hx
  replace hn : E.n = 40 := hn
  have hm : E.P.follows .mixedOrders = true := by rw [hP]; exact mixed
  have hΘ : TOK E.P Θ := by rw [hP]; exact Θ_ok
  unfold spec_GoodHunt at h
  show WAt E body5 (FQ (RetE Θ Tryz.f5.results.toList [] [] (B r) E)) [] ⟨[(0, (AV.agg ((r39 p1))))], [], [JJ]⟩
  exact go_to hΘ hm hx hP hn (hs := [⟨0, .new 1001, none⟩, ⟨4, .no, some (I (p1.Kept.length : Int))⟩]) (π := [(1001, 1)]) (ts := [1, 6, 7, 8]) (kp := []) (ps := [AV.lit (.int .i64 (((p1.Kept.map r49).length : Nat) : Int)) = (I (p1.Kept.length : Int)), RenOK [(1001, 1)] [((r39 p1))]]) (by kernel_rfl) ⟨(lenM r49), (rok (treeB t39 p1)), trivial⟩ (spec_GoodHunt_l0_m hP hn hx p1 FU p1 0 _ h)
noncomputable def body3 : Code := match Tryz.f3.body with | some c => c | none => .skip
noncomputable def laws_FnExactGoodHunt (p1 : GHunt) : Option Bool :=
  Option.bind (laws_szHunt p1 1048576) fun r2 =>
  if (decide (r2 < 0)) = true then
    some true
  else
    Option.bind (laws_toHunt p1) fun r5 =>
    Option.bind (spec_GoodHunt (GHunt.mk (GProg.mk r5.Prog.Cells r5.Prog.Locks r5.Prog.Conds r5.Prog.Routines) r5.Kept r5.Covered r5.Finds r5.Tried)) fun r6 =>
    Option.bind (laws_toHunt p1) fun r7 =>
    Option.bind (impl_GoodHunt (GHunt.mk (GProg.mk r7.Prog.Cells r7.Prog.Locks r7.Prog.Conds r7.Prog.Routines) r7.Kept r7.Covered r7.Finds r7.Tried)) fun r8 =>
    if (!(r8 == r6)) = true then
      some false
    else
      Option.bind (laws_toHunt p1) fun r11 =>
      Option.bind (laws_eqHunt (GHunt.mk (GProg.mk r7.Prog.Cells r7.Prog.Locks r7.Prog.Conds r7.Prog.Routines) r7.Kept r7.Covered r7.Finds r7.Tried) (GHunt.mk (GProg.mk r11.Prog.Cells r11.Prog.Locks r11.Prog.Conds r11.Prog.Routines) r11.Kept r11.Covered r11.Finds r11.Tried)) fun r12 =>
      if (!r12) = true then
        some false
      else
        some true
theorem laws_FnExactGoodHunt_m {p1 : GHunt} {r : Bool} (h : laws_FnExactGoodHunt p1 = some r) : Meets Tryz.prog 3 [(AV.agg ((r29 p1)))] (B r) := by
  refine meets_ofC Θ_ok Tryz.func3 rfl (c := body3) (by kernel_rfl) (Nat.le_of_ble_eq_true rfl) ?_
  intro E hP hn hx
  replace hn : E.n = 27 := hn
  have hm : E.P.follows .mixedOrders = true := by rw [hP]; exact mixed
  have hΘ : TOK E.P Θ := by rw [hP]; exact Θ_ok
  unfold laws_FnExactGoodHunt at h
  show WAt E body3 (FQ (RetE Θ Tryz.f3.results.toList [] [] (B r) E)) [] ⟨[(0, (AV.agg ((r29 p1))))], [], [JJ]⟩
  obtain ⟨r2, hr2, h⟩ := bnS h
  rcases itS h with ⟨c3, h⟩ | ⟨c4, h⟩
  · have h := Option.some.inj h
    subst h
    exact go_ret hΘ hm hP hn (hs := [⟨0, .new 1001, none⟩, ⟨5, .callV [[]] (I r2), none⟩, ⟨9, .br true, none⟩]) (rh := []) (ph := .raw) (ps := [Meets Tryz.prog 4 [(AV.agg ((r29 p1))), (I 1048576)] (I r2), litA (I r2) = true, (decide (r2 < 0)) = true, (B true) = (B true), litA (B true) = true]) (by kernel_rfl) ⟨(laws_szHunt_m hr2), rfl, c3, rfl, rfl, trivial⟩
  · obtain ⟨r5, hr5, h⟩ := bnS h
    obtain ⟨r6, hr6, h⟩ := bnS h
    obtain ⟨r7, hr7, h⟩ := bnS h
    obtain ⟨r8, hr8, h⟩ := bnS h
    rcases itS h with ⟨c9, h⟩ | ⟨c10, h⟩
    · have h := Option.some.inj h
      subst h
      exact go_ret hΘ hm hP hn (hs := [⟨0, .new 1001, none⟩, ⟨5, .callV [[]] (I r2), none⟩, ⟨9, .br false, none⟩, ⟨11, .call [[]] (AV.agg (o39 r5)) [1002, 1003, 1004, 1005], none⟩, ⟨12, .callV [[], (r5.Prog.Routines.map r74), (r5.Kept.map r49), (r5.Covered.map o80), (r5.Finds.map r61)] (B r6), none⟩, ⟨15, .call [[]] (AV.agg (o39 r7)) [1006, 1007, 1008, 1009], none⟩, ⟨16, .new 1010, none⟩, ⟨19, .callV [[], (r7.Prog.Routines.map r74), (r7.Kept.map r49), (r7.Covered.map o80), (r7.Finds.map r61)] (B r8), none⟩, ⟨24, .br true, none⟩]) (rh := []) (ph := .raw) (ps := [Meets Tryz.prog 4 [(AV.agg ((r29 p1))), (I 1048576)] (I r2), litA (I r2) = true, (decide (r2 < 0)) = false, Meets Tryz.prog 6 [(AV.agg ((r29 p1)))] (AV.agg (o39 r5)), noRo (AV.agg (o39 r5)) = true, Meets Tryz.prog 5 [(AV.agg [(I r5.Prog.Cells), (I r5.Prog.Locks), (I r5.Prog.Conds), (AV.ro 1 (r5.Prog.Routines.map r74)), (AV.ro 2 (r5.Kept.map r49)), (AV.ro 3 (r5.Covered.map o80)), (AV.ro 2 (r5.Finds.map r61)), (I r5.Tried)])] (B r6), litA (B r6) = true, Frz (((r5.Prog.Routines.map o74).drop 0).take (List.length (r5.Prog.Routines.map o74))) (r5.Prog.Routines.map r74), Frz (((r5.Kept.map o49).drop 0).take (List.length (r5.Kept.map o49))) (r5.Kept.map r49), Frz (((r5.Covered.map o80).drop 0).take (List.length (r5.Covered.map o80))) (r5.Covered.map o80), Frz (((r5.Finds.map o61).drop 0).take (List.length (r5.Finds.map o61))) (r5.Finds.map r61), Meets Tryz.prog 6 [(AV.agg ((r29 p1)))] (AV.agg (o39 r7)), noRo (AV.agg (o39 r7)) = true, Meets Tryz.prog 7 [(AV.agg [(I r7.Prog.Cells), (I r7.Prog.Locks), (I r7.Prog.Conds), (AV.ro 1 (r7.Prog.Routines.map r74)), (AV.ro 2 (r7.Kept.map r49)), (AV.ro 3 (r7.Covered.map o80)), (AV.ro 2 (r7.Finds.map r61)), (I r7.Tried)])] (B r8), litA (B r8) = true, Frz (((r7.Prog.Routines.map o74).drop 0).take (List.length (r7.Prog.Routines.map o74))) (r7.Prog.Routines.map r74), Frz (((r7.Kept.map o49).drop 0).take (List.length (r7.Kept.map o49))) (r7.Kept.map r49), Frz (((r7.Covered.map o80).drop 0).take (List.length (r7.Covered.map o80))) (r7.Covered.map o80), Frz (((r7.Finds.map o61).drop 0).take (List.length (r7.Finds.map o61))) (r7.Finds.map r61), (!(r8 == r6)) = true, (B false) = (B false), litA (B false) = true]) (by kernel_rfl) ⟨(laws_szHunt_m hr2), rfl, c4, (laws_toHunt_m hr5), (by simp only [noRo, noRoL, noRoM n49, noRoM n61, noRoM n74, noRoM n80, o39, Bool.and_self]), (spec_GoodHunt_m hr6), rfl, (frzF t74 z74), (frzF t49 z49), (frzF t80 z80), (frzF t61 z61), (laws_toHunt_m hr7), (by simp only [noRo, noRoL, noRoM n49, noRoM n61, noRoM n74, noRoM n80, o39, Bool.and_self]), (impl_GoodHunt_m hr8), rfl, (frzF t74 z74), (frzF t49 z49), (frzF t80 z80), (frzF t61 z61), c9, rfl, rfl, trivial⟩
    · obtain ⟨r11, hr11, h⟩ := bnS h
      obtain ⟨r12, hr12, h⟩ := bnS h
      rcases itS h with ⟨c13, h⟩ | ⟨c14, h⟩
      · have h := Option.some.inj h
        subst h
        exact go_ret hΘ hm hP hn (hs := [⟨0, .new 1001, none⟩, ⟨5, .callV [[]] (I r2), none⟩, ⟨9, .br false, none⟩, ⟨11, .call [[]] (AV.agg (o39 r5)) [1002, 1003, 1004, 1005], none⟩, ⟨12, .callV [[], (r5.Prog.Routines.map r74), (r5.Kept.map r49), (r5.Covered.map o80), (r5.Finds.map r61)] (B r6), none⟩, ⟨15, .call [[]] (AV.agg (o39 r7)) [1006, 1007, 1008, 1009], none⟩, ⟨16, .new 1010, none⟩, ⟨19, .callV [[], (r7.Prog.Routines.map r74), (r7.Kept.map r49), (r7.Covered.map o80), (r7.Finds.map r61)] (B r8), none⟩, ⟨24, .br false, none⟩, ⟨27, .call [[]] (AV.agg (o39 r11)) [1011, 1012, 1013, 1014], none⟩, ⟨29, .callV [[], (r7.Prog.Routines.map r74), (r7.Kept.map r49), (r7.Covered.map o80), (r7.Finds.map r61), [], (r11.Prog.Routines.map r74), (r11.Kept.map r49), (r11.Covered.map o80), (r11.Finds.map r61)] (B r12), none⟩, ⟨31, .br true, none⟩]) (rh := []) (ph := .raw) (ps := [Meets Tryz.prog 4 [(AV.agg ((r29 p1))), (I 1048576)] (I r2), litA (I r2) = true, (decide (r2 < 0)) = false, Meets Tryz.prog 6 [(AV.agg ((r29 p1)))] (AV.agg (o39 r5)), noRo (AV.agg (o39 r5)) = true, Meets Tryz.prog 5 [(AV.agg [(I r5.Prog.Cells), (I r5.Prog.Locks), (I r5.Prog.Conds), (AV.ro 1 (r5.Prog.Routines.map r74)), (AV.ro 2 (r5.Kept.map r49)), (AV.ro 3 (r5.Covered.map o80)), (AV.ro 2 (r5.Finds.map r61)), (I r5.Tried)])] (B r6), litA (B r6) = true, Frz (((r5.Prog.Routines.map o74).drop 0).take (List.length (r5.Prog.Routines.map o74))) (r5.Prog.Routines.map r74), Frz (((r5.Kept.map o49).drop 0).take (List.length (r5.Kept.map o49))) (r5.Kept.map r49), Frz (((r5.Covered.map o80).drop 0).take (List.length (r5.Covered.map o80))) (r5.Covered.map o80), Frz (((r5.Finds.map o61).drop 0).take (List.length (r5.Finds.map o61))) (r5.Finds.map r61), Meets Tryz.prog 6 [(AV.agg ((r29 p1)))] (AV.agg (o39 r7)), noRo (AV.agg (o39 r7)) = true, Meets Tryz.prog 7 [(AV.agg [(I r7.Prog.Cells), (I r7.Prog.Locks), (I r7.Prog.Conds), (AV.ro 1 (r7.Prog.Routines.map r74)), (AV.ro 2 (r7.Kept.map r49)), (AV.ro 3 (r7.Covered.map o80)), (AV.ro 2 (r7.Finds.map r61)), (I r7.Tried)])] (B r8), litA (B r8) = true, Frz (((r7.Prog.Routines.map o74).drop 0).take (List.length (r7.Prog.Routines.map o74))) (r7.Prog.Routines.map r74), Frz (((r7.Kept.map o49).drop 0).take (List.length (r7.Kept.map o49))) (r7.Kept.map r49), Frz (((r7.Covered.map o80).drop 0).take (List.length (r7.Covered.map o80))) (r7.Covered.map o80), Frz (((r7.Finds.map o61).drop 0).take (List.length (r7.Finds.map o61))) (r7.Finds.map r61), (!(r8 == r6)) = false, Meets Tryz.prog 6 [(AV.agg ((r29 p1)))] (AV.agg (o39 r11)), noRo (AV.agg (o39 r11)) = true, (AV.agg [(I r7.Prog.Cells), (I r7.Prog.Locks), (I r7.Prog.Conds), (AV.sl 1006 0 (List.length (r7.Prog.Routines.map o74))), (AV.sl 1007 0 (List.length (r7.Kept.map o49))), (AV.sl 1008 0 (List.length (r7.Covered.map o80))), (AV.sl 1009 0 (List.length (r7.Finds.map o61))), (I r7.Tried)]) = (AV.agg [(I r7.Prog.Cells), (I r7.Prog.Locks), (I r7.Prog.Conds), (AV.sl 1006 0 (List.length (r7.Prog.Routines.map o74))), (AV.sl 1007 0 (List.length (r7.Kept.map o49))), (AV.sl 1008 0 (List.length (r7.Covered.map o80))), (AV.sl 1009 0 (List.length (r7.Finds.map o61))), (I r7.Tried)]), Meets Tryz.prog 8 [(AV.agg [(I r7.Prog.Cells), (I r7.Prog.Locks), (I r7.Prog.Conds), (AV.ro 1 (r7.Prog.Routines.map r74)), (AV.ro 2 (r7.Kept.map r49)), (AV.ro 3 (r7.Covered.map o80)), (AV.ro 2 (r7.Finds.map r61)), (I r7.Tried)]), (AV.agg [(I r11.Prog.Cells), (I r11.Prog.Locks), (I r11.Prog.Conds), (AV.ro 1 (r11.Prog.Routines.map r74)), (AV.ro 2 (r11.Kept.map r49)), (AV.ro 3 (r11.Covered.map o80)), (AV.ro 2 (r11.Finds.map r61)), (I r11.Tried)])] (B r12), litA (B r12) = true, Frz (((r7.Prog.Routines.map o74).drop 0).take (List.length (r7.Prog.Routines.map o74))) (r7.Prog.Routines.map r74), Frz (((r7.Kept.map o49).drop 0).take (List.length (r7.Kept.map o49))) (r7.Kept.map r49), Frz (((r7.Covered.map o80).drop 0).take (List.length (r7.Covered.map o80))) (r7.Covered.map o80), Frz (((r7.Finds.map o61).drop 0).take (List.length (r7.Finds.map o61))) (r7.Finds.map r61), Frz (((r11.Prog.Routines.map o74).drop 0).take (List.length (r11.Prog.Routines.map o74))) (r11.Prog.Routines.map r74), Frz (((r11.Kept.map o49).drop 0).take (List.length (r11.Kept.map o49))) (r11.Kept.map r49), Frz (((r11.Covered.map o80).drop 0).take (List.length (r11.Covered.map o80))) (r11.Covered.map o80), Frz (((r11.Finds.map o61).drop 0).take (List.length (r11.Finds.map o61))) (r11.Finds.map r61), (!r12) = true, (B false) = (B false), litA (B false) = true]) (by kernel_rfl) ⟨(laws_szHunt_m hr2), rfl, c4, (laws_toHunt_m hr5), (by simp only [noRo, noRoL, noRoM n49, noRoM n61, noRoM n74, noRoM n80, o39, Bool.and_self]), (spec_GoodHunt_m hr6), rfl, (frzF t74 z74), (frzF t49 z49), (frzF t80 z80), (frzF t61 z61), (laws_toHunt_m hr7), (by simp only [noRo, noRoL, noRoM n49, noRoM n61, noRoM n74, noRoM n80, o39, Bool.and_self]), (impl_GoodHunt_m hr8), rfl, (frzF t74 z74), (frzF t49 z49), (frzF t80 z80), (frzF t61 z61), c10, (laws_toHunt_m hr11), (by simp only [noRo, noRoL, noRoM n49, noRoM n61, noRoM n74, noRoM n80, o39, Bool.and_self]), rfl, (laws_eqHunt_m hr12), rfl, (frzF t74 z74), (frzF t49 z49), (frzF t80 z80), (frzF t61 z61), (frzF t74 z74), (frzF t49 z49), (frzF t80 z80), (frzF t61 z61), c13, rfl, rfl, trivial⟩
      · have h := Option.some.inj h
        subst h
        exact go_ret hΘ hm hP hn (hs := [⟨0, .new 1001, none⟩, ⟨5, .callV [[]] (I r2), none⟩, ⟨9, .br false, none⟩, ⟨11, .call [[]] (AV.agg (o39 r5)) [1002, 1003, 1004, 1005], none⟩, ⟨12, .callV [[], (r5.Prog.Routines.map r74), (r5.Kept.map r49), (r5.Covered.map o80), (r5.Finds.map r61)] (B r6), none⟩, ⟨15, .call [[]] (AV.agg (o39 r7)) [1006, 1007, 1008, 1009], none⟩, ⟨16, .new 1010, none⟩, ⟨19, .callV [[], (r7.Prog.Routines.map r74), (r7.Kept.map r49), (r7.Covered.map o80), (r7.Finds.map r61)] (B r8), none⟩, ⟨24, .br false, none⟩, ⟨27, .call [[]] (AV.agg (o39 r11)) [1011, 1012, 1013, 1014], none⟩, ⟨29, .callV [[], (r7.Prog.Routines.map r74), (r7.Kept.map r49), (r7.Covered.map o80), (r7.Finds.map r61), [], (r11.Prog.Routines.map r74), (r11.Kept.map r49), (r11.Covered.map o80), (r11.Finds.map r61)] (B r12), none⟩, ⟨31, .br false, none⟩]) (rh := []) (ph := .raw) (ps := [Meets Tryz.prog 4 [(AV.agg ((r29 p1))), (I 1048576)] (I r2), litA (I r2) = true, (decide (r2 < 0)) = false, Meets Tryz.prog 6 [(AV.agg ((r29 p1)))] (AV.agg (o39 r5)), noRo (AV.agg (o39 r5)) = true, Meets Tryz.prog 5 [(AV.agg [(I r5.Prog.Cells), (I r5.Prog.Locks), (I r5.Prog.Conds), (AV.ro 1 (r5.Prog.Routines.map r74)), (AV.ro 2 (r5.Kept.map r49)), (AV.ro 3 (r5.Covered.map o80)), (AV.ro 2 (r5.Finds.map r61)), (I r5.Tried)])] (B r6), litA (B r6) = true, Frz (((r5.Prog.Routines.map o74).drop 0).take (List.length (r5.Prog.Routines.map o74))) (r5.Prog.Routines.map r74), Frz (((r5.Kept.map o49).drop 0).take (List.length (r5.Kept.map o49))) (r5.Kept.map r49), Frz (((r5.Covered.map o80).drop 0).take (List.length (r5.Covered.map o80))) (r5.Covered.map o80), Frz (((r5.Finds.map o61).drop 0).take (List.length (r5.Finds.map o61))) (r5.Finds.map r61), Meets Tryz.prog 6 [(AV.agg ((r29 p1)))] (AV.agg (o39 r7)), noRo (AV.agg (o39 r7)) = true, Meets Tryz.prog 7 [(AV.agg [(I r7.Prog.Cells), (I r7.Prog.Locks), (I r7.Prog.Conds), (AV.ro 1 (r7.Prog.Routines.map r74)), (AV.ro 2 (r7.Kept.map r49)), (AV.ro 3 (r7.Covered.map o80)), (AV.ro 2 (r7.Finds.map r61)), (I r7.Tried)])] (B r8), litA (B r8) = true, Frz (((r7.Prog.Routines.map o74).drop 0).take (List.length (r7.Prog.Routines.map o74))) (r7.Prog.Routines.map r74), Frz (((r7.Kept.map o49).drop 0).take (List.length (r7.Kept.map o49))) (r7.Kept.map r49), Frz (((r7.Covered.map o80).drop 0).take (List.length (r7.Covered.map o80))) (r7.Covered.map o80), Frz (((r7.Finds.map o61).drop 0).take (List.length (r7.Finds.map o61))) (r7.Finds.map r61), (!(r8 == r6)) = false, Meets Tryz.prog 6 [(AV.agg ((r29 p1)))] (AV.agg (o39 r11)), noRo (AV.agg (o39 r11)) = true, (AV.agg [(I r7.Prog.Cells), (I r7.Prog.Locks), (I r7.Prog.Conds), (AV.sl 1006 0 (List.length (r7.Prog.Routines.map o74))), (AV.sl 1007 0 (List.length (r7.Kept.map o49))), (AV.sl 1008 0 (List.length (r7.Covered.map o80))), (AV.sl 1009 0 (List.length (r7.Finds.map o61))), (I r7.Tried)]) = (AV.agg [(I r7.Prog.Cells), (I r7.Prog.Locks), (I r7.Prog.Conds), (AV.sl 1006 0 (List.length (r7.Prog.Routines.map o74))), (AV.sl 1007 0 (List.length (r7.Kept.map o49))), (AV.sl 1008 0 (List.length (r7.Covered.map o80))), (AV.sl 1009 0 (List.length (r7.Finds.map o61))), (I r7.Tried)]), Meets Tryz.prog 8 [(AV.agg [(I r7.Prog.Cells), (I r7.Prog.Locks), (I r7.Prog.Conds), (AV.ro 1 (r7.Prog.Routines.map r74)), (AV.ro 2 (r7.Kept.map r49)), (AV.ro 3 (r7.Covered.map o80)), (AV.ro 2 (r7.Finds.map r61)), (I r7.Tried)]), (AV.agg [(I r11.Prog.Cells), (I r11.Prog.Locks), (I r11.Prog.Conds), (AV.ro 1 (r11.Prog.Routines.map r74)), (AV.ro 2 (r11.Kept.map r49)), (AV.ro 3 (r11.Covered.map o80)), (AV.ro 2 (r11.Finds.map r61)), (I r11.Tried)])] (B r12), litA (B r12) = true, Frz (((r7.Prog.Routines.map o74).drop 0).take (List.length (r7.Prog.Routines.map o74))) (r7.Prog.Routines.map r74), Frz (((r7.Kept.map o49).drop 0).take (List.length (r7.Kept.map o49))) (r7.Kept.map r49), Frz (((r7.Covered.map o80).drop 0).take (List.length (r7.Covered.map o80))) (r7.Covered.map o80), Frz (((r7.Finds.map o61).drop 0).take (List.length (r7.Finds.map o61))) (r7.Finds.map r61), Frz (((r11.Prog.Routines.map o74).drop 0).take (List.length (r11.Prog.Routines.map o74))) (r11.Prog.Routines.map r74), Frz (((r11.Kept.map o49).drop 0).take (List.length (r11.Kept.map o49))) (r11.Kept.map r49), Frz (((r11.Covered.map o80).drop 0).take (List.length (r11.Covered.map o80))) (r11.Covered.map o80), Frz (((r11.Finds.map o61).drop 0).take (List.length (r11.Finds.map o61))) (r11.Finds.map r61), (!r12) = false, (B true) = (B true), litA (B true) = true]) (by kernel_rfl) ⟨(laws_szHunt_m hr2), rfl, c4, (laws_toHunt_m hr5), (by simp only [noRo, noRoL, noRoM n49, noRoM n61, noRoM n74, noRoM n80, o39, Bool.and_self]), (spec_GoodHunt_m hr6), rfl, (frzF t74 z74), (frzF t49 z49), (frzF t80 z80), (frzF t61 z61), (laws_toHunt_m hr7), (by simp only [noRo, noRoL, noRoM n49, noRoM n61, noRoM n74, noRoM n80, o39, Bool.and_self]), (impl_GoodHunt_m hr8), rfl, (frzF t74 z74), (frzF t49 z49), (frzF t80 z80), (frzF t61 z61), c10, (laws_toHunt_m hr11), (by simp only [noRo, noRoL, noRoM n49, noRoM n61, noRoM n74, noRoM n80, o39, Bool.and_self]), rfl, (laws_eqHunt_m hr12), rfl, (frzF t74 z74), (frzF t49 z49), (frzF t80 z80), (frzF t61 z61), (frzF t74 z74), (frzF t49 z49), (frzF t80 z80), (frzF t61 z61), c14, rfl, rfl, trivial⟩
end Go.Proofs.YthhcnmideecfpaaGreat
