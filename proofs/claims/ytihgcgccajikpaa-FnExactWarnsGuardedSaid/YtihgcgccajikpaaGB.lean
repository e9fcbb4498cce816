/- Functions as plain data, and that the code comes to them; no condition. -/

import Derived.Test.YtihgcgccajikpaaGA
set_option linter.unusedVariables false
set_option maxRecDepth 100000
namespace Go.Proofs.Ytihgcgccajikpaa
open Go Go.T
noncomputable def body24 : Code := match Try.f24.body with | some c => c | none => .skip
noncomputable def laws_heldIntS_l0  (p1 : (List Int)) : Nat → Int → Int → Option Int
  | 0, _, _ => none
  | n + 1, v3, v4 =>
  if (decide (v4 < (p1.length : Int))) = true then
    Option.bind (rd p1 v4) fun x6 =>
    if (x6 != v3) = true then
      some (-1)
    else
      laws_heldIntS_l0 p1 n (w64 (v3 + 1)) (w64 (v4 + 1))
  else
    some v3
theorem laws_heldIntS_l0_m {E : Env} (hP : E.P = Try.prog) (hn : E.n = 21) (hx : ∀ p, p ∈ E.fx → p.1 ∈ ([] : List Nat)) (p1 : (List Int))  : ∀ (n : Nat) (v3 : Int) (v4 : Int) (r : Int), laws_heldIntS_l0 p1 n v3 v4 = some r → WAt E body24 (FQ (RetE Θ Try.f24.results.toList [] [] (I r) E)) [true, false, true, false] ⟨[(0, (AV.ro 1 (p1.map o3))), (1, (I v3)), (5, (I v4))], [], [JJ]⟩ := by
  have hm : E.P.follows .mixedOrders = true := by rw [hP]; exact mixed
  have hΘ : TOK E.P Θ := by rw [hP]; exact Θ_ok
  intro n
  induction n with
  | zero => intro v3 v4 r h; simp only [laws_heldIntS_l0] at h; cases h
  | succ n ih =>
    intro v3 v4 r h
    simp only [laws_heldIntS_l0] at h
    rcases itS h with ⟨c5, h⟩ | ⟨c9, h⟩
    · obtain ⟨x6, hx6, h⟩ := bnS h
      rcases itS h with ⟨c7, h⟩ | ⟨c8, h⟩
      · have h := Option.some.inj h
        subst h
        exact go_ret hΘ hm hP hn (hs := [⟨2, .no, some (I (p1.length : Int))⟩, ⟨4, .br true, none⟩, ⟨7, .row (o3 x6), none⟩, ⟨11, .br true, none⟩]) (rh := []) (ph := .raw) (ps := [AV.lit (.int .i64 (((p1.map o3).length : Nat) : Int)) = (I (p1.length : Int)), (decide (v4 < (p1.length : Int))) = true, (0 : Int) ≤ v4, (p1.map o3)[(Int.toNat v4)]? = some (o3 x6), (x6 != v3) = true, (I (-1)) = (I (-1)), litA (I (-1)) = true]) (by kernel_rfl) ⟨(lenM o3), c5, (rd0 hx6), (rdM o3 hx6), c7, rfl, rfl, trivial⟩
      · exact go_to hΘ hm hx hP hn (hs := [⟨2, .no, some (I (p1.length : Int))⟩, ⟨4, .br true, none⟩, ⟨7, .row (o3 x6), none⟩, ⟨11, .br false, none⟩]) (π := []) (ts := [0, 1, 5]) (kp := []) (ps := [AV.lit (.int .i64 (((p1.map o3).length : Nat) : Int)) = (I (p1.length : Int)), (decide (v4 < (p1.length : Int))) = true, (0 : Int) ≤ v4, (p1.map o3)[(Int.toNat v4)]? = some (o3 x6), (x6 != v3) = false]) (by kernel_rfl) ⟨(lenM o3), c5, (rd0 hx6), (rdM o3 hx6), c8, trivial⟩ (ih (w64 (v3 + 1)) (w64 (v4 + 1)) _ h)
    · have h := Option.some.inj h
      subst h
      exact go_ret hΘ hm hP hn (hs := [⟨2, .no, some (I (p1.length : Int))⟩, ⟨4, .br false, none⟩]) (rh := []) (ph := .raw) (ps := [AV.lit (.int .i64 (((p1.map o3).length : Nat) : Int)) = (I (p1.length : Int)), (decide (v4 < (p1.length : Int))) = false, (I v3) = (I v3), litA (I v3) = true]) (by kernel_rfl) ⟨(lenM o3), c9, rfl, rfl, trivial⟩
noncomputable def laws_heldIntS (p1 : (List Int)) (p2 : Int) : Option Int :=
  laws_heldIntS_l0 p1 FU p2 0
theorem laws_heldIntS_m {p1 : (List Int)} {p2 : Int} {r : Int} (h : laws_heldIntS p1 p2 = some r) : Meets Try.prog 24 [(AV.ro 1 (p1.map o3)), (I p2)] (I r) := by
  refine meets_ofC Θ_ok Try.func24 rfl (c := body24) (by kernel_rfl) (Nat.le_of_ble_eq_true rfl) ?_
  intro E hP hn hx
  replace hn : E.n = 21 := hn
  have hm : E.P.follows .mixedOrders = true := by rw [hP]; exact mixed
  have hΘ : TOK E.P Θ := by rw [hP]; exact Θ_ok
  unfold laws_heldIntS at h
  show WAt E body24 (FQ (RetE Θ Try.f24.results.toList [] [] (I r) E)) [] ⟨[(0, (AV.ro 1 (p1.map o3))), (1, (I p2))], [], [JJ]⟩
  exact go_to hΘ hm hx hP hn (hs := []) (π := []) (ts := [0, 1, 5]) (kp := []) (ps := []) (by kernel_rfl) trivial (laws_heldIntS_l0_m hP hn hx p1 FU p2 0 _ h)
noncomputable def body29 : Code := match Try.f29.body with | some c => c | none => .skip
noncomputable def laws_heldIntSS_l0  (p1 : (List (List Int))) : Nat → Int → Int → Option Int
  | 0, _, _ => none
  | n + 1, v3, v4 =>
  if (decide (v4 < (p1.length : Int))) = true then
    Option.bind (rd p1 v4) fun x6 =>
    Option.bind (laws_heldIntS x6 v3) fun r7 =>
    if (decide (r7 < 0)) = true then
      some (-1)
    else
      laws_heldIntSS_l0 p1 n r7 (w64 (v4 + 1))
  else
    some v3
theorem laws_heldIntSS_l0_m {E : Env} (hP : E.P = Try.prog) (hn : E.n = 21) (hx : ∀ p, p ∈ E.fx → p.1 ∈ ([] : List Nat)) (p1 : (List (List Int)))  : ∀ (n : Nat) (v3 : Int) (v4 : Int) (r : Int), laws_heldIntSS_l0 p1 n v3 v4 = some r → WAt E body29 (FQ (RetE Θ Try.f29.results.toList [] [] (I r) E)) [true, false, true, false] ⟨[(0, (AV.ro 1 (p1.map r33))), (1, (I v3)), (5, (I v4))], [], [JJ]⟩ := by
  have hm : E.P.follows .mixedOrders = true := by rw [hP]; exact mixed
  have hΘ : TOK E.P Θ := by rw [hP]; exact Θ_ok
  intro n
  induction n with
  | zero => intro v3 v4 r h; simp only [laws_heldIntSS_l0] at h; cases h
  | succ n ih =>
    intro v3 v4 r h
    simp only [laws_heldIntSS_l0] at h
    rcases itS h with ⟨c5, h⟩ | ⟨c10, h⟩
    · obtain ⟨x6, hx6, h⟩ := bnS h
      obtain ⟨r7, hr7, h⟩ := bnS h
      rcases itS h with ⟨c8, h⟩ | ⟨c9, h⟩
      · have h := Option.some.inj h
        subst h
        exact go_ret hΘ hm hP hn (hs := [⟨2, .no, some (I (p1.length : Int))⟩, ⟨4, .br true, none⟩, ⟨7, .row (r33 x6), none⟩, ⟨10, .callV [] (I r7), none⟩, ⟨14, .br true, none⟩]) (rh := []) (ph := .raw) (ps := [AV.lit (.int .i64 (((p1.map r33).length : Nat) : Int)) = (I (p1.length : Int)), (decide (v4 < (p1.length : Int))) = true, (0 : Int) ≤ v4, (p1.map r33)[(Int.toNat v4)]? = some (r33 x6), Meets Try.prog 24 [(AV.ro 1 (x6.map o3)), (I v3)] (I r7), litA (I r7) = true, (decide (r7 < 0)) = true, (I (-1)) = (I (-1)), litA (I (-1)) = true]) (by kernel_rfl) ⟨(lenM r33), c5, (rd0 hx6), (rdM r33 hx6), (laws_heldIntS_m hr7), rfl, c8, rfl, rfl, trivial⟩
      · exact go_to hΘ hm hx hP hn (hs := [⟨2, .no, some (I (p1.length : Int))⟩, ⟨4, .br true, none⟩, ⟨7, .row (r33 x6), none⟩, ⟨10, .callV [] (I r7), none⟩, ⟨14, .br false, none⟩]) (π := []) (ts := [0, 1, 5]) (kp := []) (ps := [AV.lit (.int .i64 (((p1.map r33).length : Nat) : Int)) = (I (p1.length : Int)), (decide (v4 < (p1.length : Int))) = true, (0 : Int) ≤ v4, (p1.map r33)[(Int.toNat v4)]? = some (r33 x6), Meets Try.prog 24 [(AV.ro 1 (x6.map o3)), (I v3)] (I r7), litA (I r7) = true, (decide (r7 < 0)) = false]) (by kernel_rfl) ⟨(lenM r33), c5, (rd0 hx6), (rdM r33 hx6), (laws_heldIntS_m hr7), rfl, c9, trivial⟩ (ih r7 (w64 (v4 + 1)) _ h)
    · have h := Option.some.inj h
      subst h
      exact go_ret hΘ hm hP hn (hs := [⟨2, .no, some (I (p1.length : Int))⟩, ⟨4, .br false, none⟩]) (rh := []) (ph := .raw) (ps := [AV.lit (.int .i64 (((p1.map r33).length : Nat) : Int)) = (I (p1.length : Int)), (decide (v4 < (p1.length : Int))) = false, (I v3) = (I v3), litA (I v3) = true]) (by kernel_rfl) ⟨(lenM r33), c10, rfl, rfl, trivial⟩
noncomputable def laws_heldIntSS (p1 : (List (List Int))) (p2 : Int) : Option Int :=
  laws_heldIntSS_l0 p1 FU p2 0
theorem laws_heldIntSS_m {p1 : (List (List Int))} {p2 : Int} {r : Int} (h : laws_heldIntSS p1 p2 = some r) : Meets Try.prog 29 [(AV.ro 1 (p1.map r33)), (I p2)] (I r) := by
  refine meets_ofC Θ_ok Try.func29 rfl (c := body29) (by kernel_rfl) (Nat.le_of_ble_eq_true rfl) ?_
  intro E hP hn hx
  replace hn : E.n = 21 := hn
  have hm : E.P.follows .mixedOrders = true := by rw [hP]; exact mixed
  have hΘ : TOK E.P Θ := by rw [hP]; exact Θ_ok
  unfold laws_heldIntSS at h
  show WAt E body29 (FQ (RetE Θ Try.f29.results.toList [] [] (I r) E)) [] ⟨[(0, (AV.ro 1 (p1.map r33))), (1, (I p2))], [], [JJ]⟩
  exact go_to hΘ hm hx hP hn (hs := []) (π := []) (ts := [0, 1, 5]) (kp := []) (ps := []) (by kernel_rfl) trivial (laws_heldIntSS_l0_m hP hn hx p1 FU p2 0 _ h)
noncomputable def body22 : Code := match Try.f22.body with | some c => c | none => .skip
noncomputable def laws_markEventS_l0   : Nat → (List GEvent) → Int → Int → Option (Int × (List GEvent))
  | 0, _, _, _ => none
  | n + 1, a3, v4, v5 =>
  if (decide (v5 < (a3.length : Int))) = true then
    Option.bind (rd a3 v5) fun x7 =>
    laws_markEventS_l0 n (a3.set (Int.toNat v5) (GEvent.mk v4 (w64 (v4 + 1)) (w64 ((w64 (v4 + 1)) + 1)) (w64 ((w64 ((w64 (v4 + 1)) + 1)) + 1)) (w64 ((w64 ((w64 ((w64 (v4 + 1)) + 1)) + 1)) + 1)))) (w64 ((w64 ((w64 ((w64 ((w64 (v4 + 1)) + 1)) + 1)) + 1)) + 1)) (w64 (v5 + 1))
  else
    some (v4, a3)
theorem laws_markEventS_l0_m {E : Env} (hP : E.P = Try.prog) (hn : E.n = 48) (hx : ∀ p, p ∈ E.fx → p.1 ∈ ([0] : List Nat))   : ∀ (n : Nat) (a3 : (List GEvent)) (v4 : Int) (v5 : Int) (r : (Int × (List GEvent))), laws_markEventS_l0  n a3 v4 v5 = some r → WAt E body22 (FQ (RetE Θ Try.f22.results.toList [true] [⟨64, 5, (r.2.map o64)⟩] (I r.1) E)) [true, false, true, false] ⟨[(0, (AV.sl 0 0 (List.length (a3.map o64)))), (1, (I v4)), (5, (I v5))], [(0, some ⟨64, 5, (a3.map o64)⟩)], [0, JJ]⟩ := by
  have hm : E.P.follows .mixedOrders = true := by rw [hP]; exact mixed
  have hΘ : TOK E.P Θ := by rw [hP]; exact Θ_ok
  intro n
  induction n with
  | zero => intro a3 v4 v5 r h; simp only [laws_markEventS_l0] at h; cases h
  | succ n ih =>
    intro a3 v4 v5 r h
    simp only [laws_markEventS_l0] at h
    rcases itS h with ⟨c6, h⟩ | ⟨c8, h⟩
    · obtain ⟨x7, hx7, h⟩ := bnS h
      exact go_to hΘ hm hx hP hn (hs := [⟨2, .no, some (I (a3.length : Int))⟩, ⟨4, .br true, none⟩, ⟨10, .sto ((o64 x7)) ((a3.set (Int.toNat v5) (GEvent.mk v4 x7.Kind x7.Obj x7.Lock x7.Pc)).map o64), none⟩, ⟨14, .slen 0 (List.length ((a3.set (Int.toNat v5) (GEvent.mk v4 x7.Kind x7.Obj x7.Lock x7.Pc)).map o64)), none⟩, ⟨19, .sto [(I v4), (I x7.Kind), (I x7.Obj), (I x7.Lock), (I x7.Pc)] ((a3.set (Int.toNat v5) (GEvent.mk v4 (w64 (v4 + 1)) x7.Obj x7.Lock x7.Pc)).map o64), none⟩, ⟨23, .slen 0 (List.length ((a3.set (Int.toNat v5) (GEvent.mk v4 (w64 (v4 + 1)) x7.Obj x7.Lock x7.Pc)).map o64)), none⟩, ⟨28, .sto [(I v4), (I (w64 (v4 + 1))), (I x7.Obj), (I x7.Lock), (I x7.Pc)] ((a3.set (Int.toNat v5) (GEvent.mk v4 (w64 (v4 + 1)) (w64 ((w64 (v4 + 1)) + 1)) x7.Lock x7.Pc)).map o64), none⟩, ⟨32, .slen 0 (List.length ((a3.set (Int.toNat v5) (GEvent.mk v4 (w64 (v4 + 1)) (w64 ((w64 (v4 + 1)) + 1)) x7.Lock x7.Pc)).map o64)), none⟩, ⟨37, .sto [(I v4), (I (w64 (v4 + 1))), (I (w64 ((w64 (v4 + 1)) + 1))), (I x7.Lock), (I x7.Pc)] ((a3.set (Int.toNat v5) (GEvent.mk v4 (w64 (v4 + 1)) (w64 ((w64 (v4 + 1)) + 1)) (w64 ((w64 ((w64 (v4 + 1)) + 1)) + 1)) x7.Pc)).map o64), none⟩, ⟨41, .slen 0 (List.length ((a3.set (Int.toNat v5) (GEvent.mk v4 (w64 (v4 + 1)) (w64 ((w64 (v4 + 1)) + 1)) (w64 ((w64 ((w64 (v4 + 1)) + 1)) + 1)) x7.Pc)).map o64)), none⟩, ⟨46, .sto [(I v4), (I (w64 (v4 + 1))), (I (w64 ((w64 (v4 + 1)) + 1))), (I (w64 ((w64 ((w64 (v4 + 1)) + 1)) + 1))), (I x7.Pc)] ((a3.set (Int.toNat v5) (GEvent.mk v4 (w64 (v4 + 1)) (w64 ((w64 (v4 + 1)) + 1)) (w64 ((w64 ((w64 (v4 + 1)) + 1)) + 1)) (w64 ((w64 ((w64 ((w64 (v4 + 1)) + 1)) + 1)) + 1)))).map o64), none⟩, ⟨53, .slen 0 (List.length ((a3.set (Int.toNat v5) (GEvent.mk v4 (w64 (v4 + 1)) (w64 ((w64 (v4 + 1)) + 1)) (w64 ((w64 ((w64 (v4 + 1)) + 1)) + 1)) (w64 ((w64 ((w64 ((w64 (v4 + 1)) + 1)) + 1)) + 1)))).map o64)), none⟩]) (π := [(0, 0)]) (ts := [0, 1, 5]) (kp := []) (ps := [AV.lit (.int .i64 (((List.length (a3.map o64)) : Nat) : Int)) = (I (a3.length : Int)), (decide (v5 < (a3.length : Int))) = true, (0 : Int) ≤ v5, v5 < (((List.length (a3.map o64)) : Nat) : Int), (a3.map o64)[(Int.toNat v5)]? = some ((o64 x7)), (a3.map o64).set (Int.toNat v5) (wr ((o64 x7)) 0 [(I v4)]) = ((a3.set (Int.toNat v5) (GEvent.mk v4 x7.Kind x7.Obj x7.Lock x7.Pc)).map o64), [(I v4)].length = 1, 0 + [(I v4)].length ≤ ((o64 x7)).length, (List.length (a3.map o64)) = (List.length ((a3.set (Int.toNat v5) (GEvent.mk v4 x7.Kind x7.Obj x7.Lock x7.Pc)).map o64)), (0 : Int) ≤ v5, v5 < (((List.length ((a3.set (Int.toNat v5) (GEvent.mk v4 x7.Kind x7.Obj x7.Lock x7.Pc)).map o64)) : Nat) : Int), ((a3.set (Int.toNat v5) (GEvent.mk v4 x7.Kind x7.Obj x7.Lock x7.Pc)).map o64)[(Int.toNat v5)]? = some [(I v4), (I x7.Kind), (I x7.Obj), (I x7.Lock), (I x7.Pc)], ((a3.set (Int.toNat v5) (GEvent.mk v4 x7.Kind x7.Obj x7.Lock x7.Pc)).map o64).set (Int.toNat v5) (wr [(I v4), (I x7.Kind), (I x7.Obj), (I x7.Lock), (I x7.Pc)] 1 [(I (w64 (v4 + 1)))]) = ((a3.set (Int.toNat v5) (GEvent.mk v4 (w64 (v4 + 1)) x7.Obj x7.Lock x7.Pc)).map o64), [(I (w64 (v4 + 1)))].length = 1, 1 + [(I (w64 (v4 + 1)))].length ≤ [(I v4), (I x7.Kind), (I x7.Obj), (I x7.Lock), (I x7.Pc)].length, (List.length ((a3.set (Int.toNat v5) (GEvent.mk v4 x7.Kind x7.Obj x7.Lock x7.Pc)).map o64)) = (List.length ((a3.set (Int.toNat v5) (GEvent.mk v4 (w64 (v4 + 1)) x7.Obj x7.Lock x7.Pc)).map o64)), (0 : Int) ≤ v5, v5 < (((List.length ((a3.set (Int.toNat v5) (GEvent.mk v4 (w64 (v4 + 1)) x7.Obj x7.Lock x7.Pc)).map o64)) : Nat) : Int), ((a3.set (Int.toNat v5) (GEvent.mk v4 (w64 (v4 + 1)) x7.Obj x7.Lock x7.Pc)).map o64)[(Int.toNat v5)]? = some [(I v4), (I (w64 (v4 + 1))), (I x7.Obj), (I x7.Lock), (I x7.Pc)], ((a3.set (Int.toNat v5) (GEvent.mk v4 (w64 (v4 + 1)) x7.Obj x7.Lock x7.Pc)).map o64).set (Int.toNat v5) (wr [(I v4), (I (w64 (v4 + 1))), (I x7.Obj), (I x7.Lock), (I x7.Pc)] 2 [(I (w64 ((w64 (v4 + 1)) + 1)))]) = ((a3.set (Int.toNat v5) (GEvent.mk v4 (w64 (v4 + 1)) (w64 ((w64 (v4 + 1)) + 1)) x7.Lock x7.Pc)).map o64), [(I (w64 ((w64 (v4 + 1)) + 1)))].length = 1, 2 + [(I (w64 ((w64 (v4 + 1)) + 1)))].length ≤ [(I v4), (I (w64 (v4 + 1))), (I x7.Obj), (I x7.Lock), (I x7.Pc)].length, (List.length ((a3.set (Int.toNat v5) (GEvent.mk v4 (w64 (v4 + 1)) x7.Obj x7.Lock x7.Pc)).map o64)) = (List.length ((a3.set (Int.toNat v5) (GEvent.mk v4 (w64 (v4 + 1)) (w64 ((w64 (v4 + 1)) + 1)) x7.Lock x7.Pc)).map o64)), (0 : Int) ≤ v5, v5 < (((List.length ((a3.set (Int.toNat v5) (GEvent.mk v4 (w64 (v4 + 1)) (w64 ((w64 (v4 + 1)) + 1)) x7.Lock x7.Pc)).map o64)) : Nat) : Int), ((a3.set (Int.toNat v5) (GEvent.mk v4 (w64 (v4 + 1)) (w64 ((w64 (v4 + 1)) + 1)) x7.Lock x7.Pc)).map o64)[(Int.toNat v5)]? = some [(I v4), (I (w64 (v4 + 1))), (I (w64 ((w64 (v4 + 1)) + 1))), (I x7.Lock), (I x7.Pc)], ((a3.set (Int.toNat v5) (GEvent.mk v4 (w64 (v4 + 1)) (w64 ((w64 (v4 + 1)) + 1)) x7.Lock x7.Pc)).map o64).set (Int.toNat v5) (wr [(I v4), (I (w64 (v4 + 1))), (I (w64 ((w64 (v4 + 1)) + 1))), (I x7.Lock), (I x7.Pc)] 3 [(I (w64 ((w64 ((w64 (v4 + 1)) + 1)) + 1)))]) = ((a3.set (Int.toNat v5) (GEvent.mk v4 (w64 (v4 + 1)) (w64 ((w64 (v4 + 1)) + 1)) (w64 ((w64 ((w64 (v4 + 1)) + 1)) + 1)) x7.Pc)).map o64), [(I (w64 ((w64 ((w64 (v4 + 1)) + 1)) + 1)))].length = 1, 3 + [(I (w64 ((w64 ((w64 (v4 + 1)) + 1)) + 1)))].length ≤ [(I v4), (I (w64 (v4 + 1))), (I (w64 ((w64 (v4 + 1)) + 1))), (I x7.Lock), (I x7.Pc)].length, (List.length ((a3.set (Int.toNat v5) (GEvent.mk v4 (w64 (v4 + 1)) (w64 ((w64 (v4 + 1)) + 1)) x7.Lock x7.Pc)).map o64)) = (List.length ((a3.set (Int.toNat v5) (GEvent.mk v4 (w64 (v4 + 1)) (w64 ((w64 (v4 + 1)) + 1)) (w64 ((w64 ((w64 (v4 + 1)) + 1)) + 1)) x7.Pc)).map o64)), (0 : Int) ≤ v5, v5 < (((List.length ((a3.set (Int.toNat v5) (GEvent.mk v4 (w64 (v4 + 1)) (w64 ((w64 (v4 + 1)) + 1)) (w64 ((w64 ((w64 (v4 + 1)) + 1)) + 1)) x7.Pc)).map o64)) : Nat) : Int), ((a3.set (Int.toNat v5) (GEvent.mk v4 (w64 (v4 + 1)) (w64 ((w64 (v4 + 1)) + 1)) (w64 ((w64 ((w64 (v4 + 1)) + 1)) + 1)) x7.Pc)).map o64)[(Int.toNat v5)]? = some [(I v4), (I (w64 (v4 + 1))), (I (w64 ((w64 (v4 + 1)) + 1))), (I (w64 ((w64 ((w64 (v4 + 1)) + 1)) + 1))), (I x7.Pc)], ((a3.set (Int.toNat v5) (GEvent.mk v4 (w64 (v4 + 1)) (w64 ((w64 (v4 + 1)) + 1)) (w64 ((w64 ((w64 (v4 + 1)) + 1)) + 1)) x7.Pc)).map o64).set (Int.toNat v5) (wr [(I v4), (I (w64 (v4 + 1))), (I (w64 ((w64 (v4 + 1)) + 1))), (I (w64 ((w64 ((w64 (v4 + 1)) + 1)) + 1))), (I x7.Pc)] 4 [(I (w64 ((w64 ((w64 ((w64 (v4 + 1)) + 1)) + 1)) + 1)))]) = ((a3.set (Int.toNat v5) (GEvent.mk v4 (w64 (v4 + 1)) (w64 ((w64 (v4 + 1)) + 1)) (w64 ((w64 ((w64 (v4 + 1)) + 1)) + 1)) (w64 ((w64 ((w64 ((w64 (v4 + 1)) + 1)) + 1)) + 1)))).map o64), [(I (w64 ((w64 ((w64 ((w64 (v4 + 1)) + 1)) + 1)) + 1)))].length = 1, 4 + [(I (w64 ((w64 ((w64 ((w64 (v4 + 1)) + 1)) + 1)) + 1)))].length ≤ [(I v4), (I (w64 (v4 + 1))), (I (w64 ((w64 (v4 + 1)) + 1))), (I (w64 ((w64 ((w64 (v4 + 1)) + 1)) + 1))), (I x7.Pc)].length, (List.length ((a3.set (Int.toNat v5) (GEvent.mk v4 (w64 (v4 + 1)) (w64 ((w64 (v4 + 1)) + 1)) (w64 ((w64 ((w64 (v4 + 1)) + 1)) + 1)) x7.Pc)).map o64)) = (List.length ((a3.set (Int.toNat v5) (GEvent.mk v4 (w64 (v4 + 1)) (w64 ((w64 (v4 + 1)) + 1)) (w64 ((w64 ((w64 (v4 + 1)) + 1)) + 1)) (w64 ((w64 ((w64 ((w64 (v4 + 1)) + 1)) + 1)) + 1)))).map o64)), RenOK [(0, 0)] ((a3.set (Int.toNat v5) (GEvent.mk v4 (w64 (v4 + 1)) (w64 ((w64 (v4 + 1)) + 1)) (w64 ((w64 ((w64 (v4 + 1)) + 1)) + 1)) (w64 ((w64 ((w64 ((w64 (v4 + 1)) + 1)) + 1)) + 1)))).map o64)]) (by kernel_rfl) ⟨(lenM o64), c6, (rd0 hx7), (rdL o64 hx7), (rdM o64 hx7), (setMr o64 (by kernel_rfl)), rfl, (Nat.le_of_ble_eq_true rfl), (by first | exact lnSet _ | exact lnSet2 _ | exact apLn _ (by assumption) | simp only [List.length_map, List.length_set, List.length_cons, List.length_nil]), (rd0 hx7), (rdL o64 (rdS (y := (GEvent.mk v4 x7.Kind x7.Obj x7.Lock x7.Pc)) hx7)), (rdM o64 (rdS (y := (GEvent.mk v4 x7.Kind x7.Obj x7.Lock x7.Pc)) hx7)), (setSS o64 (by kernel_rfl)), rfl, (Nat.le_of_ble_eq_true rfl), (by first | exact lnSet _ | exact lnSet2 _ | exact apLn _ (by assumption) | simp only [List.length_map, List.length_set, List.length_cons, List.length_nil]), (rd0 hx7), (rdL o64 (rdS (y := (GEvent.mk v4 (w64 (v4 + 1)) x7.Obj x7.Lock x7.Pc)) hx7)), (rdM o64 (rdS (y := (GEvent.mk v4 (w64 (v4 + 1)) x7.Obj x7.Lock x7.Pc)) hx7)), (setSS o64 (by kernel_rfl)), rfl, (Nat.le_of_ble_eq_true rfl), (by first | exact lnSet _ | exact lnSet2 _ | exact apLn _ (by assumption) | simp only [List.length_map, List.length_set, List.length_cons, List.length_nil]), (rd0 hx7), (rdL o64 (rdS (y := (GEvent.mk v4 (w64 (v4 + 1)) (w64 ((w64 (v4 + 1)) + 1)) x7.Lock x7.Pc)) hx7)), (rdM o64 (rdS (y := (GEvent.mk v4 (w64 (v4 + 1)) (w64 ((w64 (v4 + 1)) + 1)) x7.Lock x7.Pc)) hx7)), (setSS o64 (by kernel_rfl)), rfl, (Nat.le_of_ble_eq_true rfl), (by first | exact lnSet _ | exact lnSet2 _ | exact apLn _ (by assumption) | simp only [List.length_map, List.length_set, List.length_cons, List.length_nil]), (rd0 hx7), (rdL o64 (rdS (y := (GEvent.mk v4 (w64 (v4 + 1)) (w64 ((w64 (v4 + 1)) + 1)) (w64 ((w64 ((w64 (v4 + 1)) + 1)) + 1)) x7.Pc)) hx7)), (rdM o64 (rdS (y := (GEvent.mk v4 (w64 (v4 + 1)) (w64 ((w64 (v4 + 1)) + 1)) (w64 ((w64 ((w64 (v4 + 1)) + 1)) + 1)) x7.Pc)) hx7)), (setSS o64 (by kernel_rfl)), rfl, (Nat.le_of_ble_eq_true rfl), (by first | exact lnSet _ | exact lnSet2 _ | exact apLn _ (by assumption) | simp only [List.length_map, List.length_set, List.length_cons, List.length_nil]), (rok (treeM t64)), trivial⟩ (ih (a3.set (Int.toNat v5) (GEvent.mk v4 (w64 (v4 + 1)) (w64 ((w64 (v4 + 1)) + 1)) (w64 ((w64 ((w64 (v4 + 1)) + 1)) + 1)) (w64 ((w64 ((w64 ((w64 (v4 + 1)) + 1)) + 1)) + 1)))) (w64 ((w64 ((w64 ((w64 ((w64 (v4 + 1)) + 1)) + 1)) + 1)) + 1)) (w64 (v5 + 1)) _ h)
    · have h := Option.some.inj h
      subst h
      exact go_ret hΘ hm hP hn (hs := [⟨2, .no, some (I (a3.length : Int))⟩, ⟨4, .br false, none⟩]) (rh := []) (ph := .raw) (ps := [AV.lit (.int .i64 (((List.length (a3.map o64)) : Nat) : Int)) = (I (a3.length : Int)), (decide (v5 < (a3.length : Int))) = false, (a3.map o64) = (a3.map o64), treeLL (a3.map o64) = true, noRoLL (a3.map o64) = true, (I v4) = (I v4), litA (I v4) = true]) (by kernel_rfl) ⟨(lenM o64), c8, rfl, (treeM t64), (noRoM n64), rfl, rfl, trivial⟩
noncomputable def laws_markEventS (p1 : (List GEvent)) (p2 : Int) : Option (Int × (List GEvent)) :=
  laws_markEventS_l0 FU p1 p2 0
theorem laws_markEventS_m {p1 : (List GEvent)} {p2 : Int} {r : (Int × (List GEvent))} (h : laws_markEventS p1 p2 = some r) : MeetsR Try.prog 22 [⟨64, 5, (p1.map o64)⟩] [(AV.sl 0 0 (List.length (p1.map o64))), (I p2)] [true] [⟨64, 5, (r.2.map o64)⟩] (I r.1) := by
  refine meetsR_of Θ_ok Try.func22 rfl (c := body22) (by kernel_rfl) (Nat.le_of_ble_eq_true rfl) rfl (Nat.le_of_ble_eq_true rfl) rfl (fr := [0]) (frI rfl) ?_
  intro E hP hn hx
  replace hn : E.n = 48 := hn
  have hm : E.P.follows .mixedOrders = true := by rw [hP]; exact mixed
  have hΘ : TOK E.P Θ := by rw [hP]; exact Θ_ok
  unfold laws_markEventS at h
  show WAt E body22 (FQ (RetE Θ Try.f22.results.toList [true] [⟨64, 5, (r.2.map o64)⟩] (I r.1) E)) [] ⟨[(0, (AV.sl 0 0 (List.length (p1.map o64)))), (1, (I p2))], [(0, some ⟨64, 5, (p1.map o64)⟩)], [0, JJ]⟩
  exact go_to hΘ hm hx hP hn (hs := []) (π := [(0, 0)]) (ts := [0, 1, 5]) (kp := []) (ps := [RenOK [(0, 0)] (p1.map o64)]) (by kernel_rfl) ⟨(rok (treeM t64)), trivial⟩ (laws_markEventS_l0_m hP hn hx FU p1 p2 0 _ h)
noncomputable def body23 : Code := match Try.f23.body with | some c => c | none => .skip
noncomputable def laws_markIntS_l0   : Nat → (List Int) → Int → Int → Option (Int × (List Int))
  | 0, _, _, _ => none
  | n + 1, a3, v4, v5 =>
  if (decide (v5 < (a3.length : Int))) = true then
    Option.bind (rd a3 v5) fun x7 =>
    laws_markIntS_l0 n (a3.set (Int.toNat v5) v4) (w64 (v4 + 1)) (w64 (v5 + 1))
  else
    some (v4, a3)
theorem laws_markIntS_l0_m {E : Env} (hP : E.P = Try.prog) (hn : E.n = 19) (hx : ∀ p, p ∈ E.fx → p.1 ∈ ([0] : List Nat))   : ∀ (n : Nat) (a3 : (List Int)) (v4 : Int) (v5 : Int) (r : (Int × (List Int))), laws_markIntS_l0  n a3 v4 v5 = some r → WAt E body23 (FQ (RetE Θ Try.f23.results.toList [true] [⟨3, 1, (r.2.map o3)⟩] (I r.1) E)) [true, false, true, false] ⟨[(0, (AV.sl 0 0 (List.length (a3.map o3)))), (1, (I v4)), (5, (I v5))], [(0, some ⟨3, 1, (a3.map o3)⟩)], [0, JJ]⟩ := by
  have hm : E.P.follows .mixedOrders = true := by rw [hP]; exact mixed
  have hΘ : TOK E.P Θ := by rw [hP]; exact Θ_ok
  intro n
  induction n with
  | zero => intro a3 v4 v5 r h; simp only [laws_markIntS_l0] at h; cases h
  | succ n ih =>
    intro a3 v4 v5 r h
    simp only [laws_markIntS_l0] at h
    rcases itS h with ⟨c6, h⟩ | ⟨c8, h⟩
    · obtain ⟨x7, hx7, h⟩ := bnS h
      exact go_to hΘ hm hx hP hn (hs := [⟨2, .no, some (I (a3.length : Int))⟩, ⟨4, .br true, none⟩, ⟨9, .sto [(I x7)] ((a3.set (Int.toNat v5) v4).map o3), none⟩, ⟨16, .slen 0 (List.length ((a3.set (Int.toNat v5) v4).map o3)), none⟩]) (π := [(0, 0)]) (ts := [0, 1, 5]) (kp := []) (ps := [AV.lit (.int .i64 (((List.length (a3.map o3)) : Nat) : Int)) = (I (a3.length : Int)), (decide (v5 < (a3.length : Int))) = true, (0 : Int) ≤ v5, v5 < (((List.length (a3.map o3)) : Nat) : Int), (a3.map o3)[(Int.toNat v5)]? = some [(I x7)], (a3.map o3).set (Int.toNat v5) (wr [(I x7)] 0 [(I v4)]) = ((a3.set (Int.toNat v5) v4).map o3), [(I v4)].length = 1, 0 + [(I v4)].length ≤ [(I x7)].length, (List.length (a3.map o3)) = (List.length ((a3.set (Int.toNat v5) v4).map o3)), RenOK [(0, 0)] ((a3.set (Int.toNat v5) v4).map o3)]) (by kernel_rfl) ⟨(lenM o3), c6, (rd0 hx7), (rdL o3 hx7), (rdM o3 hx7), (setM o3), rfl, (Nat.le_of_ble_eq_true rfl), (by first | exact lnSet _ | exact lnSet2 _ | exact apLn _ (by assumption) | simp only [List.length_map, List.length_set, List.length_cons, List.length_nil]), (rok (treeM t3)), trivial⟩ (ih (a3.set (Int.toNat v5) v4) (w64 (v4 + 1)) (w64 (v5 + 1)) _ h)
    · have h := Option.some.inj h
      subst h
      exact go_ret hΘ hm hP hn (hs := [⟨2, .no, some (I (a3.length : Int))⟩, ⟨4, .br false, none⟩]) (rh := []) (ph := .raw) (ps := [AV.lit (.int .i64 (((List.length (a3.map o3)) : Nat) : Int)) = (I (a3.length : Int)), (decide (v5 < (a3.length : Int))) = false, (a3.map o3) = (a3.map o3), treeLL (a3.map o3) = true, noRoLL (a3.map o3) = true, (I v4) = (I v4), litA (I v4) = true]) (by kernel_rfl) ⟨(lenM o3), c8, rfl, (treeM t3), (noRoM n3), rfl, rfl, trivial⟩
noncomputable def laws_markIntS (p1 : (List Int)) (p2 : Int) : Option (Int × (List Int)) :=
  laws_markIntS_l0 FU p1 p2 0
theorem laws_markIntS_m {p1 : (List Int)} {p2 : Int} {r : (Int × (List Int))} (h : laws_markIntS p1 p2 = some r) : MeetsR Try.prog 23 [⟨3, 1, (p1.map o3)⟩] [(AV.sl 0 0 (List.length (p1.map o3))), (I p2)] [true] [⟨3, 1, (r.2.map o3)⟩] (I r.1) := by
  refine meetsR_of Θ_ok Try.func23 rfl (c := body23) (by kernel_rfl) (Nat.le_of_ble_eq_true rfl) rfl (Nat.le_of_ble_eq_true rfl) rfl (fr := [0]) (frI rfl) ?_
  intro E hP hn hx
  replace hn : E.n = 19 := hn
  have hm : E.P.follows .mixedOrders = true := by rw [hP]; exact mixed
  have hΘ : TOK E.P Θ := by rw [hP]; exact Θ_ok
  unfold laws_markIntS at h
  show WAt E body23 (FQ (RetE Θ Try.f23.results.toList [true] [⟨3, 1, (r.2.map o3)⟩] (I r.1) E)) [] ⟨[(0, (AV.sl 0 0 (List.length (p1.map o3)))), (1, (I p2))], [(0, some ⟨3, 1, (p1.map o3)⟩)], [0, JJ]⟩
  exact go_to hΘ hm hx hP hn (hs := []) (π := [(0, 0)]) (ts := [0, 1, 5]) (kp := []) (ps := [RenOK [(0, 0)] (p1.map o3)]) (by kernel_rfl) ⟨(rok (treeM t3)), trivial⟩ (laws_markIntS_l0_m hP hn hx FU p1 p2 0 _ h)
noncomputable def body28 : Code := match Try.f28.body with | some c => c | none => .skip
noncomputable def laws_markIntSS_l0   : Nat → (List (List Int)) → Int → Int → Option (Int × (List (List Int)))
  | 0, _, _, _ => none
  | n + 1, a3, v4, v5 =>
  if (decide (v5 < (a3.length : Int))) = true then
    Option.bind (rd a3 v5) fun x7 =>
    Option.bind (laws_markIntS x7 v4) fun r8 =>
    Option.bind (sameLen x7 r8.2) fun q9 =>
    laws_markIntSS_l0 n (a3.set (Int.toNat v5) r8.2) r8.1 (w64 (v5 + 1))
  else
    some (v4, a3)
theorem laws_markIntSS_l0_m {E : Env} (hP : E.P = Try.prog) (hn : E.n = 19) (hx : ∀ p, p ∈ E.fx → p.1 ∈ ([0] : List Nat))   : ∀ (n : Nat) (a3 : (List (List Int))) (v4 : Int) (v5 : Int) (r : (Int × (List (List Int)))), laws_markIntSS_l0  n a3 v4 v5 = some r → WAt E body28 (FQ (RetE Θ Try.f28.results.toList [true] [⟨33, 1, (r.2.map o33)⟩] (I r.1) E)) [true, false, true, false] ⟨[(0, (AV.sl 0 0 (List.length (a3.map o33)))), (1, (I v4)), (5, (I v5))], [(0, some ⟨33, 1, (a3.map o33)⟩)], [0, JJ]⟩ := by
  have hm : E.P.follows .mixedOrders = true := by rw [hP]; exact mixed
  have hΘ : TOK E.P Θ := by rw [hP]; exact Θ_ok
  intro n
  induction n with
  | zero => intro a3 v4 v5 r h; simp only [laws_markIntSS_l0] at h; cases h
  | succ n ih =>
    intro a3 v4 v5 r h
    simp only [laws_markIntSS_l0] at h
    rcases itS h with ⟨c6, h⟩ | ⟨c10, h⟩
    · obtain ⟨x7, hx7, h⟩ := bnS h
      obtain ⟨r8, hr8, h⟩ := bnS h
      obtain ⟨q9, hq9, h⟩ := bnS h
      exact go_to hΘ hm hx hP hn (hs := [⟨2, .no, some (I (a3.length : Int))⟩, ⟨4, .br true, none⟩, ⟨8, .unpack 0 1001 (Int.toNat v5) 0 [(AV.own 3 1 (x7.map o3))] 3 1 (x7.map o3) ((a3.map o33).set (Int.toNat v5) [(AV.sl 1001 0 (List.length (x7.map o3)))]), none⟩, ⟨8, .row [(AV.sl 1001 0 (List.length (x7.map o3)))], none⟩, ⟨10, .callX [1001] [true] [⟨3, 1, (x7.map o3)⟩] [⟨3, 1, (r8.2.map o3)⟩] [] (I r8.1) [] (I r8.1) [], none⟩, ⟨15, .pack 0 1001 (Int.toNat v5) 0 [(AV.sl 1001 0 (List.length (x7.map o3)))] ((a3.set (Int.toNat v5) r8.2).map o33), none⟩, ⟨15, .slen 0 (List.length ((a3.set (Int.toNat v5) r8.2).map o33)), none⟩]) (π := [(0, 0)]) (ts := [0, 1, 5]) (kp := []) (ps := [AV.lit (.int .i64 (((List.length (a3.map o33)) : Nat) : Int)) = (I (a3.length : Int)), (decide (v5 < (a3.length : Int))) = true, (0 : Int) ≤ v5, v5 < (((List.length (a3.map o33)) : Nat) : Int), (a3.map o33)[(Int.toNat v5)]? = some [(AV.own 3 1 (x7.map o3))], [(AV.own 3 1 (x7.map o3))][0]? = some (AV.own 3 1 (x7.map o3)), 0 < 1, (a3.map o33).set (Int.toNat v5) ([(AV.own 3 1 (x7.map o3))].set 0 (AV.sl 1001 0 (List.length (x7.map o3)))) = ((a3.map o33).set (Int.toNat v5) [(AV.sl 1001 0 (List.length (x7.map o3)))]), ((a3.map o33).set (Int.toNat v5) [(AV.sl 1001 0 (List.length (x7.map o3)))])[(Int.toNat v5)]? = some [(AV.sl 1001 0 (List.length (x7.map o3)))], MeetsR Try.prog 23 [⟨3, 1, (x7.map o3)⟩] [(AV.sl 0 0 (List.length (x7.map o3))), (I v4)] [true] [⟨3, 1, (r8.2.map o3)⟩] (I r8.1), (some (Root.mk 3 1 (x7.map o3)) = some (Root.mk 3 1 (x7.map o3))) ∧ True, (treeLL (x7.map o3) = true ∧ noRoLL (x7.map o3) = true) ∧ True, ((r8.2.map o3).length = (x7.map o3).length) ∧ True, (rtf (renA [(0, 1001)] (I r8.1)) []).1 = (I r8.1), (rtf (renA [(0, 1001)] (I r8.1)) []).2.1 = [], ((a3.map o33).set (Int.toNat v5) [(AV.sl 1001 0 (List.length (x7.map o3)))])[(Int.toNat v5)]? = some [(AV.sl 1001 0 (List.length (x7.map o3)))], [(AV.sl 1001 0 (List.length (x7.map o3)))][0]? = some (AV.sl 1001 0 (List.length (r8.2.map o3))), treeLL (r8.2.map o3) = true, ((a3.map o33).set (Int.toNat v5) [(AV.sl 1001 0 (List.length (x7.map o3)))]).set (Int.toNat v5) ([(AV.sl 1001 0 (List.length (x7.map o3)))].set 0 (AV.own 3 1 (r8.2.map o3))) = ((a3.set (Int.toNat v5) r8.2).map o33), (List.length (a3.map o33)) = (List.length ((a3.set (Int.toNat v5) r8.2).map o33)), RenOK [(0, 0)] ((a3.set (Int.toNat v5) r8.2).map o33)]) (by kernel_rfl) ⟨(lenM o33), c6, (rd0 hx7), (rdL o33 hx7), (rdM o33 hx7), rfl, (by decide), rfl, (setE (rdM o33 hx7)), (laws_markIntS_m hr8), ⟨rfl, trivial⟩, ⟨⟨treeM t3, noRoM n3⟩, trivial⟩, ⟨(sameLenE o3 hq9), trivial⟩, rfl, rfl, (setE (rdM o33 hx7)), (pkS (sameLenE o3 hq9).symm), (treeM t3), (setP o33), (by first | exact lnSet _ | exact lnSet2 _ | exact apLn _ (by assumption) | simp only [List.length_map, List.length_set, List.length_cons, List.length_nil]), (rok (treeM t33)), trivial⟩ (ih (a3.set (Int.toNat v5) r8.2) r8.1 (w64 (v5 + 1)) _ h)
    · have h := Option.some.inj h
      subst h
      exact go_ret hΘ hm hP hn (hs := [⟨2, .no, some (I (a3.length : Int))⟩, ⟨4, .br false, none⟩]) (rh := []) (ph := .raw) (ps := [AV.lit (.int .i64 (((List.length (a3.map o33)) : Nat) : Int)) = (I (a3.length : Int)), (decide (v5 < (a3.length : Int))) = false, (a3.map o33) = (a3.map o33), treeLL (a3.map o33) = true, noRoLL (a3.map o33) = true, (I v4) = (I v4), litA (I v4) = true]) (by kernel_rfl) ⟨(lenM o33), c10, rfl, (treeM t33), (noRoM n33), rfl, rfl, trivial⟩
noncomputable def laws_markIntSS (p1 : (List (List Int))) (p2 : Int) : Option (Int × (List (List Int))) :=
  laws_markIntSS_l0 FU p1 p2 0
theorem laws_markIntSS_m {p1 : (List (List Int))} {p2 : Int} {r : (Int × (List (List Int)))} (h : laws_markIntSS p1 p2 = some r) : MeetsR Try.prog 28 [⟨33, 1, (p1.map o33)⟩] [(AV.sl 0 0 (List.length (p1.map o33))), (I p2)] [true] [⟨33, 1, (r.2.map o33)⟩] (I r.1) := by
  refine meetsR_of Θ_ok Try.func28 rfl (c := body28) (by kernel_rfl) (Nat.le_of_ble_eq_true rfl) rfl (Nat.le_of_ble_eq_true rfl) rfl (fr := [0]) (frI rfl) ?_
  intro E hP hn hx
  replace hn : E.n = 19 := hn
  have hm : E.P.follows .mixedOrders = true := by rw [hP]; exact mixed
  have hΘ : TOK E.P Θ := by rw [hP]; exact Θ_ok
  unfold laws_markIntSS at h
  show WAt E body28 (FQ (RetE Θ Try.f28.results.toList [true] [⟨33, 1, (r.2.map o33)⟩] (I r.1) E)) [] ⟨[(0, (AV.sl 0 0 (List.length (p1.map o33)))), (1, (I p2))], [(0, some ⟨33, 1, (p1.map o33)⟩)], [0, JJ]⟩
  exact go_to hΘ hm hx hP hn (hs := []) (π := [(0, 0)]) (ts := [0, 1, 5]) (kp := []) (ps := [RenOK [(0, 0)] (p1.map o33)]) (by kernel_rfl) ⟨(rok (treeM t33)), trivial⟩ (laws_markIntSS_l0_m hP hn hx FU p1 p2 0 _ h)
noncomputable def body16 : Code := match Try.f16.body with | some c => c | none => .skip
noncomputable def laws_szEventS (p1 : (List GEvent)) (p2 : Int) : Option Int :=
  if (decide ((w64 (p2 - (p1.length : Int))) < 0)) = true then
    some (-1)
  else
    some (w64 (p2 - (p1.length : Int)))
theorem laws_szEventS_m {p1 : (List GEvent)} {p2 : Int} {r : Int} (h : laws_szEventS p1 p2 = some r) : Meets Try.prog 16 [(AV.ro 5 (p1.map o66)), (I p2)] (I r) := by
  refine meets_ofC Θ_ok Try.func16 rfl (c := body16) (by kernel_rfl) (Nat.le_of_ble_eq_true rfl) ?_
  intro E hP hn hx
  replace hn : E.n = 12 := hn
  have hm : E.P.follows .mixedOrders = true := by rw [hP]; exact mixed
  have hΘ : TOK E.P Θ := by rw [hP]; exact Θ_ok
  unfold laws_szEventS at h
  show WAt E body16 (FQ (RetE Θ Try.f16.results.toList [] [] (I r) E)) [] ⟨[(0, (AV.ro 5 (p1.map o66))), (1, (I p2))], [], [JJ]⟩
  rcases itS h with ⟨c3, h⟩ | ⟨c4, h⟩
  · have h := Option.some.inj h
    subst h
    exact go_ret hΘ hm hP hn (hs := [⟨3, .no, some (I (p1.length : Int))⟩, ⟨8, .br true, none⟩]) (rh := []) (ph := .raw) (ps := [AV.lit (.int .i64 (((p1.map o66).length : Nat) : Int)) = (I (p1.length : Int)), (decide ((w64 (p2 - (p1.length : Int))) < 0)) = true, (I (-1)) = (I (-1)), litA (I (-1)) = true]) (by kernel_rfl) ⟨(lenM o66), c3, rfl, rfl, trivial⟩
  · have h := Option.some.inj h
    subst h
    exact go_ret hΘ hm hP hn (hs := [⟨3, .no, some (I (p1.length : Int))⟩, ⟨8, .br false, none⟩]) (rh := []) (ph := .raw) (ps := [AV.lit (.int .i64 (((p1.map o66).length : Nat) : Int)) = (I (p1.length : Int)), (decide ((w64 (p2 - (p1.length : Int))) < 0)) = false, (I (w64 (p2 - (p1.length : Int)))) = (I (w64 (p2 - (p1.length : Int)))), litA (I (w64 (p2 - (p1.length : Int)))) = true]) (by kernel_rfl) ⟨(lenM o66), c4, rfl, rfl, trivial⟩
noncomputable def body46 : Code := match Try.f46.body with | some c => c | none => .skip
noncomputable def laws_toEvent (p1 : GEvent) : Option GEvent :=
  some (GEvent.mk p1.Thread p1.Kind p1.Obj p1.Lock p1.Pc)
theorem laws_toEvent_m {p1 : GEvent} {r : GEvent} (h : laws_toEvent p1 = some r) : Meets Try.prog 46 [(AV.agg ((o66 p1)))] (AV.agg (o64 r)) := by
  refine meets_ofC Θ_ok Try.func46 rfl (c := body46) (by kernel_rfl) (Nat.le_of_ble_eq_true rfl) ?_
  intro E hP hn hx
  replace hn : E.n = 20 := hn
  have hm : E.P.follows .mixedOrders = true := by rw [hP]; exact mixed
  have hΘ : TOK E.P Θ := by rw [hP]; exact Θ_ok
  unfold laws_toEvent at h
  show WAt E body46 (FQ (RetE Θ Try.f46.results.toList [] [] (AV.agg (o64 r)) E)) [] ⟨[(0, (AV.agg ((o66 p1))))], [], [JJ]⟩
  have h := Option.some.inj h
  subst h
  exact go_ret hΘ hm hP hn (hs := [⟨0, .new 1001, none⟩, ⟨1, .new 1002, none⟩, ⟨2, .new 1003, none⟩]) (rh := []) (ph := .raw) (ps := [(AV.agg [(I p1.Thread), (I p1.Kind), (I p1.Obj), (I p1.Lock), (I p1.Pc)]) = (AV.agg [(I p1.Thread), (I p1.Kind), (I p1.Obj), (I p1.Lock), (I p1.Pc)]), litA (AV.agg [(I p1.Thread), (I p1.Kind), (I p1.Obj), (I p1.Lock), (I p1.Pc)]) = true]) (by kernel_rfl) ⟨rfl, rfl, trivial⟩
noncomputable def body18 : Code := match Try.f18.body with | some c => c | none => .skip
noncomputable def laws_toEventS_l0  (p1 : (List GEvent)) : Nat → (List GEvent) → Int → Option (List GEvent)
  | 0, _, _ => none
  | n + 1, a3, v4 =>
  if (decide (v4 < (p1.length : Int))) = true then
    Option.bind (rd p1 v4) fun x6 =>
    Option.bind (laws_toEvent x6) fun r7 =>
    Option.bind (rd a3 v4) fun x8 =>
    laws_toEventS_l0 p1 n (a3.set (Int.toNat v4) r7) (w64 (v4 + 1))
  else
    some a3
theorem laws_toEventS_l0_m {E : Env} (hP : E.P = Try.prog) (hn : E.n = 23) (hx : ∀ p, p ∈ E.fx → p.1 ∈ ([] : List Nat)) (p1 : (List GEvent))  : ∀ (n : Nat) (a3 : (List GEvent)) (v4 : Int) (r : (List GEvent)), laws_toEventS_l0 p1 n a3 v4 = some r → WAt E body18 (FQ (RetE Θ Try.f18.results.toList [] [] (AV.own 64 5 (r.map o64)) E)) [true, true, false, true, false] ⟨[(0, (AV.ro 5 (p1.map o66))), (3, (AV.sl 1 0 (List.length (a3.map o64)))), (4, (I v4))], [(1, some ⟨64, 5, (a3.map o64)⟩)], [1, JJ]⟩ := by
  have hm : E.P.follows .mixedOrders = true := by rw [hP]; exact mixed
  have hΘ : TOK E.P Θ := by rw [hP]; exact Θ_ok
  intro n
  induction n with
  | zero => intro a3 v4 r h; simp only [laws_toEventS_l0] at h; cases h
  | succ n ih =>
    intro a3 v4 r h
    simp only [laws_toEventS_l0] at h
    rcases itS h with ⟨c5, h⟩ | ⟨c9, h⟩
    · obtain ⟨x6, hx6, h⟩ := bnS h
      obtain ⟨r7, hr7, h⟩ := bnS h
      obtain ⟨x8, hx8, h⟩ := bnS h
      exact go_to hΘ hm hx hP hn (hs := [⟨2, .no, some (I (p1.length : Int))⟩, ⟨4, .br true, none⟩, ⟨9, .row (o66 x6), none⟩, ⟨11, .callV [[]] (AV.agg (o64 r7)), none⟩, ⟨13, .sto ((o64 x8)) ((a3.set (Int.toNat v4) r7).map o64), none⟩, ⟨17, .slen 3 (List.length ((a3.set (Int.toNat v4) r7).map o64)), none⟩]) (π := [(1, 1)]) (ts := [0, 3, 4]) (kp := []) (ps := [AV.lit (.int .i64 (((p1.map o66).length : Nat) : Int)) = (I (p1.length : Int)), (decide (v4 < (p1.length : Int))) = true, (0 : Int) ≤ v4, (p1.map o66)[(Int.toNat v4)]? = some (o66 x6), Meets Try.prog 46 [(AV.agg ((o66 x6)))] (AV.agg (o64 r7)), litA (AV.agg (o64 r7)) = true, (0 : Int) ≤ v4, v4 < (((List.length (a3.map o64)) : Nat) : Int), (a3.map o64)[(Int.toNat v4)]? = some ((o64 x8)), (a3.map o64).set (Int.toNat v4) (wr ((o64 x8)) 0 ((o64 r7))) = ((a3.set (Int.toNat v4) r7).map o64), ((o64 r7)).length = 5, 0 + ((o64 r7)).length ≤ ((o64 x8)).length, (List.length (a3.map o64)) = (List.length ((a3.set (Int.toNat v4) r7).map o64)), RenOK [(1, 1)] ((a3.set (Int.toNat v4) r7).map o64)]) (by kernel_rfl) ⟨(lenM o66), c5, (rd0 hx6), (rdM o66 hx6), (laws_toEvent_m hr7), rfl, (rd0 hx8), (rdL o64 hx8), (rdM o64 hx8), (setMr o64 (by kernel_rfl)), rfl, (Nat.le_of_ble_eq_true rfl), (by first | exact lnSet _ | exact lnSet2 _ | exact apLn _ (by assumption) | simp only [List.length_map, List.length_set, List.length_cons, List.length_nil]), (rok (treeM t64)), trivial⟩ (ih (a3.set (Int.toNat v4) r7) (w64 (v4 + 1)) _ h)
    · have h := Option.some.inj h
      subst h
      exact go_ret hΘ hm hP hn (hs := [⟨2, .no, some (I (p1.length : Int))⟩, ⟨4, .br false, none⟩]) (rh := []) (ph := .own) (ps := [AV.lit (.int .i64 (((p1.map o66).length : Nat) : Int)) = (I (p1.length : Int)), (decide (v4 < (p1.length : Int))) = false, treeLL ((a3.map o64).take (List.length (a3.map o64))) = true, (a3.map o64).take (List.length (a3.map o64)) = (a3.map o64), noRoLL (a3.map o64) = true]) (by kernel_rfl) ⟨(lenM o66), c9, (treeT t64), takeM, (noRoM n64), trivial⟩
noncomputable def laws_toEventS (p1 : (List GEvent)) : Option (List GEvent) :=
  Option.bind (mk (GEvent.mk 0 0 0 0 0) (p1.length : Int)) fun l2 =>
  laws_toEventS_l0 p1 FU l2 0
theorem laws_toEventS_m {p1 : (List GEvent)} {r : (List GEvent)} (h : laws_toEventS p1 = some r) : Meets Try.prog 18 [(AV.ro 5 (p1.map o66))] (AV.own 64 5 (r.map o64)) := by
  refine meets_ofC Θ_ok Try.func18 rfl (c := body18) (by kernel_rfl) (Nat.le_of_ble_eq_true rfl) ?_
  intro E hP hn hx
  replace hn : E.n = 23 := hn
  have hm : E.P.follows .mixedOrders = true := by rw [hP]; exact mixed
  have hΘ : TOK E.P Θ := by rw [hP]; exact Θ_ok
  unfold laws_toEventS at h
  show WAt E body18 (FQ (RetE Θ Try.f18.results.toList [] [] (AV.own 64 5 (r.map o64)) E)) [] ⟨[(0, (AV.ro 5 (p1.map o66)))], [], [JJ]⟩
  obtain ⟨l2, hl2, h⟩ := bnS h
  exact go_to hΘ hm hx hP hn (hs := [⟨2, .no, some (I (p1.length : Int))⟩, ⟨3, .nw 1001 (l2.map o64), some (AV.sl 1001 0 (List.length (l2.map o64)))⟩]) (π := [(1001, 1)]) (ts := [0, 3, 4]) (kp := []) (ps := [AV.lit (.int .i64 (((p1.map o66).length : Nat) : Int)) = (I (p1.length : Int)), List.replicate (Int.toNat (p1.length : Int)) [.lit (.int .i64 0), .lit (.int .i64 0), .lit (.int .i64 0), .lit (.int .i64 0), .lit (.int .i64 0)] = (l2.map o64), AV.sl 1001 0 (Int.toNat (p1.length : Int)) = (AV.sl 1001 0 (List.length (l2.map o64))), (p1.length : Int) = (p1.length : Int), (0 : Int) ≤ (p1.length : Int), (p1.length : Int) * ((40 : Nat) : Int) ≤ 140737488355328, (p1.length : Int) ≤ 140737488355328, RenOK [(1001, 1)] (l2.map o64)]) (by kernel_rfl) ⟨(lenM o66), (mkM o64 hl2), (mkS o64 hl2), rfl, (mk0 hl2), (mkB hl2 (by decide)), (mkC hl2), (rok (treeM t64)), trivial⟩ (laws_toEventS_l0_m hP hn hx p1 FU l2 0 _ h)
noncomputable def body111 : Code := match Try.f111.body with | some c => c | none => .skip
noncomputable def spec_l1In (p1 : Int) (p2 : Int) (p3 : Int) : Option Bool :=
  if (decide (p1 ≥ p2)) = true then
    some (decide (p1 ≤ p3))
  else
    some false
theorem spec_l1In_m {p1 : Int} {p2 : Int} {p3 : Int} {r : Bool} (h : spec_l1In p1 p2 p3 = some r) : Meets Try.prog 111 [(I p1), (I p2), (I p3)] (B r) := by
  refine meets_ofC Θ_ok Try.func111 rfl (c := body111) (by kernel_rfl) (Nat.le_of_ble_eq_true rfl) ?_
  intro E hP hn hx
  replace hn : E.n = 15 := hn
  have hm : E.P.follows .mixedOrders = true := by rw [hP]; exact mixed
  have hΘ : TOK E.P Θ := by rw [hP]; exact Θ_ok
  unfold spec_l1In at h
  show WAt E body111 (FQ (RetE Θ Try.f111.results.toList [] [] (B r) E)) [] ⟨[(0, (I p1)), (1, (I p2)), (2, (I p3))], [], [JJ]⟩
  rcases itS h with ⟨c4, h⟩ | ⟨c5, h⟩
  · have h := Option.some.inj h
    subst h
    exact go_ret hΘ hm hP hn (hs := [⟨4, .no, some (B true)⟩]) (rh := []) (ph := .raw) (ps := [(B (decide (p1 ≥ p2))) = (B true), (B (decide (p1 ≤ p3))) = (B (decide (p1 ≤ p3))), litA (B (decide (p1 ≤ p3))) = true]) (by kernel_rfl) ⟨(litB c4), rfl, rfl, trivial⟩
  · have h := Option.some.inj h
    subst h
    exact go_ret hΘ hm hP hn (hs := [⟨4, .no, some (B false)⟩]) (rh := []) (ph := .raw) (ps := [(B (decide (p1 ≥ p2))) = (B false), (B false) = (B false), litA (B false) = true]) (by kernel_rfl) ⟨(litB c5), rfl, rfl, trivial⟩
noncomputable def body76 : Code := match Try.f76.body with | some c => c | none => .skip
noncomputable def spec_l6Event_j0  (p1 : GEvent)  : Option Bool :=
  Option.bind (spec_l1In p1.Thread 0 4) fun r9 =>
  if r9 = true then
    Option.bind (spec_l1In p1.Kind 1 12) fun r11 =>
    if r11 = true then
      Option.bind (spec_l1In p1.Obj (-1) 99) fun r13 =>
      if r13 = true then
        Option.bind (spec_l1In p1.Lock (-1) 99) fun r15 =>
        if r15 = true then
          Option.bind (spec_l1In p1.Pc 0 99) fun r17 =>
          some r17
        else
          some false
      else
        some false
    else
      some false
  else
    some false
theorem spec_l6Event_j0_m {E : Env} (hP : E.P = Try.prog) (hn : E.n = 49) (hx : ∀ p, p ∈ E.fx → p.1 ∈ ([] : List Nat)) (p1 : GEvent)   (r : Bool) (h : spec_l6Event_j0 p1  = some r) : WAt E body76 (FQ (RetE Θ Try.f76.results.toList [] [] (B r) E)) [true, false, true, true] ⟨[(1, (AV.ptr 1 0 0))], [(1, some ⟨64, 5, [((o64 p1))]⟩)], [1, JJ]⟩ := by
  have hm : E.P.follows .mixedOrders = true := by rw [hP]; exact mixed
  have hΘ : TOK E.P Θ := by rw [hP]; exact Θ_ok
  unfold spec_l6Event_j0 at h
  obtain ⟨r9, hr9, h⟩ := bnS h
  rcases itS h with ⟨c10, h⟩ | ⟨c21, h⟩
  · obtain ⟨r11, hr11, h⟩ := bnS h
    rcases itS h with ⟨c12, h⟩ | ⟨c20, h⟩
    · obtain ⟨r13, hr13, h⟩ := bnS h
      rcases itS h with ⟨c14, h⟩ | ⟨c19, h⟩
      · obtain ⟨r15, hr15, h⟩ := bnS h
        rcases itS h with ⟨c16, h⟩ | ⟨c18, h⟩
        · obtain ⟨r17, hr17, h⟩ := bnS h
          have h := Option.some.inj h
          subst h
          exact go_ret hΘ hm hP hn (hs := [⟨2, .callV [] (B r9), none⟩, ⟨3, .no, some (B true)⟩, ⟨6, .callV [] (B r11), none⟩, ⟨8, .no, some (B true)⟩, ⟨11, .callV [] (B r13), none⟩, ⟨13, .no, some (B true)⟩, ⟨16, .callV [] (B r15), none⟩, ⟨18, .no, some (B true)⟩, ⟨21, .callV [] (B r17), none⟩]) (rh := []) (ph := .raw) (ps := [Meets Try.prog 111 [(I p1.Thread), (I 0), (I 4)] (B r9), litA (B r9) = true, (B r9) = (B true), Meets Try.prog 111 [(I p1.Kind), (I 1), (I 12)] (B r11), litA (B r11) = true, (B r11) = (B true), Meets Try.prog 111 [(I p1.Obj), (I (-1)), (I 99)] (B r13), litA (B r13) = true, (B r13) = (B true), Meets Try.prog 111 [(I p1.Lock), (I (-1)), (I 99)] (B r15), litA (B r15) = true, (B r15) = (B true), Meets Try.prog 111 [(I p1.Pc), (I 0), (I 99)] (B r17), litA (B r17) = true, (B r17) = (B r17), litA (B r17) = true]) (by kernel_rfl) ⟨(spec_l1In_m hr9), rfl, (litB c10), (spec_l1In_m hr11), rfl, (litB c12), (spec_l1In_m hr13), rfl, (litB c14), (spec_l1In_m hr15), rfl, (litB c16), (spec_l1In_m hr17), rfl, rfl, rfl, trivial⟩
        · have h := Option.some.inj h
          subst h
          exact go_ret hΘ hm hP hn (hs := [⟨2, .callV [] (B r9), none⟩, ⟨3, .no, some (B true)⟩, ⟨6, .callV [] (B r11), none⟩, ⟨8, .no, some (B true)⟩, ⟨11, .callV [] (B r13), none⟩, ⟨13, .no, some (B true)⟩, ⟨16, .callV [] (B r15), none⟩, ⟨18, .no, some (B false)⟩]) (rh := []) (ph := .raw) (ps := [Meets Try.prog 111 [(I p1.Thread), (I 0), (I 4)] (B r9), litA (B r9) = true, (B r9) = (B true), Meets Try.prog 111 [(I p1.Kind), (I 1), (I 12)] (B r11), litA (B r11) = true, (B r11) = (B true), Meets Try.prog 111 [(I p1.Obj), (I (-1)), (I 99)] (B r13), litA (B r13) = true, (B r13) = (B true), Meets Try.prog 111 [(I p1.Lock), (I (-1)), (I 99)] (B r15), litA (B r15) = true, (B r15) = (B false), (B false) = (B false), litA (B false) = true]) (by kernel_rfl) ⟨(spec_l1In_m hr9), rfl, (litB c10), (spec_l1In_m hr11), rfl, (litB c12), (spec_l1In_m hr13), rfl, (litB c14), (spec_l1In_m hr15), rfl, (litB c18), rfl, rfl, trivial⟩
      · have h := Option.some.inj h
        subst h
        exact go_ret hΘ hm hP hn (hs := [⟨2, .callV [] (B r9), none⟩, ⟨3, .no, some (B true)⟩, ⟨6, .callV [] (B r11), none⟩, ⟨8, .no, some (B true)⟩, ⟨11, .callV [] (B r13), none⟩, ⟨13, .no, some (B false)⟩]) (rh := []) (ph := .raw) (ps := [Meets Try.prog 111 [(I p1.Thread), (I 0), (I 4)] (B r9), litA (B r9) = true, (B r9) = (B true), Meets Try.prog 111 [(I p1.Kind), (I 1), (I 12)] (B r11), litA (B r11) = true, (B r11) = (B true), Meets Try.prog 111 [(I p1.Obj), (I (-1)), (I 99)] (B r13), litA (B r13) = true, (B r13) = (B false), (B false) = (B false), litA (B false) = true]) (by kernel_rfl) ⟨(spec_l1In_m hr9), rfl, (litB c10), (spec_l1In_m hr11), rfl, (litB c12), (spec_l1In_m hr13), rfl, (litB c19), rfl, rfl, trivial⟩
    · have h := Option.some.inj h
      subst h
      exact go_ret hΘ hm hP hn (hs := [⟨2, .callV [] (B r9), none⟩, ⟨3, .no, some (B true)⟩, ⟨6, .callV [] (B r11), none⟩, ⟨8, .no, some (B false)⟩]) (rh := []) (ph := .raw) (ps := [Meets Try.prog 111 [(I p1.Thread), (I 0), (I 4)] (B r9), litA (B r9) = true, (B r9) = (B true), Meets Try.prog 111 [(I p1.Kind), (I 1), (I 12)] (B r11), litA (B r11) = true, (B r11) = (B false), (B false) = (B false), litA (B false) = true]) (by kernel_rfl) ⟨(spec_l1In_m hr9), rfl, (litB c10), (spec_l1In_m hr11), rfl, (litB c20), rfl, rfl, trivial⟩
  · have h := Option.some.inj h
    subst h
    exact go_ret hΘ hm hP hn (hs := [⟨2, .callV [] (B r9), none⟩, ⟨3, .no, some (B false)⟩]) (rh := []) (ph := .raw) (ps := [Meets Try.prog 111 [(I p1.Thread), (I 0), (I 4)] (B r9), litA (B r9) = true, (B r9) = (B false), (B false) = (B false), litA (B false) = true]) (by kernel_rfl) ⟨(spec_l1In_m hr9), rfl, (litB c21), rfl, rfl, trivial⟩
noncomputable def spec_l6Event (p1 : GEvent) : Option Bool :=
  Option.bind (spec_l1In p1.Kind 2 10) fun r2 =>
  if r2 = true then
    if (decide (p1.Obj < 0)) = true then
      some false
    else
      if (p1.Kind == 8) = true then
        if (decide (p1.Lock < 0)) = true then
          some false
        else
          spec_l6Event_j0 p1
      else
        if (p1.Kind == 9) = true then
          if (decide (p1.Lock < 0)) = true then
            some false
          else
            spec_l6Event_j0 p1
        else
          spec_l6Event_j0 p1
  else
    if (p1.Kind == 8) = true then
      if (decide (p1.Lock < 0)) = true then
        some false
      else
        spec_l6Event_j0 p1
    else
      if (p1.Kind == 9) = true then
        if (decide (p1.Lock < 0)) = true then
          some false
        else
          spec_l6Event_j0 p1
      else
        spec_l6Event_j0 p1
theorem spec_l6Event_m {p1 : GEvent} {r : Bool} (h : spec_l6Event p1 = some r) : Meets Try.prog 76 [(AV.agg ((o64 p1)))] (B r) := by
  refine meets_ofC Θ_ok Try.func76 rfl (c := body76) (by kernel_rfl) (Nat.le_of_ble_eq_true rfl) ?_
  intro E hP hn hx
  replace hn : E.n = 49 := hn
  have hm : E.P.follows .mixedOrders = true := by rw [hP]; exact mixed
  have hΘ : TOK E.P Θ := by rw [hP]; exact Θ_ok
  unfold spec_l6Event at h
  show WAt E body76 (FQ (RetE Θ Try.f76.results.toList [] [] (B r) E)) [] ⟨[(0, (AV.agg ((o64 p1))))], [], [JJ]⟩
  obtain ⟨r2, hr2, h⟩ := bnS h
  rcases itS h with ⟨c3, h⟩ | ⟨c27, h⟩
  · rcases itS h with ⟨c4, h⟩ | ⟨c5, h⟩
    · have h := Option.some.inj h
      subst h
      exact go_ret hΘ hm hP hn (hs := [⟨0, .new 1001, none⟩, ⟨4, .callV [] (B r2), none⟩, ⟨5, .no, some (B true)⟩, ⟨10, .no, some (B true)⟩]) (rh := []) (ph := .raw) (ps := [Meets Try.prog 111 [(I p1.Kind), (I 2), (I 10)] (B r2), litA (B r2) = true, (B r2) = (B true), (B (decide (p1.Obj < 0))) = (B true), (B false) = (B false), litA (B false) = true]) (by kernel_rfl) ⟨(spec_l1In_m hr2), rfl, (litB c3), (litB c4), rfl, rfl, trivial⟩
    · rcases itS h with ⟨c6, h⟩ | ⟨c22, h⟩
      · rcases itS h with ⟨c7, h⟩ | ⟨c8, h⟩
        · have h := Option.some.inj h
          subst h
          exact go_ret hΘ hm hP hn (hs := [⟨0, .new 1001, none⟩, ⟨4, .callV [] (B r2), none⟩, ⟨5, .no, some (B true)⟩, ⟨10, .no, some (B false)⟩, ⟨14, .no, some (B true)⟩, ⟨25, .br true, none⟩]) (rh := []) (ph := .raw) (ps := [Meets Try.prog 111 [(I p1.Kind), (I 2), (I 10)] (B r2), litA (B r2) = true, (B r2) = (B true), (B (decide (p1.Obj < 0))) = (B false), (B (p1.Kind == 8)) = (B true), (decide (p1.Lock < 0)) = true, (B false) = (B false), litA (B false) = true]) (by kernel_rfl) ⟨(spec_l1In_m hr2), rfl, (litB c3), (litB c5), (litB c6), c7, rfl, rfl, trivial⟩
        · exact go_to hΘ hm hx hP hn (hs := [⟨0, .new 1001, none⟩, ⟨4, .callV [] (B r2), none⟩, ⟨5, .no, some (B true)⟩, ⟨10, .no, some (B false)⟩, ⟨14, .no, some (B true)⟩, ⟨25, .br false, none⟩]) (π := [(1001, 1)]) (ts := [1]) (kp := []) (ps := [Meets Try.prog 111 [(I p1.Kind), (I 2), (I 10)] (B r2), litA (B r2) = true, (B r2) = (B true), (B (decide (p1.Obj < 0))) = (B false), (B (p1.Kind == 8)) = (B true), (decide (p1.Lock < 0)) = false, RenOK [(1001, 1)] [((o64 p1))]]) (by kernel_rfl) ⟨(spec_l1In_m hr2), rfl, (litB c3), (litB c5), (litB c6), c8, (rok rfl), trivial⟩ (spec_l6Event_j0_m hP hn hx p1  _ h)
      · rcases itS h with ⟨c23, h⟩ | ⟨c26, h⟩
        · rcases itS h with ⟨c24, h⟩ | ⟨c25, h⟩
          · have h := Option.some.inj h
            subst h
            exact go_ret hΘ hm hP hn (hs := [⟨0, .new 1001, none⟩, ⟨4, .callV [] (B r2), none⟩, ⟨5, .no, some (B true)⟩, ⟨10, .no, some (B false)⟩, ⟨14, .no, some (B false)⟩, ⟨19, .no, some (B true)⟩, ⟨25, .br true, none⟩]) (rh := []) (ph := .raw) (ps := [Meets Try.prog 111 [(I p1.Kind), (I 2), (I 10)] (B r2), litA (B r2) = true, (B r2) = (B true), (B (decide (p1.Obj < 0))) = (B false), (B (p1.Kind == 8)) = (B false), (B (p1.Kind == 9)) = (B true), (decide (p1.Lock < 0)) = true, (B false) = (B false), litA (B false) = true]) (by kernel_rfl) ⟨(spec_l1In_m hr2), rfl, (litB c3), (litB c5), (litB c22), (litB c23), c24, rfl, rfl, trivial⟩
          · exact go_to hΘ hm hx hP hn (hs := [⟨0, .new 1001, none⟩, ⟨4, .callV [] (B r2), none⟩, ⟨5, .no, some (B true)⟩, ⟨10, .no, some (B false)⟩, ⟨14, .no, some (B false)⟩, ⟨19, .no, some (B true)⟩, ⟨25, .br false, none⟩]) (π := [(1001, 1)]) (ts := [1]) (kp := []) (ps := [Meets Try.prog 111 [(I p1.Kind), (I 2), (I 10)] (B r2), litA (B r2) = true, (B r2) = (B true), (B (decide (p1.Obj < 0))) = (B false), (B (p1.Kind == 8)) = (B false), (B (p1.Kind == 9)) = (B true), (decide (p1.Lock < 0)) = false, RenOK [(1001, 1)] [((o64 p1))]]) (by kernel_rfl) ⟨(spec_l1In_m hr2), rfl, (litB c3), (litB c5), (litB c22), (litB c23), c25, (rok rfl), trivial⟩ (spec_l6Event_j0_m hP hn hx p1  _ h)
        · exact go_to hΘ hm hx hP hn (hs := [⟨0, .new 1001, none⟩, ⟨4, .callV [] (B r2), none⟩, ⟨5, .no, some (B true)⟩, ⟨10, .no, some (B false)⟩, ⟨14, .no, some (B false)⟩, ⟨19, .no, some (B false)⟩]) (π := [(1001, 1)]) (ts := [1]) (kp := []) (ps := [Meets Try.prog 111 [(I p1.Kind), (I 2), (I 10)] (B r2), litA (B r2) = true, (B r2) = (B true), (B (decide (p1.Obj < 0))) = (B false), (B (p1.Kind == 8)) = (B false), (B (p1.Kind == 9)) = (B false), RenOK [(1001, 1)] [((o64 p1))]]) (by kernel_rfl) ⟨(spec_l1In_m hr2), rfl, (litB c3), (litB c5), (litB c22), (litB c26), (rok rfl), trivial⟩ (spec_l6Event_j0_m hP hn hx p1  _ h)
  · rcases itS h with ⟨c28, h⟩ | ⟨c31, h⟩
    · rcases itS h with ⟨c29, h⟩ | ⟨c30, h⟩
      · have h := Option.some.inj h
        subst h
        exact go_ret hΘ hm hP hn (hs := [⟨0, .new 1001, none⟩, ⟨4, .callV [] (B r2), none⟩, ⟨5, .no, some (B false)⟩, ⟨14, .no, some (B true)⟩, ⟨25, .br true, none⟩]) (rh := []) (ph := .raw) (ps := [Meets Try.prog 111 [(I p1.Kind), (I 2), (I 10)] (B r2), litA (B r2) = true, (B r2) = (B false), (B (p1.Kind == 8)) = (B true), (decide (p1.Lock < 0)) = true, (B false) = (B false), litA (B false) = true]) (by kernel_rfl) ⟨(spec_l1In_m hr2), rfl, (litB c27), (litB c28), c29, rfl, rfl, trivial⟩
      · exact go_to hΘ hm hx hP hn (hs := [⟨0, .new 1001, none⟩, ⟨4, .callV [] (B r2), none⟩, ⟨5, .no, some (B false)⟩, ⟨14, .no, some (B true)⟩, ⟨25, .br false, none⟩]) (π := [(1001, 1)]) (ts := [1]) (kp := []) (ps := [Meets Try.prog 111 [(I p1.Kind), (I 2), (I 10)] (B r2), litA (B r2) = true, (B r2) = (B false), (B (p1.Kind == 8)) = (B true), (decide (p1.Lock < 0)) = false, RenOK [(1001, 1)] [((o64 p1))]]) (by kernel_rfl) ⟨(spec_l1In_m hr2), rfl, (litB c27), (litB c28), c30, (rok rfl), trivial⟩ (spec_l6Event_j0_m hP hn hx p1  _ h)
    · rcases itS h with ⟨c32, h⟩ | ⟨c35, h⟩
      · rcases itS h with ⟨c33, h⟩ | ⟨c34, h⟩
        · have h := Option.some.inj h
          subst h
          exact go_ret hΘ hm hP hn (hs := [⟨0, .new 1001, none⟩, ⟨4, .callV [] (B r2), none⟩, ⟨5, .no, some (B false)⟩, ⟨14, .no, some (B false)⟩, ⟨19, .no, some (B true)⟩, ⟨25, .br true, none⟩]) (rh := []) (ph := .raw) (ps := [Meets Try.prog 111 [(I p1.Kind), (I 2), (I 10)] (B r2), litA (B r2) = true, (B r2) = (B false), (B (p1.Kind == 8)) = (B false), (B (p1.Kind == 9)) = (B true), (decide (p1.Lock < 0)) = true, (B false) = (B false), litA (B false) = true]) (by kernel_rfl) ⟨(spec_l1In_m hr2), rfl, (litB c27), (litB c31), (litB c32), c33, rfl, rfl, trivial⟩
        · exact go_to hΘ hm hx hP hn (hs := [⟨0, .new 1001, none⟩, ⟨4, .callV [] (B r2), none⟩, ⟨5, .no, some (B false)⟩, ⟨14, .no, some (B false)⟩, ⟨19, .no, some (B true)⟩, ⟨25, .br false, none⟩]) (π := [(1001, 1)]) (ts := [1]) (kp := []) (ps := [Meets Try.prog 111 [(I p1.Kind), (I 2), (I 10)] (B r2), litA (B r2) = true, (B r2) = (B false), (B (p1.Kind == 8)) = (B false), (B (p1.Kind == 9)) = (B true), (decide (p1.Lock < 0)) = false, RenOK [(1001, 1)] [((o64 p1))]]) (by kernel_rfl) ⟨(spec_l1In_m hr2), rfl, (litB c27), (litB c31), (litB c32), c34, (rok rfl), trivial⟩ (spec_l6Event_j0_m hP hn hx p1  _ h)
      · exact go_to hΘ hm hx hP hn (hs := [⟨0, .new 1001, none⟩, ⟨4, .callV [] (B r2), none⟩, ⟨5, .no, some (B false)⟩, ⟨14, .no, some (B false)⟩, ⟨19, .no, some (B false)⟩]) (π := [(1001, 1)]) (ts := [1]) (kp := []) (ps := [Meets Try.prog 111 [(I p1.Kind), (I 2), (I 10)] (B r2), litA (B r2) = true, (B r2) = (B false), (B (p1.Kind == 8)) = (B false), (B (p1.Kind == 9)) = (B false), RenOK [(1001, 1)] [((o64 p1))]]) (by kernel_rfl) ⟨(spec_l1In_m hr2), rfl, (litB c27), (litB c31), (litB c35), (rok rfl), trivial⟩ (spec_l6Event_j0_m hP hn hx p1  _ h)
noncomputable def body43 : Code := match Try.f43.body with | some c => c | none => .skip
noncomputable def spec_l6Trace_l0  (p1 : (List GEvent)) : Nat → Int → Option Bool
  | 0, _ => none
  | n + 1, v2 =>
  if (decide (v2 < (p1.length : Int))) = true then
    Option.bind (rd p1 v2) fun x4 =>
    Option.bind (spec_l6Event x4) fun r5 =>
    if (!r5) = true then
      some false
    else
      spec_l6Trace_l0 p1 n (w64 (v2 + 1))
  else
    some (decide ((p1.length : Int) ≤ 200))
theorem spec_l6Trace_l0_m {E : Env} (hP : E.P = Try.prog) (hn : E.n = 18) (hx : ∀ p, p ∈ E.fx → p.1 ∈ ([] : List Nat)) (p1 : (List GEvent))  : ∀ (n : Nat) (v2 : Int) (r : Bool), spec_l6Trace_l0 p1 n v2 = some r → WAt E body43 (FQ (RetE Θ Try.f43.results.toList [] [] (B r) E)) [true, false, true, false] ⟨[(0, (AV.ro 5 (p1.map o64))), (5, (AV.ro 5 (p1.map o64))), (6, (I (p1.length : Int))), (7, (I v2))], [], [JJ]⟩ := by
  have hm : E.P.follows .mixedOrders = true := by rw [hP]; exact mixed
  have hΘ : TOK E.P Θ := by rw [hP]; exact Θ_ok
  intro n
  induction n with
  | zero => intro v2 r h; simp only [spec_l6Trace_l0] at h; cases h
  | succ n ih =>
    intro v2 r h
    simp only [spec_l6Trace_l0] at h
    rcases itS h with ⟨c3, h⟩ | ⟨c8, h⟩
    · obtain ⟨x4, hx4, h⟩ := bnS h
      obtain ⟨r5, hr5, h⟩ := bnS h
      rcases itS h with ⟨c6, h⟩ | ⟨c7, h⟩
      · have h := Option.some.inj h
        subst h
        exact go_ret hΘ hm hP hn (hs := [⟨1, .br true, none⟩, ⟨2, .row (o64 x4), none⟩, ⟨4, .new 1001, none⟩, ⟨7, .callV [[]] (B r5), none⟩, ⟨9, .br true, none⟩]) (rh := []) (ph := .raw) (ps := [(decide (v2 < (p1.length : Int))) = true, (0 : Int) ≤ v2, (p1.map o64)[(Int.toNat v2)]? = some (o64 x4), Meets Try.prog 76 [(AV.agg ((o64 x4)))] (B r5), litA (B r5) = true, (!r5) = true, (B false) = (B false), litA (B false) = true]) (by kernel_rfl) ⟨c3, (rd0 hx4), (rdM o64 hx4), (spec_l6Event_m hr5), rfl, c6, rfl, rfl, trivial⟩
      · exact go_to hΘ hm hx hP hn (hs := [⟨1, .br true, none⟩, ⟨2, .row (o64 x4), none⟩, ⟨4, .new 1001, none⟩, ⟨7, .callV [[]] (B r5), none⟩, ⟨9, .br false, none⟩]) (π := []) (ts := [0, 5, 6, 7]) (kp := []) (ps := [(decide (v2 < (p1.length : Int))) = true, (0 : Int) ≤ v2, (p1.map o64)[(Int.toNat v2)]? = some (o64 x4), Meets Try.prog 76 [(AV.agg ((o64 x4)))] (B r5), litA (B r5) = true, (!r5) = false]) (by kernel_rfl) ⟨c3, (rd0 hx4), (rdM o64 hx4), (spec_l6Event_m hr5), rfl, c7, trivial⟩ (ih (w64 (v2 + 1)) _ h)
    · have h := Option.some.inj h
      subst h
      exact go_ret hΘ hm hP hn (hs := [⟨1, .br false, none⟩, ⟨3, .no, some (I (p1.length : Int))⟩]) (rh := []) (ph := .raw) (ps := [(decide (v2 < (p1.length : Int))) = false, AV.lit (.int .i64 (((p1.map o64).length : Nat) : Int)) = (I (p1.length : Int)), (B (decide ((p1.length : Int) ≤ 200))) = (B (decide ((p1.length : Int) ≤ 200))), litA (B (decide ((p1.length : Int) ≤ 200))) = true]) (by kernel_rfl) ⟨c8, (lenM o64), rfl, rfl, trivial⟩
noncomputable def spec_l6Trace (p1 : (List GEvent)) : Option Bool :=
  spec_l6Trace_l0 p1 FU 0
theorem spec_l6Trace_m {p1 : (List GEvent)} {r : Bool} (h : spec_l6Trace p1 = some r) : Meets Try.prog 43 [(AV.ro 5 (p1.map o64))] (B r) := by
  refine meets_ofC Θ_ok Try.func43 rfl (c := body43) (by kernel_rfl) (Nat.le_of_ble_eq_true rfl) ?_
  intro E hP hn hx
  replace hn : E.n = 18 := hn
  have hm : E.P.follows .mixedOrders = true := by rw [hP]; exact mixed
  have hΘ : TOK E.P Θ := by rw [hP]; exact Θ_ok
  unfold spec_l6Trace at h
  show WAt E body43 (FQ (RetE Θ Try.f43.results.toList [] [] (B r) E)) [] ⟨[(0, (AV.ro 5 (p1.map o64)))], [], [JJ]⟩
  exact go_to hΘ hm hx hP hn (hs := [⟨2, .no, some (I (p1.length : Int))⟩]) (π := []) (ts := [0, 5, 6, 7]) (kp := []) (ps := [AV.lit (.int .i64 (((p1.map o64).length : Nat) : Int)) = (I (p1.length : Int))]) (by kernel_rfl) ⟨(lenM o64), trivial⟩ (spec_l6Trace_l0_m hP hn hx p1 FU 0 _ h)
noncomputable def body105 : Code := match Try.f105.body with | some c => c | none => .skip
noncomputable def spec_l1Has_l0  (p1 : (List Int)) (p2 : Int) : Nat → Int → Option Bool
  | 0, _ => none
  | n + 1, v3 =>
  if (decide (v3 < (p1.length : Int))) = true then
    Option.bind (rd p1 v3) fun x5 =>
    if (x5 == p2) = true then
      some true
    else
      spec_l1Has_l0 p1 p2 n (w64 (v3 + 1))
  else
    some false
theorem spec_l1Has_l0_m {E : Env} (hP : E.P = Try.prog) (hn : E.n = 17) (hx : ∀ p, p ∈ E.fx → p.1 ∈ ([] : List Nat)) (p1 : (List Int)) (p2 : Int)  : ∀ (n : Nat) (v3 : Int) (r : Bool), spec_l1Has_l0 p1 p2 n v3 = some r → WAt E body105 (FQ (RetE Θ Try.f105.results.toList [] [] (B r) E)) [true, false, true, false] ⟨[(1, (I p2)), (7, (AV.ro 1 (p1.map o3))), (8, (I (p1.length : Int))), (9, (I v3))], [], [JJ]⟩ := by
  have hm : E.P.follows .mixedOrders = true := by rw [hP]; exact mixed
  have hΘ : TOK E.P Θ := by rw [hP]; exact Θ_ok
  intro n
  induction n with
  | zero => intro v3 r h; simp only [spec_l1Has_l0] at h; cases h
  | succ n ih =>
    intro v3 r h
    simp only [spec_l1Has_l0] at h
    rcases itS h with ⟨c4, h⟩ | ⟨c8, h⟩
    · obtain ⟨x5, hx5, h⟩ := bnS h
      rcases itS h with ⟨c6, h⟩ | ⟨c7, h⟩
      · have h := Option.some.inj h
        subst h
        exact go_ret hΘ hm hP hn (hs := [⟨1, .br true, none⟩, ⟨2, .row (o3 x5), none⟩, ⟨8, .br true, none⟩]) (rh := []) (ph := .raw) (ps := [(decide (v3 < (p1.length : Int))) = true, (0 : Int) ≤ v3, (p1.map o3)[(Int.toNat v3)]? = some (o3 x5), (x5 == p2) = true, (B true) = (B true), litA (B true) = true]) (by kernel_rfl) ⟨c4, (rd0 hx5), (rdM o3 hx5), c6, rfl, rfl, trivial⟩
      · exact go_to hΘ hm hx hP hn (hs := [⟨1, .br true, none⟩, ⟨2, .row (o3 x5), none⟩, ⟨8, .br false, none⟩]) (π := []) (ts := [1, 7, 8, 9]) (kp := []) (ps := [(decide (v3 < (p1.length : Int))) = true, (0 : Int) ≤ v3, (p1.map o3)[(Int.toNat v3)]? = some (o3 x5), (x5 == p2) = false]) (by kernel_rfl) ⟨c4, (rd0 hx5), (rdM o3 hx5), c7, trivial⟩ (ih (w64 (v3 + 1)) _ h)
    · have h := Option.some.inj h
      subst h
      exact go_ret hΘ hm hP hn (hs := [⟨1, .br false, none⟩]) (rh := []) (ph := .raw) (ps := [(decide (v3 < (p1.length : Int))) = false, (B false) = (B false), litA (B false) = true]) (by kernel_rfl) ⟨c8, rfl, rfl, trivial⟩
noncomputable def spec_l1Has (p1 : (List Int)) (p2 : Int) : Option Bool :=
  spec_l1Has_l0 p1 p2 FU 0
theorem spec_l1Has_m {p1 : (List Int)} {p2 : Int} {r : Bool} (h : spec_l1Has p1 p2 = some r) : Meets Try.prog 105 [(AV.ro 1 (p1.map o3)), (I p2)] (B r) := by
  refine meets_ofC Θ_ok Try.func105 rfl (c := body105) (by kernel_rfl) (Nat.le_of_ble_eq_true rfl) ?_
  intro E hP hn hx
  replace hn : E.n = 17 := hn
  have hm : E.P.follows .mixedOrders = true := by rw [hP]; exact mixed
  have hΘ : TOK E.P Θ := by rw [hP]; exact Θ_ok
  unfold spec_l1Has at h
  show WAt E body105 (FQ (RetE Θ Try.f105.results.toList [] [] (B r) E)) [] ⟨[(0, (AV.ro 1 (p1.map o3))), (1, (I p2))], [], [JJ]⟩
  exact go_to hΘ hm hx hP hn (hs := [⟨2, .no, some (I (p1.length : Int))⟩]) (π := []) (ts := [1, 7, 8, 9]) (kp := []) (ps := [AV.lit (.int .i64 (((p1.map o3).length : Nat) : Int)) = (I (p1.length : Int))]) (by kernel_rfl) ⟨(lenM o3), trivial⟩ (spec_l1Has_l0_m hP hn hx p1 p2 FU 0 _ h)
noncomputable def body45 : Code := match Try.f45.body with | some c => c | none => .skip
noncomputable def spec_l1Put_j2  (p1 : (List Int)) (p2 : Int) (v3 : Int)  : Option (List Int) :=
  Option.bind (slc p1 0 v3) fun l12 =>
  Option.bind (app [] l12) fun l13 =>
  Option.bind (app l13 [p2]) fun l14 =>
  Option.bind (slc p1 v3 (p1.length : Int)) fun l15 =>
  Option.bind (app l14 l15) fun l16 =>
  some l16
theorem spec_l1Put_j2_m {E : Env} (hP : E.P = Try.prog) (hn : E.n = 48) (hx : ∀ p, p ∈ E.fx → p.1 ∈ ([] : List Nat)) (p1 : (List Int)) (p2 : Int) (v3 : Int)   (r : (List Int)) (h : spec_l1Put_j2 p1 p2 v3  = some r) : WAt E body45 (FQ (RetE Θ Try.f45.results.toList [false] [⟨3, 1, (p1.map o3)⟩] (AV.own 3 1 (r.map o3)) E)) [true, true, true, false, true, true] ⟨[(0, (AV.sl 1 0 (List.length (p1.map o3)))), (1, (I p2)), (5, (I v3))], [(1, some ⟨3, 1, (p1.map o3)⟩)], [1, JJ]⟩ := by
  have hm : E.P.follows .mixedOrders = true := by rw [hP]; exact mixed
  have hΘ : TOK E.P Θ := by rw [hP]; exact Θ_ok
  unfold spec_l1Put_j2 at h
  obtain ⟨l12, hl12, h⟩ := bnS h
  obtain ⟨l13, hl13, h⟩ := bnS h
  obtain ⟨l14, hl14, h⟩ := bnS h
  obtain ⟨l15, hl15, h⟩ := bnS h
  obtain ⟨l16, hl16, h⟩ := bnS h
  have h := Option.some.inj h
  subst h
  exact go_ret hΘ hm hP hn (hs := [⟨0, .new 1001, none⟩, ⟨4, .app 1002 (l13.map o3), none⟩, ⟨8, .new 1003, none⟩, ⟨9, .app 1004 (l14.map o3), none⟩, ⟨15, .app 1005 (l16.map o3), none⟩]) (rh := []) (ph := .own) (ps := [(0 : Int) ≤ 0, 0 ≤ v3, v3 ≤ (((List.length (p1.map o3)) : Nat) : Int), ([].map o3).take (List.length ([].map o3)) ++ (((p1.map o3).drop 0).take (Int.toNat v3)) = (l13.map o3), (((p1.map o3).drop 0).take (Int.toNat v3)).all (fun r => r.all AV.plain) = true, (List.length (l13.map o3)) * 8 ≤ 140737488355328, (List.length (l13.map o3)) ≤ 140737488355328, (l13.map o3).take (List.length (l13.map o3)) ++ ((([p2].map o3).drop 0).take (List.length ([p2].map o3))) = (l14.map o3), ((([p2].map o3).drop 0).take (List.length ([p2].map o3))).all (fun r => r.all AV.plain) = true, (List.length (l14.map o3)) * 8 ≤ 140737488355328, (List.length (l14.map o3)) ≤ 140737488355328, (0 : Int) ≤ v3, v3 ≤ (((p1.map o3).length : Nat) : Int), (((p1.map o3).length : Nat) : Int) ≤ (((List.length (p1.map o3)) : Nat) : Int), (l14.map o3).take (List.length (l14.map o3)) ++ (((p1.map o3).drop (Int.toNat v3)).take (subO (Int.toNat (((p1.map o3).length : Nat) : Int)) (Int.toNat v3))) = (l16.map o3), (((p1.map o3).drop (Int.toNat v3)).take (subO (Int.toNat (((p1.map o3).length : Nat) : Int)) (Int.toNat v3))).all (fun r => r.all AV.plain) = true, (List.length (l16.map o3)) * 8 ≤ 140737488355328, (List.length (l16.map o3)) ≤ 140737488355328, treeLL ((l16.map o3).take (List.length (l16.map o3))) = true, (l16.map o3).take (List.length (l16.map o3)) = (l16.map o3), noRoLL (l16.map o3) = true]) (by kernel_rfl) ⟨(sl0 hl12), (sl1 hl12), (sl2 o3 hl12), (appTDS0 o3 hl13 hl12), (plD pa3), (appB o3 hl13 (by decide)), (appC o3 hl13), (appTD o3 hl14), (plD pa3), (appB o3 hl14 (by decide)), (appC o3 hl14), (sl0 hl15), (sl1e o3 hl15), (Int.le_refl _), (appTDSe o3 hl16 hl15), (plD pa3), (appB o3 hl16 (by decide)), (appC o3 hl16), (treeT t3), takeM, (noRoM n3), trivial⟩
noncomputable def spec_l1Put_j1 (K0 : Int → Option (List Int)) (p1 : (List Int)) (p2 : Int) (v3 : Int)  : Option (List Int) :=
  if (decide (v3 < (p1.length : Int))) = true then
    Option.bind (rd p1 v3) fun x9 =>
    if (x9 == p2) = true then
      some p1
    else
      spec_l1Put_j2 p1 p2 v3
  else
    spec_l1Put_j2 p1 p2 v3
theorem spec_l1Put_j1_m {E : Env} (hP : E.P = Try.prog) (hn : E.n = 48) (hx : ∀ p, p ∈ E.fx → p.1 ∈ ([] : List Nat)) (p1 : (List Int)) (p2 : Int) (v3 : Int) {K0 : Int → Option (List Int)} (hK0 : ∀ (v3 : Int) (r : (List Int)), K0 v3 = some r → WAt E body45 (FQ (RetE Θ Try.f45.results.toList [false] [⟨3, 1, (p1.map o3)⟩] (AV.own 3 1 (r.map o3)) E)) [true, true, false, false] ⟨[(0, (AV.sl 1 0 (List.length (p1.map o3)))), (1, (I p2)), (5, (I v3))], [(1, some ⟨3, 1, (p1.map o3)⟩)], [1, JJ]⟩)  (r : (List Int)) (h : spec_l1Put_j1 K0 p1 p2 v3  = some r) : WAt E body45 (FQ (RetE Θ Try.f45.results.toList [false] [⟨3, 1, (p1.map o3)⟩] (AV.own 3 1 (r.map o3)) E)) [true, true, false, false, false, false, true, true] ⟨[(0, (AV.sl 1 0 (List.length (p1.map o3)))), (1, (I p2)), (5, (I v3))], [(1, some ⟨3, 1, (p1.map o3)⟩)], [1, JJ]⟩ := by
  have hm : E.P.follows .mixedOrders = true := by rw [hP]; exact mixed
  have hΘ : TOK E.P Θ := by rw [hP]; exact Θ_ok
  unfold spec_l1Put_j1 at h
  rcases itS h with ⟨c8, h⟩ | ⟨c17, h⟩
  · obtain ⟨x9, hx9, h⟩ := bnS h
    rcases itS h with ⟨c10, h⟩ | ⟨c11, h⟩
    · have h := Option.some.inj h
      subst h
      exact go_ret hΘ hm hP hn (hs := [⟨2, .no, some (I (p1.length : Int))⟩, ⟨4, .no, some (B true)⟩, ⟨8, .row [(I x9)], none⟩, ⟨12, .br true, none⟩]) (rh := []) (ph := .own) (ps := [AV.lit (.int .i64 (((List.length (p1.map o3)) : Nat) : Int)) = (I (p1.length : Int)), (B (decide (v3 < (p1.length : Int)))) = (B true), (0 : Int) ≤ v3, v3 < (((List.length (p1.map o3)) : Nat) : Int), (p1.map o3)[(Int.toNat v3)]? = some [(I x9)], (x9 == p2) = true, treeLL ((p1.map o3).take (List.length (p1.map o3))) = true, (p1.map o3).take (List.length (p1.map o3)) = (p1.map o3), noRoLL (p1.map o3) = true]) (by kernel_rfl) ⟨(lenM o3), (litB c8), (rd0 hx9), (rdL o3 hx9), (rdM o3 hx9), c10, (treeT t3), takeM, (noRoM n3), trivial⟩
    · exact go_to hΘ hm hx hP hn (hs := [⟨2, .no, some (I (p1.length : Int))⟩, ⟨4, .no, some (B true)⟩, ⟨8, .row [(I x9)], none⟩, ⟨12, .br false, none⟩]) (π := [(1, 1)]) (ts := [0, 1, 5]) (kp := []) (ps := [AV.lit (.int .i64 (((List.length (p1.map o3)) : Nat) : Int)) = (I (p1.length : Int)), (B (decide (v3 < (p1.length : Int)))) = (B true), (0 : Int) ≤ v3, v3 < (((List.length (p1.map o3)) : Nat) : Int), (p1.map o3)[(Int.toNat v3)]? = some [(I x9)], (x9 == p2) = false, RenOK [(1, 1)] (p1.map o3)]) (by kernel_rfl) ⟨(lenM o3), (litB c8), (rd0 hx9), (rdL o3 hx9), (rdM o3 hx9), c11, (rok (treeM t3)), trivial⟩ (spec_l1Put_j2_m hP hn hx p1 p2 v3  _ h)
  · exact go_to hΘ hm hx hP hn (hs := [⟨2, .no, some (I (p1.length : Int))⟩, ⟨4, .no, some (B false)⟩]) (π := [(1, 1)]) (ts := [0, 1, 5]) (kp := []) (ps := [AV.lit (.int .i64 (((List.length (p1.map o3)) : Nat) : Int)) = (I (p1.length : Int)), (B (decide (v3 < (p1.length : Int)))) = (B false), RenOK [(1, 1)] (p1.map o3)]) (by kernel_rfl) ⟨(lenM o3), (litB c17), (rok (treeM t3)), trivial⟩ (spec_l1Put_j2_m hP hn hx p1 p2 v3  _ h)
noncomputable def spec_l1Put_l0  (p1 : (List Int)) (p2 : Int) : Nat → Int → Option (List Int)
  | 0, _ => none
  | n + 1, v3 =>
  if (decide (v3 < (p1.length : Int))) = true then
    Option.bind (rd p1 v3) fun x5 =>
    if (decide (x5 < p2)) = true then
      spec_l1Put_l0 p1 p2 n (w64 (v3 + 1))
    else
      spec_l1Put_j1 (spec_l1Put_l0 p1 p2 n) p1 p2 v3
  else
    spec_l1Put_j1 (spec_l1Put_l0 p1 p2 n) p1 p2 v3
theorem spec_l1Put_l0_m {E : Env} (hP : E.P = Try.prog) (hn : E.n = 48) (hx : ∀ p, p ∈ E.fx → p.1 ∈ ([] : List Nat)) (p1 : (List Int)) (p2 : Int)  : ∀ (n : Nat) (v3 : Int) (r : (List Int)), spec_l1Put_l0 p1 p2 n v3 = some r → WAt E body45 (FQ (RetE Θ Try.f45.results.toList [false] [⟨3, 1, (p1.map o3)⟩] (AV.own 3 1 (r.map o3)) E)) [true, true, false, false] ⟨[(0, (AV.sl 1 0 (List.length (p1.map o3)))), (1, (I p2)), (5, (I v3))], [(1, some ⟨3, 1, (p1.map o3)⟩)], [1, JJ]⟩ := by
  have hm : E.P.follows .mixedOrders = true := by rw [hP]; exact mixed
  have hΘ : TOK E.P Θ := by rw [hP]; exact Θ_ok
  intro n
  induction n with
  | zero => intro v3 r h; simp only [spec_l1Put_l0] at h; cases h
  | succ n ih =>
    intro v3 r h
    simp only [spec_l1Put_l0] at h
    rcases itS h with ⟨c4, h⟩ | ⟨c18, h⟩
    · obtain ⟨x5, hx5, h⟩ := bnS h
      rcases itS h with ⟨c6, h⟩ | ⟨c7, h⟩
      · exact go_to hΘ hm hx hP hn (hs := [⟨2, .no, some (I (p1.length : Int))⟩, ⟨4, .no, some (B true)⟩, ⟨8, .row [(I x5)], none⟩, ⟨12, .br true, none⟩]) (π := [(1, 1)]) (ts := [0, 1, 5]) (kp := []) (ps := [AV.lit (.int .i64 (((List.length (p1.map o3)) : Nat) : Int)) = (I (p1.length : Int)), (B (decide (v3 < (p1.length : Int)))) = (B true), (0 : Int) ≤ v3, v3 < (((List.length (p1.map o3)) : Nat) : Int), (p1.map o3)[(Int.toNat v3)]? = some [(I x5)], (decide (x5 < p2)) = true, RenOK [(1, 1)] (p1.map o3)]) (by kernel_rfl) ⟨(lenM o3), (litB c4), (rd0 hx5), (rdL o3 hx5), (rdM o3 hx5), c6, (rok (treeM t3)), trivial⟩ (ih (w64 (v3 + 1)) _ h)
      · exact go_to hΘ hm hx hP hn (hs := [⟨2, .no, some (I (p1.length : Int))⟩, ⟨4, .no, some (B true)⟩, ⟨8, .row [(I x5)], none⟩, ⟨12, .br false, none⟩]) (π := [(1, 1)]) (ts := [0, 1, 5]) (kp := []) (ps := [AV.lit (.int .i64 (((List.length (p1.map o3)) : Nat) : Int)) = (I (p1.length : Int)), (B (decide (v3 < (p1.length : Int)))) = (B true), (0 : Int) ≤ v3, v3 < (((List.length (p1.map o3)) : Nat) : Int), (p1.map o3)[(Int.toNat v3)]? = some [(I x5)], (decide (x5 < p2)) = false, RenOK [(1, 1)] (p1.map o3)]) (by kernel_rfl) ⟨(lenM o3), (litB c4), (rd0 hx5), (rdL o3 hx5), (rdM o3 hx5), c7, (rok (treeM t3)), trivial⟩ (spec_l1Put_j1_m hP hn hx p1 p2 v3 ih  _ h)
    · exact go_to hΘ hm hx hP hn (hs := [⟨2, .no, some (I (p1.length : Int))⟩, ⟨4, .no, some (B false)⟩]) (π := [(1, 1)]) (ts := [0, 1, 5]) (kp := []) (ps := [AV.lit (.int .i64 (((List.length (p1.map o3)) : Nat) : Int)) = (I (p1.length : Int)), (B (decide (v3 < (p1.length : Int)))) = (B false), RenOK [(1, 1)] (p1.map o3)]) (by kernel_rfl) ⟨(lenM o3), (litB c18), (rok (treeM t3)), trivial⟩ (spec_l1Put_j1_m hP hn hx p1 p2 v3 ih  _ h)
noncomputable def spec_l1Put (p1 : (List Int)) (p2 : Int) : Option (List Int) :=
  spec_l1Put_l0 p1 p2 FU 0
theorem spec_l1Put_m {p1 : (List Int)} {p2 : Int} {r : (List Int)} (h : spec_l1Put p1 p2 = some r) : MeetsR Try.prog 45 [⟨3, 1, (p1.map o3)⟩] [(AV.sl 0 0 (List.length (p1.map o3))), (I p2)] [false] [⟨3, 1, (p1.map o3)⟩] (AV.own 3 1 (r.map o3)) := by
  refine meetsR_of Θ_ok Try.func45 rfl (c := body45) (by kernel_rfl) (Nat.le_of_ble_eq_true rfl) rfl (Nat.le_of_ble_eq_true rfl) rfl (fr := []) (frI rfl) ?_
  intro E hP hn hx
  replace hn : E.n = 48 := hn
  have hm : E.P.follows .mixedOrders = true := by rw [hP]; exact mixed
  have hΘ : TOK E.P Θ := by rw [hP]; exact Θ_ok
  unfold spec_l1Put at h
  show WAt E body45 (FQ (RetE Θ Try.f45.results.toList [false] [⟨3, 1, (p1.map o3)⟩] (AV.own 3 1 (r.map o3)) E)) [] ⟨[(0, (AV.sl 0 0 (List.length (p1.map o3)))), (1, (I p2))], [(0, some ⟨3, 1, (p1.map o3)⟩)], [0, JJ]⟩
  exact go_to hΘ hm hx hP hn (hs := []) (π := [(0, 1)]) (ts := [0, 1, 5]) (kp := []) (ps := [RenOK [(0, 1)] (p1.map o3)]) (by kernel_rfl) ⟨(rok (treeM t3)), trivial⟩ (spec_l1Put_l0_m hP hn hx p1 p2 FU 0 _ h)
noncomputable def body103 : Code := match Try.f103.body with | some c => c | none => .skip
noncomputable def spec_l7Drop_l0  (p1 : (List Int)) (p2 : Int) : Nat → (List Int) → Int → Option (List Int)
  | 0, _, _ => none
  | n + 1, a3, v4 =>
  if (decide (v4 < (p1.length : Int))) = true then
    Option.bind (rd p1 v4) fun x6 =>
    if (x6 != p2) = true then
      Option.bind (app a3 [x6]) fun l8 =>
      spec_l7Drop_l0 p1 p2 n l8 (w64 (v4 + 1))
    else
      spec_l7Drop_l0 p1 p2 n a3 (w64 (v4 + 1))
  else
    some a3
theorem spec_l7Drop_l0_m {E : Env} (hP : E.P = Try.prog) (hn : E.n = 23) (hx : ∀ p, p ∈ E.fx → p.1 ∈ ([] : List Nat)) (p1 : (List Int)) (p2 : Int)  : ∀ (n : Nat) (a3 : (List Int)) (v4 : Int) (r : (List Int)), spec_l7Drop_l0 p1 p2 n a3 v4 = some r → WAt E body103 (FQ (RetE Θ Try.f103.results.toList [] [] (AV.own 3 1 (r.map o3)) E)) [true, true, false, true, false] ⟨[(1, (I p2)), (5, (AV.sl 1 0 (List.length (a3.map o3)))), (8, (AV.ro 1 (p1.map o3))), (9, (I (p1.length : Int))), (10, (I v4))], [(1, some ⟨3, 1, (a3.map o3)⟩)], [1, JJ]⟩ := by
  have hm : E.P.follows .mixedOrders = true := by rw [hP]; exact mixed
  have hΘ : TOK E.P Θ := by rw [hP]; exact Θ_ok
  intro n
  induction n with
  | zero => intro a3 v4 r h; simp only [spec_l7Drop_l0] at h; cases h
  | succ n ih =>
    intro a3 v4 r h
    simp only [spec_l7Drop_l0] at h
    rcases itS h with ⟨c5, h⟩ | ⟨c10, h⟩
    · obtain ⟨x6, hx6, h⟩ := bnS h
      rcases itS h with ⟨c7, h⟩ | ⟨c9, h⟩
      · obtain ⟨l8, hl8, h⟩ := bnS h
        exact go_to hΘ hm hx hP hn (hs := [⟨1, .br true, none⟩, ⟨2, .row (o3 x6), none⟩, ⟨8, .br true, none⟩, ⟨11, .new 1001, none⟩, ⟨12, .app 1002 (l8.map o3), none⟩]) (π := [(1002, 1)]) (ts := [1, 5, 8, 9, 10]) (kp := []) (ps := [(decide (v4 < (p1.length : Int))) = true, (0 : Int) ≤ v4, (p1.map o3)[(Int.toNat v4)]? = some (o3 x6), (x6 != p2) = true, (a3.map o3).take (List.length (a3.map o3)) ++ ((([x6].map o3).drop 0).take (List.length ([x6].map o3))) = (l8.map o3), ((([x6].map o3).drop 0).take (List.length ([x6].map o3))).all (fun r => r.all AV.plain) = true, (List.length (l8.map o3)) * 8 ≤ 140737488355328, (List.length (l8.map o3)) ≤ 140737488355328, RenOK [(1002, 1)] (l8.map o3)]) (by kernel_rfl) ⟨c5, (rd0 hx6), (rdM o3 hx6), c7, (appTD o3 hl8), (plD pa3), (appB o3 hl8 (by decide)), (appC o3 hl8), (rok (treeM t3)), trivial⟩ (ih l8 (w64 (v4 + 1)) _ h)
      · exact go_to hΘ hm hx hP hn (hs := [⟨1, .br true, none⟩, ⟨2, .row (o3 x6), none⟩, ⟨8, .br false, none⟩]) (π := [(1, 1)]) (ts := [1, 5, 8, 9, 10]) (kp := []) (ps := [(decide (v4 < (p1.length : Int))) = true, (0 : Int) ≤ v4, (p1.map o3)[(Int.toNat v4)]? = some (o3 x6), (x6 != p2) = false, RenOK [(1, 1)] (a3.map o3)]) (by kernel_rfl) ⟨c5, (rd0 hx6), (rdM o3 hx6), c9, (rok (treeM t3)), trivial⟩ (ih a3 (w64 (v4 + 1)) _ h)
    · have h := Option.some.inj h
      subst h
      exact go_ret hΘ hm hP hn (hs := [⟨1, .br false, none⟩]) (rh := []) (ph := .own) (ps := [(decide (v4 < (p1.length : Int))) = false, treeLL ((a3.map o3).take (List.length (a3.map o3))) = true, (a3.map o3).take (List.length (a3.map o3)) = (a3.map o3), noRoLL (a3.map o3) = true]) (by kernel_rfl) ⟨c10, (treeT t3), takeM, (noRoM n3), trivial⟩
noncomputable def spec_l7Drop (p1 : (List Int)) (p2 : Int) : Option (List Int) :=
  spec_l7Drop_l0 p1 p2 FU [] 0
theorem spec_l7Drop_m {p1 : (List Int)} {p2 : Int} {r : (List Int)} (h : spec_l7Drop p1 p2 = some r) : Meets Try.prog 103 [(AV.ro 1 (p1.map o3)), (I p2)] (AV.own 3 1 (r.map o3)) := by
  refine meets_ofC Θ_ok Try.func103 rfl (c := body103) (by kernel_rfl) (Nat.le_of_ble_eq_true rfl) ?_
  intro E hP hn hx
  replace hn : E.n = 23 := hn
  have hm : E.P.follows .mixedOrders = true := by rw [hP]; exact mixed
  have hΘ : TOK E.P Θ := by rw [hP]; exact Θ_ok
  unfold spec_l7Drop at h
  show WAt E body103 (FQ (RetE Θ Try.f103.results.toList [] [] (AV.own 3 1 (r.map o3)) E)) [] ⟨[(0, (AV.ro 1 (p1.map o3))), (1, (I p2))], [], [JJ]⟩
  exact go_to hΘ hm hx hP hn (hs := [⟨3, .no, some (I (p1.length : Int))⟩, ⟨5, .nil 5 1001 3 1, none⟩]) (π := [(1001, 1)]) (ts := [1, 5, 8, 9, 10]) (kp := []) (ps := [AV.lit (.int .i64 (((p1.map o3).length : Nat) : Int)) = (I (p1.length : Int)), RenOK [(1001, 1)] ([].map o3)]) (by kernel_rfl) ⟨(lenM o3), (rok (treeM t3)), trivial⟩ (spec_l7Drop_l0_m hP hn hx p1 p2 FU [] 0 _ h)
noncomputable def body132 : Code := match Try.f132.body with | some c => c | none => .skip
noncomputable def spec_l6Gives (p1 : GEvent) : Option Int :=
  if (p1.Kind == 5) = true then
    some p1.Obj
  else
    if (p1.Kind == 8) = true then
      some p1.Lock
    else
      some (-2)
theorem spec_l6Gives_m {p1 : GEvent} {r : Int} (h : spec_l6Gives p1 = some r) : Meets Try.prog 132 [(AV.agg ((o64 p1)))] (I r) := by
  refine meets_ofC Θ_ok Try.func132 rfl (c := body132) (by kernel_rfl) (Nat.le_of_ble_eq_true rfl) ?_
  intro E hP hn hx
  replace hn : E.n = 13 := hn
  have hm : E.P.follows .mixedOrders = true := by rw [hP]; exact mixed
  have hΘ : TOK E.P Θ := by rw [hP]; exact Θ_ok
  unfold spec_l6Gives at h
  show WAt E body132 (FQ (RetE Θ Try.f132.results.toList [] [] (I r) E)) [] ⟨[(0, (AV.agg ((o64 p1))))], [], [JJ]⟩
  rcases itS h with ⟨c2, h⟩ | ⟨c3, h⟩
  · have h := Option.some.inj h
    subst h
    exact go_ret hΘ hm hP hn (hs := [⟨0, .new 1001, none⟩, ⟨6, .br true, none⟩]) (rh := []) (ph := .raw) (ps := [(p1.Kind == 5) = true, (I p1.Obj) = (I p1.Obj), litA (I p1.Obj) = true]) (by kernel_rfl) ⟨c2, rfl, rfl, trivial⟩
  · rcases itS h with ⟨c4, h⟩ | ⟨c5, h⟩
    · have h := Option.some.inj h
      subst h
      exact go_ret hΘ hm hP hn (hs := [⟨0, .new 1001, none⟩, ⟨6, .br false, none⟩, ⟨9, .br true, none⟩]) (rh := []) (ph := .raw) (ps := [(p1.Kind == 5) = false, (p1.Kind == 8) = true, (I p1.Lock) = (I p1.Lock), litA (I p1.Lock) = true]) (by kernel_rfl) ⟨c3, c4, rfl, rfl, trivial⟩
    · have h := Option.some.inj h
      subst h
      exact go_ret hΘ hm hP hn (hs := [⟨0, .new 1001, none⟩, ⟨6, .br false, none⟩, ⟨9, .br false, none⟩]) (rh := []) (ph := .raw) (ps := [(p1.Kind == 5) = false, (p1.Kind == 8) = false, (I (-2)) = (I (-2)), litA (I (-2)) = true]) (by kernel_rfl) ⟨c3, c5, rfl, rfl, trivial⟩
noncomputable def body122 : Code := match Try.f122.body with | some c => c | none => .skip
noncomputable def spec_l6Takes (p1 : GEvent) : Option Int :=
  if (p1.Kind == 4) = true then
    some p1.Obj
  else
    if (p1.Kind == 9) = true then
      some p1.Lock
    else
      some (-3)
theorem spec_l6Takes_m {p1 : GEvent} {r : Int} (h : spec_l6Takes p1 = some r) : Meets Try.prog 122 [(AV.agg ((o64 p1)))] (I r) := by
  refine meets_ofC Θ_ok Try.func122 rfl (c := body122) (by kernel_rfl) (Nat.le_of_ble_eq_true rfl) ?_
  intro E hP hn hx
  replace hn : E.n = 13 := hn
  have hm : E.P.follows .mixedOrders = true := by rw [hP]; exact mixed
  have hΘ : TOK E.P Θ := by rw [hP]; exact Θ_ok
  unfold spec_l6Takes at h
  show WAt E body122 (FQ (RetE Θ Try.f122.results.toList [] [] (I r) E)) [] ⟨[(0, (AV.agg ((o64 p1))))], [], [JJ]⟩
  rcases itS h with ⟨c2, h⟩ | ⟨c3, h⟩
  · have h := Option.some.inj h
    subst h
    exact go_ret hΘ hm hP hn (hs := [⟨0, .new 1001, none⟩, ⟨6, .br true, none⟩]) (rh := []) (ph := .raw) (ps := [(p1.Kind == 4) = true, (I p1.Obj) = (I p1.Obj), litA (I p1.Obj) = true]) (by kernel_rfl) ⟨c2, rfl, rfl, trivial⟩
  · rcases itS h with ⟨c4, h⟩ | ⟨c5, h⟩
    · have h := Option.some.inj h
      subst h
      exact go_ret hΘ hm hP hn (hs := [⟨0, .new 1001, none⟩, ⟨6, .br false, none⟩, ⟨9, .br true, none⟩]) (rh := []) (ph := .raw) (ps := [(p1.Kind == 4) = false, (p1.Kind == 9) = true, (I p1.Lock) = (I p1.Lock), litA (I p1.Lock) = true]) (by kernel_rfl) ⟨c3, c4, rfl, rfl, trivial⟩
    · have h := Option.some.inj h
      subst h
      exact go_ret hΘ hm hP hn (hs := [⟨0, .new 1001, none⟩, ⟨6, .br false, none⟩, ⟨9, .br false, none⟩]) (rh := []) (ph := .raw) (ps := [(p1.Kind == 4) = false, (p1.Kind == 9) = false, (I (-3)) = (I (-3)), litA (I (-3)) = true]) (by kernel_rfl) ⟨c3, c5, rfl, rfl, trivial⟩
noncomputable def body131 : Code := match Try.f131.body with | some c => c | none => .skip
noncomputable def spec_l7Held_j1 (K0 : (List Int) → Int → Option (List Int)) (p1 : (List GEvent)) (p2 : Int) (l3 : (List GEvent)) (v5 : Int) (a14 : (List Int)) (a15 : GEvent) : Option (List Int) :=
  Option.bind (spec_l6Gives a15) fun r16 =>
  if (decide (r16 ≥ 0)) = true then
    Option.bind (spec_l7Drop a14 r16) fun r18 =>
    K0 r18 (w64 (v5 + 1))
  else
    K0 a14 (w64 (v5 + 1))
theorem spec_l7Held_j1_m {E : Env} (hP : E.P = Try.prog) (hn : E.n = 43) (hx : ∀ p, p ∈ E.fx → p.1 ∈ ([] : List Nat)) (p1 : (List GEvent)) (p2 : Int) (l3 : (List GEvent)) (v5 : Int) {K0 : (List Int) → Int → Option (List Int)} (hK0 : ∀ (a4 : (List Int)) (v5 : Int) (r : (List Int)), K0 a4 v5 = some r → WAt E body131 (FQ (RetE Θ Try.f131.results.toList [] [] (AV.own 3 1 (r.map o3)) E)) [true, true, false, true, false] ⟨[(0, (AV.ro 5 (p1.map o64))), (1, (I p2)), (5, (AV.sl 1 0 (List.length (a4.map o3)))), (13, (AV.ro 5 (l3.map o64))), (14, (I (l3.length : Int))), (15, (I v5))], [(1, some ⟨3, 1, (a4.map o3)⟩)], [1, JJ]⟩) (a14 : (List Int)) (a15 : GEvent) (r : (List Int)) (h : spec_l7Held_j1 K0 p1 p2 l3 v5 a14 a15 = some r) : WAt E body131 (FQ (RetE Θ Try.f131.results.toList [] [] (AV.own 3 1 (r.map o3)) E)) [true, true, false, true, false, false, true, true, false, false, true, true, true] ⟨[(0, (AV.ro 5 (p1.map o64))), (1, (I p2)), (5, (AV.sl 1 0 (List.length (a14.map o3)))), (7, (AV.ptr 2 0 0)), (13, (AV.ro 5 (l3.map o64))), (14, (I (l3.length : Int))), (15, (I v5))], [(1, some ⟨3, 1, (a14.map o3)⟩), (2, some ⟨64, 5, [((o64 a15))]⟩)], [1, 2, JJ]⟩ := by
  have hm : E.P.follows .mixedOrders = true := by rw [hP]; exact mixed
  have hΘ : TOK E.P Θ := by rw [hP]; exact Θ_ok
  unfold spec_l7Held_j1 at h
  obtain ⟨r16, hr16, h⟩ := bnS h
  rcases itS h with ⟨c17, h⟩ | ⟨c19, h⟩
  · obtain ⟨r18, hr18, h⟩ := bnS h
    exact go_to hΘ hm hx hP hn (hs := [⟨1, .callV [[]] (I r16), none⟩, ⟨5, .br true, none⟩, ⟨8, .call [(a14.map o3)] (AV.own 3 1 (r18.map o3)) [1001], none⟩]) (π := [(1001, 1)]) (ts := [0, 1, 5, 13, 14, 15]) (kp := []) (ps := [Meets Try.prog 132 [(AV.agg ((o64 a15)))] (I r16), litA (I r16) = true, (decide (r16 ≥ 0)) = true, Meets Try.prog 103 [(AV.ro 1 (a14.map o3)), (I r16)] (AV.own 3 1 (r18.map o3)), noRo (AV.own 3 1 (r18.map o3)) = true, Frz (((a14.map o3).drop 0).take (List.length (a14.map o3))) (a14.map o3), RenOK [(1001, 1)] (r18.map o3)]) (by kernel_rfl) ⟨(spec_l6Gives_m hr16), rfl, c17, (spec_l7Drop_m hr18), (by simp only [noRo, noRoL, noRoM n3, Bool.and_self]), (frzF t3 z3), (rok (treeM t3)), trivial⟩ (hK0 r18 (w64 (v5 + 1)) _ h)
  · exact go_to hΘ hm hx hP hn (hs := [⟨1, .callV [[]] (I r16), none⟩, ⟨5, .br false, none⟩]) (π := [(1, 1)]) (ts := [0, 1, 5, 13, 14, 15]) (kp := []) (ps := [Meets Try.prog 132 [(AV.agg ((o64 a15)))] (I r16), litA (I r16) = true, (decide (r16 ≥ 0)) = false, RenOK [(1, 1)] (a14.map o3)]) (by kernel_rfl) ⟨(spec_l6Gives_m hr16), rfl, c19, (rok (treeM t3)), trivial⟩ (hK0 a14 (w64 (v5 + 1)) _ h)
noncomputable def spec_l7Held_l0  (p1 : (List GEvent)) (p2 : Int) (l3 : (List GEvent)) : Nat → (List Int) → Int → Option (List Int)
  | 0, _, _ => none
  | n + 1, a4, v5 =>
  if (decide (v5 < (l3.length : Int))) = true then
    Option.bind (rd l3 v5) fun x7 =>
    Option.bind (rd p1 p2) fun x8 =>
    if (x7.Thread != x8.Thread) = true then
      spec_l7Held_l0 p1 p2 l3 n a4 (w64 (v5 + 1))
    else
      Option.bind (spec_l6Takes x7) fun r11 =>
      if (decide (r11 ≥ 0)) = true then
        Option.bind (spec_l1Put a4 r11) fun r13 =>
        spec_l7Held_j1 (spec_l7Held_l0 p1 p2 l3 n) p1 p2 l3 v5 r13 x7
      else
        spec_l7Held_j1 (spec_l7Held_l0 p1 p2 l3 n) p1 p2 l3 v5 a4 x7
  else
    some a4
theorem spec_l7Held_l0_m {E : Env} (hP : E.P = Try.prog) (hn : E.n = 43) (hx : ∀ p, p ∈ E.fx → p.1 ∈ ([] : List Nat)) (p1 : (List GEvent)) (p2 : Int) (l3 : (List GEvent))  : ∀ (n : Nat) (a4 : (List Int)) (v5 : Int) (r : (List Int)), spec_l7Held_l0 p1 p2 l3 n a4 v5 = some r → WAt E body131 (FQ (RetE Θ Try.f131.results.toList [] [] (AV.own 3 1 (r.map o3)) E)) [true, true, false, true, false] ⟨[(0, (AV.ro 5 (p1.map o64))), (1, (I p2)), (5, (AV.sl 1 0 (List.length (a4.map o3)))), (13, (AV.ro 5 (l3.map o64))), (14, (I (l3.length : Int))), (15, (I v5))], [(1, some ⟨3, 1, (a4.map o3)⟩)], [1, JJ]⟩ := by
  have hm : E.P.follows .mixedOrders = true := by rw [hP]; exact mixed
  have hΘ : TOK E.P Θ := by rw [hP]; exact Θ_ok
  intro n
  induction n with
  | zero => intro a4 v5 r h; simp only [spec_l7Held_l0] at h; cases h
  | succ n ih =>
    intro a4 v5 r h
    simp only [spec_l7Held_l0] at h
    rcases itS h with ⟨c6, h⟩ | ⟨c21, h⟩
    · obtain ⟨x7, hx7, h⟩ := bnS h
      obtain ⟨x8, hx8, h⟩ := bnS h
      rcases itS h with ⟨c9, h⟩ | ⟨c10, h⟩
      · exact go_to hΘ hm hx hP hn (hs := [⟨1, .br true, none⟩, ⟨2, .row (o64 x7), none⟩, ⟨4, .new 1001, none⟩, ⟨10, .row (o64 x8), none⟩, ⟨14, .br true, none⟩]) (π := [(1, 1)]) (ts := [0, 1, 5, 13, 14, 15]) (kp := []) (ps := [(decide (v5 < (l3.length : Int))) = true, (0 : Int) ≤ v5, (l3.map o64)[(Int.toNat v5)]? = some (o64 x7), (0 : Int) ≤ p2, (p1.map o64)[(Int.toNat p2)]? = some (o64 x8), (x7.Thread != x8.Thread) = true, RenOK [(1, 1)] (a4.map o3)]) (by kernel_rfl) ⟨c6, (rd0 hx7), (rdM o64 hx7), (rd0 hx8), (rdM o64 hx8), c9, (rok (treeM t3)), trivial⟩ (ih a4 (w64 (v5 + 1)) _ h)
      · obtain ⟨r11, hr11, h⟩ := bnS h
        rcases itS h with ⟨c12, h⟩ | ⟨c20, h⟩
        · obtain ⟨r13, hr13, h⟩ := bnS h
          exact go_to hΘ hm hx hP hn (hs := [⟨1, .br true, none⟩, ⟨2, .row (o64 x7), none⟩, ⟨4, .new 1001, none⟩, ⟨10, .row (o64 x8), none⟩, ⟨14, .br false, none⟩, ⟨16, .callV [[]] (I r11), none⟩, ⟨20, .br true, none⟩, ⟨23, .callX [1] [false] [⟨3, 1, (a4.map o3)⟩] [⟨3, 1, (a4.map o3)⟩] [] (AV.own 3 1 (r13.map o3)) [1002] (AV.sl 1002 0 (List.length (r13.map o3))) [(1002, ⟨3, 1, (r13.map o3)⟩)], none⟩]) (π := [(1002, 1), (1001, 2)]) (ts := [0, 1, 5, 7, 13, 14, 15]) (kp := []) (ps := [(decide (v5 < (l3.length : Int))) = true, (0 : Int) ≤ v5, (l3.map o64)[(Int.toNat v5)]? = some (o64 x7), (0 : Int) ≤ p2, (p1.map o64)[(Int.toNat p2)]? = some (o64 x8), (x7.Thread != x8.Thread) = false, Meets Try.prog 122 [(AV.agg ((o64 x7)))] (I r11), litA (I r11) = true, (decide (r11 ≥ 0)) = true, MeetsR Try.prog 45 [⟨3, 1, (a4.map o3)⟩] [(AV.sl 0 0 (List.length (a4.map o3))), (I r11)] [false] [⟨3, 1, (a4.map o3)⟩] (AV.own 3 1 (r13.map o3)), (some (Root.mk 3 1 (a4.map o3)) = some (Root.mk 3 1 (a4.map o3))) ∧ True, (treeLL (a4.map o3) = true ∧ noRoLL (a4.map o3) = true) ∧ True, ((a4.map o3).length = (a4.map o3).length) ∧ True, (rtf (renA [] (AV.own 3 1 (r13.map o3))) [1002]).1 = (AV.sl 1002 0 (List.length (r13.map o3))), (rtf (renA [] (AV.own 3 1 (r13.map o3))) [1002]).2.1 = [(1002, ⟨3, 1, (r13.map o3)⟩)], RenOK [(1002, 1), (1001, 2)] (r13.map o3), RenOK [(1002, 1), (1001, 2)] [((o64 x7))]]) (by kernel_rfl) ⟨c6, (rd0 hx7), (rdM o64 hx7), (rd0 hx8), (rdM o64 hx8), c10, (spec_l6Takes_m hr11), rfl, c12, (spec_l1Put_m hr13), ⟨rfl, trivial⟩, ⟨⟨treeM t3, noRoM n3⟩, trivial⟩, ⟨rfl, trivial⟩, rfl, rfl, (rok (treeM t3)), (rok rfl), trivial⟩ (spec_l7Held_j1_m hP hn hx p1 p2 l3 v5 ih r13 x7 _ h)
        · exact go_to hΘ hm hx hP hn (hs := [⟨1, .br true, none⟩, ⟨2, .row (o64 x7), none⟩, ⟨4, .new 1001, none⟩, ⟨10, .row (o64 x8), none⟩, ⟨14, .br false, none⟩, ⟨16, .callV [[]] (I r11), none⟩, ⟨20, .br false, none⟩]) (π := [(1, 1), (1001, 2)]) (ts := [0, 1, 5, 7, 13, 14, 15]) (kp := []) (ps := [(decide (v5 < (l3.length : Int))) = true, (0 : Int) ≤ v5, (l3.map o64)[(Int.toNat v5)]? = some (o64 x7), (0 : Int) ≤ p2, (p1.map o64)[(Int.toNat p2)]? = some (o64 x8), (x7.Thread != x8.Thread) = false, Meets Try.prog 122 [(AV.agg ((o64 x7)))] (I r11), litA (I r11) = true, (decide (r11 ≥ 0)) = false, RenOK [(1, 1), (1001, 2)] (a4.map o3), RenOK [(1, 1), (1001, 2)] [((o64 x7))]]) (by kernel_rfl) ⟨c6, (rd0 hx7), (rdM o64 hx7), (rd0 hx8), (rdM o64 hx8), c10, (spec_l6Takes_m hr11), rfl, c20, (rok (treeM t3)), (rok rfl), trivial⟩ (spec_l7Held_j1_m hP hn hx p1 p2 l3 v5 ih a4 x7 _ h)
    · have h := Option.some.inj h
      subst h
      exact go_ret hΘ hm hP hn (hs := [⟨1, .br false, none⟩]) (rh := []) (ph := .own) (ps := [(decide (v5 < (l3.length : Int))) = false, treeLL ((a4.map o3).take (List.length (a4.map o3))) = true, (a4.map o3).take (List.length (a4.map o3)) = (a4.map o3), noRoLL (a4.map o3) = true]) (by kernel_rfl) ⟨c21, (treeT t3), takeM, (noRoM n3), trivial⟩
noncomputable def spec_l7Held (p1 : (List GEvent)) (p2 : Int) : Option (List Int) :=
  Option.bind (slc p1 0 (w64 (p2 + 1))) fun l3 =>
  spec_l7Held_l0 p1 p2 l3 FU [] 0
theorem spec_l7Held_m {p1 : (List GEvent)} {p2 : Int} {r : (List Int)} (h : spec_l7Held p1 p2 = some r) : Meets Try.prog 131 [(AV.ro 5 (p1.map o64)), (I p2)] (AV.own 3 1 (r.map o3)) := by
  refine meets_ofC Θ_ok Try.func131 rfl (c := body131) (by kernel_rfl) (Nat.le_of_ble_eq_true rfl) ?_
  intro E hP hn hx
  replace hn : E.n = 43 := hn
  have hm : E.P.follows .mixedOrders = true := by rw [hP]; exact mixed
  have hΘ : TOK E.P Θ := by rw [hP]; exact Θ_ok
  unfold spec_l7Held at h
  show WAt E body131 (FQ (RetE Θ Try.f131.results.toList [] [] (AV.own 3 1 (r.map o3)) E)) [] ⟨[(0, (AV.ro 5 (p1.map o64))), (1, (I p2))], [], [JJ]⟩
  obtain ⟨l3, hl3, h⟩ := bnS h
  exact go_to hΘ hm hx hP hn (hs := [⟨5, .no, some (AV.ro 5 (l3.map o64))⟩, ⟨6, .no, some (I (l3.length : Int))⟩, ⟨8, .nil 5 1001 3 1, none⟩]) (π := [(1001, 1)]) (ts := [0, 1, 5, 13, 14, 15]) (kp := []) (ps := [AV.ro 5 (((p1.map o64).drop (Int.toNat 0)).take (subO (Int.toNat (w64 (p2 + 1))) (Int.toNat 0))) = (AV.ro 5 (l3.map o64)), (0 : Int) ≤ 0, 0 ≤ (w64 (p2 + 1)), (w64 (p2 + 1)) ≤ (((p1.map o64).length : Nat) : Int), AV.lit (.int .i64 (((l3.map o64).length : Nat) : Int)) = (I (l3.length : Int)), RenOK [(1001, 1)] ([].map o3)]) (by kernel_rfl) ⟨(slM 5 o64 hl3), (sl0 hl3), (sl1 hl3), (sl2 o64 hl3), (lenM o64), (rok (treeM t3)), trivial⟩ (spec_l7Held_l0_m hP hn hx p1 p2 l3 FU [] 0 _ h)
noncomputable def body104 : Code := match Try.f104.body with | some c => c | none => .skip
noncomputable def spec_l8Before_j1 (K0 : Bool → Int → Option (List Int)) (p1 : (List GEvent)) (p2 : Int) (r3 : (List Int)) (r5 : Int) (v8 : Int) (v16 : Bool) : Option (List Int) :=
  Option.bind (rd p1 v8) fun x17 =>
  Option.bind (spec_l6Gives x17) fun r18 =>
  if (r18 == r5) = true then
    K0 false (w64 (v8 + 1))
  else
    K0 v16 (w64 (v8 + 1))
theorem spec_l8Before_j1_m {E : Env} (hP : E.P = Try.prog) (hn : E.n = 55) (hx : ∀ p, p ∈ E.fx → p.1 ∈ ([] : List Nat)) (p1 : (List GEvent)) (p2 : Int) (r3 : (List Int)) (r5 : Int) (v8 : Int) {K0 : Bool → Int → Option (List Int)} (hK0 : ∀ (v7 : Bool) (v8 : Int) (r : (List Int)), K0 v7 v8 = some r → WAt E body104 (FQ (RetE Θ Try.f104.results.toList [] [] (AV.own 3 1 (r.map o3)) E)) [true, true, false, true, true, false, true, false, true, false] ⟨[(0, (AV.ro 5 (p1.map o64))), (1, (I p2)), (5, (AV.sl 1 0 (List.length (r3.map o3)))), (6, (I r5)), (7, (B v7)), (8, (I v8))], [(1, some ⟨3, 1, (r3.map o3)⟩)], [1, JJ]⟩) (v16 : Bool) (r : (List Int)) (h : spec_l8Before_j1 K0 p1 p2 r3 r5 v8 v16 = some r) : WAt E body104 (FQ (RetE Θ Try.f104.results.toList [] [] (AV.own 3 1 (r.map o3)) E)) [true, true, false, true, true, false, true, false, true, false, false, true, false, false, true, true] ⟨[(0, (AV.ro 5 (p1.map o64))), (1, (I p2)), (5, (AV.sl 1 0 (List.length (r3.map o3)))), (6, (I r5)), (7, (B v16)), (8, (I v8))], [(1, some ⟨3, 1, (r3.map o3)⟩)], [1, JJ]⟩ := by
  have hm : E.P.follows .mixedOrders = true := by rw [hP]; exact mixed
  have hΘ : TOK E.P Θ := by rw [hP]; exact Θ_ok
  unfold spec_l8Before_j1 at h
  obtain ⟨x17, hx17, h⟩ := bnS h
  obtain ⟨r18, hr18, h⟩ := bnS h
  rcases itS h with ⟨c19, h⟩ | ⟨c20, h⟩
  · exact go_to hΘ hm hx hP hn (hs := [⟨2, .row (o64 x17), none⟩, ⟨4, .callV [[]] (I r18), none⟩, ⟨7, .br true, none⟩]) (π := [(1, 1)]) (ts := [0, 1, 5, 6, 7, 8]) (kp := []) (ps := [(0 : Int) ≤ v8, (p1.map o64)[(Int.toNat v8)]? = some (o64 x17), Meets Try.prog 132 [(AV.agg ((o64 x17)))] (I r18), litA (I r18) = true, (r18 == r5) = true, RenOK [(1, 1)] (r3.map o3)]) (by kernel_rfl) ⟨(rd0 hx17), (rdM o64 hx17), (spec_l6Gives_m hr18), rfl, c19, (rok (treeM t3)), trivial⟩ (hK0 false (w64 (v8 + 1)) _ h)
  · exact go_to hΘ hm hx hP hn (hs := [⟨2, .row (o64 x17), none⟩, ⟨4, .callV [[]] (I r18), none⟩, ⟨7, .br false, none⟩]) (π := [(1, 1)]) (ts := [0, 1, 5, 6, 7, 8]) (kp := []) (ps := [(0 : Int) ≤ v8, (p1.map o64)[(Int.toNat v8)]? = some (o64 x17), Meets Try.prog 132 [(AV.agg ((o64 x17)))] (I r18), litA (I r18) = true, (r18 == r5) = false, RenOK [(1, 1)] (r3.map o3)]) (by kernel_rfl) ⟨(rd0 hx17), (rdM o64 hx17), (spec_l6Gives_m hr18), rfl, c20, (rok (treeM t3)), trivial⟩ (hK0 v16 (w64 (v8 + 1)) _ h)
noncomputable def spec_l8Before_l0  (p1 : (List GEvent)) (p2 : Int) (r3 : (List Int)) (r5 : Int) : Nat → Bool → Int → Option (List Int)
  | 0, _, _ => none
  | n + 1, v7, v8 =>
  if (decide (v8 < p2)) = true then
    Option.bind (rd p1 v8) fun x10 =>
    Option.bind (rd p1 p2) fun x11 =>
    if (x10.Thread != x11.Thread) = true then
      spec_l8Before_l0 p1 p2 r3 r5 n v7 (w64 (v8 + 1))
    else
      Option.bind (spec_l6Takes x10) fun r14 =>
      if (r14 == r5) = true then
        spec_l8Before_j1 (spec_l8Before_l0 p1 p2 r3 r5 n) p1 p2 r3 r5 v8 true
      else
        spec_l8Before_j1 (spec_l8Before_l0 p1 p2 r3 r5 n) p1 p2 r3 r5 v8 v7
  else
    if (!v7) = true then
      Option.bind (spec_l7Drop r3 r5) fun r25 =>
      some r25
    else
      some r3
theorem spec_l8Before_l0_m {E : Env} (hP : E.P = Try.prog) (hn : E.n = 55) (hx : ∀ p, p ∈ E.fx → p.1 ∈ ([] : List Nat)) (p1 : (List GEvent)) (p2 : Int) (r3 : (List Int)) (r5 : Int)  : ∀ (n : Nat) (v7 : Bool) (v8 : Int) (r : (List Int)), spec_l8Before_l0 p1 p2 r3 r5 n v7 v8 = some r → WAt E body104 (FQ (RetE Θ Try.f104.results.toList [] [] (AV.own 3 1 (r.map o3)) E)) [true, true, false, true, true, false, true, false, true, false] ⟨[(0, (AV.ro 5 (p1.map o64))), (1, (I p2)), (5, (AV.sl 1 0 (List.length (r3.map o3)))), (6, (I r5)), (7, (B v7)), (8, (I v8))], [(1, some ⟨3, 1, (r3.map o3)⟩)], [1, JJ]⟩ := by
  have hm : E.P.follows .mixedOrders = true := by rw [hP]; exact mixed
  have hΘ : TOK E.P Θ := by rw [hP]; exact Θ_ok
  intro n
  induction n with
  | zero => intro v7 v8 r h; simp only [spec_l8Before_l0] at h; cases h
  | succ n ih =>
    intro v7 v8 r h
    simp only [spec_l8Before_l0] at h
    rcases itS h with ⟨c9, h⟩ | ⟨c22, h⟩
    · obtain ⟨x10, hx10, h⟩ := bnS h
      obtain ⟨x11, hx11, h⟩ := bnS h
      rcases itS h with ⟨c12, h⟩ | ⟨c13, h⟩
      · exact go_to hΘ hm hx hP hn (hs := [⟨3, .br true, none⟩, ⟨6, .row (o64 x10), none⟩, ⟨11, .row (o64 x11), none⟩, ⟨15, .br true, none⟩]) (π := [(1, 1)]) (ts := [0, 1, 5, 6, 7, 8]) (kp := []) (ps := [(decide (v8 < p2)) = true, (0 : Int) ≤ v8, (p1.map o64)[(Int.toNat v8)]? = some (o64 x10), (0 : Int) ≤ p2, (p1.map o64)[(Int.toNat p2)]? = some (o64 x11), (x10.Thread != x11.Thread) = true, RenOK [(1, 1)] (r3.map o3)]) (by kernel_rfl) ⟨c9, (rd0 hx10), (rdM o64 hx10), (rd0 hx11), (rdM o64 hx11), c12, (rok (treeM t3)), trivial⟩ (ih v7 (w64 (v8 + 1)) _ h)
      · obtain ⟨r14, hr14, h⟩ := bnS h
        rcases itS h with ⟨c15, h⟩ | ⟨c21, h⟩
        · exact go_to hΘ hm hx hP hn (hs := [⟨3, .br true, none⟩, ⟨6, .row (o64 x10), none⟩, ⟨11, .row (o64 x11), none⟩, ⟨15, .br false, none⟩, ⟨18, .row (o64 x10), none⟩, ⟨20, .callV [[]] (I r14), none⟩, ⟨23, .br true, none⟩]) (π := [(1, 1)]) (ts := [0, 1, 5, 6, 7, 8]) (kp := []) (ps := [(decide (v8 < p2)) = true, (0 : Int) ≤ v8, (p1.map o64)[(Int.toNat v8)]? = some (o64 x10), (0 : Int) ≤ p2, (p1.map o64)[(Int.toNat p2)]? = some (o64 x11), (x10.Thread != x11.Thread) = false, (0 : Int) ≤ v8, (p1.map o64)[(Int.toNat v8)]? = some (o64 x10), Meets Try.prog 122 [(AV.agg ((o64 x10)))] (I r14), litA (I r14) = true, (r14 == r5) = true, RenOK [(1, 1)] (r3.map o3)]) (by kernel_rfl) ⟨c9, (rd0 hx10), (rdM o64 hx10), (rd0 hx11), (rdM o64 hx11), c13, (rd0 hx10), (rdM o64 hx10), (spec_l6Takes_m hr14), rfl, c15, (rok (treeM t3)), trivial⟩ (spec_l8Before_j1_m hP hn hx p1 p2 r3 r5 v8 ih true _ h)
        · exact go_to hΘ hm hx hP hn (hs := [⟨3, .br true, none⟩, ⟨6, .row (o64 x10), none⟩, ⟨11, .row (o64 x11), none⟩, ⟨15, .br false, none⟩, ⟨18, .row (o64 x10), none⟩, ⟨20, .callV [[]] (I r14), none⟩, ⟨23, .br false, none⟩]) (π := [(1, 1)]) (ts := [0, 1, 5, 6, 7, 8]) (kp := []) (ps := [(decide (v8 < p2)) = true, (0 : Int) ≤ v8, (p1.map o64)[(Int.toNat v8)]? = some (o64 x10), (0 : Int) ≤ p2, (p1.map o64)[(Int.toNat p2)]? = some (o64 x11), (x10.Thread != x11.Thread) = false, (0 : Int) ≤ v8, (p1.map o64)[(Int.toNat v8)]? = some (o64 x10), Meets Try.prog 122 [(AV.agg ((o64 x10)))] (I r14), litA (I r14) = true, (r14 == r5) = false, RenOK [(1, 1)] (r3.map o3)]) (by kernel_rfl) ⟨c9, (rd0 hx10), (rdM o64 hx10), (rd0 hx11), (rdM o64 hx11), c13, (rd0 hx10), (rdM o64 hx10), (spec_l6Takes_m hr14), rfl, c21, (rok (treeM t3)), trivial⟩ (spec_l8Before_j1_m hP hn hx p1 p2 r3 r5 v8 ih v7 _ h)
    · rcases itS h with ⟨c23, h⟩ | ⟨c26, h⟩
      · obtain ⟨r25, hr25, h⟩ := bnS h
        have h := Option.some.inj h
        subst h
        exact go_ret hΘ hm hP hn (hs := [⟨3, .br false, none⟩, ⟨6, .br true, none⟩, ⟨9, .call [(r3.map o3)] (AV.own 3 1 (r25.map o3)) [1001], none⟩]) (rh := []) (ph := .own) (ps := [(decide (v8 < p2)) = false, (!v7) = true, Meets Try.prog 103 [(AV.ro 1 (r3.map o3)), (I r5)] (AV.own 3 1 (r25.map o3)), noRo (AV.own 3 1 (r25.map o3)) = true, Frz (((r3.map o3).drop 0).take (List.length (r3.map o3))) (r3.map o3), treeLL ((r25.map o3).take (List.length (r25.map o3))) = true, (r25.map o3).take (List.length (r25.map o3)) = (r25.map o3), noRoLL (r25.map o3) = true]) (by kernel_rfl) ⟨c22, c23, (spec_l7Drop_m hr25), (by simp only [noRo, noRoL, noRoM n3, Bool.and_self]), (frzF t3 z3), (treeT t3), takeM, (noRoM n3), trivial⟩
      · have h := Option.some.inj h
        subst h
        exact go_ret hΘ hm hP hn (hs := [⟨3, .br false, none⟩, ⟨6, .br false, none⟩]) (rh := []) (ph := .own) (ps := [(decide (v8 < p2)) = false, (!v7) = false, treeLL ((r3.map o3).take (List.length (r3.map o3))) = true, (r3.map o3).take (List.length (r3.map o3)) = (r3.map o3), noRoLL (r3.map o3) = true]) (by kernel_rfl) ⟨c22, c26, (treeT t3), takeM, (noRoM n3), trivial⟩
noncomputable def spec_l8Before (p1 : (List GEvent)) (p2 : Int) : Option (List Int) :=
  Option.bind (spec_l7Held p1 p2) fun r3 =>
  Option.bind (rd p1 p2) fun x4 =>
  Option.bind (spec_l6Takes x4) fun r5 =>
  if (decide (r5 ≥ 0)) = true then
    spec_l8Before_l0 p1 p2 r3 r5 FU false 0
  else
    some r3
theorem spec_l8Before_m {p1 : (List GEvent)} {p2 : Int} {r : (List Int)} (h : spec_l8Before p1 p2 = some r) : Meets Try.prog 104 [(AV.ro 5 (p1.map o64)), (I p2)] (AV.own 3 1 (r.map o3)) := by
  refine meets_ofC Θ_ok Try.func104 rfl (c := body104) (by kernel_rfl) (Nat.le_of_ble_eq_true rfl) ?_
  intro E hP hn hx
  replace hn : E.n = 55 := hn
  have hm : E.P.follows .mixedOrders = true := by rw [hP]; exact mixed
  have hΘ : TOK E.P Θ := by rw [hP]; exact Θ_ok
  unfold spec_l8Before at h
  show WAt E body104 (FQ (RetE Θ Try.f104.results.toList [] [] (AV.own 3 1 (r.map o3)) E)) [] ⟨[(0, (AV.ro 5 (p1.map o64))), (1, (I p2))], [], [JJ]⟩
  obtain ⟨r3, hr3, h⟩ := bnS h
  obtain ⟨x4, hx4, h⟩ := bnS h
  obtain ⟨r5, hr5, h⟩ := bnS h
  rcases itS h with ⟨c6, h⟩ | ⟨c27, h⟩
  · exact go_to hΘ hm hx hP hn (hs := [⟨3, .call [] (AV.own 3 1 (r3.map o3)) [1001], none⟩, ⟨7, .row (o64 x4), none⟩, ⟨9, .callV [[]] (I r5), none⟩, ⟨13, .br true, none⟩]) (π := [(1001, 1)]) (ts := [0, 1, 5, 6, 7, 8]) (kp := []) (ps := [Meets Try.prog 131 [(AV.ro 5 (p1.map o64)), (I p2)] (AV.own 3 1 (r3.map o3)), noRo (AV.own 3 1 (r3.map o3)) = true, (0 : Int) ≤ p2, (p1.map o64)[(Int.toNat p2)]? = some (o64 x4), Meets Try.prog 122 [(AV.agg ((o64 x4)))] (I r5), litA (I r5) = true, (decide (r5 ≥ 0)) = true, RenOK [(1001, 1)] (r3.map o3)]) (by kernel_rfl) ⟨(spec_l7Held_m hr3), (by simp only [noRo, noRoL, noRoM n3, Bool.and_self]), (rd0 hx4), (rdM o64 hx4), (spec_l6Takes_m hr5), rfl, c6, (rok (treeM t3)), trivial⟩ (spec_l8Before_l0_m hP hn hx p1 p2 r3 r5 FU false 0 _ h)
  · have h := Option.some.inj h
    subst h
    exact go_ret hΘ hm hP hn (hs := [⟨3, .call [] (AV.own 3 1 (r3.map o3)) [1001], none⟩, ⟨7, .row (o64 x4), none⟩, ⟨9, .callV [[]] (I r5), none⟩, ⟨13, .br false, none⟩]) (rh := []) (ph := .own) (ps := [Meets Try.prog 131 [(AV.ro 5 (p1.map o64)), (I p2)] (AV.own 3 1 (r3.map o3)), noRo (AV.own 3 1 (r3.map o3)) = true, (0 : Int) ≤ p2, (p1.map o64)[(Int.toNat p2)]? = some (o64 x4), Meets Try.prog 122 [(AV.agg ((o64 x4)))] (I r5), litA (I r5) = true, (decide (r5 ≥ 0)) = false, treeLL ((r3.map o3).take (List.length (r3.map o3))) = true, (r3.map o3).take (List.length (r3.map o3)) = (r3.map o3), noRoLL (r3.map o3) = true]) (by kernel_rfl) ⟨(spec_l7Held_m hr3), (by simp only [noRo, noRoL, noRoM n3, Bool.and_self]), (rd0 hx4), (rdM o64 hx4), (spec_l6Takes_m hr5), rfl, c27, (treeT t3), takeM, (noRoM n3), trivial⟩
noncomputable def body87 : Code := match Try.f87.body with | some c => c | none => .skip
noncomputable def spec_l8Unders_l1 (K0 : (List GUnder) → Int → Option (List GUnder)) (p1 : (List GEvent)) (v3 : Int) (r6 : Int) (r9 : (List Int)) : Nat → (List GUnder) → GEvent → (List Int) → Int → Option (List GUnder)
  | 0, _, _, _, _ => none
  | n + 1, a10, a11, a12, v13 =>
  if (decide (v13 < (r9.length : Int))) = true then
    Option.bind (rd a12 v13) fun x15 =>
    Option.bind (app a10 [(GUnder.mk x15 r6 a11.Thread v3)]) fun l16 =>
    spec_l8Unders_l1 K0 p1 v3 r6 r9 n l16 a11 a12 (w64 (v13 + 1))
  else
    K0 a10 (w64 (v3 + 1))
theorem spec_l8Unders_l1_m {E : Env} (hP : E.P = Try.prog) (hn : E.n = 40) (hx : ∀ p, p ∈ E.fx → p.1 ∈ ([] : List Nat)) (p1 : (List GEvent)) (v3 : Int) (r6 : Int) (r9 : (List Int)) {K0 : (List GUnder) → Int → Option (List GUnder)} (hK0 : ∀ (a2 : (List GUnder)) (v3 : Int) (r : (List GUnder)), K0 a2 v3 = some r → WAt E body87 (FQ (RetE Θ Try.f87.results.toList [] [] (AV.own 85 4 (r.map o85)) E)) [true, true, false, true, false] ⟨[(0, (AV.ro 5 (p1.map o64))), (3, (AV.sl 1 0 (List.length (a2.map o85)))), (9, (AV.ro 5 (p1.map o64))), (10, (I (p1.length : Int))), (11, (I v3))], [(1, some ⟨85, 4, (a2.map o85)⟩)], [1, JJ]⟩) : ∀ (n : Nat) (a10 : (List GUnder)) (a11 : GEvent) (a12 : (List Int)) (v13 : Int) (r : (List GUnder)), spec_l8Unders_l1 K0 p1 v3 r6 r9 n a10 a11 a12 v13 = some r → WAt E body87 (FQ (RetE Θ Try.f87.results.toList [] [] (AV.own 85 4 (r.map o85)) E)) [true, true, false, true, false, false, true, true, false, false, true, true, true, true, false] ⟨[(0, (AV.ro 5 (p1.map o64))), (3, (AV.sl 1 0 (List.length (a10.map o85)))), (4, (I v3)), (5, (AV.ptr 2 0 0)), (6, (I r6)), (9, (AV.ro 5 (p1.map o64))), (10, (I (p1.length : Int))), (11, (I v3)), (22, (AV.sl 3 0 (List.length (a12.map o3)))), (23, (I (r9.length : Int))), (24, (I v13))], [(1, some ⟨85, 4, (a10.map o85)⟩), (2, some ⟨64, 5, [((o64 a11))]⟩), (3, some ⟨3, 1, (a12.map o3)⟩)], [1, 2, 3, JJ]⟩ := by
  have hm : E.P.follows .mixedOrders = true := by rw [hP]; exact mixed
  have hΘ : TOK E.P Θ := by rw [hP]; exact Θ_ok
  intro n
  induction n with
  | zero => intro a10 a11 a12 v13 r h; simp only [spec_l8Unders_l1] at h; cases h
  | succ n ih =>
    intro a10 a11 a12 v13 r h
    simp only [spec_l8Unders_l1] at h
    rcases itS h with ⟨c14, h⟩ | ⟨c17, h⟩
    · obtain ⟨x15, hx15, h⟩ := bnS h
      obtain ⟨l16, hl16, h⟩ := bnS h
      exact go_to hΘ hm hx hP hn (hs := [⟨1, .br true, none⟩, ⟨3, .row [(I x15)], none⟩, ⟨12, .new 1001, none⟩, ⟨13, .app 1002 (l16.map o85), none⟩]) (π := [(1002, 1), (2, 2), (3, 3)]) (ts := [0, 3, 4, 5, 6, 9, 10, 11, 22, 23, 24]) (kp := []) (ps := [(decide (v13 < (r9.length : Int))) = true, (0 : Int) ≤ v13, v13 < (((List.length (a12.map o3)) : Nat) : Int), (a12.map o3)[(Int.toNat v13)]? = some [(I x15)], (a10.map o85).take (List.length (a10.map o85)) ++ ((([(GUnder.mk x15 r6 a11.Thread v3)].map o85).drop 0).take (List.length ([(GUnder.mk x15 r6 a11.Thread v3)].map o85))) = (l16.map o85), ((([(GUnder.mk x15 r6 a11.Thread v3)].map o85).drop 0).take (List.length ([(GUnder.mk x15 r6 a11.Thread v3)].map o85))).all (fun r => r.all AV.plain) = true, (List.length (l16.map o85)) * 32 ≤ 140737488355328, (List.length (l16.map o85)) ≤ 140737488355328, RenOK [(1002, 1), (2, 2), (3, 3)] (l16.map o85), RenOK [(1002, 1), (2, 2), (3, 3)] [((o64 a11))], RenOK [(1002, 1), (2, 2), (3, 3)] (a12.map o3)]) (by kernel_rfl) ⟨c14, (rd0 hx15), (rdL o3 hx15), (rdM o3 hx15), (appTD o85 hl16), (plD pa85), (appB o85 hl16 (by decide)), (appC o85 hl16), (rok (treeM t85)), (rok rfl), (rok (treeM t3)), trivial⟩ (ih l16 a11 a12 (w64 (v13 + 1)) _ h)
    · exact go_to hΘ hm hx hP hn (hs := [⟨1, .br false, none⟩]) (π := [(1, 1)]) (ts := [0, 3, 9, 10, 11]) (kp := []) (ps := [(decide (v13 < (r9.length : Int))) = false, RenOK [(1, 1)] (a10.map o85)]) (by kernel_rfl) ⟨c17, (rok (treeM t85)), trivial⟩ (hK0 a10 (w64 (v3 + 1)) _ h)
noncomputable def spec_l8Unders_l0  (p1 : (List GEvent)) : Nat → (List GUnder) → Int → Option (List GUnder)
  | 0, _, _ => none
  | n + 1, a2, v3 =>
  if (decide (v3 < (p1.length : Int))) = true then
    Option.bind (rd p1 v3) fun x5 =>
    Option.bind (spec_l6Takes x5) fun r6 =>
    if (decide (r6 < 0)) = true then
      spec_l8Unders_l0 p1 n a2 (w64 (v3 + 1))
    else
      Option.bind (spec_l8Before p1 v3) fun r9 =>
      spec_l8Unders_l1 (spec_l8Unders_l0 p1 n) p1 v3 r6 r9 FU a2 x5 r9 0
  else
    some a2
theorem spec_l8Unders_l0_m {E : Env} (hP : E.P = Try.prog) (hn : E.n = 40) (hx : ∀ p, p ∈ E.fx → p.1 ∈ ([] : List Nat)) (p1 : (List GEvent))  : ∀ (n : Nat) (a2 : (List GUnder)) (v3 : Int) (r : (List GUnder)), spec_l8Unders_l0 p1 n a2 v3 = some r → WAt E body87 (FQ (RetE Θ Try.f87.results.toList [] [] (AV.own 85 4 (r.map o85)) E)) [true, true, false, true, false] ⟨[(0, (AV.ro 5 (p1.map o64))), (3, (AV.sl 1 0 (List.length (a2.map o85)))), (9, (AV.ro 5 (p1.map o64))), (10, (I (p1.length : Int))), (11, (I v3))], [(1, some ⟨85, 4, (a2.map o85)⟩)], [1, JJ]⟩ := by
  have hm : E.P.follows .mixedOrders = true := by rw [hP]; exact mixed
  have hΘ : TOK E.P Θ := by rw [hP]; exact Θ_ok
  intro n
  induction n with
  | zero => intro a2 v3 r h; simp only [spec_l8Unders_l0] at h; cases h
  | succ n ih =>
    intro a2 v3 r h
    simp only [spec_l8Unders_l0] at h
    rcases itS h with ⟨c4, h⟩ | ⟨c18, h⟩
    · obtain ⟨x5, hx5, h⟩ := bnS h
      obtain ⟨r6, hr6, h⟩ := bnS h
      rcases itS h with ⟨c7, h⟩ | ⟨c8, h⟩
      · exact go_to hΘ hm hx hP hn (hs := [⟨1, .br true, none⟩, ⟨3, .row (o64 x5), none⟩, ⟨5, .new 1001, none⟩, ⟨9, .callV [[]] (I r6), none⟩, ⟨13, .br true, none⟩]) (π := [(1, 1)]) (ts := [0, 3, 9, 10, 11]) (kp := []) (ps := [(decide (v3 < (p1.length : Int))) = true, (0 : Int) ≤ v3, (p1.map o64)[(Int.toNat v3)]? = some (o64 x5), Meets Try.prog 122 [(AV.agg ((o64 x5)))] (I r6), litA (I r6) = true, (decide (r6 < 0)) = true, RenOK [(1, 1)] (a2.map o85)]) (by kernel_rfl) ⟨c4, (rd0 hx5), (rdM o64 hx5), (spec_l6Takes_m hr6), rfl, c7, (rok (treeM t85)), trivial⟩ (ih a2 (w64 (v3 + 1)) _ h)
      · obtain ⟨r9, hr9, h⟩ := bnS h
        exact go_to hΘ hm hx hP hn (hs := [⟨1, .br true, none⟩, ⟨3, .row (o64 x5), none⟩, ⟨5, .new 1001, none⟩, ⟨9, .callV [[]] (I r6), none⟩, ⟨13, .br false, none⟩, ⟨16, .call [] (AV.own 3 1 (r9.map o3)) [1002], none⟩, ⟨17, .no, some (I (r9.length : Int))⟩]) (π := [(1, 1), (1001, 2), (1002, 3)]) (ts := [0, 3, 4, 5, 6, 9, 10, 11, 22, 23, 24]) (kp := []) (ps := [(decide (v3 < (p1.length : Int))) = true, (0 : Int) ≤ v3, (p1.map o64)[(Int.toNat v3)]? = some (o64 x5), Meets Try.prog 122 [(AV.agg ((o64 x5)))] (I r6), litA (I r6) = true, (decide (r6 < 0)) = false, Meets Try.prog 104 [(AV.ro 5 (p1.map o64)), (I v3)] (AV.own 3 1 (r9.map o3)), noRo (AV.own 3 1 (r9.map o3)) = true, AV.lit (.int .i64 (((List.length (r9.map o3)) : Nat) : Int)) = (I (r9.length : Int)), RenOK [(1, 1), (1001, 2), (1002, 3)] (a2.map o85), RenOK [(1, 1), (1001, 2), (1002, 3)] [((o64 x5))], RenOK [(1, 1), (1001, 2), (1002, 3)] (r9.map o3)]) (by kernel_rfl) ⟨c4, (rd0 hx5), (rdM o64 hx5), (spec_l6Takes_m hr6), rfl, c8, (spec_l8Before_m hr9), (by simp only [noRo, noRoL, noRoM n3, Bool.and_self]), (lenM o3), (rok (treeM t85)), (rok rfl), (rok (treeM t3)), trivial⟩ (spec_l8Unders_l1_m hP hn hx p1 v3 r6 r9 ih FU a2 x5 r9 0 _ h)
    · have h := Option.some.inj h
      subst h
      exact go_ret hΘ hm hP hn (hs := [⟨1, .br false, none⟩]) (rh := []) (ph := .own) (ps := [(decide (v3 < (p1.length : Int))) = false, treeLL ((a2.map o85).take (List.length (a2.map o85))) = true, (a2.map o85).take (List.length (a2.map o85)) = (a2.map o85), noRoLL (a2.map o85) = true]) (by kernel_rfl) ⟨c18, (treeT t85), takeM, (noRoM n85), trivial⟩
noncomputable def spec_l8Unders (p1 : (List GEvent)) : Option (List GUnder) :=
  spec_l8Unders_l0 p1 FU [] 0
theorem spec_l8Unders_m {p1 : (List GEvent)} {r : (List GUnder)} (h : spec_l8Unders p1 = some r) : Meets Try.prog 87 [(AV.ro 5 (p1.map o64))] (AV.own 85 4 (r.map o85)) := by
  refine meets_ofC Θ_ok Try.func87 rfl (c := body87) (by kernel_rfl) (Nat.le_of_ble_eq_true rfl) ?_
  intro E hP hn hx
  replace hn : E.n = 40 := hn
  have hm : E.P.follows .mixedOrders = true := by rw [hP]; exact mixed
  have hΘ : TOK E.P Θ := by rw [hP]; exact Θ_ok
  unfold spec_l8Unders at h
  show WAt E body87 (FQ (RetE Θ Try.f87.results.toList [] [] (AV.own 85 4 (r.map o85)) E)) [] ⟨[(0, (AV.ro 5 (p1.map o64)))], [], [JJ]⟩
  exact go_to hΘ hm hx hP hn (hs := [⟨3, .no, some (I (p1.length : Int))⟩, ⟨5, .nil 3 1001 85 4, none⟩]) (π := [(1001, 1)]) (ts := [0, 3, 9, 10, 11]) (kp := []) (ps := [AV.lit (.int .i64 (((p1.map o64).length : Nat) : Int)) = (I (p1.length : Int)), RenOK [(1001, 1)] ([].map o85)]) (by kernel_rfl) ⟨(lenM o64), (rok (treeM t85)), trivial⟩ (spec_l8Unders_l0_m hP hn hx p1 FU [] 0 _ h)
noncomputable def body63 : Code := match Try.f63.body with | some c => c | none => .skip
noncomputable def spec_l8Gate_l3 (K0 : (List Int) → (List Int) → (List Int) → Bool → (List GUnder) → Int → Option ((List Int) × Bool × Bool)) (p1 : (List GEvent)) (p2 : Int) (p3 : Int) (r4 : (List GUnder)) (v10 : Int) (r27 : (List Int)) : Nat → (List Int) → (List Int) → (List Int) → (List Int) → (List GUnder) → Int → Option ((List Int) × Bool × Bool)
  | 0, _, _, _, _, _, _ => none
  | n + 1, a29, a30, a31, a32, a33, v34 =>
  if (decide (v34 < (r27.length : Int))) = true then
    Option.bind (rd a31 v34) fun x36 =>
    Option.bind (spec_l1Has a31 x36) fun r37 =>
    if r37 = true then
      Option.bind (app a32 [x36]) fun l39 =>
      spec_l8Gate_l3 K0 p1 p2 p3 r4 v10 r27 n a29 a30 a31 l39 a33 (w64 (v34 + 1))
    else
      spec_l8Gate_l3 K0 p1 p2 p3 r4 v10 r27 n a29 a30 a31 a32 a33 (w64 (v34 + 1))
  else
    K0 a32 a29 a30 false a33 (w64 (v10 + 1))
theorem spec_l8Gate_l3_m {E : Env} (hP : E.P = Try.prog) (hn : E.n = 126) (hx : ∀ p, p ∈ E.fx → p.1 ∈ ([] : List Nat)) (p1 : (List GEvent)) (p2 : Int) (p3 : Int) (r4 : (List GUnder)) (v10 : Int) (r27 : (List Int)) {K0 : (List Int) → (List Int) → (List Int) → Bool → (List GUnder) → Int → Option ((List Int) × Bool × Bool)} (hK0 : ∀ (a5 : (List Int)) (a6 : (List Int)) (a7 : (List Int)) (v8 : Bool) (a9 : (List GUnder)) (v10 : Int) (r : ((List Int) × Bool × Bool)), K0 a5 a6 a7 v8 a9 v10 = some r → WAt E body63 (FQ (RetE Θ Try.f63.results.toList [] [] (AV.tup [(AV.own 3 1 (r.1.map o3)), (B r.2.1), (B r.2.2)]) E)) [true, true, true, true, false, true, false] ⟨[(0, (AV.ro 5 (p1.map o64))), (1, (I p2)), (2, (I p3)), (9, (AV.sl 1 0 (List.length (a5.map o3)))), (10, (AV.sl 2 0 (List.length (a6.map o3)))), (11, (AV.sl 3 0 (List.length (a7.map o3)))), (12, (B v8)), (21, (AV.sl 4 0 (List.length (a9.map o85)))), (22, (I (r4.length : Int))), (23, (I v10))], [(1, some ⟨3, 1, (a5.map o3)⟩), (2, some ⟨3, 1, (a6.map o3)⟩), (3, some ⟨3, 1, (a7.map o3)⟩), (4, some ⟨85, 4, (a9.map o85)⟩)], [1, 2, 3, 4, JJ]⟩) : ∀ (n : Nat) (a29 : (List Int)) (a30 : (List Int)) (a31 : (List Int)) (a32 : (List Int)) (a33 : (List GUnder)) (v34 : Int) (r : ((List Int) × Bool × Bool)), spec_l8Gate_l3 K0 p1 p2 p3 r4 v10 r27 n a29 a30 a31 a32 a33 v34 = some r → WAt E body63 (FQ (RetE Θ Try.f63.results.toList [] [] (AV.tup [(AV.own 3 1 (r.1.map o3)), (B r.2.1), (B r.2.2)]) E)) [true, true, true, true, false, true, false, false, true, true, false, false, true, true, true, true, true, true, true, false, true, false] ⟨[(0, (AV.ro 5 (p1.map o64))), (1, (I p2)), (2, (I p3)), (10, (AV.sl 1 0 (List.length (a29.map o3)))), (11, (AV.sl 2 0 (List.length (a30.map o3)))), (12, (B false)), (15, (AV.sl 3 0 (List.length (a31.map o3)))), (16, (AV.sl 4 0 (List.length (a32.map o3)))), (21, (AV.sl 5 0 (List.length (a33.map o85)))), (22, (I (r4.length : Int))), (23, (I v10)), (73, (AV.sl 3 0 (List.length (a31.map o3)))), (74, (I (r27.length : Int))), (75, (I v34))], [(1, some ⟨3, 1, (a29.map o3)⟩), (2, some ⟨3, 1, (a30.map o3)⟩), (3, some ⟨3, 1, (a31.map o3)⟩), (4, some ⟨3, 1, (a32.map o3)⟩), (5, some ⟨85, 4, (a33.map o85)⟩)], [1, 2, 3, 4, 5, JJ]⟩ := by
  have hm : E.P.follows .mixedOrders = true := by rw [hP]; exact mixed
  have hΘ : TOK E.P Θ := by rw [hP]; exact Θ_ok
  intro n
  induction n with
  | zero => intro a29 a30 a31 a32 a33 v34 r h; simp only [spec_l8Gate_l3] at h; cases h
  | succ n ih =>
    intro a29 a30 a31 a32 a33 v34 r h
    simp only [spec_l8Gate_l3] at h
    rcases itS h with ⟨c35, h⟩ | ⟨c41, h⟩
    · obtain ⟨x36, hx36, h⟩ := bnS h
      obtain ⟨r37, hr37, h⟩ := bnS h
      rcases itS h with ⟨c38, h⟩ | ⟨c40, h⟩
      · obtain ⟨l39, hl39, h⟩ := bnS h
        exact go_to hΘ hm hx hP hn (hs := [⟨1, .br true, none⟩, ⟨3, .row [(I x36)], none⟩, ⟨7, .callV [(a31.map o3)] (B r37), none⟩, ⟨8, .br true, none⟩, ⟨11, .new 1001, none⟩, ⟨12, .app 1002 (l39.map o3), none⟩]) (π := [(1, 1), (2, 2), (3, 3), (1002, 4), (5, 5)]) (ts := [0, 1, 2, 10, 11, 12, 15, 16, 21, 22, 23, 73, 74, 75]) (kp := []) (ps := [(decide (v34 < (r27.length : Int))) = true, (0 : Int) ≤ v34, v34 < (((List.length (a31.map o3)) : Nat) : Int), (a31.map o3)[(Int.toNat v34)]? = some [(I x36)], Meets Try.prog 105 [(AV.ro 1 (a31.map o3)), (I x36)] (B r37), litA (B r37) = true, Frz (((a31.map o3).drop 0).take (List.length (a31.map o3))) (a31.map o3), r37 = true, (a32.map o3).take (List.length (a32.map o3)) ++ ((([x36].map o3).drop 0).take (List.length ([x36].map o3))) = (l39.map o3), ((([x36].map o3).drop 0).take (List.length ([x36].map o3))).all (fun r => r.all AV.plain) = true, (List.length (l39.map o3)) * 8 ≤ 140737488355328, (List.length (l39.map o3)) ≤ 140737488355328, RenOK [(1, 1), (2, 2), (3, 3), (1002, 4), (5, 5)] (a29.map o3), RenOK [(1, 1), (2, 2), (3, 3), (1002, 4), (5, 5)] (a30.map o3), RenOK [(1, 1), (2, 2), (3, 3), (1002, 4), (5, 5)] (a31.map o3), RenOK [(1, 1), (2, 2), (3, 3), (1002, 4), (5, 5)] (l39.map o3), RenOK [(1, 1), (2, 2), (3, 3), (1002, 4), (5, 5)] (a33.map o85)]) (by kernel_rfl) ⟨c35, (rd0 hx36), (rdL o3 hx36), (rdM o3 hx36), (spec_l1Has_m hr37), rfl, (frzF t3 z3), c38, (appTD o3 hl39), (plD pa3), (appB o3 hl39 (by decide)), (appC o3 hl39), (rok (treeM t3)), (rok (treeM t3)), (rok (treeM t3)), (rok (treeM t3)), (rok (treeM t85)), trivial⟩ (ih a29 a30 a31 l39 a33 (w64 (v34 + 1)) _ h)
      · exact go_to hΘ hm hx hP hn (hs := [⟨1, .br true, none⟩, ⟨3, .row [(I x36)], none⟩, ⟨7, .callV [(a31.map o3)] (B r37), none⟩, ⟨8, .br false, none⟩]) (π := [(1, 1), (2, 2), (3, 3), (4, 4), (5, 5)]) (ts := [0, 1, 2, 10, 11, 12, 15, 16, 21, 22, 23, 73, 74, 75]) (kp := []) (ps := [(decide (v34 < (r27.length : Int))) = true, (0 : Int) ≤ v34, v34 < (((List.length (a31.map o3)) : Nat) : Int), (a31.map o3)[(Int.toNat v34)]? = some [(I x36)], Meets Try.prog 105 [(AV.ro 1 (a31.map o3)), (I x36)] (B r37), litA (B r37) = true, Frz (((a31.map o3).drop 0).take (List.length (a31.map o3))) (a31.map o3), r37 = false, RenOK [(1, 1), (2, 2), (3, 3), (4, 4), (5, 5)] (a29.map o3), RenOK [(1, 1), (2, 2), (3, 3), (4, 4), (5, 5)] (a30.map o3), RenOK [(1, 1), (2, 2), (3, 3), (4, 4), (5, 5)] (a31.map o3), RenOK [(1, 1), (2, 2), (3, 3), (4, 4), (5, 5)] (a32.map o3), RenOK [(1, 1), (2, 2), (3, 3), (4, 4), (5, 5)] (a33.map o85)]) (by kernel_rfl) ⟨c35, (rd0 hx36), (rdL o3 hx36), (rdM o3 hx36), (spec_l1Has_m hr37), rfl, (frzF t3 z3), c40, (rok (treeM t3)), (rok (treeM t3)), (rok (treeM t3)), (rok (treeM t3)), (rok (treeM t85)), trivial⟩ (ih a29 a30 a31 a32 a33 (w64 (v34 + 1)) _ h)
    · exact go_to hΘ hm hx hP hn (hs := [⟨1, .br false, none⟩]) (π := [(4, 1), (1, 2), (2, 3), (5, 4)]) (ts := [0, 1, 2, 9, 10, 11, 12, 21, 22, 23]) (kp := []) (ps := [(decide (v34 < (r27.length : Int))) = false, RenOK [(4, 1), (1, 2), (2, 3), (5, 4)] (a32.map o3), RenOK [(4, 1), (1, 2), (2, 3), (5, 4)] (a29.map o3), RenOK [(4, 1), (1, 2), (2, 3), (5, 4)] (a30.map o3), RenOK [(4, 1), (1, 2), (2, 3), (5, 4)] (a33.map o85)]) (by kernel_rfl) ⟨c41, (rok (treeM t3)), (rok (treeM t3)), (rok (treeM t3)), (rok (treeM t85)), trivial⟩ (hK0 a32 a29 a30 false a33 (w64 (v10 + 1)) _ h)
noncomputable def spec_l8Gate_l4 (K0 : (List Int) → (List Int) → (List Int) → Bool → (List GUnder) → Int → Option ((List Int) × Bool × Bool)) (p1 : (List GEvent)) (p2 : Int) (p3 : Int) (r4 : (List GUnder)) (v10 : Int) (a20 : (List Int)) : Nat → (List Int) → (List Int) → (List Int) → (List Int) → (List GUnder) → (List Int) → Int → Option ((List Int) × Bool × Bool)
  | 0, _, _, _, _, _, _, _ => none
  | n + 1, a43, a44, a45, a46, a47, a48, v49 =>
  if (decide (v49 < (a20.length : Int))) = true then
    Option.bind (rd a48 v49) fun x51 =>
    Option.bind (spec_l1Has a45 x51) fun r52 =>
    if r52 = true then
      Option.bind (app a46 [x51]) fun l54 =>
      spec_l8Gate_l4 K0 p1 p2 p3 r4 v10 a20 n a43 a44 a45 l54 a47 a48 (w64 (v49 + 1))
    else
      spec_l8Gate_l4 K0 p1 p2 p3 r4 v10 a20 n a43 a44 a45 a46 a47 a48 (w64 (v49 + 1))
  else
    K0 a46 a43 a44 false a47 (w64 (v10 + 1))
theorem spec_l8Gate_l4_m {E : Env} (hP : E.P = Try.prog) (hn : E.n = 126) (hx : ∀ p, p ∈ E.fx → p.1 ∈ ([] : List Nat)) (p1 : (List GEvent)) (p2 : Int) (p3 : Int) (r4 : (List GUnder)) (v10 : Int) (a20 : (List Int)) {K0 : (List Int) → (List Int) → (List Int) → Bool → (List GUnder) → Int → Option ((List Int) × Bool × Bool)} (hK0 : ∀ (a5 : (List Int)) (a6 : (List Int)) (a7 : (List Int)) (v8 : Bool) (a9 : (List GUnder)) (v10 : Int) (r : ((List Int) × Bool × Bool)), K0 a5 a6 a7 v8 a9 v10 = some r → WAt E body63 (FQ (RetE Θ Try.f63.results.toList [] [] (AV.tup [(AV.own 3 1 (r.1.map o3)), (B r.2.1), (B r.2.2)]) E)) [true, true, true, true, false, true, false] ⟨[(0, (AV.ro 5 (p1.map o64))), (1, (I p2)), (2, (I p3)), (9, (AV.sl 1 0 (List.length (a5.map o3)))), (10, (AV.sl 2 0 (List.length (a6.map o3)))), (11, (AV.sl 3 0 (List.length (a7.map o3)))), (12, (B v8)), (21, (AV.sl 4 0 (List.length (a9.map o85)))), (22, (I (r4.length : Int))), (23, (I v10))], [(1, some ⟨3, 1, (a5.map o3)⟩), (2, some ⟨3, 1, (a6.map o3)⟩), (3, some ⟨3, 1, (a7.map o3)⟩), (4, some ⟨85, 4, (a9.map o85)⟩)], [1, 2, 3, 4, JJ]⟩) : ∀ (n : Nat) (a43 : (List Int)) (a44 : (List Int)) (a45 : (List Int)) (a46 : (List Int)) (a47 : (List GUnder)) (a48 : (List Int)) (v49 : Int) (r : ((List Int) × Bool × Bool)), spec_l8Gate_l4 K0 p1 p2 p3 r4 v10 a20 n a43 a44 a45 a46 a47 a48 v49 = some r → WAt E body63 (FQ (RetE Θ Try.f63.results.toList [] [] (AV.tup [(AV.own 3 1 (r.1.map o3)), (B r.2.1), (B r.2.2)]) E)) [true, true, true, true, false, true, false, false, true, true, false, false, true, true, true, true, true, true, true, false, true, false] ⟨[(0, (AV.ro 5 (p1.map o64))), (1, (I p2)), (2, (I p3)), (10, (AV.sl 1 0 (List.length (a43.map o3)))), (11, (AV.sl 2 0 (List.length (a44.map o3)))), (12, (B false)), (15, (AV.sl 3 0 (List.length (a45.map o3)))), (16, (AV.sl 4 0 (List.length (a46.map o3)))), (21, (AV.sl 5 0 (List.length (a47.map o85)))), (22, (I (r4.length : Int))), (23, (I v10)), (73, (AV.sl 6 0 (List.length (a48.map o3)))), (74, (I (a20.length : Int))), (75, (I v49))], [(1, some ⟨3, 1, (a43.map o3)⟩), (2, some ⟨3, 1, (a44.map o3)⟩), (3, some ⟨3, 1, (a45.map o3)⟩), (4, some ⟨3, 1, (a46.map o3)⟩), (5, some ⟨85, 4, (a47.map o85)⟩), (6, some ⟨3, 1, (a48.map o3)⟩)], [1, 2, 3, 4, 5, 6, JJ]⟩ := by
  have hm : E.P.follows .mixedOrders = true := by rw [hP]; exact mixed
  have hΘ : TOK E.P Θ := by rw [hP]; exact Θ_ok
  intro n
  induction n with
  | zero => intro a43 a44 a45 a46 a47 a48 v49 r h; simp only [spec_l8Gate_l4] at h; cases h
  | succ n ih =>
    intro a43 a44 a45 a46 a47 a48 v49 r h
    simp only [spec_l8Gate_l4] at h
    rcases itS h with ⟨c50, h⟩ | ⟨c56, h⟩
    · obtain ⟨x51, hx51, h⟩ := bnS h
      obtain ⟨r52, hr52, h⟩ := bnS h
      rcases itS h with ⟨c53, h⟩ | ⟨c55, h⟩
      · obtain ⟨l54, hl54, h⟩ := bnS h
        exact go_to hΘ hm hx hP hn (hs := [⟨1, .br true, none⟩, ⟨3, .row [(I x51)], none⟩, ⟨7, .callV [(a45.map o3)] (B r52), none⟩, ⟨8, .br true, none⟩, ⟨11, .new 1001, none⟩, ⟨12, .app 1002 (l54.map o3), none⟩]) (π := [(1, 1), (2, 2), (3, 3), (1002, 4), (5, 5), (6, 6)]) (ts := [0, 1, 2, 10, 11, 12, 15, 16, 21, 22, 23, 73, 74, 75]) (kp := []) (ps := [(decide (v49 < (a20.length : Int))) = true, (0 : Int) ≤ v49, v49 < (((List.length (a48.map o3)) : Nat) : Int), (a48.map o3)[(Int.toNat v49)]? = some [(I x51)], Meets Try.prog 105 [(AV.ro 1 (a45.map o3)), (I x51)] (B r52), litA (B r52) = true, Frz (((a45.map o3).drop 0).take (List.length (a45.map o3))) (a45.map o3), r52 = true, (a46.map o3).take (List.length (a46.map o3)) ++ ((([x51].map o3).drop 0).take (List.length ([x51].map o3))) = (l54.map o3), ((([x51].map o3).drop 0).take (List.length ([x51].map o3))).all (fun r => r.all AV.plain) = true, (List.length (l54.map o3)) * 8 ≤ 140737488355328, (List.length (l54.map o3)) ≤ 140737488355328, RenOK [(1, 1), (2, 2), (3, 3), (1002, 4), (5, 5), (6, 6)] (a43.map o3), RenOK [(1, 1), (2, 2), (3, 3), (1002, 4), (5, 5), (6, 6)] (a44.map o3), RenOK [(1, 1), (2, 2), (3, 3), (1002, 4), (5, 5), (6, 6)] (a45.map o3), RenOK [(1, 1), (2, 2), (3, 3), (1002, 4), (5, 5), (6, 6)] (l54.map o3), RenOK [(1, 1), (2, 2), (3, 3), (1002, 4), (5, 5), (6, 6)] (a47.map o85), RenOK [(1, 1), (2, 2), (3, 3), (1002, 4), (5, 5), (6, 6)] (a48.map o3)]) (by kernel_rfl) ⟨c50, (rd0 hx51), (rdL o3 hx51), (rdM o3 hx51), (spec_l1Has_m hr52), rfl, (frzF t3 z3), c53, (appTD o3 hl54), (plD pa3), (appB o3 hl54 (by decide)), (appC o3 hl54), (rok (treeM t3)), (rok (treeM t3)), (rok (treeM t3)), (rok (treeM t3)), (rok (treeM t85)), (rok (treeM t3)), trivial⟩ (ih a43 a44 a45 l54 a47 a48 (w64 (v49 + 1)) _ h)
      · exact go_to hΘ hm hx hP hn (hs := [⟨1, .br true, none⟩, ⟨3, .row [(I x51)], none⟩, ⟨7, .callV [(a45.map o3)] (B r52), none⟩, ⟨8, .br false, none⟩]) (π := [(1, 1), (2, 2), (3, 3), (4, 4), (5, 5), (6, 6)]) (ts := [0, 1, 2, 10, 11, 12, 15, 16, 21, 22, 23, 73, 74, 75]) (kp := []) (ps := [(decide (v49 < (a20.length : Int))) = true, (0 : Int) ≤ v49, v49 < (((List.length (a48.map o3)) : Nat) : Int), (a48.map o3)[(Int.toNat v49)]? = some [(I x51)], Meets Try.prog 105 [(AV.ro 1 (a45.map o3)), (I x51)] (B r52), litA (B r52) = true, Frz (((a45.map o3).drop 0).take (List.length (a45.map o3))) (a45.map o3), r52 = false, RenOK [(1, 1), (2, 2), (3, 3), (4, 4), (5, 5), (6, 6)] (a43.map o3), RenOK [(1, 1), (2, 2), (3, 3), (4, 4), (5, 5), (6, 6)] (a44.map o3), RenOK [(1, 1), (2, 2), (3, 3), (4, 4), (5, 5), (6, 6)] (a45.map o3), RenOK [(1, 1), (2, 2), (3, 3), (4, 4), (5, 5), (6, 6)] (a46.map o3), RenOK [(1, 1), (2, 2), (3, 3), (4, 4), (5, 5), (6, 6)] (a47.map o85), RenOK [(1, 1), (2, 2), (3, 3), (4, 4), (5, 5), (6, 6)] (a48.map o3)]) (by kernel_rfl) ⟨c50, (rd0 hx51), (rdL o3 hx51), (rdM o3 hx51), (spec_l1Has_m hr52), rfl, (frzF t3 z3), c55, (rok (treeM t3)), (rok (treeM t3)), (rok (treeM t3)), (rok (treeM t3)), (rok (treeM t85)), (rok (treeM t3)), trivial⟩ (ih a43 a44 a45 a46 a47 a48 (w64 (v49 + 1)) _ h)
    · exact go_to hΘ hm hx hP hn (hs := [⟨1, .br false, none⟩]) (π := [(4, 1), (1, 2), (2, 3), (5, 4)]) (ts := [0, 1, 2, 9, 10, 11, 12, 21, 22, 23]) (kp := []) (ps := [(decide (v49 < (a20.length : Int))) = false, RenOK [(4, 1), (1, 2), (2, 3), (5, 4)] (a46.map o3), RenOK [(4, 1), (1, 2), (2, 3), (5, 4)] (a43.map o3), RenOK [(4, 1), (1, 2), (2, 3), (5, 4)] (a44.map o3), RenOK [(4, 1), (1, 2), (2, 3), (5, 4)] (a47.map o85)]) (by kernel_rfl) ⟨c56, (rok (treeM t3)), (rok (treeM t3)), (rok (treeM t3)), (rok (treeM t85)), trivial⟩ (hK0 a46 a43 a44 false a47 (w64 (v10 + 1)) _ h)
noncomputable def spec_l8Gate_j2 (K0 : (List Int) → (List Int) → (List Int) → Bool → (List GUnder) → Int → Option ((List Int) × Bool × Bool)) (p1 : (List GEvent)) (p2 : Int) (p3 : Int) (r4 : (List GUnder)) (v8 : Bool) (v10 : Int) (a20 : (List Int)) (a21 : (List Int)) (a22 : (List Int)) (a23 : GUnder) (a24 : (List GUnder)) : Option ((List Int) × Bool × Bool) :=
  Option.bind (spec_l8Before p1 a23.At) fun r25 =>
  Option.bind (spec_l7Drop r25 p2) fun r26 =>
  Option.bind (spec_l7Drop r26 p3) fun r27 =>
  if v8 = true then
    spec_l8Gate_l3 K0 p1 p2 p3 r4 v10 r27 FU a21 a22 r27 [] a24 0
  else
    spec_l8Gate_l4 K0 p1 p2 p3 r4 v10 a20 FU a21 a22 r27 [] a24 a20 0
theorem spec_l8Gate_j2_m {E : Env} (hP : E.P = Try.prog) (hn : E.n = 126) (hx : ∀ p, p ∈ E.fx → p.1 ∈ ([] : List Nat)) (p1 : (List GEvent)) (p2 : Int) (p3 : Int) (r4 : (List GUnder)) (v8 : Bool) (v10 : Int) {K0 : (List Int) → (List Int) → (List Int) → Bool → (List GUnder) → Int → Option ((List Int) × Bool × Bool)} (hK0 : ∀ (a5 : (List Int)) (a6 : (List Int)) (a7 : (List Int)) (v8 : Bool) (a9 : (List GUnder)) (v10 : Int) (r : ((List Int) × Bool × Bool)), K0 a5 a6 a7 v8 a9 v10 = some r → WAt E body63 (FQ (RetE Θ Try.f63.results.toList [] [] (AV.tup [(AV.own 3 1 (r.1.map o3)), (B r.2.1), (B r.2.2)]) E)) [true, true, true, true, false, true, false] ⟨[(0, (AV.ro 5 (p1.map o64))), (1, (I p2)), (2, (I p3)), (9, (AV.sl 1 0 (List.length (a5.map o3)))), (10, (AV.sl 2 0 (List.length (a6.map o3)))), (11, (AV.sl 3 0 (List.length (a7.map o3)))), (12, (B v8)), (21, (AV.sl 4 0 (List.length (a9.map o85)))), (22, (I (r4.length : Int))), (23, (I v10))], [(1, some ⟨3, 1, (a5.map o3)⟩), (2, some ⟨3, 1, (a6.map o3)⟩), (3, some ⟨3, 1, (a7.map o3)⟩), (4, some ⟨85, 4, (a9.map o85)⟩)], [1, 2, 3, 4, JJ]⟩) (a20 : (List Int)) (a21 : (List Int)) (a22 : (List Int)) (a23 : GUnder) (a24 : (List GUnder)) (r : ((List Int) × Bool × Bool)) (h : spec_l8Gate_j2 K0 p1 p2 p3 r4 v8 v10 a20 a21 a22 a23 a24 = some r) : WAt E body63 (FQ (RetE Θ Try.f63.results.toList [] [] (AV.tup [(AV.own 3 1 (r.1.map o3)), (B r.2.1), (B r.2.2)]) E)) [true, true, true, true, false, true, false, false, true, true, false, false, true, true, true] ⟨[(0, (AV.ro 5 (p1.map o64))), (1, (I p2)), (2, (I p3)), (9, (AV.sl 1 0 (List.length (a20.map o3)))), (10, (AV.sl 2 0 (List.length (a21.map o3)))), (11, (AV.sl 3 0 (List.length (a22.map o3)))), (12, (B v8)), (14, (AV.ptr 4 0 0)), (21, (AV.sl 5 0 (List.length (a24.map o85)))), (22, (I (r4.length : Int))), (23, (I v10))], [(1, some ⟨3, 1, (a20.map o3)⟩), (2, some ⟨3, 1, (a21.map o3)⟩), (3, some ⟨3, 1, (a22.map o3)⟩), (4, some ⟨85, 4, [((o85 a23))]⟩), (5, some ⟨85, 4, (a24.map o85)⟩)], [1, 2, 3, 4, 5, JJ]⟩ := by
  have hm : E.P.follows .mixedOrders = true := by rw [hP]; exact mixed
  have hΘ : TOK E.P Θ := by rw [hP]; exact Θ_ok
  unfold spec_l8Gate_j2 at h
  obtain ⟨r25, hr25, h⟩ := bnS h
  obtain ⟨r26, hr26, h⟩ := bnS h
  obtain ⟨r27, hr27, h⟩ := bnS h
  rcases itS h with ⟨c28, h⟩ | ⟨c42, h⟩
  · exact go_to hΘ hm hx hP hn (hs := [⟨3, .call [] (AV.own 3 1 (r25.map o3)) [1001], none⟩, ⟨5, .call [(r25.map o3)] (AV.own 3 1 (r26.map o3)) [1002], none⟩, ⟨7, .call [(r26.map o3)] (AV.own 3 1 (r27.map o3)) [1003], none⟩, ⟨10, .br true, none⟩, ⟨16, .no, some (I (r27.length : Int))⟩, ⟨18, .nil 16 1004 3 1, none⟩]) (π := [(2, 1), (3, 2), (1003, 3), (1004, 4), (5, 5)]) (ts := [0, 1, 2, 10, 11, 12, 15, 16, 21, 22, 23, 73, 74, 75]) (kp := []) (ps := [Meets Try.prog 104 [(AV.ro 5 (p1.map o64)), (I a23.At)] (AV.own 3 1 (r25.map o3)), noRo (AV.own 3 1 (r25.map o3)) = true, Meets Try.prog 103 [(AV.ro 1 (r25.map o3)), (I p2)] (AV.own 3 1 (r26.map o3)), noRo (AV.own 3 1 (r26.map o3)) = true, Frz (((r25.map o3).drop 0).take (List.length (r25.map o3))) (r25.map o3), Meets Try.prog 103 [(AV.ro 1 (r26.map o3)), (I p3)] (AV.own 3 1 (r27.map o3)), noRo (AV.own 3 1 (r27.map o3)) = true, Frz (((r26.map o3).drop 0).take (List.length (r26.map o3))) (r26.map o3), v8 = true, AV.lit (.int .i64 (((List.length (r27.map o3)) : Nat) : Int)) = (I (r27.length : Int)), RenOK [(2, 1), (3, 2), (1003, 3), (1004, 4), (5, 5)] (a21.map o3), RenOK [(2, 1), (3, 2), (1003, 3), (1004, 4), (5, 5)] (a22.map o3), RenOK [(2, 1), (3, 2), (1003, 3), (1004, 4), (5, 5)] (r27.map o3), RenOK [(2, 1), (3, 2), (1003, 3), (1004, 4), (5, 5)] ([].map o3), RenOK [(2, 1), (3, 2), (1003, 3), (1004, 4), (5, 5)] (a24.map o85)]) (by kernel_rfl) ⟨(spec_l8Before_m hr25), (by simp only [noRo, noRoL, noRoM n3, Bool.and_self]), (spec_l7Drop_m hr26), (by simp only [noRo, noRoL, noRoM n3, Bool.and_self]), (frzF t3 z3), (spec_l7Drop_m hr27), (by simp only [noRo, noRoL, noRoM n3, Bool.and_self]), (frzF t3 z3), c28, (lenM o3), (rok (treeM t3)), (rok (treeM t3)), (rok (treeM t3)), (rok (treeM t3)), (rok (treeM t85)), trivial⟩ (spec_l8Gate_l3_m hP hn hx p1 p2 p3 r4 v10 r27 hK0 FU a21 a22 r27 [] a24 0 _ h)
  · exact go_to hΘ hm hx hP hn (hs := [⟨3, .call [] (AV.own 3 1 (r25.map o3)) [1001], none⟩, ⟨5, .call [(r25.map o3)] (AV.own 3 1 (r26.map o3)) [1002], none⟩, ⟨7, .call [(r26.map o3)] (AV.own 3 1 (r27.map o3)) [1003], none⟩, ⟨10, .br false, none⟩, ⟨14, .no, some (I (a20.length : Int))⟩, ⟨16, .nil 16 1004 3 1, none⟩]) (π := [(2, 1), (3, 2), (1003, 3), (1004, 4), (5, 5), (1, 6)]) (ts := [0, 1, 2, 10, 11, 12, 15, 16, 21, 22, 23, 73, 74, 75]) (kp := []) (ps := [Meets Try.prog 104 [(AV.ro 5 (p1.map o64)), (I a23.At)] (AV.own 3 1 (r25.map o3)), noRo (AV.own 3 1 (r25.map o3)) = true, Meets Try.prog 103 [(AV.ro 1 (r25.map o3)), (I p2)] (AV.own 3 1 (r26.map o3)), noRo (AV.own 3 1 (r26.map o3)) = true, Frz (((r25.map o3).drop 0).take (List.length (r25.map o3))) (r25.map o3), Meets Try.prog 103 [(AV.ro 1 (r26.map o3)), (I p3)] (AV.own 3 1 (r27.map o3)), noRo (AV.own 3 1 (r27.map o3)) = true, Frz (((r26.map o3).drop 0).take (List.length (r26.map o3))) (r26.map o3), v8 = false, AV.lit (.int .i64 (((List.length (a20.map o3)) : Nat) : Int)) = (I (a20.length : Int)), RenOK [(2, 1), (3, 2), (1003, 3), (1004, 4), (5, 5), (1, 6)] (a21.map o3), RenOK [(2, 1), (3, 2), (1003, 3), (1004, 4), (5, 5), (1, 6)] (a22.map o3), RenOK [(2, 1), (3, 2), (1003, 3), (1004, 4), (5, 5), (1, 6)] (r27.map o3), RenOK [(2, 1), (3, 2), (1003, 3), (1004, 4), (5, 5), (1, 6)] ([].map o3), RenOK [(2, 1), (3, 2), (1003, 3), (1004, 4), (5, 5), (1, 6)] (a24.map o85), RenOK [(2, 1), (3, 2), (1003, 3), (1004, 4), (5, 5), (1, 6)] (a20.map o3)]) (by kernel_rfl) ⟨(spec_l8Before_m hr25), (by simp only [noRo, noRoL, noRoM n3, Bool.and_self]), (spec_l7Drop_m hr26), (by simp only [noRo, noRoL, noRoM n3, Bool.and_self]), (frzF t3 z3), (spec_l7Drop_m hr27), (by simp only [noRo, noRoL, noRoM n3, Bool.and_self]), (frzF t3 z3), c42, (lenM o3), (rok (treeM t3)), (rok (treeM t3)), (rok (treeM t3)), (rok (treeM t3)), (rok (treeM t85)), (rok (treeM t3)), trivial⟩ (spec_l8Gate_l4_m hP hn hx p1 p2 p3 r4 v10 a20 hK0 FU a21 a22 r27 [] a24 a20 0 _ h)
noncomputable def spec_l8Gate_j1 (K0 : (List Int) → (List Int) → (List Int) → Bool → (List GUnder) → Int → Option ((List Int) × Bool × Bool)) (p1 : (List GEvent)) (p2 : Int) (p3 : Int) (r4 : (List GUnder)) (a5 : (List Int)) (a6 : (List Int)) (a7 : (List Int)) (v8 : Bool) (a9 : (List GUnder)) (v10 : Int) (x12 : GUnder)  : Option ((List Int) × Bool × Bool) :=
  if (x12.Had == p2) = true then
    Option.bind (spec_l1Put a6 x12.Thread) fun r19 =>
    spec_l8Gate_j2 K0 p1 p2 p3 r4 v8 v10 a5 r19 a7 x12 a9
  else
    Option.bind (spec_l1Put a7 x12.Thread) fun r59 =>
    spec_l8Gate_j2 K0 p1 p2 p3 r4 v8 v10 a5 a6 r59 x12 a9
theorem spec_l8Gate_j1_m {E : Env} (hP : E.P = Try.prog) (hn : E.n = 126) (hx : ∀ p, p ∈ E.fx → p.1 ∈ ([] : List Nat)) (p1 : (List GEvent)) (p2 : Int) (p3 : Int) (r4 : (List GUnder)) (a5 : (List Int)) (a6 : (List Int)) (a7 : (List Int)) (v8 : Bool) (a9 : (List GUnder)) (v10 : Int) (x12 : GUnder) {K0 : (List Int) → (List Int) → (List Int) → Bool → (List GUnder) → Int → Option ((List Int) × Bool × Bool)} (hK0 : ∀ (a5 : (List Int)) (a6 : (List Int)) (a7 : (List Int)) (v8 : Bool) (a9 : (List GUnder)) (v10 : Int) (r : ((List Int) × Bool × Bool)), K0 a5 a6 a7 v8 a9 v10 = some r → WAt E body63 (FQ (RetE Θ Try.f63.results.toList [] [] (AV.tup [(AV.own 3 1 (r.1.map o3)), (B r.2.1), (B r.2.2)]) E)) [true, true, true, true, false, true, false] ⟨[(0, (AV.ro 5 (p1.map o64))), (1, (I p2)), (2, (I p3)), (9, (AV.sl 1 0 (List.length (a5.map o3)))), (10, (AV.sl 2 0 (List.length (a6.map o3)))), (11, (AV.sl 3 0 (List.length (a7.map o3)))), (12, (B v8)), (21, (AV.sl 4 0 (List.length (a9.map o85)))), (22, (I (r4.length : Int))), (23, (I v10))], [(1, some ⟨3, 1, (a5.map o3)⟩), (2, some ⟨3, 1, (a6.map o3)⟩), (3, some ⟨3, 1, (a7.map o3)⟩), (4, some ⟨85, 4, (a9.map o85)⟩)], [1, 2, 3, 4, JJ]⟩)  (r : ((List Int) × Bool × Bool)) (h : spec_l8Gate_j1 K0 p1 p2 p3 r4 a5 a6 a7 v8 a9 v10 x12  = some r) : WAt E body63 (FQ (RetE Θ Try.f63.results.toList [] [] (AV.tup [(AV.own 3 1 (r.1.map o3)), (B r.2.1), (B r.2.2)]) E)) [true, true, true, true, false, true, false, false, true, true, false, false, true, false, true, true] ⟨[(0, (AV.ro 5 (p1.map o64))), (1, (I p2)), (2, (I p3)), (9, (AV.sl 1 0 (List.length (a5.map o3)))), (10, (AV.sl 2 0 (List.length (a6.map o3)))), (11, (AV.sl 3 0 (List.length (a7.map o3)))), (12, (B v8)), (14, (AV.ptr 4 0 0)), (21, (AV.sl 5 0 (List.length (a9.map o85)))), (22, (I (r4.length : Int))), (23, (I v10))], [(1, some ⟨3, 1, (a5.map o3)⟩), (2, some ⟨3, 1, (a6.map o3)⟩), (3, some ⟨3, 1, (a7.map o3)⟩), (4, some ⟨85, 4, [((o85 x12))]⟩), (5, some ⟨85, 4, (a9.map o85)⟩)], [1, 2, 3, 4, 5, JJ]⟩ := by
  have hm : E.P.follows .mixedOrders = true := by rw [hP]; exact mixed
  have hΘ : TOK E.P Θ := by rw [hP]; exact Θ_ok
  unfold spec_l8Gate_j1 at h
  rcases itS h with ⟨c18, h⟩ | ⟨c57, h⟩
  · obtain ⟨r19, hr19, h⟩ := bnS h
    exact go_to hΘ hm hx hP hn (hs := [⟨4, .br true, none⟩, ⟨8, .callX [2] [false] [⟨3, 1, (a6.map o3)⟩] [⟨3, 1, (a6.map o3)⟩] [] (AV.own 3 1 (r19.map o3)) [1001] (AV.sl 1001 0 (List.length (r19.map o3))) [(1001, ⟨3, 1, (r19.map o3)⟩)], none⟩]) (π := [(1, 1), (1001, 2), (3, 3), (4, 4), (5, 5)]) (ts := [0, 1, 2, 9, 10, 11, 12, 14, 21, 22, 23]) (kp := []) (ps := [(x12.Had == p2) = true, MeetsR Try.prog 45 [⟨3, 1, (a6.map o3)⟩] [(AV.sl 0 0 (List.length (a6.map o3))), (I x12.Thread)] [false] [⟨3, 1, (a6.map o3)⟩] (AV.own 3 1 (r19.map o3)), (some (Root.mk 3 1 (a6.map o3)) = some (Root.mk 3 1 (a6.map o3))) ∧ True, (treeLL (a6.map o3) = true ∧ noRoLL (a6.map o3) = true) ∧ True, ((a6.map o3).length = (a6.map o3).length) ∧ True, (rtf (renA [] (AV.own 3 1 (r19.map o3))) [1001]).1 = (AV.sl 1001 0 (List.length (r19.map o3))), (rtf (renA [] (AV.own 3 1 (r19.map o3))) [1001]).2.1 = [(1001, ⟨3, 1, (r19.map o3)⟩)], RenOK [(1, 1), (1001, 2), (3, 3), (4, 4), (5, 5)] (a5.map o3), RenOK [(1, 1), (1001, 2), (3, 3), (4, 4), (5, 5)] (r19.map o3), RenOK [(1, 1), (1001, 2), (3, 3), (4, 4), (5, 5)] (a7.map o3), RenOK [(1, 1), (1001, 2), (3, 3), (4, 4), (5, 5)] [((o85 x12))], RenOK [(1, 1), (1001, 2), (3, 3), (4, 4), (5, 5)] (a9.map o85)]) (by kernel_rfl) ⟨c18, (spec_l1Put_m hr19), ⟨rfl, trivial⟩, ⟨⟨treeM t3, noRoM n3⟩, trivial⟩, ⟨rfl, trivial⟩, rfl, rfl, (rok (treeM t3)), (rok (treeM t3)), (rok (treeM t3)), (rok rfl), (rok (treeM t85)), trivial⟩ (spec_l8Gate_j2_m hP hn hx p1 p2 p3 r4 v8 v10 hK0 a5 r19 a7 x12 a9 _ h)
  · obtain ⟨r59, hr59, h⟩ := bnS h
    exact go_to hΘ hm hx hP hn (hs := [⟨4, .br false, none⟩, ⟨8, .callX [3] [false] [⟨3, 1, (a7.map o3)⟩] [⟨3, 1, (a7.map o3)⟩] [] (AV.own 3 1 (r59.map o3)) [1003] (AV.sl 1003 0 (List.length (r59.map o3))) [(1003, ⟨3, 1, (r59.map o3)⟩)], none⟩]) (π := [(1, 1), (2, 2), (1003, 3), (4, 4), (5, 5)]) (ts := [0, 1, 2, 9, 10, 11, 12, 14, 21, 22, 23]) (kp := []) (ps := [(x12.Had == p2) = false, MeetsR Try.prog 45 [⟨3, 1, (a7.map o3)⟩] [(AV.sl 0 0 (List.length (a7.map o3))), (I x12.Thread)] [false] [⟨3, 1, (a7.map o3)⟩] (AV.own 3 1 (r59.map o3)), (some (Root.mk 3 1 (a7.map o3)) = some (Root.mk 3 1 (a7.map o3))) ∧ True, (treeLL (a7.map o3) = true ∧ noRoLL (a7.map o3) = true) ∧ True, ((a7.map o3).length = (a7.map o3).length) ∧ True, (rtf (renA [] (AV.own 3 1 (r59.map o3))) [1003]).1 = (AV.sl 1003 0 (List.length (r59.map o3))), (rtf (renA [] (AV.own 3 1 (r59.map o3))) [1003]).2.1 = [(1003, ⟨3, 1, (r59.map o3)⟩)], RenOK [(1, 1), (2, 2), (1003, 3), (4, 4), (5, 5)] (a5.map o3), RenOK [(1, 1), (2, 2), (1003, 3), (4, 4), (5, 5)] (a6.map o3), RenOK [(1, 1), (2, 2), (1003, 3), (4, 4), (5, 5)] (r59.map o3), RenOK [(1, 1), (2, 2), (1003, 3), (4, 4), (5, 5)] [((o85 x12))], RenOK [(1, 1), (2, 2), (1003, 3), (4, 4), (5, 5)] (a9.map o85)]) (by kernel_rfl) ⟨c57, (spec_l1Put_m hr59), ⟨rfl, trivial⟩, ⟨⟨treeM t3, noRoM n3⟩, trivial⟩, ⟨rfl, trivial⟩, rfl, rfl, (rok (treeM t3)), (rok (treeM t3)), (rok (treeM t3)), (rok rfl), (rok (treeM t85)), trivial⟩ (spec_l8Gate_j2_m hP hn hx p1 p2 p3 r4 v8 v10 hK0 a5 a6 r59 x12 a9 _ h)
noncomputable def spec_l8Gate_l0  (p1 : (List GEvent)) (p2 : Int) (p3 : Int) (r4 : (List GUnder)) : Nat → (List Int) → (List Int) → (List Int) → Bool → (List GUnder) → Int → Option ((List Int) × Bool × Bool)
  | 0, _, _, _, _, _, _ => none
  | n + 1, a5, a6, a7, v8, a9, v10 =>
  if (decide (v10 < (r4.length : Int))) = true then
    Option.bind (rd a9 v10) fun x12 =>
    if (x12.Had == p2) = true then
      if (!(x12.Taken == p3)) = true then
        if (x12.Had == p3) = true then
          if (!(x12.Taken == p2)) = true then
            spec_l8Gate_l0 p1 p2 p3 r4 n a5 a6 a7 v8 a9 (w64 (v10 + 1))
          else
            spec_l8Gate_j1 (spec_l8Gate_l0 p1 p2 p3 r4 n) p1 p2 p3 r4 a5 a6 a7 v8 a9 v10 x12
        else
          spec_l8Gate_l0 p1 p2 p3 r4 n a5 a6 a7 v8 a9 (w64 (v10 + 1))
      else
        spec_l8Gate_j1 (spec_l8Gate_l0 p1 p2 p3 r4 n) p1 p2 p3 r4 a5 a6 a7 v8 a9 v10 x12
    else
      if (x12.Had == p3) = true then
        if (!(x12.Taken == p2)) = true then
          spec_l8Gate_l0 p1 p2 p3 r4 n a5 a6 a7 v8 a9 (w64 (v10 + 1))
        else
          spec_l8Gate_j1 (spec_l8Gate_l0 p1 p2 p3 r4 n) p1 p2 p3 r4 a5 a6 a7 v8 a9 v10 x12
      else
        spec_l8Gate_l0 p1 p2 p3 r4 n a5 a6 a7 v8 a9 (w64 (v10 + 1))
  else
    if (decide ((a6.length : Int) > 1)) = true then
      if (decide ((a6.length : Int) > 0)) = true then
        some (a5, (decide ((a7.length : Int) > 0)), true)
      else
        some (a5, false, true)
    else
      if (decide ((a7.length : Int) > 1)) = true then
        if (decide ((a6.length : Int) > 0)) = true then
          some (a5, (decide ((a7.length : Int) > 0)), true)
        else
          some (a5, false, true)
      else
        if (decide ((a6.length : Int) > 0)) = true then
          if (decide ((a7.length : Int) > 0)) = true then
            Option.bind (rd a6 0) fun x78 =>
            Option.bind (rd a7 0) fun x79 =>
            if (decide ((a6.length : Int) > 0)) = true then
              some (a5, (decide ((a7.length : Int) > 0)), (x78 != x79))
            else
              some (a5, false, (x78 != x79))
          else
            if (decide ((a6.length : Int) > 0)) = true then
              some (a5, (decide ((a7.length : Int) > 0)), false)
            else
              some (a5, false, false)
        else
          if (decide ((a6.length : Int) > 0)) = true then
            some (a5, (decide ((a7.length : Int) > 0)), false)
          else
            some (a5, false, false)
theorem spec_l8Gate_l0_m {E : Env} (hP : E.P = Try.prog) (hn : E.n = 126) (hx : ∀ p, p ∈ E.fx → p.1 ∈ ([] : List Nat)) (p1 : (List GEvent)) (p2 : Int) (p3 : Int) (r4 : (List GUnder))  : ∀ (n : Nat) (a5 : (List Int)) (a6 : (List Int)) (a7 : (List Int)) (v8 : Bool) (a9 : (List GUnder)) (v10 : Int) (r : ((List Int) × Bool × Bool)), spec_l8Gate_l0 p1 p2 p3 r4 n a5 a6 a7 v8 a9 v10 = some r → WAt E body63 (FQ (RetE Θ Try.f63.results.toList [] [] (AV.tup [(AV.own 3 1 (r.1.map o3)), (B r.2.1), (B r.2.2)]) E)) [true, true, true, true, false, true, false] ⟨[(0, (AV.ro 5 (p1.map o64))), (1, (I p2)), (2, (I p3)), (9, (AV.sl 1 0 (List.length (a5.map o3)))), (10, (AV.sl 2 0 (List.length (a6.map o3)))), (11, (AV.sl 3 0 (List.length (a7.map o3)))), (12, (B v8)), (21, (AV.sl 4 0 (List.length (a9.map o85)))), (22, (I (r4.length : Int))), (23, (I v10))], [(1, some ⟨3, 1, (a5.map o3)⟩), (2, some ⟨3, 1, (a6.map o3)⟩), (3, some ⟨3, 1, (a7.map o3)⟩), (4, some ⟨85, 4, (a9.map o85)⟩)], [1, 2, 3, 4, JJ]⟩ := by
  have hm : E.P.follows .mixedOrders = true := by rw [hP]; exact mixed
  have hΘ : TOK E.P Θ := by rw [hP]; exact Θ_ok
  intro n
  induction n with
  | zero => intro a5 a6 a7 v8 a9 v10 r h; simp only [spec_l8Gate_l0] at h; cases h
  | succ n ih =>
    intro a5 a6 a7 v8 a9 v10 r h
    simp only [spec_l8Gate_l0] at h
    rcases itS h with ⟨c11, h⟩ | ⟨c67, h⟩
    · obtain ⟨x12, hx12, h⟩ := bnS h
      rcases itS h with ⟨c13, h⟩ | ⟨c62, h⟩
      · rcases itS h with ⟨c14, h⟩ | ⟨c61, h⟩
        · rcases itS h with ⟨c15, h⟩ | ⟨c60, h⟩
          · rcases itS h with ⟨c16, h⟩ | ⟨c17, h⟩
            · exact go_to hΘ hm hx hP hn (hs := [⟨1, .br true, none⟩, ⟨3, .row ((o85 x12)), none⟩, ⟨4, .new 1001, none⟩, ⟨10, .no, some (B true)⟩, ⟨17, .no, some (B true)⟩, ⟨22, .no, some (B true)⟩, ⟨30, .br true, none⟩]) (π := [(1, 1), (2, 2), (3, 3), (4, 4)]) (ts := [0, 1, 2, 9, 10, 11, 12, 21, 22, 23]) (kp := []) (ps := [(decide (v10 < (r4.length : Int))) = true, (0 : Int) ≤ v10, v10 < (((List.length (a9.map o85)) : Nat) : Int), (a9.map o85)[(Int.toNat v10)]? = some ((o85 x12)), (B (x12.Had == p2)) = (B true), (B (!(x12.Taken == p3))) = (B true), (B (x12.Had == p3)) = (B true), (!(x12.Taken == p2)) = true, RenOK [(1, 1), (2, 2), (3, 3), (4, 4)] (a5.map o3), RenOK [(1, 1), (2, 2), (3, 3), (4, 4)] (a6.map o3), RenOK [(1, 1), (2, 2), (3, 3), (4, 4)] (a7.map o3), RenOK [(1, 1), (2, 2), (3, 3), (4, 4)] (a9.map o85)]) (by kernel_rfl) ⟨c11, (rd0 hx12), (rdL o85 hx12), (rdM o85 hx12), (litB c13), (litB c14), (litB c15), c16, (rok (treeM t3)), (rok (treeM t3)), (rok (treeM t3)), (rok (treeM t85)), trivial⟩ (ih a5 a6 a7 v8 a9 (w64 (v10 + 1)) _ h)
            · exact go_to hΘ hm hx hP hn (hs := [⟨1, .br true, none⟩, ⟨3, .row ((o85 x12)), none⟩, ⟨4, .new 1001, none⟩, ⟨10, .no, some (B true)⟩, ⟨17, .no, some (B true)⟩, ⟨22, .no, some (B true)⟩, ⟨30, .br false, none⟩]) (π := [(1, 1), (2, 2), (3, 3), (1001, 4), (4, 5)]) (ts := [0, 1, 2, 9, 10, 11, 12, 14, 21, 22, 23]) (kp := []) (ps := [(decide (v10 < (r4.length : Int))) = true, (0 : Int) ≤ v10, v10 < (((List.length (a9.map o85)) : Nat) : Int), (a9.map o85)[(Int.toNat v10)]? = some ((o85 x12)), (B (x12.Had == p2)) = (B true), (B (!(x12.Taken == p3))) = (B true), (B (x12.Had == p3)) = (B true), (!(x12.Taken == p2)) = false, RenOK [(1, 1), (2, 2), (3, 3), (1001, 4), (4, 5)] (a5.map o3), RenOK [(1, 1), (2, 2), (3, 3), (1001, 4), (4, 5)] (a6.map o3), RenOK [(1, 1), (2, 2), (3, 3), (1001, 4), (4, 5)] (a7.map o3), RenOK [(1, 1), (2, 2), (3, 3), (1001, 4), (4, 5)] [((o85 x12))], RenOK [(1, 1), (2, 2), (3, 3), (1001, 4), (4, 5)] (a9.map o85)]) (by kernel_rfl) ⟨c11, (rd0 hx12), (rdL o85 hx12), (rdM o85 hx12), (litB c13), (litB c14), (litB c15), c17, (rok (treeM t3)), (rok (treeM t3)), (rok (treeM t3)), (rok rfl), (rok (treeM t85)), trivial⟩ (spec_l8Gate_j1_m hP hn hx p1 p2 p3 r4 a5 a6 a7 v8 a9 v10 x12 ih  _ h)
          · exact go_to hΘ hm hx hP hn (hs := [⟨1, .br true, none⟩, ⟨3, .row ((o85 x12)), none⟩, ⟨4, .new 1001, none⟩, ⟨10, .no, some (B true)⟩, ⟨17, .no, some (B true)⟩, ⟨22, .no, some (B false)⟩]) (π := [(1, 1), (2, 2), (3, 3), (4, 4)]) (ts := [0, 1, 2, 9, 10, 11, 12, 21, 22, 23]) (kp := []) (ps := [(decide (v10 < (r4.length : Int))) = true, (0 : Int) ≤ v10, v10 < (((List.length (a9.map o85)) : Nat) : Int), (a9.map o85)[(Int.toNat v10)]? = some ((o85 x12)), (B (x12.Had == p2)) = (B true), (B (!(x12.Taken == p3))) = (B true), (B (x12.Had == p3)) = (B false), RenOK [(1, 1), (2, 2), (3, 3), (4, 4)] (a5.map o3), RenOK [(1, 1), (2, 2), (3, 3), (4, 4)] (a6.map o3), RenOK [(1, 1), (2, 2), (3, 3), (4, 4)] (a7.map o3), RenOK [(1, 1), (2, 2), (3, 3), (4, 4)] (a9.map o85)]) (by kernel_rfl) ⟨c11, (rd0 hx12), (rdL o85 hx12), (rdM o85 hx12), (litB c13), (litB c14), (litB c60), (rok (treeM t3)), (rok (treeM t3)), (rok (treeM t3)), (rok (treeM t85)), trivial⟩ (ih a5 a6 a7 v8 a9 (w64 (v10 + 1)) _ h)
        · exact go_to hΘ hm hx hP hn (hs := [⟨1, .br true, none⟩, ⟨3, .row ((o85 x12)), none⟩, ⟨4, .new 1001, none⟩, ⟨10, .no, some (B true)⟩, ⟨17, .no, some (B false)⟩]) (π := [(1, 1), (2, 2), (3, 3), (1001, 4), (4, 5)]) (ts := [0, 1, 2, 9, 10, 11, 12, 14, 21, 22, 23]) (kp := []) (ps := [(decide (v10 < (r4.length : Int))) = true, (0 : Int) ≤ v10, v10 < (((List.length (a9.map o85)) : Nat) : Int), (a9.map o85)[(Int.toNat v10)]? = some ((o85 x12)), (B (x12.Had == p2)) = (B true), (B (!(x12.Taken == p3))) = (B false), RenOK [(1, 1), (2, 2), (3, 3), (1001, 4), (4, 5)] (a5.map o3), RenOK [(1, 1), (2, 2), (3, 3), (1001, 4), (4, 5)] (a6.map o3), RenOK [(1, 1), (2, 2), (3, 3), (1001, 4), (4, 5)] (a7.map o3), RenOK [(1, 1), (2, 2), (3, 3), (1001, 4), (4, 5)] [((o85 x12))], RenOK [(1, 1), (2, 2), (3, 3), (1001, 4), (4, 5)] (a9.map o85)]) (by kernel_rfl) ⟨c11, (rd0 hx12), (rdL o85 hx12), (rdM o85 hx12), (litB c13), (litB c61), (rok (treeM t3)), (rok (treeM t3)), (rok (treeM t3)), (rok rfl), (rok (treeM t85)), trivial⟩ (spec_l8Gate_j1_m hP hn hx p1 p2 p3 r4 a5 a6 a7 v8 a9 v10 x12 ih  _ h)
      · rcases itS h with ⟨c63, h⟩ | ⟨c66, h⟩
        · rcases itS h with ⟨c64, h⟩ | ⟨c65, h⟩
          · exact go_to hΘ hm hx hP hn (hs := [⟨1, .br true, none⟩, ⟨3, .row ((o85 x12)), none⟩, ⟨4, .new 1001, none⟩, ⟨10, .no, some (B false)⟩, ⟨22, .no, some (B true)⟩, ⟨30, .br true, none⟩]) (π := [(1, 1), (2, 2), (3, 3), (4, 4)]) (ts := [0, 1, 2, 9, 10, 11, 12, 21, 22, 23]) (kp := []) (ps := [(decide (v10 < (r4.length : Int))) = true, (0 : Int) ≤ v10, v10 < (((List.length (a9.map o85)) : Nat) : Int), (a9.map o85)[(Int.toNat v10)]? = some ((o85 x12)), (B (x12.Had == p2)) = (B false), (B (x12.Had == p3)) = (B true), (!(x12.Taken == p2)) = true, RenOK [(1, 1), (2, 2), (3, 3), (4, 4)] (a5.map o3), RenOK [(1, 1), (2, 2), (3, 3), (4, 4)] (a6.map o3), RenOK [(1, 1), (2, 2), (3, 3), (4, 4)] (a7.map o3), RenOK [(1, 1), (2, 2), (3, 3), (4, 4)] (a9.map o85)]) (by kernel_rfl) ⟨c11, (rd0 hx12), (rdL o85 hx12), (rdM o85 hx12), (litB c62), (litB c63), c64, (rok (treeM t3)), (rok (treeM t3)), (rok (treeM t3)), (rok (treeM t85)), trivial⟩ (ih a5 a6 a7 v8 a9 (w64 (v10 + 1)) _ h)
          · exact go_to hΘ hm hx hP hn (hs := [⟨1, .br true, none⟩, ⟨3, .row ((o85 x12)), none⟩, ⟨4, .new 1001, none⟩, ⟨10, .no, some (B false)⟩, ⟨22, .no, some (B true)⟩, ⟨30, .br false, none⟩]) (π := [(1, 1), (2, 2), (3, 3), (1001, 4), (4, 5)]) (ts := [0, 1, 2, 9, 10, 11, 12, 14, 21, 22, 23]) (kp := []) (ps := [(decide (v10 < (r4.length : Int))) = true, (0 : Int) ≤ v10, v10 < (((List.length (a9.map o85)) : Nat) : Int), (a9.map o85)[(Int.toNat v10)]? = some ((o85 x12)), (B (x12.Had == p2)) = (B false), (B (x12.Had == p3)) = (B true), (!(x12.Taken == p2)) = false, RenOK [(1, 1), (2, 2), (3, 3), (1001, 4), (4, 5)] (a5.map o3), RenOK [(1, 1), (2, 2), (3, 3), (1001, 4), (4, 5)] (a6.map o3), RenOK [(1, 1), (2, 2), (3, 3), (1001, 4), (4, 5)] (a7.map o3), RenOK [(1, 1), (2, 2), (3, 3), (1001, 4), (4, 5)] [((o85 x12))], RenOK [(1, 1), (2, 2), (3, 3), (1001, 4), (4, 5)] (a9.map o85)]) (by kernel_rfl) ⟨c11, (rd0 hx12), (rdL o85 hx12), (rdM o85 hx12), (litB c62), (litB c63), c65, (rok (treeM t3)), (rok (treeM t3)), (rok (treeM t3)), (rok rfl), (rok (treeM t85)), trivial⟩ (spec_l8Gate_j1_m hP hn hx p1 p2 p3 r4 a5 a6 a7 v8 a9 v10 x12 ih  _ h)
        · exact go_to hΘ hm hx hP hn (hs := [⟨1, .br true, none⟩, ⟨3, .row ((o85 x12)), none⟩, ⟨4, .new 1001, none⟩, ⟨10, .no, some (B false)⟩, ⟨22, .no, some (B false)⟩]) (π := [(1, 1), (2, 2), (3, 3), (4, 4)]) (ts := [0, 1, 2, 9, 10, 11, 12, 21, 22, 23]) (kp := []) (ps := [(decide (v10 < (r4.length : Int))) = true, (0 : Int) ≤ v10, v10 < (((List.length (a9.map o85)) : Nat) : Int), (a9.map o85)[(Int.toNat v10)]? = some ((o85 x12)), (B (x12.Had == p2)) = (B false), (B (x12.Had == p3)) = (B false), RenOK [(1, 1), (2, 2), (3, 3), (4, 4)] (a5.map o3), RenOK [(1, 1), (2, 2), (3, 3), (4, 4)] (a6.map o3), RenOK [(1, 1), (2, 2), (3, 3), (4, 4)] (a7.map o3), RenOK [(1, 1), (2, 2), (3, 3), (4, 4)] (a9.map o85)]) (by kernel_rfl) ⟨c11, (rd0 hx12), (rdL o85 hx12), (rdM o85 hx12), (litB c62), (litB c66), (rok (treeM t3)), (rok (treeM t3)), (rok (treeM t3)), (rok (treeM t85)), trivial⟩ (ih a5 a6 a7 v8 a9 (w64 (v10 + 1)) _ h)
    · rcases itS h with ⟨c68, h⟩ | ⟨c71, h⟩
      · rcases itS h with ⟨c69, h⟩ | ⟨c70, h⟩
        · have h := Option.some.inj h
          subst h
          exact go_ret hΘ hm hP hn (hs := [⟨1, .br false, none⟩, ⟨3, .no, some (I (a6.length : Int))⟩, ⟨5, .no, some (B true)⟩, ⟨32, .no, some (I (a6.length : Int))⟩, ⟨34, .no, some (B true)⟩, ⟨36, .no, some (I (a7.length : Int))⟩]) (rh := []) (ph := .agg [.own, .raw, .raw]) (ps := [(decide (v10 < (r4.length : Int))) = false, AV.lit (.int .i64 (((List.length (a6.map o3)) : Nat) : Int)) = (I (a6.length : Int)), (B (decide ((a6.length : Int) > 1))) = (B true), AV.lit (.int .i64 (((List.length (a6.map o3)) : Nat) : Int)) = (I (a6.length : Int)), (B (decide ((a6.length : Int) > 0))) = (B true), AV.lit (.int .i64 (((List.length (a7.map o3)) : Nat) : Int)) = (I (a7.length : Int)), treeLL ((a5.map o3).take (List.length (a5.map o3))) = true, (a5.map o3).take (List.length (a5.map o3)) = (a5.map o3), noRoLL (a5.map o3) = true, (B (decide ((a7.length : Int) > 0))) = (B (decide ((a7.length : Int) > 0))), litA (B (decide ((a7.length : Int) > 0))) = true, (B true) = (B true), litA (B true) = true]) (by kernel_rfl) ⟨c67, (lenM o3), (litB c68), (lenM o3), (litB c69), (lenM o3), (treeT t3), takeM, (noRoM n3), rfl, rfl, rfl, rfl, trivial⟩
        · have h := Option.some.inj h
          subst h
          exact go_ret hΘ hm hP hn (hs := [⟨1, .br false, none⟩, ⟨3, .no, some (I (a6.length : Int))⟩, ⟨5, .no, some (B true)⟩, ⟨32, .no, some (I (a6.length : Int))⟩, ⟨34, .no, some (B false)⟩]) (rh := []) (ph := .agg [.own, .raw, .raw]) (ps := [(decide (v10 < (r4.length : Int))) = false, AV.lit (.int .i64 (((List.length (a6.map o3)) : Nat) : Int)) = (I (a6.length : Int)), (B (decide ((a6.length : Int) > 1))) = (B true), AV.lit (.int .i64 (((List.length (a6.map o3)) : Nat) : Int)) = (I (a6.length : Int)), (B (decide ((a6.length : Int) > 0))) = (B false), treeLL ((a5.map o3).take (List.length (a5.map o3))) = true, (a5.map o3).take (List.length (a5.map o3)) = (a5.map o3), noRoLL (a5.map o3) = true, (B false) = (B false), litA (B false) = true, (B true) = (B true), litA (B true) = true]) (by kernel_rfl) ⟨c67, (lenM o3), (litB c68), (lenM o3), (litB c70), (treeT t3), takeM, (noRoM n3), rfl, rfl, rfl, rfl, trivial⟩
      · rcases itS h with ⟨c72, h⟩ | ⟨c75, h⟩
        · rcases itS h with ⟨c73, h⟩ | ⟨c74, h⟩
          · have h := Option.some.inj h
            subst h
            exact go_ret hΘ hm hP hn (hs := [⟨1, .br false, none⟩, ⟨3, .no, some (I (a6.length : Int))⟩, ⟨5, .no, some (B false)⟩, ⟨7, .no, some (I (a7.length : Int))⟩, ⟨10, .no, some (B true)⟩, ⟨32, .no, some (I (a6.length : Int))⟩, ⟨34, .no, some (B true)⟩, ⟨36, .no, some (I (a7.length : Int))⟩]) (rh := []) (ph := .agg [.own, .raw, .raw]) (ps := [(decide (v10 < (r4.length : Int))) = false, AV.lit (.int .i64 (((List.length (a6.map o3)) : Nat) : Int)) = (I (a6.length : Int)), (B (decide ((a6.length : Int) > 1))) = (B false), AV.lit (.int .i64 (((List.length (a7.map o3)) : Nat) : Int)) = (I (a7.length : Int)), (B (decide ((a7.length : Int) > 1))) = (B true), AV.lit (.int .i64 (((List.length (a6.map o3)) : Nat) : Int)) = (I (a6.length : Int)), (B (decide ((a6.length : Int) > 0))) = (B true), AV.lit (.int .i64 (((List.length (a7.map o3)) : Nat) : Int)) = (I (a7.length : Int)), treeLL ((a5.map o3).take (List.length (a5.map o3))) = true, (a5.map o3).take (List.length (a5.map o3)) = (a5.map o3), noRoLL (a5.map o3) = true, (B (decide ((a7.length : Int) > 0))) = (B (decide ((a7.length : Int) > 0))), litA (B (decide ((a7.length : Int) > 0))) = true, (B true) = (B true), litA (B true) = true]) (by kernel_rfl) ⟨c67, (lenM o3), (litB c71), (lenM o3), (litB c72), (lenM o3), (litB c73), (lenM o3), (treeT t3), takeM, (noRoM n3), rfl, rfl, rfl, rfl, trivial⟩
          · have h := Option.some.inj h
            subst h
            exact go_ret hΘ hm hP hn (hs := [⟨1, .br false, none⟩, ⟨3, .no, some (I (a6.length : Int))⟩, ⟨5, .no, some (B false)⟩, ⟨7, .no, some (I (a7.length : Int))⟩, ⟨10, .no, some (B true)⟩, ⟨32, .no, some (I (a6.length : Int))⟩, ⟨34, .no, some (B false)⟩]) (rh := []) (ph := .agg [.own, .raw, .raw]) (ps := [(decide (v10 < (r4.length : Int))) = false, AV.lit (.int .i64 (((List.length (a6.map o3)) : Nat) : Int)) = (I (a6.length : Int)), (B (decide ((a6.length : Int) > 1))) = (B false), AV.lit (.int .i64 (((List.length (a7.map o3)) : Nat) : Int)) = (I (a7.length : Int)), (B (decide ((a7.length : Int) > 1))) = (B true), AV.lit (.int .i64 (((List.length (a6.map o3)) : Nat) : Int)) = (I (a6.length : Int)), (B (decide ((a6.length : Int) > 0))) = (B false), treeLL ((a5.map o3).take (List.length (a5.map o3))) = true, (a5.map o3).take (List.length (a5.map o3)) = (a5.map o3), noRoLL (a5.map o3) = true, (B false) = (B false), litA (B false) = true, (B true) = (B true), litA (B true) = true]) (by kernel_rfl) ⟨c67, (lenM o3), (litB c71), (lenM o3), (litB c72), (lenM o3), (litB c74), (treeT t3), takeM, (noRoM n3), rfl, rfl, rfl, rfl, trivial⟩
        · rcases itS h with ⟨c76, h⟩ | ⟨c85, h⟩
          · rcases itS h with ⟨c77, h⟩ | ⟨c82, h⟩
            · obtain ⟨x78, hx78, h⟩ := bnS h
              obtain ⟨x79, hx79, h⟩ := bnS h
              rcases itS h with ⟨c80, h⟩ | ⟨c81, h⟩
              · have h := Option.some.inj h
                subst h
                exact go_ret hΘ hm hP hn (hs := [⟨1, .br false, none⟩, ⟨3, .no, some (I (a6.length : Int))⟩, ⟨5, .no, some (B false)⟩, ⟨7, .no, some (I (a7.length : Int))⟩, ⟨10, .no, some (B false)⟩, ⟨12, .no, some (I (a6.length : Int))⟩, ⟨14, .no, some (B true)⟩, ⟨16, .no, some (I (a7.length : Int))⟩, ⟨19, .no, some (B true)⟩, ⟨22, .row [(I x78)], none⟩, ⟨25, .row [(I x79)], none⟩, ⟨32, .no, some (I (a6.length : Int))⟩, ⟨34, .no, some (B true)⟩, ⟨36, .no, some (I (a7.length : Int))⟩]) (rh := []) (ph := .agg [.own, .raw, .raw]) (ps := [(decide (v10 < (r4.length : Int))) = false, AV.lit (.int .i64 (((List.length (a6.map o3)) : Nat) : Int)) = (I (a6.length : Int)), (B (decide ((a6.length : Int) > 1))) = (B false), AV.lit (.int .i64 (((List.length (a7.map o3)) : Nat) : Int)) = (I (a7.length : Int)), (B (decide ((a7.length : Int) > 1))) = (B false), AV.lit (.int .i64 (((List.length (a6.map o3)) : Nat) : Int)) = (I (a6.length : Int)), (B (decide ((a6.length : Int) > 0))) = (B true), AV.lit (.int .i64 (((List.length (a7.map o3)) : Nat) : Int)) = (I (a7.length : Int)), (B (decide ((a7.length : Int) > 0))) = (B true), (0 : Int) ≤ 0, 0 < (((List.length (a6.map o3)) : Nat) : Int), (a6.map o3)[(Int.toNat 0)]? = some [(I x78)], (0 : Int) ≤ 0, 0 < (((List.length (a7.map o3)) : Nat) : Int), (a7.map o3)[(Int.toNat 0)]? = some [(I x79)], AV.lit (.int .i64 (((List.length (a6.map o3)) : Nat) : Int)) = (I (a6.length : Int)), (B (decide ((a6.length : Int) > 0))) = (B true), AV.lit (.int .i64 (((List.length (a7.map o3)) : Nat) : Int)) = (I (a7.length : Int)), treeLL ((a5.map o3).take (List.length (a5.map o3))) = true, (a5.map o3).take (List.length (a5.map o3)) = (a5.map o3), noRoLL (a5.map o3) = true, (B (decide ((a7.length : Int) > 0))) = (B (decide ((a7.length : Int) > 0))), litA (B (decide ((a7.length : Int) > 0))) = true, (B (x78 != x79)) = (B (x78 != x79)), litA (B (x78 != x79)) = true]) (by kernel_rfl) ⟨c67, (lenM o3), (litB c71), (lenM o3), (litB c75), (lenM o3), (litB c76), (lenM o3), (litB c77), (rd0 hx78), (rdL o3 hx78), (rdM o3 hx78), (rd0 hx79), (rdL o3 hx79), (rdM o3 hx79), (lenM o3), (litB c80), (lenM o3), (treeT t3), takeM, (noRoM n3), rfl, rfl, rfl, rfl, trivial⟩
              · have h := Option.some.inj h
                subst h
                exact go_ret hΘ hm hP hn (hs := [⟨1, .br false, none⟩, ⟨3, .no, some (I (a6.length : Int))⟩, ⟨5, .no, some (B false)⟩, ⟨7, .no, some (I (a7.length : Int))⟩, ⟨10, .no, some (B false)⟩, ⟨12, .no, some (I (a6.length : Int))⟩, ⟨14, .no, some (B true)⟩, ⟨16, .no, some (I (a7.length : Int))⟩, ⟨19, .no, some (B true)⟩, ⟨22, .row [(I x78)], none⟩, ⟨25, .row [(I x79)], none⟩, ⟨32, .no, some (I (a6.length : Int))⟩, ⟨34, .no, some (B false)⟩]) (rh := []) (ph := .agg [.own, .raw, .raw]) (ps := [(decide (v10 < (r4.length : Int))) = false, AV.lit (.int .i64 (((List.length (a6.map o3)) : Nat) : Int)) = (I (a6.length : Int)), (B (decide ((a6.length : Int) > 1))) = (B false), AV.lit (.int .i64 (((List.length (a7.map o3)) : Nat) : Int)) = (I (a7.length : Int)), (B (decide ((a7.length : Int) > 1))) = (B false), AV.lit (.int .i64 (((List.length (a6.map o3)) : Nat) : Int)) = (I (a6.length : Int)), (B (decide ((a6.length : Int) > 0))) = (B true), AV.lit (.int .i64 (((List.length (a7.map o3)) : Nat) : Int)) = (I (a7.length : Int)), (B (decide ((a7.length : Int) > 0))) = (B true), (0 : Int) ≤ 0, 0 < (((List.length (a6.map o3)) : Nat) : Int), (a6.map o3)[(Int.toNat 0)]? = some [(I x78)], (0 : Int) ≤ 0, 0 < (((List.length (a7.map o3)) : Nat) : Int), (a7.map o3)[(Int.toNat 0)]? = some [(I x79)], AV.lit (.int .i64 (((List.length (a6.map o3)) : Nat) : Int)) = (I (a6.length : Int)), (B (decide ((a6.length : Int) > 0))) = (B false), treeLL ((a5.map o3).take (List.length (a5.map o3))) = true, (a5.map o3).take (List.length (a5.map o3)) = (a5.map o3), noRoLL (a5.map o3) = true, (B false) = (B false), litA (B false) = true, (B (x78 != x79)) = (B (x78 != x79)), litA (B (x78 != x79)) = true]) (by kernel_rfl) ⟨c67, (lenM o3), (litB c71), (lenM o3), (litB c75), (lenM o3), (litB c76), (lenM o3), (litB c77), (rd0 hx78), (rdL o3 hx78), (rdM o3 hx78), (rd0 hx79), (rdL o3 hx79), (rdM o3 hx79), (lenM o3), (litB c81), (treeT t3), takeM, (noRoM n3), rfl, rfl, rfl, rfl, trivial⟩
            · rcases itS h with ⟨c83, h⟩ | ⟨c84, h⟩
              · have h := Option.some.inj h
                subst h
                exact go_ret hΘ hm hP hn (hs := [⟨1, .br false, none⟩, ⟨3, .no, some (I (a6.length : Int))⟩, ⟨5, .no, some (B false)⟩, ⟨7, .no, some (I (a7.length : Int))⟩, ⟨10, .no, some (B false)⟩, ⟨12, .no, some (I (a6.length : Int))⟩, ⟨14, .no, some (B true)⟩, ⟨16, .no, some (I (a7.length : Int))⟩, ⟨19, .no, some (B false)⟩, ⟨32, .no, some (I (a6.length : Int))⟩, ⟨34, .no, some (B true)⟩, ⟨36, .no, some (I (a7.length : Int))⟩]) (rh := []) (ph := .agg [.own, .raw, .raw]) (ps := [(decide (v10 < (r4.length : Int))) = false, AV.lit (.int .i64 (((List.length (a6.map o3)) : Nat) : Int)) = (I (a6.length : Int)), (B (decide ((a6.length : Int) > 1))) = (B false), AV.lit (.int .i64 (((List.length (a7.map o3)) : Nat) : Int)) = (I (a7.length : Int)), (B (decide ((a7.length : Int) > 1))) = (B false), AV.lit (.int .i64 (((List.length (a6.map o3)) : Nat) : Int)) = (I (a6.length : Int)), (B (decide ((a6.length : Int) > 0))) = (B true), AV.lit (.int .i64 (((List.length (a7.map o3)) : Nat) : Int)) = (I (a7.length : Int)), (B (decide ((a7.length : Int) > 0))) = (B false), AV.lit (.int .i64 (((List.length (a6.map o3)) : Nat) : Int)) = (I (a6.length : Int)), (B (decide ((a6.length : Int) > 0))) = (B true), AV.lit (.int .i64 (((List.length (a7.map o3)) : Nat) : Int)) = (I (a7.length : Int)), treeLL ((a5.map o3).take (List.length (a5.map o3))) = true, (a5.map o3).take (List.length (a5.map o3)) = (a5.map o3), noRoLL (a5.map o3) = true, (B (decide ((a7.length : Int) > 0))) = (B (decide ((a7.length : Int) > 0))), litA (B (decide ((a7.length : Int) > 0))) = true, (B false) = (B false), litA (B false) = true]) (by kernel_rfl) ⟨c67, (lenM o3), (litB c71), (lenM o3), (litB c75), (lenM o3), (litB c76), (lenM o3), (litB c82), (lenM o3), (litB c83), (lenM o3), (treeT t3), takeM, (noRoM n3), rfl, rfl, rfl, rfl, trivial⟩
              · have h := Option.some.inj h
                subst h
                exact go_ret hΘ hm hP hn (hs := [⟨1, .br false, none⟩, ⟨3, .no, some (I (a6.length : Int))⟩, ⟨5, .no, some (B false)⟩, ⟨7, .no, some (I (a7.length : Int))⟩, ⟨10, .no, some (B false)⟩, ⟨12, .no, some (I (a6.length : Int))⟩, ⟨14, .no, some (B true)⟩, ⟨16, .no, some (I (a7.length : Int))⟩, ⟨19, .no, some (B false)⟩, ⟨32, .no, some (I (a6.length : Int))⟩, ⟨34, .no, some (B false)⟩]) (rh := []) (ph := .agg [.own, .raw, .raw]) (ps := [(decide (v10 < (r4.length : Int))) = false, AV.lit (.int .i64 (((List.length (a6.map o3)) : Nat) : Int)) = (I (a6.length : Int)), (B (decide ((a6.length : Int) > 1))) = (B false), AV.lit (.int .i64 (((List.length (a7.map o3)) : Nat) : Int)) = (I (a7.length : Int)), (B (decide ((a7.length : Int) > 1))) = (B false), AV.lit (.int .i64 (((List.length (a6.map o3)) : Nat) : Int)) = (I (a6.length : Int)), (B (decide ((a6.length : Int) > 0))) = (B true), AV.lit (.int .i64 (((List.length (a7.map o3)) : Nat) : Int)) = (I (a7.length : Int)), (B (decide ((a7.length : Int) > 0))) = (B false), AV.lit (.int .i64 (((List.length (a6.map o3)) : Nat) : Int)) = (I (a6.length : Int)), (B (decide ((a6.length : Int) > 0))) = (B false), treeLL ((a5.map o3).take (List.length (a5.map o3))) = true, (a5.map o3).take (List.length (a5.map o3)) = (a5.map o3), noRoLL (a5.map o3) = true, (B false) = (B false), litA (B false) = true, (B false) = (B false), litA (B false) = true]) (by kernel_rfl) ⟨c67, (lenM o3), (litB c71), (lenM o3), (litB c75), (lenM o3), (litB c76), (lenM o3), (litB c82), (lenM o3), (litB c84), (treeT t3), takeM, (noRoM n3), rfl, rfl, rfl, rfl, trivial⟩
          · rcases itS h with ⟨c86, h⟩ | ⟨c87, h⟩
            · have h := Option.some.inj h
              subst h
              exact go_ret hΘ hm hP hn (hs := [⟨1, .br false, none⟩, ⟨3, .no, some (I (a6.length : Int))⟩, ⟨5, .no, some (B false)⟩, ⟨7, .no, some (I (a7.length : Int))⟩, ⟨10, .no, some (B false)⟩, ⟨12, .no, some (I (a6.length : Int))⟩, ⟨14, .no, some (B false)⟩, ⟨32, .no, some (I (a6.length : Int))⟩, ⟨34, .no, some (B true)⟩, ⟨36, .no, some (I (a7.length : Int))⟩]) (rh := []) (ph := .agg [.own, .raw, .raw]) (ps := [(decide (v10 < (r4.length : Int))) = false, AV.lit (.int .i64 (((List.length (a6.map o3)) : Nat) : Int)) = (I (a6.length : Int)), (B (decide ((a6.length : Int) > 1))) = (B false), AV.lit (.int .i64 (((List.length (a7.map o3)) : Nat) : Int)) = (I (a7.length : Int)), (B (decide ((a7.length : Int) > 1))) = (B false), AV.lit (.int .i64 (((List.length (a6.map o3)) : Nat) : Int)) = (I (a6.length : Int)), (B (decide ((a6.length : Int) > 0))) = (B false), AV.lit (.int .i64 (((List.length (a6.map o3)) : Nat) : Int)) = (I (a6.length : Int)), (B (decide ((a6.length : Int) > 0))) = (B true), AV.lit (.int .i64 (((List.length (a7.map o3)) : Nat) : Int)) = (I (a7.length : Int)), treeLL ((a5.map o3).take (List.length (a5.map o3))) = true, (a5.map o3).take (List.length (a5.map o3)) = (a5.map o3), noRoLL (a5.map o3) = true, (B (decide ((a7.length : Int) > 0))) = (B (decide ((a7.length : Int) > 0))), litA (B (decide ((a7.length : Int) > 0))) = true, (B false) = (B false), litA (B false) = true]) (by kernel_rfl) ⟨c67, (lenM o3), (litB c71), (lenM o3), (litB c75), (lenM o3), (litB c85), (lenM o3), (litB c86), (lenM o3), (treeT t3), takeM, (noRoM n3), rfl, rfl, rfl, rfl, trivial⟩
            · have h := Option.some.inj h
              subst h
              exact go_ret hΘ hm hP hn (hs := [⟨1, .br false, none⟩, ⟨3, .no, some (I (a6.length : Int))⟩, ⟨5, .no, some (B false)⟩, ⟨7, .no, some (I (a7.length : Int))⟩, ⟨10, .no, some (B false)⟩, ⟨12, .no, some (I (a6.length : Int))⟩, ⟨14, .no, some (B false)⟩, ⟨32, .no, some (I (a6.length : Int))⟩, ⟨34, .no, some (B false)⟩]) (rh := []) (ph := .agg [.own, .raw, .raw]) (ps := [(decide (v10 < (r4.length : Int))) = false, AV.lit (.int .i64 (((List.length (a6.map o3)) : Nat) : Int)) = (I (a6.length : Int)), (B (decide ((a6.length : Int) > 1))) = (B false), AV.lit (.int .i64 (((List.length (a7.map o3)) : Nat) : Int)) = (I (a7.length : Int)), (B (decide ((a7.length : Int) > 1))) = (B false), AV.lit (.int .i64 (((List.length (a6.map o3)) : Nat) : Int)) = (I (a6.length : Int)), (B (decide ((a6.length : Int) > 0))) = (B false), AV.lit (.int .i64 (((List.length (a6.map o3)) : Nat) : Int)) = (I (a6.length : Int)), (B (decide ((a6.length : Int) > 0))) = (B false), treeLL ((a5.map o3).take (List.length (a5.map o3))) = true, (a5.map o3).take (List.length (a5.map o3)) = (a5.map o3), noRoLL (a5.map o3) = true, (B false) = (B false), litA (B false) = true, (B false) = (B false), litA (B false) = true]) (by kernel_rfl) ⟨c67, (lenM o3), (litB c71), (lenM o3), (litB c75), (lenM o3), (litB c85), (lenM o3), (litB c87), (treeT t3), takeM, (noRoM n3), rfl, rfl, rfl, rfl, trivial⟩
noncomputable def spec_l8Gate (p1 : (List GEvent)) (p2 : Int) (p3 : Int) : Option ((List Int) × Bool × Bool) :=
  Option.bind (spec_l8Unders p1) fun r4 =>
  spec_l8Gate_l0 p1 p2 p3 r4 FU [] [] [] true r4 0
theorem spec_l8Gate_m {p1 : (List GEvent)} {p2 : Int} {p3 : Int} {r : ((List Int) × Bool × Bool)} (h : spec_l8Gate p1 p2 p3 = some r) : Meets Try.prog 63 [(AV.ro 5 (p1.map o64)), (I p2), (I p3)] (AV.tup [(AV.own 3 1 (r.1.map o3)), (B r.2.1), (B r.2.2)]) := by
  refine meets_ofC Θ_ok Try.func63 rfl (c := body63) (by kernel_rfl) (Nat.le_of_ble_eq_true rfl) ?_
  intro E hP hn hx
  replace hn : E.n = 126 := hn
  have hm : E.P.follows .mixedOrders = true := by rw [hP]; exact mixed
  have hΘ : TOK E.P Θ := by rw [hP]; exact Θ_ok
  unfold spec_l8Gate at h
  show WAt E body63 (FQ (RetE Θ Try.f63.results.toList [] [] (AV.tup [(AV.own 3 1 (r.1.map o3)), (B r.2.1), (B r.2.2)]) E)) [] ⟨[(0, (AV.ro 5 (p1.map o64))), (1, (I p2)), (2, (I p3))], [], [JJ]⟩
  obtain ⟨r4, hr4, h⟩ := bnS h
  exact go_to hΘ hm hx hP hn (hs := [⟨8, .call [] (AV.own 85 4 (r4.map o85)) [1001], none⟩, ⟨9, .no, some (I (r4.length : Int))⟩, ⟨11, .nil 9 1002 3 1, none⟩, ⟨11, .nil 10 1003 3 1, none⟩, ⟨11, .nil 11 1004 3 1, none⟩]) (π := [(1002, 1), (1003, 2), (1004, 3), (1001, 4)]) (ts := [0, 1, 2, 9, 10, 11, 12, 21, 22, 23]) (kp := []) (ps := [Meets Try.prog 87 [(AV.ro 5 (p1.map o64))] (AV.own 85 4 (r4.map o85)), noRo (AV.own 85 4 (r4.map o85)) = true, AV.lit (.int .i64 (((List.length (r4.map o85)) : Nat) : Int)) = (I (r4.length : Int)), RenOK [(1002, 1), (1003, 2), (1004, 3), (1001, 4)] ([].map o3), RenOK [(1002, 1), (1003, 2), (1004, 3), (1001, 4)] ([].map o3), RenOK [(1002, 1), (1003, 2), (1004, 3), (1001, 4)] ([].map o3), RenOK [(1002, 1), (1003, 2), (1004, 3), (1001, 4)] (r4.map o85)]) (by kernel_rfl) ⟨(spec_l8Unders_m hr4), (by simp only [noRo, noRoL, noRoM n85, Bool.and_self]), (lenM o85), (rok (treeM t3)), (rok (treeM t3)), (rok (treeM t3)), (rok (treeM t85)), trivial⟩ (spec_l8Gate_l0_m hP hn hx p1 p2 p3 r4 FU [] [] [] true r4 0 _ h)
noncomputable def body51 : Code := match Try.f51.body with | some c => c | none => .skip
noncomputable def spec_l8Pairs_l2 (K0 : (List (List Int)) → Int → Option (List (List Int))) (p1 : (List GEvent)) (v3 : Int) (a7 : (List Int)) : Nat → (List (List Int)) → (List Int) → Int → Option (List (List Int))
  | 0, _, _, _ => none
  | n + 1, a16, a17, v18 =>
  if (decide (v18 < (a7.length : Int))) = true then
    Option.bind (rd a17 v18) fun x20 =>
    Option.bind (app a16 [[v3, x20]]) fun l21 =>
    spec_l8Pairs_l2 K0 p1 v3 a7 n l21 a17 (w64 (v18 + 1))
  else
    K0 a16 (w64 (v3 + 1))
theorem spec_l8Pairs_l2_m {E : Env} (hP : E.P = Try.prog) (hn : E.n = 44) (hx : ∀ p, p ∈ E.fx → p.1 ∈ ([] : List Nat)) (p1 : (List GEvent)) (v3 : Int) (a7 : (List Int)) {K0 : (List (List Int)) → Int → Option (List (List Int))} (hK0 : ∀ (a2 : (List (List Int))) (v3 : Int) (r : (List (List Int))), K0 a2 v3 = some r → WAt E body51 (FQ (RetE Θ Try.f51.results.toList [] [] (AV.own 33 1 (r.map o33)) E)) [true, true, false, true, false] ⟨[(0, (AV.ro 5 (p1.map o64))), (3, (AV.sl 1 0 (List.length (a2.map o33)))), (4, (I v3))], [(1, some ⟨33, 1, (a2.map o33)⟩)], [1, JJ]⟩) : ∀ (n : Nat) (a16 : (List (List Int))) (a17 : (List Int)) (v18 : Int) (r : (List (List Int))), spec_l8Pairs_l2 K0 p1 v3 a7 n a16 a17 v18 = some r → WAt E body51 (FQ (RetE Θ Try.f51.results.toList [] [] (AV.own 33 1 (r.map o33)) E)) [true, true, false, true, false, false, true, false, false, true, true, true, false] ⟨[(0, (AV.ro 5 (p1.map o64))), (3, (AV.sl 1 0 (List.length (a16.map o33)))), (4, (I v3)), (30, (AV.sl 2 0 (List.length (a17.map o3)))), (31, (I (a7.length : Int))), (32, (I v18))], [(1, some ⟨33, 1, (a16.map o33)⟩), (2, some ⟨3, 1, (a17.map o3)⟩)], [1, 2, JJ]⟩ := by
  have hm : E.P.follows .mixedOrders = true := by rw [hP]; exact mixed
  have hΘ : TOK E.P Θ := by rw [hP]; exact Θ_ok
  intro n
  induction n with
  | zero => intro a16 a17 v18 r h; simp only [spec_l8Pairs_l2] at h; cases h
  | succ n ih =>
    intro a16 a17 v18 r h
    simp only [spec_l8Pairs_l2] at h
    rcases itS h with ⟨c19, h⟩ | ⟨c22, h⟩
    · obtain ⟨x20, hx20, h⟩ := bnS h
      obtain ⟨l21, hl21, h⟩ := bnS h
      exact go_to hΘ hm hx hP hn (hs := [⟨1, .br true, none⟩, ⟨3, .row [(I x20)], none⟩, ⟨8, .new 1001, none⟩, ⟨9, .new 1002, none⟩, ⟨10, .app 1003 ((a16.map o33) ++ [[(AV.sl 1001 0 (List.length ([v3, x20].map o3)))]]), none⟩, ⟨11, .pack 1003 1001 (List.length a16) 0 [(AV.sl 1001 0 (List.length ([v3, x20].map o3)))] (l21.map o33), none⟩, ⟨14, .slen 3 (List.length (l21.map o33)), none⟩]) (π := [(1003, 1), (2, 2)]) (ts := [0, 3, 4, 30, 31, 32]) (kp := []) (ps := [(decide (v18 < (a7.length : Int))) = true, (0 : Int) ≤ v18, v18 < (((List.length (a17.map o3)) : Nat) : Int), (a17.map o3)[(Int.toNat v18)]? = some [(I x20)], (a16.map o33).take (List.length (a16.map o33)) ++ [[(AV.sl 1001 0 (List.length ([v3, x20].map o3)))]] = ((a16.map o33) ++ [[(AV.sl 1001 0 (List.length ([v3, x20].map o3)))]]), [[(AV.sl 1001 0 (List.length ([v3, x20].map o3)))]].all (fun r => r.all AV.plain) = true, (List.length ((a16.map o33) ++ [[(AV.sl 1001 0 (List.length ([v3, x20].map o3)))]])) * 24 ≤ 140737488355328, (List.length ((a16.map o33) ++ [[(AV.sl 1001 0 (List.length ([v3, x20].map o3)))]])) ≤ 140737488355328, ((a16.map o33) ++ [[(AV.sl 1001 0 (List.length ([v3, x20].map o3)))]])[(List.length a16)]? = some [(AV.sl 1001 0 (List.length ([v3, x20].map o3)))], [(AV.sl 1001 0 (List.length ([v3, x20].map o3)))][0]? = some (AV.sl 1001 0 (List.length ([v3, x20].map o3))), treeLL ([v3, x20].map o3) = true, ((a16.map o33) ++ [[(AV.sl 1001 0 (List.length ([v3, x20].map o3)))]]).set (List.length a16) ([(AV.sl 1001 0 (List.length ([v3, x20].map o3)))].set 0 (AV.own 3 1 ([v3, x20].map o3))) = (l21.map o33), (List.length ((a16.map o33) ++ [[(AV.sl 1001 0 (List.length ([v3, x20].map o3)))]])) = (List.length (l21.map o33)), RenOK [(1003, 1), (2, 2)] (l21.map o33), RenOK [(1003, 1), (2, 2)] (a17.map o3)]) (by kernel_rfl) ⟨c19, (rd0 hx20), (rdL o3 hx20), (rdM o3 hx20), (apT o33), rfl, (apB o33 hl21 (by decide)), (apC o33 hl21), (apG o33), rfl, (treeM t3), (apS o33 hl21), (apLn o33 hl21), (rok (treeM t33)), (rok (treeM t3)), trivial⟩ (ih l21 a17 (w64 (v18 + 1)) _ h)
    · exact go_to hΘ hm hx hP hn (hs := [⟨1, .br false, none⟩]) (π := [(1, 1)]) (ts := [0, 3, 4]) (kp := []) (ps := [(decide (v18 < (a7.length : Int))) = false, RenOK [(1, 1)] (a16.map o33)]) (by kernel_rfl) ⟨c22, (rok (treeM t33)), trivial⟩ (hK0 a16 (w64 (v3 + 1)) _ h)
noncomputable def spec_l8Pairs_l1 (K0 : (List (List Int)) → Int → Option (List (List Int))) (p1 : (List GEvent)) (v3 : Int) (r5 : (List GUnder)) : Nat → (List (List Int)) → (List Int) → (List GUnder) → Int → Option (List (List Int))
  | 0, _, _, _, _ => none
  | n + 1, a6, a7, a8, v9 =>
  if (decide (v9 < (r5.length : Int))) = true then
    Option.bind (rd a8 v9) fun x11 =>
    if (x11.Had == v3) = true then
      Option.bind (spec_l1Put a7 x11.Taken) fun r13 =>
      spec_l8Pairs_l1 K0 p1 v3 r5 n a6 r13 a8 (w64 (v9 + 1))
    else
      spec_l8Pairs_l1 K0 p1 v3 r5 n a6 a7 a8 (w64 (v9 + 1))
  else
    spec_l8Pairs_l2 K0 p1 v3 a7 FU a6 a7 0
theorem spec_l8Pairs_l1_m {E : Env} (hP : E.P = Try.prog) (hn : E.n = 44) (hx : ∀ p, p ∈ E.fx → p.1 ∈ ([] : List Nat)) (p1 : (List GEvent)) (v3 : Int) (r5 : (List GUnder)) {K0 : (List (List Int)) → Int → Option (List (List Int))} (hK0 : ∀ (a2 : (List (List Int))) (v3 : Int) (r : (List (List Int))), K0 a2 v3 = some r → WAt E body51 (FQ (RetE Θ Try.f51.results.toList [] [] (AV.own 33 1 (r.map o33)) E)) [true, true, false, true, false] ⟨[(0, (AV.ro 5 (p1.map o64))), (3, (AV.sl 1 0 (List.length (a2.map o33)))), (4, (I v3))], [(1, some ⟨33, 1, (a2.map o33)⟩)], [1, JJ]⟩) : ∀ (n : Nat) (a6 : (List (List Int))) (a7 : (List Int)) (a8 : (List GUnder)) (v9 : Int) (r : (List (List Int))), spec_l8Pairs_l1 K0 p1 v3 r5 n a6 a7 a8 v9 = some r → WAt E body51 (FQ (RetE Θ Try.f51.results.toList [] [] (AV.own 33 1 (r.map o33)) E)) [true, true, false, true, false, false, true, false, false, true, false, true, false] ⟨[(0, (AV.ro 5 (p1.map o64))), (3, (AV.sl 1 0 (List.length (a6.map o33)))), (4, (I v3)), (5, (AV.sl 2 0 (List.length (a7.map o3)))), (15, (AV.sl 3 0 (List.length (a8.map o85)))), (16, (I (r5.length : Int))), (17, (I v9))], [(1, some ⟨33, 1, (a6.map o33)⟩), (2, some ⟨3, 1, (a7.map o3)⟩), (3, some ⟨85, 4, (a8.map o85)⟩)], [1, 2, 3, JJ]⟩ := by
  have hm : E.P.follows .mixedOrders = true := by rw [hP]; exact mixed
  have hΘ : TOK E.P Θ := by rw [hP]; exact Θ_ok
  intro n
  induction n with
  | zero => intro a6 a7 a8 v9 r h; simp only [spec_l8Pairs_l1] at h; cases h
  | succ n ih =>
    intro a6 a7 a8 v9 r h
    simp only [spec_l8Pairs_l1] at h
    rcases itS h with ⟨c10, h⟩ | ⟨c15, h⟩
    · obtain ⟨x11, hx11, h⟩ := bnS h
      rcases itS h with ⟨c12, h⟩ | ⟨c14, h⟩
      · obtain ⟨r13, hr13, h⟩ := bnS h
        exact go_to hΘ hm hx hP hn (hs := [⟨1, .br true, none⟩, ⟨3, .row ((o85 x11)), none⟩, ⟨4, .new 1001, none⟩, ⟨10, .br true, none⟩, ⟨14, .callX [2] [false] [⟨3, 1, (a7.map o3)⟩] [⟨3, 1, (a7.map o3)⟩] [] (AV.own 3 1 (r13.map o3)) [1002] (AV.sl 1002 0 (List.length (r13.map o3))) [(1002, ⟨3, 1, (r13.map o3)⟩)], none⟩]) (π := [(1, 1), (1002, 2), (3, 3)]) (ts := [0, 3, 4, 5, 15, 16, 17]) (kp := []) (ps := [(decide (v9 < (r5.length : Int))) = true, (0 : Int) ≤ v9, v9 < (((List.length (a8.map o85)) : Nat) : Int), (a8.map o85)[(Int.toNat v9)]? = some ((o85 x11)), (x11.Had == v3) = true, MeetsR Try.prog 45 [⟨3, 1, (a7.map o3)⟩] [(AV.sl 0 0 (List.length (a7.map o3))), (I x11.Taken)] [false] [⟨3, 1, (a7.map o3)⟩] (AV.own 3 1 (r13.map o3)), (some (Root.mk 3 1 (a7.map o3)) = some (Root.mk 3 1 (a7.map o3))) ∧ True, (treeLL (a7.map o3) = true ∧ noRoLL (a7.map o3) = true) ∧ True, ((a7.map o3).length = (a7.map o3).length) ∧ True, (rtf (renA [] (AV.own 3 1 (r13.map o3))) [1002]).1 = (AV.sl 1002 0 (List.length (r13.map o3))), (rtf (renA [] (AV.own 3 1 (r13.map o3))) [1002]).2.1 = [(1002, ⟨3, 1, (r13.map o3)⟩)], RenOK [(1, 1), (1002, 2), (3, 3)] (a6.map o33), RenOK [(1, 1), (1002, 2), (3, 3)] (r13.map o3), RenOK [(1, 1), (1002, 2), (3, 3)] (a8.map o85)]) (by kernel_rfl) ⟨c10, (rd0 hx11), (rdL o85 hx11), (rdM o85 hx11), c12, (spec_l1Put_m hr13), ⟨rfl, trivial⟩, ⟨⟨treeM t3, noRoM n3⟩, trivial⟩, ⟨rfl, trivial⟩, rfl, rfl, (rok (treeM t33)), (rok (treeM t3)), (rok (treeM t85)), trivial⟩ (ih a6 r13 a8 (w64 (v9 + 1)) _ h)
      · exact go_to hΘ hm hx hP hn (hs := [⟨1, .br true, none⟩, ⟨3, .row ((o85 x11)), none⟩, ⟨4, .new 1001, none⟩, ⟨10, .br false, none⟩]) (π := [(1, 1), (2, 2), (3, 3)]) (ts := [0, 3, 4, 5, 15, 16, 17]) (kp := []) (ps := [(decide (v9 < (r5.length : Int))) = true, (0 : Int) ≤ v9, v9 < (((List.length (a8.map o85)) : Nat) : Int), (a8.map o85)[(Int.toNat v9)]? = some ((o85 x11)), (x11.Had == v3) = false, RenOK [(1, 1), (2, 2), (3, 3)] (a6.map o33), RenOK [(1, 1), (2, 2), (3, 3)] (a7.map o3), RenOK [(1, 1), (2, 2), (3, 3)] (a8.map o85)]) (by kernel_rfl) ⟨c10, (rd0 hx11), (rdL o85 hx11), (rdM o85 hx11), c14, (rok (treeM t33)), (rok (treeM t3)), (rok (treeM t85)), trivial⟩ (ih a6 a7 a8 (w64 (v9 + 1)) _ h)
    · exact go_to hΘ hm hx hP hn (hs := [⟨1, .br false, none⟩, ⟨3, .no, some (I (a7.length : Int))⟩]) (π := [(1, 1), (2, 2)]) (ts := [0, 3, 4, 30, 31, 32]) (kp := []) (ps := [(decide (v9 < (r5.length : Int))) = false, AV.lit (.int .i64 (((List.length (a7.map o3)) : Nat) : Int)) = (I (a7.length : Int)), RenOK [(1, 1), (2, 2)] (a6.map o33), RenOK [(1, 1), (2, 2)] (a7.map o3)]) (by kernel_rfl) ⟨c15, (lenM o3), (rok (treeM t33)), (rok (treeM t3)), trivial⟩ (spec_l8Pairs_l2_m hP hn hx p1 v3 a7 hK0 FU a6 a7 0 _ h)
noncomputable def spec_l8Pairs_l0  (p1 : (List GEvent)) : Nat → (List (List Int)) → Int → Option (List (List Int))
  | 0, _, _ => none
  | n + 1, a2, v3 =>
  if (decide (v3 < 100)) = true then
    Option.bind (spec_l8Unders p1) fun r5 =>
    spec_l8Pairs_l1 (spec_l8Pairs_l0 p1 n) p1 v3 r5 FU a2 [] r5 0
  else
    some a2
theorem spec_l8Pairs_l0_m {E : Env} (hP : E.P = Try.prog) (hn : E.n = 44) (hx : ∀ p, p ∈ E.fx → p.1 ∈ ([] : List Nat)) (p1 : (List GEvent))  : ∀ (n : Nat) (a2 : (List (List Int))) (v3 : Int) (r : (List (List Int))), spec_l8Pairs_l0 p1 n a2 v3 = some r → WAt E body51 (FQ (RetE Θ Try.f51.results.toList [] [] (AV.own 33 1 (r.map o33)) E)) [true, true, false, true, false] ⟨[(0, (AV.ro 5 (p1.map o64))), (3, (AV.sl 1 0 (List.length (a2.map o33)))), (4, (I v3))], [(1, some ⟨33, 1, (a2.map o33)⟩)], [1, JJ]⟩ := by
  have hm : E.P.follows .mixedOrders = true := by rw [hP]; exact mixed
  have hΘ : TOK E.P Θ := by rw [hP]; exact Θ_ok
  intro n
  induction n with
  | zero => intro a2 v3 r h; simp only [spec_l8Pairs_l0] at h; cases h
  | succ n ih =>
    intro a2 v3 r h
    simp only [spec_l8Pairs_l0] at h
    rcases itS h with ⟨c4, h⟩ | ⟨c23, h⟩
    · obtain ⟨r5, hr5, h⟩ := bnS h
      exact go_to hΘ hm hx hP hn (hs := [⟨2, .br true, none⟩, ⟨5, .call [] (AV.own 85 4 (r5.map o85)) [1001], none⟩, ⟨6, .no, some (I (r5.length : Int))⟩, ⟨8, .nil 5 1002 3 1, none⟩]) (π := [(1, 1), (1002, 2), (1001, 3)]) (ts := [0, 3, 4, 5, 15, 16, 17]) (kp := []) (ps := [(decide (v3 < 100)) = true, Meets Try.prog 87 [(AV.ro 5 (p1.map o64))] (AV.own 85 4 (r5.map o85)), noRo (AV.own 85 4 (r5.map o85)) = true, AV.lit (.int .i64 (((List.length (r5.map o85)) : Nat) : Int)) = (I (r5.length : Int)), RenOK [(1, 1), (1002, 2), (1001, 3)] (a2.map o33), RenOK [(1, 1), (1002, 2), (1001, 3)] ([].map o3), RenOK [(1, 1), (1002, 2), (1001, 3)] (r5.map o85)]) (by kernel_rfl) ⟨c4, (spec_l8Unders_m hr5), (by simp only [noRo, noRoL, noRoM n85, Bool.and_self]), (lenM o85), (rok (treeM t33)), (rok (treeM t3)), (rok (treeM t85)), trivial⟩ (spec_l8Pairs_l1_m hP hn hx p1 v3 r5 ih FU a2 [] r5 0 _ h)
    · have h := Option.some.inj h
      subst h
      exact go_ret hΘ hm hP hn (hs := [⟨2, .br false, none⟩]) (rh := []) (ph := .own) (ps := [(decide (v3 < 100)) = false, treeLL ((a2.map o33).take (List.length (a2.map o33))) = true, (a2.map o33).take (List.length (a2.map o33)) = (a2.map o33), noRoLL (a2.map o33) = true]) (by kernel_rfl) ⟨c23, (treeT t33), takeM, (noRoM n33), trivial⟩
noncomputable def spec_l8Pairs (p1 : (List GEvent)) : Option (List (List Int)) :=
  spec_l8Pairs_l0 p1 FU [] 0
theorem spec_l8Pairs_m {p1 : (List GEvent)} {r : (List (List Int))} (h : spec_l8Pairs p1 = some r) : Meets Try.prog 51 [(AV.ro 5 (p1.map o64))] (AV.own 33 1 (r.map o33)) := by
  refine meets_ofC Θ_ok Try.func51 rfl (c := body51) (by kernel_rfl) (Nat.le_of_ble_eq_true rfl) ?_
  intro E hP hn hx
  replace hn : E.n = 44 := hn
  have hm : E.P.follows .mixedOrders = true := by rw [hP]; exact mixed
  have hΘ : TOK E.P Θ := by rw [hP]; exact Θ_ok
  unfold spec_l8Pairs at h
  show WAt E body51 (FQ (RetE Θ Try.f51.results.toList [] [] (AV.own 33 1 (r.map o33)) E)) [] ⟨[(0, (AV.ro 5 (p1.map o64)))], [], [JJ]⟩
  exact go_to hΘ hm hx hP hn (hs := [⟨3, .nil 3 1001 33 1, none⟩]) (π := [(1001, 1)]) (ts := [0, 3, 4]) (kp := []) (ps := [RenOK [(1001, 1)] ([].map o33)]) (by kernel_rfl) ⟨(rok (treeM t33)), trivial⟩ (spec_l8Pairs_l0_m hP hn hx p1 FU [] 0 _ h)
noncomputable def body34 : Code := match Try.f34.body with | some c => c | none => .skip
noncomputable def spec_WarnsGuarded_j1 (K0 : (List (List Int)) → (List (List Int)) → Int → Option ((List (List Int)) × Bool)) (p1 : (List GEvent)) (r5 : (List (List Int))) (a6 : (List (List Int))) (a7 : (List (List Int))) (v8 : Int) (x10 : (List Int))  : Option ((List (List Int)) × Bool) :=
  Option.bind (rd x10 0) fun x18 =>
  Option.bind (rd x10 1) fun x19 =>
  Option.bind (app a6 [[x18, x19]]) fun l20 =>
  Option.bind (rd a7 v8) fun x21 =>
  K0 l20 (a7.set (Int.toNat v8) x10) (w64 (v8 + 1))
theorem spec_WarnsGuarded_j1_m {E : Env} (hP : E.P = Try.prog) (hn : E.n = 62) (hx : ∀ p, p ∈ E.fx → p.1 ∈ ([] : List Nat)) (p1 : (List GEvent)) (r5 : (List (List Int))) (a6 : (List (List Int))) (a7 : (List (List Int))) (v8 : Int) (x10 : (List Int)) {K0 : (List (List Int)) → (List (List Int)) → Int → Option ((List (List Int)) × Bool)} (hK0 : ∀ (a6 : (List (List Int))) (a7 : (List (List Int))) (v8 : Int) (r : ((List (List Int)) × Bool)), K0 a6 a7 v8 = some r → WAt E body34 (FQ (RetE Θ Try.f34.results.toList [] [] (AV.tup [(AV.own 33 1 (r.1.map o33)), (B r.2)]) E)) [true, true, true, false, true, false] ⟨[(0, (AV.ro 5 (p1.map o64))), (4, (AV.sl 1 0 (List.length (a6.map o33)))), (14, (AV.sl 2 0 (List.length (a7.map o33)))), (15, (I (r5.length : Int))), (16, (I v8))], [(1, some ⟨33, 1, (a6.map o33)⟩), (2, some ⟨33, 1, (a7.map o33)⟩)], [1, 2, JJ]⟩)  (r : ((List (List Int)) × Bool)) (h : spec_WarnsGuarded_j1 K0 p1 r5 a6 a7 v8 x10  = some r) : WAt E body34 (FQ (RetE Θ Try.f34.results.toList [] [] (AV.tup [(AV.own 33 1 (r.1.map o33)), (B r.2)]) E)) [true, true, true, false, true, false, false, true, true, false, false, true, true, true, false] ⟨[(0, (AV.ro 5 (p1.map o64))), (4, (AV.sl 1 0 (List.length (a6.map o33)))), (6, (AV.sl 1001 0 (List.length (x10.map o3)))), (14, (AV.sl 2 0 (List.length ((a7.map o33).set (Int.toNat v8) [(AV.sl 1001 0 (List.length (x10.map o3)))])))), (15, (I (r5.length : Int))), (16, (I v8))], [(1, some ⟨33, 1, (a6.map o33)⟩), (1001, some ⟨3, 1, (x10.map o3)⟩), (2, some ⟨33, 1, ((a7.map o33).set (Int.toNat v8) [(AV.sl 1001 0 (List.length (x10.map o3)))])⟩)], [1, 1001, 2, JJ]⟩ := by
  have hm : E.P.follows .mixedOrders = true := by rw [hP]; exact mixed
  have hΘ : TOK E.P Θ := by rw [hP]; exact Θ_ok
  unfold spec_WarnsGuarded_j1 at h
  obtain ⟨x18, hx18, h⟩ := bnS h
  obtain ⟨x19, hx19, h⟩ := bnS h
  obtain ⟨l20, hl20, h⟩ := bnS h
  obtain ⟨x21, hx21, h⟩ := bnS h
  exact go_to hΘ hm hx hP hn (hs := [⟨3, .row [(I x18)], none⟩, ⟨6, .row [(I x19)], none⟩, ⟨7, .new 1002, none⟩, ⟨8, .new 1003, none⟩, ⟨11, .app 1004 ((a6.map o33) ++ [[(AV.sl 1002 0 (List.length ([x18, x19].map o3)))]]), none⟩, ⟨12, .pack 1004 1002 (List.length a6) 0 [(AV.sl 1002 0 (List.length ([x18, x19].map o3)))] (l20.map o33), none⟩, ⟨15, .pack 2 1001 (Int.toNat v8) 0 [(AV.sl 1001 0 (List.length (x10.map o3)))] ((a7.set (Int.toNat v8) x10).map o33), none⟩, ⟨15, .slen 4 (List.length (l20.map o33)), none⟩, ⟨15, .slen 14 (List.length ((a7.set (Int.toNat v8) x10).map o33)), none⟩]) (π := [(1004, 1), (2, 2)]) (ts := [0, 4, 14, 15, 16]) (kp := []) (ps := [(0 : Int) ≤ 0, 0 < (((List.length (x10.map o3)) : Nat) : Int), (x10.map o3)[(Int.toNat 0)]? = some [(I x18)], (0 : Int) ≤ 1, 1 < (((List.length (x10.map o3)) : Nat) : Int), (x10.map o3)[(Int.toNat 1)]? = some [(I x19)], (AV.sl 1 0 (List.length (a6.map o33))) = (AV.sl 1 0 (List.length (a6.map o33))), (AV.sl 1 0 (List.length (a6.map o33))) = (AV.sl 1 0 (List.length (a6.map o33))), (a6.map o33).take (List.length (a6.map o33)) ++ [[(AV.sl 1002 0 (List.length ([x18, x19].map o3)))]] = ((a6.map o33) ++ [[(AV.sl 1002 0 (List.length ([x18, x19].map o3)))]]), [[(AV.sl 1002 0 (List.length ([x18, x19].map o3)))]].all (fun r => r.all AV.plain) = true, (List.length ((a6.map o33) ++ [[(AV.sl 1002 0 (List.length ([x18, x19].map o3)))]])) * 24 ≤ 140737488355328, (List.length ((a6.map o33) ++ [[(AV.sl 1002 0 (List.length ([x18, x19].map o3)))]])) ≤ 140737488355328, ((a6.map o33) ++ [[(AV.sl 1002 0 (List.length ([x18, x19].map o3)))]])[(List.length a6)]? = some [(AV.sl 1002 0 (List.length ([x18, x19].map o3)))], [(AV.sl 1002 0 (List.length ([x18, x19].map o3)))][0]? = some (AV.sl 1002 0 (List.length ([x18, x19].map o3))), treeLL ([x18, x19].map o3) = true, ((a6.map o33) ++ [[(AV.sl 1002 0 (List.length ([x18, x19].map o3)))]]).set (List.length a6) ([(AV.sl 1002 0 (List.length ([x18, x19].map o3)))].set 0 (AV.own 3 1 ([x18, x19].map o3))) = (l20.map o33), ((a7.map o33).set (Int.toNat v8) [(AV.sl 1001 0 (List.length (x10.map o3)))])[(Int.toNat v8)]? = some [(AV.sl 1001 0 (List.length (x10.map o3)))], [(AV.sl 1001 0 (List.length (x10.map o3)))][0]? = some (AV.sl 1001 0 (List.length (x10.map o3))), treeLL (x10.map o3) = true, ((a7.map o33).set (Int.toNat v8) [(AV.sl 1001 0 (List.length (x10.map o3)))]).set (Int.toNat v8) ([(AV.sl 1001 0 (List.length (x10.map o3)))].set 0 (AV.own 3 1 (x10.map o3))) = ((a7.set (Int.toNat v8) x10).map o33), (List.length ((a6.map o33) ++ [[(AV.sl 1002 0 (List.length ([x18, x19].map o3)))]])) = (List.length (l20.map o33)), (List.length ((a7.map o33).set (Int.toNat v8) [(AV.sl 1001 0 (List.length (x10.map o3)))])) = (List.length ((a7.set (Int.toNat v8) x10).map o33)), RenOK [(1004, 1), (2, 2)] (l20.map o33), RenOK [(1004, 1), (2, 2)] ((a7.set (Int.toNat v8) x10).map o33)]) (by kernel_rfl) ⟨(rd0 hx18), (rdL o3 hx18), (rdM o3 hx18), (rd0 hx19), (rdL o3 hx19), (rdM o3 hx19), rfl, rfl, (apT o33), rfl, (apB o33 hl20 (by decide)), (apC o33 hl20), (apG o33), rfl, (treeM t3), (apS o33 hl20), (setE (rdM o33 hx21)), rfl, (treeM t3), (setP o33), (apLn o33 hl20), (by first | exact lnSet _ | exact lnSet2 _ | exact apLn _ (by assumption) | simp only [List.length_map, List.length_set, List.length_cons, List.length_nil]), (rok (treeM t33)), (rok (treeM t33)), trivial⟩ (hK0 l20 (a7.set (Int.toNat v8) x10) (w64 (v8 + 1)) _ h)
noncomputable def spec_WarnsGuarded_l0  (p1 : (List GEvent)) (r5 : (List (List Int))) : Nat → (List (List Int)) → (List (List Int)) → Int → Option ((List (List Int)) × Bool)
  | 0, _, _, _ => none
  | n + 1, a6, a7, v8 =>
  if (decide (v8 < (r5.length : Int))) = true then
    Option.bind (rd a7 v8) fun x10 =>
    Option.bind (rd x10 0) fun x11 =>
    Option.bind (rd x10 1) fun x12 =>
    Option.bind (spec_l8Gate p1 x11 x12) fun r13 =>
    if (decide (x11 < x12)) = true then
      if r13.2.1 = true then
        if r13.2.2 = true then
          if ((r13.1.length : Int) == 0) = true then
            spec_WarnsGuarded_j1 (spec_WarnsGuarded_l0 p1 r5 n) p1 r5 a6 a7 v8 x10
          else
            spec_WarnsGuarded_l0 p1 r5 n a6 a7 (w64 (v8 + 1))
        else
          spec_WarnsGuarded_l0 p1 r5 n a6 a7 (w64 (v8 + 1))
      else
        spec_WarnsGuarded_l0 p1 r5 n a6 a7 (w64 (v8 + 1))
    else
      spec_WarnsGuarded_l0 p1 r5 n a6 a7 (w64 (v8 + 1))
  else
    some (a6, true)
theorem spec_WarnsGuarded_l0_m {E : Env} (hP : E.P = Try.prog) (hn : E.n = 62) (hx : ∀ p, p ∈ E.fx → p.1 ∈ ([] : List Nat)) (p1 : (List GEvent)) (r5 : (List (List Int)))  : ∀ (n : Nat) (a6 : (List (List Int))) (a7 : (List (List Int))) (v8 : Int) (r : ((List (List Int)) × Bool)), spec_WarnsGuarded_l0 p1 r5 n a6 a7 v8 = some r → WAt E body34 (FQ (RetE Θ Try.f34.results.toList [] [] (AV.tup [(AV.own 33 1 (r.1.map o33)), (B r.2)]) E)) [true, true, true, false, true, false] ⟨[(0, (AV.ro 5 (p1.map o64))), (4, (AV.sl 1 0 (List.length (a6.map o33)))), (14, (AV.sl 2 0 (List.length (a7.map o33)))), (15, (I (r5.length : Int))), (16, (I v8))], [(1, some ⟨33, 1, (a6.map o33)⟩), (2, some ⟨33, 1, (a7.map o33)⟩)], [1, 2, JJ]⟩ := by
  have hm : E.P.follows .mixedOrders = true := by rw [hP]; exact mixed
  have hΘ : TOK E.P Θ := by rw [hP]; exact Θ_ok
  intro n
  induction n with
  | zero => intro a6 a7 v8 r h; simp only [spec_WarnsGuarded_l0] at h; cases h
  | succ n ih =>
    intro a6 a7 v8 r h
    simp only [spec_WarnsGuarded_l0] at h
    rcases itS h with ⟨c9, h⟩ | ⟨c26, h⟩
    · obtain ⟨x10, hx10, h⟩ := bnS h
      obtain ⟨x11, hx11, h⟩ := bnS h
      obtain ⟨x12, hx12, h⟩ := bnS h
      obtain ⟨r13, hr13, h⟩ := bnS h
      rcases itS h with ⟨c14, h⟩ | ⟨c25, h⟩
      · rcases itS h with ⟨c15, h⟩ | ⟨c24, h⟩
        · rcases itS h with ⟨c16, h⟩ | ⟨c23, h⟩
          · rcases itS h with ⟨c17, h⟩ | ⟨c22, h⟩
            · exact go_to hΘ hm hx hP hn (hs := [⟨1, .br true, none⟩, ⟨3, .unpack 2 1001 (Int.toNat v8) 0 [(AV.own 3 1 (x10.map o3))] 3 1 (x10.map o3) ((a7.map o33).set (Int.toNat v8) [(AV.sl 1001 0 (List.length (x10.map o3)))]), none⟩, ⟨3, .row [(AV.sl 1001 0 (List.length (x10.map o3)))], none⟩, ⟨8, .row [(I x11)], none⟩, ⟨11, .row [(I x12)], none⟩, ⟨12, .call [] (AV.tup [(AV.own 3 1 (r13.1.map o3)), (B r13.2.1), (B r13.2.2)]) [1002], none⟩, ⟨22, .row [(I x11)], none⟩, ⟨25, .row [(I x12)], none⟩, ⟨27, .no, some (B true)⟩, ⟨30, .no, some (B true)⟩, ⟨33, .no, some (B true)⟩, ⟨35, .no, some (I (r13.1.length : Int))⟩, ⟨38, .br true, none⟩, ⟨39, .slen 14 (List.length ((a7.map o33).set (Int.toNat v8) [(AV.sl 1001 0 (List.length (x10.map o3)))])), none⟩]) (π := [(1, 1), (1001, 1001), (2, 2)]) (ts := [0, 4, 6, 14, 15, 16]) (kp := []) (ps := [(decide (v8 < (r5.length : Int))) = true, (0 : Int) ≤ v8, v8 < (((List.length (a7.map o33)) : Nat) : Int), (a7.map o33)[(Int.toNat v8)]? = some [(AV.own 3 1 (x10.map o3))], [(AV.own 3 1 (x10.map o3))][0]? = some (AV.own 3 1 (x10.map o3)), 0 < 1, (a7.map o33).set (Int.toNat v8) ([(AV.own 3 1 (x10.map o3))].set 0 (AV.sl 1001 0 (List.length (x10.map o3)))) = ((a7.map o33).set (Int.toNat v8) [(AV.sl 1001 0 (List.length (x10.map o3)))]), ((a7.map o33).set (Int.toNat v8) [(AV.sl 1001 0 (List.length (x10.map o3)))])[(Int.toNat v8)]? = some [(AV.sl 1001 0 (List.length (x10.map o3)))], (0 : Int) ≤ 0, 0 < (((List.length (x10.map o3)) : Nat) : Int), (x10.map o3)[(Int.toNat 0)]? = some [(I x11)], (0 : Int) ≤ 1, 1 < (((List.length (x10.map o3)) : Nat) : Int), (x10.map o3)[(Int.toNat 1)]? = some [(I x12)], Meets Try.prog 63 [(AV.ro 5 (p1.map o64)), (I x11), (I x12)] (AV.tup [(AV.own 3 1 (r13.1.map o3)), (B r13.2.1), (B r13.2.2)]), noRo (AV.tup [(AV.own 3 1 (r13.1.map o3)), (B r13.2.1), (B r13.2.2)]) = true, (0 : Int) ≤ 0, 0 < (((List.length (x10.map o3)) : Nat) : Int), (x10.map o3)[(Int.toNat 0)]? = some [(I x11)], (0 : Int) ≤ 1, 1 < (((List.length (x10.map o3)) : Nat) : Int), (x10.map o3)[(Int.toNat 1)]? = some [(I x12)], (B (decide (x11 < x12))) = (B true), (B r13.2.1) = (B true), (B r13.2.2) = (B true), AV.lit (.int .i64 (((List.length (r13.1.map o3)) : Nat) : Int)) = (I (r13.1.length : Int)), ((r13.1.length : Int) == 0) = true, (List.length (a7.map o33)) = (List.length ((a7.map o33).set (Int.toNat v8) [(AV.sl 1001 0 (List.length (x10.map o3)))])), RenOK [(1, 1), (1001, 1001), (2, 2)] (a6.map o33), RenOK [(1, 1), (1001, 1001), (2, 2)] (x10.map o3), RenOK [(1, 1), (1001, 1001), (2, 2)] ((a7.map o33).set (Int.toNat v8) [(AV.sl 1001 0 (List.length (x10.map o3)))])]) (by kernel_rfl) ⟨c9, (rd0 hx10), (rdL o33 hx10), (rdM o33 hx10), rfl, (by decide), rfl, (setE (rdM o33 hx10)), (rd0 hx11), (rdL o3 hx11), (rdM o3 hx11), (rd0 hx12), (rdL o3 hx12), (rdM o3 hx12), (spec_l8Gate_m hr13), (by simp only [noRo, noRoL, noRoM n3, Bool.and_self]), (rd0 hx11), (rdL o3 hx11), (rdM o3 hx11), (rd0 hx12), (rdL o3 hx12), (rdM o3 hx12), (litB c14), (litB c15), (litB c16), (lenM o3), c17, (by first | exact lnSet _ | exact lnSet2 _ | exact apLn _ (by assumption) | simp only [List.length_map, List.length_set, List.length_cons, List.length_nil]), (rok (treeM t33)), (rok (treeM t3)), (renSet (rok (treeM t33)) rfl), trivial⟩ (spec_WarnsGuarded_j1_m hP hn hx p1 r5 a6 a7 v8 x10 ih  _ h)
            · exact go_to hΘ hm hx hP hn (hs := [⟨1, .br true, none⟩, ⟨3, .unpack 2 1001 (Int.toNat v8) 0 [(AV.own 3 1 (x10.map o3))] 3 1 (x10.map o3) ((a7.map o33).set (Int.toNat v8) [(AV.sl 1001 0 (List.length (x10.map o3)))]), none⟩, ⟨3, .row [(AV.sl 1001 0 (List.length (x10.map o3)))], none⟩, ⟨8, .row [(I x11)], none⟩, ⟨11, .row [(I x12)], none⟩, ⟨12, .call [] (AV.tup [(AV.own 3 1 (r13.1.map o3)), (B r13.2.1), (B r13.2.2)]) [1002], none⟩, ⟨22, .row [(I x11)], none⟩, ⟨25, .row [(I x12)], none⟩, ⟨27, .no, some (B true)⟩, ⟨30, .no, some (B true)⟩, ⟨33, .no, some (B true)⟩, ⟨35, .no, some (I (r13.1.length : Int))⟩, ⟨38, .br false, none⟩, ⟨41, .pack 2 1001 (Int.toNat v8) 0 [(AV.sl 1001 0 (List.length (x10.map o3)))] (a7.map o33), none⟩, ⟨41, .slen 14 (List.length (a7.map o33)), none⟩]) (π := [(1, 1), (2, 2)]) (ts := [0, 4, 14, 15, 16]) (kp := []) (ps := [(decide (v8 < (r5.length : Int))) = true, (0 : Int) ≤ v8, v8 < (((List.length (a7.map o33)) : Nat) : Int), (a7.map o33)[(Int.toNat v8)]? = some [(AV.own 3 1 (x10.map o3))], [(AV.own 3 1 (x10.map o3))][0]? = some (AV.own 3 1 (x10.map o3)), 0 < 1, (a7.map o33).set (Int.toNat v8) ([(AV.own 3 1 (x10.map o3))].set 0 (AV.sl 1001 0 (List.length (x10.map o3)))) = ((a7.map o33).set (Int.toNat v8) [(AV.sl 1001 0 (List.length (x10.map o3)))]), ((a7.map o33).set (Int.toNat v8) [(AV.sl 1001 0 (List.length (x10.map o3)))])[(Int.toNat v8)]? = some [(AV.sl 1001 0 (List.length (x10.map o3)))], (0 : Int) ≤ 0, 0 < (((List.length (x10.map o3)) : Nat) : Int), (x10.map o3)[(Int.toNat 0)]? = some [(I x11)], (0 : Int) ≤ 1, 1 < (((List.length (x10.map o3)) : Nat) : Int), (x10.map o3)[(Int.toNat 1)]? = some [(I x12)], Meets Try.prog 63 [(AV.ro 5 (p1.map o64)), (I x11), (I x12)] (AV.tup [(AV.own 3 1 (r13.1.map o3)), (B r13.2.1), (B r13.2.2)]), noRo (AV.tup [(AV.own 3 1 (r13.1.map o3)), (B r13.2.1), (B r13.2.2)]) = true, (0 : Int) ≤ 0, 0 < (((List.length (x10.map o3)) : Nat) : Int), (x10.map o3)[(Int.toNat 0)]? = some [(I x11)], (0 : Int) ≤ 1, 1 < (((List.length (x10.map o3)) : Nat) : Int), (x10.map o3)[(Int.toNat 1)]? = some [(I x12)], (B (decide (x11 < x12))) = (B true), (B r13.2.1) = (B true), (B r13.2.2) = (B true), AV.lit (.int .i64 (((List.length (r13.1.map o3)) : Nat) : Int)) = (I (r13.1.length : Int)), ((r13.1.length : Int) == 0) = false, ((a7.map o33).set (Int.toNat v8) [(AV.sl 1001 0 (List.length (x10.map o3)))])[(Int.toNat v8)]? = some [(AV.sl 1001 0 (List.length (x10.map o3)))], [(AV.sl 1001 0 (List.length (x10.map o3)))][0]? = some (AV.sl 1001 0 (List.length (x10.map o3))), treeLL (x10.map o3) = true, ((a7.map o33).set (Int.toNat v8) [(AV.sl 1001 0 (List.length (x10.map o3)))]).set (Int.toNat v8) ([(AV.sl 1001 0 (List.length (x10.map o3)))].set 0 (AV.own 3 1 (x10.map o3))) = (a7.map o33), (List.length (a7.map o33)) = (List.length (a7.map o33)), RenOK [(1, 1), (2, 2)] (a6.map o33), RenOK [(1, 1), (2, 2)] (a7.map o33)]) (by kernel_rfl) ⟨c9, (rd0 hx10), (rdL o33 hx10), (rdM o33 hx10), rfl, (by decide), rfl, (setE (rdM o33 hx10)), (rd0 hx11), (rdL o3 hx11), (rdM o3 hx11), (rd0 hx12), (rdL o3 hx12), (rdM o3 hx12), (spec_l8Gate_m hr13), (by simp only [noRo, noRoL, noRoM n3, Bool.and_self]), (rd0 hx11), (rdL o3 hx11), (rdM o3 hx11), (rd0 hx12), (rdL o3 hx12), (rdM o3 hx12), (litB c14), (litB c15), (litB c16), (lenM o3), c22, (setE (rdM o33 hx10)), rfl, (treeM t3), (setPi o33 hx10), rfl, (rok (treeM t33)), (rok (treeM t33)), trivial⟩ (ih a6 a7 (w64 (v8 + 1)) _ h)
          · exact go_to hΘ hm hx hP hn (hs := [⟨1, .br true, none⟩, ⟨3, .unpack 2 1001 (Int.toNat v8) 0 [(AV.own 3 1 (x10.map o3))] 3 1 (x10.map o3) ((a7.map o33).set (Int.toNat v8) [(AV.sl 1001 0 (List.length (x10.map o3)))]), none⟩, ⟨3, .row [(AV.sl 1001 0 (List.length (x10.map o3)))], none⟩, ⟨8, .row [(I x11)], none⟩, ⟨11, .row [(I x12)], none⟩, ⟨12, .call [] (AV.tup [(AV.own 3 1 (r13.1.map o3)), (B r13.2.1), (B r13.2.2)]) [1002], none⟩, ⟨22, .row [(I x11)], none⟩, ⟨25, .row [(I x12)], none⟩, ⟨27, .no, some (B true)⟩, ⟨30, .no, some (B true)⟩, ⟨33, .no, some (B false)⟩, ⟨41, .pack 2 1001 (Int.toNat v8) 0 [(AV.sl 1001 0 (List.length (x10.map o3)))] (a7.map o33), none⟩, ⟨41, .slen 14 (List.length (a7.map o33)), none⟩]) (π := [(1, 1), (2, 2)]) (ts := [0, 4, 14, 15, 16]) (kp := []) (ps := [(decide (v8 < (r5.length : Int))) = true, (0 : Int) ≤ v8, v8 < (((List.length (a7.map o33)) : Nat) : Int), (a7.map o33)[(Int.toNat v8)]? = some [(AV.own 3 1 (x10.map o3))], [(AV.own 3 1 (x10.map o3))][0]? = some (AV.own 3 1 (x10.map o3)), 0 < 1, (a7.map o33).set (Int.toNat v8) ([(AV.own 3 1 (x10.map o3))].set 0 (AV.sl 1001 0 (List.length (x10.map o3)))) = ((a7.map o33).set (Int.toNat v8) [(AV.sl 1001 0 (List.length (x10.map o3)))]), ((a7.map o33).set (Int.toNat v8) [(AV.sl 1001 0 (List.length (x10.map o3)))])[(Int.toNat v8)]? = some [(AV.sl 1001 0 (List.length (x10.map o3)))], (0 : Int) ≤ 0, 0 < (((List.length (x10.map o3)) : Nat) : Int), (x10.map o3)[(Int.toNat 0)]? = some [(I x11)], (0 : Int) ≤ 1, 1 < (((List.length (x10.map o3)) : Nat) : Int), (x10.map o3)[(Int.toNat 1)]? = some [(I x12)], Meets Try.prog 63 [(AV.ro 5 (p1.map o64)), (I x11), (I x12)] (AV.tup [(AV.own 3 1 (r13.1.map o3)), (B r13.2.1), (B r13.2.2)]), noRo (AV.tup [(AV.own 3 1 (r13.1.map o3)), (B r13.2.1), (B r13.2.2)]) = true, (0 : Int) ≤ 0, 0 < (((List.length (x10.map o3)) : Nat) : Int), (x10.map o3)[(Int.toNat 0)]? = some [(I x11)], (0 : Int) ≤ 1, 1 < (((List.length (x10.map o3)) : Nat) : Int), (x10.map o3)[(Int.toNat 1)]? = some [(I x12)], (B (decide (x11 < x12))) = (B true), (B r13.2.1) = (B true), (B r13.2.2) = (B false), ((a7.map o33).set (Int.toNat v8) [(AV.sl 1001 0 (List.length (x10.map o3)))])[(Int.toNat v8)]? = some [(AV.sl 1001 0 (List.length (x10.map o3)))], [(AV.sl 1001 0 (List.length (x10.map o3)))][0]? = some (AV.sl 1001 0 (List.length (x10.map o3))), treeLL (x10.map o3) = true, ((a7.map o33).set (Int.toNat v8) [(AV.sl 1001 0 (List.length (x10.map o3)))]).set (Int.toNat v8) ([(AV.sl 1001 0 (List.length (x10.map o3)))].set 0 (AV.own 3 1 (x10.map o3))) = (a7.map o33), (List.length (a7.map o33)) = (List.length (a7.map o33)), RenOK [(1, 1), (2, 2)] (a6.map o33), RenOK [(1, 1), (2, 2)] (a7.map o33)]) (by kernel_rfl) ⟨c9, (rd0 hx10), (rdL o33 hx10), (rdM o33 hx10), rfl, (by decide), rfl, (setE (rdM o33 hx10)), (rd0 hx11), (rdL o3 hx11), (rdM o3 hx11), (rd0 hx12), (rdL o3 hx12), (rdM o3 hx12), (spec_l8Gate_m hr13), (by simp only [noRo, noRoL, noRoM n3, Bool.and_self]), (rd0 hx11), (rdL o3 hx11), (rdM o3 hx11), (rd0 hx12), (rdL o3 hx12), (rdM o3 hx12), (litB c14), (litB c15), (litB c23), (setE (rdM o33 hx10)), rfl, (treeM t3), (setPi o33 hx10), rfl, (rok (treeM t33)), (rok (treeM t33)), trivial⟩ (ih a6 a7 (w64 (v8 + 1)) _ h)
        · exact go_to hΘ hm hx hP hn (hs := [⟨1, .br true, none⟩, ⟨3, .unpack 2 1001 (Int.toNat v8) 0 [(AV.own 3 1 (x10.map o3))] 3 1 (x10.map o3) ((a7.map o33).set (Int.toNat v8) [(AV.sl 1001 0 (List.length (x10.map o3)))]), none⟩, ⟨3, .row [(AV.sl 1001 0 (List.length (x10.map o3)))], none⟩, ⟨8, .row [(I x11)], none⟩, ⟨11, .row [(I x12)], none⟩, ⟨12, .call [] (AV.tup [(AV.own 3 1 (r13.1.map o3)), (B r13.2.1), (B r13.2.2)]) [1002], none⟩, ⟨22, .row [(I x11)], none⟩, ⟨25, .row [(I x12)], none⟩, ⟨27, .no, some (B true)⟩, ⟨30, .no, some (B false)⟩, ⟨41, .pack 2 1001 (Int.toNat v8) 0 [(AV.sl 1001 0 (List.length (x10.map o3)))] (a7.map o33), none⟩, ⟨41, .slen 14 (List.length (a7.map o33)), none⟩]) (π := [(1, 1), (2, 2)]) (ts := [0, 4, 14, 15, 16]) (kp := []) (ps := [(decide (v8 < (r5.length : Int))) = true, (0 : Int) ≤ v8, v8 < (((List.length (a7.map o33)) : Nat) : Int), (a7.map o33)[(Int.toNat v8)]? = some [(AV.own 3 1 (x10.map o3))], [(AV.own 3 1 (x10.map o3))][0]? = some (AV.own 3 1 (x10.map o3)), 0 < 1, (a7.map o33).set (Int.toNat v8) ([(AV.own 3 1 (x10.map o3))].set 0 (AV.sl 1001 0 (List.length (x10.map o3)))) = ((a7.map o33).set (Int.toNat v8) [(AV.sl 1001 0 (List.length (x10.map o3)))]), ((a7.map o33).set (Int.toNat v8) [(AV.sl 1001 0 (List.length (x10.map o3)))])[(Int.toNat v8)]? = some [(AV.sl 1001 0 (List.length (x10.map o3)))], (0 : Int) ≤ 0, 0 < (((List.length (x10.map o3)) : Nat) : Int), (x10.map o3)[(Int.toNat 0)]? = some [(I x11)], (0 : Int) ≤ 1, 1 < (((List.length (x10.map o3)) : Nat) : Int), (x10.map o3)[(Int.toNat 1)]? = some [(I x12)], Meets Try.prog 63 [(AV.ro 5 (p1.map o64)), (I x11), (I x12)] (AV.tup [(AV.own 3 1 (r13.1.map o3)), (B r13.2.1), (B r13.2.2)]), noRo (AV.tup [(AV.own 3 1 (r13.1.map o3)), (B r13.2.1), (B r13.2.2)]) = true, (0 : Int) ≤ 0, 0 < (((List.length (x10.map o3)) : Nat) : Int), (x10.map o3)[(Int.toNat 0)]? = some [(I x11)], (0 : Int) ≤ 1, 1 < (((List.length (x10.map o3)) : Nat) : Int), (x10.map o3)[(Int.toNat 1)]? = some [(I x12)], (B (decide (x11 < x12))) = (B true), (B r13.2.1) = (B false), ((a7.map o33).set (Int.toNat v8) [(AV.sl 1001 0 (List.length (x10.map o3)))])[(Int.toNat v8)]? = some [(AV.sl 1001 0 (List.length (x10.map o3)))], [(AV.sl 1001 0 (List.length (x10.map o3)))][0]? = some (AV.sl 1001 0 (List.length (x10.map o3))), treeLL (x10.map o3) = true, ((a7.map o33).set (Int.toNat v8) [(AV.sl 1001 0 (List.length (x10.map o3)))]).set (Int.toNat v8) ([(AV.sl 1001 0 (List.length (x10.map o3)))].set 0 (AV.own 3 1 (x10.map o3))) = (a7.map o33), (List.length (a7.map o33)) = (List.length (a7.map o33)), RenOK [(1, 1), (2, 2)] (a6.map o33), RenOK [(1, 1), (2, 2)] (a7.map o33)]) (by kernel_rfl) ⟨c9, (rd0 hx10), (rdL o33 hx10), (rdM o33 hx10), rfl, (by decide), rfl, (setE (rdM o33 hx10)), (rd0 hx11), (rdL o3 hx11), (rdM o3 hx11), (rd0 hx12), (rdL o3 hx12), (rdM o3 hx12), (spec_l8Gate_m hr13), (by simp only [noRo, noRoL, noRoM n3, Bool.and_self]), (rd0 hx11), (rdL o3 hx11), (rdM o3 hx11), (rd0 hx12), (rdL o3 hx12), (rdM o3 hx12), (litB c14), (litB c24), (setE (rdM o33 hx10)), rfl, (treeM t3), (setPi o33 hx10), rfl, (rok (treeM t33)), (rok (treeM t33)), trivial⟩ (ih a6 a7 (w64 (v8 + 1)) _ h)
      · exact go_to hΘ hm hx hP hn (hs := [⟨1, .br true, none⟩, ⟨3, .unpack 2 1001 (Int.toNat v8) 0 [(AV.own 3 1 (x10.map o3))] 3 1 (x10.map o3) ((a7.map o33).set (Int.toNat v8) [(AV.sl 1001 0 (List.length (x10.map o3)))]), none⟩, ⟨3, .row [(AV.sl 1001 0 (List.length (x10.map o3)))], none⟩, ⟨8, .row [(I x11)], none⟩, ⟨11, .row [(I x12)], none⟩, ⟨12, .call [] (AV.tup [(AV.own 3 1 (r13.1.map o3)), (B r13.2.1), (B r13.2.2)]) [1002], none⟩, ⟨22, .row [(I x11)], none⟩, ⟨25, .row [(I x12)], none⟩, ⟨27, .no, some (B false)⟩, ⟨41, .pack 2 1001 (Int.toNat v8) 0 [(AV.sl 1001 0 (List.length (x10.map o3)))] (a7.map o33), none⟩, ⟨41, .slen 14 (List.length (a7.map o33)), none⟩]) (π := [(1, 1), (2, 2)]) (ts := [0, 4, 14, 15, 16]) (kp := []) (ps := [(decide (v8 < (r5.length : Int))) = true, (0 : Int) ≤ v8, v8 < (((List.length (a7.map o33)) : Nat) : Int), (a7.map o33)[(Int.toNat v8)]? = some [(AV.own 3 1 (x10.map o3))], [(AV.own 3 1 (x10.map o3))][0]? = some (AV.own 3 1 (x10.map o3)), 0 < 1, (a7.map o33).set (Int.toNat v8) ([(AV.own 3 1 (x10.map o3))].set 0 (AV.sl 1001 0 (List.length (x10.map o3)))) = ((a7.map o33).set (Int.toNat v8) [(AV.sl 1001 0 (List.length (x10.map o3)))]), ((a7.map o33).set (Int.toNat v8) [(AV.sl 1001 0 (List.length (x10.map o3)))])[(Int.toNat v8)]? = some [(AV.sl 1001 0 (List.length (x10.map o3)))], (0 : Int) ≤ 0, 0 < (((List.length (x10.map o3)) : Nat) : Int), (x10.map o3)[(Int.toNat 0)]? = some [(I x11)], (0 : Int) ≤ 1, 1 < (((List.length (x10.map o3)) : Nat) : Int), (x10.map o3)[(Int.toNat 1)]? = some [(I x12)], Meets Try.prog 63 [(AV.ro 5 (p1.map o64)), (I x11), (I x12)] (AV.tup [(AV.own 3 1 (r13.1.map o3)), (B r13.2.1), (B r13.2.2)]), noRo (AV.tup [(AV.own 3 1 (r13.1.map o3)), (B r13.2.1), (B r13.2.2)]) = true, (0 : Int) ≤ 0, 0 < (((List.length (x10.map o3)) : Nat) : Int), (x10.map o3)[(Int.toNat 0)]? = some [(I x11)], (0 : Int) ≤ 1, 1 < (((List.length (x10.map o3)) : Nat) : Int), (x10.map o3)[(Int.toNat 1)]? = some [(I x12)], (B (decide (x11 < x12))) = (B false), ((a7.map o33).set (Int.toNat v8) [(AV.sl 1001 0 (List.length (x10.map o3)))])[(Int.toNat v8)]? = some [(AV.sl 1001 0 (List.length (x10.map o3)))], [(AV.sl 1001 0 (List.length (x10.map o3)))][0]? = some (AV.sl 1001 0 (List.length (x10.map o3))), treeLL (x10.map o3) = true, ((a7.map o33).set (Int.toNat v8) [(AV.sl 1001 0 (List.length (x10.map o3)))]).set (Int.toNat v8) ([(AV.sl 1001 0 (List.length (x10.map o3)))].set 0 (AV.own 3 1 (x10.map o3))) = (a7.map o33), (List.length (a7.map o33)) = (List.length (a7.map o33)), RenOK [(1, 1), (2, 2)] (a6.map o33), RenOK [(1, 1), (2, 2)] (a7.map o33)]) (by kernel_rfl) ⟨c9, (rd0 hx10), (rdL o33 hx10), (rdM o33 hx10), rfl, (by decide), rfl, (setE (rdM o33 hx10)), (rd0 hx11), (rdL o3 hx11), (rdM o3 hx11), (rd0 hx12), (rdL o3 hx12), (rdM o3 hx12), (spec_l8Gate_m hr13), (by simp only [noRo, noRoL, noRoM n3, Bool.and_self]), (rd0 hx11), (rdL o3 hx11), (rdM o3 hx11), (rd0 hx12), (rdL o3 hx12), (rdM o3 hx12), (litB c25), (setE (rdM o33 hx10)), rfl, (treeM t3), (setPi o33 hx10), rfl, (rok (treeM t33)), (rok (treeM t33)), trivial⟩ (ih a6 a7 (w64 (v8 + 1)) _ h)
    · have h := Option.some.inj h
      subst h
      exact go_ret hΘ hm hP hn (hs := [⟨1, .br false, none⟩]) (rh := []) (ph := .agg [.own, .raw]) (ps := [(decide (v8 < (r5.length : Int))) = false, treeLL ((a6.map o33).take (List.length (a6.map o33))) = true, (a6.map o33).take (List.length (a6.map o33)) = (a6.map o33), noRoLL (a6.map o33) = true, (B true) = (B true), litA (B true) = true]) (by kernel_rfl) ⟨c26, (treeT t33), takeM, (noRoM n33), rfl, rfl, trivial⟩
noncomputable def spec_WarnsGuarded (p1 : (List GEvent)) : Option ((List (List Int)) × Bool) :=
  Option.bind (spec_l6Trace p1) fun r2 =>
  if (!r2) = true then
    some ([], false)
  else
    Option.bind (spec_l8Pairs p1) fun r5 =>
    spec_WarnsGuarded_l0 p1 r5 FU [] r5 0
theorem spec_WarnsGuarded_m {p1 : (List GEvent)} {r : ((List (List Int)) × Bool)} (h : spec_WarnsGuarded p1 = some r) : Meets Try.prog 34 [(AV.ro 5 (p1.map o64))] (AV.tup [(AV.own 33 1 (r.1.map o33)), (B r.2)]) := by
  refine meets_ofC Θ_ok Try.func34 rfl (c := body34) (by kernel_rfl) (Nat.le_of_ble_eq_true rfl) ?_
  intro E hP hn hx
  replace hn : E.n = 62 := hn
  have hm : E.P.follows .mixedOrders = true := by rw [hP]; exact mixed
  have hΘ : TOK E.P Θ := by rw [hP]; exact Θ_ok
  unfold spec_WarnsGuarded at h
  show WAt E body34 (FQ (RetE Θ Try.f34.results.toList [] [] (AV.tup [(AV.own 33 1 (r.1.map o33)), (B r.2)]) E)) [] ⟨[(0, (AV.ro 5 (p1.map o64)))], [], [JJ]⟩
  obtain ⟨r2, hr2, h⟩ := bnS h
  rcases itS h with ⟨c3, h⟩ | ⟨c4, h⟩
  · have h := Option.some.inj h
    subst h
    exact go_ret hΘ hm hP hn (hs := [⟨3, .callV [] (B r2), none⟩, ⟨5, .br true, none⟩]) (rh := []) (ph := .agg [.own, .raw]) (ps := [Meets Try.prog 43 [(AV.ro 5 (p1.map o64))] (B r2), litA (B r2) = true, (!r2) = true, (B false) = (B false), litA (B false) = true]) (by kernel_rfl) ⟨(spec_l6Trace_m hr2), rfl, c3, rfl, rfl, trivial⟩
  · obtain ⟨r5, hr5, h⟩ := bnS h
    exact go_to hΘ hm hx hP hn (hs := [⟨3, .callV [] (B r2), none⟩, ⟨5, .br false, none⟩, ⟨8, .call [] (AV.own 33 1 (r5.map o33)) [1001], none⟩, ⟨9, .no, some (I (r5.length : Int))⟩, ⟨11, .nil 4 1002 33 1, none⟩]) (π := [(1002, 1), (1001, 2)]) (ts := [0, 4, 14, 15, 16]) (kp := []) (ps := [Meets Try.prog 43 [(AV.ro 5 (p1.map o64))] (B r2), litA (B r2) = true, (!r2) = false, Meets Try.prog 51 [(AV.ro 5 (p1.map o64))] (AV.own 33 1 (r5.map o33)), noRo (AV.own 33 1 (r5.map o33)) = true, AV.lit (.int .i64 (((List.length (r5.map o33)) : Nat) : Int)) = (I (r5.length : Int)), RenOK [(1002, 1), (1001, 2)] ([].map o33), RenOK [(1002, 1), (1001, 2)] (r5.map o33)]) (by kernel_rfl) ⟨(spec_l6Trace_m hr2), rfl, c4, (spec_l8Pairs_m hr5), (by simp only [noRo, noRoL, noRoM n33, Bool.and_self]), (lenM o33), (rok (treeM t33)), (rok (treeM t33)), trivial⟩ (spec_WarnsGuarded_l0_m hP hn hx p1 r5 FU [] r5 0 _ h)
end Go.Proofs.Ytihgcgccajikpaa
