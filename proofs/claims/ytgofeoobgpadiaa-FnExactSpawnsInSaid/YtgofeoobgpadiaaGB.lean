/- Functions as plain data, and that the code comes to them; no condition. -/

import Derived.Test.YtgofeoobgpadiaaGA
set_option linter.unusedVariables false
set_option maxRecDepth 100000
namespace Go.Proofs.Ytgofeoobgpadiaa
open Go Go.T
noncomputable def body37 : Code := match Try.f37.body with | some c => c | none => .skip
noncomputable def spec_GoodProg_l1 (K0 : GProg → Int → Option Bool) (p1 : GProg) (v15 : Int) (x17 : (List GOp)) : Nat → GProg → Int → Option Bool
  | 0, _, _ => none
  | n + 1, a18, v19 =>
  if (decide (v19 < (x17.length : Int))) = true then
    Option.bind (rd x17 v19) fun x21 =>
    Option.bind (spec_l2Op a18 (x17.length : Int) x21) fun r22 =>
    if (!r22) = true then
      some false
    else
      spec_GoodProg_l1 K0 p1 v15 x17 n a18 (w64 (v19 + 1))
  else
    if (decide ((x17.length : Int) > 24)) = true then
      some false
    else
      K0 a18 (w64 (v15 + 1))
theorem spec_GoodProg_l1_m {E : Env} (hP : E.P = Try.prog) (hn : E.n = 54) (hx : ∀ p, p ∈ E.fx → p.1 ∈ ([] : List Nat)) (p1 : GProg) (v15 : Int) (x17 : (List GOp)) {K0 : GProg → Int → Option Bool} (hK0 : ∀ (a14 : GProg) (v15 : Int) (r : Bool), K0 a14 v15 = some r → WAt E body37 (FQ (RetE Θ Try.f37.results.toList [] [] (B r) E)) [true, true, false, true, false] ⟨[(1, (AV.ptr 1 0 0)), (31, (AV.ro 1 (p1.Routines.map r82))), (32, (I (p1.Routines.length : Int))), (33, (I v15))], [(1, some ⟨35, 4, [((r35 a14))]⟩)], [1, JJ]⟩) : ∀ (n : Nat) (a18 : GProg) (v19 : Int) (r : Bool), spec_GoodProg_l1 K0 p1 v15 x17 n a18 v19 = some r → WAt E body37 (FQ (RetE Θ Try.f37.results.toList [] [] (B r) E)) [true, true, false, true, false, false, true, true, false, false, true, false, true, false] ⟨[(1, (AV.ptr 1 0 0)), (4, (AV.ro 4 (x17.map o85))), (31, (AV.ro 1 (p1.Routines.map r82))), (32, (I (p1.Routines.length : Int))), (33, (I v15)), (37, (AV.ro 4 (x17.map o85))), (38, (I (x17.length : Int))), (39, (I v19))], [(1, some ⟨35, 4, [((r35 a18))]⟩)], [1, JJ]⟩ := by
  have hm : E.P.follows .mixedOrders = true := by rw [hP]; exact mixed
  have hΘ : TOK E.P Θ := by rw [hP]; exact Θ_ok
  intro n
  induction n with
  | zero => intro a18 v19 r h; simp only [spec_GoodProg_l1] at h; cases h
  | succ n ih =>
    intro a18 v19 r h
    simp only [spec_GoodProg_l1] at h
    rcases itS h with ⟨c20, h⟩ | ⟨c25, h⟩
    · obtain ⟨x21, hx21, h⟩ := bnS h
      obtain ⟨r22, hr22, h⟩ := bnS h
      rcases itS h with ⟨c23, h⟩ | ⟨c24, h⟩
      · have h := Option.some.inj h
        subst h
        exact go_ret hΘ hm hP hn (hs := [⟨1, .br true, none⟩, ⟨2, .row (o85 x21), none⟩, ⟨4, .new 1001, none⟩, ⟨8, .no, some (I (x17.length : Int))⟩, ⟨10, .callV [[], []] (B r22), none⟩, ⟨12, .br true, none⟩]) (rh := []) (ph := .raw) (ps := [(decide (v19 < (x17.length : Int))) = true, (0 : Int) ≤ v19, (x17.map o85)[(Int.toNat v19)]? = some (o85 x21), AV.lit (.int .i64 (((x17.map o85).length : Nat) : Int)) = (I (x17.length : Int)), Meets Try.prog 69 [(AV.agg ((r35 a18))), (I (x17.length : Int)), (AV.agg ((o85 x21)))] (B r22), litA (B r22) = true, (!r22) = true, (B false) = (B false), litA (B false) = true]) (by kernel_rfl) ⟨c20, (rd0 hx21), (rdM o85 hx21), (lenM o85), (spec_l2Op_m hr22), rfl, c23, rfl, rfl, trivial⟩
      · exact go_to hΘ hm hx hP hn (hs := [⟨1, .br true, none⟩, ⟨2, .row (o85 x21), none⟩, ⟨4, .new 1001, none⟩, ⟨8, .no, some (I (x17.length : Int))⟩, ⟨10, .callV [[], []] (B r22), none⟩, ⟨12, .br false, none⟩]) (π := [(1, 1)]) (ts := [1, 4, 31, 32, 33, 37, 38, 39]) (kp := []) (ps := [(decide (v19 < (x17.length : Int))) = true, (0 : Int) ≤ v19, (x17.map o85)[(Int.toNat v19)]? = some (o85 x21), AV.lit (.int .i64 (((x17.map o85).length : Nat) : Int)) = (I (x17.length : Int)), Meets Try.prog 69 [(AV.agg ((r35 a18))), (I (x17.length : Int)), (AV.agg ((o85 x21)))] (B r22), litA (B r22) = true, (!r22) = false, RenOK [(1, 1)] [((r35 a18))]]) (by kernel_rfl) ⟨c20, (rd0 hx21), (rdM o85 hx21), (lenM o85), (spec_l2Op_m hr22), rfl, c24, (rok (treeB t35 a18)), trivial⟩ (ih a18 (w64 (v19 + 1)) _ h)
    · rcases itS h with ⟨c26, h⟩ | ⟨c27, h⟩
      · have h := Option.some.inj h
        subst h
        exact go_ret hΘ hm hP hn (hs := [⟨1, .br false, none⟩, ⟨3, .no, some (I (x17.length : Int))⟩, ⟨5, .br true, none⟩]) (rh := []) (ph := .raw) (ps := [(decide (v19 < (x17.length : Int))) = false, AV.lit (.int .i64 (((x17.map o85).length : Nat) : Int)) = (I (x17.length : Int)), (decide ((x17.length : Int) > 24)) = true, (B false) = (B false), litA (B false) = true]) (by kernel_rfl) ⟨c25, (lenM o85), c26, rfl, rfl, trivial⟩
      · exact go_to hΘ hm hx hP hn (hs := [⟨1, .br false, none⟩, ⟨3, .no, some (I (x17.length : Int))⟩, ⟨5, .br false, none⟩]) (π := [(1, 1)]) (ts := [1, 31, 32, 33]) (kp := []) (ps := [(decide (v19 < (x17.length : Int))) = false, AV.lit (.int .i64 (((x17.map o85).length : Nat) : Int)) = (I (x17.length : Int)), (decide ((x17.length : Int) > 24)) = false, RenOK [(1, 1)] [((r35 a18))]]) (by kernel_rfl) ⟨c25, (lenM o85), c27, (rok (treeB t35 a18)), trivial⟩ (hK0 a18 (w64 (v15 + 1)) _ h)
noncomputable def spec_GoodProg_l0  (p1 : GProg) : Nat → GProg → Int → Option Bool
  | 0, _, _ => none
  | n + 1, a14, v15 =>
  if (decide (v15 < (p1.Routines.length : Int))) = true then
    Option.bind (rd p1.Routines v15) fun x17 =>
    spec_GoodProg_l1 (spec_GoodProg_l0 p1 n) p1 v15 x17 FU a14 0
  else
    some true
theorem spec_GoodProg_l0_m {E : Env} (hP : E.P = Try.prog) (hn : E.n = 54) (hx : ∀ p, p ∈ E.fx → p.1 ∈ ([] : List Nat)) (p1 : GProg)  : ∀ (n : Nat) (a14 : GProg) (v15 : Int) (r : Bool), spec_GoodProg_l0 p1 n a14 v15 = some r → WAt E body37 (FQ (RetE Θ Try.f37.results.toList [] [] (B r) E)) [true, true, false, true, false] ⟨[(1, (AV.ptr 1 0 0)), (31, (AV.ro 1 (p1.Routines.map r82))), (32, (I (p1.Routines.length : Int))), (33, (I v15))], [(1, some ⟨35, 4, [((r35 a14))]⟩)], [1, JJ]⟩ := by
  have hm : E.P.follows .mixedOrders = true := by rw [hP]; exact mixed
  have hΘ : TOK E.P Θ := by rw [hP]; exact Θ_ok
  intro n
  induction n with
  | zero => intro a14 v15 r h; simp only [spec_GoodProg_l0] at h; cases h
  | succ n ih =>
    intro a14 v15 r h
    simp only [spec_GoodProg_l0] at h
    rcases itS h with ⟨c16, h⟩ | ⟨c28, h⟩
    · obtain ⟨x17, hx17, h⟩ := bnS h
      exact go_to hΘ hm hx hP hn (hs := [⟨1, .br true, none⟩, ⟨2, .row (r82 x17), none⟩, ⟨6, .no, some (I (x17.length : Int))⟩]) (π := [(1, 1)]) (ts := [1, 4, 31, 32, 33, 37, 38, 39]) (kp := []) (ps := [(decide (v15 < (p1.Routines.length : Int))) = true, (0 : Int) ≤ v15, (p1.Routines.map r82)[(Int.toNat v15)]? = some (r82 x17), AV.lit (.int .i64 (((x17.map o85).length : Nat) : Int)) = (I (x17.length : Int)), RenOK [(1, 1)] [((r35 a14))]]) (by kernel_rfl) ⟨c16, (rd0 hx17), (rdM r82 hx17), (lenM o85), (rok (treeB t35 a14)), trivial⟩ (spec_GoodProg_l1_m hP hn hx p1 v15 x17 ih FU a14 0 _ h)
    · have h := Option.some.inj h
      subst h
      exact go_ret hΘ hm hP hn (hs := [⟨1, .br false, none⟩]) (rh := []) (ph := .raw) (ps := [(decide (v15 < (p1.Routines.length : Int))) = false, (B true) = (B true), litA (B true) = true]) (by kernel_rfl) ⟨c28, rfl, rfl, trivial⟩
noncomputable def spec_GoodProg (p1 : GProg) : Option Bool :=
  Option.bind (spec_l1In p1.Cells 0 4) fun r2 =>
  if (!r2) = true then
    some false
  else
    Option.bind (spec_l1In p1.Locks 0 4) fun r5 =>
    if (!r5) = true then
      some false
    else
      Option.bind (spec_l1In p1.Conds 0 2) fun r8 =>
      if (!r8) = true then
        some false
      else
        Option.bind (spec_l1In (p1.Routines.length : Int) 1 4) fun r11 =>
        if (!r11) = true then
          some false
        else
          spec_GoodProg_l0 p1 FU p1 0
theorem spec_GoodProg_m {p1 : GProg} {r : Bool} (h : spec_GoodProg p1 = some r) : Meets Try.prog 37 [(AV.agg ((r35 p1)))] (B r) := by
  refine meets_ofC Θ_ok Try.func37 rfl (c := body37) (by kernel_rfl) (Nat.le_of_ble_eq_true rfl) ?_
  intro E hP hn hx
  replace hn : E.n = 54 := hn
  have hm : E.P.follows .mixedOrders = true := by rw [hP]; exact mixed
  have hΘ : TOK E.P Θ := by rw [hP]; exact Θ_ok
  unfold spec_GoodProg at h
  show WAt E body37 (FQ (RetE Θ Try.f37.results.toList [] [] (B r) E)) [] ⟨[(0, (AV.agg ((r35 p1))))], [], [JJ]⟩
  obtain ⟨r2, hr2, h⟩ := bnS h
  rcases itS h with ⟨c3, h⟩ | ⟨c4, h⟩
  · have h := Option.some.inj h
    subst h
    exact go_ret hΘ hm hP hn (hs := [⟨0, .new 1001, none⟩, ⟨4, .callV [] (B r2), none⟩, ⟨6, .no, some (B true)⟩]) (rh := []) (ph := .raw) (ps := [Meets Try.prog 68 [(I p1.Cells), (I 0), (I 4)] (B r2), litA (B r2) = true, (B (!r2)) = (B true), (B false) = (B false), litA (B false) = true]) (by kernel_rfl) ⟨(spec_l1In_m hr2), rfl, (litB c3), rfl, rfl, trivial⟩
  · obtain ⟨r5, hr5, h⟩ := bnS h
    rcases itS h with ⟨c6, h⟩ | ⟨c7, h⟩
    · have h := Option.some.inj h
      subst h
      exact go_ret hΘ hm hP hn (hs := [⟨0, .new 1001, none⟩, ⟨4, .callV [] (B r2), none⟩, ⟨6, .no, some (B false)⟩, ⟨9, .callV [] (B r5), none⟩, ⟨12, .no, some (B true)⟩]) (rh := []) (ph := .raw) (ps := [Meets Try.prog 68 [(I p1.Cells), (I 0), (I 4)] (B r2), litA (B r2) = true, (B (!r2)) = (B false), Meets Try.prog 68 [(I p1.Locks), (I 0), (I 4)] (B r5), litA (B r5) = true, (B (!r5)) = (B true), (B false) = (B false), litA (B false) = true]) (by kernel_rfl) ⟨(spec_l1In_m hr2), rfl, (litB c4), (spec_l1In_m hr5), rfl, (litB c6), rfl, rfl, trivial⟩
    · obtain ⟨r8, hr8, h⟩ := bnS h
      rcases itS h with ⟨c9, h⟩ | ⟨c10, h⟩
      · have h := Option.some.inj h
        subst h
        exact go_ret hΘ hm hP hn (hs := [⟨0, .new 1001, none⟩, ⟨4, .callV [] (B r2), none⟩, ⟨6, .no, some (B false)⟩, ⟨9, .callV [] (B r5), none⟩, ⟨12, .no, some (B false)⟩, ⟨15, .callV [] (B r8), none⟩, ⟨18, .no, some (B true)⟩]) (rh := []) (ph := .raw) (ps := [Meets Try.prog 68 [(I p1.Cells), (I 0), (I 4)] (B r2), litA (B r2) = true, (B (!r2)) = (B false), Meets Try.prog 68 [(I p1.Locks), (I 0), (I 4)] (B r5), litA (B r5) = true, (B (!r5)) = (B false), Meets Try.prog 68 [(I p1.Conds), (I 0), (I 2)] (B r8), litA (B r8) = true, (B (!r8)) = (B true), (B false) = (B false), litA (B false) = true]) (by kernel_rfl) ⟨(spec_l1In_m hr2), rfl, (litB c4), (spec_l1In_m hr5), rfl, (litB c7), (spec_l1In_m hr8), rfl, (litB c9), rfl, rfl, trivial⟩
      · obtain ⟨r11, hr11, h⟩ := bnS h
        rcases itS h with ⟨c12, h⟩ | ⟨c13, h⟩
        · have h := Option.some.inj h
          subst h
          exact go_ret hΘ hm hP hn (hs := [⟨0, .new 1001, none⟩, ⟨4, .callV [] (B r2), none⟩, ⟨6, .no, some (B false)⟩, ⟨9, .callV [] (B r5), none⟩, ⟨12, .no, some (B false)⟩, ⟨15, .callV [] (B r8), none⟩, ⟨18, .no, some (B false)⟩, ⟨21, .no, some (I (p1.Routines.length : Int))⟩, ⟨22, .callV [] (B r11), none⟩, ⟨25, .br true, none⟩]) (rh := []) (ph := .raw) (ps := [Meets Try.prog 68 [(I p1.Cells), (I 0), (I 4)] (B r2), litA (B r2) = true, (B (!r2)) = (B false), Meets Try.prog 68 [(I p1.Locks), (I 0), (I 4)] (B r5), litA (B r5) = true, (B (!r5)) = (B false), Meets Try.prog 68 [(I p1.Conds), (I 0), (I 2)] (B r8), litA (B r8) = true, (B (!r8)) = (B false), AV.lit (.int .i64 (((p1.Routines.map r82).length : Nat) : Int)) = (I (p1.Routines.length : Int)), Meets Try.prog 68 [(I (p1.Routines.length : Int)), (I 1), (I 4)] (B r11), litA (B r11) = true, (!r11) = true, (B false) = (B false), litA (B false) = true]) (by kernel_rfl) ⟨(spec_l1In_m hr2), rfl, (litB c4), (spec_l1In_m hr5), rfl, (litB c7), (spec_l1In_m hr8), rfl, (litB c10), (lenM r82), (spec_l1In_m hr11), rfl, c12, rfl, rfl, trivial⟩
        · exact go_to hΘ hm hx hP hn (hs := [⟨0, .new 1001, none⟩, ⟨4, .callV [] (B r2), none⟩, ⟨6, .no, some (B false)⟩, ⟨9, .callV [] (B r5), none⟩, ⟨12, .no, some (B false)⟩, ⟨15, .callV [] (B r8), none⟩, ⟨18, .no, some (B false)⟩, ⟨21, .no, some (I (p1.Routines.length : Int))⟩, ⟨22, .callV [] (B r11), none⟩, ⟨25, .br false, none⟩, ⟨28, .no, some (I (p1.Routines.length : Int))⟩]) (π := [(1001, 1)]) (ts := [1, 31, 32, 33]) (kp := []) (ps := [Meets Try.prog 68 [(I p1.Cells), (I 0), (I 4)] (B r2), litA (B r2) = true, (B (!r2)) = (B false), Meets Try.prog 68 [(I p1.Locks), (I 0), (I 4)] (B r5), litA (B r5) = true, (B (!r5)) = (B false), Meets Try.prog 68 [(I p1.Conds), (I 0), (I 2)] (B r8), litA (B r8) = true, (B (!r8)) = (B false), AV.lit (.int .i64 (((p1.Routines.map r82).length : Nat) : Int)) = (I (p1.Routines.length : Int)), Meets Try.prog 68 [(I (p1.Routines.length : Int)), (I 1), (I 4)] (B r11), litA (B r11) = true, (!r11) = false, AV.lit (.int .i64 (((p1.Routines.map r82).length : Nat) : Int)) = (I (p1.Routines.length : Int)), RenOK [(1001, 1)] [((r35 p1))]]) (by kernel_rfl) ⟨(spec_l1In_m hr2), rfl, (litB c4), (spec_l1In_m hr5), rfl, (litB c7), (spec_l1In_m hr8), rfl, (litB c10), (lenM r82), (spec_l1In_m hr11), rfl, c13, (lenM r82), (rok (treeB t35 p1)), trivial⟩ (spec_GoodProg_l0_m hP hn hx p1 FU p1 0 _ h)
noncomputable def body62 : Code := match Try.f62.body with | some c => c | none => .skip
noncomputable def spec_l1Put_j2  (p1 : (List Int)) (p2 : Int) (v3 : Int)  : Option (List Int) :=
  Option.bind (slc p1 0 v3) fun l12 =>
  Option.bind (app [] l12) fun l13 =>
  Option.bind (app l13 [p2]) fun l14 =>
  Option.bind (slc p1 v3 (p1.length : Int)) fun l15 =>
  Option.bind (app l14 l15) fun l16 =>
  some l16
theorem spec_l1Put_j2_m {E : Env} (hP : E.P = Try.prog) (hn : E.n = 48) (hx : ∀ p, p ∈ E.fx → p.1 ∈ ([] : List Nat)) (p1 : (List Int)) (p2 : Int) (v3 : Int)   (r : (List Int)) (h : spec_l1Put_j2 p1 p2 v3  = some r) : WAt E body62 (FQ (RetE Θ Try.f62.results.toList [false] [⟨3, 1, (p1.map o3)⟩] (AV.own 3 1 (r.map o3)) E)) [true, true, true, false, true, true] ⟨[(0, (AV.sl 1 0 (List.length (p1.map o3)))), (1, (I p2)), (5, (I v3))], [(1, some ⟨3, 1, (p1.map o3)⟩)], [1, JJ]⟩ := by
  have hm : E.P.follows .mixedOrders = true := by rw [hP]; exact mixed
  have hΘ : TOK E.P Θ := by rw [hP]; exact Θ_ok
  unfold spec_l1Put_j2 at h
  obtain ⟨l12, hl12, h⟩ := bnS h
  obtain ⟨l13, hl13, h⟩ := bnS h
  obtain ⟨l14, hl14, h⟩ := bnS h
  obtain ⟨l15, hl15, h⟩ := bnS h
  obtain ⟨l16, hl16, h⟩ := bnS h
  have h := Option.some.inj h
  subst h
  exact go_ret hΘ hm hP hn (hs := [⟨0, .new 1001, none⟩, ⟨4, .app 1002 (l13.map o3), none⟩, ⟨8, .new 1003, none⟩, ⟨9, .app 1004 (l14.map o3), none⟩, ⟨15, .app 1005 (l16.map o3), none⟩]) (rh := []) (ph := .own) (ps := [(0 : Int) ≤ 0, 0 ≤ v3, v3 ≤ (((List.length (p1.map o3)) : Nat) : Int), ([].map o3).take (List.length ([].map o3)) ++ (((p1.map o3).drop 0).take (Int.toNat v3)) = (l13.map o3), (((p1.map o3).drop 0).take (Int.toNat v3)).all (fun r => r.all AV.plain) = true, (List.length (l13.map o3)) * 8 ≤ 140737488355328, (List.length (l13.map o3)) ≤ 140737488355328, (l13.map o3).take (List.length (l13.map o3)) ++ ((([p2].map o3).drop 0).take (List.length ([p2].map o3))) = (l14.map o3), ((([p2].map o3).drop 0).take (List.length ([p2].map o3))).all (fun r => r.all AV.plain) = true, (List.length (l14.map o3)) * 8 ≤ 140737488355328, (List.length (l14.map o3)) ≤ 140737488355328, (0 : Int) ≤ v3, v3 ≤ (((p1.map o3).length : Nat) : Int), (((p1.map o3).length : Nat) : Int) ≤ (((List.length (p1.map o3)) : Nat) : Int), (l14.map o3).take (List.length (l14.map o3)) ++ (((p1.map o3).drop (Int.toNat v3)).take (subO (Int.toNat (((p1.map o3).length : Nat) : Int)) (Int.toNat v3))) = (l16.map o3), (((p1.map o3).drop (Int.toNat v3)).take (subO (Int.toNat (((p1.map o3).length : Nat) : Int)) (Int.toNat v3))).all (fun r => r.all AV.plain) = true, (List.length (l16.map o3)) * 8 ≤ 140737488355328, (List.length (l16.map o3)) ≤ 140737488355328, treeLL ((l16.map o3).take (List.length (l16.map o3))) = true, (l16.map o3).take (List.length (l16.map o3)) = (l16.map o3), noRoLL (l16.map o3) = true]) (by kernel_rfl) ⟨(sl0 hl12), (sl1 hl12), (sl2 o3 hl12), (appTDS0 o3 hl13 hl12), (plD p3), (appB o3 hl13 (by decide)), (appC o3 hl13), (appTD o3 hl14), (plD p3), (appB o3 hl14 (by decide)), (appC o3 hl14), (sl0 hl15), (sl1e o3 hl15), (Int.le_refl _), (appTDSe o3 hl16 hl15), (plD p3), (appB o3 hl16 (by decide)), (appC o3 hl16), (treeT t3), takeM, (noRoM n3), trivial⟩
noncomputable def spec_l1Put_j1 (K0 : Int → Option (List Int)) (p1 : (List Int)) (p2 : Int) (v3 : Int)  : Option (List Int) :=
  if (decide (v3 < (p1.length : Int))) = true then
    Option.bind (rd p1 v3) fun x9 =>
    if (x9 == p2) = true then
      some p1
    else
      spec_l1Put_j2 p1 p2 v3
  else
    spec_l1Put_j2 p1 p2 v3
theorem spec_l1Put_j1_m {E : Env} (hP : E.P = Try.prog) (hn : E.n = 48) (hx : ∀ p, p ∈ E.fx → p.1 ∈ ([] : List Nat)) (p1 : (List Int)) (p2 : Int) (v3 : Int) {K0 : Int → Option (List Int)} (hK0 : ∀ (v3 : Int) (r : (List Int)), K0 v3 = some r → WAt E body62 (FQ (RetE Θ Try.f62.results.toList [false] [⟨3, 1, (p1.map o3)⟩] (AV.own 3 1 (r.map o3)) E)) [true, true, false, false] ⟨[(0, (AV.sl 1 0 (List.length (p1.map o3)))), (1, (I p2)), (5, (I v3))], [(1, some ⟨3, 1, (p1.map o3)⟩)], [1, JJ]⟩)  (r : (List Int)) (h : spec_l1Put_j1 K0 p1 p2 v3  = some r) : WAt E body62 (FQ (RetE Θ Try.f62.results.toList [false] [⟨3, 1, (p1.map o3)⟩] (AV.own 3 1 (r.map o3)) E)) [true, true, false, false, false, false, true, true] ⟨[(0, (AV.sl 1 0 (List.length (p1.map o3)))), (1, (I p2)), (5, (I v3))], [(1, some ⟨3, 1, (p1.map o3)⟩)], [1, JJ]⟩ := by
  have hm : E.P.follows .mixedOrders = true := by rw [hP]; exact mixed
  have hΘ : TOK E.P Θ := by rw [hP]; exact Θ_ok
  unfold spec_l1Put_j1 at h
  rcases itS h with ⟨c8, h⟩ | ⟨c17, h⟩
  · obtain ⟨x9, hx9, h⟩ := bnS h
    rcases itS h with ⟨c10, h⟩ | ⟨c11, h⟩
    · have h := Option.some.inj h
      subst h
      exact go_ret hΘ hm hP hn (hs := [⟨2, .no, some (I (p1.length : Int))⟩, ⟨4, .no, some (B true)⟩, ⟨8, .row [(I x9)], none⟩, ⟨12, .br true, none⟩]) (rh := []) (ph := .own) (ps := [AV.lit (.int .i64 (((List.length (p1.map o3)) : Nat) : Int)) = (I (p1.length : Int)), (B (decide (v3 < (p1.length : Int)))) = (B true), (0 : Int) ≤ v3, v3 < (((List.length (p1.map o3)) : Nat) : Int), (p1.map o3)[(Int.toNat v3)]? = some [(I x9)], (x9 == p2) = true, treeLL ((p1.map o3).take (List.length (p1.map o3))) = true, (p1.map o3).take (List.length (p1.map o3)) = (p1.map o3), noRoLL (p1.map o3) = true]) (by kernel_rfl) ⟨(lenM o3), (litB c8), (rd0 hx9), (rdL o3 hx9), (rdM o3 hx9), c10, (treeT t3), takeM, (noRoM n3), trivial⟩
    · exact go_to hΘ hm hx hP hn (hs := [⟨2, .no, some (I (p1.length : Int))⟩, ⟨4, .no, some (B true)⟩, ⟨8, .row [(I x9)], none⟩, ⟨12, .br false, none⟩]) (π := [(1, 1)]) (ts := [0, 1, 5]) (kp := []) (ps := [AV.lit (.int .i64 (((List.length (p1.map o3)) : Nat) : Int)) = (I (p1.length : Int)), (B (decide (v3 < (p1.length : Int)))) = (B true), (0 : Int) ≤ v3, v3 < (((List.length (p1.map o3)) : Nat) : Int), (p1.map o3)[(Int.toNat v3)]? = some [(I x9)], (x9 == p2) = false, RenOK [(1, 1)] (p1.map o3)]) (by kernel_rfl) ⟨(lenM o3), (litB c8), (rd0 hx9), (rdL o3 hx9), (rdM o3 hx9), c11, (rok (treeM t3)), trivial⟩ (spec_l1Put_j2_m hP hn hx p1 p2 v3  _ h)
  · exact go_to hΘ hm hx hP hn (hs := [⟨2, .no, some (I (p1.length : Int))⟩, ⟨4, .no, some (B false)⟩]) (π := [(1, 1)]) (ts := [0, 1, 5]) (kp := []) (ps := [AV.lit (.int .i64 (((List.length (p1.map o3)) : Nat) : Int)) = (I (p1.length : Int)), (B (decide (v3 < (p1.length : Int)))) = (B false), RenOK [(1, 1)] (p1.map o3)]) (by kernel_rfl) ⟨(lenM o3), (litB c17), (rok (treeM t3)), trivial⟩ (spec_l1Put_j2_m hP hn hx p1 p2 v3  _ h)
noncomputable def spec_l1Put_l0  (p1 : (List Int)) (p2 : Int) : Nat → Int → Option (List Int)
  | 0, _ => none
  | n + 1, v3 =>
  if (decide (v3 < (p1.length : Int))) = true then
    Option.bind (rd p1 v3) fun x5 =>
    if (decide (x5 < p2)) = true then
      spec_l1Put_l0 p1 p2 n (w64 (v3 + 1))
    else
      spec_l1Put_j1 (spec_l1Put_l0 p1 p2 n) p1 p2 v3
  else
    spec_l1Put_j1 (spec_l1Put_l0 p1 p2 n) p1 p2 v3
theorem spec_l1Put_l0_m {E : Env} (hP : E.P = Try.prog) (hn : E.n = 48) (hx : ∀ p, p ∈ E.fx → p.1 ∈ ([] : List Nat)) (p1 : (List Int)) (p2 : Int)  : ∀ (n : Nat) (v3 : Int) (r : (List Int)), spec_l1Put_l0 p1 p2 n v3 = some r → WAt E body62 (FQ (RetE Θ Try.f62.results.toList [false] [⟨3, 1, (p1.map o3)⟩] (AV.own 3 1 (r.map o3)) E)) [true, true, false, false] ⟨[(0, (AV.sl 1 0 (List.length (p1.map o3)))), (1, (I p2)), (5, (I v3))], [(1, some ⟨3, 1, (p1.map o3)⟩)], [1, JJ]⟩ := by
  have hm : E.P.follows .mixedOrders = true := by rw [hP]; exact mixed
  have hΘ : TOK E.P Θ := by rw [hP]; exact Θ_ok
  intro n
  induction n with
  | zero => intro v3 r h; simp only [spec_l1Put_l0] at h; cases h
  | succ n ih =>
    intro v3 r h
    simp only [spec_l1Put_l0] at h
    rcases itS h with ⟨c4, h⟩ | ⟨c18, h⟩
    · obtain ⟨x5, hx5, h⟩ := bnS h
      rcases itS h with ⟨c6, h⟩ | ⟨c7, h⟩
      · exact go_to hΘ hm hx hP hn (hs := [⟨2, .no, some (I (p1.length : Int))⟩, ⟨4, .no, some (B true)⟩, ⟨8, .row [(I x5)], none⟩, ⟨12, .br true, none⟩]) (π := [(1, 1)]) (ts := [0, 1, 5]) (kp := []) (ps := [AV.lit (.int .i64 (((List.length (p1.map o3)) : Nat) : Int)) = (I (p1.length : Int)), (B (decide (v3 < (p1.length : Int)))) = (B true), (0 : Int) ≤ v3, v3 < (((List.length (p1.map o3)) : Nat) : Int), (p1.map o3)[(Int.toNat v3)]? = some [(I x5)], (decide (x5 < p2)) = true, RenOK [(1, 1)] (p1.map o3)]) (by kernel_rfl) ⟨(lenM o3), (litB c4), (rd0 hx5), (rdL o3 hx5), (rdM o3 hx5), c6, (rok (treeM t3)), trivial⟩ (ih (w64 (v3 + 1)) _ h)
      · exact go_to hΘ hm hx hP hn (hs := [⟨2, .no, some (I (p1.length : Int))⟩, ⟨4, .no, some (B true)⟩, ⟨8, .row [(I x5)], none⟩, ⟨12, .br false, none⟩]) (π := [(1, 1)]) (ts := [0, 1, 5]) (kp := []) (ps := [AV.lit (.int .i64 (((List.length (p1.map o3)) : Nat) : Int)) = (I (p1.length : Int)), (B (decide (v3 < (p1.length : Int)))) = (B true), (0 : Int) ≤ v3, v3 < (((List.length (p1.map o3)) : Nat) : Int), (p1.map o3)[(Int.toNat v3)]? = some [(I x5)], (decide (x5 < p2)) = false, RenOK [(1, 1)] (p1.map o3)]) (by kernel_rfl) ⟨(lenM o3), (litB c4), (rd0 hx5), (rdL o3 hx5), (rdM o3 hx5), c7, (rok (treeM t3)), trivial⟩ (spec_l1Put_j1_m hP hn hx p1 p2 v3 ih  _ h)
    · exact go_to hΘ hm hx hP hn (hs := [⟨2, .no, some (I (p1.length : Int))⟩, ⟨4, .no, some (B false)⟩]) (π := [(1, 1)]) (ts := [0, 1, 5]) (kp := []) (ps := [AV.lit (.int .i64 (((List.length (p1.map o3)) : Nat) : Int)) = (I (p1.length : Int)), (B (decide (v3 < (p1.length : Int)))) = (B false), RenOK [(1, 1)] (p1.map o3)]) (by kernel_rfl) ⟨(lenM o3), (litB c18), (rok (treeM t3)), trivial⟩ (spec_l1Put_j1_m hP hn hx p1 p2 v3 ih  _ h)
noncomputable def spec_l1Put (p1 : (List Int)) (p2 : Int) : Option (List Int) :=
  spec_l1Put_l0 p1 p2 FU 0
theorem spec_l1Put_m {p1 : (List Int)} {p2 : Int} {r : (List Int)} (h : spec_l1Put p1 p2 = some r) : MeetsR Try.prog 62 [⟨3, 1, (p1.map o3)⟩] [(AV.sl 0 0 (List.length (p1.map o3))), (I p2)] [false] [⟨3, 1, (p1.map o3)⟩] (AV.own 3 1 (r.map o3)) := by
  refine meetsR_of Θ_ok Try.func62 rfl (c := body62) (by kernel_rfl) (Nat.le_of_ble_eq_true rfl) rfl (Nat.le_of_ble_eq_true rfl) rfl (fr := []) (frI rfl) ?_
  intro E hP hn hx
  replace hn : E.n = 48 := hn
  have hm : E.P.follows .mixedOrders = true := by rw [hP]; exact mixed
  have hΘ : TOK E.P Θ := by rw [hP]; exact Θ_ok
  unfold spec_l1Put at h
  show WAt E body62 (FQ (RetE Θ Try.f62.results.toList [false] [⟨3, 1, (p1.map o3)⟩] (AV.own 3 1 (r.map o3)) E)) [] ⟨[(0, (AV.sl 0 0 (List.length (p1.map o3)))), (1, (I p2))], [(0, some ⟨3, 1, (p1.map o3)⟩)], [0, JJ]⟩
  exact go_to hΘ hm hx hP hn (hs := []) (π := [(0, 1)]) (ts := [0, 1, 5]) (kp := []) (ps := [RenOK [(0, 1)] (p1.map o3)]) (by kernel_rfl) ⟨(rok (treeM t3)), trivial⟩ (spec_l1Put_l0_m hP hn hx p1 p2 FU 0 _ h)
noncomputable def body26 : Code := match Try.f26.body with | some c => c | none => .skip
noncomputable def spec_SpawnsIn_l1 (K0 : (List Int) → Int → Option ((List Int) × Bool)) (p1 : GProg) (v6 : Int) (x8 : (List GOp)) : Nat → (List Int) → Int → Option ((List Int) × Bool)
  | 0, _, _ => none
  | n + 1, a9, v10 =>
  if (decide (v10 < (x8.length : Int))) = true then
    Option.bind (rd x8 v10) fun x12 =>
    if (x12.Code == 14) = true then
      Option.bind (spec_l1Put a9 x12.A) fun r14 =>
      spec_SpawnsIn_l1 K0 p1 v6 x8 n r14 (w64 (v10 + 1))
    else
      spec_SpawnsIn_l1 K0 p1 v6 x8 n a9 (w64 (v10 + 1))
  else
    K0 a9 (w64 (v6 + 1))
theorem spec_SpawnsIn_l1_m {E : Env} (hP : E.P = Try.prog) (hn : E.n = 35) (hx : ∀ p, p ∈ E.fx → p.1 ∈ ([] : List Nat)) (p1 : GProg) (v6 : Int) (x8 : (List GOp)) {K0 : (List Int) → Int → Option ((List Int) × Bool)} (hK0 : ∀ (a5 : (List Int)) (v6 : Int) (r : ((List Int) × Bool)), K0 a5 v6 = some r → WAt E body26 (FQ (RetE Θ Try.f26.results.toList [] [] (AV.tup [(AV.own 3 1 (r.1.map o3)), (B r.2)]) E)) [true, true, true, false, true, false] ⟨[(4, (AV.sl 1 0 (List.length (a5.map o3)))), (13, (AV.ro 1 (p1.Routines.map r82))), (14, (I (p1.Routines.length : Int))), (15, (I v6))], [(1, some ⟨3, 1, (a5.map o3)⟩)], [1, JJ]⟩) : ∀ (n : Nat) (a9 : (List Int)) (v10 : Int) (r : ((List Int) × Bool)), spec_SpawnsIn_l1 K0 p1 v6 x8 n a9 v10 = some r → WAt E body26 (FQ (RetE Θ Try.f26.results.toList [] [] (AV.tup [(AV.own 3 1 (r.1.map o3)), (B r.2)]) E)) [true, true, true, false, true, false, false, true, true, false, false, true, true, false] ⟨[(4, (AV.sl 1 0 (List.length (a9.map o3)))), (13, (AV.ro 1 (p1.Routines.map r82))), (14, (I (p1.Routines.length : Int))), (15, (I v6)), (19, (AV.ro 4 (x8.map o85))), (20, (I (x8.length : Int))), (21, (I v10))], [(1, some ⟨3, 1, (a9.map o3)⟩)], [1, JJ]⟩ := by
  have hm : E.P.follows .mixedOrders = true := by rw [hP]; exact mixed
  have hΘ : TOK E.P Θ := by rw [hP]; exact Θ_ok
  intro n
  induction n with
  | zero => intro a9 v10 r h; simp only [spec_SpawnsIn_l1] at h; cases h
  | succ n ih =>
    intro a9 v10 r h
    simp only [spec_SpawnsIn_l1] at h
    rcases itS h with ⟨c11, h⟩ | ⟨c16, h⟩
    · obtain ⟨x12, hx12, h⟩ := bnS h
      rcases itS h with ⟨c13, h⟩ | ⟨c15, h⟩
      · obtain ⟨r14, hr14, h⟩ := bnS h
        exact go_to hΘ hm hx hP hn (hs := [⟨1, .br true, none⟩, ⟨2, .row (o85 x12), none⟩, ⟨4, .new 1001, none⟩, ⟨9, .br true, none⟩, ⟨13, .callX [1] [false] [⟨3, 1, (a9.map o3)⟩] [⟨3, 1, (a9.map o3)⟩] [] (AV.own 3 1 (r14.map o3)) [1002] (AV.sl 1002 0 (List.length (r14.map o3))) [(1002, ⟨3, 1, (r14.map o3)⟩)], none⟩]) (π := [(1002, 1)]) (ts := [4, 13, 14, 15, 19, 20, 21]) (kp := []) (ps := [(decide (v10 < (x8.length : Int))) = true, (0 : Int) ≤ v10, (x8.map o85)[(Int.toNat v10)]? = some (o85 x12), (x12.Code == 14) = true, MeetsR Try.prog 62 [⟨3, 1, (a9.map o3)⟩] [(AV.sl 0 0 (List.length (a9.map o3))), (I x12.A)] [false] [⟨3, 1, (a9.map o3)⟩] (AV.own 3 1 (r14.map o3)), (some (Root.mk 3 1 (a9.map o3)) = some (Root.mk 3 1 (a9.map o3))) ∧ True, (treeLL (a9.map o3) = true ∧ noRoLL (a9.map o3) = true) ∧ True, ((a9.map o3).length = (a9.map o3).length) ∧ True, (rtf (renA [] (AV.own 3 1 (r14.map o3))) [1002]).1 = (AV.sl 1002 0 (List.length (r14.map o3))), (rtf (renA [] (AV.own 3 1 (r14.map o3))) [1002]).2.1 = [(1002, ⟨3, 1, (r14.map o3)⟩)], RenOK [(1002, 1)] (r14.map o3)]) (by kernel_rfl) ⟨c11, (rd0 hx12), (rdM o85 hx12), c13, (spec_l1Put_m hr14), ⟨rfl, trivial⟩, ⟨⟨treeM t3, noRoM n3⟩, trivial⟩, ⟨rfl, trivial⟩, rfl, rfl, (rok (treeM t3)), trivial⟩ (ih r14 (w64 (v10 + 1)) _ h)
      · exact go_to hΘ hm hx hP hn (hs := [⟨1, .br true, none⟩, ⟨2, .row (o85 x12), none⟩, ⟨4, .new 1001, none⟩, ⟨9, .br false, none⟩]) (π := [(1, 1)]) (ts := [4, 13, 14, 15, 19, 20, 21]) (kp := []) (ps := [(decide (v10 < (x8.length : Int))) = true, (0 : Int) ≤ v10, (x8.map o85)[(Int.toNat v10)]? = some (o85 x12), (x12.Code == 14) = false, RenOK [(1, 1)] (a9.map o3)]) (by kernel_rfl) ⟨c11, (rd0 hx12), (rdM o85 hx12), c15, (rok (treeM t3)), trivial⟩ (ih a9 (w64 (v10 + 1)) _ h)
    · exact go_to hΘ hm hx hP hn (hs := [⟨1, .br false, none⟩]) (π := [(1, 1)]) (ts := [4, 13, 14, 15]) (kp := []) (ps := [(decide (v10 < (x8.length : Int))) = false, RenOK [(1, 1)] (a9.map o3)]) (by kernel_rfl) ⟨c16, (rok (treeM t3)), trivial⟩ (hK0 a9 (w64 (v6 + 1)) _ h)
noncomputable def spec_SpawnsIn_l0  (p1 : GProg) : Nat → (List Int) → Int → Option ((List Int) × Bool)
  | 0, _, _ => none
  | n + 1, a5, v6 =>
  if (decide (v6 < (p1.Routines.length : Int))) = true then
    Option.bind (rd p1.Routines v6) fun x8 =>
    spec_SpawnsIn_l1 (spec_SpawnsIn_l0 p1 n) p1 v6 x8 FU a5 0
  else
    some (a5, true)
theorem spec_SpawnsIn_l0_m {E : Env} (hP : E.P = Try.prog) (hn : E.n = 35) (hx : ∀ p, p ∈ E.fx → p.1 ∈ ([] : List Nat)) (p1 : GProg)  : ∀ (n : Nat) (a5 : (List Int)) (v6 : Int) (r : ((List Int) × Bool)), spec_SpawnsIn_l0 p1 n a5 v6 = some r → WAt E body26 (FQ (RetE Θ Try.f26.results.toList [] [] (AV.tup [(AV.own 3 1 (r.1.map o3)), (B r.2)]) E)) [true, true, true, false, true, false] ⟨[(4, (AV.sl 1 0 (List.length (a5.map o3)))), (13, (AV.ro 1 (p1.Routines.map r82))), (14, (I (p1.Routines.length : Int))), (15, (I v6))], [(1, some ⟨3, 1, (a5.map o3)⟩)], [1, JJ]⟩ := by
  have hm : E.P.follows .mixedOrders = true := by rw [hP]; exact mixed
  have hΘ : TOK E.P Θ := by rw [hP]; exact Θ_ok
  intro n
  induction n with
  | zero => intro a5 v6 r h; simp only [spec_SpawnsIn_l0] at h; cases h
  | succ n ih =>
    intro a5 v6 r h
    simp only [spec_SpawnsIn_l0] at h
    rcases itS h with ⟨c7, h⟩ | ⟨c17, h⟩
    · obtain ⟨x8, hx8, h⟩ := bnS h
      exact go_to hΘ hm hx hP hn (hs := [⟨1, .br true, none⟩, ⟨2, .row (r82 x8), none⟩, ⟨6, .no, some (I (x8.length : Int))⟩]) (π := [(1, 1)]) (ts := [4, 13, 14, 15, 19, 20, 21]) (kp := []) (ps := [(decide (v6 < (p1.Routines.length : Int))) = true, (0 : Int) ≤ v6, (p1.Routines.map r82)[(Int.toNat v6)]? = some (r82 x8), AV.lit (.int .i64 (((x8.map o85).length : Nat) : Int)) = (I (x8.length : Int)), RenOK [(1, 1)] (a5.map o3)]) (by kernel_rfl) ⟨c7, (rd0 hx8), (rdM r82 hx8), (lenM o85), (rok (treeM t3)), trivial⟩ (spec_SpawnsIn_l1_m hP hn hx p1 v6 x8 ih FU a5 0 _ h)
    · have h := Option.some.inj h
      subst h
      exact go_ret hΘ hm hP hn (hs := [⟨1, .br false, none⟩]) (rh := []) (ph := .agg [.own, .raw]) (ps := [(decide (v6 < (p1.Routines.length : Int))) = false, treeLL ((a5.map o3).take (List.length (a5.map o3))) = true, (a5.map o3).take (List.length (a5.map o3)) = (a5.map o3), noRoLL (a5.map o3) = true, (B true) = (B true), litA (B true) = true]) (by kernel_rfl) ⟨c17, (treeT t3), takeM, (noRoM n3), rfl, rfl, trivial⟩
noncomputable def spec_SpawnsIn (p1 : GProg) : Option ((List Int) × Bool) :=
  Option.bind (spec_GoodProg p1) fun r2 =>
  if (!r2) = true then
    some ([], false)
  else
    spec_SpawnsIn_l0 p1 FU [] 0
theorem spec_SpawnsIn_m {p1 : GProg} {r : ((List Int) × Bool)} (h : spec_SpawnsIn p1 = some r) : Meets Try.prog 26 [(AV.agg ((r35 p1)))] (AV.tup [(AV.own 3 1 (r.1.map o3)), (B r.2)]) := by
  refine meets_ofC Θ_ok Try.func26 rfl (c := body26) (by kernel_rfl) (Nat.le_of_ble_eq_true rfl) ?_
  intro E hP hn hx
  replace hn : E.n = 35 := hn
  have hm : E.P.follows .mixedOrders = true := by rw [hP]; exact mixed
  have hΘ : TOK E.P Θ := by rw [hP]; exact Θ_ok
  unfold spec_SpawnsIn at h
  show WAt E body26 (FQ (RetE Θ Try.f26.results.toList [] [] (AV.tup [(AV.own 3 1 (r.1.map o3)), (B r.2)]) E)) [] ⟨[(0, (AV.agg ((r35 p1))))], [], [JJ]⟩
  obtain ⟨r2, hr2, h⟩ := bnS h
  rcases itS h with ⟨c3, h⟩ | ⟨c4, h⟩
  · have h := Option.some.inj h
    subst h
    exact go_ret hΘ hm hP hn (hs := [⟨0, .new 1001, none⟩, ⟨4, .callV [[]] (B r2), none⟩, ⟨6, .br true, none⟩]) (rh := []) (ph := .agg [.own, .raw]) (ps := [Meets Try.prog 37 [(AV.agg ((r35 p1)))] (B r2), litA (B r2) = true, (!r2) = true, (B false) = (B false), litA (B false) = true]) (by kernel_rfl) ⟨(spec_GoodProg_m hr2), rfl, c3, rfl, rfl, trivial⟩
  · exact go_to hΘ hm hx hP hn (hs := [⟨0, .new 1001, none⟩, ⟨4, .callV [[]] (B r2), none⟩, ⟨6, .br false, none⟩, ⟨10, .no, some (I (p1.Routines.length : Int))⟩, ⟨12, .nil 4 1002 3 1, none⟩]) (π := [(1002, 1)]) (ts := [4, 13, 14, 15]) (kp := []) (ps := [Meets Try.prog 37 [(AV.agg ((r35 p1)))] (B r2), litA (B r2) = true, (!r2) = false, AV.lit (.int .i64 (((p1.Routines.map r82).length : Nat) : Int)) = (I (p1.Routines.length : Int)), RenOK [(1002, 1)] ([].map o3)]) (by kernel_rfl) ⟨(spec_GoodProg_m hr2), rfl, c4, (lenM r82), (rok (treeM t3)), trivial⟩ (spec_SpawnsIn_l0_m hP hn hx p1 FU [] 0 _ h)
noncomputable def body6 : Code := match Try.f6.body with | some c => c | none => .skip
noncomputable def laws_FnExactSpawnsIn_j2  (r27 : (Int × (List Int)))  : Option Bool :=
  Option.bind (laws_heldIntS r27.2 1) fun r41 =>
  if (decide (r41 < 0)) = true then
    some false
  else
    if (r41 != r27.1) = true then
      some false
    else
      some true
theorem laws_FnExactSpawnsIn_j2_m {E : Env} (hP : E.P = Try.prog) (hn : E.n = 96) (hx : ∀ p, p ∈ E.fx → p.1 ∈ ([] : List Nat)) (r27 : (Int × (List Int)))   (r : Bool) (h : laws_FnExactSpawnsIn_j2 r27  = some r) : WAt E body6 (FQ (RetE Θ Try.f6.results.toList [] [] (B r) E)) [true, true, true, true, true, true, true, true, true, true, true, true, true, true, true, true, true, true, true, false, true, true] ⟨[(7, (AV.sl 1 0 (List.length (r27.2.map o3)))), (10, (I r27.1))], [(1, some ⟨3, 1, (r27.2.map o3)⟩)], [1, JJ]⟩ := by
  have hm : E.P.follows .mixedOrders = true := by rw [hP]; exact mixed
  have hΘ : TOK E.P Θ := by rw [hP]; exact Θ_ok
  unfold laws_FnExactSpawnsIn_j2 at h
  obtain ⟨r41, hr41, h⟩ := bnS h
  rcases itS h with ⟨c42, h⟩ | ⟨c43, h⟩
  · have h := Option.some.inj h
    subst h
    exact go_ret hΘ hm hP hn (hs := [⟨3, .callV [(r27.2.map o3)] (I r41), none⟩, ⟨7, .br true, none⟩]) (rh := []) (ph := .raw) (ps := [Meets Try.prog 25 [(AV.ro 1 (r27.2.map o3)), (I 1)] (I r41), litA (I r41) = true, Frz (((r27.2.map o3).drop 0).take (List.length (r27.2.map o3))) (r27.2.map o3), (decide (r41 < 0)) = true, (B false) = (B false), litA (B false) = true]) (by kernel_rfl) ⟨(laws_heldIntS_m hr41), rfl, (frzF t3 z3), c42, rfl, rfl, trivial⟩
  · rcases itS h with ⟨c44, h⟩ | ⟨c45, h⟩
    · have h := Option.some.inj h
      subst h
      exact go_ret hΘ hm hP hn (hs := [⟨3, .callV [(r27.2.map o3)] (I r41), none⟩, ⟨7, .br false, none⟩, ⟨11, .br true, none⟩]) (rh := []) (ph := .raw) (ps := [Meets Try.prog 25 [(AV.ro 1 (r27.2.map o3)), (I 1)] (I r41), litA (I r41) = true, Frz (((r27.2.map o3).drop 0).take (List.length (r27.2.map o3))) (r27.2.map o3), (decide (r41 < 0)) = false, (r41 != r27.1) = true, (B false) = (B false), litA (B false) = true]) (by kernel_rfl) ⟨(laws_heldIntS_m hr41), rfl, (frzF t3 z3), c43, c44, rfl, rfl, trivial⟩
    · have h := Option.some.inj h
      subst h
      exact go_ret hΘ hm hP hn (hs := [⟨3, .callV [(r27.2.map o3)] (I r41), none⟩, ⟨7, .br false, none⟩, ⟨11, .br false, none⟩]) (rh := []) (ph := .raw) (ps := [Meets Try.prog 25 [(AV.ro 1 (r27.2.map o3)), (I 1)] (I r41), litA (I r41) = true, Frz (((r27.2.map o3).drop 0).take (List.length (r27.2.map o3))) (r27.2.map o3), (decide (r41 < 0)) = false, (r41 != r27.1) = false, (B true) = (B true), litA (B true) = true]) (by kernel_rfl) ⟨(laws_heldIntS_m hr41), rfl, (frzF t3 z3), c43, c45, rfl, rfl, trivial⟩
noncomputable def laws_FnExactSpawnsIn_j1  (p1 : GProg) (r6 : ((List Int) × Bool)) (r8 : ((List Int) × Bool))  : Option Bool :=
  Option.bind (laws_markIntS r8.1 1) fun r27 =>
  Option.bind (sameLen r8.1 r27.2) fun q28 =>
  Option.bind (laws_heldIntS r27.2 1) fun r29 =>
  if (decide (r29 < 0)) = true then
    some false
  else
    if (r29 != r27.1) = true then
      some false
    else
      Option.bind (laws_toProg p1) fun r34 =>
      Option.bind (impl_SpawnsIn (GProg.mk r34.Cells r34.Locks r34.Conds r34.Routines)) fun r35 =>
      Option.bind (laws_eqIntS r35.1 r6.1) fun r36 =>
      if (!r36) = true then
        some false
      else
        if (!(r35.2 == r6.2)) = true then
          some false
        else
          laws_FnExactSpawnsIn_j2 r27
theorem laws_FnExactSpawnsIn_j1_m {E : Env} (hP : E.P = Try.prog) (hn : E.n = 96) (hx : ∀ p, p ∈ E.fx → p.1 ∈ ([] : List Nat)) (p1 : GProg) (r6 : ((List Int) × Bool)) (r8 : ((List Int) × Bool))   (r : Bool) (h : laws_FnExactSpawnsIn_j1 p1 r6 r8  = some r) : WAt E body6 (FQ (RetE Θ Try.f6.results.toList [] [] (B r) E)) [true, true, true, true, true, true, true, true, true, true, true, false, true, true] ⟨[(1, (AV.ptr 1 0 0)), (4, (AV.sl 2 0 (List.length (r6.1.map o3)))), (5, (B r6.2)), (7, (AV.sl 3 0 (List.length (r8.1.map o3))))], [(1, some ⟨24, 4, [((r24 p1))]⟩), (2, some ⟨3, 1, (r6.1.map o3)⟩), (3, some ⟨3, 1, (r8.1.map o3)⟩)], [1, 2, 3, JJ]⟩ := by
  have hm : E.P.follows .mixedOrders = true := by rw [hP]; exact mixed
  have hΘ : TOK E.P Θ := by rw [hP]; exact Θ_ok
  unfold laws_FnExactSpawnsIn_j1 at h
  obtain ⟨r27, hr27, h⟩ := bnS h
  obtain ⟨q28, hq28, h⟩ := bnS h
  obtain ⟨r29, hr29, h⟩ := bnS h
  rcases itS h with ⟨c30, h⟩ | ⟨c31, h⟩
  · have h := Option.some.inj h
    subst h
    exact go_ret hΘ hm hP hn (hs := [⟨3, .callX [3] [true] [⟨3, 1, (r8.1.map o3)⟩] [⟨3, 1, (r27.2.map o3)⟩] [] (I r27.1) [] (I r27.1) [], none⟩, ⟨6, .slen 7 (List.length (r27.2.map o3)), none⟩, ⟨8, .callV [(r27.2.map o3)] (I r29), none⟩, ⟨12, .br true, none⟩]) (rh := []) (ph := .raw) (ps := [MeetsR Try.prog 24 [⟨3, 1, (r8.1.map o3)⟩] [(AV.sl 0 0 (List.length (r8.1.map o3))), (I 1)] [true] [⟨3, 1, (r27.2.map o3)⟩] (I r27.1), (some (Root.mk 3 1 (r8.1.map o3)) = some (Root.mk 3 1 (r8.1.map o3))) ∧ True, (treeLL (r8.1.map o3) = true ∧ noRoLL (r8.1.map o3) = true) ∧ True, ((r27.2.map o3).length = (r8.1.map o3).length) ∧ True, (rtf (renA [(0, 3)] (I r27.1)) []).1 = (I r27.1), (rtf (renA [(0, 3)] (I r27.1)) []).2.1 = [], (List.length (r8.1.map o3)) = (List.length (r27.2.map o3)), Meets Try.prog 25 [(AV.ro 1 (r27.2.map o3)), (I 1)] (I r29), litA (I r29) = true, Frz (((r27.2.map o3).drop 0).take (List.length (r27.2.map o3))) (r27.2.map o3), (decide (r29 < 0)) = true, (B false) = (B false), litA (B false) = true]) (by kernel_rfl) ⟨(laws_markIntS_m hr27), ⟨rfl, trivial⟩, ⟨⟨treeM t3, noRoM n3⟩, trivial⟩, ⟨(sameLenE o3 hq28), trivial⟩, rfl, rfl, (sameLenE o3 hq28).symm, (laws_heldIntS_m hr29), rfl, (frzF t3 z3), c30, rfl, rfl, trivial⟩
  · rcases itS h with ⟨c32, h⟩ | ⟨c33, h⟩
    · have h := Option.some.inj h
      subst h
      exact go_ret hΘ hm hP hn (hs := [⟨3, .callX [3] [true] [⟨3, 1, (r8.1.map o3)⟩] [⟨3, 1, (r27.2.map o3)⟩] [] (I r27.1) [] (I r27.1) [], none⟩, ⟨6, .slen 7 (List.length (r27.2.map o3)), none⟩, ⟨8, .callV [(r27.2.map o3)] (I r29), none⟩, ⟨12, .br false, none⟩, ⟨16, .br true, none⟩]) (rh := []) (ph := .raw) (ps := [MeetsR Try.prog 24 [⟨3, 1, (r8.1.map o3)⟩] [(AV.sl 0 0 (List.length (r8.1.map o3))), (I 1)] [true] [⟨3, 1, (r27.2.map o3)⟩] (I r27.1), (some (Root.mk 3 1 (r8.1.map o3)) = some (Root.mk 3 1 (r8.1.map o3))) ∧ True, (treeLL (r8.1.map o3) = true ∧ noRoLL (r8.1.map o3) = true) ∧ True, ((r27.2.map o3).length = (r8.1.map o3).length) ∧ True, (rtf (renA [(0, 3)] (I r27.1)) []).1 = (I r27.1), (rtf (renA [(0, 3)] (I r27.1)) []).2.1 = [], (List.length (r8.1.map o3)) = (List.length (r27.2.map o3)), Meets Try.prog 25 [(AV.ro 1 (r27.2.map o3)), (I 1)] (I r29), litA (I r29) = true, Frz (((r27.2.map o3).drop 0).take (List.length (r27.2.map o3))) (r27.2.map o3), (decide (r29 < 0)) = false, (r29 != r27.1) = true, (B false) = (B false), litA (B false) = true]) (by kernel_rfl) ⟨(laws_markIntS_m hr27), ⟨rfl, trivial⟩, ⟨⟨treeM t3, noRoM n3⟩, trivial⟩, ⟨(sameLenE o3 hq28), trivial⟩, rfl, rfl, (sameLenE o3 hq28).symm, (laws_heldIntS_m hr29), rfl, (frzF t3 z3), c31, c32, rfl, rfl, trivial⟩
    · obtain ⟨r34, hr34, h⟩ := bnS h
      obtain ⟨r35, hr35, h⟩ := bnS h
      obtain ⟨r36, hr36, h⟩ := bnS h
      rcases itS h with ⟨c37, h⟩ | ⟨c38, h⟩
      · have h := Option.some.inj h
        subst h
        exact go_ret hΘ hm hP hn (hs := [⟨3, .callX [3] [true] [⟨3, 1, (r8.1.map o3)⟩] [⟨3, 1, (r27.2.map o3)⟩] [] (I r27.1) [] (I r27.1) [], none⟩, ⟨6, .slen 7 (List.length (r27.2.map o3)), none⟩, ⟨8, .callV [(r27.2.map o3)] (I r29), none⟩, ⟨12, .br false, none⟩, ⟨16, .br false, none⟩, ⟨18, .call [[]] (AV.agg (o35 r34)) [1001], none⟩, ⟨19, .call [[], (r34.Routines.map r82)] (AV.tup [(AV.own 3 1 (r35.1.map o3)), (B r35.2)]) [1002], none⟩, ⟨27, .callV [(r35.1.map o3), (r6.1.map o3)] (B r36), none⟩, ⟨29, .no, some (B true)⟩]) (rh := []) (ph := .raw) (ps := [MeetsR Try.prog 24 [⟨3, 1, (r8.1.map o3)⟩] [(AV.sl 0 0 (List.length (r8.1.map o3))), (I 1)] [true] [⟨3, 1, (r27.2.map o3)⟩] (I r27.1), (some (Root.mk 3 1 (r8.1.map o3)) = some (Root.mk 3 1 (r8.1.map o3))) ∧ True, (treeLL (r8.1.map o3) = true ∧ noRoLL (r8.1.map o3) = true) ∧ True, ((r27.2.map o3).length = (r8.1.map o3).length) ∧ True, (rtf (renA [(0, 3)] (I r27.1)) []).1 = (I r27.1), (rtf (renA [(0, 3)] (I r27.1)) []).2.1 = [], (List.length (r8.1.map o3)) = (List.length (r27.2.map o3)), Meets Try.prog 25 [(AV.ro 1 (r27.2.map o3)), (I 1)] (I r29), litA (I r29) = true, Frz (((r27.2.map o3).drop 0).take (List.length (r27.2.map o3))) (r27.2.map o3), (decide (r29 < 0)) = false, (r29 != r27.1) = false, Meets Try.prog 11 [(AV.agg ((r24 p1)))] (AV.agg (o35 r34)), noRo (AV.agg (o35 r34)) = true, Meets Try.prog 27 [(AV.agg [(I r34.Cells), (I r34.Locks), (I r34.Conds), (AV.ro 1 (r34.Routines.map r82))])] (AV.tup [(AV.own 3 1 (r35.1.map o3)), (B r35.2)]), noRo (AV.tup [(AV.own 3 1 (r35.1.map o3)), (B r35.2)]) = true, Frz (((r34.Routines.map o82).drop 0).take (List.length (r34.Routines.map o82))) (r34.Routines.map r82), Meets Try.prog 23 [(AV.ro 1 (r35.1.map o3)), (AV.ro 1 (r6.1.map o3))] (B r36), litA (B r36) = true, Frz (((r35.1.map o3).drop 0).take (List.length (r35.1.map o3))) (r35.1.map o3), Frz (((r6.1.map o3).drop 0).take (List.length (r6.1.map o3))) (r6.1.map o3), (B (!r36)) = (B true), (B false) = (B false), litA (B false) = true]) (by kernel_rfl) ⟨(laws_markIntS_m hr27), ⟨rfl, trivial⟩, ⟨⟨treeM t3, noRoM n3⟩, trivial⟩, ⟨(sameLenE o3 hq28), trivial⟩, rfl, rfl, (sameLenE o3 hq28).symm, (laws_heldIntS_m hr29), rfl, (frzF t3 z3), c31, c33, (laws_toProg_m hr34), (by simp only [noRo, noRoL, noRoM n82, o35, Bool.and_self]), (impl_SpawnsIn_m hr35), (by simp only [noRo, noRoL, noRoM n3, Bool.and_self]), (frzF t82 z82), (laws_eqIntS_m hr36), rfl, (frzF t3 z3), (frzF t3 z3), (litB c37), rfl, rfl, trivial⟩
      · rcases itS h with ⟨c39, h⟩ | ⟨c40, h⟩
        · have h := Option.some.inj h
          subst h
          exact go_ret hΘ hm hP hn (hs := [⟨3, .callX [3] [true] [⟨3, 1, (r8.1.map o3)⟩] [⟨3, 1, (r27.2.map o3)⟩] [] (I r27.1) [] (I r27.1) [], none⟩, ⟨6, .slen 7 (List.length (r27.2.map o3)), none⟩, ⟨8, .callV [(r27.2.map o3)] (I r29), none⟩, ⟨12, .br false, none⟩, ⟨16, .br false, none⟩, ⟨18, .call [[]] (AV.agg (o35 r34)) [1001], none⟩, ⟨19, .call [[], (r34.Routines.map r82)] (AV.tup [(AV.own 3 1 (r35.1.map o3)), (B r35.2)]) [1002], none⟩, ⟨27, .callV [(r35.1.map o3), (r6.1.map o3)] (B r36), none⟩, ⟨29, .no, some (B false)⟩, ⟨34, .br true, none⟩]) (rh := []) (ph := .raw) (ps := [MeetsR Try.prog 24 [⟨3, 1, (r8.1.map o3)⟩] [(AV.sl 0 0 (List.length (r8.1.map o3))), (I 1)] [true] [⟨3, 1, (r27.2.map o3)⟩] (I r27.1), (some (Root.mk 3 1 (r8.1.map o3)) = some (Root.mk 3 1 (r8.1.map o3))) ∧ True, (treeLL (r8.1.map o3) = true ∧ noRoLL (r8.1.map o3) = true) ∧ True, ((r27.2.map o3).length = (r8.1.map o3).length) ∧ True, (rtf (renA [(0, 3)] (I r27.1)) []).1 = (I r27.1), (rtf (renA [(0, 3)] (I r27.1)) []).2.1 = [], (List.length (r8.1.map o3)) = (List.length (r27.2.map o3)), Meets Try.prog 25 [(AV.ro 1 (r27.2.map o3)), (I 1)] (I r29), litA (I r29) = true, Frz (((r27.2.map o3).drop 0).take (List.length (r27.2.map o3))) (r27.2.map o3), (decide (r29 < 0)) = false, (r29 != r27.1) = false, Meets Try.prog 11 [(AV.agg ((r24 p1)))] (AV.agg (o35 r34)), noRo (AV.agg (o35 r34)) = true, Meets Try.prog 27 [(AV.agg [(I r34.Cells), (I r34.Locks), (I r34.Conds), (AV.ro 1 (r34.Routines.map r82))])] (AV.tup [(AV.own 3 1 (r35.1.map o3)), (B r35.2)]), noRo (AV.tup [(AV.own 3 1 (r35.1.map o3)), (B r35.2)]) = true, Frz (((r34.Routines.map o82).drop 0).take (List.length (r34.Routines.map o82))) (r34.Routines.map r82), Meets Try.prog 23 [(AV.ro 1 (r35.1.map o3)), (AV.ro 1 (r6.1.map o3))] (B r36), litA (B r36) = true, Frz (((r35.1.map o3).drop 0).take (List.length (r35.1.map o3))) (r35.1.map o3), Frz (((r6.1.map o3).drop 0).take (List.length (r6.1.map o3))) (r6.1.map o3), (B (!r36)) = (B false), (!(r35.2 == r6.2)) = true, (B false) = (B false), litA (B false) = true]) (by kernel_rfl) ⟨(laws_markIntS_m hr27), ⟨rfl, trivial⟩, ⟨⟨treeM t3, noRoM n3⟩, trivial⟩, ⟨(sameLenE o3 hq28), trivial⟩, rfl, rfl, (sameLenE o3 hq28).symm, (laws_heldIntS_m hr29), rfl, (frzF t3 z3), c31, c33, (laws_toProg_m hr34), (by simp only [noRo, noRoL, noRoM n82, o35, Bool.and_self]), (impl_SpawnsIn_m hr35), (by simp only [noRo, noRoL, noRoM n3, Bool.and_self]), (frzF t82 z82), (laws_eqIntS_m hr36), rfl, (frzF t3 z3), (frzF t3 z3), (litB c38), c39, rfl, rfl, trivial⟩
        · exact go_to hΘ hm hx hP hn (hs := [⟨3, .callX [3] [true] [⟨3, 1, (r8.1.map o3)⟩] [⟨3, 1, (r27.2.map o3)⟩] [] (I r27.1) [] (I r27.1) [], none⟩, ⟨6, .slen 7 (List.length (r27.2.map o3)), none⟩, ⟨8, .callV [(r27.2.map o3)] (I r29), none⟩, ⟨12, .br false, none⟩, ⟨16, .br false, none⟩, ⟨18, .call [[]] (AV.agg (o35 r34)) [1001], none⟩, ⟨19, .call [[], (r34.Routines.map r82)] (AV.tup [(AV.own 3 1 (r35.1.map o3)), (B r35.2)]) [1002], none⟩, ⟨27, .callV [(r35.1.map o3), (r6.1.map o3)] (B r36), none⟩, ⟨29, .no, some (B false)⟩, ⟨34, .br false, none⟩]) (π := [(3, 1)]) (ts := [7, 10]) (kp := []) (ps := [MeetsR Try.prog 24 [⟨3, 1, (r8.1.map o3)⟩] [(AV.sl 0 0 (List.length (r8.1.map o3))), (I 1)] [true] [⟨3, 1, (r27.2.map o3)⟩] (I r27.1), (some (Root.mk 3 1 (r8.1.map o3)) = some (Root.mk 3 1 (r8.1.map o3))) ∧ True, (treeLL (r8.1.map o3) = true ∧ noRoLL (r8.1.map o3) = true) ∧ True, ((r27.2.map o3).length = (r8.1.map o3).length) ∧ True, (rtf (renA [(0, 3)] (I r27.1)) []).1 = (I r27.1), (rtf (renA [(0, 3)] (I r27.1)) []).2.1 = [], (List.length (r8.1.map o3)) = (List.length (r27.2.map o3)), Meets Try.prog 25 [(AV.ro 1 (r27.2.map o3)), (I 1)] (I r29), litA (I r29) = true, Frz (((r27.2.map o3).drop 0).take (List.length (r27.2.map o3))) (r27.2.map o3), (decide (r29 < 0)) = false, (r29 != r27.1) = false, Meets Try.prog 11 [(AV.agg ((r24 p1)))] (AV.agg (o35 r34)), noRo (AV.agg (o35 r34)) = true, Meets Try.prog 27 [(AV.agg [(I r34.Cells), (I r34.Locks), (I r34.Conds), (AV.ro 1 (r34.Routines.map r82))])] (AV.tup [(AV.own 3 1 (r35.1.map o3)), (B r35.2)]), noRo (AV.tup [(AV.own 3 1 (r35.1.map o3)), (B r35.2)]) = true, Frz (((r34.Routines.map o82).drop 0).take (List.length (r34.Routines.map o82))) (r34.Routines.map r82), Meets Try.prog 23 [(AV.ro 1 (r35.1.map o3)), (AV.ro 1 (r6.1.map o3))] (B r36), litA (B r36) = true, Frz (((r35.1.map o3).drop 0).take (List.length (r35.1.map o3))) (r35.1.map o3), Frz (((r6.1.map o3).drop 0).take (List.length (r6.1.map o3))) (r6.1.map o3), (B (!r36)) = (B false), (!(r35.2 == r6.2)) = false, RenOK [(3, 1)] (r27.2.map o3)]) (by kernel_rfl) ⟨(laws_markIntS_m hr27), ⟨rfl, trivial⟩, ⟨⟨treeM t3, noRoM n3⟩, trivial⟩, ⟨(sameLenE o3 hq28), trivial⟩, rfl, rfl, (sameLenE o3 hq28).symm, (laws_heldIntS_m hr29), rfl, (frzF t3 z3), c31, c33, (laws_toProg_m hr34), (by simp only [noRo, noRoL, noRoM n82, o35, Bool.and_self]), (impl_SpawnsIn_m hr35), (by simp only [noRo, noRoL, noRoM n3, Bool.and_self]), (frzF t82 z82), (laws_eqIntS_m hr36), rfl, (frzF t3 z3), (frzF t3 z3), (litB c38), c40, (rok (treeM t3)), trivial⟩ (laws_FnExactSpawnsIn_j2_m hP hn hx r27  _ h)
noncomputable def laws_FnExactSpawnsIn_j0  (p1 : GProg) (r6 : ((List Int) × Bool)) (r7 : GProg) (r8 : ((List Int) × Bool))  : Option Bool :=
  Option.bind (laws_toProg p1) fun r14 =>
  Option.bind (laws_eqProg (GProg.mk r7.Cells r7.Locks r7.Conds r7.Routines) (GProg.mk r14.Cells r14.Locks r14.Conds r14.Routines)) fun r15 =>
  if (!r15) = true then
    some false
  else
    Option.bind (laws_markProg r7.Cells r7.Locks r7.Conds r7.Routines 1) fun r18 =>
    Option.bind (sameLen r7.Routines r18.2) fun q19 =>
    if (decide (r18.1 < 0)) = true then
      some false
    else
      Option.bind (laws_eqIntS r8.1 r6.1) fun r22 =>
      if (!r22) = true then
        some false
      else
        if (!(r8.2 == r6.2)) = true then
          some false
        else
          laws_FnExactSpawnsIn_j1 p1 r6 r8
theorem laws_FnExactSpawnsIn_j0_m {E : Env} (hP : E.P = Try.prog) (hn : E.n = 96) (hx : ∀ p, p ∈ E.fx → p.1 ∈ ([] : List Nat)) (p1 : GProg) (r6 : ((List Int) × Bool)) (r7 : GProg) (r8 : ((List Int) × Bool))   (r : Bool) (h : laws_FnExactSpawnsIn_j0 p1 r6 r7 r8  = some r) : WAt E body6 (FQ (RetE Θ Try.f6.results.toList [] [] (B r) E)) [true, true, true, true, true, true, true, false, true, true] ⟨[(1, (AV.ptr 1 0 0)), (4, (AV.sl 2 0 (List.length (r6.1.map o3)))), (5, (B r6.2)), (6, (AV.ptr 3 0 0)), (7, (AV.sl 4 0 (List.length (r8.1.map o3)))), (8, (B r8.2))], [(1, some ⟨24, 4, [((r24 p1))]⟩), (2, some ⟨3, 1, (r6.1.map o3)⟩), (3, some ⟨35, 4, [[(I r7.Cells), (I r7.Locks), (I r7.Conds), (AV.own 82 1 (r7.Routines.map o82))]]⟩), (4, some ⟨3, 1, (r8.1.map o3)⟩)], [1, 2, 3, 4, JJ]⟩ := by
  have hm : E.P.follows .mixedOrders = true := by rw [hP]; exact mixed
  have hΘ : TOK E.P Θ := by rw [hP]; exact Θ_ok
  unfold laws_FnExactSpawnsIn_j0 at h
  obtain ⟨r14, hr14, h⟩ := bnS h
  obtain ⟨r15, hr15, h⟩ := bnS h
  rcases itS h with ⟨c16, h⟩ | ⟨c17, h⟩
  · have h := Option.some.inj h
    subst h
    exact go_ret hΘ hm hP hn (hs := [⟨0, .unpack 3 1001 0 3 [(I r7.Cells), (I r7.Locks), (I r7.Conds), (AV.own 82 1 (r7.Routines.map o82))] 82 1 (r7.Routines.map o82) [[(I r7.Cells), (I r7.Locks), (I r7.Conds), (AV.sl 1001 0 (List.length (r7.Routines.map o82)))]], none⟩, ⟨2, .call [[]] (AV.agg (o35 r14)) [1002], none⟩, ⟨4, .callV [[], (r7.Routines.map r82), [], (r14.Routines.map r82)] (B r15), none⟩, ⟨6, .br true, none⟩]) (rh := []) (ph := .raw) (ps := [[[(I r7.Cells), (I r7.Locks), (I r7.Conds), (AV.own 82 1 (r7.Routines.map o82))]][0]? = some [(I r7.Cells), (I r7.Locks), (I r7.Conds), (AV.own 82 1 (r7.Routines.map o82))], [(I r7.Cells), (I r7.Locks), (I r7.Conds), (AV.own 82 1 (r7.Routines.map o82))][3]? = some (AV.own 82 1 (r7.Routines.map o82)), 0 < 1, [[(I r7.Cells), (I r7.Locks), (I r7.Conds), (AV.own 82 1 (r7.Routines.map o82))]].set 0 ([(I r7.Cells), (I r7.Locks), (I r7.Conds), (AV.own 82 1 (r7.Routines.map o82))].set 3 (AV.sl 1001 0 (List.length (r7.Routines.map o82)))) = [[(I r7.Cells), (I r7.Locks), (I r7.Conds), (AV.sl 1001 0 (List.length (r7.Routines.map o82)))]], Meets Try.prog 11 [(AV.agg ((r24 p1)))] (AV.agg (o35 r14)), noRo (AV.agg (o35 r14)) = true, (AV.agg [(I r7.Cells), (I r7.Locks), (I r7.Conds), (AV.sl 1001 0 (List.length (r7.Routines.map o82)))]) = (AV.agg [(I r7.Cells), (I r7.Locks), (I r7.Conds), (AV.sl 1001 0 (List.length (r7.Routines.map o82)))]), Meets Try.prog 14 [(AV.agg [(I r7.Cells), (I r7.Locks), (I r7.Conds), (AV.ro 1 (r7.Routines.map r82))]), (AV.agg [(I r14.Cells), (I r14.Locks), (I r14.Conds), (AV.ro 1 (r14.Routines.map r82))])] (B r15), litA (B r15) = true, Frz (((r7.Routines.map o82).drop 0).take (List.length (r7.Routines.map o82))) (r7.Routines.map r82), Frz (((r14.Routines.map o82).drop 0).take (List.length (r14.Routines.map o82))) (r14.Routines.map r82), (!r15) = true, (B false) = (B false), litA (B false) = true]) (by kernel_rfl) ⟨rfl, rfl, (by decide), rfl, (laws_toProg_m hr14), (by simp only [noRo, noRoL, noRoM n82, o35, Bool.and_self]), rfl, (laws_eqProg_m hr15), rfl, (frzF t82 z82), (frzF t82 z82), c16, rfl, rfl, trivial⟩
  · obtain ⟨r18, hr18, h⟩ := bnS h
    obtain ⟨q19, hq19, h⟩ := bnS h
    rcases itS h with ⟨c20, h⟩ | ⟨c21, h⟩
    · have h := Option.some.inj h
      subst h
      exact go_ret hΘ hm hP hn (hs := [⟨0, .unpack 3 1001 0 3 [(I r7.Cells), (I r7.Locks), (I r7.Conds), (AV.own 82 1 (r7.Routines.map o82))] 82 1 (r7.Routines.map o82) [[(I r7.Cells), (I r7.Locks), (I r7.Conds), (AV.sl 1001 0 (List.length (r7.Routines.map o82)))]], none⟩, ⟨2, .call [[]] (AV.agg (o35 r14)) [1002], none⟩, ⟨4, .callV [[], (r7.Routines.map r82), [], (r14.Routines.map r82)] (B r15), none⟩, ⟨6, .br false, none⟩, ⟨10, .callX [1001] [true] [⟨82, 1, (r7.Routines.map o82)⟩] [⟨82, 1, (r18.2.map o82)⟩] [[]] (I r18.1) [] (I r18.1) [], none⟩, ⟨14, .no, some (B true)⟩]) (rh := []) (ph := .raw) (ps := [[[(I r7.Cells), (I r7.Locks), (I r7.Conds), (AV.own 82 1 (r7.Routines.map o82))]][0]? = some [(I r7.Cells), (I r7.Locks), (I r7.Conds), (AV.own 82 1 (r7.Routines.map o82))], [(I r7.Cells), (I r7.Locks), (I r7.Conds), (AV.own 82 1 (r7.Routines.map o82))][3]? = some (AV.own 82 1 (r7.Routines.map o82)), 0 < 1, [[(I r7.Cells), (I r7.Locks), (I r7.Conds), (AV.own 82 1 (r7.Routines.map o82))]].set 0 ([(I r7.Cells), (I r7.Locks), (I r7.Conds), (AV.own 82 1 (r7.Routines.map o82))].set 3 (AV.sl 1001 0 (List.length (r7.Routines.map o82)))) = [[(I r7.Cells), (I r7.Locks), (I r7.Conds), (AV.sl 1001 0 (List.length (r7.Routines.map o82)))]], Meets Try.prog 11 [(AV.agg ((r24 p1)))] (AV.agg (o35 r14)), noRo (AV.agg (o35 r14)) = true, (AV.agg [(I r7.Cells), (I r7.Locks), (I r7.Conds), (AV.sl 1001 0 (List.length (r7.Routines.map o82)))]) = (AV.agg [(I r7.Cells), (I r7.Locks), (I r7.Conds), (AV.sl 1001 0 (List.length (r7.Routines.map o82)))]), Meets Try.prog 14 [(AV.agg [(I r7.Cells), (I r7.Locks), (I r7.Conds), (AV.ro 1 (r7.Routines.map r82))]), (AV.agg [(I r14.Cells), (I r14.Locks), (I r14.Conds), (AV.ro 1 (r14.Routines.map r82))])] (B r15), litA (B r15) = true, Frz (((r7.Routines.map o82).drop 0).take (List.length (r7.Routines.map o82))) (r7.Routines.map r82), Frz (((r14.Routines.map o82).drop 0).take (List.length (r14.Routines.map o82))) (r14.Routines.map r82), (!r15) = false, MeetsR Try.prog 18 [⟨82, 1, (r7.Routines.map o82)⟩] [(AV.agg [(I r7.Cells), (I r7.Locks), (I r7.Conds), (AV.sl 0 0 (List.length (r7.Routines.map o82)))]), (I 1)] [true] [⟨82, 1, (r18.2.map o82)⟩] (I r18.1), (some (Root.mk 82 1 (r7.Routines.map o82)) = some (Root.mk 82 1 (r7.Routines.map o82))) ∧ True, (treeLL (r7.Routines.map o82) = true ∧ noRoLL (r7.Routines.map o82) = true) ∧ True, ((r18.2.map o82).length = (r7.Routines.map o82).length) ∧ True, (rtf (renA [(0, 1001)] (I r18.1)) []).1 = (I r18.1), (rtf (renA [(0, 1001)] (I r18.1)) []).2.1 = [], (B (decide (r18.1 < 0))) = (B true), (B false) = (B false), litA (B false) = true]) (by kernel_rfl) ⟨rfl, rfl, (by decide), rfl, (laws_toProg_m hr14), (by simp only [noRo, noRoL, noRoM n82, o35, Bool.and_self]), rfl, (laws_eqProg_m hr15), rfl, (frzF t82 z82), (frzF t82 z82), c17, (laws_markProg_m hr18), ⟨rfl, trivial⟩, ⟨⟨treeM t82, noRoM n82⟩, trivial⟩, ⟨(sameLenE o82 hq19), trivial⟩, rfl, rfl, (litB c20), rfl, rfl, trivial⟩
    · obtain ⟨r22, hr22, h⟩ := bnS h
      rcases itS h with ⟨c23, h⟩ | ⟨c24, h⟩
      · have h := Option.some.inj h
        subst h
        exact go_ret hΘ hm hP hn (hs := [⟨0, .unpack 3 1001 0 3 [(I r7.Cells), (I r7.Locks), (I r7.Conds), (AV.own 82 1 (r7.Routines.map o82))] 82 1 (r7.Routines.map o82) [[(I r7.Cells), (I r7.Locks), (I r7.Conds), (AV.sl 1001 0 (List.length (r7.Routines.map o82)))]], none⟩, ⟨2, .call [[]] (AV.agg (o35 r14)) [1002], none⟩, ⟨4, .callV [[], (r7.Routines.map r82), [], (r14.Routines.map r82)] (B r15), none⟩, ⟨6, .br false, none⟩, ⟨10, .callX [1001] [true] [⟨82, 1, (r7.Routines.map o82)⟩] [⟨82, 1, (r18.2.map o82)⟩] [[]] (I r18.1) [] (I r18.1) [], none⟩, ⟨14, .no, some (B false)⟩, ⟨17, .callV [(r8.1.map o3), (r6.1.map o3)] (B r22), none⟩, ⟨20, .no, some (B true)⟩]) (rh := []) (ph := .raw) (ps := [[[(I r7.Cells), (I r7.Locks), (I r7.Conds), (AV.own 82 1 (r7.Routines.map o82))]][0]? = some [(I r7.Cells), (I r7.Locks), (I r7.Conds), (AV.own 82 1 (r7.Routines.map o82))], [(I r7.Cells), (I r7.Locks), (I r7.Conds), (AV.own 82 1 (r7.Routines.map o82))][3]? = some (AV.own 82 1 (r7.Routines.map o82)), 0 < 1, [[(I r7.Cells), (I r7.Locks), (I r7.Conds), (AV.own 82 1 (r7.Routines.map o82))]].set 0 ([(I r7.Cells), (I r7.Locks), (I r7.Conds), (AV.own 82 1 (r7.Routines.map o82))].set 3 (AV.sl 1001 0 (List.length (r7.Routines.map o82)))) = [[(I r7.Cells), (I r7.Locks), (I r7.Conds), (AV.sl 1001 0 (List.length (r7.Routines.map o82)))]], Meets Try.prog 11 [(AV.agg ((r24 p1)))] (AV.agg (o35 r14)), noRo (AV.agg (o35 r14)) = true, (AV.agg [(I r7.Cells), (I r7.Locks), (I r7.Conds), (AV.sl 1001 0 (List.length (r7.Routines.map o82)))]) = (AV.agg [(I r7.Cells), (I r7.Locks), (I r7.Conds), (AV.sl 1001 0 (List.length (r7.Routines.map o82)))]), Meets Try.prog 14 [(AV.agg [(I r7.Cells), (I r7.Locks), (I r7.Conds), (AV.ro 1 (r7.Routines.map r82))]), (AV.agg [(I r14.Cells), (I r14.Locks), (I r14.Conds), (AV.ro 1 (r14.Routines.map r82))])] (B r15), litA (B r15) = true, Frz (((r7.Routines.map o82).drop 0).take (List.length (r7.Routines.map o82))) (r7.Routines.map r82), Frz (((r14.Routines.map o82).drop 0).take (List.length (r14.Routines.map o82))) (r14.Routines.map r82), (!r15) = false, MeetsR Try.prog 18 [⟨82, 1, (r7.Routines.map o82)⟩] [(AV.agg [(I r7.Cells), (I r7.Locks), (I r7.Conds), (AV.sl 0 0 (List.length (r7.Routines.map o82)))]), (I 1)] [true] [⟨82, 1, (r18.2.map o82)⟩] (I r18.1), (some (Root.mk 82 1 (r7.Routines.map o82)) = some (Root.mk 82 1 (r7.Routines.map o82))) ∧ True, (treeLL (r7.Routines.map o82) = true ∧ noRoLL (r7.Routines.map o82) = true) ∧ True, ((r18.2.map o82).length = (r7.Routines.map o82).length) ∧ True, (rtf (renA [(0, 1001)] (I r18.1)) []).1 = (I r18.1), (rtf (renA [(0, 1001)] (I r18.1)) []).2.1 = [], (B (decide (r18.1 < 0))) = (B false), Meets Try.prog 23 [(AV.ro 1 (r8.1.map o3)), (AV.ro 1 (r6.1.map o3))] (B r22), litA (B r22) = true, Frz (((r8.1.map o3).drop 0).take (List.length (r8.1.map o3))) (r8.1.map o3), Frz (((r6.1.map o3).drop 0).take (List.length (r6.1.map o3))) (r6.1.map o3), (B (!r22)) = (B true), (B false) = (B false), litA (B false) = true]) (by kernel_rfl) ⟨rfl, rfl, (by decide), rfl, (laws_toProg_m hr14), (by simp only [noRo, noRoL, noRoM n82, o35, Bool.and_self]), rfl, (laws_eqProg_m hr15), rfl, (frzF t82 z82), (frzF t82 z82), c17, (laws_markProg_m hr18), ⟨rfl, trivial⟩, ⟨⟨treeM t82, noRoM n82⟩, trivial⟩, ⟨(sameLenE o82 hq19), trivial⟩, rfl, rfl, (litB c21), (laws_eqIntS_m hr22), rfl, (frzF t3 z3), (frzF t3 z3), (litB c23), rfl, rfl, trivial⟩
      · rcases itS h with ⟨c25, h⟩ | ⟨c26, h⟩
        · have h := Option.some.inj h
          subst h
          exact go_ret hΘ hm hP hn (hs := [⟨0, .unpack 3 1001 0 3 [(I r7.Cells), (I r7.Locks), (I r7.Conds), (AV.own 82 1 (r7.Routines.map o82))] 82 1 (r7.Routines.map o82) [[(I r7.Cells), (I r7.Locks), (I r7.Conds), (AV.sl 1001 0 (List.length (r7.Routines.map o82)))]], none⟩, ⟨2, .call [[]] (AV.agg (o35 r14)) [1002], none⟩, ⟨4, .callV [[], (r7.Routines.map r82), [], (r14.Routines.map r82)] (B r15), none⟩, ⟨6, .br false, none⟩, ⟨10, .callX [1001] [true] [⟨82, 1, (r7.Routines.map o82)⟩] [⟨82, 1, (r18.2.map o82)⟩] [[]] (I r18.1) [] (I r18.1) [], none⟩, ⟨14, .no, some (B false)⟩, ⟨17, .callV [(r8.1.map o3), (r6.1.map o3)] (B r22), none⟩, ⟨20, .no, some (B false)⟩, ⟨25, .br true, none⟩]) (rh := []) (ph := .raw) (ps := [[[(I r7.Cells), (I r7.Locks), (I r7.Conds), (AV.own 82 1 (r7.Routines.map o82))]][0]? = some [(I r7.Cells), (I r7.Locks), (I r7.Conds), (AV.own 82 1 (r7.Routines.map o82))], [(I r7.Cells), (I r7.Locks), (I r7.Conds), (AV.own 82 1 (r7.Routines.map o82))][3]? = some (AV.own 82 1 (r7.Routines.map o82)), 0 < 1, [[(I r7.Cells), (I r7.Locks), (I r7.Conds), (AV.own 82 1 (r7.Routines.map o82))]].set 0 ([(I r7.Cells), (I r7.Locks), (I r7.Conds), (AV.own 82 1 (r7.Routines.map o82))].set 3 (AV.sl 1001 0 (List.length (r7.Routines.map o82)))) = [[(I r7.Cells), (I r7.Locks), (I r7.Conds), (AV.sl 1001 0 (List.length (r7.Routines.map o82)))]], Meets Try.prog 11 [(AV.agg ((r24 p1)))] (AV.agg (o35 r14)), noRo (AV.agg (o35 r14)) = true, (AV.agg [(I r7.Cells), (I r7.Locks), (I r7.Conds), (AV.sl 1001 0 (List.length (r7.Routines.map o82)))]) = (AV.agg [(I r7.Cells), (I r7.Locks), (I r7.Conds), (AV.sl 1001 0 (List.length (r7.Routines.map o82)))]), Meets Try.prog 14 [(AV.agg [(I r7.Cells), (I r7.Locks), (I r7.Conds), (AV.ro 1 (r7.Routines.map r82))]), (AV.agg [(I r14.Cells), (I r14.Locks), (I r14.Conds), (AV.ro 1 (r14.Routines.map r82))])] (B r15), litA (B r15) = true, Frz (((r7.Routines.map o82).drop 0).take (List.length (r7.Routines.map o82))) (r7.Routines.map r82), Frz (((r14.Routines.map o82).drop 0).take (List.length (r14.Routines.map o82))) (r14.Routines.map r82), (!r15) = false, MeetsR Try.prog 18 [⟨82, 1, (r7.Routines.map o82)⟩] [(AV.agg [(I r7.Cells), (I r7.Locks), (I r7.Conds), (AV.sl 0 0 (List.length (r7.Routines.map o82)))]), (I 1)] [true] [⟨82, 1, (r18.2.map o82)⟩] (I r18.1), (some (Root.mk 82 1 (r7.Routines.map o82)) = some (Root.mk 82 1 (r7.Routines.map o82))) ∧ True, (treeLL (r7.Routines.map o82) = true ∧ noRoLL (r7.Routines.map o82) = true) ∧ True, ((r18.2.map o82).length = (r7.Routines.map o82).length) ∧ True, (rtf (renA [(0, 1001)] (I r18.1)) []).1 = (I r18.1), (rtf (renA [(0, 1001)] (I r18.1)) []).2.1 = [], (B (decide (r18.1 < 0))) = (B false), Meets Try.prog 23 [(AV.ro 1 (r8.1.map o3)), (AV.ro 1 (r6.1.map o3))] (B r22), litA (B r22) = true, Frz (((r8.1.map o3).drop 0).take (List.length (r8.1.map o3))) (r8.1.map o3), Frz (((r6.1.map o3).drop 0).take (List.length (r6.1.map o3))) (r6.1.map o3), (B (!r22)) = (B false), (!(r8.2 == r6.2)) = true, (B false) = (B false), litA (B false) = true]) (by kernel_rfl) ⟨rfl, rfl, (by decide), rfl, (laws_toProg_m hr14), (by simp only [noRo, noRoL, noRoM n82, o35, Bool.and_self]), rfl, (laws_eqProg_m hr15), rfl, (frzF t82 z82), (frzF t82 z82), c17, (laws_markProg_m hr18), ⟨rfl, trivial⟩, ⟨⟨treeM t82, noRoM n82⟩, trivial⟩, ⟨(sameLenE o82 hq19), trivial⟩, rfl, rfl, (litB c21), (laws_eqIntS_m hr22), rfl, (frzF t3 z3), (frzF t3 z3), (litB c24), c25, rfl, rfl, trivial⟩
        · exact go_to hΘ hm hx hP hn (hs := [⟨0, .unpack 3 1001 0 3 [(I r7.Cells), (I r7.Locks), (I r7.Conds), (AV.own 82 1 (r7.Routines.map o82))] 82 1 (r7.Routines.map o82) [[(I r7.Cells), (I r7.Locks), (I r7.Conds), (AV.sl 1001 0 (List.length (r7.Routines.map o82)))]], none⟩, ⟨2, .call [[]] (AV.agg (o35 r14)) [1002], none⟩, ⟨4, .callV [[], (r7.Routines.map r82), [], (r14.Routines.map r82)] (B r15), none⟩, ⟨6, .br false, none⟩, ⟨10, .callX [1001] [true] [⟨82, 1, (r7.Routines.map o82)⟩] [⟨82, 1, (r18.2.map o82)⟩] [[]] (I r18.1) [] (I r18.1) [], none⟩, ⟨14, .no, some (B false)⟩, ⟨17, .callV [(r8.1.map o3), (r6.1.map o3)] (B r22), none⟩, ⟨20, .no, some (B false)⟩, ⟨25, .br false, none⟩]) (π := [(1, 1), (2, 2), (4, 3)]) (ts := [1, 4, 5, 7]) (kp := []) (ps := [[[(I r7.Cells), (I r7.Locks), (I r7.Conds), (AV.own 82 1 (r7.Routines.map o82))]][0]? = some [(I r7.Cells), (I r7.Locks), (I r7.Conds), (AV.own 82 1 (r7.Routines.map o82))], [(I r7.Cells), (I r7.Locks), (I r7.Conds), (AV.own 82 1 (r7.Routines.map o82))][3]? = some (AV.own 82 1 (r7.Routines.map o82)), 0 < 1, [[(I r7.Cells), (I r7.Locks), (I r7.Conds), (AV.own 82 1 (r7.Routines.map o82))]].set 0 ([(I r7.Cells), (I r7.Locks), (I r7.Conds), (AV.own 82 1 (r7.Routines.map o82))].set 3 (AV.sl 1001 0 (List.length (r7.Routines.map o82)))) = [[(I r7.Cells), (I r7.Locks), (I r7.Conds), (AV.sl 1001 0 (List.length (r7.Routines.map o82)))]], Meets Try.prog 11 [(AV.agg ((r24 p1)))] (AV.agg (o35 r14)), noRo (AV.agg (o35 r14)) = true, (AV.agg [(I r7.Cells), (I r7.Locks), (I r7.Conds), (AV.sl 1001 0 (List.length (r7.Routines.map o82)))]) = (AV.agg [(I r7.Cells), (I r7.Locks), (I r7.Conds), (AV.sl 1001 0 (List.length (r7.Routines.map o82)))]), Meets Try.prog 14 [(AV.agg [(I r7.Cells), (I r7.Locks), (I r7.Conds), (AV.ro 1 (r7.Routines.map r82))]), (AV.agg [(I r14.Cells), (I r14.Locks), (I r14.Conds), (AV.ro 1 (r14.Routines.map r82))])] (B r15), litA (B r15) = true, Frz (((r7.Routines.map o82).drop 0).take (List.length (r7.Routines.map o82))) (r7.Routines.map r82), Frz (((r14.Routines.map o82).drop 0).take (List.length (r14.Routines.map o82))) (r14.Routines.map r82), (!r15) = false, MeetsR Try.prog 18 [⟨82, 1, (r7.Routines.map o82)⟩] [(AV.agg [(I r7.Cells), (I r7.Locks), (I r7.Conds), (AV.sl 0 0 (List.length (r7.Routines.map o82)))]), (I 1)] [true] [⟨82, 1, (r18.2.map o82)⟩] (I r18.1), (some (Root.mk 82 1 (r7.Routines.map o82)) = some (Root.mk 82 1 (r7.Routines.map o82))) ∧ True, (treeLL (r7.Routines.map o82) = true ∧ noRoLL (r7.Routines.map o82) = true) ∧ True, ((r18.2.map o82).length = (r7.Routines.map o82).length) ∧ True, (rtf (renA [(0, 1001)] (I r18.1)) []).1 = (I r18.1), (rtf (renA [(0, 1001)] (I r18.1)) []).2.1 = [], (B (decide (r18.1 < 0))) = (B false), Meets Try.prog 23 [(AV.ro 1 (r8.1.map o3)), (AV.ro 1 (r6.1.map o3))] (B r22), litA (B r22) = true, Frz (((r8.1.map o3).drop 0).take (List.length (r8.1.map o3))) (r8.1.map o3), Frz (((r6.1.map o3).drop 0).take (List.length (r6.1.map o3))) (r6.1.map o3), (B (!r22)) = (B false), (!(r8.2 == r6.2)) = false, RenOK [(1, 1), (2, 2), (4, 3)] [((r24 p1))], RenOK [(1, 1), (2, 2), (4, 3)] (r6.1.map o3), RenOK [(1, 1), (2, 2), (4, 3)] (r8.1.map o3)]) (by kernel_rfl) ⟨rfl, rfl, (by decide), rfl, (laws_toProg_m hr14), (by simp only [noRo, noRoL, noRoM n82, o35, Bool.and_self]), rfl, (laws_eqProg_m hr15), rfl, (frzF t82 z82), (frzF t82 z82), c17, (laws_markProg_m hr18), ⟨rfl, trivial⟩, ⟨⟨treeM t82, noRoM n82⟩, trivial⟩, ⟨(sameLenE o82 hq19), trivial⟩, rfl, rfl, (litB c21), (laws_eqIntS_m hr22), rfl, (frzF t3 z3), (frzF t3 z3), (litB c24), c26, (rok (treeB t24 p1)), (rok (treeM t3)), (rok (treeM t3)), trivial⟩ (laws_FnExactSpawnsIn_j1_m hP hn hx p1 r6 r8  _ h)
noncomputable def laws_FnExactSpawnsIn (p1 : GProg) : Option Bool :=
  Option.bind (laws_szProg p1 1048576) fun r2 =>
  if (decide (r2 < 0)) = true then
    some true
  else
    Option.bind (laws_toProg p1) fun r5 =>
    Option.bind (spec_SpawnsIn (GProg.mk r5.Cells r5.Locks r5.Conds r5.Routines)) fun r6 =>
    Option.bind (laws_toProg p1) fun r7 =>
    Option.bind (impl_SpawnsIn (GProg.mk r7.Cells r7.Locks r7.Conds r7.Routines)) fun r8 =>
    Option.bind (laws_eqIntS r8.1 r6.1) fun r9 =>
    if (!r9) = true then
      some false
    else
      if (!(r8.2 == r6.2)) = true then
        some false
      else
        laws_FnExactSpawnsIn_j0 p1 r6 r7 r8
theorem laws_FnExactSpawnsIn_m {p1 : GProg} {r : Bool} (h : laws_FnExactSpawnsIn p1 = some r) : Meets Try.prog 6 [(AV.agg ((r24 p1)))] (B r) := by
  refine meets_ofC Θ_ok Try.func6 rfl (c := body6) (by kernel_rfl) (Nat.le_of_ble_eq_true rfl) ?_
  intro E hP hn hx
  replace hn : E.n = 96 := hn
  have hm : E.P.follows .mixedOrders = true := by rw [hP]; exact mixed
  have hΘ : TOK E.P Θ := by rw [hP]; exact Θ_ok
  unfold laws_FnExactSpawnsIn at h
  show WAt E body6 (FQ (RetE Θ Try.f6.results.toList [] [] (B r) E)) [] ⟨[(0, (AV.agg ((r24 p1))))], [], [JJ]⟩
  obtain ⟨r2, hr2, h⟩ := bnS h
  rcases itS h with ⟨c3, h⟩ | ⟨c4, h⟩
  · have h := Option.some.inj h
    subst h
    exact go_ret hΘ hm hP hn (hs := [⟨0, .new 1001, none⟩, ⟨5, .callV [[]] (I r2), none⟩, ⟨9, .br true, none⟩]) (rh := []) (ph := .raw) (ps := [Meets Try.prog 8 [(AV.agg ((r24 p1))), (I 1048576)] (I r2), litA (I r2) = true, (decide (r2 < 0)) = true, (B true) = (B true), litA (B true) = true]) (by kernel_rfl) ⟨(laws_szProg_m hr2), rfl, c3, rfl, rfl, trivial⟩
  · obtain ⟨r5, hr5, h⟩ := bnS h
    obtain ⟨r6, hr6, h⟩ := bnS h
    obtain ⟨r7, hr7, h⟩ := bnS h
    obtain ⟨r8, hr8, h⟩ := bnS h
    obtain ⟨r9, hr9, h⟩ := bnS h
    rcases itS h with ⟨c10, h⟩ | ⟨c11, h⟩
    · have h := Option.some.inj h
      subst h
      exact go_ret hΘ hm hP hn (hs := [⟨0, .new 1001, none⟩, ⟨5, .callV [[]] (I r2), none⟩, ⟨9, .br false, none⟩, ⟨11, .call [[]] (AV.agg (o35 r5)) [1002], none⟩, ⟨12, .call [[], (r5.Routines.map r82)] (AV.tup [(AV.own 3 1 (r6.1.map o3)), (B r6.2)]) [1003], none⟩, ⟨19, .call [[]] (AV.agg (o35 r7)) [1004], none⟩, ⟨20, .new 1005, none⟩, ⟨23, .call [[], (r7.Routines.map r82)] (AV.tup [(AV.own 3 1 (r8.1.map o3)), (B r8.2)]) [1006], none⟩, ⟨31, .callV [(r8.1.map o3), (r6.1.map o3)] (B r9), none⟩, ⟨33, .no, some (B true)⟩]) (rh := []) (ph := .raw) (ps := [Meets Try.prog 8 [(AV.agg ((r24 p1))), (I 1048576)] (I r2), litA (I r2) = true, (decide (r2 < 0)) = false, Meets Try.prog 11 [(AV.agg ((r24 p1)))] (AV.agg (o35 r5)), noRo (AV.agg (o35 r5)) = true, Meets Try.prog 26 [(AV.agg [(I r5.Cells), (I r5.Locks), (I r5.Conds), (AV.ro 1 (r5.Routines.map r82))])] (AV.tup [(AV.own 3 1 (r6.1.map o3)), (B r6.2)]), noRo (AV.tup [(AV.own 3 1 (r6.1.map o3)), (B r6.2)]) = true, Frz (((r5.Routines.map o82).drop 0).take (List.length (r5.Routines.map o82))) (r5.Routines.map r82), Meets Try.prog 11 [(AV.agg ((r24 p1)))] (AV.agg (o35 r7)), noRo (AV.agg (o35 r7)) = true, Meets Try.prog 27 [(AV.agg [(I r7.Cells), (I r7.Locks), (I r7.Conds), (AV.ro 1 (r7.Routines.map r82))])] (AV.tup [(AV.own 3 1 (r8.1.map o3)), (B r8.2)]), noRo (AV.tup [(AV.own 3 1 (r8.1.map o3)), (B r8.2)]) = true, Frz (((r7.Routines.map o82).drop 0).take (List.length (r7.Routines.map o82))) (r7.Routines.map r82), Meets Try.prog 23 [(AV.ro 1 (r8.1.map o3)), (AV.ro 1 (r6.1.map o3))] (B r9), litA (B r9) = true, Frz (((r8.1.map o3).drop 0).take (List.length (r8.1.map o3))) (r8.1.map o3), Frz (((r6.1.map o3).drop 0).take (List.length (r6.1.map o3))) (r6.1.map o3), (B (!r9)) = (B true), (B false) = (B false), litA (B false) = true]) (by kernel_rfl) ⟨(laws_szProg_m hr2), rfl, c4, (laws_toProg_m hr5), (by simp only [noRo, noRoL, noRoM n82, o35, Bool.and_self]), (spec_SpawnsIn_m hr6), (by simp only [noRo, noRoL, noRoM n3, Bool.and_self]), (frzF t82 z82), (laws_toProg_m hr7), (by simp only [noRo, noRoL, noRoM n82, o35, Bool.and_self]), (impl_SpawnsIn_m hr8), (by simp only [noRo, noRoL, noRoM n3, Bool.and_self]), (frzF t82 z82), (laws_eqIntS_m hr9), rfl, (frzF t3 z3), (frzF t3 z3), (litB c10), rfl, rfl, trivial⟩
    · rcases itS h with ⟨c12, h⟩ | ⟨c13, h⟩
      · have h := Option.some.inj h
        subst h
        exact go_ret hΘ hm hP hn (hs := [⟨0, .new 1001, none⟩, ⟨5, .callV [[]] (I r2), none⟩, ⟨9, .br false, none⟩, ⟨11, .call [[]] (AV.agg (o35 r5)) [1002], none⟩, ⟨12, .call [[], (r5.Routines.map r82)] (AV.tup [(AV.own 3 1 (r6.1.map o3)), (B r6.2)]) [1003], none⟩, ⟨19, .call [[]] (AV.agg (o35 r7)) [1004], none⟩, ⟨20, .new 1005, none⟩, ⟨23, .call [[], (r7.Routines.map r82)] (AV.tup [(AV.own 3 1 (r8.1.map o3)), (B r8.2)]) [1006], none⟩, ⟨31, .callV [(r8.1.map o3), (r6.1.map o3)] (B r9), none⟩, ⟨33, .no, some (B false)⟩, ⟨38, .br true, none⟩]) (rh := []) (ph := .raw) (ps := [Meets Try.prog 8 [(AV.agg ((r24 p1))), (I 1048576)] (I r2), litA (I r2) = true, (decide (r2 < 0)) = false, Meets Try.prog 11 [(AV.agg ((r24 p1)))] (AV.agg (o35 r5)), noRo (AV.agg (o35 r5)) = true, Meets Try.prog 26 [(AV.agg [(I r5.Cells), (I r5.Locks), (I r5.Conds), (AV.ro 1 (r5.Routines.map r82))])] (AV.tup [(AV.own 3 1 (r6.1.map o3)), (B r6.2)]), noRo (AV.tup [(AV.own 3 1 (r6.1.map o3)), (B r6.2)]) = true, Frz (((r5.Routines.map o82).drop 0).take (List.length (r5.Routines.map o82))) (r5.Routines.map r82), Meets Try.prog 11 [(AV.agg ((r24 p1)))] (AV.agg (o35 r7)), noRo (AV.agg (o35 r7)) = true, Meets Try.prog 27 [(AV.agg [(I r7.Cells), (I r7.Locks), (I r7.Conds), (AV.ro 1 (r7.Routines.map r82))])] (AV.tup [(AV.own 3 1 (r8.1.map o3)), (B r8.2)]), noRo (AV.tup [(AV.own 3 1 (r8.1.map o3)), (B r8.2)]) = true, Frz (((r7.Routines.map o82).drop 0).take (List.length (r7.Routines.map o82))) (r7.Routines.map r82), Meets Try.prog 23 [(AV.ro 1 (r8.1.map o3)), (AV.ro 1 (r6.1.map o3))] (B r9), litA (B r9) = true, Frz (((r8.1.map o3).drop 0).take (List.length (r8.1.map o3))) (r8.1.map o3), Frz (((r6.1.map o3).drop 0).take (List.length (r6.1.map o3))) (r6.1.map o3), (B (!r9)) = (B false), (!(r8.2 == r6.2)) = true, (B false) = (B false), litA (B false) = true]) (by kernel_rfl) ⟨(laws_szProg_m hr2), rfl, c4, (laws_toProg_m hr5), (by simp only [noRo, noRoL, noRoM n82, o35, Bool.and_self]), (spec_SpawnsIn_m hr6), (by simp only [noRo, noRoL, noRoM n3, Bool.and_self]), (frzF t82 z82), (laws_toProg_m hr7), (by simp only [noRo, noRoL, noRoM n82, o35, Bool.and_self]), (impl_SpawnsIn_m hr8), (by simp only [noRo, noRoL, noRoM n3, Bool.and_self]), (frzF t82 z82), (laws_eqIntS_m hr9), rfl, (frzF t3 z3), (frzF t3 z3), (litB c11), c12, rfl, rfl, trivial⟩
      · exact go_to hΘ hm hx hP hn (hs := [⟨0, .new 1001, none⟩, ⟨5, .callV [[]] (I r2), none⟩, ⟨9, .br false, none⟩, ⟨11, .call [[]] (AV.agg (o35 r5)) [1002], none⟩, ⟨12, .call [[], (r5.Routines.map r82)] (AV.tup [(AV.own 3 1 (r6.1.map o3)), (B r6.2)]) [1003], none⟩, ⟨19, .call [[]] (AV.agg (o35 r7)) [1004], none⟩, ⟨20, .new 1005, none⟩, ⟨23, .call [[], (r7.Routines.map r82)] (AV.tup [(AV.own 3 1 (r8.1.map o3)), (B r8.2)]) [1006], none⟩, ⟨31, .callV [(r8.1.map o3), (r6.1.map o3)] (B r9), none⟩, ⟨33, .no, some (B false)⟩, ⟨38, .br false, none⟩, ⟨39, .pack 1005 1004 0 3 [(I r7.Cells), (I r7.Locks), (I r7.Conds), (AV.sl 1004 0 (List.length (r7.Routines.map o82)))] [[(I r7.Cells), (I r7.Locks), (I r7.Conds), (AV.own 82 1 (r7.Routines.map o82))]], none⟩]) (π := [(1001, 1), (1003, 2), (1005, 3), (1006, 4)]) (ts := [1, 4, 5, 6, 7, 8]) (kp := []) (ps := [Meets Try.prog 8 [(AV.agg ((r24 p1))), (I 1048576)] (I r2), litA (I r2) = true, (decide (r2 < 0)) = false, Meets Try.prog 11 [(AV.agg ((r24 p1)))] (AV.agg (o35 r5)), noRo (AV.agg (o35 r5)) = true, Meets Try.prog 26 [(AV.agg [(I r5.Cells), (I r5.Locks), (I r5.Conds), (AV.ro 1 (r5.Routines.map r82))])] (AV.tup [(AV.own 3 1 (r6.1.map o3)), (B r6.2)]), noRo (AV.tup [(AV.own 3 1 (r6.1.map o3)), (B r6.2)]) = true, Frz (((r5.Routines.map o82).drop 0).take (List.length (r5.Routines.map o82))) (r5.Routines.map r82), Meets Try.prog 11 [(AV.agg ((r24 p1)))] (AV.agg (o35 r7)), noRo (AV.agg (o35 r7)) = true, Meets Try.prog 27 [(AV.agg [(I r7.Cells), (I r7.Locks), (I r7.Conds), (AV.ro 1 (r7.Routines.map r82))])] (AV.tup [(AV.own 3 1 (r8.1.map o3)), (B r8.2)]), noRo (AV.tup [(AV.own 3 1 (r8.1.map o3)), (B r8.2)]) = true, Frz (((r7.Routines.map o82).drop 0).take (List.length (r7.Routines.map o82))) (r7.Routines.map r82), Meets Try.prog 23 [(AV.ro 1 (r8.1.map o3)), (AV.ro 1 (r6.1.map o3))] (B r9), litA (B r9) = true, Frz (((r8.1.map o3).drop 0).take (List.length (r8.1.map o3))) (r8.1.map o3), Frz (((r6.1.map o3).drop 0).take (List.length (r6.1.map o3))) (r6.1.map o3), (B (!r9)) = (B false), (!(r8.2 == r6.2)) = false, [[(I r7.Cells), (I r7.Locks), (I r7.Conds), (AV.sl 1004 0 (List.length (r7.Routines.map o82)))]][0]? = some [(I r7.Cells), (I r7.Locks), (I r7.Conds), (AV.sl 1004 0 (List.length (r7.Routines.map o82)))], [(I r7.Cells), (I r7.Locks), (I r7.Conds), (AV.sl 1004 0 (List.length (r7.Routines.map o82)))][3]? = some (AV.sl 1004 0 (List.length (r7.Routines.map o82))), treeLL (r7.Routines.map o82) = true, [[(I r7.Cells), (I r7.Locks), (I r7.Conds), (AV.sl 1004 0 (List.length (r7.Routines.map o82)))]].set 0 ([(I r7.Cells), (I r7.Locks), (I r7.Conds), (AV.sl 1004 0 (List.length (r7.Routines.map o82)))].set 3 (AV.own 82 1 (r7.Routines.map o82))) = [[(I r7.Cells), (I r7.Locks), (I r7.Conds), (AV.own 82 1 (r7.Routines.map o82))]], RenOK [(1001, 1), (1003, 2), (1005, 3), (1006, 4)] [((r24 p1))], RenOK [(1001, 1), (1003, 2), (1005, 3), (1006, 4)] (r6.1.map o3), RenOK [(1001, 1), (1003, 2), (1005, 3), (1006, 4)] [[(I r7.Cells), (I r7.Locks), (I r7.Conds), (AV.own 82 1 (r7.Routines.map o82))]], RenOK [(1001, 1), (1003, 2), (1005, 3), (1006, 4)] (r8.1.map o3)]) (by kernel_rfl) ⟨(laws_szProg_m hr2), rfl, c4, (laws_toProg_m hr5), (by simp only [noRo, noRoL, noRoM n82, o35, Bool.and_self]), (spec_SpawnsIn_m hr6), (by simp only [noRo, noRoL, noRoM n3, Bool.and_self]), (frzF t82 z82), (laws_toProg_m hr7), (by simp only [noRo, noRoL, noRoM n82, o35, Bool.and_self]), (impl_SpawnsIn_m hr8), (by simp only [noRo, noRoL, noRoM n3, Bool.and_self]), (frzF t82 z82), (laws_eqIntS_m hr9), rfl, (frzF t3 z3), (frzF t3 z3), (litB c11), c13, rfl, rfl, (treeM t82), rfl, (rok (treeB t24 p1)), (rok (treeM t3)), (rok (treeB t35 (GProg.mk r7.Cells r7.Locks r7.Conds r7.Routines))), (rok (treeM t3)), trivial⟩ (laws_FnExactSpawnsIn_j0_m hP hn hx p1 r6 r7 r8  _ h)
end Go.Proofs.Ytgofeoobgpadiaa
