/- Functions as plain data, and that the code comes to them; no condition. -/

import Derived.Test.YtihgcgccajikpaaGA
set_option linter.unusedVariables false
set_option maxRecDepth 100000
namespace Go.Proofs.Ytihgcgccajikpaa
open Go Go.T
noncomputable def body51 : Code := match Try.f51.body with | some c => c | none => .skip
noncomputable def spec_l8Pairs_l2 (K0 : (List (List Int)) → Int → Option (List (List Int))) (p1 : (List GEvent)) (v3 : Int) (a7 : (List Int)) : Nat → (List (List Int)) → (List Int) → Int → Option (List (List Int))
  | 0, _, _, _ => none
  | n + 1, a16, a17, v18 =>
  if (decide (v18 < (a7.length : Int))) = true then
    Option.bind (rd a17 v18) fun x20 =>
    Option.bind (app a16 [[v3, x20]]) fun l21 =>
    spec_l8Pairs_l2 K0 p1 v3 a7 n l21 a17 (w64 (v18 + 1))
  else
    K0 a16 (w64 (v3 + 1))
theorem spec_l8Pairs_l2_m {E : Env} (hP : E.P = Try.prog) (hn : E.n = 44) (hx : ∀ p, p ∈ E.fx → p.1 ∈ ([] : List Nat)) (p1 : (List GEvent)) (v3 : Int) (a7 : (List Int)) {K0 : (List (List Int)) → Int → Option (List (List Int))} (hK0 : ∀ (a2 : (List (List Int))) (v3 : Int) (r : (List (List Int))), K0 a2 v3 = some r → WAt E body51 (FQ (RetE Θ Try.f51.results.toList [] [] (AV.own 33 1 (r.map o33)) E)) [true, true, false, true, false] ⟨[(0, (AV.ro 5 (p1.map o64))), (3, (AV.sl 1 0 (List.length (a2.map o33)))), (4, (I v3))], [(1, some ⟨33, 1, (a2.map o33)⟩)], [1, JJ]⟩) : ∀ (n : Nat) (a16 : (List (List Int))) (a17 : (List Int)) (v18 : Int) (r : (List (List Int))), spec_l8Pairs_l2 K0 p1 v3 a7 n a16 a17 v18 = some r → WAt E body51 (FQ (RetE Θ Try.f51.results.toList [] [] (AV.own 33 1 (r.map o33)) E)) [true, true, false, true, false, false, true, false, false, true, true, true, false] ⟨[(0, (AV.ro 5 (p1.map o64))), (3, (AV.sl 1 0 (List.length (a16.map o33)))), (4, (I v3)), (30, (AV.sl 2 0 (List.length (a17.map o3)))), (31, (I (a7.length : Int))), (32, (I v18))], [(1, some ⟨33, 1, (a16.map o33)⟩), (2, some ⟨3, 1, (a17.map o3)⟩)], [1, 2, JJ]⟩ := by
  have hm : E.P.follows .mixedOrders = true := by rw [hP]; exact mixed
  have hΘ : TOK E.P Θ := by rw [hP]; exact Θ_ok
  intro n
  induction n with
  | zero => intro a16 a17 v18 r h; simp only [spec_l8Pairs_l2] at h; cases h
  | succ n ih =>
    intro a16 a17 v18 r h
    simp only [spec_l8Pairs_l2] at h
    rcases itS h with ⟨c19, h⟩ | ⟨c22, h⟩
    · obtain ⟨x20, hx20, h⟩ := bnS h
      obtain ⟨l21, hl21, h⟩ := bnS h
      exact go_to hΘ hm hx hP hn (hs := [⟨1, .br true, none⟩, ⟨3, .row [(I x20)], none⟩, ⟨8, .new 1001, none⟩, ⟨9, .new 1002, none⟩, ⟨10, .app 1003 ((a16.map o33) ++ [[(AV.sl 1001 0 (List.length ([v3, x20].map o3)))]]), none⟩, ⟨11, .pack 1003 1001 (List.length a16) 0 [(AV.sl 1001 0 (List.length ([v3, x20].map o3)))] (l21.map o33), none⟩, ⟨14, .slen 3 (List.length (l21.map o33)), none⟩]) (π := [(1003, 1), (2, 2)]) (ts := [0, 3, 4, 30, 31, 32]) (kp := []) (ps := [(decide (v18 < (a7.length : Int))) = true, (0 : Int) ≤ v18, v18 < (((List.length (a17.map o3)) : Nat) : Int), (a17.map o3)[(Int.toNat v18)]? = some [(I x20)], (a16.map o33).take (List.length (a16.map o33)) ++ [[(AV.sl 1001 0 (List.length ([v3, x20].map o3)))]] = ((a16.map o33) ++ [[(AV.sl 1001 0 (List.length ([v3, x20].map o3)))]]), [[(AV.sl 1001 0 (List.length ([v3, x20].map o3)))]].all (fun r => r.all AV.plain) = true, (List.length ((a16.map o33) ++ [[(AV.sl 1001 0 (List.length ([v3, x20].map o3)))]])) * 24 ≤ 140737488355328, (List.length ((a16.map o33) ++ [[(AV.sl 1001 0 (List.length ([v3, x20].map o3)))]])) ≤ 140737488355328, ((a16.map o33) ++ [[(AV.sl 1001 0 (List.length ([v3, x20].map o3)))]])[(List.length a16)]? = some [(AV.sl 1001 0 (List.length ([v3, x20].map o3)))], [(AV.sl 1001 0 (List.length ([v3, x20].map o3)))][0]? = some (AV.sl 1001 0 (List.length ([v3, x20].map o3))), treeLL ([v3, x20].map o3) = true, ((a16.map o33) ++ [[(AV.sl 1001 0 (List.length ([v3, x20].map o3)))]]).set (List.length a16) ([(AV.sl 1001 0 (List.length ([v3, x20].map o3)))].set 0 (AV.own 3 1 ([v3, x20].map o3))) = (l21.map o33), (List.length ((a16.map o33) ++ [[(AV.sl 1001 0 (List.length ([v3, x20].map o3)))]])) = (List.length (l21.map o33)), RenOK [(1003, 1), (2, 2)] (l21.map o33), RenOK [(1003, 1), (2, 2)] (a17.map o3)]) (by kernel_rfl) ⟨c19, (rd0 hx20), (rdL o3 hx20), (rdM o3 hx20), (apT o33), rfl, (apB o33 hl21 (by decide)), (apC o33 hl21), (apG o33), rfl, (treeM t3), (apS o33 hl21), (apLn o33 hl21), (rok (treeM t33)), (rok (treeM t3)), trivial⟩ (ih l21 a17 (w64 (v18 + 1)) _ h)
    · exact go_to hΘ hm hx hP hn (hs := [⟨1, .br false, none⟩]) (π := [(1, 1)]) (ts := [0, 3, 4]) (kp := []) (ps := [(decide (v18 < (a7.length : Int))) = false, RenOK [(1, 1)] (a16.map o33)]) (by kernel_rfl) ⟨c22, (rok (treeM t33)), trivial⟩ (hK0 a16 (w64 (v3 + 1)) _ h)
noncomputable def spec_l8Pairs_l1 (K0 : (List (List Int)) → Int → Option (List (List Int))) (p1 : (List GEvent)) (v3 : Int) (r5 : (List GUnder)) : Nat → (List (List Int)) → (List Int) → (List GUnder) → Int → Option (List (List Int))
  | 0, _, _, _, _ => none
  | n + 1, a6, a7, a8, v9 =>
  if (decide (v9 < (r5.length : Int))) = true then
    Option.bind (rd a8 v9) fun x11 =>
    if (x11.Had == v3) = true then
      Option.bind (spec_l1Put a7 x11.Taken) fun r13 =>
      spec_l8Pairs_l1 K0 p1 v3 r5 n a6 r13 a8 (w64 (v9 + 1))
    else
      spec_l8Pairs_l1 K0 p1 v3 r5 n a6 a7 a8 (w64 (v9 + 1))
  else
    spec_l8Pairs_l2 K0 p1 v3 a7 FU a6 a7 0
theorem spec_l8Pairs_l1_m {E : Env} (hP : E.P = Try.prog) (hn : E.n = 44) (hx : ∀ p, p ∈ E.fx → p.1 ∈ ([] : List Nat)) (p1 : (List GEvent)) (v3 : Int) (r5 : (List GUnder)) {K0 : (List (List Int)) → Int → Option (List (List Int))} (hK0 : ∀ (a2 : (List (List Int))) (v3 : Int) (r : (List (List Int))), K0 a2 v3 = some r → WAt E body51 (FQ (RetE Θ Try.f51.results.toList [] [] (AV.own 33 1 (r.map o33)) E)) [true, true, false, true, false] ⟨[(0, (AV.ro 5 (p1.map o64))), (3, (AV.sl 1 0 (List.length (a2.map o33)))), (4, (I v3))], [(1, some ⟨33, 1, (a2.map o33)⟩)], [1, JJ]⟩) : ∀ (n : Nat) (a6 : (List (List Int))) (a7 : (List Int)) (a8 : (List GUnder)) (v9 : Int) (r : (List (List Int))), spec_l8Pairs_l1 K0 p1 v3 r5 n a6 a7 a8 v9 = some r → WAt E body51 (FQ (RetE Θ Try.f51.results.toList [] [] (AV.own 33 1 (r.map o33)) E)) [true, true, false, true, false, false, true, false, false, true, false, true, false] ⟨[(0, (AV.ro 5 (p1.map o64))), (3, (AV.sl 1 0 (List.length (a6.map o33)))), (4, (I v3)), (5, (AV.sl 2 0 (List.length (a7.map o3)))), (15, (AV.sl 3 0 (List.length (a8.map o85)))), (16, (I (r5.length : Int))), (17, (I v9))], [(1, some ⟨33, 1, (a6.map o33)⟩), (2, some ⟨3, 1, (a7.map o3)⟩), (3, some ⟨85, 4, (a8.map o85)⟩)], [1, 2, 3, JJ]⟩ := by
  have hm : E.P.follows .mixedOrders = true := by rw [hP]; exact mixed
  have hΘ : TOK E.P Θ := by rw [hP]; exact Θ_ok
  intro n
  induction n with
  | zero => intro a6 a7 a8 v9 r h; simp only [spec_l8Pairs_l1] at h; cases h
  | succ n ih =>
    intro a6 a7 a8 v9 r h
    simp only [spec_l8Pairs_l1] at h
    rcases itS h with ⟨c10, h⟩ | ⟨c15, h⟩
    · obtain ⟨x11, hx11, h⟩ := bnS h
      rcases itS h with ⟨c12, h⟩ | ⟨c14, h⟩
      · obtain ⟨r13, hr13, h⟩ := bnS h
        exact go_to hΘ hm hx hP hn (hs := [⟨1, .br true, none⟩, ⟨3, .row ((o85 x11)), none⟩, ⟨4, .new 1001, none⟩, ⟨10, .br true, none⟩, ⟨14, .callX [2] [false] [⟨3, 1, (a7.map o3)⟩] [⟨3, 1, (a7.map o3)⟩] [] (AV.own 3 1 (r13.map o3)) [1002] (AV.sl 1002 0 (List.length (r13.map o3))) [(1002, ⟨3, 1, (r13.map o3)⟩)], none⟩]) (π := [(1, 1), (1002, 2), (3, 3)]) (ts := [0, 3, 4, 5, 15, 16, 17]) (kp := []) (ps := [(decide (v9 < (r5.length : Int))) = true, (0 : Int) ≤ v9, v9 < (((List.length (a8.map o85)) : Nat) : Int), (a8.map o85)[(Int.toNat v9)]? = some ((o85 x11)), (x11.Had == v3) = true, MeetsR Try.prog 45 [⟨3, 1, (a7.map o3)⟩] [(AV.sl 0 0 (List.length (a7.map o3))), (I x11.Taken)] [false] [⟨3, 1, (a7.map o3)⟩] (AV.own 3 1 (r13.map o3)), (some (Root.mk 3 1 (a7.map o3)) = some (Root.mk 3 1 (a7.map o3))) ∧ True, (treeLL (a7.map o3) = true ∧ noRoLL (a7.map o3) = true) ∧ True, ((a7.map o3).length = (a7.map o3).length) ∧ True, (rtf (renA [] (AV.own 3 1 (r13.map o3))) [1002]).1 = (AV.sl 1002 0 (List.length (r13.map o3))), (rtf (renA [] (AV.own 3 1 (r13.map o3))) [1002]).2.1 = [(1002, ⟨3, 1, (r13.map o3)⟩)], RenOK [(1, 1), (1002, 2), (3, 3)] (a6.map o33), RenOK [(1, 1), (1002, 2), (3, 3)] (r13.map o3), RenOK [(1, 1), (1002, 2), (3, 3)] (a8.map o85)]) (by kernel_rfl) ⟨c10, (rd0 hx11), (rdL o85 hx11), (rdM o85 hx11), c12, (spec_l1Put_m hr13), ⟨rfl, trivial⟩, ⟨⟨treeM t3, noRoM n3⟩, trivial⟩, ⟨rfl, trivial⟩, rfl, rfl, (rok (treeM t33)), (rok (treeM t3)), (rok (treeM t85)), trivial⟩ (ih a6 r13 a8 (w64 (v9 + 1)) _ h)
      · exact go_to hΘ hm hx hP hn (hs := [⟨1, .br true, none⟩, ⟨3, .row ((o85 x11)), none⟩, ⟨4, .new 1001, none⟩, ⟨10, .br false, none⟩]) (π := [(1, 1), (2, 2), (3, 3)]) (ts := [0, 3, 4, 5, 15, 16, 17]) (kp := []) (ps := [(decide (v9 < (r5.length : Int))) = true, (0 : Int) ≤ v9, v9 < (((List.length (a8.map o85)) : Nat) : Int), (a8.map o85)[(Int.toNat v9)]? = some ((o85 x11)), (x11.Had == v3) = false, RenOK [(1, 1), (2, 2), (3, 3)] (a6.map o33), RenOK [(1, 1), (2, 2), (3, 3)] (a7.map o3), RenOK [(1, 1), (2, 2), (3, 3)] (a8.map o85)]) (by kernel_rfl) ⟨c10, (rd0 hx11), (rdL o85 hx11), (rdM o85 hx11), c14, (rok (treeM t33)), (rok (treeM t3)), (rok (treeM t85)), trivial⟩ (ih a6 a7 a8 (w64 (v9 + 1)) _ h)
    · exact go_to hΘ hm hx hP hn (hs := [⟨1, .br false, none⟩, ⟨3, .no, some (I (a7.length : Int))⟩]) (π := [(1, 1), (2, 2)]) (ts := [0, 3, 4, 30, 31, 32]) (kp := []) (ps := [(decide (v9 < (r5.length : Int))) = false, AV.lit (.int .i64 (((List.length (a7.map o3)) : Nat) : Int)) = (I (a7.length : Int)), RenOK [(1, 1), (2, 2)] (a6.map o33), RenOK [(1, 1), (2, 2)] (a7.map o3)]) (by kernel_rfl) ⟨c15, (lenM o3), (rok (treeM t33)), (rok (treeM t3)), trivial⟩ (spec_l8Pairs_l2_m hP hn hx p1 v3 a7 hK0 FU a6 a7 0 _ h)
noncomputable def spec_l8Pairs_l0  (p1 : (List GEvent)) : Nat → (List (List Int)) → Int → Option (List (List Int))
  | 0, _, _ => none
  | n + 1, a2, v3 =>
  if (decide (v3 < 100)) = true then
    Option.bind (spec_l8Unders p1) fun r5 =>
    spec_l8Pairs_l1 (spec_l8Pairs_l0 p1 n) p1 v3 r5 FU a2 [] r5 0
  else
    some a2
theorem spec_l8Pairs_l0_m {E : Env} (hP : E.P = Try.prog) (hn : E.n = 44) (hx : ∀ p, p ∈ E.fx → p.1 ∈ ([] : List Nat)) (p1 : (List GEvent))  : ∀ (n : Nat) (a2 : (List (List Int))) (v3 : Int) (r : (List (List Int))), spec_l8Pairs_l0 p1 n a2 v3 = some r → WAt E body51 (FQ (RetE Θ Try.f51.results.toList [] [] (AV.own 33 1 (r.map o33)) E)) [true, true, false, true, false] ⟨[(0, (AV.ro 5 (p1.map o64))), (3, (AV.sl 1 0 (List.length (a2.map o33)))), (4, (I v3))], [(1, some ⟨33, 1, (a2.map o33)⟩)], [1, JJ]⟩ := by
  have hm : E.P.follows .mixedOrders = true := by rw [hP]; exact mixed
  have hΘ : TOK E.P Θ := by rw [hP]; exact Θ_ok
  intro n
  induction n with
  | zero => intro a2 v3 r h; simp only [spec_l8Pairs_l0] at h; cases h
  | succ n ih =>
    intro a2 v3 r h
    simp only [spec_l8Pairs_l0] at h
    rcases itS h with ⟨c4, h⟩ | ⟨c23, h⟩
    · obtain ⟨r5, hr5, h⟩ := bnS h
      exact go_to hΘ hm hx hP hn (hs := [⟨2, .br true, none⟩, ⟨5, .call [] (AV.own 85 4 (r5.map o85)) [1001], none⟩, ⟨6, .no, some (I (r5.length : Int))⟩, ⟨8, .nil 5 1002 3 1, none⟩]) (π := [(1, 1), (1002, 2), (1001, 3)]) (ts := [0, 3, 4, 5, 15, 16, 17]) (kp := []) (ps := [(decide (v3 < 100)) = true, Meets Try.prog 87 [(AV.ro 5 (p1.map o64))] (AV.own 85 4 (r5.map o85)), noRo (AV.own 85 4 (r5.map o85)) = true, AV.lit (.int .i64 (((List.length (r5.map o85)) : Nat) : Int)) = (I (r5.length : Int)), RenOK [(1, 1), (1002, 2), (1001, 3)] (a2.map o33), RenOK [(1, 1), (1002, 2), (1001, 3)] ([].map o3), RenOK [(1, 1), (1002, 2), (1001, 3)] (r5.map o85)]) (by kernel_rfl) ⟨c4, (spec_l8Unders_m hr5), (by simp only [noRo, noRoL, noRoM n85, Bool.and_self]), (lenM o85), (rok (treeM t33)), (rok (treeM t3)), (rok (treeM t85)), trivial⟩ (spec_l8Pairs_l1_m hP hn hx p1 v3 r5 ih FU a2 [] r5 0 _ h)
    · have h := Option.some.inj h
      subst h
      exact go_ret hΘ hm hP hn (hs := [⟨2, .br false, none⟩]) (rh := []) (ph := .own) (ps := [(decide (v3 < 100)) = false, treeLL ((a2.map o33).take (List.length (a2.map o33))) = true, (a2.map o33).take (List.length (a2.map o33)) = (a2.map o33), noRoLL (a2.map o33) = true]) (by kernel_rfl) ⟨c23, (treeT t33), takeM, (noRoM n33), trivial⟩
noncomputable def spec_l8Pairs (p1 : (List GEvent)) : Option (List (List Int)) :=
  spec_l8Pairs_l0 p1 FU [] 0
theorem spec_l8Pairs_m {p1 : (List GEvent)} {r : (List (List Int))} (h : spec_l8Pairs p1 = some r) : Meets Try.prog 51 [(AV.ro 5 (p1.map o64))] (AV.own 33 1 (r.map o33)) := by
  refine meets_ofC Θ_ok Try.func51 rfl (c := body51) (by kernel_rfl) (Nat.le_of_ble_eq_true rfl) ?_
  intro E hP hn hx
  replace hn : E.n = 44 := hn
  have hm : E.P.follows .mixedOrders = true := by rw [hP]; exact mixed
  have hΘ : TOK E.P Θ := by rw [hP]; exact Θ_ok
  unfold spec_l8Pairs at h
  show WAt E body51 (FQ (RetE Θ Try.f51.results.toList [] [] (AV.own 33 1 (r.map o33)) E)) [] ⟨[(0, (AV.ro 5 (p1.map o64)))], [], [JJ]⟩
  exact go_to hΘ hm hx hP hn (hs := [⟨3, .nil 3 1001 33 1, none⟩]) (π := [(1001, 1)]) (ts := [0, 3, 4]) (kp := []) (ps := [RenOK [(1001, 1)] ([].map o33)]) (by kernel_rfl) ⟨(rok (treeM t33)), trivial⟩ (spec_l8Pairs_l0_m hP hn hx p1 FU [] 0 _ h)
noncomputable def body25 : Code := match Try.f25.body with | some c => c | none => .skip
noncomputable def spec_LockPairs (p1 : (List GEvent)) : Option ((List (List Int)) × Bool) :=
  Option.bind (spec_l6Trace p1) fun r2 =>
  if (!r2) = true then
    some ([], false)
  else
    Option.bind (spec_l8Pairs p1) fun r5 =>
    some (r5, true)
theorem spec_LockPairs_m {p1 : (List GEvent)} {r : ((List (List Int)) × Bool)} (h : spec_LockPairs p1 = some r) : Meets Try.prog 25 [(AV.ro 5 (p1.map o64))] (AV.tup [(AV.own 33 1 (r.1.map o33)), (B r.2)]) := by
  refine meets_ofC Θ_ok Try.func25 rfl (c := body25) (by kernel_rfl) (Nat.le_of_ble_eq_true rfl) ?_
  intro E hP hn hx
  replace hn : E.n = 9 := hn
  have hm : E.P.follows .mixedOrders = true := by rw [hP]; exact mixed
  have hΘ : TOK E.P Θ := by rw [hP]; exact Θ_ok
  unfold spec_LockPairs at h
  show WAt E body25 (FQ (RetE Θ Try.f25.results.toList [] [] (AV.tup [(AV.own 33 1 (r.1.map o33)), (B r.2)]) E)) [] ⟨[(0, (AV.ro 5 (p1.map o64)))], [], [JJ]⟩
  obtain ⟨r2, hr2, h⟩ := bnS h
  rcases itS h with ⟨c3, h⟩ | ⟨c4, h⟩
  · have h := Option.some.inj h
    subst h
    exact go_ret hΘ hm hP hn (hs := [⟨3, .callV [] (B r2), none⟩, ⟨5, .br true, none⟩]) (rh := []) (ph := .agg [.own, .raw]) (ps := [Meets Try.prog 43 [(AV.ro 5 (p1.map o64))] (B r2), litA (B r2) = true, (!r2) = true, (B false) = (B false), litA (B false) = true]) (by kernel_rfl) ⟨(spec_l6Trace_m hr2), rfl, c3, rfl, rfl, trivial⟩
  · obtain ⟨r5, hr5, h⟩ := bnS h
    have h := Option.some.inj h
    subst h
    exact go_ret hΘ hm hP hn (hs := [⟨3, .callV [] (B r2), none⟩, ⟨5, .br false, none⟩, ⟨7, .call [] (AV.own 33 1 (r5.map o33)) [1001], none⟩]) (rh := []) (ph := .agg [.own, .raw]) (ps := [Meets Try.prog 43 [(AV.ro 5 (p1.map o64))] (B r2), litA (B r2) = true, (!r2) = false, Meets Try.prog 51 [(AV.ro 5 (p1.map o64))] (AV.own 33 1 (r5.map o33)), noRo (AV.own 33 1 (r5.map o33)) = true, treeLL ((r5.map o33).take (List.length (r5.map o33))) = true, (r5.map o33).take (List.length (r5.map o33)) = (r5.map o33), noRoLL (r5.map o33) = true, (B true) = (B true), litA (B true) = true]) (by kernel_rfl) ⟨(spec_l6Trace_m hr2), rfl, c4, (spec_l8Pairs_m hr5), (by simp only [noRo, noRoL, noRoM n33, Bool.and_self]), (treeT t33), takeM, (noRoM n33), rfl, rfl, trivial⟩
noncomputable def body5 : Code := match Try.f5.body with | some c => c | none => .skip
noncomputable def laws_FnExactLockPairs_j2  (r27 : (Int × (List (List Int))))  : Option Bool :=
  Option.bind (laws_heldIntSS r27.2 1) fun r41 =>
  if (decide (r41 < 0)) = true then
    some false
  else
    if (r41 != r27.1) = true then
      some false
    else
      some true
theorem laws_FnExactLockPairs_j2_m {E : Env} (hP : E.P = Try.prog) (hn : E.n = 96) (hx : ∀ p, p ∈ E.fx → p.1 ∈ ([] : List Nat)) (r27 : (Int × (List (List Int))))   (r : Bool) (h : laws_FnExactLockPairs_j2 r27  = some r) : WAt E body5 (FQ (RetE Θ Try.f5.results.toList [] [] (B r) E)) [true, true, true, true, true, true, true, true, true, true, true, true, true, true, true, true, true, true, true, false, true, true] ⟨[(7, (AV.sl 1 0 (List.length (r27.2.map o33)))), (10, (I r27.1))], [(1, some ⟨33, 1, (r27.2.map o33)⟩)], [1, JJ]⟩ := by
  have hm : E.P.follows .mixedOrders = true := by rw [hP]; exact mixed
  have hΘ : TOK E.P Θ := by rw [hP]; exact Θ_ok
  unfold laws_FnExactLockPairs_j2 at h
  obtain ⟨r41, hr41, h⟩ := bnS h
  rcases itS h with ⟨c42, h⟩ | ⟨c43, h⟩
  · have h := Option.some.inj h
    subst h
    exact go_ret hΘ hm hP hn (hs := [⟨3, .callV [(r27.2.map r33)] (I r41), none⟩, ⟨7, .br true, none⟩]) (rh := []) (ph := .raw) (ps := [Meets Try.prog 29 [(AV.ro 1 (r27.2.map r33)), (I 1)] (I r41), litA (I r41) = true, Frz (((r27.2.map o33).drop 0).take (List.length (r27.2.map o33))) (r27.2.map r33), (decide (r41 < 0)) = true, (B false) = (B false), litA (B false) = true]) (by kernel_rfl) ⟨(laws_heldIntSS_m hr41), rfl, (frzF t33 z33), c42, rfl, rfl, trivial⟩
  · rcases itS h with ⟨c44, h⟩ | ⟨c45, h⟩
    · have h := Option.some.inj h
      subst h
      exact go_ret hΘ hm hP hn (hs := [⟨3, .callV [(r27.2.map r33)] (I r41), none⟩, ⟨7, .br false, none⟩, ⟨11, .br true, none⟩]) (rh := []) (ph := .raw) (ps := [Meets Try.prog 29 [(AV.ro 1 (r27.2.map r33)), (I 1)] (I r41), litA (I r41) = true, Frz (((r27.2.map o33).drop 0).take (List.length (r27.2.map o33))) (r27.2.map r33), (decide (r41 < 0)) = false, (r41 != r27.1) = true, (B false) = (B false), litA (B false) = true]) (by kernel_rfl) ⟨(laws_heldIntSS_m hr41), rfl, (frzF t33 z33), c43, c44, rfl, rfl, trivial⟩
    · have h := Option.some.inj h
      subst h
      exact go_ret hΘ hm hP hn (hs := [⟨3, .callV [(r27.2.map r33)] (I r41), none⟩, ⟨7, .br false, none⟩, ⟨11, .br false, none⟩]) (rh := []) (ph := .raw) (ps := [Meets Try.prog 29 [(AV.ro 1 (r27.2.map r33)), (I 1)] (I r41), litA (I r41) = true, Frz (((r27.2.map o33).drop 0).take (List.length (r27.2.map o33))) (r27.2.map r33), (decide (r41 < 0)) = false, (r41 != r27.1) = false, (B true) = (B true), litA (B true) = true]) (by kernel_rfl) ⟨(laws_heldIntSS_m hr41), rfl, (frzF t33 z33), c43, c45, rfl, rfl, trivial⟩
noncomputable def laws_FnExactLockPairs_j1  (p1 : (List GEvent)) (r6 : ((List (List Int)) × Bool)) (r8 : ((List (List Int)) × Bool))  : Option Bool :=
  Option.bind (laws_markIntSS r8.1 1) fun r27 =>
  Option.bind (sameLen r8.1 r27.2) fun q28 =>
  Option.bind (laws_heldIntSS r27.2 1) fun r29 =>
  if (decide (r29 < 0)) = true then
    some false
  else
    if (r29 != r27.1) = true then
      some false
    else
      Option.bind (laws_toEventS p1) fun r34 =>
      Option.bind (impl_LockPairs r34) fun r35 =>
      Option.bind (laws_eqIntSS r35.1 r6.1) fun r36 =>
      if (!r36) = true then
        some false
      else
        if (!(r35.2 == r6.2)) = true then
          some false
        else
          laws_FnExactLockPairs_j2 r27
theorem laws_FnExactLockPairs_j1_m {E : Env} (hP : E.P = Try.prog) (hn : E.n = 96) (hx : ∀ p, p ∈ E.fx → p.1 ∈ ([] : List Nat)) (p1 : (List GEvent)) (r6 : ((List (List Int)) × Bool)) (r8 : ((List (List Int)) × Bool))   (r : Bool) (h : laws_FnExactLockPairs_j1 p1 r6 r8  = some r) : WAt E body5 (FQ (RetE Θ Try.f5.results.toList [] [] (B r) E)) [true, true, true, true, true, true, true, true, true, true, true, false, true, true] ⟨[(0, (AV.ro 5 (p1.map o66))), (4, (AV.sl 1 0 (List.length (r6.1.map o33)))), (5, (B r6.2)), (7, (AV.sl 2 0 (List.length (r8.1.map o33))))], [(1, some ⟨33, 1, (r6.1.map o33)⟩), (2, some ⟨33, 1, (r8.1.map o33)⟩)], [1, 2, JJ]⟩ := by
  have hm : E.P.follows .mixedOrders = true := by rw [hP]; exact mixed
  have hΘ : TOK E.P Θ := by rw [hP]; exact Θ_ok
  unfold laws_FnExactLockPairs_j1 at h
  obtain ⟨r27, hr27, h⟩ := bnS h
  obtain ⟨q28, hq28, h⟩ := bnS h
  obtain ⟨r29, hr29, h⟩ := bnS h
  rcases itS h with ⟨c30, h⟩ | ⟨c31, h⟩
  · have h := Option.some.inj h
    subst h
    exact go_ret hΘ hm hP hn (hs := [⟨3, .callX [2] [true] [⟨33, 1, (r8.1.map o33)⟩] [⟨33, 1, (r27.2.map o33)⟩] [] (I r27.1) [] (I r27.1) [], none⟩, ⟨6, .slen 7 (List.length (r27.2.map o33)), none⟩, ⟨8, .callV [(r27.2.map r33)] (I r29), none⟩, ⟨12, .br true, none⟩]) (rh := []) (ph := .raw) (ps := [MeetsR Try.prog 28 [⟨33, 1, (r8.1.map o33)⟩] [(AV.sl 0 0 (List.length (r8.1.map o33))), (I 1)] [true] [⟨33, 1, (r27.2.map o33)⟩] (I r27.1), (some (Root.mk 33 1 (r8.1.map o33)) = some (Root.mk 33 1 (r8.1.map o33))) ∧ True, (treeLL (r8.1.map o33) = true ∧ noRoLL (r8.1.map o33) = true) ∧ True, ((r27.2.map o33).length = (r8.1.map o33).length) ∧ True, (rtf (renA [(0, 2)] (I r27.1)) []).1 = (I r27.1), (rtf (renA [(0, 2)] (I r27.1)) []).2.1 = [], (List.length (r8.1.map o33)) = (List.length (r27.2.map o33)), Meets Try.prog 29 [(AV.ro 1 (r27.2.map r33)), (I 1)] (I r29), litA (I r29) = true, Frz (((r27.2.map o33).drop 0).take (List.length (r27.2.map o33))) (r27.2.map r33), (decide (r29 < 0)) = true, (B false) = (B false), litA (B false) = true]) (by kernel_rfl) ⟨(laws_markIntSS_m hr27), ⟨rfl, trivial⟩, ⟨⟨treeM t33, noRoM n33⟩, trivial⟩, ⟨(sameLenE o33 hq28), trivial⟩, rfl, rfl, (sameLenE o33 hq28).symm, (laws_heldIntSS_m hr29), rfl, (frzF t33 z33), c30, rfl, rfl, trivial⟩
  · rcases itS h with ⟨c32, h⟩ | ⟨c33, h⟩
    · have h := Option.some.inj h
      subst h
      exact go_ret hΘ hm hP hn (hs := [⟨3, .callX [2] [true] [⟨33, 1, (r8.1.map o33)⟩] [⟨33, 1, (r27.2.map o33)⟩] [] (I r27.1) [] (I r27.1) [], none⟩, ⟨6, .slen 7 (List.length (r27.2.map o33)), none⟩, ⟨8, .callV [(r27.2.map r33)] (I r29), none⟩, ⟨12, .br false, none⟩, ⟨16, .br true, none⟩]) (rh := []) (ph := .raw) (ps := [MeetsR Try.prog 28 [⟨33, 1, (r8.1.map o33)⟩] [(AV.sl 0 0 (List.length (r8.1.map o33))), (I 1)] [true] [⟨33, 1, (r27.2.map o33)⟩] (I r27.1), (some (Root.mk 33 1 (r8.1.map o33)) = some (Root.mk 33 1 (r8.1.map o33))) ∧ True, (treeLL (r8.1.map o33) = true ∧ noRoLL (r8.1.map o33) = true) ∧ True, ((r27.2.map o33).length = (r8.1.map o33).length) ∧ True, (rtf (renA [(0, 2)] (I r27.1)) []).1 = (I r27.1), (rtf (renA [(0, 2)] (I r27.1)) []).2.1 = [], (List.length (r8.1.map o33)) = (List.length (r27.2.map o33)), Meets Try.prog 29 [(AV.ro 1 (r27.2.map r33)), (I 1)] (I r29), litA (I r29) = true, Frz (((r27.2.map o33).drop 0).take (List.length (r27.2.map o33))) (r27.2.map r33), (decide (r29 < 0)) = false, (r29 != r27.1) = true, (B false) = (B false), litA (B false) = true]) (by kernel_rfl) ⟨(laws_markIntSS_m hr27), ⟨rfl, trivial⟩, ⟨⟨treeM t33, noRoM n33⟩, trivial⟩, ⟨(sameLenE o33 hq28), trivial⟩, rfl, rfl, (sameLenE o33 hq28).symm, (laws_heldIntSS_m hr29), rfl, (frzF t33 z33), c31, c32, rfl, rfl, trivial⟩
    · obtain ⟨r34, hr34, h⟩ := bnS h
      obtain ⟨r35, hr35, h⟩ := bnS h
      obtain ⟨r36, hr36, h⟩ := bnS h
      rcases itS h with ⟨c37, h⟩ | ⟨c38, h⟩
      · have h := Option.some.inj h
        subst h
        exact go_ret hΘ hm hP hn (hs := [⟨3, .callX [2] [true] [⟨33, 1, (r8.1.map o33)⟩] [⟨33, 1, (r27.2.map o33)⟩] [] (I r27.1) [] (I r27.1) [], none⟩, ⟨6, .slen 7 (List.length (r27.2.map o33)), none⟩, ⟨8, .callV [(r27.2.map r33)] (I r29), none⟩, ⟨12, .br false, none⟩, ⟨16, .br false, none⟩, ⟨18, .call [] (AV.own 64 5 (r34.map o64)) [1001], none⟩, ⟨19, .call [(r34.map o64)] (AV.tup [(AV.own 33 1 (r35.1.map o33)), (B r35.2)]) [1002], none⟩, ⟨27, .callV [(r35.1.map r33), (r6.1.map r33)] (B r36), none⟩, ⟨29, .no, some (B true)⟩]) (rh := []) (ph := .raw) (ps := [MeetsR Try.prog 28 [⟨33, 1, (r8.1.map o33)⟩] [(AV.sl 0 0 (List.length (r8.1.map o33))), (I 1)] [true] [⟨33, 1, (r27.2.map o33)⟩] (I r27.1), (some (Root.mk 33 1 (r8.1.map o33)) = some (Root.mk 33 1 (r8.1.map o33))) ∧ True, (treeLL (r8.1.map o33) = true ∧ noRoLL (r8.1.map o33) = true) ∧ True, ((r27.2.map o33).length = (r8.1.map o33).length) ∧ True, (rtf (renA [(0, 2)] (I r27.1)) []).1 = (I r27.1), (rtf (renA [(0, 2)] (I r27.1)) []).2.1 = [], (List.length (r8.1.map o33)) = (List.length (r27.2.map o33)), Meets Try.prog 29 [(AV.ro 1 (r27.2.map r33)), (I 1)] (I r29), litA (I r29) = true, Frz (((r27.2.map o33).drop 0).take (List.length (r27.2.map o33))) (r27.2.map r33), (decide (r29 < 0)) = false, (r29 != r27.1) = false, Meets Try.prog 18 [(AV.ro 5 (p1.map o66))] (AV.own 64 5 (r34.map o64)), noRo (AV.own 64 5 (r34.map o64)) = true, Meets Try.prog 26 [(AV.ro 5 (r34.map o64))] (AV.tup [(AV.own 33 1 (r35.1.map o33)), (B r35.2)]), noRo (AV.tup [(AV.own 33 1 (r35.1.map o33)), (B r35.2)]) = true, Frz (((r34.map o64).drop 0).take (List.length (r34.map o64))) (r34.map o64), Meets Try.prog 27 [(AV.ro 1 (r35.1.map r33)), (AV.ro 1 (r6.1.map r33))] (B r36), litA (B r36) = true, Frz (((r35.1.map o33).drop 0).take (List.length (r35.1.map o33))) (r35.1.map r33), Frz (((r6.1.map o33).drop 0).take (List.length (r6.1.map o33))) (r6.1.map r33), (B (!r36)) = (B true), (B false) = (B false), litA (B false) = true]) (by kernel_rfl) ⟨(laws_markIntSS_m hr27), ⟨rfl, trivial⟩, ⟨⟨treeM t33, noRoM n33⟩, trivial⟩, ⟨(sameLenE o33 hq28), trivial⟩, rfl, rfl, (sameLenE o33 hq28).symm, (laws_heldIntSS_m hr29), rfl, (frzF t33 z33), c31, c33, (laws_toEventS_m hr34), (by simp only [noRo, noRoL, noRoM n64, Bool.and_self]), (impl_LockPairs_m hr35), (by simp only [noRo, noRoL, noRoM n33, Bool.and_self]), (frzF t64 z64), (laws_eqIntSS_m hr36), rfl, (frzF t33 z33), (frzF t33 z33), (litB c37), rfl, rfl, trivial⟩
      · rcases itS h with ⟨c39, h⟩ | ⟨c40, h⟩
        · have h := Option.some.inj h
          subst h
          exact go_ret hΘ hm hP hn (hs := [⟨3, .callX [2] [true] [⟨33, 1, (r8.1.map o33)⟩] [⟨33, 1, (r27.2.map o33)⟩] [] (I r27.1) [] (I r27.1) [], none⟩, ⟨6, .slen 7 (List.length (r27.2.map o33)), none⟩, ⟨8, .callV [(r27.2.map r33)] (I r29), none⟩, ⟨12, .br false, none⟩, ⟨16, .br false, none⟩, ⟨18, .call [] (AV.own 64 5 (r34.map o64)) [1001], none⟩, ⟨19, .call [(r34.map o64)] (AV.tup [(AV.own 33 1 (r35.1.map o33)), (B r35.2)]) [1002], none⟩, ⟨27, .callV [(r35.1.map r33), (r6.1.map r33)] (B r36), none⟩, ⟨29, .no, some (B false)⟩, ⟨34, .br true, none⟩]) (rh := []) (ph := .raw) (ps := [MeetsR Try.prog 28 [⟨33, 1, (r8.1.map o33)⟩] [(AV.sl 0 0 (List.length (r8.1.map o33))), (I 1)] [true] [⟨33, 1, (r27.2.map o33)⟩] (I r27.1), (some (Root.mk 33 1 (r8.1.map o33)) = some (Root.mk 33 1 (r8.1.map o33))) ∧ True, (treeLL (r8.1.map o33) = true ∧ noRoLL (r8.1.map o33) = true) ∧ True, ((r27.2.map o33).length = (r8.1.map o33).length) ∧ True, (rtf (renA [(0, 2)] (I r27.1)) []).1 = (I r27.1), (rtf (renA [(0, 2)] (I r27.1)) []).2.1 = [], (List.length (r8.1.map o33)) = (List.length (r27.2.map o33)), Meets Try.prog 29 [(AV.ro 1 (r27.2.map r33)), (I 1)] (I r29), litA (I r29) = true, Frz (((r27.2.map o33).drop 0).take (List.length (r27.2.map o33))) (r27.2.map r33), (decide (r29 < 0)) = false, (r29 != r27.1) = false, Meets Try.prog 18 [(AV.ro 5 (p1.map o66))] (AV.own 64 5 (r34.map o64)), noRo (AV.own 64 5 (r34.map o64)) = true, Meets Try.prog 26 [(AV.ro 5 (r34.map o64))] (AV.tup [(AV.own 33 1 (r35.1.map o33)), (B r35.2)]), noRo (AV.tup [(AV.own 33 1 (r35.1.map o33)), (B r35.2)]) = true, Frz (((r34.map o64).drop 0).take (List.length (r34.map o64))) (r34.map o64), Meets Try.prog 27 [(AV.ro 1 (r35.1.map r33)), (AV.ro 1 (r6.1.map r33))] (B r36), litA (B r36) = true, Frz (((r35.1.map o33).drop 0).take (List.length (r35.1.map o33))) (r35.1.map r33), Frz (((r6.1.map o33).drop 0).take (List.length (r6.1.map o33))) (r6.1.map r33), (B (!r36)) = (B false), (!(r35.2 == r6.2)) = true, (B false) = (B false), litA (B false) = true]) (by kernel_rfl) ⟨(laws_markIntSS_m hr27), ⟨rfl, trivial⟩, ⟨⟨treeM t33, noRoM n33⟩, trivial⟩, ⟨(sameLenE o33 hq28), trivial⟩, rfl, rfl, (sameLenE o33 hq28).symm, (laws_heldIntSS_m hr29), rfl, (frzF t33 z33), c31, c33, (laws_toEventS_m hr34), (by simp only [noRo, noRoL, noRoM n64, Bool.and_self]), (impl_LockPairs_m hr35), (by simp only [noRo, noRoL, noRoM n33, Bool.and_self]), (frzF t64 z64), (laws_eqIntSS_m hr36), rfl, (frzF t33 z33), (frzF t33 z33), (litB c38), c39, rfl, rfl, trivial⟩
        · exact go_to hΘ hm hx hP hn (hs := [⟨3, .callX [2] [true] [⟨33, 1, (r8.1.map o33)⟩] [⟨33, 1, (r27.2.map o33)⟩] [] (I r27.1) [] (I r27.1) [], none⟩, ⟨6, .slen 7 (List.length (r27.2.map o33)), none⟩, ⟨8, .callV [(r27.2.map r33)] (I r29), none⟩, ⟨12, .br false, none⟩, ⟨16, .br false, none⟩, ⟨18, .call [] (AV.own 64 5 (r34.map o64)) [1001], none⟩, ⟨19, .call [(r34.map o64)] (AV.tup [(AV.own 33 1 (r35.1.map o33)), (B r35.2)]) [1002], none⟩, ⟨27, .callV [(r35.1.map r33), (r6.1.map r33)] (B r36), none⟩, ⟨29, .no, some (B false)⟩, ⟨34, .br false, none⟩]) (π := [(2, 1)]) (ts := [7, 10]) (kp := []) (ps := [MeetsR Try.prog 28 [⟨33, 1, (r8.1.map o33)⟩] [(AV.sl 0 0 (List.length (r8.1.map o33))), (I 1)] [true] [⟨33, 1, (r27.2.map o33)⟩] (I r27.1), (some (Root.mk 33 1 (r8.1.map o33)) = some (Root.mk 33 1 (r8.1.map o33))) ∧ True, (treeLL (r8.1.map o33) = true ∧ noRoLL (r8.1.map o33) = true) ∧ True, ((r27.2.map o33).length = (r8.1.map o33).length) ∧ True, (rtf (renA [(0, 2)] (I r27.1)) []).1 = (I r27.1), (rtf (renA [(0, 2)] (I r27.1)) []).2.1 = [], (List.length (r8.1.map o33)) = (List.length (r27.2.map o33)), Meets Try.prog 29 [(AV.ro 1 (r27.2.map r33)), (I 1)] (I r29), litA (I r29) = true, Frz (((r27.2.map o33).drop 0).take (List.length (r27.2.map o33))) (r27.2.map r33), (decide (r29 < 0)) = false, (r29 != r27.1) = false, Meets Try.prog 18 [(AV.ro 5 (p1.map o66))] (AV.own 64 5 (r34.map o64)), noRo (AV.own 64 5 (r34.map o64)) = true, Meets Try.prog 26 [(AV.ro 5 (r34.map o64))] (AV.tup [(AV.own 33 1 (r35.1.map o33)), (B r35.2)]), noRo (AV.tup [(AV.own 33 1 (r35.1.map o33)), (B r35.2)]) = true, Frz (((r34.map o64).drop 0).take (List.length (r34.map o64))) (r34.map o64), Meets Try.prog 27 [(AV.ro 1 (r35.1.map r33)), (AV.ro 1 (r6.1.map r33))] (B r36), litA (B r36) = true, Frz (((r35.1.map o33).drop 0).take (List.length (r35.1.map o33))) (r35.1.map r33), Frz (((r6.1.map o33).drop 0).take (List.length (r6.1.map o33))) (r6.1.map r33), (B (!r36)) = (B false), (!(r35.2 == r6.2)) = false, RenOK [(2, 1)] (r27.2.map o33)]) (by kernel_rfl) ⟨(laws_markIntSS_m hr27), ⟨rfl, trivial⟩, ⟨⟨treeM t33, noRoM n33⟩, trivial⟩, ⟨(sameLenE o33 hq28), trivial⟩, rfl, rfl, (sameLenE o33 hq28).symm, (laws_heldIntSS_m hr29), rfl, (frzF t33 z33), c31, c33, (laws_toEventS_m hr34), (by simp only [noRo, noRoL, noRoM n64, Bool.and_self]), (impl_LockPairs_m hr35), (by simp only [noRo, noRoL, noRoM n33, Bool.and_self]), (frzF t64 z64), (laws_eqIntSS_m hr36), rfl, (frzF t33 z33), (frzF t33 z33), (litB c38), c40, (rok (treeM t33)), trivial⟩ (laws_FnExactLockPairs_j2_m hP hn hx r27  _ h)
noncomputable def laws_FnExactLockPairs_j0  (p1 : (List GEvent)) (r6 : ((List (List Int)) × Bool)) (r7 : (List GEvent)) (r8 : ((List (List Int)) × Bool))  : Option Bool :=
  Option.bind (laws_toEventS p1) fun r14 =>
  Option.bind (laws_eqEventS r7 r14) fun r15 =>
  if (!r15) = true then
    some false
  else
    Option.bind (laws_markEventS r7 1) fun r18 =>
    Option.bind (sameLen r7 r18.2) fun q19 =>
    if (decide (r18.1 < 0)) = true then
      some false
    else
      Option.bind (laws_eqIntSS r8.1 r6.1) fun r22 =>
      if (!r22) = true then
        some false
      else
        if (!(r8.2 == r6.2)) = true then
          some false
        else
          laws_FnExactLockPairs_j1 p1 r6 r8
theorem laws_FnExactLockPairs_j0_m {E : Env} (hP : E.P = Try.prog) (hn : E.n = 96) (hx : ∀ p, p ∈ E.fx → p.1 ∈ ([] : List Nat)) (p1 : (List GEvent)) (r6 : ((List (List Int)) × Bool)) (r7 : (List GEvent)) (r8 : ((List (List Int)) × Bool))   (r : Bool) (h : laws_FnExactLockPairs_j0 p1 r6 r7 r8  = some r) : WAt E body5 (FQ (RetE Θ Try.f5.results.toList [] [] (B r) E)) [true, true, true, true, true, true, true, false, true, true] ⟨[(0, (AV.ro 5 (p1.map o66))), (4, (AV.sl 1 0 (List.length (r6.1.map o33)))), (5, (B r6.2)), (6, (AV.sl 2 0 (List.length (r7.map o64)))), (7, (AV.sl 3 0 (List.length (r8.1.map o33)))), (8, (B r8.2))], [(1, some ⟨33, 1, (r6.1.map o33)⟩), (2, some ⟨64, 5, (r7.map o64)⟩), (3, some ⟨33, 1, (r8.1.map o33)⟩)], [1, 2, 3, JJ]⟩ := by
  have hm : E.P.follows .mixedOrders = true := by rw [hP]; exact mixed
  have hΘ : TOK E.P Θ := by rw [hP]; exact Θ_ok
  unfold laws_FnExactLockPairs_j0 at h
  obtain ⟨r14, hr14, h⟩ := bnS h
  obtain ⟨r15, hr15, h⟩ := bnS h
  rcases itS h with ⟨c16, h⟩ | ⟨c17, h⟩
  · have h := Option.some.inj h
    subst h
    exact go_ret hΘ hm hP hn (hs := [⟨2, .call [] (AV.own 64 5 (r14.map o64)) [1001], none⟩, ⟨3, .callV [(r7.map o64), (r14.map o64)] (B r15), none⟩, ⟨5, .br true, none⟩]) (rh := []) (ph := .raw) (ps := [Meets Try.prog 18 [(AV.ro 5 (p1.map o66))] (AV.own 64 5 (r14.map o64)), noRo (AV.own 64 5 (r14.map o64)) = true, Meets Try.prog 21 [(AV.ro 5 (r7.map o64)), (AV.ro 5 (r14.map o64))] (B r15), litA (B r15) = true, Frz (((r7.map o64).drop 0).take (List.length (r7.map o64))) (r7.map o64), Frz (((r14.map o64).drop 0).take (List.length (r14.map o64))) (r14.map o64), (!r15) = true, (B false) = (B false), litA (B false) = true]) (by kernel_rfl) ⟨(laws_toEventS_m hr14), (by simp only [noRo, noRoL, noRoM n64, Bool.and_self]), (laws_eqEventS_m hr15), rfl, (frzF t64 z64), (frzF t64 z64), c16, rfl, rfl, trivial⟩
  · obtain ⟨r18, hr18, h⟩ := bnS h
    obtain ⟨q19, hq19, h⟩ := bnS h
    rcases itS h with ⟨c20, h⟩ | ⟨c21, h⟩
    · have h := Option.some.inj h
      subst h
      exact go_ret hΘ hm hP hn (hs := [⟨2, .call [] (AV.own 64 5 (r14.map o64)) [1001], none⟩, ⟨3, .callV [(r7.map o64), (r14.map o64)] (B r15), none⟩, ⟨5, .br false, none⟩, ⟨9, .callX [2] [true] [⟨64, 5, (r7.map o64)⟩] [⟨64, 5, (r18.2.map o64)⟩] [] (I r18.1) [] (I r18.1) [], none⟩, ⟨13, .no, some (B true)⟩]) (rh := []) (ph := .raw) (ps := [Meets Try.prog 18 [(AV.ro 5 (p1.map o66))] (AV.own 64 5 (r14.map o64)), noRo (AV.own 64 5 (r14.map o64)) = true, Meets Try.prog 21 [(AV.ro 5 (r7.map o64)), (AV.ro 5 (r14.map o64))] (B r15), litA (B r15) = true, Frz (((r7.map o64).drop 0).take (List.length (r7.map o64))) (r7.map o64), Frz (((r14.map o64).drop 0).take (List.length (r14.map o64))) (r14.map o64), (!r15) = false, MeetsR Try.prog 22 [⟨64, 5, (r7.map o64)⟩] [(AV.sl 0 0 (List.length (r7.map o64))), (I 1)] [true] [⟨64, 5, (r18.2.map o64)⟩] (I r18.1), (some (Root.mk 64 5 (r7.map o64)) = some (Root.mk 64 5 (r7.map o64))) ∧ True, (treeLL (r7.map o64) = true ∧ noRoLL (r7.map o64) = true) ∧ True, ((r18.2.map o64).length = (r7.map o64).length) ∧ True, (rtf (renA [(0, 2)] (I r18.1)) []).1 = (I r18.1), (rtf (renA [(0, 2)] (I r18.1)) []).2.1 = [], (B (decide (r18.1 < 0))) = (B true), (B false) = (B false), litA (B false) = true]) (by kernel_rfl) ⟨(laws_toEventS_m hr14), (by simp only [noRo, noRoL, noRoM n64, Bool.and_self]), (laws_eqEventS_m hr15), rfl, (frzF t64 z64), (frzF t64 z64), c17, (laws_markEventS_m hr18), ⟨rfl, trivial⟩, ⟨⟨treeM t64, noRoM n64⟩, trivial⟩, ⟨(sameLenE o64 hq19), trivial⟩, rfl, rfl, (litB c20), rfl, rfl, trivial⟩
    · obtain ⟨r22, hr22, h⟩ := bnS h
      rcases itS h with ⟨c23, h⟩ | ⟨c24, h⟩
      · have h := Option.some.inj h
        subst h
        exact go_ret hΘ hm hP hn (hs := [⟨2, .call [] (AV.own 64 5 (r14.map o64)) [1001], none⟩, ⟨3, .callV [(r7.map o64), (r14.map o64)] (B r15), none⟩, ⟨5, .br false, none⟩, ⟨9, .callX [2] [true] [⟨64, 5, (r7.map o64)⟩] [⟨64, 5, (r18.2.map o64)⟩] [] (I r18.1) [] (I r18.1) [], none⟩, ⟨13, .no, some (B false)⟩, ⟨16, .callV [(r8.1.map r33), (r6.1.map r33)] (B r22), none⟩, ⟨19, .no, some (B true)⟩]) (rh := []) (ph := .raw) (ps := [Meets Try.prog 18 [(AV.ro 5 (p1.map o66))] (AV.own 64 5 (r14.map o64)), noRo (AV.own 64 5 (r14.map o64)) = true, Meets Try.prog 21 [(AV.ro 5 (r7.map o64)), (AV.ro 5 (r14.map o64))] (B r15), litA (B r15) = true, Frz (((r7.map o64).drop 0).take (List.length (r7.map o64))) (r7.map o64), Frz (((r14.map o64).drop 0).take (List.length (r14.map o64))) (r14.map o64), (!r15) = false, MeetsR Try.prog 22 [⟨64, 5, (r7.map o64)⟩] [(AV.sl 0 0 (List.length (r7.map o64))), (I 1)] [true] [⟨64, 5, (r18.2.map o64)⟩] (I r18.1), (some (Root.mk 64 5 (r7.map o64)) = some (Root.mk 64 5 (r7.map o64))) ∧ True, (treeLL (r7.map o64) = true ∧ noRoLL (r7.map o64) = true) ∧ True, ((r18.2.map o64).length = (r7.map o64).length) ∧ True, (rtf (renA [(0, 2)] (I r18.1)) []).1 = (I r18.1), (rtf (renA [(0, 2)] (I r18.1)) []).2.1 = [], (B (decide (r18.1 < 0))) = (B false), Meets Try.prog 27 [(AV.ro 1 (r8.1.map r33)), (AV.ro 1 (r6.1.map r33))] (B r22), litA (B r22) = true, Frz (((r8.1.map o33).drop 0).take (List.length (r8.1.map o33))) (r8.1.map r33), Frz (((r6.1.map o33).drop 0).take (List.length (r6.1.map o33))) (r6.1.map r33), (B (!r22)) = (B true), (B false) = (B false), litA (B false) = true]) (by kernel_rfl) ⟨(laws_toEventS_m hr14), (by simp only [noRo, noRoL, noRoM n64, Bool.and_self]), (laws_eqEventS_m hr15), rfl, (frzF t64 z64), (frzF t64 z64), c17, (laws_markEventS_m hr18), ⟨rfl, trivial⟩, ⟨⟨treeM t64, noRoM n64⟩, trivial⟩, ⟨(sameLenE o64 hq19), trivial⟩, rfl, rfl, (litB c21), (laws_eqIntSS_m hr22), rfl, (frzF t33 z33), (frzF t33 z33), (litB c23), rfl, rfl, trivial⟩
      · rcases itS h with ⟨c25, h⟩ | ⟨c26, h⟩
        · have h := Option.some.inj h
          subst h
          exact go_ret hΘ hm hP hn (hs := [⟨2, .call [] (AV.own 64 5 (r14.map o64)) [1001], none⟩, ⟨3, .callV [(r7.map o64), (r14.map o64)] (B r15), none⟩, ⟨5, .br false, none⟩, ⟨9, .callX [2] [true] [⟨64, 5, (r7.map o64)⟩] [⟨64, 5, (r18.2.map o64)⟩] [] (I r18.1) [] (I r18.1) [], none⟩, ⟨13, .no, some (B false)⟩, ⟨16, .callV [(r8.1.map r33), (r6.1.map r33)] (B r22), none⟩, ⟨19, .no, some (B false)⟩, ⟨24, .br true, none⟩]) (rh := []) (ph := .raw) (ps := [Meets Try.prog 18 [(AV.ro 5 (p1.map o66))] (AV.own 64 5 (r14.map o64)), noRo (AV.own 64 5 (r14.map o64)) = true, Meets Try.prog 21 [(AV.ro 5 (r7.map o64)), (AV.ro 5 (r14.map o64))] (B r15), litA (B r15) = true, Frz (((r7.map o64).drop 0).take (List.length (r7.map o64))) (r7.map o64), Frz (((r14.map o64).drop 0).take (List.length (r14.map o64))) (r14.map o64), (!r15) = false, MeetsR Try.prog 22 [⟨64, 5, (r7.map o64)⟩] [(AV.sl 0 0 (List.length (r7.map o64))), (I 1)] [true] [⟨64, 5, (r18.2.map o64)⟩] (I r18.1), (some (Root.mk 64 5 (r7.map o64)) = some (Root.mk 64 5 (r7.map o64))) ∧ True, (treeLL (r7.map o64) = true ∧ noRoLL (r7.map o64) = true) ∧ True, ((r18.2.map o64).length = (r7.map o64).length) ∧ True, (rtf (renA [(0, 2)] (I r18.1)) []).1 = (I r18.1), (rtf (renA [(0, 2)] (I r18.1)) []).2.1 = [], (B (decide (r18.1 < 0))) = (B false), Meets Try.prog 27 [(AV.ro 1 (r8.1.map r33)), (AV.ro 1 (r6.1.map r33))] (B r22), litA (B r22) = true, Frz (((r8.1.map o33).drop 0).take (List.length (r8.1.map o33))) (r8.1.map r33), Frz (((r6.1.map o33).drop 0).take (List.length (r6.1.map o33))) (r6.1.map r33), (B (!r22)) = (B false), (!(r8.2 == r6.2)) = true, (B false) = (B false), litA (B false) = true]) (by kernel_rfl) ⟨(laws_toEventS_m hr14), (by simp only [noRo, noRoL, noRoM n64, Bool.and_self]), (laws_eqEventS_m hr15), rfl, (frzF t64 z64), (frzF t64 z64), c17, (laws_markEventS_m hr18), ⟨rfl, trivial⟩, ⟨⟨treeM t64, noRoM n64⟩, trivial⟩, ⟨(sameLenE o64 hq19), trivial⟩, rfl, rfl, (litB c21), (laws_eqIntSS_m hr22), rfl, (frzF t33 z33), (frzF t33 z33), (litB c24), c25, rfl, rfl, trivial⟩
        · exact go_to hΘ hm hx hP hn (hs := [⟨2, .call [] (AV.own 64 5 (r14.map o64)) [1001], none⟩, ⟨3, .callV [(r7.map o64), (r14.map o64)] (B r15), none⟩, ⟨5, .br false, none⟩, ⟨9, .callX [2] [true] [⟨64, 5, (r7.map o64)⟩] [⟨64, 5, (r18.2.map o64)⟩] [] (I r18.1) [] (I r18.1) [], none⟩, ⟨13, .no, some (B false)⟩, ⟨16, .callV [(r8.1.map r33), (r6.1.map r33)] (B r22), none⟩, ⟨19, .no, some (B false)⟩, ⟨24, .br false, none⟩]) (π := [(1, 1), (3, 2)]) (ts := [0, 4, 5, 7]) (kp := []) (ps := [Meets Try.prog 18 [(AV.ro 5 (p1.map o66))] (AV.own 64 5 (r14.map o64)), noRo (AV.own 64 5 (r14.map o64)) = true, Meets Try.prog 21 [(AV.ro 5 (r7.map o64)), (AV.ro 5 (r14.map o64))] (B r15), litA (B r15) = true, Frz (((r7.map o64).drop 0).take (List.length (r7.map o64))) (r7.map o64), Frz (((r14.map o64).drop 0).take (List.length (r14.map o64))) (r14.map o64), (!r15) = false, MeetsR Try.prog 22 [⟨64, 5, (r7.map o64)⟩] [(AV.sl 0 0 (List.length (r7.map o64))), (I 1)] [true] [⟨64, 5, (r18.2.map o64)⟩] (I r18.1), (some (Root.mk 64 5 (r7.map o64)) = some (Root.mk 64 5 (r7.map o64))) ∧ True, (treeLL (r7.map o64) = true ∧ noRoLL (r7.map o64) = true) ∧ True, ((r18.2.map o64).length = (r7.map o64).length) ∧ True, (rtf (renA [(0, 2)] (I r18.1)) []).1 = (I r18.1), (rtf (renA [(0, 2)] (I r18.1)) []).2.1 = [], (B (decide (r18.1 < 0))) = (B false), Meets Try.prog 27 [(AV.ro 1 (r8.1.map r33)), (AV.ro 1 (r6.1.map r33))] (B r22), litA (B r22) = true, Frz (((r8.1.map o33).drop 0).take (List.length (r8.1.map o33))) (r8.1.map r33), Frz (((r6.1.map o33).drop 0).take (List.length (r6.1.map o33))) (r6.1.map r33), (B (!r22)) = (B false), (!(r8.2 == r6.2)) = false, RenOK [(1, 1), (3, 2)] (r6.1.map o33), RenOK [(1, 1), (3, 2)] (r8.1.map o33)]) (by kernel_rfl) ⟨(laws_toEventS_m hr14), (by simp only [noRo, noRoL, noRoM n64, Bool.and_self]), (laws_eqEventS_m hr15), rfl, (frzF t64 z64), (frzF t64 z64), c17, (laws_markEventS_m hr18), ⟨rfl, trivial⟩, ⟨⟨treeM t64, noRoM n64⟩, trivial⟩, ⟨(sameLenE o64 hq19), trivial⟩, rfl, rfl, (litB c21), (laws_eqIntSS_m hr22), rfl, (frzF t33 z33), (frzF t33 z33), (litB c24), c26, (rok (treeM t33)), (rok (treeM t33)), trivial⟩ (laws_FnExactLockPairs_j1_m hP hn hx p1 r6 r8  _ h)
noncomputable def laws_FnExactLockPairs (p1 : (List GEvent)) : Option Bool :=
  Option.bind (laws_szEventS p1 1048576) fun r2 =>
  if (decide (r2 < 0)) = true then
    some true
  else
    Option.bind (laws_toEventS p1) fun r5 =>
    Option.bind (spec_LockPairs r5) fun r6 =>
    Option.bind (laws_toEventS p1) fun r7 =>
    Option.bind (impl_LockPairs r7) fun r8 =>
    Option.bind (laws_eqIntSS r8.1 r6.1) fun r9 =>
    if (!r9) = true then
      some false
    else
      if (!(r8.2 == r6.2)) = true then
        some false
      else
        laws_FnExactLockPairs_j0 p1 r6 r7 r8
theorem laws_FnExactLockPairs_m {p1 : (List GEvent)} {r : Bool} (h : laws_FnExactLockPairs p1 = some r) : Meets Try.prog 5 [(AV.ro 5 (p1.map o66))] (B r) := by
  refine meets_ofC Θ_ok Try.func5 rfl (c := body5) (by kernel_rfl) (Nat.le_of_ble_eq_true rfl) ?_
  intro E hP hn hx
  replace hn : E.n = 96 := hn
  have hm : E.P.follows .mixedOrders = true := by rw [hP]; exact mixed
  have hΘ : TOK E.P Θ := by rw [hP]; exact Θ_ok
  unfold laws_FnExactLockPairs at h
  show WAt E body5 (FQ (RetE Θ Try.f5.results.toList [] [] (B r) E)) [] ⟨[(0, (AV.ro 5 (p1.map o66)))], [], [JJ]⟩
  obtain ⟨r2, hr2, h⟩ := bnS h
  rcases itS h with ⟨c3, h⟩ | ⟨c4, h⟩
  · have h := Option.some.inj h
    subst h
    exact go_ret hΘ hm hP hn (hs := [⟨4, .callV [] (I r2), none⟩, ⟨8, .br true, none⟩]) (rh := []) (ph := .raw) (ps := [Meets Try.prog 16 [(AV.ro 5 (p1.map o66)), (I 1048576)] (I r2), litA (I r2) = true, (decide (r2 < 0)) = true, (B true) = (B true), litA (B true) = true]) (by kernel_rfl) ⟨(laws_szEventS_m hr2), rfl, c3, rfl, rfl, trivial⟩
  · obtain ⟨r5, hr5, h⟩ := bnS h
    obtain ⟨r6, hr6, h⟩ := bnS h
    obtain ⟨r7, hr7, h⟩ := bnS h
    obtain ⟨r8, hr8, h⟩ := bnS h
    obtain ⟨r9, hr9, h⟩ := bnS h
    rcases itS h with ⟨c10, h⟩ | ⟨c11, h⟩
    · have h := Option.some.inj h
      subst h
      exact go_ret hΘ hm hP hn (hs := [⟨4, .callV [] (I r2), none⟩, ⟨8, .br false, none⟩, ⟨10, .call [] (AV.own 64 5 (r5.map o64)) [1001], none⟩, ⟨11, .call [(r5.map o64)] (AV.tup [(AV.own 33 1 (r6.1.map o33)), (B r6.2)]) [1002], none⟩, ⟨18, .call [] (AV.own 64 5 (r7.map o64)) [1003], none⟩, ⟨21, .call [(r7.map o64)] (AV.tup [(AV.own 33 1 (r8.1.map o33)), (B r8.2)]) [1004], none⟩, ⟨29, .callV [(r8.1.map r33), (r6.1.map r33)] (B r9), none⟩, ⟨31, .no, some (B true)⟩]) (rh := []) (ph := .raw) (ps := [Meets Try.prog 16 [(AV.ro 5 (p1.map o66)), (I 1048576)] (I r2), litA (I r2) = true, (decide (r2 < 0)) = false, Meets Try.prog 18 [(AV.ro 5 (p1.map o66))] (AV.own 64 5 (r5.map o64)), noRo (AV.own 64 5 (r5.map o64)) = true, Meets Try.prog 25 [(AV.ro 5 (r5.map o64))] (AV.tup [(AV.own 33 1 (r6.1.map o33)), (B r6.2)]), noRo (AV.tup [(AV.own 33 1 (r6.1.map o33)), (B r6.2)]) = true, Frz (((r5.map o64).drop 0).take (List.length (r5.map o64))) (r5.map o64), Meets Try.prog 18 [(AV.ro 5 (p1.map o66))] (AV.own 64 5 (r7.map o64)), noRo (AV.own 64 5 (r7.map o64)) = true, Meets Try.prog 26 [(AV.ro 5 (r7.map o64))] (AV.tup [(AV.own 33 1 (r8.1.map o33)), (B r8.2)]), noRo (AV.tup [(AV.own 33 1 (r8.1.map o33)), (B r8.2)]) = true, Frz (((r7.map o64).drop 0).take (List.length (r7.map o64))) (r7.map o64), Meets Try.prog 27 [(AV.ro 1 (r8.1.map r33)), (AV.ro 1 (r6.1.map r33))] (B r9), litA (B r9) = true, Frz (((r8.1.map o33).drop 0).take (List.length (r8.1.map o33))) (r8.1.map r33), Frz (((r6.1.map o33).drop 0).take (List.length (r6.1.map o33))) (r6.1.map r33), (B (!r9)) = (B true), (B false) = (B false), litA (B false) = true]) (by kernel_rfl) ⟨(laws_szEventS_m hr2), rfl, c4, (laws_toEventS_m hr5), (by simp only [noRo, noRoL, noRoM n64, Bool.and_self]), (spec_LockPairs_m hr6), (by simp only [noRo, noRoL, noRoM n33, Bool.and_self]), (frzF t64 z64), (laws_toEventS_m hr7), (by simp only [noRo, noRoL, noRoM n64, Bool.and_self]), (impl_LockPairs_m hr8), (by simp only [noRo, noRoL, noRoM n33, Bool.and_self]), (frzF t64 z64), (laws_eqIntSS_m hr9), rfl, (frzF t33 z33), (frzF t33 z33), (litB c10), rfl, rfl, trivial⟩
    · rcases itS h with ⟨c12, h⟩ | ⟨c13, h⟩
      · have h := Option.some.inj h
        subst h
        exact go_ret hΘ hm hP hn (hs := [⟨4, .callV [] (I r2), none⟩, ⟨8, .br false, none⟩, ⟨10, .call [] (AV.own 64 5 (r5.map o64)) [1001], none⟩, ⟨11, .call [(r5.map o64)] (AV.tup [(AV.own 33 1 (r6.1.map o33)), (B r6.2)]) [1002], none⟩, ⟨18, .call [] (AV.own 64 5 (r7.map o64)) [1003], none⟩, ⟨21, .call [(r7.map o64)] (AV.tup [(AV.own 33 1 (r8.1.map o33)), (B r8.2)]) [1004], none⟩, ⟨29, .callV [(r8.1.map r33), (r6.1.map r33)] (B r9), none⟩, ⟨31, .no, some (B false)⟩, ⟨36, .br true, none⟩]) (rh := []) (ph := .raw) (ps := [Meets Try.prog 16 [(AV.ro 5 (p1.map o66)), (I 1048576)] (I r2), litA (I r2) = true, (decide (r2 < 0)) = false, Meets Try.prog 18 [(AV.ro 5 (p1.map o66))] (AV.own 64 5 (r5.map o64)), noRo (AV.own 64 5 (r5.map o64)) = true, Meets Try.prog 25 [(AV.ro 5 (r5.map o64))] (AV.tup [(AV.own 33 1 (r6.1.map o33)), (B r6.2)]), noRo (AV.tup [(AV.own 33 1 (r6.1.map o33)), (B r6.2)]) = true, Frz (((r5.map o64).drop 0).take (List.length (r5.map o64))) (r5.map o64), Meets Try.prog 18 [(AV.ro 5 (p1.map o66))] (AV.own 64 5 (r7.map o64)), noRo (AV.own 64 5 (r7.map o64)) = true, Meets Try.prog 26 [(AV.ro 5 (r7.map o64))] (AV.tup [(AV.own 33 1 (r8.1.map o33)), (B r8.2)]), noRo (AV.tup [(AV.own 33 1 (r8.1.map o33)), (B r8.2)]) = true, Frz (((r7.map o64).drop 0).take (List.length (r7.map o64))) (r7.map o64), Meets Try.prog 27 [(AV.ro 1 (r8.1.map r33)), (AV.ro 1 (r6.1.map r33))] (B r9), litA (B r9) = true, Frz (((r8.1.map o33).drop 0).take (List.length (r8.1.map o33))) (r8.1.map r33), Frz (((r6.1.map o33).drop 0).take (List.length (r6.1.map o33))) (r6.1.map r33), (B (!r9)) = (B false), (!(r8.2 == r6.2)) = true, (B false) = (B false), litA (B false) = true]) (by kernel_rfl) ⟨(laws_szEventS_m hr2), rfl, c4, (laws_toEventS_m hr5), (by simp only [noRo, noRoL, noRoM n64, Bool.and_self]), (spec_LockPairs_m hr6), (by simp only [noRo, noRoL, noRoM n33, Bool.and_self]), (frzF t64 z64), (laws_toEventS_m hr7), (by simp only [noRo, noRoL, noRoM n64, Bool.and_self]), (impl_LockPairs_m hr8), (by simp only [noRo, noRoL, noRoM n33, Bool.and_self]), (frzF t64 z64), (laws_eqIntSS_m hr9), rfl, (frzF t33 z33), (frzF t33 z33), (litB c11), c12, rfl, rfl, trivial⟩
      · exact go_to hΘ hm hx hP hn (hs := [⟨4, .callV [] (I r2), none⟩, ⟨8, .br false, none⟩, ⟨10, .call [] (AV.own 64 5 (r5.map o64)) [1001], none⟩, ⟨11, .call [(r5.map o64)] (AV.tup [(AV.own 33 1 (r6.1.map o33)), (B r6.2)]) [1002], none⟩, ⟨18, .call [] (AV.own 64 5 (r7.map o64)) [1003], none⟩, ⟨21, .call [(r7.map o64)] (AV.tup [(AV.own 33 1 (r8.1.map o33)), (B r8.2)]) [1004], none⟩, ⟨29, .callV [(r8.1.map r33), (r6.1.map r33)] (B r9), none⟩, ⟨31, .no, some (B false)⟩, ⟨36, .br false, none⟩]) (π := [(1002, 1), (1003, 2), (1004, 3)]) (ts := [0, 4, 5, 6, 7, 8]) (kp := []) (ps := [Meets Try.prog 16 [(AV.ro 5 (p1.map o66)), (I 1048576)] (I r2), litA (I r2) = true, (decide (r2 < 0)) = false, Meets Try.prog 18 [(AV.ro 5 (p1.map o66))] (AV.own 64 5 (r5.map o64)), noRo (AV.own 64 5 (r5.map o64)) = true, Meets Try.prog 25 [(AV.ro 5 (r5.map o64))] (AV.tup [(AV.own 33 1 (r6.1.map o33)), (B r6.2)]), noRo (AV.tup [(AV.own 33 1 (r6.1.map o33)), (B r6.2)]) = true, Frz (((r5.map o64).drop 0).take (List.length (r5.map o64))) (r5.map o64), Meets Try.prog 18 [(AV.ro 5 (p1.map o66))] (AV.own 64 5 (r7.map o64)), noRo (AV.own 64 5 (r7.map o64)) = true, Meets Try.prog 26 [(AV.ro 5 (r7.map o64))] (AV.tup [(AV.own 33 1 (r8.1.map o33)), (B r8.2)]), noRo (AV.tup [(AV.own 33 1 (r8.1.map o33)), (B r8.2)]) = true, Frz (((r7.map o64).drop 0).take (List.length (r7.map o64))) (r7.map o64), Meets Try.prog 27 [(AV.ro 1 (r8.1.map r33)), (AV.ro 1 (r6.1.map r33))] (B r9), litA (B r9) = true, Frz (((r8.1.map o33).drop 0).take (List.length (r8.1.map o33))) (r8.1.map r33), Frz (((r6.1.map o33).drop 0).take (List.length (r6.1.map o33))) (r6.1.map r33), (B (!r9)) = (B false), (!(r8.2 == r6.2)) = false, RenOK [(1002, 1), (1003, 2), (1004, 3)] (r6.1.map o33), RenOK [(1002, 1), (1003, 2), (1004, 3)] (r7.map o64), RenOK [(1002, 1), (1003, 2), (1004, 3)] (r8.1.map o33)]) (by kernel_rfl) ⟨(laws_szEventS_m hr2), rfl, c4, (laws_toEventS_m hr5), (by simp only [noRo, noRoL, noRoM n64, Bool.and_self]), (spec_LockPairs_m hr6), (by simp only [noRo, noRoL, noRoM n33, Bool.and_self]), (frzF t64 z64), (laws_toEventS_m hr7), (by simp only [noRo, noRoL, noRoM n64, Bool.and_self]), (impl_LockPairs_m hr8), (by simp only [noRo, noRoL, noRoM n33, Bool.and_self]), (frzF t64 z64), (laws_eqIntSS_m hr9), rfl, (frzF t33 z33), (frzF t33 z33), (litB c11), c13, (rok (treeM t33)), (rok (treeM t64)), (rok (treeM t33)), trivial⟩ (laws_FnExactLockPairs_j0_m hP hn hx p1 r6 r7 r8  _ h)
end Go.Proofs.Ytihgcgccajikpaa
