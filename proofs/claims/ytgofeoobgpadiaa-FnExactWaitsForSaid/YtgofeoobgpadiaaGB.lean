/- Functions as plain data, and that the code comes to them; no condition. -/

import Derived.Test.YtgofeoobgpadiaaGA
set_option linter.unusedVariables false
set_option maxRecDepth 100000
namespace Go.Proofs.Ytgofeoobgpadiaa
open Go Go.T
noncomputable def body55 : Code := match Try.f55.body with | some c => c | none => .skip
noncomputable def laws_markOpSS_l0   : Nat → (List (List GOp)) → Int → Int → Option (Int × (List (List GOp)))
  | 0, _, _, _ => none
  | n + 1, a3, v4, v5 =>
  if (decide (v5 < (a3.length : Int))) = true then
    Option.bind (rd a3 v5) fun x7 =>
    Option.bind (laws_markOpS x7 v4) fun r8 =>
    Option.bind (sameLen x7 r8.2) fun q9 =>
    laws_markOpSS_l0 n (a3.set (Int.toNat v5) r8.2) r8.1 (w64 (v5 + 1))
  else
    some (v4, a3)
theorem laws_markOpSS_l0_m {E : Env} (hP : E.P = Try.prog) (hn : E.n = 19) (hx : ∀ p, p ∈ E.fx → p.1 ∈ ([0] : List Nat))   : ∀ (n : Nat) (a3 : (List (List GOp))) (v4 : Int) (v5 : Int) (r : (Int × (List (List GOp)))), laws_markOpSS_l0  n a3 v4 v5 = some r → WAt E body55 (FQ (RetE Θ Try.f55.results.toList [true] [⟨82, 1, (r.2.map o82)⟩] (I r.1) E)) [true, false, true, false] ⟨[(0, (AV.sl 0 0 (List.length (a3.map o82)))), (1, (I v4)), (5, (I v5))], [(0, some ⟨82, 1, (a3.map o82)⟩)], [0, JJ]⟩ := by
  have hm : E.P.follows .mixedOrders = true := by rw [hP]; exact mixed
  have hΘ : TOK E.P Θ := by rw [hP]; exact Θ_ok
  intro n
  induction n with
  | zero => intro a3 v4 v5 r h; simp only [laws_markOpSS_l0] at h; cases h
  | succ n ih =>
    intro a3 v4 v5 r h
    simp only [laws_markOpSS_l0] at h
    rcases itS h with ⟨c6, h⟩ | ⟨c10, h⟩
    · obtain ⟨x7, hx7, h⟩ := bnS h
      obtain ⟨r8, hr8, h⟩ := bnS h
      obtain ⟨q9, hq9, h⟩ := bnS h
      exact go_to hΘ hm hx hP hn (hs := [⟨2, .no, some (I (a3.length : Int))⟩, ⟨4, .br true, none⟩, ⟨8, .unpack 0 1001 (Int.toNat v5) 0 [(AV.own 85 4 (x7.map o85))] 85 4 (x7.map o85) ((a3.map o82).set (Int.toNat v5) [(AV.sl 1001 0 (List.length (x7.map o85)))]), none⟩, ⟨8, .row [(AV.sl 1001 0 (List.length (x7.map o85)))], none⟩, ⟨10, .callX [1001] [true] [⟨85, 4, (x7.map o85)⟩] [⟨85, 4, (r8.2.map o85)⟩] [] (I r8.1) [] (I r8.1) [], none⟩, ⟨15, .pack 0 1001 (Int.toNat v5) 0 [(AV.sl 1001 0 (List.length (x7.map o85)))] ((a3.set (Int.toNat v5) r8.2).map o82), none⟩, ⟨15, .slen 0 (List.length ((a3.set (Int.toNat v5) r8.2).map o82)), none⟩]) (π := [(0, 0)]) (ts := [0, 1, 5]) (kp := []) (ps := [AV.lit (.int .i64 (((List.length (a3.map o82)) : Nat) : Int)) = (I (a3.length : Int)), (decide (v5 < (a3.length : Int))) = true, (0 : Int) ≤ v5, v5 < (((List.length (a3.map o82)) : Nat) : Int), (a3.map o82)[(Int.toNat v5)]? = some [(AV.own 85 4 (x7.map o85))], [(AV.own 85 4 (x7.map o85))][0]? = some (AV.own 85 4 (x7.map o85)), 0 < 4, (a3.map o82).set (Int.toNat v5) ([(AV.own 85 4 (x7.map o85))].set 0 (AV.sl 1001 0 (List.length (x7.map o85)))) = ((a3.map o82).set (Int.toNat v5) [(AV.sl 1001 0 (List.length (x7.map o85)))]), ((a3.map o82).set (Int.toNat v5) [(AV.sl 1001 0 (List.length (x7.map o85)))])[(Int.toNat v5)]? = some [(AV.sl 1001 0 (List.length (x7.map o85)))], MeetsR Try.prog 84 [⟨85, 4, (x7.map o85)⟩] [(AV.sl 0 0 (List.length (x7.map o85))), (I v4)] [true] [⟨85, 4, (r8.2.map o85)⟩] (I r8.1), (some (Root.mk 85 4 (x7.map o85)) = some (Root.mk 85 4 (x7.map o85))) ∧ True, (treeLL (x7.map o85) = true ∧ noRoLL (x7.map o85) = true) ∧ True, ((r8.2.map o85).length = (x7.map o85).length) ∧ True, (rtf (renA [(0, 1001)] (I r8.1)) []).1 = (I r8.1), (rtf (renA [(0, 1001)] (I r8.1)) []).2.1 = [], ((a3.map o82).set (Int.toNat v5) [(AV.sl 1001 0 (List.length (x7.map o85)))])[(Int.toNat v5)]? = some [(AV.sl 1001 0 (List.length (x7.map o85)))], [(AV.sl 1001 0 (List.length (x7.map o85)))][0]? = some (AV.sl 1001 0 (List.length (r8.2.map o85))), treeLL (r8.2.map o85) = true, ((a3.map o82).set (Int.toNat v5) [(AV.sl 1001 0 (List.length (x7.map o85)))]).set (Int.toNat v5) ([(AV.sl 1001 0 (List.length (x7.map o85)))].set 0 (AV.own 85 4 (r8.2.map o85))) = ((a3.set (Int.toNat v5) r8.2).map o82), (List.length (a3.map o82)) = (List.length ((a3.set (Int.toNat v5) r8.2).map o82)), RenOK [(0, 0)] ((a3.set (Int.toNat v5) r8.2).map o82)]) (by kernel_rfl) ⟨(lenM o82), c6, (rd0 hx7), (rdL o82 hx7), (rdM o82 hx7), rfl, (by decide), rfl, (setE (rdM o82 hx7)), (laws_markOpS_m hr8), ⟨rfl, trivial⟩, ⟨⟨treeM t85, noRoM n85⟩, trivial⟩, ⟨(sameLenE o85 hq9), trivial⟩, rfl, rfl, (setE (rdM o82 hx7)), (pkS (sameLenE o85 hq9).symm), (treeM t85), (setP o82), (by first | exact lnSet _ | exact lnSet2 _ | simp only [List.length_map, List.length_set, List.length_cons, List.length_nil]), (rok (treeM t82)), trivial⟩ (ih (a3.set (Int.toNat v5) r8.2) r8.1 (w64 (v5 + 1)) _ h)
    · have h := Option.some.inj h
      subst h
      exact go_ret hΘ hm hP hn (hs := [⟨2, .no, some (I (a3.length : Int))⟩, ⟨4, .br false, none⟩]) (rh := []) (ph := .raw) (ps := [AV.lit (.int .i64 (((List.length (a3.map o82)) : Nat) : Int)) = (I (a3.length : Int)), (decide (v5 < (a3.length : Int))) = false, (a3.map o82) = (a3.map o82), treeLL (a3.map o82) = true, noRoLL (a3.map o82) = true, (I v4) = (I v4), litA (I v4) = true]) (by kernel_rfl) ⟨(lenM o82), c10, rfl, (treeM t82), (noRoM n82), rfl, rfl, trivial⟩
noncomputable def laws_markOpSS (p1 : (List (List GOp))) (p2 : Int) : Option (Int × (List (List GOp))) :=
  laws_markOpSS_l0 FU p1 p2 0
theorem laws_markOpSS_m {p1 : (List (List GOp))} {p2 : Int} {r : (Int × (List (List GOp)))} (h : laws_markOpSS p1 p2 = some r) : MeetsR Try.prog 55 [⟨82, 1, (p1.map o82)⟩] [(AV.sl 0 0 (List.length (p1.map o82))), (I p2)] [true] [⟨82, 1, (r.2.map o82)⟩] (I r.1) := by
  refine meetsR_of Θ_ok Try.func55 rfl (c := body55) (by kernel_rfl) (Nat.le_of_ble_eq_true rfl) rfl (Nat.le_of_ble_eq_true rfl) rfl (fr := [0]) (frI rfl) ?_
  intro E hP hn hx
  replace hn : E.n = 19 := hn
  have hm : E.P.follows .mixedOrders = true := by rw [hP]; exact mixed
  have hΘ : TOK E.P Θ := by rw [hP]; exact Θ_ok
  unfold laws_markOpSS at h
  show WAt E body55 (FQ (RetE Θ Try.f55.results.toList [true] [⟨82, 1, (r.2.map o82)⟩] (I r.1) E)) [] ⟨[(0, (AV.sl 0 0 (List.length (p1.map o82)))), (1, (I p2))], [(0, some ⟨82, 1, (p1.map o82)⟩)], [0, JJ]⟩
  exact go_to hΘ hm hx hP hn (hs := []) (π := [(0, 0)]) (ts := [0, 1, 5]) (kp := []) (ps := [RenOK [(0, 0)] (p1.map o82)]) (by kernel_rfl) ⟨(rok (treeM t82)), trivial⟩ (laws_markOpSS_l0_m hP hn hx FU p1 p2 0 _ h)
noncomputable def body18 : Code := match Try.f18.body with | some c => c | none => .skip
noncomputable def laws_markProg (p1 : Int) (p2 : Int) (p3 : Int) (p4 : (List (List GOp))) (p5 : Int) : Option (Int × (List (List GOp))) :=
  Option.bind (laws_markOpSS p4 p5) fun r6 =>
  Option.bind (sameLen p4 r6.2) fun q7 =>
  some (r6.1, r6.2)
theorem laws_markProg_m {p1 : Int} {p2 : Int} {p3 : Int} {p4 : (List (List GOp))} {p5 : Int} {r : (Int × (List (List GOp)))} (h : laws_markProg p1 p2 p3 p4 p5 = some r) : MeetsR Try.prog 18 [⟨82, 1, (p4.map o82)⟩] [(AV.agg [(I p1), (I p2), (I p3), (AV.sl 0 0 (List.length (p4.map o82)))]), (I p5)] [true] [⟨82, 1, (r.2.map o82)⟩] (I r.1) := by
  refine meetsR_of Θ_ok Try.func18 rfl (c := body18) (by kernel_rfl) (Nat.le_of_ble_eq_true rfl) rfl (Nat.le_of_ble_eq_true rfl) rfl (fr := [0]) (frI rfl) ?_
  intro E hP hn hx
  replace hn : E.n = 10 := hn
  have hm : E.P.follows .mixedOrders = true := by rw [hP]; exact mixed
  have hΘ : TOK E.P Θ := by rw [hP]; exact Θ_ok
  unfold laws_markProg at h
  show WAt E body18 (FQ (RetE Θ Try.f18.results.toList [true] [⟨82, 1, (r.2.map o82)⟩] (I r.1) E)) [] ⟨[(0, (AV.agg [(I p1), (I p2), (I p3), (AV.sl 0 0 (List.length (p4.map o82)))])), (1, (I p5))], [(0, some ⟨82, 1, (p4.map o82)⟩)], [0, JJ]⟩
  obtain ⟨r6, hr6, h⟩ := bnS h
  obtain ⟨q7, hq7, h⟩ := bnS h
  have h := Option.some.inj h
  subst h
  exact go_ret hΘ hm hP hn (hs := [⟨0, .new 1001, none⟩, ⟨5, .callX [0] [true] [⟨82, 1, (p4.map o82)⟩] [⟨82, 1, (r6.2.map o82)⟩] [] (I r6.1) [] (I r6.1) [], none⟩]) (rh := []) (ph := .raw) (ps := [MeetsR Try.prog 55 [⟨82, 1, (p4.map o82)⟩] [(AV.sl 0 0 (List.length (p4.map o82))), (I p5)] [true] [⟨82, 1, (r6.2.map o82)⟩] (I r6.1), (some (Root.mk 82 1 (p4.map o82)) = some (Root.mk 82 1 (p4.map o82))) ∧ True, (treeLL (p4.map o82) = true ∧ noRoLL (p4.map o82) = true) ∧ True, ((r6.2.map o82).length = (p4.map o82).length) ∧ True, (rtf (renA [(0, 0)] (I r6.1)) []).1 = (I r6.1), (rtf (renA [(0, 0)] (I r6.1)) []).2.1 = [], (r6.2.map o82) = (r6.2.map o82), treeLL (r6.2.map o82) = true, noRoLL (r6.2.map o82) = true, (I r6.1) = (I r6.1), litA (I r6.1) = true]) (by kernel_rfl) ⟨(laws_markOpSS_m hr6), ⟨rfl, trivial⟩, ⟨⟨treeM t82, noRoM n82⟩, trivial⟩, ⟨(sameLenE o82 hq7), trivial⟩, rfl, rfl, rfl, (treeM t82), (noRoM n82), rfl, rfl, trivial⟩
noncomputable def body57 : Code := match Try.f57.body with | some c => c | none => .skip
noncomputable def laws_markFloat64S_l0   : Nat → (List Nat) → Int → Int → Option (Int × (List Nat))
  | 0, _, _, _ => none
  | n + 1, a3, v4, v5 =>
  if (decide (v5 < (a3.length : Int))) = true then
    Option.bind (rd a3 v5) fun x7 =>
    laws_markFloat64S_l0 n (a3.set (Int.toNat v5) (fOf v4)) (w64 (v4 + 1)) (w64 (v5 + 1))
  else
    some (v4, a3)
theorem laws_markFloat64S_l0_m {E : Env} (hP : E.P = Try.prog) (hn : E.n = 20) (hx : ∀ p, p ∈ E.fx → p.1 ∈ ([0] : List Nat))   : ∀ (n : Nat) (a3 : (List Nat)) (v4 : Int) (v5 : Int) (r : (Int × (List Nat))), laws_markFloat64S_l0  n a3 v4 v5 = some r → WAt E body57 (FQ (RetE Θ Try.f57.results.toList [true] [⟨83, 1, (r.2.map o83)⟩] (I r.1) E)) [true, false, true, false] ⟨[(0, (AV.sl 0 0 (List.length (a3.map o83)))), (1, (I v4)), (5, (I v5))], [(0, some ⟨83, 1, (a3.map o83)⟩)], [0, JJ]⟩ := by
  have hm : E.P.follows .mixedOrders = true := by rw [hP]; exact mixed
  have hΘ : TOK E.P Θ := by rw [hP]; exact Θ_ok
  intro n
  induction n with
  | zero => intro a3 v4 v5 r h; simp only [laws_markFloat64S_l0] at h; cases h
  | succ n ih =>
    intro a3 v4 v5 r h
    simp only [laws_markFloat64S_l0] at h
    rcases itS h with ⟨c6, h⟩ | ⟨c8, h⟩
    · obtain ⟨x7, hx7, h⟩ := bnS h
      exact go_to hΘ hm hx hP hn (hs := [⟨2, .no, some (I (a3.length : Int))⟩, ⟨4, .br true, none⟩, ⟨8, .cnv (FK (fOf v4)), none⟩, ⟨10, .sto [(FK x7)] ((a3.set (Int.toNat v5) (fOf v4)).map o83), none⟩, ⟨17, .slen 0 (List.length ((a3.set (Int.toNat v5) (fOf v4)).map o83)), none⟩]) (π := [(0, 0)]) (ts := [0, 1, 5]) (kp := []) (ps := [AV.lit (.int .i64 (((List.length (a3.map o83)) : Nat) : Int)) = (I (a3.length : Int)), (decide (v5 < (a3.length : Int))) = true, CnvS Try.prog 3 83 (I v4) (FK (fOf v4)), (0 : Int) ≤ v5, v5 < (((List.length (a3.map o83)) : Nat) : Int), (a3.map o83)[(Int.toNat v5)]? = some [(FK x7)], (a3.map o83).set (Int.toNat v5) (wr [(FK x7)] 0 [(FK (fOf v4))]) = ((a3.set (Int.toNat v5) (fOf v4)).map o83), [(FK (fOf v4))].length = 1, 0 + [(FK (fOf v4))].length ≤ [(FK x7)].length, (List.length (a3.map o83)) = (List.length ((a3.set (Int.toNat v5) (fOf v4)).map o83)), RenOK [(0, 0)] ((a3.set (Int.toNat v5) (fOf v4)).map o83)]) (by kernel_rfl) ⟨(lenM o83), c6, (cIF (P := Try.prog) ty3 ty83), (rd0 hx7), (rdL o83 hx7), (rdM o83 hx7), (setM o83), rfl, (Nat.le_of_ble_eq_true rfl), (by first | exact lnSet _ | exact lnSet2 _ | simp only [List.length_map, List.length_set, List.length_cons, List.length_nil]), (rok (treeM t83)), trivial⟩ (ih (a3.set (Int.toNat v5) (fOf v4)) (w64 (v4 + 1)) (w64 (v5 + 1)) _ h)
    · have h := Option.some.inj h
      subst h
      exact go_ret hΘ hm hP hn (hs := [⟨2, .no, some (I (a3.length : Int))⟩, ⟨4, .br false, none⟩]) (rh := []) (ph := .raw) (ps := [AV.lit (.int .i64 (((List.length (a3.map o83)) : Nat) : Int)) = (I (a3.length : Int)), (decide (v5 < (a3.length : Int))) = false, (a3.map o83) = (a3.map o83), treeLL (a3.map o83) = true, noRoLL (a3.map o83) = true, (I v4) = (I v4), litA (I v4) = true]) (by kernel_rfl) ⟨(lenM o83), c8, rfl, (treeM t83), (noRoM n83), rfl, rfl, trivial⟩
noncomputable def laws_markFloat64S (p1 : (List Nat)) (p2 : Int) : Option (Int × (List Nat)) :=
  laws_markFloat64S_l0 FU p1 p2 0
theorem laws_markFloat64S_m {p1 : (List Nat)} {p2 : Int} {r : (Int × (List Nat))} (h : laws_markFloat64S p1 p2 = some r) : MeetsR Try.prog 57 [⟨83, 1, (p1.map o83)⟩] [(AV.sl 0 0 (List.length (p1.map o83))), (I p2)] [true] [⟨83, 1, (r.2.map o83)⟩] (I r.1) := by
  refine meetsR_of Θ_ok Try.func57 rfl (c := body57) (by kernel_rfl) (Nat.le_of_ble_eq_true rfl) rfl (Nat.le_of_ble_eq_true rfl) rfl (fr := [0]) (frI rfl) ?_
  intro E hP hn hx
  replace hn : E.n = 20 := hn
  have hm : E.P.follows .mixedOrders = true := by rw [hP]; exact mixed
  have hΘ : TOK E.P Θ := by rw [hP]; exact Θ_ok
  unfold laws_markFloat64S at h
  show WAt E body57 (FQ (RetE Θ Try.f57.results.toList [true] [⟨83, 1, (r.2.map o83)⟩] (I r.1) E)) [] ⟨[(0, (AV.sl 0 0 (List.length (p1.map o83)))), (1, (I p2))], [(0, some ⟨83, 1, (p1.map o83)⟩)], [0, JJ]⟩
  exact go_to hΘ hm hx hP hn (hs := []) (π := [(0, 0)]) (ts := [0, 1, 5]) (kp := []) (ps := [RenOK [(0, 0)] (p1.map o83)]) (by kernel_rfl) ⟨(rok (treeM t83)), trivial⟩ (laws_markFloat64S_l0_m hP hn hx FU p1 p2 0 _ h)
noncomputable def body56 : Code := match Try.f56.body with | some c => c | none => .skip
noncomputable def laws_markThreadS_l0   : Nat → (List GThread) → Int → Int → Option (Int × (List GThread))
  | 0, _, _, _ => none
  | n + 1, a3, v4, v5 =>
  if (decide (v5 < (a3.length : Int))) = true then
    Option.bind (rd a3 v5) fun x7 =>
    Option.bind (laws_markFloat64S x7.Stack (w64 ((w64 ((w64 ((w64 ((w64 (v4 + 1)) + 1)) + 1)) + 1)) + 1))) fun r8 =>
    Option.bind (sameLen x7.Stack r8.2) fun q9 =>
    laws_markThreadS_l0 n ((a3.set (Int.toNat v5) (GThread.mk v4 (w64 (v4 + 1)) (w64 ((w64 (v4 + 1)) + 1)) (w64 ((w64 ((w64 (v4 + 1)) + 1)) + 1)) (w64 ((w64 ((w64 ((w64 (v4 + 1)) + 1)) + 1)) + 1)) x7.Stack)).set (Int.toNat v5) (GThread.mk v4 (w64 (v4 + 1)) (w64 ((w64 (v4 + 1)) + 1)) (w64 ((w64 ((w64 (v4 + 1)) + 1)) + 1)) (w64 ((w64 ((w64 ((w64 (v4 + 1)) + 1)) + 1)) + 1)) r8.2)) r8.1 (w64 (v5 + 1))
  else
    some (v4, a3)
theorem laws_markThreadS_l0_m {E : Env} (hP : E.P = Try.prog) (hn : E.n = 55) (hx : ∀ p, p ∈ E.fx → p.1 ∈ ([0] : List Nat))   : ∀ (n : Nat) (a3 : (List GThread)) (v4 : Int) (v5 : Int) (r : (Int × (List GThread))), laws_markThreadS_l0  n a3 v4 v5 = some r → WAt E body56 (FQ (RetE Θ Try.f56.results.toList [true] [⟨70, 6, (r.2.map o70)⟩] (I r.1) E)) [true, false, true, false] ⟨[(0, (AV.sl 0 0 (List.length (a3.map o70)))), (1, (I v4)), (5, (I v5))], [(0, some ⟨70, 6, (a3.map o70)⟩)], [0, JJ]⟩ := by
  have hm : E.P.follows .mixedOrders = true := by rw [hP]; exact mixed
  have hΘ : TOK E.P Θ := by rw [hP]; exact Θ_ok
  intro n
  induction n with
  | zero => intro a3 v4 v5 r h; simp only [laws_markThreadS_l0] at h; cases h
  | succ n ih =>
    intro a3 v4 v5 r h
    simp only [laws_markThreadS_l0] at h
    rcases itS h with ⟨c6, h⟩ | ⟨c10, h⟩
    · obtain ⟨x7, hx7, h⟩ := bnS h
      obtain ⟨r8, hr8, h⟩ := bnS h
      obtain ⟨q9, hq9, h⟩ := bnS h
      exact go_to hΘ hm hx hP hn (hs := [⟨2, .no, some (I (a3.length : Int))⟩, ⟨4, .br true, none⟩, ⟨10, .sto ((o70 x7)) ((a3.set (Int.toNat v5) (GThread.mk v4 x7.Pc x7.State x7.Cond x7.Lock x7.Stack)).map o70), none⟩, ⟨14, .slen 0 (List.length ((a3.set (Int.toNat v5) (GThread.mk v4 x7.Pc x7.State x7.Cond x7.Lock x7.Stack)).map o70)), none⟩, ⟨19, .sto [(I v4), (I x7.Pc), (I x7.State), (I x7.Cond), (I x7.Lock), (AV.own 83 1 (x7.Stack.map o83))] ((a3.set (Int.toNat v5) (GThread.mk v4 (w64 (v4 + 1)) x7.State x7.Cond x7.Lock x7.Stack)).map o70), none⟩, ⟨23, .slen 0 (List.length ((a3.set (Int.toNat v5) (GThread.mk v4 (w64 (v4 + 1)) x7.State x7.Cond x7.Lock x7.Stack)).map o70)), none⟩, ⟨28, .sto [(I v4), (I (w64 (v4 + 1))), (I x7.State), (I x7.Cond), (I x7.Lock), (AV.own 83 1 (x7.Stack.map o83))] ((a3.set (Int.toNat v5) (GThread.mk v4 (w64 (v4 + 1)) (w64 ((w64 (v4 + 1)) + 1)) x7.Cond x7.Lock x7.Stack)).map o70), none⟩, ⟨32, .slen 0 (List.length ((a3.set (Int.toNat v5) (GThread.mk v4 (w64 (v4 + 1)) (w64 ((w64 (v4 + 1)) + 1)) x7.Cond x7.Lock x7.Stack)).map o70)), none⟩, ⟨37, .sto [(I v4), (I (w64 (v4 + 1))), (I (w64 ((w64 (v4 + 1)) + 1))), (I x7.Cond), (I x7.Lock), (AV.own 83 1 (x7.Stack.map o83))] ((a3.set (Int.toNat v5) (GThread.mk v4 (w64 (v4 + 1)) (w64 ((w64 (v4 + 1)) + 1)) (w64 ((w64 ((w64 (v4 + 1)) + 1)) + 1)) x7.Lock x7.Stack)).map o70), none⟩, ⟨41, .slen 0 (List.length ((a3.set (Int.toNat v5) (GThread.mk v4 (w64 (v4 + 1)) (w64 ((w64 (v4 + 1)) + 1)) (w64 ((w64 ((w64 (v4 + 1)) + 1)) + 1)) x7.Lock x7.Stack)).map o70)), none⟩, ⟨46, .sto [(I v4), (I (w64 (v4 + 1))), (I (w64 ((w64 (v4 + 1)) + 1))), (I (w64 ((w64 ((w64 (v4 + 1)) + 1)) + 1))), (I x7.Lock), (AV.own 83 1 (x7.Stack.map o83))] ((a3.set (Int.toNat v5) (GThread.mk v4 (w64 (v4 + 1)) (w64 ((w64 (v4 + 1)) + 1)) (w64 ((w64 ((w64 (v4 + 1)) + 1)) + 1)) (w64 ((w64 ((w64 ((w64 (v4 + 1)) + 1)) + 1)) + 1)) x7.Stack)).map o70), none⟩, ⟨50, .slen 0 (List.length ((a3.set (Int.toNat v5) (GThread.mk v4 (w64 (v4 + 1)) (w64 ((w64 (v4 + 1)) + 1)) (w64 ((w64 ((w64 (v4 + 1)) + 1)) + 1)) (w64 ((w64 ((w64 ((w64 (v4 + 1)) + 1)) + 1)) + 1)) x7.Stack)).map o70)), none⟩, ⟨54, .unpack 0 1001 (Int.toNat v5) 5 [(I v4), (I (w64 (v4 + 1))), (I (w64 ((w64 (v4 + 1)) + 1))), (I (w64 ((w64 ((w64 (v4 + 1)) + 1)) + 1))), (I (w64 ((w64 ((w64 ((w64 (v4 + 1)) + 1)) + 1)) + 1))), (AV.own 83 1 (x7.Stack.map o83))] 83 1 (x7.Stack.map o83) (((a3.set (Int.toNat v5) (GThread.mk v4 (w64 (v4 + 1)) (w64 ((w64 (v4 + 1)) + 1)) (w64 ((w64 ((w64 (v4 + 1)) + 1)) + 1)) (w64 ((w64 ((w64 ((w64 (v4 + 1)) + 1)) + 1)) + 1)) x7.Stack)).map o70).set (Int.toNat v5) [(I v4), (I (w64 (v4 + 1))), (I (w64 ((w64 (v4 + 1)) + 1))), (I (w64 ((w64 ((w64 (v4 + 1)) + 1)) + 1))), (I (w64 ((w64 ((w64 ((w64 (v4 + 1)) + 1)) + 1)) + 1))), (AV.sl 1001 0 (List.length (x7.Stack.map o83)))]), none⟩, ⟨54, .row [(I v4), (I (w64 (v4 + 1))), (I (w64 ((w64 (v4 + 1)) + 1))), (I (w64 ((w64 ((w64 (v4 + 1)) + 1)) + 1))), (I (w64 ((w64 ((w64 ((w64 (v4 + 1)) + 1)) + 1)) + 1))), (AV.sl 1001 0 (List.length (x7.Stack.map o83)))], none⟩, ⟨56, .callX [1001] [true] [⟨83, 1, (x7.Stack.map o83)⟩] [⟨83, 1, (r8.2.map o83)⟩] [] (I r8.1) [] (I r8.1) [], none⟩, ⟨61, .pack 0 1001 (Int.toNat v5) 5 [(I v4), (I (w64 (v4 + 1))), (I (w64 ((w64 (v4 + 1)) + 1))), (I (w64 ((w64 ((w64 (v4 + 1)) + 1)) + 1))), (I (w64 ((w64 ((w64 ((w64 (v4 + 1)) + 1)) + 1)) + 1))), (AV.sl 1001 0 (List.length (x7.Stack.map o83)))] (((a3.set (Int.toNat v5) (GThread.mk v4 (w64 (v4 + 1)) (w64 ((w64 (v4 + 1)) + 1)) (w64 ((w64 ((w64 (v4 + 1)) + 1)) + 1)) (w64 ((w64 ((w64 ((w64 (v4 + 1)) + 1)) + 1)) + 1)) x7.Stack)).set (Int.toNat v5) (GThread.mk v4 (w64 (v4 + 1)) (w64 ((w64 (v4 + 1)) + 1)) (w64 ((w64 ((w64 (v4 + 1)) + 1)) + 1)) (w64 ((w64 ((w64 ((w64 (v4 + 1)) + 1)) + 1)) + 1)) r8.2)).map o70), none⟩, ⟨61, .slen 0 (List.length (((a3.set (Int.toNat v5) (GThread.mk v4 (w64 (v4 + 1)) (w64 ((w64 (v4 + 1)) + 1)) (w64 ((w64 ((w64 (v4 + 1)) + 1)) + 1)) (w64 ((w64 ((w64 ((w64 (v4 + 1)) + 1)) + 1)) + 1)) x7.Stack)).set (Int.toNat v5) (GThread.mk v4 (w64 (v4 + 1)) (w64 ((w64 (v4 + 1)) + 1)) (w64 ((w64 ((w64 (v4 + 1)) + 1)) + 1)) (w64 ((w64 ((w64 ((w64 (v4 + 1)) + 1)) + 1)) + 1)) r8.2)).map o70)), none⟩]) (π := [(0, 0)]) (ts := [0, 1, 5]) (kp := []) (ps := [AV.lit (.int .i64 (((List.length (a3.map o70)) : Nat) : Int)) = (I (a3.length : Int)), (decide (v5 < (a3.length : Int))) = true, (0 : Int) ≤ v5, v5 < (((List.length (a3.map o70)) : Nat) : Int), (a3.map o70)[(Int.toNat v5)]? = some ((o70 x7)), (a3.map o70).set (Int.toNat v5) (wr ((o70 x7)) 0 [(I v4)]) = ((a3.set (Int.toNat v5) (GThread.mk v4 x7.Pc x7.State x7.Cond x7.Lock x7.Stack)).map o70), [(I v4)].length = 1, 0 + [(I v4)].length ≤ ((o70 x7)).length, (List.length (a3.map o70)) = (List.length ((a3.set (Int.toNat v5) (GThread.mk v4 x7.Pc x7.State x7.Cond x7.Lock x7.Stack)).map o70)), (0 : Int) ≤ v5, v5 < (((List.length ((a3.set (Int.toNat v5) (GThread.mk v4 x7.Pc x7.State x7.Cond x7.Lock x7.Stack)).map o70)) : Nat) : Int), ((a3.set (Int.toNat v5) (GThread.mk v4 x7.Pc x7.State x7.Cond x7.Lock x7.Stack)).map o70)[(Int.toNat v5)]? = some [(I v4), (I x7.Pc), (I x7.State), (I x7.Cond), (I x7.Lock), (AV.own 83 1 (x7.Stack.map o83))], ((a3.set (Int.toNat v5) (GThread.mk v4 x7.Pc x7.State x7.Cond x7.Lock x7.Stack)).map o70).set (Int.toNat v5) (wr [(I v4), (I x7.Pc), (I x7.State), (I x7.Cond), (I x7.Lock), (AV.own 83 1 (x7.Stack.map o83))] 1 [(I (w64 (v4 + 1)))]) = ((a3.set (Int.toNat v5) (GThread.mk v4 (w64 (v4 + 1)) x7.State x7.Cond x7.Lock x7.Stack)).map o70), [(I (w64 (v4 + 1)))].length = 1, 1 + [(I (w64 (v4 + 1)))].length ≤ [(I v4), (I x7.Pc), (I x7.State), (I x7.Cond), (I x7.Lock), (AV.own 83 1 (x7.Stack.map o83))].length, (List.length ((a3.set (Int.toNat v5) (GThread.mk v4 x7.Pc x7.State x7.Cond x7.Lock x7.Stack)).map o70)) = (List.length ((a3.set (Int.toNat v5) (GThread.mk v4 (w64 (v4 + 1)) x7.State x7.Cond x7.Lock x7.Stack)).map o70)), (0 : Int) ≤ v5, v5 < (((List.length ((a3.set (Int.toNat v5) (GThread.mk v4 (w64 (v4 + 1)) x7.State x7.Cond x7.Lock x7.Stack)).map o70)) : Nat) : Int), ((a3.set (Int.toNat v5) (GThread.mk v4 (w64 (v4 + 1)) x7.State x7.Cond x7.Lock x7.Stack)).map o70)[(Int.toNat v5)]? = some [(I v4), (I (w64 (v4 + 1))), (I x7.State), (I x7.Cond), (I x7.Lock), (AV.own 83 1 (x7.Stack.map o83))], ((a3.set (Int.toNat v5) (GThread.mk v4 (w64 (v4 + 1)) x7.State x7.Cond x7.Lock x7.Stack)).map o70).set (Int.toNat v5) (wr [(I v4), (I (w64 (v4 + 1))), (I x7.State), (I x7.Cond), (I x7.Lock), (AV.own 83 1 (x7.Stack.map o83))] 2 [(I (w64 ((w64 (v4 + 1)) + 1)))]) = ((a3.set (Int.toNat v5) (GThread.mk v4 (w64 (v4 + 1)) (w64 ((w64 (v4 + 1)) + 1)) x7.Cond x7.Lock x7.Stack)).map o70), [(I (w64 ((w64 (v4 + 1)) + 1)))].length = 1, 2 + [(I (w64 ((w64 (v4 + 1)) + 1)))].length ≤ [(I v4), (I (w64 (v4 + 1))), (I x7.State), (I x7.Cond), (I x7.Lock), (AV.own 83 1 (x7.Stack.map o83))].length, (List.length ((a3.set (Int.toNat v5) (GThread.mk v4 (w64 (v4 + 1)) x7.State x7.Cond x7.Lock x7.Stack)).map o70)) = (List.length ((a3.set (Int.toNat v5) (GThread.mk v4 (w64 (v4 + 1)) (w64 ((w64 (v4 + 1)) + 1)) x7.Cond x7.Lock x7.Stack)).map o70)), (0 : Int) ≤ v5, v5 < (((List.length ((a3.set (Int.toNat v5) (GThread.mk v4 (w64 (v4 + 1)) (w64 ((w64 (v4 + 1)) + 1)) x7.Cond x7.Lock x7.Stack)).map o70)) : Nat) : Int), ((a3.set (Int.toNat v5) (GThread.mk v4 (w64 (v4 + 1)) (w64 ((w64 (v4 + 1)) + 1)) x7.Cond x7.Lock x7.Stack)).map o70)[(Int.toNat v5)]? = some [(I v4), (I (w64 (v4 + 1))), (I (w64 ((w64 (v4 + 1)) + 1))), (I x7.Cond), (I x7.Lock), (AV.own 83 1 (x7.Stack.map o83))], ((a3.set (Int.toNat v5) (GThread.mk v4 (w64 (v4 + 1)) (w64 ((w64 (v4 + 1)) + 1)) x7.Cond x7.Lock x7.Stack)).map o70).set (Int.toNat v5) (wr [(I v4), (I (w64 (v4 + 1))), (I (w64 ((w64 (v4 + 1)) + 1))), (I x7.Cond), (I x7.Lock), (AV.own 83 1 (x7.Stack.map o83))] 3 [(I (w64 ((w64 ((w64 (v4 + 1)) + 1)) + 1)))]) = ((a3.set (Int.toNat v5) (GThread.mk v4 (w64 (v4 + 1)) (w64 ((w64 (v4 + 1)) + 1)) (w64 ((w64 ((w64 (v4 + 1)) + 1)) + 1)) x7.Lock x7.Stack)).map o70), [(I (w64 ((w64 ((w64 (v4 + 1)) + 1)) + 1)))].length = 1, 3 + [(I (w64 ((w64 ((w64 (v4 + 1)) + 1)) + 1)))].length ≤ [(I v4), (I (w64 (v4 + 1))), (I (w64 ((w64 (v4 + 1)) + 1))), (I x7.Cond), (I x7.Lock), (AV.own 83 1 (x7.Stack.map o83))].length, (List.length ((a3.set (Int.toNat v5) (GThread.mk v4 (w64 (v4 + 1)) (w64 ((w64 (v4 + 1)) + 1)) x7.Cond x7.Lock x7.Stack)).map o70)) = (List.length ((a3.set (Int.toNat v5) (GThread.mk v4 (w64 (v4 + 1)) (w64 ((w64 (v4 + 1)) + 1)) (w64 ((w64 ((w64 (v4 + 1)) + 1)) + 1)) x7.Lock x7.Stack)).map o70)), (0 : Int) ≤ v5, v5 < (((List.length ((a3.set (Int.toNat v5) (GThread.mk v4 (w64 (v4 + 1)) (w64 ((w64 (v4 + 1)) + 1)) (w64 ((w64 ((w64 (v4 + 1)) + 1)) + 1)) x7.Lock x7.Stack)).map o70)) : Nat) : Int), ((a3.set (Int.toNat v5) (GThread.mk v4 (w64 (v4 + 1)) (w64 ((w64 (v4 + 1)) + 1)) (w64 ((w64 ((w64 (v4 + 1)) + 1)) + 1)) x7.Lock x7.Stack)).map o70)[(Int.toNat v5)]? = some [(I v4), (I (w64 (v4 + 1))), (I (w64 ((w64 (v4 + 1)) + 1))), (I (w64 ((w64 ((w64 (v4 + 1)) + 1)) + 1))), (I x7.Lock), (AV.own 83 1 (x7.Stack.map o83))], ((a3.set (Int.toNat v5) (GThread.mk v4 (w64 (v4 + 1)) (w64 ((w64 (v4 + 1)) + 1)) (w64 ((w64 ((w64 (v4 + 1)) + 1)) + 1)) x7.Lock x7.Stack)).map o70).set (Int.toNat v5) (wr [(I v4), (I (w64 (v4 + 1))), (I (w64 ((w64 (v4 + 1)) + 1))), (I (w64 ((w64 ((w64 (v4 + 1)) + 1)) + 1))), (I x7.Lock), (AV.own 83 1 (x7.Stack.map o83))] 4 [(I (w64 ((w64 ((w64 ((w64 (v4 + 1)) + 1)) + 1)) + 1)))]) = ((a3.set (Int.toNat v5) (GThread.mk v4 (w64 (v4 + 1)) (w64 ((w64 (v4 + 1)) + 1)) (w64 ((w64 ((w64 (v4 + 1)) + 1)) + 1)) (w64 ((w64 ((w64 ((w64 (v4 + 1)) + 1)) + 1)) + 1)) x7.Stack)).map o70), [(I (w64 ((w64 ((w64 ((w64 (v4 + 1)) + 1)) + 1)) + 1)))].length = 1, 4 + [(I (w64 ((w64 ((w64 ((w64 (v4 + 1)) + 1)) + 1)) + 1)))].length ≤ [(I v4), (I (w64 (v4 + 1))), (I (w64 ((w64 (v4 + 1)) + 1))), (I (w64 ((w64 ((w64 (v4 + 1)) + 1)) + 1))), (I x7.Lock), (AV.own 83 1 (x7.Stack.map o83))].length, (List.length ((a3.set (Int.toNat v5) (GThread.mk v4 (w64 (v4 + 1)) (w64 ((w64 (v4 + 1)) + 1)) (w64 ((w64 ((w64 (v4 + 1)) + 1)) + 1)) x7.Lock x7.Stack)).map o70)) = (List.length ((a3.set (Int.toNat v5) (GThread.mk v4 (w64 (v4 + 1)) (w64 ((w64 (v4 + 1)) + 1)) (w64 ((w64 ((w64 (v4 + 1)) + 1)) + 1)) (w64 ((w64 ((w64 ((w64 (v4 + 1)) + 1)) + 1)) + 1)) x7.Stack)).map o70)), (0 : Int) ≤ v5, v5 < (((List.length ((a3.set (Int.toNat v5) (GThread.mk v4 (w64 (v4 + 1)) (w64 ((w64 (v4 + 1)) + 1)) (w64 ((w64 ((w64 (v4 + 1)) + 1)) + 1)) (w64 ((w64 ((w64 ((w64 (v4 + 1)) + 1)) + 1)) + 1)) x7.Stack)).map o70)) : Nat) : Int), ((a3.set (Int.toNat v5) (GThread.mk v4 (w64 (v4 + 1)) (w64 ((w64 (v4 + 1)) + 1)) (w64 ((w64 ((w64 (v4 + 1)) + 1)) + 1)) (w64 ((w64 ((w64 ((w64 (v4 + 1)) + 1)) + 1)) + 1)) x7.Stack)).map o70)[(Int.toNat v5)]? = some [(I v4), (I (w64 (v4 + 1))), (I (w64 ((w64 (v4 + 1)) + 1))), (I (w64 ((w64 ((w64 (v4 + 1)) + 1)) + 1))), (I (w64 ((w64 ((w64 ((w64 (v4 + 1)) + 1)) + 1)) + 1))), (AV.own 83 1 (x7.Stack.map o83))], [(I v4), (I (w64 (v4 + 1))), (I (w64 ((w64 (v4 + 1)) + 1))), (I (w64 ((w64 ((w64 (v4 + 1)) + 1)) + 1))), (I (w64 ((w64 ((w64 ((w64 (v4 + 1)) + 1)) + 1)) + 1))), (AV.own 83 1 (x7.Stack.map o83))][5]? = some (AV.own 83 1 (x7.Stack.map o83)), 0 < 1, ((a3.set (Int.toNat v5) (GThread.mk v4 (w64 (v4 + 1)) (w64 ((w64 (v4 + 1)) + 1)) (w64 ((w64 ((w64 (v4 + 1)) + 1)) + 1)) (w64 ((w64 ((w64 ((w64 (v4 + 1)) + 1)) + 1)) + 1)) x7.Stack)).map o70).set (Int.toNat v5) ([(I v4), (I (w64 (v4 + 1))), (I (w64 ((w64 (v4 + 1)) + 1))), (I (w64 ((w64 ((w64 (v4 + 1)) + 1)) + 1))), (I (w64 ((w64 ((w64 ((w64 (v4 + 1)) + 1)) + 1)) + 1))), (AV.own 83 1 (x7.Stack.map o83))].set 5 (AV.sl 1001 0 (List.length (x7.Stack.map o83)))) = (((a3.set (Int.toNat v5) (GThread.mk v4 (w64 (v4 + 1)) (w64 ((w64 (v4 + 1)) + 1)) (w64 ((w64 ((w64 (v4 + 1)) + 1)) + 1)) (w64 ((w64 ((w64 ((w64 (v4 + 1)) + 1)) + 1)) + 1)) x7.Stack)).map o70).set (Int.toNat v5) [(I v4), (I (w64 (v4 + 1))), (I (w64 ((w64 (v4 + 1)) + 1))), (I (w64 ((w64 ((w64 (v4 + 1)) + 1)) + 1))), (I (w64 ((w64 ((w64 ((w64 (v4 + 1)) + 1)) + 1)) + 1))), (AV.sl 1001 0 (List.length (x7.Stack.map o83)))]), (((a3.set (Int.toNat v5) (GThread.mk v4 (w64 (v4 + 1)) (w64 ((w64 (v4 + 1)) + 1)) (w64 ((w64 ((w64 (v4 + 1)) + 1)) + 1)) (w64 ((w64 ((w64 ((w64 (v4 + 1)) + 1)) + 1)) + 1)) x7.Stack)).map o70).set (Int.toNat v5) [(I v4), (I (w64 (v4 + 1))), (I (w64 ((w64 (v4 + 1)) + 1))), (I (w64 ((w64 ((w64 (v4 + 1)) + 1)) + 1))), (I (w64 ((w64 ((w64 ((w64 (v4 + 1)) + 1)) + 1)) + 1))), (AV.sl 1001 0 (List.length (x7.Stack.map o83)))])[(Int.toNat v5)]? = some [(I v4), (I (w64 (v4 + 1))), (I (w64 ((w64 (v4 + 1)) + 1))), (I (w64 ((w64 ((w64 (v4 + 1)) + 1)) + 1))), (I (w64 ((w64 ((w64 ((w64 (v4 + 1)) + 1)) + 1)) + 1))), (AV.sl 1001 0 (List.length (x7.Stack.map o83)))], MeetsR Try.prog 57 [⟨83, 1, (x7.Stack.map o83)⟩] [(AV.sl 0 0 (List.length (x7.Stack.map o83))), (I (w64 ((w64 ((w64 ((w64 ((w64 (v4 + 1)) + 1)) + 1)) + 1)) + 1)))] [true] [⟨83, 1, (r8.2.map o83)⟩] (I r8.1), (some (Root.mk 83 1 (x7.Stack.map o83)) = some (Root.mk 83 1 (x7.Stack.map o83))) ∧ True, (treeLL (x7.Stack.map o83) = true ∧ noRoLL (x7.Stack.map o83) = true) ∧ True, ((r8.2.map o83).length = (x7.Stack.map o83).length) ∧ True, (rtf (renA [(0, 1001)] (I r8.1)) []).1 = (I r8.1), (rtf (renA [(0, 1001)] (I r8.1)) []).2.1 = [], (((a3.set (Int.toNat v5) (GThread.mk v4 (w64 (v4 + 1)) (w64 ((w64 (v4 + 1)) + 1)) (w64 ((w64 ((w64 (v4 + 1)) + 1)) + 1)) (w64 ((w64 ((w64 ((w64 (v4 + 1)) + 1)) + 1)) + 1)) x7.Stack)).map o70).set (Int.toNat v5) [(I v4), (I (w64 (v4 + 1))), (I (w64 ((w64 (v4 + 1)) + 1))), (I (w64 ((w64 ((w64 (v4 + 1)) + 1)) + 1))), (I (w64 ((w64 ((w64 ((w64 (v4 + 1)) + 1)) + 1)) + 1))), (AV.sl 1001 0 (List.length (x7.Stack.map o83)))])[(Int.toNat v5)]? = some [(I v4), (I (w64 (v4 + 1))), (I (w64 ((w64 (v4 + 1)) + 1))), (I (w64 ((w64 ((w64 (v4 + 1)) + 1)) + 1))), (I (w64 ((w64 ((w64 ((w64 (v4 + 1)) + 1)) + 1)) + 1))), (AV.sl 1001 0 (List.length (x7.Stack.map o83)))], [(I v4), (I (w64 (v4 + 1))), (I (w64 ((w64 (v4 + 1)) + 1))), (I (w64 ((w64 ((w64 (v4 + 1)) + 1)) + 1))), (I (w64 ((w64 ((w64 ((w64 (v4 + 1)) + 1)) + 1)) + 1))), (AV.sl 1001 0 (List.length (x7.Stack.map o83)))][5]? = some (AV.sl 1001 0 (List.length (r8.2.map o83))), treeLL (r8.2.map o83) = true, (((a3.set (Int.toNat v5) (GThread.mk v4 (w64 (v4 + 1)) (w64 ((w64 (v4 + 1)) + 1)) (w64 ((w64 ((w64 (v4 + 1)) + 1)) + 1)) (w64 ((w64 ((w64 ((w64 (v4 + 1)) + 1)) + 1)) + 1)) x7.Stack)).map o70).set (Int.toNat v5) [(I v4), (I (w64 (v4 + 1))), (I (w64 ((w64 (v4 + 1)) + 1))), (I (w64 ((w64 ((w64 (v4 + 1)) + 1)) + 1))), (I (w64 ((w64 ((w64 ((w64 (v4 + 1)) + 1)) + 1)) + 1))), (AV.sl 1001 0 (List.length (x7.Stack.map o83)))]).set (Int.toNat v5) ([(I v4), (I (w64 (v4 + 1))), (I (w64 ((w64 (v4 + 1)) + 1))), (I (w64 ((w64 ((w64 (v4 + 1)) + 1)) + 1))), (I (w64 ((w64 ((w64 ((w64 (v4 + 1)) + 1)) + 1)) + 1))), (AV.sl 1001 0 (List.length (x7.Stack.map o83)))].set 5 (AV.own 83 1 (r8.2.map o83))) = (((a3.set (Int.toNat v5) (GThread.mk v4 (w64 (v4 + 1)) (w64 ((w64 (v4 + 1)) + 1)) (w64 ((w64 ((w64 (v4 + 1)) + 1)) + 1)) (w64 ((w64 ((w64 ((w64 (v4 + 1)) + 1)) + 1)) + 1)) x7.Stack)).set (Int.toNat v5) (GThread.mk v4 (w64 (v4 + 1)) (w64 ((w64 (v4 + 1)) + 1)) (w64 ((w64 ((w64 (v4 + 1)) + 1)) + 1)) (w64 ((w64 ((w64 ((w64 (v4 + 1)) + 1)) + 1)) + 1)) r8.2)).map o70), (List.length ((a3.set (Int.toNat v5) (GThread.mk v4 (w64 (v4 + 1)) (w64 ((w64 (v4 + 1)) + 1)) (w64 ((w64 ((w64 (v4 + 1)) + 1)) + 1)) (w64 ((w64 ((w64 ((w64 (v4 + 1)) + 1)) + 1)) + 1)) x7.Stack)).map o70)) = (List.length (((a3.set (Int.toNat v5) (GThread.mk v4 (w64 (v4 + 1)) (w64 ((w64 (v4 + 1)) + 1)) (w64 ((w64 ((w64 (v4 + 1)) + 1)) + 1)) (w64 ((w64 ((w64 ((w64 (v4 + 1)) + 1)) + 1)) + 1)) x7.Stack)).set (Int.toNat v5) (GThread.mk v4 (w64 (v4 + 1)) (w64 ((w64 (v4 + 1)) + 1)) (w64 ((w64 ((w64 (v4 + 1)) + 1)) + 1)) (w64 ((w64 ((w64 ((w64 (v4 + 1)) + 1)) + 1)) + 1)) r8.2)).map o70)), RenOK [(0, 0)] (((a3.set (Int.toNat v5) (GThread.mk v4 (w64 (v4 + 1)) (w64 ((w64 (v4 + 1)) + 1)) (w64 ((w64 ((w64 (v4 + 1)) + 1)) + 1)) (w64 ((w64 ((w64 ((w64 (v4 + 1)) + 1)) + 1)) + 1)) x7.Stack)).set (Int.toNat v5) (GThread.mk v4 (w64 (v4 + 1)) (w64 ((w64 (v4 + 1)) + 1)) (w64 ((w64 ((w64 (v4 + 1)) + 1)) + 1)) (w64 ((w64 ((w64 ((w64 (v4 + 1)) + 1)) + 1)) + 1)) r8.2)).map o70)]) (by kernel_rfl) ⟨(lenM o70), c6, (rd0 hx7), (rdL o70 hx7), (rdM o70 hx7), (setMr o70 (by kernel_rfl)), rfl, (Nat.le_of_ble_eq_true rfl), (by first | exact lnSet _ | exact lnSet2 _ | simp only [List.length_map, List.length_set, List.length_cons, List.length_nil]), (rd0 hx7), (rdL o70 (rdS (y := (GThread.mk v4 x7.Pc x7.State x7.Cond x7.Lock x7.Stack)) hx7)), (rdM o70 (rdS (y := (GThread.mk v4 x7.Pc x7.State x7.Cond x7.Lock x7.Stack)) hx7)), (setSS o70 (by kernel_rfl)), rfl, (Nat.le_of_ble_eq_true rfl), (by first | exact lnSet _ | exact lnSet2 _ | simp only [List.length_map, List.length_set, List.length_cons, List.length_nil]), (rd0 hx7), (rdL o70 (rdS (y := (GThread.mk v4 (w64 (v4 + 1)) x7.State x7.Cond x7.Lock x7.Stack)) hx7)), (rdM o70 (rdS (y := (GThread.mk v4 (w64 (v4 + 1)) x7.State x7.Cond x7.Lock x7.Stack)) hx7)), (setSS o70 (by kernel_rfl)), rfl, (Nat.le_of_ble_eq_true rfl), (by first | exact lnSet _ | exact lnSet2 _ | simp only [List.length_map, List.length_set, List.length_cons, List.length_nil]), (rd0 hx7), (rdL o70 (rdS (y := (GThread.mk v4 (w64 (v4 + 1)) (w64 ((w64 (v4 + 1)) + 1)) x7.Cond x7.Lock x7.Stack)) hx7)), (rdM o70 (rdS (y := (GThread.mk v4 (w64 (v4 + 1)) (w64 ((w64 (v4 + 1)) + 1)) x7.Cond x7.Lock x7.Stack)) hx7)), (setSS o70 (by kernel_rfl)), rfl, (Nat.le_of_ble_eq_true rfl), (by first | exact lnSet _ | exact lnSet2 _ | simp only [List.length_map, List.length_set, List.length_cons, List.length_nil]), (rd0 hx7), (rdL o70 (rdS (y := (GThread.mk v4 (w64 (v4 + 1)) (w64 ((w64 (v4 + 1)) + 1)) (w64 ((w64 ((w64 (v4 + 1)) + 1)) + 1)) x7.Lock x7.Stack)) hx7)), (rdM o70 (rdS (y := (GThread.mk v4 (w64 (v4 + 1)) (w64 ((w64 (v4 + 1)) + 1)) (w64 ((w64 ((w64 (v4 + 1)) + 1)) + 1)) x7.Lock x7.Stack)) hx7)), (setSS o70 (by kernel_rfl)), rfl, (Nat.le_of_ble_eq_true rfl), (by first | exact lnSet _ | exact lnSet2 _ | simp only [List.length_map, List.length_set, List.length_cons, List.length_nil]), (rd0 hx7), (rdL o70 (rdS (y := (GThread.mk v4 (w64 (v4 + 1)) (w64 ((w64 (v4 + 1)) + 1)) (w64 ((w64 ((w64 (v4 + 1)) + 1)) + 1)) (w64 ((w64 ((w64 ((w64 (v4 + 1)) + 1)) + 1)) + 1)) x7.Stack)) hx7)), (rdM o70 (rdS (y := (GThread.mk v4 (w64 (v4 + 1)) (w64 ((w64 (v4 + 1)) + 1)) (w64 ((w64 ((w64 (v4 + 1)) + 1)) + 1)) (w64 ((w64 ((w64 ((w64 (v4 + 1)) + 1)) + 1)) + 1)) x7.Stack)) hx7)), rfl, (by decide), rfl, (setE (rdM o70 (rdS (y := (GThread.mk v4 (w64 (v4 + 1)) (w64 ((w64 (v4 + 1)) + 1)) (w64 ((w64 ((w64 (v4 + 1)) + 1)) + 1)) (w64 ((w64 ((w64 ((w64 (v4 + 1)) + 1)) + 1)) + 1)) x7.Stack)) hx7))), (laws_markFloat64S_m hr8), ⟨rfl, trivial⟩, ⟨⟨treeM t83, noRoM n83⟩, trivial⟩, ⟨(sameLenE o83 hq9), trivial⟩, rfl, rfl, (setE (rdM o70 (rdS (y := (GThread.mk v4 (w64 (v4 + 1)) (w64 ((w64 (v4 + 1)) + 1)) (w64 ((w64 ((w64 (v4 + 1)) + 1)) + 1)) (w64 ((w64 ((w64 ((w64 (v4 + 1)) + 1)) + 1)) + 1)) x7.Stack)) hx7))), (pkS (sameLenE o83 hq9).symm), (treeM t83), (setPe o70 (y := (GThread.mk v4 (w64 (v4 + 1)) (w64 ((w64 (v4 + 1)) + 1)) (w64 ((w64 ((w64 (v4 + 1)) + 1)) + 1)) (w64 ((w64 ((w64 ((w64 (v4 + 1)) + 1)) + 1)) + 1)) r8.2)) rfl), (by first | exact lnSet _ | exact lnSet2 _ | simp only [List.length_map, List.length_set, List.length_cons, List.length_nil]), (rok (treeM t70)), trivial⟩ (ih ((a3.set (Int.toNat v5) (GThread.mk v4 (w64 (v4 + 1)) (w64 ((w64 (v4 + 1)) + 1)) (w64 ((w64 ((w64 (v4 + 1)) + 1)) + 1)) (w64 ((w64 ((w64 ((w64 (v4 + 1)) + 1)) + 1)) + 1)) x7.Stack)).set (Int.toNat v5) (GThread.mk v4 (w64 (v4 + 1)) (w64 ((w64 (v4 + 1)) + 1)) (w64 ((w64 ((w64 (v4 + 1)) + 1)) + 1)) (w64 ((w64 ((w64 ((w64 (v4 + 1)) + 1)) + 1)) + 1)) r8.2)) r8.1 (w64 (v5 + 1)) _ h)
    · have h := Option.some.inj h
      subst h
      exact go_ret hΘ hm hP hn (hs := [⟨2, .no, some (I (a3.length : Int))⟩, ⟨4, .br false, none⟩]) (rh := []) (ph := .raw) (ps := [AV.lit (.int .i64 (((List.length (a3.map o70)) : Nat) : Int)) = (I (a3.length : Int)), (decide (v5 < (a3.length : Int))) = false, (a3.map o70) = (a3.map o70), treeLL (a3.map o70) = true, noRoLL (a3.map o70) = true, (I v4) = (I v4), litA (I v4) = true]) (by kernel_rfl) ⟨(lenM o70), c10, rfl, (treeM t70), (noRoM n70), rfl, rfl, trivial⟩
noncomputable def laws_markThreadS (p1 : (List GThread)) (p2 : Int) : Option (Int × (List GThread)) :=
  laws_markThreadS_l0 FU p1 p2 0
theorem laws_markThreadS_m {p1 : (List GThread)} {p2 : Int} {r : (Int × (List GThread))} (h : laws_markThreadS p1 p2 = some r) : MeetsR Try.prog 56 [⟨70, 6, (p1.map o70)⟩] [(AV.sl 0 0 (List.length (p1.map o70))), (I p2)] [true] [⟨70, 6, (r.2.map o70)⟩] (I r.1) := by
  refine meetsR_of Θ_ok Try.func56 rfl (c := body56) (by kernel_rfl) (Nat.le_of_ble_eq_true rfl) rfl (Nat.le_of_ble_eq_true rfl) rfl (fr := [0]) (frI rfl) ?_
  intro E hP hn hx
  replace hn : E.n = 55 := hn
  have hm : E.P.follows .mixedOrders = true := by rw [hP]; exact mixed
  have hΘ : TOK E.P Θ := by rw [hP]; exact Θ_ok
  unfold laws_markThreadS at h
  show WAt E body56 (FQ (RetE Θ Try.f56.results.toList [true] [⟨70, 6, (r.2.map o70)⟩] (I r.1) E)) [] ⟨[(0, (AV.sl 0 0 (List.length (p1.map o70)))), (1, (I p2))], [(0, some ⟨70, 6, (p1.map o70)⟩)], [0, JJ]⟩
  exact go_to hΘ hm hx hP hn (hs := []) (π := [(0, 0)]) (ts := [0, 1, 5]) (kp := []) (ps := [RenOK [(0, 0)] (p1.map o70)]) (by kernel_rfl) ⟨(rok (treeM t70)), trivial⟩ (laws_markThreadS_l0_m hP hn hx FU p1 p2 0 _ h)
noncomputable def body19 : Code := match Try.f19.body with | some c => c | none => .skip
noncomputable def laws_markState (p1 : (List GThread)) (p2 : (List Nat)) (p3 : (List Int)) (p4 : Int) (p5 : Int) : Option (Int × (List GThread) × (List Nat) × (List Int)) :=
  Option.bind (laws_markThreadS p1 p5) fun r6 =>
  Option.bind (sameLen p1 r6.2) fun q7 =>
  Option.bind (laws_markFloat64S p2 r6.1) fun r8 =>
  Option.bind (sameLen p2 r8.2) fun q9 =>
  Option.bind (laws_markIntS p3 r8.1) fun r10 =>
  Option.bind (sameLen p3 r10.2) fun q11 =>
  some (r10.1, r6.2, r8.2, r10.2)
theorem laws_markState_m {p1 : (List GThread)} {p2 : (List Nat)} {p3 : (List Int)} {p4 : Int} {p5 : Int} {r : (Int × (List GThread) × (List Nat) × (List Int))} (h : laws_markState p1 p2 p3 p4 p5 = some r) : MeetsR Try.prog 19 [⟨70, 6, (p1.map o70)⟩, ⟨83, 1, (p2.map o83)⟩, ⟨3, 1, (p3.map o3)⟩] [(AV.agg [(AV.sl 0 0 (List.length (p1.map o70))), (AV.sl 1 0 (List.length (p2.map o83))), (AV.sl 2 0 (List.length (p3.map o3))), (I p4)]), (I p5)] [true, true, true] [⟨70, 6, (r.2.1.map o70)⟩, ⟨83, 1, (r.2.2.1.map o83)⟩, ⟨3, 1, (r.2.2.2.map o3)⟩] (I r.1) := by
  refine meetsR_of Θ_ok Try.func19 rfl (c := body19) (by kernel_rfl) (Nat.le_of_ble_eq_true rfl) rfl (Nat.le_of_ble_eq_true rfl) rfl (fr := [0, 1, 2]) (frI rfl) ?_
  intro E hP hn hx
  replace hn : E.n = 18 := hn
  have hm : E.P.follows .mixedOrders = true := by rw [hP]; exact mixed
  have hΘ : TOK E.P Θ := by rw [hP]; exact Θ_ok
  unfold laws_markState at h
  show WAt E body19 (FQ (RetE Θ Try.f19.results.toList [true, true, true] [⟨70, 6, (r.2.1.map o70)⟩, ⟨83, 1, (r.2.2.1.map o83)⟩, ⟨3, 1, (r.2.2.2.map o3)⟩] (I r.1) E)) [] ⟨[(0, (AV.agg [(AV.sl 0 0 (List.length (p1.map o70))), (AV.sl 1 0 (List.length (p2.map o83))), (AV.sl 2 0 (List.length (p3.map o3))), (I p4)])), (1, (I p5))], [(0, some ⟨70, 6, (p1.map o70)⟩), (1, some ⟨83, 1, (p2.map o83)⟩), (2, some ⟨3, 1, (p3.map o3)⟩)], [0, 1, 2, JJ]⟩
  obtain ⟨r6, hr6, h⟩ := bnS h
  obtain ⟨q7, hq7, h⟩ := bnS h
  obtain ⟨r8, hr8, h⟩ := bnS h
  obtain ⟨q9, hq9, h⟩ := bnS h
  obtain ⟨r10, hr10, h⟩ := bnS h
  obtain ⟨q11, hq11, h⟩ := bnS h
  have h := Option.some.inj h
  subst h
  exact go_ret hΘ hm hP hn (hs := [⟨0, .new 1001, none⟩, ⟨5, .callX [0] [true] [⟨70, 6, (p1.map o70)⟩] [⟨70, 6, (r6.2.map o70)⟩] [] (I r6.1) [] (I r6.1) [], none⟩, ⟨10, .callX [1] [true] [⟨83, 1, (p2.map o83)⟩] [⟨83, 1, (r8.2.map o83)⟩] [] (I r8.1) [] (I r8.1) [], none⟩, ⟨15, .callX [2] [true] [⟨3, 1, (p3.map o3)⟩] [⟨3, 1, (r10.2.map o3)⟩] [] (I r10.1) [] (I r10.1) [], none⟩]) (rh := []) (ph := .raw) (ps := [MeetsR Try.prog 56 [⟨70, 6, (p1.map o70)⟩] [(AV.sl 0 0 (List.length (p1.map o70))), (I p5)] [true] [⟨70, 6, (r6.2.map o70)⟩] (I r6.1), (some (Root.mk 70 6 (p1.map o70)) = some (Root.mk 70 6 (p1.map o70))) ∧ True, (treeLL (p1.map o70) = true ∧ noRoLL (p1.map o70) = true) ∧ True, ((r6.2.map o70).length = (p1.map o70).length) ∧ True, (rtf (renA [(0, 0)] (I r6.1)) []).1 = (I r6.1), (rtf (renA [(0, 0)] (I r6.1)) []).2.1 = [], MeetsR Try.prog 57 [⟨83, 1, (p2.map o83)⟩] [(AV.sl 0 0 (List.length (p2.map o83))), (I r6.1)] [true] [⟨83, 1, (r8.2.map o83)⟩] (I r8.1), (some (Root.mk 83 1 (p2.map o83)) = some (Root.mk 83 1 (p2.map o83))) ∧ True, (treeLL (p2.map o83) = true ∧ noRoLL (p2.map o83) = true) ∧ True, ((r8.2.map o83).length = (p2.map o83).length) ∧ True, (rtf (renA [(0, 1)] (I r8.1)) []).1 = (I r8.1), (rtf (renA [(0, 1)] (I r8.1)) []).2.1 = [], MeetsR Try.prog 24 [⟨3, 1, (p3.map o3)⟩] [(AV.sl 0 0 (List.length (p3.map o3))), (I r8.1)] [true] [⟨3, 1, (r10.2.map o3)⟩] (I r10.1), (some (Root.mk 3 1 (p3.map o3)) = some (Root.mk 3 1 (p3.map o3))) ∧ True, (treeLL (p3.map o3) = true ∧ noRoLL (p3.map o3) = true) ∧ True, ((r10.2.map o3).length = (p3.map o3).length) ∧ True, (rtf (renA [(0, 2)] (I r10.1)) []).1 = (I r10.1), (rtf (renA [(0, 2)] (I r10.1)) []).2.1 = [], (r6.2.map o70) = (r6.2.map o70), treeLL (r6.2.map o70) = true, noRoLL (r6.2.map o70) = true, (r8.2.map o83) = (r8.2.map o83), treeLL (r8.2.map o83) = true, noRoLL (r8.2.map o83) = true, (r10.2.map o3) = (r10.2.map o3), treeLL (r10.2.map o3) = true, noRoLL (r10.2.map o3) = true, (I r10.1) = (I r10.1), litA (I r10.1) = true]) (by kernel_rfl) ⟨(laws_markThreadS_m hr6), ⟨rfl, trivial⟩, ⟨⟨treeM t70, noRoM n70⟩, trivial⟩, ⟨(sameLenE o70 hq7), trivial⟩, rfl, rfl, (laws_markFloat64S_m hr8), ⟨rfl, trivial⟩, ⟨⟨treeM t83, noRoM n83⟩, trivial⟩, ⟨(sameLenE o83 hq9), trivial⟩, rfl, rfl, (laws_markIntS_m hr10), ⟨rfl, trivial⟩, ⟨⟨treeM t3, noRoM n3⟩, trivial⟩, ⟨(sameLenE o3 hq11), trivial⟩, rfl, rfl, rfl, (treeM t70), (noRoM n70), rfl, (treeM t83), (noRoM n83), rfl, (treeM t3), (noRoM n3), rfl, rfl, trivial⟩
noncomputable def body66 : Code := match Try.f66.body with | some c => c | none => .skip
noncomputable def laws_szOpS (p1 : (List GOp)) (p2 : Int) : Option Int :=
  if (decide ((w64 (p2 - (p1.length : Int))) < 0)) = true then
    some (-1)
  else
    some (w64 (p2 - (p1.length : Int)))
theorem laws_szOpS_m {p1 : (List GOp)} {p2 : Int} {r : Int} (h : laws_szOpS p1 p2 = some r) : Meets Try.prog 66 [(AV.ro 4 (p1.map o116)), (I p2)] (I r) := by
  refine meets_ofC Θ_ok Try.func66 rfl (c := body66) (by kernel_rfl) (Nat.le_of_ble_eq_true rfl) ?_
  intro E hP hn hx
  replace hn : E.n = 12 := hn
  have hm : E.P.follows .mixedOrders = true := by rw [hP]; exact mixed
  have hΘ : TOK E.P Θ := by rw [hP]; exact Θ_ok
  unfold laws_szOpS at h
  show WAt E body66 (FQ (RetE Θ Try.f66.results.toList [] [] (I r) E)) [] ⟨[(0, (AV.ro 4 (p1.map o116))), (1, (I p2))], [], [JJ]⟩
  rcases itS h with ⟨c3, h⟩ | ⟨c4, h⟩
  · have h := Option.some.inj h
    subst h
    exact go_ret hΘ hm hP hn (hs := [⟨3, .no, some (I (p1.length : Int))⟩, ⟨8, .br true, none⟩]) (rh := []) (ph := .raw) (ps := [AV.lit (.int .i64 (((p1.map o116).length : Nat) : Int)) = (I (p1.length : Int)), (decide ((w64 (p2 - (p1.length : Int))) < 0)) = true, (I (-1)) = (I (-1)), litA (I (-1)) = true]) (by kernel_rfl) ⟨(lenM o116), c3, rfl, rfl, trivial⟩
  · have h := Option.some.inj h
    subst h
    exact go_ret hΘ hm hP hn (hs := [⟨3, .no, some (I (p1.length : Int))⟩, ⟨8, .br false, none⟩]) (rh := []) (ph := .raw) (ps := [AV.lit (.int .i64 (((p1.map o116).length : Nat) : Int)) = (I (p1.length : Int)), (decide ((w64 (p2 - (p1.length : Int))) < 0)) = false, (I (w64 (p2 - (p1.length : Int)))) = (I (w64 (p2 - (p1.length : Int)))), litA (I (w64 (p2 - (p1.length : Int)))) = true]) (by kernel_rfl) ⟨(lenM o116), c4, rfl, rfl, trivial⟩
noncomputable def body33 : Code := match Try.f33.body with | some c => c | none => .skip
noncomputable def laws_szOpSS_l0  (p1 : (List (List GOp))) : Nat → Int → Int → Option Int
  | 0, _, _ => none
  | n + 1, v5, v6 =>
  if (decide (v6 < (p1.length : Int))) = true then
    Option.bind (rd p1 v6) fun x8 =>
    Option.bind (laws_szOpS x8 v5) fun r9 =>
    if (decide (r9 < 0)) = true then
      some (-1)
    else
      laws_szOpSS_l0 p1 n r9 (w64 (v6 + 1))
  else
    some v5
theorem laws_szOpSS_l0_m {E : Env} (hP : E.P = Try.prog) (hn : E.n = 27) (hx : ∀ p, p ∈ E.fx → p.1 ∈ ([] : List Nat)) (p1 : (List (List GOp)))  : ∀ (n : Nat) (v5 : Int) (v6 : Int) (r : Int), laws_szOpSS_l0 p1 n v5 v6 = some r → WAt E body33 (FQ (RetE Θ Try.f33.results.toList [] [] (I r) E)) [true, true, true, false, true, false] ⟨[(0, (AV.ro 1 (p1.map r90))), (1, (I v5)), (5, (I v6))], [], [JJ]⟩ := by
  have hm : E.P.follows .mixedOrders = true := by rw [hP]; exact mixed
  have hΘ : TOK E.P Θ := by rw [hP]; exact Θ_ok
  intro n
  induction n with
  | zero => intro v5 v6 r h; simp only [laws_szOpSS_l0] at h; cases h
  | succ n ih =>
    intro v5 v6 r h
    simp only [laws_szOpSS_l0] at h
    rcases itS h with ⟨c7, h⟩ | ⟨c12, h⟩
    · obtain ⟨x8, hx8, h⟩ := bnS h
      obtain ⟨r9, hr9, h⟩ := bnS h
      rcases itS h with ⟨c10, h⟩ | ⟨c11, h⟩
      · have h := Option.some.inj h
        subst h
        exact go_ret hΘ hm hP hn (hs := [⟨2, .no, some (I (p1.length : Int))⟩, ⟨4, .br true, none⟩, ⟨7, .row (r90 x8), none⟩, ⟨10, .callV [] (I r9), none⟩, ⟨14, .br true, none⟩]) (rh := []) (ph := .raw) (ps := [AV.lit (.int .i64 (((p1.map r90).length : Nat) : Int)) = (I (p1.length : Int)), (decide (v6 < (p1.length : Int))) = true, (0 : Int) ≤ v6, (p1.map r90)[(Int.toNat v6)]? = some (r90 x8), Meets Try.prog 66 [(AV.ro 4 (x8.map o116)), (I v5)] (I r9), litA (I r9) = true, (decide (r9 < 0)) = true, (I (-1)) = (I (-1)), litA (I (-1)) = true]) (by kernel_rfl) ⟨(lenM r90), c7, (rd0 hx8), (rdM r90 hx8), (laws_szOpS_m hr9), rfl, c10, rfl, rfl, trivial⟩
      · exact go_to hΘ hm hx hP hn (hs := [⟨2, .no, some (I (p1.length : Int))⟩, ⟨4, .br true, none⟩, ⟨7, .row (r90 x8), none⟩, ⟨10, .callV [] (I r9), none⟩, ⟨14, .br false, none⟩]) (π := []) (ts := [0, 1, 5]) (kp := []) (ps := [AV.lit (.int .i64 (((p1.map r90).length : Nat) : Int)) = (I (p1.length : Int)), (decide (v6 < (p1.length : Int))) = true, (0 : Int) ≤ v6, (p1.map r90)[(Int.toNat v6)]? = some (r90 x8), Meets Try.prog 66 [(AV.ro 4 (x8.map o116)), (I v5)] (I r9), litA (I r9) = true, (decide (r9 < 0)) = false]) (by kernel_rfl) ⟨(lenM r90), c7, (rd0 hx8), (rdM r90 hx8), (laws_szOpS_m hr9), rfl, c11, trivial⟩ (ih r9 (w64 (v6 + 1)) _ h)
    · have h := Option.some.inj h
      subst h
      exact go_ret hΘ hm hP hn (hs := [⟨2, .no, some (I (p1.length : Int))⟩, ⟨4, .br false, none⟩]) (rh := []) (ph := .raw) (ps := [AV.lit (.int .i64 (((p1.map r90).length : Nat) : Int)) = (I (p1.length : Int)), (decide (v6 < (p1.length : Int))) = false, (I v5) = (I v5), litA (I v5) = true]) (by kernel_rfl) ⟨(lenM r90), c12, rfl, rfl, trivial⟩
noncomputable def laws_szOpSS (p1 : (List (List GOp))) (p2 : Int) : Option Int :=
  if (decide ((w64 (p2 - (p1.length : Int))) < 0)) = true then
    some (-1)
  else
    laws_szOpSS_l0 p1 FU (w64 (p2 - (p1.length : Int))) 0
theorem laws_szOpSS_m {p1 : (List (List GOp))} {p2 : Int} {r : Int} (h : laws_szOpSS p1 p2 = some r) : Meets Try.prog 33 [(AV.ro 1 (p1.map r90)), (I p2)] (I r) := by
  refine meets_ofC Θ_ok Try.func33 rfl (c := body33) (by kernel_rfl) (Nat.le_of_ble_eq_true rfl) ?_
  intro E hP hn hx
  replace hn : E.n = 27 := hn
  have hm : E.P.follows .mixedOrders = true := by rw [hP]; exact mixed
  have hΘ : TOK E.P Θ := by rw [hP]; exact Θ_ok
  unfold laws_szOpSS at h
  show WAt E body33 (FQ (RetE Θ Try.f33.results.toList [] [] (I r) E)) [] ⟨[(0, (AV.ro 1 (p1.map r90))), (1, (I p2))], [], [JJ]⟩
  rcases itS h with ⟨c3, h⟩ | ⟨c4, h⟩
  · have h := Option.some.inj h
    subst h
    exact go_ret hΘ hm hP hn (hs := [⟨3, .no, some (I (p1.length : Int))⟩, ⟨8, .br true, none⟩]) (rh := []) (ph := .raw) (ps := [AV.lit (.int .i64 (((p1.map r90).length : Nat) : Int)) = (I (p1.length : Int)), (decide ((w64 (p2 - (p1.length : Int))) < 0)) = true, (I (-1)) = (I (-1)), litA (I (-1)) = true]) (by kernel_rfl) ⟨(lenM r90), c3, rfl, rfl, trivial⟩
  · exact go_to hΘ hm hx hP hn (hs := [⟨3, .no, some (I (p1.length : Int))⟩, ⟨8, .br false, none⟩]) (π := []) (ts := [0, 1, 5]) (kp := []) (ps := [AV.lit (.int .i64 (((p1.map r90).length : Nat) : Int)) = (I (p1.length : Int)), (decide ((w64 (p2 - (p1.length : Int))) < 0)) = false]) (by kernel_rfl) ⟨(lenM r90), c4, trivial⟩ (laws_szOpSS_l0_m hP hn hx p1 FU (w64 (p2 - (p1.length : Int))) 0 _ h)
noncomputable def body8 : Code := match Try.f8.body with | some c => c | none => .skip
noncomputable def laws_szProg (p1 : GProg) (p2 : Int) : Option Int :=
  Option.bind (laws_szOpSS p1.Routines p2) fun r3 =>
  if (decide (r3 < 0)) = true then
    some (-1)
  else
    some r3
theorem laws_szProg_m {p1 : GProg} {p2 : Int} {r : Int} (h : laws_szProg p1 p2 = some r) : Meets Try.prog 8 [(AV.agg ((r24 p1))), (I p2)] (I r) := by
  refine meets_ofC Θ_ok Try.func8 rfl (c := body8) (by kernel_rfl) (Nat.le_of_ble_eq_true rfl) ?_
  intro E hP hn hx
  replace hn : E.n = 12 := hn
  have hm : E.P.follows .mixedOrders = true := by rw [hP]; exact mixed
  have hΘ : TOK E.P Θ := by rw [hP]; exact Θ_ok
  unfold laws_szProg at h
  show WAt E body8 (FQ (RetE Θ Try.f8.results.toList [] [] (I r) E)) [] ⟨[(0, (AV.agg ((r24 p1)))), (1, (I p2))], [], [JJ]⟩
  obtain ⟨r3, hr3, h⟩ := bnS h
  rcases itS h with ⟨c4, h⟩ | ⟨c5, h⟩
  · have h := Option.some.inj h
    subst h
    exact go_ret hΘ hm hP hn (hs := [⟨0, .new 1001, none⟩, ⟨5, .callV [] (I r3), none⟩, ⟨9, .br true, none⟩]) (rh := []) (ph := .raw) (ps := [Meets Try.prog 33 [(AV.ro 1 (p1.Routines.map r90)), (I p2)] (I r3), litA (I r3) = true, (decide (r3 < 0)) = true, (I (-1)) = (I (-1)), litA (I (-1)) = true]) (by kernel_rfl) ⟨(laws_szOpSS_m hr3), rfl, c4, rfl, rfl, trivial⟩
  · have h := Option.some.inj h
    subst h
    exact go_ret hΘ hm hP hn (hs := [⟨0, .new 1001, none⟩, ⟨5, .callV [] (I r3), none⟩, ⟨9, .br false, none⟩]) (rh := []) (ph := .raw) (ps := [Meets Try.prog 33 [(AV.ro 1 (p1.Routines.map r90)), (I p2)] (I r3), litA (I r3) = true, (decide (r3 < 0)) = false, (I r3) = (I r3), litA (I r3) = true]) (by kernel_rfl) ⟨(laws_szOpSS_m hr3), rfl, c5, rfl, rfl, trivial⟩
noncomputable def body35 : Code := match Try.f35.body with | some c => c | none => .skip
noncomputable def laws_szFloat64S (p1 : (List Nat)) (p2 : Int) : Option Int :=
  if (decide ((w64 (p2 - (p1.length : Int))) < 0)) = true then
    some (-1)
  else
    some (w64 (p2 - (p1.length : Int)))
theorem laws_szFloat64S_m {p1 : (List Nat)} {p2 : Int} {r : Int} (h : laws_szFloat64S p1 p2 = some r) : Meets Try.prog 35 [(AV.ro 1 (p1.map o83)), (I p2)] (I r) := by
  refine meets_ofC Θ_ok Try.func35 rfl (c := body35) (by kernel_rfl) (Nat.le_of_ble_eq_true rfl) ?_
  intro E hP hn hx
  replace hn : E.n = 12 := hn
  have hm : E.P.follows .mixedOrders = true := by rw [hP]; exact mixed
  have hΘ : TOK E.P Θ := by rw [hP]; exact Θ_ok
  unfold laws_szFloat64S at h
  show WAt E body35 (FQ (RetE Θ Try.f35.results.toList [] [] (I r) E)) [] ⟨[(0, (AV.ro 1 (p1.map o83))), (1, (I p2))], [], [JJ]⟩
  rcases itS h with ⟨c3, h⟩ | ⟨c4, h⟩
  · have h := Option.some.inj h
    subst h
    exact go_ret hΘ hm hP hn (hs := [⟨3, .no, some (I (p1.length : Int))⟩, ⟨8, .br true, none⟩]) (rh := []) (ph := .raw) (ps := [AV.lit (.int .i64 (((p1.map o83).length : Nat) : Int)) = (I (p1.length : Int)), (decide ((w64 (p2 - (p1.length : Int))) < 0)) = true, (I (-1)) = (I (-1)), litA (I (-1)) = true]) (by kernel_rfl) ⟨(lenM o83), c3, rfl, rfl, trivial⟩
  · have h := Option.some.inj h
    subst h
    exact go_ret hΘ hm hP hn (hs := [⟨3, .no, some (I (p1.length : Int))⟩, ⟨8, .br false, none⟩]) (rh := []) (ph := .raw) (ps := [AV.lit (.int .i64 (((p1.map o83).length : Nat) : Int)) = (I (p1.length : Int)), (decide ((w64 (p2 - (p1.length : Int))) < 0)) = false, (I (w64 (p2 - (p1.length : Int)))) = (I (w64 (p2 - (p1.length : Int)))), litA (I (w64 (p2 - (p1.length : Int)))) = true]) (by kernel_rfl) ⟨(lenM o83), c4, rfl, rfl, trivial⟩
noncomputable def body36 : Code := match Try.f36.body with | some c => c | none => .skip
noncomputable def laws_szIntS (p1 : (List Int)) (p2 : Int) : Option Int :=
  if (decide ((w64 (p2 - (p1.length : Int))) < 0)) = true then
    some (-1)
  else
    some (w64 (p2 - (p1.length : Int)))
theorem laws_szIntS_m {p1 : (List Int)} {p2 : Int} {r : Int} (h : laws_szIntS p1 p2 = some r) : Meets Try.prog 36 [(AV.ro 1 (p1.map o3)), (I p2)] (I r) := by
  refine meets_ofC Θ_ok Try.func36 rfl (c := body36) (by kernel_rfl) (Nat.le_of_ble_eq_true rfl) ?_
  intro E hP hn hx
  replace hn : E.n = 12 := hn
  have hm : E.P.follows .mixedOrders = true := by rw [hP]; exact mixed
  have hΘ : TOK E.P Θ := by rw [hP]; exact Θ_ok
  unfold laws_szIntS at h
  show WAt E body36 (FQ (RetE Θ Try.f36.results.toList [] [] (I r) E)) [] ⟨[(0, (AV.ro 1 (p1.map o3))), (1, (I p2))], [], [JJ]⟩
  rcases itS h with ⟨c3, h⟩ | ⟨c4, h⟩
  · have h := Option.some.inj h
    subst h
    exact go_ret hΘ hm hP hn (hs := [⟨3, .no, some (I (p1.length : Int))⟩, ⟨8, .br true, none⟩]) (rh := []) (ph := .raw) (ps := [AV.lit (.int .i64 (((p1.map o3).length : Nat) : Int)) = (I (p1.length : Int)), (decide ((w64 (p2 - (p1.length : Int))) < 0)) = true, (I (-1)) = (I (-1)), litA (I (-1)) = true]) (by kernel_rfl) ⟨(lenM o3), c3, rfl, rfl, trivial⟩
  · have h := Option.some.inj h
    subst h
    exact go_ret hΘ hm hP hn (hs := [⟨3, .no, some (I (p1.length : Int))⟩, ⟨8, .br false, none⟩]) (rh := []) (ph := .raw) (ps := [AV.lit (.int .i64 (((p1.map o3).length : Nat) : Int)) = (I (p1.length : Int)), (decide ((w64 (p2 - (p1.length : Int))) < 0)) = false, (I (w64 (p2 - (p1.length : Int)))) = (I (w64 (p2 - (p1.length : Int)))), litA (I (w64 (p2 - (p1.length : Int)))) = true]) (by kernel_rfl) ⟨(lenM o3), c4, rfl, rfl, trivial⟩
noncomputable def body67 : Code := match Try.f67.body with | some c => c | none => .skip
noncomputable def laws_szThread (p1 : GThread) (p2 : Int) : Option Int :=
  Option.bind (laws_szFloat64S p1.Stack p2) fun r3 =>
  if (decide (r3 < 0)) = true then
    some (-1)
  else
    some r3
theorem laws_szThread_m {p1 : GThread} {p2 : Int} {r : Int} (h : laws_szThread p1 p2 = some r) : Meets Try.prog 67 [(AV.agg ((r92 p1))), (I p2)] (I r) := by
  refine meets_ofC Θ_ok Try.func67 rfl (c := body67) (by kernel_rfl) (Nat.le_of_ble_eq_true rfl) ?_
  intro E hP hn hx
  replace hn : E.n = 12 := hn
  have hm : E.P.follows .mixedOrders = true := by rw [hP]; exact mixed
  have hΘ : TOK E.P Θ := by rw [hP]; exact Θ_ok
  unfold laws_szThread at h
  show WAt E body67 (FQ (RetE Θ Try.f67.results.toList [] [] (I r) E)) [] ⟨[(0, (AV.agg ((r92 p1)))), (1, (I p2))], [], [JJ]⟩
  obtain ⟨r3, hr3, h⟩ := bnS h
  rcases itS h with ⟨c4, h⟩ | ⟨c5, h⟩
  · have h := Option.some.inj h
    subst h
    exact go_ret hΘ hm hP hn (hs := [⟨0, .new 1001, none⟩, ⟨5, .callV [] (I r3), none⟩, ⟨9, .br true, none⟩]) (rh := []) (ph := .raw) (ps := [Meets Try.prog 35 [(AV.ro 1 (p1.Stack.map o83)), (I p2)] (I r3), litA (I r3) = true, (decide (r3 < 0)) = true, (I (-1)) = (I (-1)), litA (I (-1)) = true]) (by kernel_rfl) ⟨(laws_szFloat64S_m hr3), rfl, c4, rfl, rfl, trivial⟩
  · have h := Option.some.inj h
    subst h
    exact go_ret hΘ hm hP hn (hs := [⟨0, .new 1001, none⟩, ⟨5, .callV [] (I r3), none⟩, ⟨9, .br false, none⟩]) (rh := []) (ph := .raw) (ps := [Meets Try.prog 35 [(AV.ro 1 (p1.Stack.map o83)), (I p2)] (I r3), litA (I r3) = true, (decide (r3 < 0)) = false, (I r3) = (I r3), litA (I r3) = true]) (by kernel_rfl) ⟨(laws_szFloat64S_m hr3), rfl, c5, rfl, rfl, trivial⟩
noncomputable def body34 : Code := match Try.f34.body with | some c => c | none => .skip
noncomputable def laws_szThreadS_l0  (p1 : (List GThread)) : Nat → Int → Int → Option Int
  | 0, _, _ => none
  | n + 1, v5, v6 =>
  if (decide (v6 < (p1.length : Int))) = true then
    Option.bind (rd p1 v6) fun x8 =>
    Option.bind (laws_szThread x8 v5) fun r9 =>
    if (decide (r9 < 0)) = true then
      some (-1)
    else
      laws_szThreadS_l0 p1 n r9 (w64 (v6 + 1))
  else
    some v5
theorem laws_szThreadS_l0_m {E : Env} (hP : E.P = Try.prog) (hn : E.n = 27) (hx : ∀ p, p ∈ E.fx → p.1 ∈ ([] : List Nat)) (p1 : (List GThread))  : ∀ (n : Nat) (v5 : Int) (v6 : Int) (r : Int), laws_szThreadS_l0 p1 n v5 v6 = some r → WAt E body34 (FQ (RetE Θ Try.f34.results.toList [] [] (I r) E)) [true, true, true, false, true, false] ⟨[(0, (AV.ro 6 (p1.map r92))), (1, (I v5)), (5, (I v6))], [], [JJ]⟩ := by
  have hm : E.P.follows .mixedOrders = true := by rw [hP]; exact mixed
  have hΘ : TOK E.P Θ := by rw [hP]; exact Θ_ok
  intro n
  induction n with
  | zero => intro v5 v6 r h; simp only [laws_szThreadS_l0] at h; cases h
  | succ n ih =>
    intro v5 v6 r h
    simp only [laws_szThreadS_l0] at h
    rcases itS h with ⟨c7, h⟩ | ⟨c12, h⟩
    · obtain ⟨x8, hx8, h⟩ := bnS h
      obtain ⟨r9, hr9, h⟩ := bnS h
      rcases itS h with ⟨c10, h⟩ | ⟨c11, h⟩
      · have h := Option.some.inj h
        subst h
        exact go_ret hΘ hm hP hn (hs := [⟨2, .no, some (I (p1.length : Int))⟩, ⟨4, .br true, none⟩, ⟨7, .row (r92 x8), none⟩, ⟨10, .callV [[]] (I r9), none⟩, ⟨14, .br true, none⟩]) (rh := []) (ph := .raw) (ps := [AV.lit (.int .i64 (((p1.map r92).length : Nat) : Int)) = (I (p1.length : Int)), (decide (v6 < (p1.length : Int))) = true, (0 : Int) ≤ v6, (p1.map r92)[(Int.toNat v6)]? = some (r92 x8), Meets Try.prog 67 [(AV.agg ((r92 x8))), (I v5)] (I r9), litA (I r9) = true, (decide (r9 < 0)) = true, (I (-1)) = (I (-1)), litA (I (-1)) = true]) (by kernel_rfl) ⟨(lenM r92), c7, (rd0 hx8), (rdM r92 hx8), (laws_szThread_m hr9), rfl, c10, rfl, rfl, trivial⟩
      · exact go_to hΘ hm hx hP hn (hs := [⟨2, .no, some (I (p1.length : Int))⟩, ⟨4, .br true, none⟩, ⟨7, .row (r92 x8), none⟩, ⟨10, .callV [[]] (I r9), none⟩, ⟨14, .br false, none⟩]) (π := []) (ts := [0, 1, 5]) (kp := []) (ps := [AV.lit (.int .i64 (((p1.map r92).length : Nat) : Int)) = (I (p1.length : Int)), (decide (v6 < (p1.length : Int))) = true, (0 : Int) ≤ v6, (p1.map r92)[(Int.toNat v6)]? = some (r92 x8), Meets Try.prog 67 [(AV.agg ((r92 x8))), (I v5)] (I r9), litA (I r9) = true, (decide (r9 < 0)) = false]) (by kernel_rfl) ⟨(lenM r92), c7, (rd0 hx8), (rdM r92 hx8), (laws_szThread_m hr9), rfl, c11, trivial⟩ (ih r9 (w64 (v6 + 1)) _ h)
    · have h := Option.some.inj h
      subst h
      exact go_ret hΘ hm hP hn (hs := [⟨2, .no, some (I (p1.length : Int))⟩, ⟨4, .br false, none⟩]) (rh := []) (ph := .raw) (ps := [AV.lit (.int .i64 (((p1.map r92).length : Nat) : Int)) = (I (p1.length : Int)), (decide (v6 < (p1.length : Int))) = false, (I v5) = (I v5), litA (I v5) = true]) (by kernel_rfl) ⟨(lenM r92), c12, rfl, rfl, trivial⟩
noncomputable def laws_szThreadS (p1 : (List GThread)) (p2 : Int) : Option Int :=
  if (decide ((w64 (p2 - (p1.length : Int))) < 0)) = true then
    some (-1)
  else
    laws_szThreadS_l0 p1 FU (w64 (p2 - (p1.length : Int))) 0
theorem laws_szThreadS_m {p1 : (List GThread)} {p2 : Int} {r : Int} (h : laws_szThreadS p1 p2 = some r) : Meets Try.prog 34 [(AV.ro 6 (p1.map r92)), (I p2)] (I r) := by
  refine meets_ofC Θ_ok Try.func34 rfl (c := body34) (by kernel_rfl) (Nat.le_of_ble_eq_true rfl) ?_
  intro E hP hn hx
  replace hn : E.n = 27 := hn
  have hm : E.P.follows .mixedOrders = true := by rw [hP]; exact mixed
  have hΘ : TOK E.P Θ := by rw [hP]; exact Θ_ok
  unfold laws_szThreadS at h
  show WAt E body34 (FQ (RetE Θ Try.f34.results.toList [] [] (I r) E)) [] ⟨[(0, (AV.ro 6 (p1.map r92))), (1, (I p2))], [], [JJ]⟩
  rcases itS h with ⟨c3, h⟩ | ⟨c4, h⟩
  · have h := Option.some.inj h
    subst h
    exact go_ret hΘ hm hP hn (hs := [⟨3, .no, some (I (p1.length : Int))⟩, ⟨8, .br true, none⟩]) (rh := []) (ph := .raw) (ps := [AV.lit (.int .i64 (((p1.map r92).length : Nat) : Int)) = (I (p1.length : Int)), (decide ((w64 (p2 - (p1.length : Int))) < 0)) = true, (I (-1)) = (I (-1)), litA (I (-1)) = true]) (by kernel_rfl) ⟨(lenM r92), c3, rfl, rfl, trivial⟩
  · exact go_to hΘ hm hx hP hn (hs := [⟨3, .no, some (I (p1.length : Int))⟩, ⟨8, .br false, none⟩]) (π := []) (ts := [0, 1, 5]) (kp := []) (ps := [AV.lit (.int .i64 (((p1.map r92).length : Nat) : Int)) = (I (p1.length : Int)), (decide ((w64 (p2 - (p1.length : Int))) < 0)) = false]) (by kernel_rfl) ⟨(lenM r92), c4, trivial⟩ (laws_szThreadS_l0_m hP hn hx p1 FU (w64 (p2 - (p1.length : Int))) 0 _ h)
noncomputable def body9 : Code := match Try.f9.body with | some c => c | none => .skip
noncomputable def laws_szState (p1 : GState) (p2 : Int) : Option Int :=
  Option.bind (laws_szThreadS p1.Threads p2) fun r3 =>
  if (decide (r3 < 0)) = true then
    some (-1)
  else
    Option.bind (laws_szFloat64S p1.Cells r3) fun r6 =>
    if (decide (r6 < 0)) = true then
      some (-1)
    else
      Option.bind (laws_szIntS p1.Owner r6) fun r9 =>
      if (decide (r9 < 0)) = true then
        some (-1)
      else
        some r9
theorem laws_szState_m {p1 : GState} {p2 : Int} {r : Int} (h : laws_szState p1 p2 = some r) : Meets Try.prog 9 [(AV.agg ((r29 p1))), (I p2)] (I r) := by
  refine meets_ofC Θ_ok Try.func9 rfl (c := body9) (by kernel_rfl) (Nat.le_of_ble_eq_true rfl) ?_
  intro E hP hn hx
  replace hn : E.n = 24 := hn
  have hm : E.P.follows .mixedOrders = true := by rw [hP]; exact mixed
  have hΘ : TOK E.P Θ := by rw [hP]; exact Θ_ok
  unfold laws_szState at h
  show WAt E body9 (FQ (RetE Θ Try.f9.results.toList [] [] (I r) E)) [] ⟨[(0, (AV.agg ((r29 p1)))), (1, (I p2))], [], [JJ]⟩
  obtain ⟨r3, hr3, h⟩ := bnS h
  rcases itS h with ⟨c4, h⟩ | ⟨c5, h⟩
  · have h := Option.some.inj h
    subst h
    exact go_ret hΘ hm hP hn (hs := [⟨0, .new 1001, none⟩, ⟨5, .callV [] (I r3), none⟩, ⟨9, .br true, none⟩]) (rh := []) (ph := .raw) (ps := [Meets Try.prog 34 [(AV.ro 6 (p1.Threads.map r92)), (I p2)] (I r3), litA (I r3) = true, (decide (r3 < 0)) = true, (I (-1)) = (I (-1)), litA (I (-1)) = true]) (by kernel_rfl) ⟨(laws_szThreadS_m hr3), rfl, c4, rfl, rfl, trivial⟩
  · obtain ⟨r6, hr6, h⟩ := bnS h
    rcases itS h with ⟨c7, h⟩ | ⟨c8, h⟩
    · have h := Option.some.inj h
      subst h
      exact go_ret hΘ hm hP hn (hs := [⟨0, .new 1001, none⟩, ⟨5, .callV [] (I r3), none⟩, ⟨9, .br false, none⟩, ⟨13, .callV [] (I r6), none⟩, ⟨17, .br true, none⟩]) (rh := []) (ph := .raw) (ps := [Meets Try.prog 34 [(AV.ro 6 (p1.Threads.map r92)), (I p2)] (I r3), litA (I r3) = true, (decide (r3 < 0)) = false, Meets Try.prog 35 [(AV.ro 1 (p1.Cells.map o83)), (I r3)] (I r6), litA (I r6) = true, (decide (r6 < 0)) = true, (I (-1)) = (I (-1)), litA (I (-1)) = true]) (by kernel_rfl) ⟨(laws_szThreadS_m hr3), rfl, c5, (laws_szFloat64S_m hr6), rfl, c7, rfl, rfl, trivial⟩
    · obtain ⟨r9, hr9, h⟩ := bnS h
      rcases itS h with ⟨c10, h⟩ | ⟨c11, h⟩
      · have h := Option.some.inj h
        subst h
        exact go_ret hΘ hm hP hn (hs := [⟨0, .new 1001, none⟩, ⟨5, .callV [] (I r3), none⟩, ⟨9, .br false, none⟩, ⟨13, .callV [] (I r6), none⟩, ⟨17, .br false, none⟩, ⟨21, .callV [] (I r9), none⟩, ⟨25, .br true, none⟩]) (rh := []) (ph := .raw) (ps := [Meets Try.prog 34 [(AV.ro 6 (p1.Threads.map r92)), (I p2)] (I r3), litA (I r3) = true, (decide (r3 < 0)) = false, Meets Try.prog 35 [(AV.ro 1 (p1.Cells.map o83)), (I r3)] (I r6), litA (I r6) = true, (decide (r6 < 0)) = false, Meets Try.prog 36 [(AV.ro 1 (p1.Owner.map o3)), (I r6)] (I r9), litA (I r9) = true, (decide (r9 < 0)) = true, (I (-1)) = (I (-1)), litA (I (-1)) = true]) (by kernel_rfl) ⟨(laws_szThreadS_m hr3), rfl, c5, (laws_szFloat64S_m hr6), rfl, c8, (laws_szIntS_m hr9), rfl, c10, rfl, rfl, trivial⟩
      · have h := Option.some.inj h
        subst h
        exact go_ret hΘ hm hP hn (hs := [⟨0, .new 1001, none⟩, ⟨5, .callV [] (I r3), none⟩, ⟨9, .br false, none⟩, ⟨13, .callV [] (I r6), none⟩, ⟨17, .br false, none⟩, ⟨21, .callV [] (I r9), none⟩, ⟨25, .br false, none⟩]) (rh := []) (ph := .raw) (ps := [Meets Try.prog 34 [(AV.ro 6 (p1.Threads.map r92)), (I p2)] (I r3), litA (I r3) = true, (decide (r3 < 0)) = false, Meets Try.prog 35 [(AV.ro 1 (p1.Cells.map o83)), (I r3)] (I r6), litA (I r6) = true, (decide (r6 < 0)) = false, Meets Try.prog 36 [(AV.ro 1 (p1.Owner.map o3)), (I r6)] (I r9), litA (I r9) = true, (decide (r9 < 0)) = false, (I r9) = (I r9), litA (I r9) = true]) (by kernel_rfl) ⟨(laws_szThreadS_m hr3), rfl, c5, (laws_szFloat64S_m hr6), rfl, c8, (laws_szIntS_m hr9), rfl, c11, rfl, rfl, trivial⟩
noncomputable def body91 : Code := match Try.f91.body with | some c => c | none => .skip
noncomputable def laws_toOp (p1 : GOp) : Option GOp :=
  some (GOp.mk p1.Code p1.A p1.B p1.V)
theorem laws_toOp_m {p1 : GOp} {r : GOp} (h : laws_toOp p1 = some r) : Meets Try.prog 91 [(AV.agg ((o116 p1)))] (AV.agg (o85 r)) := by
  refine meets_ofC Θ_ok Try.func91 rfl (c := body91) (by kernel_rfl) (Nat.le_of_ble_eq_true rfl) ?_
  intro E hP hn hx
  replace hn : E.n = 17 := hn
  have hm : E.P.follows .mixedOrders = true := by rw [hP]; exact mixed
  have hΘ : TOK E.P Θ := by rw [hP]; exact Θ_ok
  unfold laws_toOp at h
  show WAt E body91 (FQ (RetE Θ Try.f91.results.toList [] [] (AV.agg (o85 r)) E)) [] ⟨[(0, (AV.agg ((o116 p1))))], [], [JJ]⟩
  have h := Option.some.inj h
  subst h
  exact go_ret hΘ hm hP hn (hs := [⟨0, .new 1001, none⟩, ⟨1, .new 1002, none⟩, ⟨2, .new 1003, none⟩]) (rh := []) (ph := .raw) (ps := [(AV.agg [(I p1.Code), (I p1.A), (I p1.B), (FK p1.V)]) = (AV.agg [(I p1.Code), (I p1.A), (I p1.B), (FK p1.V)]), litA (AV.agg [(I p1.Code), (I p1.A), (I p1.B), (FK p1.V)]) = true]) (by kernel_rfl) ⟨rfl, rfl, trivial⟩
noncomputable def body72 : Code := match Try.f72.body with | some c => c | none => .skip
noncomputable def laws_toOpS_l0  (p1 : (List GOp)) : Nat → (List GOp) → Int → Option (List GOp)
  | 0, _, _ => none
  | n + 1, a3, v4 =>
  if (decide (v4 < (p1.length : Int))) = true then
    Option.bind (rd p1 v4) fun x6 =>
    Option.bind (laws_toOp x6) fun r7 =>
    Option.bind (rd a3 v4) fun x8 =>
    laws_toOpS_l0 p1 n (a3.set (Int.toNat v4) r7) (w64 (v4 + 1))
  else
    some a3
theorem laws_toOpS_l0_m {E : Env} (hP : E.P = Try.prog) (hn : E.n = 23) (hx : ∀ p, p ∈ E.fx → p.1 ∈ ([] : List Nat)) (p1 : (List GOp))  : ∀ (n : Nat) (a3 : (List GOp)) (v4 : Int) (r : (List GOp)), laws_toOpS_l0 p1 n a3 v4 = some r → WAt E body72 (FQ (RetE Θ Try.f72.results.toList [] [] (AV.own 85 4 (r.map o85)) E)) [true, true, false, true, false] ⟨[(0, (AV.ro 4 (p1.map o116))), (3, (AV.sl 1 0 (List.length (a3.map o85)))), (4, (I v4))], [(1, some ⟨85, 4, (a3.map o85)⟩)], [1, JJ]⟩ := by
  have hm : E.P.follows .mixedOrders = true := by rw [hP]; exact mixed
  have hΘ : TOK E.P Θ := by rw [hP]; exact Θ_ok
  intro n
  induction n with
  | zero => intro a3 v4 r h; simp only [laws_toOpS_l0] at h; cases h
  | succ n ih =>
    intro a3 v4 r h
    simp only [laws_toOpS_l0] at h
    rcases itS h with ⟨c5, h⟩ | ⟨c9, h⟩
    · obtain ⟨x6, hx6, h⟩ := bnS h
      obtain ⟨r7, hr7, h⟩ := bnS h
      obtain ⟨x8, hx8, h⟩ := bnS h
      exact go_to hΘ hm hx hP hn (hs := [⟨2, .no, some (I (p1.length : Int))⟩, ⟨4, .br true, none⟩, ⟨9, .row (o116 x6), none⟩, ⟨11, .callV [[]] (AV.agg (o85 r7)), none⟩, ⟨13, .sto ((o85 x8)) ((a3.set (Int.toNat v4) r7).map o85), none⟩, ⟨17, .slen 3 (List.length ((a3.set (Int.toNat v4) r7).map o85)), none⟩]) (π := [(1, 1)]) (ts := [0, 3, 4]) (kp := []) (ps := [AV.lit (.int .i64 (((p1.map o116).length : Nat) : Int)) = (I (p1.length : Int)), (decide (v4 < (p1.length : Int))) = true, (0 : Int) ≤ v4, (p1.map o116)[(Int.toNat v4)]? = some (o116 x6), Meets Try.prog 91 [(AV.agg ((o116 x6)))] (AV.agg (o85 r7)), litA (AV.agg (o85 r7)) = true, (0 : Int) ≤ v4, v4 < (((List.length (a3.map o85)) : Nat) : Int), (a3.map o85)[(Int.toNat v4)]? = some ((o85 x8)), (a3.map o85).set (Int.toNat v4) (wr ((o85 x8)) 0 ((o85 r7))) = ((a3.set (Int.toNat v4) r7).map o85), ((o85 r7)).length = 4, 0 + ((o85 r7)).length ≤ ((o85 x8)).length, (List.length (a3.map o85)) = (List.length ((a3.set (Int.toNat v4) r7).map o85)), RenOK [(1, 1)] ((a3.set (Int.toNat v4) r7).map o85)]) (by kernel_rfl) ⟨(lenM o116), c5, (rd0 hx6), (rdM o116 hx6), (laws_toOp_m hr7), rfl, (rd0 hx8), (rdL o85 hx8), (rdM o85 hx8), (setMr o85 (by kernel_rfl)), rfl, (Nat.le_of_ble_eq_true rfl), (by first | exact lnSet _ | exact lnSet2 _ | simp only [List.length_map, List.length_set, List.length_cons, List.length_nil]), (rok (treeM t85)), trivial⟩ (ih (a3.set (Int.toNat v4) r7) (w64 (v4 + 1)) _ h)
    · have h := Option.some.inj h
      subst h
      exact go_ret hΘ hm hP hn (hs := [⟨2, .no, some (I (p1.length : Int))⟩, ⟨4, .br false, none⟩]) (rh := []) (ph := .own) (ps := [AV.lit (.int .i64 (((p1.map o116).length : Nat) : Int)) = (I (p1.length : Int)), (decide (v4 < (p1.length : Int))) = false, treeLL ((a3.map o85).take (List.length (a3.map o85))) = true, (a3.map o85).take (List.length (a3.map o85)) = (a3.map o85), noRoLL (a3.map o85) = true]) (by kernel_rfl) ⟨(lenM o116), c9, (treeT t85), takeM, (noRoM n85), trivial⟩
noncomputable def laws_toOpS (p1 : (List GOp)) : Option (List GOp) :=
  Option.bind (mk (GOp.mk 0 0 0 0) (p1.length : Int)) fun l2 =>
  laws_toOpS_l0 p1 FU l2 0
theorem laws_toOpS_m {p1 : (List GOp)} {r : (List GOp)} (h : laws_toOpS p1 = some r) : Meets Try.prog 72 [(AV.ro 4 (p1.map o116))] (AV.own 85 4 (r.map o85)) := by
  refine meets_ofC Θ_ok Try.func72 rfl (c := body72) (by kernel_rfl) (Nat.le_of_ble_eq_true rfl) ?_
  intro E hP hn hx
  replace hn : E.n = 23 := hn
  have hm : E.P.follows .mixedOrders = true := by rw [hP]; exact mixed
  have hΘ : TOK E.P Θ := by rw [hP]; exact Θ_ok
  unfold laws_toOpS at h
  show WAt E body72 (FQ (RetE Θ Try.f72.results.toList [] [] (AV.own 85 4 (r.map o85)) E)) [] ⟨[(0, (AV.ro 4 (p1.map o116)))], [], [JJ]⟩
  obtain ⟨l2, hl2, h⟩ := bnS h
  exact go_to hΘ hm hx hP hn (hs := [⟨2, .no, some (I (p1.length : Int))⟩, ⟨3, .nw 1001 (l2.map o85), some (AV.sl 1001 0 (List.length (l2.map o85)))⟩]) (π := [(1001, 1)]) (ts := [0, 3, 4]) (kp := []) (ps := [AV.lit (.int .i64 (((p1.map o116).length : Nat) : Int)) = (I (p1.length : Int)), List.replicate (Int.toNat (p1.length : Int)) [.lit (.int .i64 0), .lit (.int .i64 0), .lit (.int .i64 0), .lit (.float .f64 0)] = (l2.map o85), AV.sl 1001 0 (Int.toNat (p1.length : Int)) = (AV.sl 1001 0 (List.length (l2.map o85))), (p1.length : Int) = (p1.length : Int), (0 : Int) ≤ (p1.length : Int), (p1.length : Int) * ((32 : Nat) : Int) ≤ 140737488355328, (p1.length : Int) ≤ 140737488355328, RenOK [(1001, 1)] (l2.map o85)]) (by kernel_rfl) ⟨(lenM o116), (mkM o85 hl2), (mkS o85 hl2), rfl, (mk0 hl2), (mkB hl2 (by decide)), (mkC hl2), (rok (treeM t85)), trivial⟩ (laws_toOpS_l0_m hP hn hx p1 FU l2 0 _ h)
noncomputable def body39 : Code := match Try.f39.body with | some c => c | none => .skip
noncomputable def laws_toOpSS_l0  (p1 : (List (List GOp))) : Nat → (List (List GOp)) → Int → Option (List (List GOp))
  | 0, _, _ => none
  | n + 1, a3, v4 =>
  if (decide (v4 < (p1.length : Int))) = true then
    Option.bind (rd p1 v4) fun x6 =>
    Option.bind (laws_toOpS x6) fun r7 =>
    Option.bind (rd a3 v4) fun x8 =>
    laws_toOpSS_l0 p1 n (a3.set (Int.toNat v4) r7) (w64 (v4 + 1))
  else
    some a3
theorem laws_toOpSS_l0_m {E : Env} (hP : E.P = Try.prog) (hn : E.n = 23) (hx : ∀ p, p ∈ E.fx → p.1 ∈ ([] : List Nat)) (p1 : (List (List GOp)))  : ∀ (n : Nat) (a3 : (List (List GOp))) (v4 : Int) (r : (List (List GOp))), laws_toOpSS_l0 p1 n a3 v4 = some r → WAt E body39 (FQ (RetE Θ Try.f39.results.toList [] [] (AV.own 82 1 (r.map o82)) E)) [true, true, false, true, false] ⟨[(0, (AV.ro 1 (p1.map r90))), (3, (AV.sl 1 0 (List.length (a3.map o82)))), (4, (I v4))], [(1, some ⟨82, 1, (a3.map o82)⟩)], [1, JJ]⟩ := by
  have hm : E.P.follows .mixedOrders = true := by rw [hP]; exact mixed
  have hΘ : TOK E.P Θ := by rw [hP]; exact Θ_ok
  intro n
  induction n with
  | zero => intro a3 v4 r h; simp only [laws_toOpSS_l0] at h; cases h
  | succ n ih =>
    intro a3 v4 r h
    simp only [laws_toOpSS_l0] at h
    rcases itS h with ⟨c5, h⟩ | ⟨c9, h⟩
    · obtain ⟨x6, hx6, h⟩ := bnS h
      obtain ⟨r7, hr7, h⟩ := bnS h
      obtain ⟨x8, hx8, h⟩ := bnS h
      exact go_to hΘ hm hx hP hn (hs := [⟨2, .no, some (I (p1.length : Int))⟩, ⟨4, .br true, none⟩, ⟨9, .row (r90 x6), none⟩, ⟨11, .call [] (AV.own 85 4 (r7.map o85)) [1001], none⟩, ⟨13, .sto [(AV.own 85 4 (x8.map o85))] ((a3.map o82).set (Int.toNat v4) [(AV.sl 1001 0 (List.length (r7.map o85)))]), none⟩, ⟨14, .pack 1 1001 (Int.toNat v4) 0 [(AV.sl 1001 0 (List.length (r7.map o85)))] ((a3.set (Int.toNat v4) r7).map o82), none⟩, ⟨17, .slen 3 (List.length ((a3.set (Int.toNat v4) r7).map o82)), none⟩]) (π := [(1, 1)]) (ts := [0, 3, 4]) (kp := []) (ps := [AV.lit (.int .i64 (((p1.map r90).length : Nat) : Int)) = (I (p1.length : Int)), (decide (v4 < (p1.length : Int))) = true, (0 : Int) ≤ v4, (p1.map r90)[(Int.toNat v4)]? = some (r90 x6), Meets Try.prog 72 [(AV.ro 4 (x6.map o116))] (AV.own 85 4 (r7.map o85)), noRo (AV.own 85 4 (r7.map o85)) = true, (0 : Int) ≤ v4, v4 < (((List.length (a3.map o82)) : Nat) : Int), (a3.map o82)[(Int.toNat v4)]? = some [(AV.own 85 4 (x8.map o85))], (a3.map o82).set (Int.toNat v4) (wr [(AV.own 85 4 (x8.map o85))] 0 [(AV.sl 1001 0 (List.length (r7.map o85)))]) = ((a3.map o82).set (Int.toNat v4) [(AV.sl 1001 0 (List.length (r7.map o85)))]), [(AV.sl 1001 0 (List.length (r7.map o85)))].length = 1, 0 + [(AV.sl 1001 0 (List.length (r7.map o85)))].length ≤ [(AV.own 85 4 (x8.map o85))].length, ((a3.map o82).set (Int.toNat v4) [(AV.sl 1001 0 (List.length (r7.map o85)))])[(Int.toNat v4)]? = some [(AV.sl 1001 0 (List.length (r7.map o85)))], [(AV.sl 1001 0 (List.length (r7.map o85)))][0]? = some (AV.sl 1001 0 (List.length (r7.map o85))), treeLL (r7.map o85) = true, ((a3.map o82).set (Int.toNat v4) [(AV.sl 1001 0 (List.length (r7.map o85)))]).set (Int.toNat v4) ([(AV.sl 1001 0 (List.length (r7.map o85)))].set 0 (AV.own 85 4 (r7.map o85))) = ((a3.set (Int.toNat v4) r7).map o82), (List.length (a3.map o82)) = (List.length ((a3.set (Int.toNat v4) r7).map o82)), RenOK [(1, 1)] ((a3.set (Int.toNat v4) r7).map o82)]) (by kernel_rfl) ⟨(lenM r90), c5, (rd0 hx6), (rdM r90 hx6), (laws_toOpS_m hr7), (by simp only [noRo, noRoL, noRoM n85, Bool.and_self]), (rd0 hx8), (rdL o82 hx8), (rdM o82 hx8), rfl, rfl, (Nat.le_of_ble_eq_true rfl), (setE (rdM o82 hx8)), rfl, (treeM t85), (setP o82), (by first | exact lnSet _ | exact lnSet2 _ | simp only [List.length_map, List.length_set, List.length_cons, List.length_nil]), (rok (treeM t82)), trivial⟩ (ih (a3.set (Int.toNat v4) r7) (w64 (v4 + 1)) _ h)
    · have h := Option.some.inj h
      subst h
      exact go_ret hΘ hm hP hn (hs := [⟨2, .no, some (I (p1.length : Int))⟩, ⟨4, .br false, none⟩]) (rh := []) (ph := .own) (ps := [AV.lit (.int .i64 (((p1.map r90).length : Nat) : Int)) = (I (p1.length : Int)), (decide (v4 < (p1.length : Int))) = false, treeLL ((a3.map o82).take (List.length (a3.map o82))) = true, (a3.map o82).take (List.length (a3.map o82)) = (a3.map o82), noRoLL (a3.map o82) = true]) (by kernel_rfl) ⟨(lenM r90), c9, (treeT t82), takeM, (noRoM n82), trivial⟩
noncomputable def laws_toOpSS (p1 : (List (List GOp))) : Option (List (List GOp)) :=
  Option.bind (mk [] (p1.length : Int)) fun l2 =>
  laws_toOpSS_l0 p1 FU l2 0
theorem laws_toOpSS_m {p1 : (List (List GOp))} {r : (List (List GOp))} (h : laws_toOpSS p1 = some r) : Meets Try.prog 39 [(AV.ro 1 (p1.map r90))] (AV.own 82 1 (r.map o82)) := by
  refine meets_ofC Θ_ok Try.func39 rfl (c := body39) (by kernel_rfl) (Nat.le_of_ble_eq_true rfl) ?_
  intro E hP hn hx
  replace hn : E.n = 23 := hn
  have hm : E.P.follows .mixedOrders = true := by rw [hP]; exact mixed
  have hΘ : TOK E.P Θ := by rw [hP]; exact Θ_ok
  unfold laws_toOpSS at h
  show WAt E body39 (FQ (RetE Θ Try.f39.results.toList [] [] (AV.own 82 1 (r.map o82)) E)) [] ⟨[(0, (AV.ro 1 (p1.map r90)))], [], [JJ]⟩
  obtain ⟨l2, hl2, h⟩ := bnS h
  exact go_to hΘ hm hx hP hn (hs := [⟨2, .no, some (I (p1.length : Int))⟩, ⟨3, .nw 1001 (List.replicate (Int.toNat (p1.length : Int)) [AV.lit (.slice none 0 0)]), some (AV.sl 1001 0 (List.length (l2.map o82)))⟩, ⟨4, .own0 1001 (Int.toNat (p1.length : Int)) [] [] 85 4 (l2.map o82), none⟩]) (π := [(1001, 1)]) (ts := [0, 3, 4]) (kp := []) (ps := [AV.lit (.int .i64 (((p1.map r90).length : Nat) : Int)) = (I (p1.length : Int)), List.replicate (Int.toNat (p1.length : Int)) [.lit (.slice none 0 0)] = (List.replicate (Int.toNat (p1.length : Int)) [AV.lit (.slice none 0 0)]), AV.sl 1001 0 (Int.toNat (p1.length : Int)) = (AV.sl 1001 0 (List.length (l2.map o82))), (p1.length : Int) = (p1.length : Int), (0 : Int) ≤ (p1.length : Int), (p1.length : Int) * ((24 : Nat) : Int) ≤ 140737488355328, (p1.length : Int) ≤ 140737488355328, (List.replicate (Int.toNat (p1.length : Int)) [AV.lit (.slice none 0 0)]) = List.replicate (Int.toNat (p1.length : Int)) ([] ++ AV.lit (.slice none 0 0) :: []), List.replicate (Int.toNat (p1.length : Int)) ([] ++ AV.own 85 4 [] :: []) = (l2.map o82), RenOK [(1001, 1)] (l2.map o82)]) (by kernel_rfl) ⟨(lenM r90), rfl, (mkS o82 hl2), rfl, (mk0 hl2), (mkB hl2 (by decide)), (mkC hl2), rfl, (mkM o82 hl2), (rok (treeM t82)), trivial⟩ (laws_toOpSS_l0_m hP hn hx p1 FU l2 0 _ h)
noncomputable def body11 : Code := match Try.f11.body with | some c => c | none => .skip
noncomputable def laws_toProg (p1 : GProg) : Option GProg :=
  Option.bind (laws_toOpSS p1.Routines) fun r2 =>
  some (GProg.mk p1.Cells p1.Locks p1.Conds r2)
theorem laws_toProg_m {p1 : GProg} {r : GProg} (h : laws_toProg p1 = some r) : Meets Try.prog 11 [(AV.agg ((r24 p1)))] (AV.agg (o35 r)) := by
  refine meets_ofC Θ_ok Try.func11 rfl (c := body11) (by kernel_rfl) (Nat.le_of_ble_eq_true rfl) ?_
  intro E hP hn hx
  replace hn : E.n = 18 := hn
  have hm : E.P.follows .mixedOrders = true := by rw [hP]; exact mixed
  have hΘ : TOK E.P Θ := by rw [hP]; exact Θ_ok
  unfold laws_toProg at h
  show WAt E body11 (FQ (RetE Θ Try.f11.results.toList [] [] (AV.agg (o35 r)) E)) [] ⟨[(0, (AV.agg ((r24 p1))))], [], [JJ]⟩
  obtain ⟨r2, hr2, h⟩ := bnS h
  have h := Option.some.inj h
  subst h
  exact go_ret hΘ hm hP hn (hs := [⟨0, .new 1001, none⟩, ⟨1, .new 1002, none⟩, ⟨2, .new 1003, none⟩, ⟨17, .call [] (AV.own 82 1 (r2.map o82)) [1004], none⟩]) (rh := []) (ph := .agg [.raw, .raw, .raw, .own]) (ps := [Meets Try.prog 39 [(AV.ro 1 (p1.Routines.map r90))] (AV.own 82 1 (r2.map o82)), noRo (AV.own 82 1 (r2.map o82)) = true, (I p1.Cells) = (I p1.Cells), litA (I p1.Cells) = true, (I p1.Locks) = (I p1.Locks), litA (I p1.Locks) = true, (I p1.Conds) = (I p1.Conds), litA (I p1.Conds) = true, treeLL ((r2.map o82).take (List.length (r2.map o82))) = true, (r2.map o82).take (List.length (r2.map o82)) = (r2.map o82), noRoLL (r2.map o82) = true]) (by kernel_rfl) ⟨(laws_toOpSS_m hr2), (by simp only [noRo, noRoL, noRoM n82, Bool.and_self]), rfl, rfl, rfl, rfl, rfl, rfl, (treeT t82), takeM, (noRoM n82), trivial⟩
noncomputable def body41 : Code := match Try.f41.body with | some c => c | none => .skip
noncomputable def laws_toFloat64S_l0  (p1 : (List Nat)) : Nat → (List Nat) → Int → Option (List Nat)
  | 0, _, _ => none
  | n + 1, a3, v4 =>
  if (decide (v4 < (p1.length : Int))) = true then
    Option.bind (rd p1 v4) fun x6 =>
    Option.bind (rd a3 v4) fun x7 =>
    laws_toFloat64S_l0 p1 n (a3.set (Int.toNat v4) x6) (w64 (v4 + 1))
  else
    some a3
theorem laws_toFloat64S_l0_m {E : Env} (hP : E.P = Try.prog) (hn : E.n = 22) (hx : ∀ p, p ∈ E.fx → p.1 ∈ ([] : List Nat)) (p1 : (List Nat))  : ∀ (n : Nat) (a3 : (List Nat)) (v4 : Int) (r : (List Nat)), laws_toFloat64S_l0 p1 n a3 v4 = some r → WAt E body41 (FQ (RetE Θ Try.f41.results.toList [] [] (AV.own 83 1 (r.map o83)) E)) [true, true, false, true, false] ⟨[(0, (AV.ro 1 (p1.map o83))), (3, (AV.sl 1 0 (List.length (a3.map o83)))), (4, (I v4))], [(1, some ⟨83, 1, (a3.map o83)⟩)], [1, JJ]⟩ := by
  have hm : E.P.follows .mixedOrders = true := by rw [hP]; exact mixed
  have hΘ : TOK E.P Θ := by rw [hP]; exact Θ_ok
  intro n
  induction n with
  | zero => intro a3 v4 r h; simp only [laws_toFloat64S_l0] at h; cases h
  | succ n ih =>
    intro a3 v4 r h
    simp only [laws_toFloat64S_l0] at h
    rcases itS h with ⟨c5, h⟩ | ⟨c8, h⟩
    · obtain ⟨x6, hx6, h⟩ := bnS h
      obtain ⟨x7, hx7, h⟩ := bnS h
      exact go_to hΘ hm hx hP hn (hs := [⟨2, .no, some (I (p1.length : Int))⟩, ⟨4, .br true, none⟩, ⟨9, .row (o83 x6), none⟩, ⟨12, .sto [(FK x7)] ((a3.set (Int.toNat v4) x6).map o83), none⟩, ⟨16, .slen 3 (List.length ((a3.set (Int.toNat v4) x6).map o83)), none⟩]) (π := [(1, 1)]) (ts := [0, 3, 4]) (kp := []) (ps := [AV.lit (.int .i64 (((p1.map o83).length : Nat) : Int)) = (I (p1.length : Int)), (decide (v4 < (p1.length : Int))) = true, (0 : Int) ≤ v4, (p1.map o83)[(Int.toNat v4)]? = some (o83 x6), (0 : Int) ≤ v4, v4 < (((List.length (a3.map o83)) : Nat) : Int), (a3.map o83)[(Int.toNat v4)]? = some [(FK x7)], (a3.map o83).set (Int.toNat v4) (wr [(FK x7)] 0 [(FK x6)]) = ((a3.set (Int.toNat v4) x6).map o83), [(FK x6)].length = 1, 0 + [(FK x6)].length ≤ [(FK x7)].length, (List.length (a3.map o83)) = (List.length ((a3.set (Int.toNat v4) x6).map o83)), RenOK [(1, 1)] ((a3.set (Int.toNat v4) x6).map o83)]) (by kernel_rfl) ⟨(lenM o83), c5, (rd0 hx6), (rdM o83 hx6), (rd0 hx7), (rdL o83 hx7), (rdM o83 hx7), (setM o83), rfl, (Nat.le_of_ble_eq_true rfl), (by first | exact lnSet _ | exact lnSet2 _ | simp only [List.length_map, List.length_set, List.length_cons, List.length_nil]), (rok (treeM t83)), trivial⟩ (ih (a3.set (Int.toNat v4) x6) (w64 (v4 + 1)) _ h)
    · have h := Option.some.inj h
      subst h
      exact go_ret hΘ hm hP hn (hs := [⟨2, .no, some (I (p1.length : Int))⟩, ⟨4, .br false, none⟩]) (rh := []) (ph := .own) (ps := [AV.lit (.int .i64 (((p1.map o83).length : Nat) : Int)) = (I (p1.length : Int)), (decide (v4 < (p1.length : Int))) = false, treeLL ((a3.map o83).take (List.length (a3.map o83))) = true, (a3.map o83).take (List.length (a3.map o83)) = (a3.map o83), noRoLL (a3.map o83) = true]) (by kernel_rfl) ⟨(lenM o83), c8, (treeT t83), takeM, (noRoM n83), trivial⟩
noncomputable def laws_toFloat64S (p1 : (List Nat)) : Option (List Nat) :=
  Option.bind (mk 0 (p1.length : Int)) fun l2 =>
  laws_toFloat64S_l0 p1 FU l2 0
theorem laws_toFloat64S_m {p1 : (List Nat)} {r : (List Nat)} (h : laws_toFloat64S p1 = some r) : Meets Try.prog 41 [(AV.ro 1 (p1.map o83))] (AV.own 83 1 (r.map o83)) := by
  refine meets_ofC Θ_ok Try.func41 rfl (c := body41) (by kernel_rfl) (Nat.le_of_ble_eq_true rfl) ?_
  intro E hP hn hx
  replace hn : E.n = 22 := hn
  have hm : E.P.follows .mixedOrders = true := by rw [hP]; exact mixed
  have hΘ : TOK E.P Θ := by rw [hP]; exact Θ_ok
  unfold laws_toFloat64S at h
  show WAt E body41 (FQ (RetE Θ Try.f41.results.toList [] [] (AV.own 83 1 (r.map o83)) E)) [] ⟨[(0, (AV.ro 1 (p1.map o83)))], [], [JJ]⟩
  obtain ⟨l2, hl2, h⟩ := bnS h
  exact go_to hΘ hm hx hP hn (hs := [⟨2, .no, some (I (p1.length : Int))⟩, ⟨3, .nw 1001 (l2.map o83), some (AV.sl 1001 0 (List.length (l2.map o83)))⟩]) (π := [(1001, 1)]) (ts := [0, 3, 4]) (kp := []) (ps := [AV.lit (.int .i64 (((p1.map o83).length : Nat) : Int)) = (I (p1.length : Int)), List.replicate (Int.toNat (p1.length : Int)) [.lit (.float .f64 0)] = (l2.map o83), AV.sl 1001 0 (Int.toNat (p1.length : Int)) = (AV.sl 1001 0 (List.length (l2.map o83))), (p1.length : Int) = (p1.length : Int), (0 : Int) ≤ (p1.length : Int), (p1.length : Int) * ((8 : Nat) : Int) ≤ 140737488355328, (p1.length : Int) ≤ 140737488355328, RenOK [(1001, 1)] (l2.map o83)]) (by kernel_rfl) ⟨(lenM o83), (mkM o83 hl2), (mkS o83 hl2), rfl, (mk0 hl2), (mkB hl2 (by decide)), (mkC hl2), (rok (treeM t83)), trivial⟩ (laws_toFloat64S_l0_m hP hn hx p1 FU l2 0 _ h)
noncomputable def body42 : Code := match Try.f42.body with | some c => c | none => .skip
noncomputable def laws_toIntS_l0  (p1 : (List Int)) : Nat → (List Int) → Int → Option (List Int)
  | 0, _, _ => none
  | n + 1, a3, v4 =>
  if (decide (v4 < (p1.length : Int))) = true then
    Option.bind (rd p1 v4) fun x6 =>
    Option.bind (rd a3 v4) fun x7 =>
    laws_toIntS_l0 p1 n (a3.set (Int.toNat v4) x6) (w64 (v4 + 1))
  else
    some a3
theorem laws_toIntS_l0_m {E : Env} (hP : E.P = Try.prog) (hn : E.n = 22) (hx : ∀ p, p ∈ E.fx → p.1 ∈ ([] : List Nat)) (p1 : (List Int))  : ∀ (n : Nat) (a3 : (List Int)) (v4 : Int) (r : (List Int)), laws_toIntS_l0 p1 n a3 v4 = some r → WAt E body42 (FQ (RetE Θ Try.f42.results.toList [] [] (AV.own 3 1 (r.map o3)) E)) [true, true, false, true, false] ⟨[(0, (AV.ro 1 (p1.map o3))), (3, (AV.sl 1 0 (List.length (a3.map o3)))), (4, (I v4))], [(1, some ⟨3, 1, (a3.map o3)⟩)], [1, JJ]⟩ := by
  have hm : E.P.follows .mixedOrders = true := by rw [hP]; exact mixed
  have hΘ : TOK E.P Θ := by rw [hP]; exact Θ_ok
  intro n
  induction n with
  | zero => intro a3 v4 r h; simp only [laws_toIntS_l0] at h; cases h
  | succ n ih =>
    intro a3 v4 r h
    simp only [laws_toIntS_l0] at h
    rcases itS h with ⟨c5, h⟩ | ⟨c8, h⟩
    · obtain ⟨x6, hx6, h⟩ := bnS h
      obtain ⟨x7, hx7, h⟩ := bnS h
      exact go_to hΘ hm hx hP hn (hs := [⟨2, .no, some (I (p1.length : Int))⟩, ⟨4, .br true, none⟩, ⟨9, .row (o3 x6), none⟩, ⟨12, .sto [(I x7)] ((a3.set (Int.toNat v4) x6).map o3), none⟩, ⟨16, .slen 3 (List.length ((a3.set (Int.toNat v4) x6).map o3)), none⟩]) (π := [(1, 1)]) (ts := [0, 3, 4]) (kp := []) (ps := [AV.lit (.int .i64 (((p1.map o3).length : Nat) : Int)) = (I (p1.length : Int)), (decide (v4 < (p1.length : Int))) = true, (0 : Int) ≤ v4, (p1.map o3)[(Int.toNat v4)]? = some (o3 x6), (0 : Int) ≤ v4, v4 < (((List.length (a3.map o3)) : Nat) : Int), (a3.map o3)[(Int.toNat v4)]? = some [(I x7)], (a3.map o3).set (Int.toNat v4) (wr [(I x7)] 0 [(I x6)]) = ((a3.set (Int.toNat v4) x6).map o3), [(I x6)].length = 1, 0 + [(I x6)].length ≤ [(I x7)].length, (List.length (a3.map o3)) = (List.length ((a3.set (Int.toNat v4) x6).map o3)), RenOK [(1, 1)] ((a3.set (Int.toNat v4) x6).map o3)]) (by kernel_rfl) ⟨(lenM o3), c5, (rd0 hx6), (rdM o3 hx6), (rd0 hx7), (rdL o3 hx7), (rdM o3 hx7), (setM o3), rfl, (Nat.le_of_ble_eq_true rfl), (by first | exact lnSet _ | exact lnSet2 _ | simp only [List.length_map, List.length_set, List.length_cons, List.length_nil]), (rok (treeM t3)), trivial⟩ (ih (a3.set (Int.toNat v4) x6) (w64 (v4 + 1)) _ h)
    · have h := Option.some.inj h
      subst h
      exact go_ret hΘ hm hP hn (hs := [⟨2, .no, some (I (p1.length : Int))⟩, ⟨4, .br false, none⟩]) (rh := []) (ph := .own) (ps := [AV.lit (.int .i64 (((p1.map o3).length : Nat) : Int)) = (I (p1.length : Int)), (decide (v4 < (p1.length : Int))) = false, treeLL ((a3.map o3).take (List.length (a3.map o3))) = true, (a3.map o3).take (List.length (a3.map o3)) = (a3.map o3), noRoLL (a3.map o3) = true]) (by kernel_rfl) ⟨(lenM o3), c8, (treeT t3), takeM, (noRoM n3), trivial⟩
noncomputable def laws_toIntS (p1 : (List Int)) : Option (List Int) :=
  Option.bind (mk 0 (p1.length : Int)) fun l2 =>
  laws_toIntS_l0 p1 FU l2 0
theorem laws_toIntS_m {p1 : (List Int)} {r : (List Int)} (h : laws_toIntS p1 = some r) : Meets Try.prog 42 [(AV.ro 1 (p1.map o3))] (AV.own 3 1 (r.map o3)) := by
  refine meets_ofC Θ_ok Try.func42 rfl (c := body42) (by kernel_rfl) (Nat.le_of_ble_eq_true rfl) ?_
  intro E hP hn hx
  replace hn : E.n = 22 := hn
  have hm : E.P.follows .mixedOrders = true := by rw [hP]; exact mixed
  have hΘ : TOK E.P Θ := by rw [hP]; exact Θ_ok
  unfold laws_toIntS at h
  show WAt E body42 (FQ (RetE Θ Try.f42.results.toList [] [] (AV.own 3 1 (r.map o3)) E)) [] ⟨[(0, (AV.ro 1 (p1.map o3)))], [], [JJ]⟩
  obtain ⟨l2, hl2, h⟩ := bnS h
  exact go_to hΘ hm hx hP hn (hs := [⟨2, .no, some (I (p1.length : Int))⟩, ⟨3, .nw 1001 (l2.map o3), some (AV.sl 1001 0 (List.length (l2.map o3)))⟩]) (π := [(1001, 1)]) (ts := [0, 3, 4]) (kp := []) (ps := [AV.lit (.int .i64 (((p1.map o3).length : Nat) : Int)) = (I (p1.length : Int)), List.replicate (Int.toNat (p1.length : Int)) [.lit (.int .i64 0)] = (l2.map o3), AV.sl 1001 0 (Int.toNat (p1.length : Int)) = (AV.sl 1001 0 (List.length (l2.map o3))), (p1.length : Int) = (p1.length : Int), (0 : Int) ≤ (p1.length : Int), (p1.length : Int) * ((8 : Nat) : Int) ≤ 140737488355328, (p1.length : Int) ≤ 140737488355328, RenOK [(1001, 1)] (l2.map o3)]) (by kernel_rfl) ⟨(lenM o3), (mkM o3 hl2), (mkS o3 hl2), rfl, (mk0 hl2), (mkB hl2 (by decide)), (mkC hl2), (rok (treeM t3)), trivial⟩ (laws_toIntS_l0_m hP hn hx p1 FU l2 0 _ h)
noncomputable def body73 : Code := match Try.f73.body with | some c => c | none => .skip
noncomputable def laws_toThread (p1 : GThread) : Option GThread :=
  Option.bind (laws_toFloat64S p1.Stack) fun r2 =>
  some (GThread.mk p1.Routine p1.Pc p1.State p1.Cond p1.Lock r2)
theorem laws_toThread_m {p1 : GThread} {r : GThread} (h : laws_toThread p1 = some r) : Meets Try.prog 73 [(AV.agg ((r92 p1)))] (AV.agg (o70 r)) := by
  refine meets_ofC Θ_ok Try.func73 rfl (c := body73) (by kernel_rfl) (Nat.le_of_ble_eq_true rfl) ?_
  intro E hP hn hx
  replace hn : E.n = 24 := hn
  have hm : E.P.follows .mixedOrders = true := by rw [hP]; exact mixed
  have hΘ : TOK E.P Θ := by rw [hP]; exact Θ_ok
  unfold laws_toThread at h
  show WAt E body73 (FQ (RetE Θ Try.f73.results.toList [] [] (AV.agg (o70 r)) E)) [] ⟨[(0, (AV.agg ((r92 p1))))], [], [JJ]⟩
  obtain ⟨r2, hr2, h⟩ := bnS h
  have h := Option.some.inj h
  subst h
  exact go_ret hΘ hm hP hn (hs := [⟨0, .new 1001, none⟩, ⟨1, .new 1002, none⟩, ⟨2, .new 1003, none⟩, ⟨25, .call [] (AV.own 83 1 (r2.map o83)) [1004], none⟩]) (rh := []) (ph := .agg [.raw, .raw, .raw, .raw, .raw, .own]) (ps := [Meets Try.prog 41 [(AV.ro 1 (p1.Stack.map o83))] (AV.own 83 1 (r2.map o83)), noRo (AV.own 83 1 (r2.map o83)) = true, (I p1.Routine) = (I p1.Routine), litA (I p1.Routine) = true, (I p1.Pc) = (I p1.Pc), litA (I p1.Pc) = true, (I p1.State) = (I p1.State), litA (I p1.State) = true, (I p1.Cond) = (I p1.Cond), litA (I p1.Cond) = true, (I p1.Lock) = (I p1.Lock), litA (I p1.Lock) = true, treeLL ((r2.map o83).take (List.length (r2.map o83))) = true, (r2.map o83).take (List.length (r2.map o83)) = (r2.map o83), noRoLL (r2.map o83) = true]) (by kernel_rfl) ⟨(laws_toFloat64S_m hr2), (by simp only [noRo, noRoL, noRoM n83, Bool.and_self]), rfl, rfl, rfl, rfl, rfl, rfl, rfl, rfl, rfl, rfl, (treeT t83), takeM, (noRoM n83), trivial⟩
noncomputable def body40 : Code := match Try.f40.body with | some c => c | none => .skip
noncomputable def laws_toThreadS_l0  (p1 : (List GThread)) : Nat → (List GThread) → Int → Option (List GThread)
  | 0, _, _ => none
  | n + 1, a3, v4 =>
  if (decide (v4 < (p1.length : Int))) = true then
    Option.bind (rd p1 v4) fun x6 =>
    Option.bind (laws_toThread x6) fun r7 =>
    Option.bind (rd a3 v4) fun x8 =>
    laws_toThreadS_l0 p1 n (a3.set (Int.toNat v4) (GThread.mk r7.Routine r7.Pc r7.State r7.Cond r7.Lock r7.Stack)) (w64 (v4 + 1))
  else
    some a3
theorem laws_toThreadS_l0_m {E : Env} (hP : E.P = Try.prog) (hn : E.n = 23) (hx : ∀ p, p ∈ E.fx → p.1 ∈ ([] : List Nat)) (p1 : (List GThread))  : ∀ (n : Nat) (a3 : (List GThread)) (v4 : Int) (r : (List GThread)), laws_toThreadS_l0 p1 n a3 v4 = some r → WAt E body40 (FQ (RetE Θ Try.f40.results.toList [] [] (AV.own 70 6 (r.map o70)) E)) [true, true, false, true, false] ⟨[(0, (AV.ro 6 (p1.map r92))), (3, (AV.sl 1 0 (List.length (a3.map o70)))), (4, (I v4))], [(1, some ⟨70, 6, (a3.map o70)⟩)], [1, JJ]⟩ := by
  have hm : E.P.follows .mixedOrders = true := by rw [hP]; exact mixed
  have hΘ : TOK E.P Θ := by rw [hP]; exact Θ_ok
  intro n
  induction n with
  | zero => intro a3 v4 r h; simp only [laws_toThreadS_l0] at h; cases h
  | succ n ih =>
    intro a3 v4 r h
    simp only [laws_toThreadS_l0] at h
    rcases itS h with ⟨c5, h⟩ | ⟨c9, h⟩
    · obtain ⟨x6, hx6, h⟩ := bnS h
      obtain ⟨r7, hr7, h⟩ := bnS h
      obtain ⟨x8, hx8, h⟩ := bnS h
      exact go_to hΘ hm hx hP hn (hs := [⟨2, .no, some (I (p1.length : Int))⟩, ⟨4, .br true, none⟩, ⟨9, .row (r92 x6), none⟩, ⟨11, .call [[]] (AV.agg (o70 r7)) [1001], none⟩, ⟨13, .sto ((o70 x8)) ((a3.map o70).set (Int.toNat v4) [(I r7.Routine), (I r7.Pc), (I r7.State), (I r7.Cond), (I r7.Lock), (AV.sl 1001 0 (List.length (r7.Stack.map o83)))]), none⟩, ⟨14, .pack 1 1001 (Int.toNat v4) 5 [(I r7.Routine), (I r7.Pc), (I r7.State), (I r7.Cond), (I r7.Lock), (AV.sl 1001 0 (List.length (r7.Stack.map o83)))] ((a3.set (Int.toNat v4) (GThread.mk r7.Routine r7.Pc r7.State r7.Cond r7.Lock r7.Stack)).map o70), none⟩, ⟨17, .slen 3 (List.length ((a3.set (Int.toNat v4) (GThread.mk r7.Routine r7.Pc r7.State r7.Cond r7.Lock r7.Stack)).map o70)), none⟩]) (π := [(1, 1)]) (ts := [0, 3, 4]) (kp := []) (ps := [AV.lit (.int .i64 (((p1.map r92).length : Nat) : Int)) = (I (p1.length : Int)), (decide (v4 < (p1.length : Int))) = true, (0 : Int) ≤ v4, (p1.map r92)[(Int.toNat v4)]? = some (r92 x6), Meets Try.prog 73 [(AV.agg ((r92 x6)))] (AV.agg (o70 r7)), noRo (AV.agg (o70 r7)) = true, (0 : Int) ≤ v4, v4 < (((List.length (a3.map o70)) : Nat) : Int), (a3.map o70)[(Int.toNat v4)]? = some ((o70 x8)), (a3.map o70).set (Int.toNat v4) (wr ((o70 x8)) 0 [(I r7.Routine), (I r7.Pc), (I r7.State), (I r7.Cond), (I r7.Lock), (AV.sl 1001 0 (List.length (r7.Stack.map o83)))]) = ((a3.map o70).set (Int.toNat v4) [(I r7.Routine), (I r7.Pc), (I r7.State), (I r7.Cond), (I r7.Lock), (AV.sl 1001 0 (List.length (r7.Stack.map o83)))]), [(I r7.Routine), (I r7.Pc), (I r7.State), (I r7.Cond), (I r7.Lock), (AV.sl 1001 0 (List.length (r7.Stack.map o83)))].length = 6, 0 + [(I r7.Routine), (I r7.Pc), (I r7.State), (I r7.Cond), (I r7.Lock), (AV.sl 1001 0 (List.length (r7.Stack.map o83)))].length ≤ ((o70 x8)).length, ((a3.map o70).set (Int.toNat v4) [(I r7.Routine), (I r7.Pc), (I r7.State), (I r7.Cond), (I r7.Lock), (AV.sl 1001 0 (List.length (r7.Stack.map o83)))])[(Int.toNat v4)]? = some [(I r7.Routine), (I r7.Pc), (I r7.State), (I r7.Cond), (I r7.Lock), (AV.sl 1001 0 (List.length (r7.Stack.map o83)))], [(I r7.Routine), (I r7.Pc), (I r7.State), (I r7.Cond), (I r7.Lock), (AV.sl 1001 0 (List.length (r7.Stack.map o83)))][5]? = some (AV.sl 1001 0 (List.length (r7.Stack.map o83))), treeLL (r7.Stack.map o83) = true, ((a3.map o70).set (Int.toNat v4) [(I r7.Routine), (I r7.Pc), (I r7.State), (I r7.Cond), (I r7.Lock), (AV.sl 1001 0 (List.length (r7.Stack.map o83)))]).set (Int.toNat v4) ([(I r7.Routine), (I r7.Pc), (I r7.State), (I r7.Cond), (I r7.Lock), (AV.sl 1001 0 (List.length (r7.Stack.map o83)))].set 5 (AV.own 83 1 (r7.Stack.map o83))) = ((a3.set (Int.toNat v4) (GThread.mk r7.Routine r7.Pc r7.State r7.Cond r7.Lock r7.Stack)).map o70), (List.length (a3.map o70)) = (List.length ((a3.set (Int.toNat v4) (GThread.mk r7.Routine r7.Pc r7.State r7.Cond r7.Lock r7.Stack)).map o70)), RenOK [(1, 1)] ((a3.set (Int.toNat v4) (GThread.mk r7.Routine r7.Pc r7.State r7.Cond r7.Lock r7.Stack)).map o70)]) (by kernel_rfl) ⟨(lenM r92), c5, (rd0 hx6), (rdM r92 hx6), (laws_toThread_m hr7), (by simp only [noRo, noRoL, noRoM n83, o70, Bool.and_self]), (rd0 hx8), (rdL o70 hx8), (rdM o70 hx8), rfl, rfl, (Nat.le_of_ble_eq_true rfl), (setE (rdM o70 hx8)), rfl, (treeM t83), (setPe o70 (y := (GThread.mk r7.Routine r7.Pc r7.State r7.Cond r7.Lock r7.Stack)) rfl), (by first | exact lnSet _ | exact lnSet2 _ | simp only [List.length_map, List.length_set, List.length_cons, List.length_nil]), (rok (treeM t70)), trivial⟩ (ih (a3.set (Int.toNat v4) (GThread.mk r7.Routine r7.Pc r7.State r7.Cond r7.Lock r7.Stack)) (w64 (v4 + 1)) _ h)
    · have h := Option.some.inj h
      subst h
      exact go_ret hΘ hm hP hn (hs := [⟨2, .no, some (I (p1.length : Int))⟩, ⟨4, .br false, none⟩]) (rh := []) (ph := .own) (ps := [AV.lit (.int .i64 (((p1.map r92).length : Nat) : Int)) = (I (p1.length : Int)), (decide (v4 < (p1.length : Int))) = false, treeLL ((a3.map o70).take (List.length (a3.map o70))) = true, (a3.map o70).take (List.length (a3.map o70)) = (a3.map o70), noRoLL (a3.map o70) = true]) (by kernel_rfl) ⟨(lenM r92), c9, (treeT t70), takeM, (noRoM n70), trivial⟩
noncomputable def laws_toThreadS (p1 : (List GThread)) : Option (List GThread) :=
  Option.bind (mk (GThread.mk 0 0 0 0 0 []) (p1.length : Int)) fun l2 =>
  laws_toThreadS_l0 p1 FU l2 0
theorem laws_toThreadS_m {p1 : (List GThread)} {r : (List GThread)} (h : laws_toThreadS p1 = some r) : Meets Try.prog 40 [(AV.ro 6 (p1.map r92))] (AV.own 70 6 (r.map o70)) := by
  refine meets_ofC Θ_ok Try.func40 rfl (c := body40) (by kernel_rfl) (Nat.le_of_ble_eq_true rfl) ?_
  intro E hP hn hx
  replace hn : E.n = 23 := hn
  have hm : E.P.follows .mixedOrders = true := by rw [hP]; exact mixed
  have hΘ : TOK E.P Θ := by rw [hP]; exact Θ_ok
  unfold laws_toThreadS at h
  show WAt E body40 (FQ (RetE Θ Try.f40.results.toList [] [] (AV.own 70 6 (r.map o70)) E)) [] ⟨[(0, (AV.ro 6 (p1.map r92)))], [], [JJ]⟩
  obtain ⟨l2, hl2, h⟩ := bnS h
  exact go_to hΘ hm hx hP hn (hs := [⟨2, .no, some (I (p1.length : Int))⟩, ⟨3, .nw 1001 (List.replicate (Int.toNat (p1.length : Int)) [AV.lit (.int .i64 0), AV.lit (.int .i64 0), AV.lit (.int .i64 0), AV.lit (.int .i64 0), AV.lit (.int .i64 0), AV.lit (.slice none 0 0)]), some (AV.sl 1001 0 (List.length (l2.map o70)))⟩, ⟨4, .own0 1001 (Int.toNat (p1.length : Int)) [AV.lit (.int .i64 0), AV.lit (.int .i64 0), AV.lit (.int .i64 0), AV.lit (.int .i64 0), AV.lit (.int .i64 0)] [] 83 1 (l2.map o70), none⟩]) (π := [(1001, 1)]) (ts := [0, 3, 4]) (kp := []) (ps := [AV.lit (.int .i64 (((p1.map r92).length : Nat) : Int)) = (I (p1.length : Int)), List.replicate (Int.toNat (p1.length : Int)) [.lit (.int .i64 0), .lit (.int .i64 0), .lit (.int .i64 0), .lit (.int .i64 0), .lit (.int .i64 0), .lit (.slice none 0 0)] = (List.replicate (Int.toNat (p1.length : Int)) [AV.lit (.int .i64 0), AV.lit (.int .i64 0), AV.lit (.int .i64 0), AV.lit (.int .i64 0), AV.lit (.int .i64 0), AV.lit (.slice none 0 0)]), AV.sl 1001 0 (Int.toNat (p1.length : Int)) = (AV.sl 1001 0 (List.length (l2.map o70))), (p1.length : Int) = (p1.length : Int), (0 : Int) ≤ (p1.length : Int), (p1.length : Int) * ((64 : Nat) : Int) ≤ 140737488355328, (p1.length : Int) ≤ 140737488355328, (List.replicate (Int.toNat (p1.length : Int)) [AV.lit (.int .i64 0), AV.lit (.int .i64 0), AV.lit (.int .i64 0), AV.lit (.int .i64 0), AV.lit (.int .i64 0), AV.lit (.slice none 0 0)]) = List.replicate (Int.toNat (p1.length : Int)) ([AV.lit (.int .i64 0), AV.lit (.int .i64 0), AV.lit (.int .i64 0), AV.lit (.int .i64 0), AV.lit (.int .i64 0)] ++ AV.lit (.slice none 0 0) :: []), List.replicate (Int.toNat (p1.length : Int)) ([AV.lit (.int .i64 0), AV.lit (.int .i64 0), AV.lit (.int .i64 0), AV.lit (.int .i64 0), AV.lit (.int .i64 0)] ++ AV.own 83 1 [] :: []) = (l2.map o70), RenOK [(1001, 1)] (l2.map o70)]) (by kernel_rfl) ⟨(lenM r92), rfl, (mkS o70 hl2), rfl, (mk0 hl2), (mkB hl2 (by decide)), (mkC hl2), rfl, (mkM o70 hl2), (rok (treeM t70)), trivial⟩ (laws_toThreadS_l0_m hP hn hx p1 FU l2 0 _ h)
noncomputable def body12 : Code := match Try.f12.body with | some c => c | none => .skip
noncomputable def laws_toState (p1 : GState) : Option GState :=
  Option.bind (laws_toThreadS p1.Threads) fun r2 =>
  Option.bind (laws_toFloat64S p1.Cells) fun r3 =>
  Option.bind (laws_toIntS p1.Owner) fun r4 =>
  some (GState.mk r2 r3 r4 p1.Fault)
theorem laws_toState_m {p1 : GState} {r : GState} (h : laws_toState p1 = some r) : Meets Try.prog 12 [(AV.agg ((r29 p1)))] (AV.agg (o39 r)) := by
  refine meets_ofC Θ_ok Try.func12 rfl (c := body12) (by kernel_rfl) (Nat.le_of_ble_eq_true rfl) ?_
  intro E hP hn hx
  replace hn : E.n = 20 := hn
  have hm : E.P.follows .mixedOrders = true := by rw [hP]; exact mixed
  have hΘ : TOK E.P Θ := by rw [hP]; exact Θ_ok
  unfold laws_toState at h
  show WAt E body12 (FQ (RetE Θ Try.f12.results.toList [] [] (AV.agg (o39 r)) E)) [] ⟨[(0, (AV.agg ((r29 p1))))], [], [JJ]⟩
  obtain ⟨r2, hr2, h⟩ := bnS h
  obtain ⟨r3, hr3, h⟩ := bnS h
  obtain ⟨r4, hr4, h⟩ := bnS h
  have h := Option.some.inj h
  subst h
  exact go_ret hΘ hm hP hn (hs := [⟨0, .new 1001, none⟩, ⟨1, .new 1002, none⟩, ⟨2, .new 1003, none⟩, ⟨5, .call [] (AV.own 70 6 (r2.map o70)) [1004], none⟩, ⟨10, .call [] (AV.own 83 1 (r3.map o83)) [1005], none⟩, ⟨15, .call [] (AV.own 3 1 (r4.map o3)) [1006], none⟩]) (rh := []) (ph := .agg [.own, .own, .own, .raw]) (ps := [Meets Try.prog 40 [(AV.ro 6 (p1.Threads.map r92))] (AV.own 70 6 (r2.map o70)), noRo (AV.own 70 6 (r2.map o70)) = true, Meets Try.prog 41 [(AV.ro 1 (p1.Cells.map o83))] (AV.own 83 1 (r3.map o83)), noRo (AV.own 83 1 (r3.map o83)) = true, Meets Try.prog 42 [(AV.ro 1 (p1.Owner.map o3))] (AV.own 3 1 (r4.map o3)), noRo (AV.own 3 1 (r4.map o3)) = true, treeLL ((r2.map o70).take (List.length (r2.map o70))) = true, (r2.map o70).take (List.length (r2.map o70)) = (r2.map o70), noRoLL (r2.map o70) = true, treeLL ((r3.map o83).take (List.length (r3.map o83))) = true, (r3.map o83).take (List.length (r3.map o83)) = (r3.map o83), noRoLL (r3.map o83) = true, treeLL ((r4.map o3).take (List.length (r4.map o3))) = true, (r4.map o3).take (List.length (r4.map o3)) = (r4.map o3), noRoLL (r4.map o3) = true, (I p1.Fault) = (I p1.Fault), litA (I p1.Fault) = true]) (by kernel_rfl) ⟨(laws_toThreadS_m hr2), (by simp only [noRo, noRoL, noRoM n70, Bool.and_self]), (laws_toFloat64S_m hr3), (by simp only [noRo, noRoL, noRoM n83, Bool.and_self]), (laws_toIntS_m hr4), (by simp only [noRo, noRoL, noRoM n3, Bool.and_self]), (treeT t70), takeM, (noRoM n70), (treeT t83), takeM, (noRoM n83), (treeT t3), takeM, (noRoM n3), rfl, rfl, trivial⟩
noncomputable def body68 : Code := match Try.f68.body with | some c => c | none => .skip
noncomputable def spec_l1In (p1 : Int) (p2 : Int) (p3 : Int) : Option Bool :=
  if (decide (p1 ≥ p2)) = true then
    some (decide (p1 ≤ p3))
  else
    some false
theorem spec_l1In_m {p1 : Int} {p2 : Int} {p3 : Int} {r : Bool} (h : spec_l1In p1 p2 p3 = some r) : Meets Try.prog 68 [(I p1), (I p2), (I p3)] (B r) := by
  refine meets_ofC Θ_ok Try.func68 rfl (c := body68) (by kernel_rfl) (Nat.le_of_ble_eq_true rfl) ?_
  intro E hP hn hx
  replace hn : E.n = 15 := hn
  have hm : E.P.follows .mixedOrders = true := by rw [hP]; exact mixed
  have hΘ : TOK E.P Θ := by rw [hP]; exact Θ_ok
  unfold spec_l1In at h
  show WAt E body68 (FQ (RetE Θ Try.f68.results.toList [] [] (B r) E)) [] ⟨[(0, (I p1)), (1, (I p2)), (2, (I p3))], [], [JJ]⟩
  rcases itS h with ⟨c4, h⟩ | ⟨c5, h⟩
  · have h := Option.some.inj h
    subst h
    exact go_ret hΘ hm hP hn (hs := [⟨4, .no, some (B true)⟩]) (rh := []) (ph := .raw) (ps := [(B (decide (p1 ≥ p2))) = (B true), (B (decide (p1 ≤ p3))) = (B (decide (p1 ≤ p3))), litA (B (decide (p1 ≤ p3))) = true]) (by kernel_rfl) ⟨(litB c4), rfl, rfl, trivial⟩
  · have h := Option.some.inj h
    subst h
    exact go_ret hΘ hm hP hn (hs := [⟨4, .no, some (B false)⟩]) (rh := []) (ph := .raw) (ps := [(B (decide (p1 ≥ p2))) = (B false), (B false) = (B false), litA (B false) = true]) (by kernel_rfl) ⟨(litB c5), rfl, rfl, trivial⟩
noncomputable def body117 : Code := match Try.f117.body with | some c => c | none => .skip
noncomputable def spec_IsMinus (p1 : Nat) : Option Bool :=
  if ((fcmp p1 0) == some .lt) = true then
    some true
  else
    if ((fcmp p1 0) == some .eq) = true then
      some ((fcmp (fdv 4607182418800017408 p1) 0) == some .lt)
    else
      some false
theorem spec_IsMinus_m {p1 : Nat} {r : Bool} (h : spec_IsMinus p1 = some r) : Meets Try.prog 117 [(FK p1)] (B r) := by
  refine meets_ofC Θ_ok Try.func117 rfl (c := body117) (by kernel_rfl) (Nat.le_of_ble_eq_true rfl) ?_
  intro E hP hn hx
  replace hn : E.n = 14 := hn
  have hm : E.P.follows .mixedOrders = true := by rw [hP]; exact mixed
  have hΘ : TOK E.P Θ := by rw [hP]; exact Θ_ok
  unfold spec_IsMinus at h
  show WAt E body117 (FQ (RetE Θ Try.f117.results.toList [] [] (B r) E)) [] ⟨[(0, (FK p1))], [], [JJ]⟩
  rcases itS h with ⟨c2, h⟩ | ⟨c3, h⟩
  · have h := Option.some.inj h
    subst h
    exact go_ret hΘ hm hP hn (hs := [⟨2, .bin (B ((fcmp p1 0) == some .lt)), none⟩, ⟨3, .no, some (B true)⟩]) (rh := []) (ph := .raw) (ps := [BinS Try.prog .lss 83 (FK p1) (FK 0) (B ((fcmp p1 0) == some .lt)), (B ((fcmp p1 0) == some .lt)) = (B true), (B true) = (B true), litA (B true) = true]) (by kernel_rfl) ⟨fLss, (litB c2), rfl, rfl, trivial⟩
  · rcases itS h with ⟨c4, h⟩ | ⟨c5, h⟩
    · have h := Option.some.inj h
      subst h
      exact go_ret hΘ hm hP hn (hs := [⟨2, .bin (B ((fcmp p1 0) == some .lt)), none⟩, ⟨3, .no, some (B false)⟩, ⟨5, .bin (B ((fcmp p1 0) == some .eq)), none⟩, ⟨6, .no, some (B true)⟩, ⟨8, .bin (FK (fdv 4607182418800017408 p1)), none⟩, ⟨9, .bin (B ((fcmp (fdv 4607182418800017408 p1) 0) == some .lt)), none⟩]) (rh := []) (ph := .raw) (ps := [BinS Try.prog .lss 83 (FK p1) (FK 0) (B ((fcmp p1 0) == some .lt)), (B ((fcmp p1 0) == some .lt)) = (B false), BinS Try.prog .eql 83 (FK p1) (FK 0) (B ((fcmp p1 0) == some .eq)), (B ((fcmp p1 0) == some .eq)) = (B true), BinS Try.prog .quo 83 (FK 4607182418800017408) (FK p1) (FK (fdv 4607182418800017408 p1)), BinS Try.prog .lss 83 (FK (fdv 4607182418800017408 p1)) (FK 0) (B ((fcmp (fdv 4607182418800017408 p1) 0) == some .lt)), (B ((fcmp (fdv 4607182418800017408 p1) 0) == some .lt)) = (B ((fcmp (fdv 4607182418800017408 p1) 0) == some .lt)), litA (B ((fcmp (fdv 4607182418800017408 p1) 0) == some .lt)) = true]) (by kernel_rfl) ⟨fLss, (litB c3), fEql, (litB c4), fQuo, fLss, rfl, rfl, trivial⟩
    · have h := Option.some.inj h
      subst h
      exact go_ret hΘ hm hP hn (hs := [⟨2, .bin (B ((fcmp p1 0) == some .lt)), none⟩, ⟨3, .no, some (B false)⟩, ⟨5, .bin (B ((fcmp p1 0) == some .eq)), none⟩, ⟨6, .no, some (B false)⟩]) (rh := []) (ph := .raw) (ps := [BinS Try.prog .lss 83 (FK p1) (FK 0) (B ((fcmp p1 0) == some .lt)), (B ((fcmp p1 0) == some .lt)) = (B false), BinS Try.prog .eql 83 (FK p1) (FK 0) (B ((fcmp p1 0) == some .eq)), (B ((fcmp p1 0) == some .eq)) = (B false), (B false) = (B false), litA (B false) = true]) (by kernel_rfl) ⟨fLss, (litB c3), fEql, (litB c5), rfl, rfl, trivial⟩
noncomputable def body116 : Code := match Try.f116.body with | some c => c | none => .skip
noncomputable def spec_l1Nan (p1 : Nat) : Option Bool :=
  some ((fcmp p1 p1) != some .eq)
theorem spec_l1Nan_m {p1 : Nat} {r : Bool} (h : spec_l1Nan p1 = some r) : Meets Try.prog 116 [(FK p1)] (B r) := by
  refine meets_ofC Θ_ok Try.func116 rfl (c := body116) (by kernel_rfl) (Nat.le_of_ble_eq_true rfl) ?_
  intro E hP hn hx
  replace hn : E.n = 6 := hn
  have hm : E.P.follows .mixedOrders = true := by rw [hP]; exact mixed
  have hΘ : TOK E.P Θ := by rw [hP]; exact Θ_ok
  unfold spec_l1Nan at h
  show WAt E body116 (FQ (RetE Θ Try.f116.results.toList [] [] (B r) E)) [] ⟨[(0, (FK p1))], [], [JJ]⟩
  have h := Option.some.inj h
  subst h
  exact go_ret hΘ hm hP hn (hs := [⟨3, .bin (B ((fcmp p1 p1) != some .eq)), none⟩]) (rh := []) (ph := .raw) (ps := [BinS Try.prog .neq 83 (FK p1) (FK p1) (B ((fcmp p1 p1) != some .eq)), (B ((fcmp p1 p1) != some .eq)) = (B ((fcmp p1 p1) != some .eq)), litA (B ((fcmp p1 p1) != some .eq)) = true]) (by kernel_rfl) ⟨fNeq, rfl, rfl, trivial⟩
noncomputable def body101 : Code := match Try.f101.body with | some c => c | none => .skip
noncomputable def spec_l1SameNum_j0  (p1 : Nat) (p2 : Nat)  : Option Bool :=
  if ((fcmp p1 p2) == some .eq) = true then
    Option.bind (spec_IsMinus p1) fun r18 =>
    Option.bind (spec_IsMinus p2) fun r19 =>
    some (r18 == r19)
  else
    some false
theorem spec_l1SameNum_j0_m {E : Env} (hP : E.P = Try.prog) (hn : E.n = 27) (hx : ∀ p, p ∈ E.fx → p.1 ∈ ([] : List Nat)) (p1 : Nat) (p2 : Nat)   (r : Bool) (h : spec_l1SameNum_j0 p1 p2  = some r) : WAt E body101 (FQ (RetE Θ Try.f101.results.toList [] [] (B r) E)) [true, false, true, true] ⟨[(0, (FK p1)), (1, (FK p2))], [], [JJ]⟩ := by
  have hm : E.P.follows .mixedOrders = true := by rw [hP]; exact mixed
  have hΘ : TOK E.P Θ := by rw [hP]; exact Θ_ok
  unfold spec_l1SameNum_j0 at h
  rcases itS h with ⟨c17, h⟩ | ⟨c20, h⟩
  · obtain ⟨r18, hr18, h⟩ := bnS h
    obtain ⟨r19, hr19, h⟩ := bnS h
    have h := Option.some.inj h
    subst h
    exact go_ret hΘ hm hP hn (hs := [⟨2, .bin (B ((fcmp p1 p2) == some .eq)), none⟩, ⟨3, .no, some (B true)⟩, ⟨5, .callV [] (B r18), none⟩, ⟨7, .callV [] (B r19), none⟩]) (rh := []) (ph := .raw) (ps := [BinS Try.prog .eql 83 (FK p1) (FK p2) (B ((fcmp p1 p2) == some .eq)), (B ((fcmp p1 p2) == some .eq)) = (B true), Meets Try.prog 117 [(FK p1)] (B r18), litA (B r18) = true, Meets Try.prog 117 [(FK p2)] (B r19), litA (B r19) = true, (B (r18 == r19)) = (B (r18 == r19)), litA (B (r18 == r19)) = true]) (by kernel_rfl) ⟨fEql, (litB c17), (spec_IsMinus_m hr18), rfl, (spec_IsMinus_m hr19), rfl, rfl, rfl, trivial⟩
  · have h := Option.some.inj h
    subst h
    exact go_ret hΘ hm hP hn (hs := [⟨2, .bin (B ((fcmp p1 p2) == some .eq)), none⟩, ⟨3, .no, some (B false)⟩]) (rh := []) (ph := .raw) (ps := [BinS Try.prog .eql 83 (FK p1) (FK p2) (B ((fcmp p1 p2) == some .eq)), (B ((fcmp p1 p2) == some .eq)) = (B false), (B false) = (B false), litA (B false) = true]) (by kernel_rfl) ⟨fEql, (litB c20), rfl, rfl, trivial⟩
noncomputable def spec_l1SameNum (p1 : Nat) (p2 : Nat) : Option Bool :=
  Option.bind (spec_l1Nan p1) fun r3 =>
  if r3 = true then
    Option.bind (spec_l1Nan p1) fun r5 =>
    if r5 = true then
      Option.bind (spec_l1Nan p2) fun r7 =>
      some r7
    else
      some false
  else
    Option.bind (spec_l1Nan p2) fun r10 =>
    if r10 = true then
      Option.bind (spec_l1Nan p1) fun r12 =>
      if r12 = true then
        Option.bind (spec_l1Nan p2) fun r14 =>
        some r14
      else
        some false
    else
      spec_l1SameNum_j0 p1 p2
theorem spec_l1SameNum_m {p1 : Nat} {p2 : Nat} {r : Bool} (h : spec_l1SameNum p1 p2 = some r) : Meets Try.prog 101 [(FK p1), (FK p2)] (B r) := by
  refine meets_ofC Θ_ok Try.func101 rfl (c := body101) (by kernel_rfl) (Nat.le_of_ble_eq_true rfl) ?_
  intro E hP hn hx
  replace hn : E.n = 27 := hn
  have hm : E.P.follows .mixedOrders = true := by rw [hP]; exact mixed
  have hΘ : TOK E.P Θ := by rw [hP]; exact Θ_ok
  unfold spec_l1SameNum at h
  show WAt E body101 (FQ (RetE Θ Try.f101.results.toList [] [] (B r) E)) [] ⟨[(0, (FK p1)), (1, (FK p2))], [], [JJ]⟩
  obtain ⟨r3, hr3, h⟩ := bnS h
  rcases itS h with ⟨c4, h⟩ | ⟨c9, h⟩
  · obtain ⟨r5, hr5, h⟩ := bnS h
    rcases itS h with ⟨c6, h⟩ | ⟨c8, h⟩
    · obtain ⟨r7, hr7, h⟩ := bnS h
      have h := Option.some.inj h
      subst h
      exact go_ret hΘ hm hP hn (hs := [⟨2, .callV [] (B r3), none⟩, ⟨3, .no, some (B true)⟩, ⟨9, .callV [] (B r5), none⟩, ⟨10, .no, some (B true)⟩, ⟨12, .callV [] (B r7), none⟩]) (rh := []) (ph := .raw) (ps := [Meets Try.prog 116 [(FK p1)] (B r3), litA (B r3) = true, (B r3) = (B true), Meets Try.prog 116 [(FK p1)] (B r5), litA (B r5) = true, (B r5) = (B true), Meets Try.prog 116 [(FK p2)] (B r7), litA (B r7) = true, (B r7) = (B r7), litA (B r7) = true]) (by kernel_rfl) ⟨(spec_l1Nan_m hr3), rfl, (litB c4), (spec_l1Nan_m hr5), rfl, (litB c6), (spec_l1Nan_m hr7), rfl, rfl, rfl, trivial⟩
    · have h := Option.some.inj h
      subst h
      exact go_ret hΘ hm hP hn (hs := [⟨2, .callV [] (B r3), none⟩, ⟨3, .no, some (B true)⟩, ⟨9, .callV [] (B r5), none⟩, ⟨10, .no, some (B false)⟩]) (rh := []) (ph := .raw) (ps := [Meets Try.prog 116 [(FK p1)] (B r3), litA (B r3) = true, (B r3) = (B true), Meets Try.prog 116 [(FK p1)] (B r5), litA (B r5) = true, (B r5) = (B false), (B false) = (B false), litA (B false) = true]) (by kernel_rfl) ⟨(spec_l1Nan_m hr3), rfl, (litB c4), (spec_l1Nan_m hr5), rfl, (litB c8), rfl, rfl, trivial⟩
  · obtain ⟨r10, hr10, h⟩ := bnS h
    rcases itS h with ⟨c11, h⟩ | ⟨c16, h⟩
    · obtain ⟨r12, hr12, h⟩ := bnS h
      rcases itS h with ⟨c13, h⟩ | ⟨c15, h⟩
      · obtain ⟨r14, hr14, h⟩ := bnS h
        have h := Option.some.inj h
        subst h
        exact go_ret hΘ hm hP hn (hs := [⟨2, .callV [] (B r3), none⟩, ⟨3, .no, some (B false)⟩, ⟨5, .callV [] (B r10), none⟩, ⟨7, .br true, none⟩, ⟨9, .callV [] (B r12), none⟩, ⟨10, .no, some (B true)⟩, ⟨12, .callV [] (B r14), none⟩]) (rh := []) (ph := .raw) (ps := [Meets Try.prog 116 [(FK p1)] (B r3), litA (B r3) = true, (B r3) = (B false), Meets Try.prog 116 [(FK p2)] (B r10), litA (B r10) = true, r10 = true, Meets Try.prog 116 [(FK p1)] (B r12), litA (B r12) = true, (B r12) = (B true), Meets Try.prog 116 [(FK p2)] (B r14), litA (B r14) = true, (B r14) = (B r14), litA (B r14) = true]) (by kernel_rfl) ⟨(spec_l1Nan_m hr3), rfl, (litB c9), (spec_l1Nan_m hr10), rfl, c11, (spec_l1Nan_m hr12), rfl, (litB c13), (spec_l1Nan_m hr14), rfl, rfl, rfl, trivial⟩
      · have h := Option.some.inj h
        subst h
        exact go_ret hΘ hm hP hn (hs := [⟨2, .callV [] (B r3), none⟩, ⟨3, .no, some (B false)⟩, ⟨5, .callV [] (B r10), none⟩, ⟨7, .br true, none⟩, ⟨9, .callV [] (B r12), none⟩, ⟨10, .no, some (B false)⟩]) (rh := []) (ph := .raw) (ps := [Meets Try.prog 116 [(FK p1)] (B r3), litA (B r3) = true, (B r3) = (B false), Meets Try.prog 116 [(FK p2)] (B r10), litA (B r10) = true, r10 = true, Meets Try.prog 116 [(FK p1)] (B r12), litA (B r12) = true, (B r12) = (B false), (B false) = (B false), litA (B false) = true]) (by kernel_rfl) ⟨(spec_l1Nan_m hr3), rfl, (litB c9), (spec_l1Nan_m hr10), rfl, c11, (spec_l1Nan_m hr12), rfl, (litB c15), rfl, rfl, trivial⟩
    · exact go_to hΘ hm hx hP hn (hs := [⟨2, .callV [] (B r3), none⟩, ⟨3, .no, some (B false)⟩, ⟨5, .callV [] (B r10), none⟩, ⟨7, .br false, none⟩]) (π := []) (ts := [0, 1]) (kp := []) (ps := [Meets Try.prog 116 [(FK p1)] (B r3), litA (B r3) = true, (B r3) = (B false), Meets Try.prog 116 [(FK p2)] (B r10), litA (B r10) = true, r10 = false]) (by kernel_rfl) ⟨(spec_l1Nan_m hr3), rfl, (litB c9), (spec_l1Nan_m hr10), rfl, c16, trivial⟩ (spec_l1SameNum_j0_m hP hn hx p1 p2  _ h)
noncomputable def body100 : Code := match Try.f100.body with | some c => c | none => .skip
noncomputable def spec_l2Uses_j0  (p1 : Int) (v5 : Bool) : Option Str :=
  if v5 = true then
    some [97]
  else
    if (p1 == 16) = true then
      some [97, 98]
    else
      some []
theorem spec_l2Uses_j0_m {E : Env} (hP : E.P = Try.prog) (hn : E.n = 17) (hx : ∀ p, p ∈ E.fx → p.1 ∈ ([] : List Nat)) (p1 : Int)  (v5 : Bool) (r : Str) (h : spec_l2Uses_j0 p1 v5 = some r) : WAt E body100 (FQ (RetE Θ Try.f100.results.toList [] [] (SK r) E)) [true, false, true, false, true, true, true] ⟨[(3, (I p1)), (6, (B v5))], [], [JJ]⟩ := by
  have hm : E.P.follows .mixedOrders = true := by rw [hP]; exact mixed
  have hΘ : TOK E.P Θ := by rw [hP]; exact Θ_ok
  unfold spec_l2Uses_j0 at h
  rcases itS h with ⟨c6, h⟩ | ⟨c7, h⟩
  · have h := Option.some.inj h
    subst h
    exact go_ret hΘ hm hP hn (hs := [⟨0, .br true, none⟩]) (rh := []) (ph := .raw) (ps := [v5 = true, (SK [97]) = (SK [97]), litA (SK [97]) = true]) (by kernel_rfl) ⟨c6, rfl, rfl, trivial⟩
  · rcases itS h with ⟨c8, h⟩ | ⟨c9, h⟩
    · have h := Option.some.inj h
      subst h
      exact go_ret hΘ hm hP hn (hs := [⟨0, .br false, none⟩, ⟨3, .br true, none⟩]) (rh := []) (ph := .raw) (ps := [v5 = false, (p1 == 16) = true, (SK [97, 98]) = (SK [97, 98]), litA (SK [97, 98]) = true]) (by kernel_rfl) ⟨c7, c8, rfl, rfl, trivial⟩
    · have h := Option.some.inj h
      subst h
      exact go_ret hΘ hm hP hn (hs := [⟨0, .br false, none⟩, ⟨3, .br false, none⟩]) (rh := []) (ph := .raw) (ps := [v5 = false, (p1 == 16) = false, (SK []) = (SK []), litA (SK []) = true]) (by kernel_rfl) ⟨c7, c9, rfl, rfl, trivial⟩
noncomputable def spec_l2Uses (p1 : Int) : Option Str :=
  if (p1 == 1) = true then
    some [118]
  else
    if (p1 == 2) = true then
      spec_l2Uses_j0 p1 (p1 == 2)
    else
      if (p1 == 3) = true then
        spec_l2Uses_j0 p1 (p1 == 3)
      else
        if (p1 == 10) = true then
          spec_l2Uses_j0 p1 (p1 == 10)
        else
          if (p1 == 11) = true then
            spec_l2Uses_j0 p1 (p1 == 11)
          else
            if (p1 == 12) = true then
              spec_l2Uses_j0 p1 (p1 == 12)
            else
              if (p1 == 13) = true then
                spec_l2Uses_j0 p1 (p1 == 13)
              else
                if (p1 == 14) = true then
                  spec_l2Uses_j0 p1 (p1 == 14)
                else
                  spec_l2Uses_j0 p1 (p1 == 17)
theorem spec_l2Uses_m {p1 : Int} {r : Str} (h : spec_l2Uses p1 = some r) : Meets Try.prog 100 [(I p1)] (SK r) := by
  refine meets_ofC Θ_ok Try.func100 rfl (c := body100) (by kernel_rfl) (Nat.le_of_ble_eq_true rfl) ?_
  intro E hP hn hx
  replace hn : E.n = 17 := hn
  have hm : E.P.follows .mixedOrders = true := by rw [hP]; exact mixed
  have hΘ : TOK E.P Θ := by rw [hP]; exact Θ_ok
  unfold spec_l2Uses at h
  show WAt E body100 (FQ (RetE Θ Try.f100.results.toList [] [] (SK r) E)) [] ⟨[(0, (I p1))], [], [JJ]⟩
  rcases itS h with ⟨c2, h⟩ | ⟨c3, h⟩
  · have h := Option.some.inj h
    subst h
    exact go_ret hΘ hm hP hn (hs := [⟨4, .br true, none⟩]) (rh := []) (ph := .raw) (ps := [(p1 == 1) = true, (SK [118]) = (SK [118]), litA (SK [118]) = true]) (by kernel_rfl) ⟨c2, rfl, rfl, trivial⟩
  · rcases itS h with ⟨c4, h⟩ | ⟨c10, h⟩
    · exact go_to hΘ hm hx hP hn (hs := [⟨4, .br false, none⟩, ⟨7, .br true, none⟩]) (π := []) (ts := [3, 6]) (kp := []) (ps := [(p1 == 1) = false, (p1 == 2) = true]) (by kernel_rfl) ⟨c3, c4, trivial⟩ (spec_l2Uses_j0_m hP hn hx p1 (p1 == 2) _ h)
    · rcases itS h with ⟨c11, h⟩ | ⟨c12, h⟩
      · exact go_to hΘ hm hx hP hn (hs := [⟨4, .br false, none⟩, ⟨7, .br false, none⟩, ⟨10, .br true, none⟩]) (π := []) (ts := [3, 6]) (kp := []) (ps := [(p1 == 1) = false, (p1 == 2) = false, (p1 == 3) = true]) (by kernel_rfl) ⟨c3, c10, c11, trivial⟩ (spec_l2Uses_j0_m hP hn hx p1 (p1 == 3) _ h)
      · rcases itS h with ⟨c13, h⟩ | ⟨c14, h⟩
        · exact go_to hΘ hm hx hP hn (hs := [⟨4, .br false, none⟩, ⟨7, .br false, none⟩, ⟨10, .br false, none⟩, ⟨13, .br true, none⟩]) (π := []) (ts := [3, 6]) (kp := []) (ps := [(p1 == 1) = false, (p1 == 2) = false, (p1 == 3) = false, (p1 == 10) = true]) (by kernel_rfl) ⟨c3, c10, c12, c13, trivial⟩ (spec_l2Uses_j0_m hP hn hx p1 (p1 == 10) _ h)
        · rcases itS h with ⟨c15, h⟩ | ⟨c16, h⟩
          · exact go_to hΘ hm hx hP hn (hs := [⟨4, .br false, none⟩, ⟨7, .br false, none⟩, ⟨10, .br false, none⟩, ⟨13, .br false, none⟩, ⟨16, .br true, none⟩]) (π := []) (ts := [3, 6]) (kp := []) (ps := [(p1 == 1) = false, (p1 == 2) = false, (p1 == 3) = false, (p1 == 10) = false, (p1 == 11) = true]) (by kernel_rfl) ⟨c3, c10, c12, c14, c15, trivial⟩ (spec_l2Uses_j0_m hP hn hx p1 (p1 == 11) _ h)
          · rcases itS h with ⟨c17, h⟩ | ⟨c18, h⟩
            · exact go_to hΘ hm hx hP hn (hs := [⟨4, .br false, none⟩, ⟨7, .br false, none⟩, ⟨10, .br false, none⟩, ⟨13, .br false, none⟩, ⟨16, .br false, none⟩, ⟨19, .br true, none⟩]) (π := []) (ts := [3, 6]) (kp := []) (ps := [(p1 == 1) = false, (p1 == 2) = false, (p1 == 3) = false, (p1 == 10) = false, (p1 == 11) = false, (p1 == 12) = true]) (by kernel_rfl) ⟨c3, c10, c12, c14, c16, c17, trivial⟩ (spec_l2Uses_j0_m hP hn hx p1 (p1 == 12) _ h)
            · rcases itS h with ⟨c19, h⟩ | ⟨c20, h⟩
              · exact go_to hΘ hm hx hP hn (hs := [⟨4, .br false, none⟩, ⟨7, .br false, none⟩, ⟨10, .br false, none⟩, ⟨13, .br false, none⟩, ⟨16, .br false, none⟩, ⟨19, .br false, none⟩, ⟨22, .br true, none⟩]) (π := []) (ts := [3, 6]) (kp := []) (ps := [(p1 == 1) = false, (p1 == 2) = false, (p1 == 3) = false, (p1 == 10) = false, (p1 == 11) = false, (p1 == 12) = false, (p1 == 13) = true]) (by kernel_rfl) ⟨c3, c10, c12, c14, c16, c18, c19, trivial⟩ (spec_l2Uses_j0_m hP hn hx p1 (p1 == 13) _ h)
              · rcases itS h with ⟨c21, h⟩ | ⟨c22, h⟩
                · exact go_to hΘ hm hx hP hn (hs := [⟨4, .br false, none⟩, ⟨7, .br false, none⟩, ⟨10, .br false, none⟩, ⟨13, .br false, none⟩, ⟨16, .br false, none⟩, ⟨19, .br false, none⟩, ⟨22, .br false, none⟩, ⟨25, .br true, none⟩]) (π := []) (ts := [3, 6]) (kp := []) (ps := [(p1 == 1) = false, (p1 == 2) = false, (p1 == 3) = false, (p1 == 10) = false, (p1 == 11) = false, (p1 == 12) = false, (p1 == 13) = false, (p1 == 14) = true]) (by kernel_rfl) ⟨c3, c10, c12, c14, c16, c18, c20, c21, trivial⟩ (spec_l2Uses_j0_m hP hn hx p1 (p1 == 14) _ h)
                · exact go_to hΘ hm hx hP hn (hs := [⟨4, .br false, none⟩, ⟨7, .br false, none⟩, ⟨10, .br false, none⟩, ⟨13, .br false, none⟩, ⟨16, .br false, none⟩, ⟨19, .br false, none⟩, ⟨22, .br false, none⟩, ⟨25, .br false, none⟩]) (π := []) (ts := [3, 6]) (kp := []) (ps := [(p1 == 1) = false, (p1 == 2) = false, (p1 == 3) = false, (p1 == 10) = false, (p1 == 11) = false, (p1 == 12) = false, (p1 == 13) = false, (p1 == 14) = false]) (by kernel_rfl) ⟨c3, c10, c12, c14, c16, c18, c20, c22, trivial⟩ (spec_l2Uses_j0_m hP hn hx p1 (p1 == 17) _ h)
noncomputable def body90 : Code := match Try.f90.body with | some c => c | none => .skip
noncomputable def spec_l2Plain_j0  (p1 : GOp) (r2 : Str)  : Option Bool :=
  if (r2 == [118]) = true then
    if (r2 == [97]) = true then
      if (r2 == [97, 98]) = true then
        some true
      else
        some (p1.B == 0)
    else
      if (r2 == [97, 98]) = true then
        if (r2 == [97, 98]) = true then
          some true
        else
          some (p1.B == 0)
      else
        if (p1.A == 0) = true then
          if (r2 == [97, 98]) = true then
            some true
          else
            some (p1.B == 0)
        else
          some false
  else
    Option.bind (spec_l1SameNum p1.V 0) fun r30 =>
    if r30 = true then
      if (r2 == [97]) = true then
        if (r2 == [97, 98]) = true then
          some true
        else
          some (p1.B == 0)
      else
        if (r2 == [97, 98]) = true then
          if (r2 == [97, 98]) = true then
            some true
          else
            some (p1.B == 0)
        else
          if (p1.A == 0) = true then
            if (r2 == [97, 98]) = true then
              some true
            else
              some (p1.B == 0)
          else
            some false
    else
      some false
theorem spec_l2Plain_j0_m {E : Env} (hP : E.P = Try.prog) (hn : E.n = 52) (hx : ∀ p, p ∈ E.fx → p.1 ∈ ([] : List Nat)) (p1 : GOp) (r2 : Str)   (r : Bool) (h : spec_l2Plain_j0 p1 r2  = some r) : WAt E body90 (FQ (RetE Θ Try.f90.results.toList [] [] (B r) E)) [true, true, false, true, true] ⟨[(1, (AV.ptr 1 0 0)), (3, (SK r2))], [(1, some ⟨85, 4, [((o85 p1))]⟩)], [1, JJ]⟩ := by
  have hm : E.P.follows .mixedOrders = true := by rw [hP]; exact mixed
  have hΘ : TOK E.P Θ := by rw [hP]; exact Θ_ok
  unfold spec_l2Plain_j0 at h
  rcases itS h with ⟨c12, h⟩ | ⟨c25, h⟩
  · rcases itS h with ⟨c13, h⟩ | ⟨c16, h⟩
    · rcases itS h with ⟨c14, h⟩ | ⟨c15, h⟩
      · have h := Option.some.inj h
        subst h
        exact go_ret hΘ hm hP hn (hs := [⟨1, .bin (B (r2 == [118])), none⟩, ⟨2, .no, some (B true)⟩, ⟨9, .bin (B (r2 == [97])), none⟩, ⟨10, .no, some (B true)⟩, ⟨22, .bin (B (r2 == [97, 98])), none⟩, ⟨23, .no, some (B true)⟩]) (rh := []) (ph := .raw) (ps := [BinS Try.prog .eql 9 (SK r2) (SK [118]) (B (r2 == [118])), (B (r2 == [118])) = (B true), BinS Try.prog .eql 9 (SK r2) (SK [97]) (B (r2 == [97])), (B (r2 == [97])) = (B true), BinS Try.prog .eql 9 (SK r2) (SK [97, 98]) (B (r2 == [97, 98])), (B (r2 == [97, 98])) = (B true), (B true) = (B true), litA (B true) = true]) (by kernel_rfl) ⟨sEql, (litB c12), sEql, (litB c13), sEql, (litB c14), rfl, rfl, trivial⟩
      · have h := Option.some.inj h
        subst h
        exact go_ret hΘ hm hP hn (hs := [⟨1, .bin (B (r2 == [118])), none⟩, ⟨2, .no, some (B true)⟩, ⟨9, .bin (B (r2 == [97])), none⟩, ⟨10, .no, some (B true)⟩, ⟨22, .bin (B (r2 == [97, 98])), none⟩, ⟨23, .no, some (B false)⟩]) (rh := []) (ph := .raw) (ps := [BinS Try.prog .eql 9 (SK r2) (SK [118]) (B (r2 == [118])), (B (r2 == [118])) = (B true), BinS Try.prog .eql 9 (SK r2) (SK [97]) (B (r2 == [97])), (B (r2 == [97])) = (B true), BinS Try.prog .eql 9 (SK r2) (SK [97, 98]) (B (r2 == [97, 98])), (B (r2 == [97, 98])) = (B false), (B (p1.B == 0)) = (B (p1.B == 0)), litA (B (p1.B == 0)) = true]) (by kernel_rfl) ⟨sEql, (litB c12), sEql, (litB c13), sEql, (litB c15), rfl, rfl, trivial⟩
    · rcases itS h with ⟨c17, h⟩ | ⟨c20, h⟩
      · rcases itS h with ⟨c18, h⟩ | ⟨c19, h⟩
        · have h := Option.some.inj h
          subst h
          exact go_ret hΘ hm hP hn (hs := [⟨1, .bin (B (r2 == [118])), none⟩, ⟨2, .no, some (B true)⟩, ⟨9, .bin (B (r2 == [97])), none⟩, ⟨10, .no, some (B false)⟩, ⟨12, .bin (B (r2 == [97, 98])), none⟩, ⟨14, .no, some (B true)⟩, ⟨22, .bin (B (r2 == [97, 98])), none⟩, ⟨23, .no, some (B true)⟩]) (rh := []) (ph := .raw) (ps := [BinS Try.prog .eql 9 (SK r2) (SK [118]) (B (r2 == [118])), (B (r2 == [118])) = (B true), BinS Try.prog .eql 9 (SK r2) (SK [97]) (B (r2 == [97])), (B (r2 == [97])) = (B false), BinS Try.prog .eql 9 (SK r2) (SK [97, 98]) (B (r2 == [97, 98])), (B (r2 == [97, 98])) = (B true), BinS Try.prog .eql 9 (SK r2) (SK [97, 98]) (B (r2 == [97, 98])), (B (r2 == [97, 98])) = (B true), (B true) = (B true), litA (B true) = true]) (by kernel_rfl) ⟨sEql, (litB c12), sEql, (litB c16), sEql, (litB c17), sEql, (litB c18), rfl, rfl, trivial⟩
        · have h := Option.some.inj h
          subst h
          exact go_ret hΘ hm hP hn (hs := [⟨1, .bin (B (r2 == [118])), none⟩, ⟨2, .no, some (B true)⟩, ⟨9, .bin (B (r2 == [97])), none⟩, ⟨10, .no, some (B false)⟩, ⟨12, .bin (B (r2 == [97, 98])), none⟩, ⟨14, .no, some (B true)⟩, ⟨22, .bin (B (r2 == [97, 98])), none⟩, ⟨23, .no, some (B false)⟩]) (rh := []) (ph := .raw) (ps := [BinS Try.prog .eql 9 (SK r2) (SK [118]) (B (r2 == [118])), (B (r2 == [118])) = (B true), BinS Try.prog .eql 9 (SK r2) (SK [97]) (B (r2 == [97])), (B (r2 == [97])) = (B false), BinS Try.prog .eql 9 (SK r2) (SK [97, 98]) (B (r2 == [97, 98])), (B (r2 == [97, 98])) = (B true), BinS Try.prog .eql 9 (SK r2) (SK [97, 98]) (B (r2 == [97, 98])), (B (r2 == [97, 98])) = (B false), (B (p1.B == 0)) = (B (p1.B == 0)), litA (B (p1.B == 0)) = true]) (by kernel_rfl) ⟨sEql, (litB c12), sEql, (litB c16), sEql, (litB c17), sEql, (litB c19), rfl, rfl, trivial⟩
      · rcases itS h with ⟨c21, h⟩ | ⟨c24, h⟩
        · rcases itS h with ⟨c22, h⟩ | ⟨c23, h⟩
          · have h := Option.some.inj h
            subst h
            exact go_ret hΘ hm hP hn (hs := [⟨1, .bin (B (r2 == [118])), none⟩, ⟨2, .no, some (B true)⟩, ⟨9, .bin (B (r2 == [97])), none⟩, ⟨10, .no, some (B false)⟩, ⟨12, .bin (B (r2 == [97, 98])), none⟩, ⟨14, .no, some (B false)⟩, ⟨20, .no, some (B true)⟩, ⟨22, .bin (B (r2 == [97, 98])), none⟩, ⟨23, .no, some (B true)⟩]) (rh := []) (ph := .raw) (ps := [BinS Try.prog .eql 9 (SK r2) (SK [118]) (B (r2 == [118])), (B (r2 == [118])) = (B true), BinS Try.prog .eql 9 (SK r2) (SK [97]) (B (r2 == [97])), (B (r2 == [97])) = (B false), BinS Try.prog .eql 9 (SK r2) (SK [97, 98]) (B (r2 == [97, 98])), (B (r2 == [97, 98])) = (B false), (B (p1.A == 0)) = (B true), BinS Try.prog .eql 9 (SK r2) (SK [97, 98]) (B (r2 == [97, 98])), (B (r2 == [97, 98])) = (B true), (B true) = (B true), litA (B true) = true]) (by kernel_rfl) ⟨sEql, (litB c12), sEql, (litB c16), sEql, (litB c20), (litB c21), sEql, (litB c22), rfl, rfl, trivial⟩
          · have h := Option.some.inj h
            subst h
            exact go_ret hΘ hm hP hn (hs := [⟨1, .bin (B (r2 == [118])), none⟩, ⟨2, .no, some (B true)⟩, ⟨9, .bin (B (r2 == [97])), none⟩, ⟨10, .no, some (B false)⟩, ⟨12, .bin (B (r2 == [97, 98])), none⟩, ⟨14, .no, some (B false)⟩, ⟨20, .no, some (B true)⟩, ⟨22, .bin (B (r2 == [97, 98])), none⟩, ⟨23, .no, some (B false)⟩]) (rh := []) (ph := .raw) (ps := [BinS Try.prog .eql 9 (SK r2) (SK [118]) (B (r2 == [118])), (B (r2 == [118])) = (B true), BinS Try.prog .eql 9 (SK r2) (SK [97]) (B (r2 == [97])), (B (r2 == [97])) = (B false), BinS Try.prog .eql 9 (SK r2) (SK [97, 98]) (B (r2 == [97, 98])), (B (r2 == [97, 98])) = (B false), (B (p1.A == 0)) = (B true), BinS Try.prog .eql 9 (SK r2) (SK [97, 98]) (B (r2 == [97, 98])), (B (r2 == [97, 98])) = (B false), (B (p1.B == 0)) = (B (p1.B == 0)), litA (B (p1.B == 0)) = true]) (by kernel_rfl) ⟨sEql, (litB c12), sEql, (litB c16), sEql, (litB c20), (litB c21), sEql, (litB c23), rfl, rfl, trivial⟩
        · have h := Option.some.inj h
          subst h
          exact go_ret hΘ hm hP hn (hs := [⟨1, .bin (B (r2 == [118])), none⟩, ⟨2, .no, some (B true)⟩, ⟨9, .bin (B (r2 == [97])), none⟩, ⟨10, .no, some (B false)⟩, ⟨12, .bin (B (r2 == [97, 98])), none⟩, ⟨14, .no, some (B false)⟩, ⟨20, .no, some (B false)⟩]) (rh := []) (ph := .raw) (ps := [BinS Try.prog .eql 9 (SK r2) (SK [118]) (B (r2 == [118])), (B (r2 == [118])) = (B true), BinS Try.prog .eql 9 (SK r2) (SK [97]) (B (r2 == [97])), (B (r2 == [97])) = (B false), BinS Try.prog .eql 9 (SK r2) (SK [97, 98]) (B (r2 == [97, 98])), (B (r2 == [97, 98])) = (B false), (B (p1.A == 0)) = (B false), (B false) = (B false), litA (B false) = true]) (by kernel_rfl) ⟨sEql, (litB c12), sEql, (litB c16), sEql, (litB c20), (litB c24), rfl, rfl, trivial⟩
  · obtain ⟨r30, hr30, h⟩ := bnS h
    rcases itS h with ⟨c31, h⟩ | ⟨c44, h⟩
    · rcases itS h with ⟨c32, h⟩ | ⟨c35, h⟩
      · rcases itS h with ⟨c33, h⟩ | ⟨c34, h⟩
        · have h := Option.some.inj h
          subst h
          exact go_ret hΘ hm hP hn (hs := [⟨1, .bin (B (r2 == [118])), none⟩, ⟨2, .no, some (B false)⟩, ⟨5, .callV [] (B r30), none⟩, ⟨7, .no, some (B true)⟩, ⟨9, .bin (B (r2 == [97])), none⟩, ⟨10, .no, some (B true)⟩, ⟨22, .bin (B (r2 == [97, 98])), none⟩, ⟨23, .no, some (B true)⟩]) (rh := []) (ph := .raw) (ps := [BinS Try.prog .eql 9 (SK r2) (SK [118]) (B (r2 == [118])), (B (r2 == [118])) = (B false), Meets Try.prog 101 [(FK p1.V), (FK 0)] (B r30), litA (B r30) = true, (B r30) = (B true), BinS Try.prog .eql 9 (SK r2) (SK [97]) (B (r2 == [97])), (B (r2 == [97])) = (B true), BinS Try.prog .eql 9 (SK r2) (SK [97, 98]) (B (r2 == [97, 98])), (B (r2 == [97, 98])) = (B true), (B true) = (B true), litA (B true) = true]) (by kernel_rfl) ⟨sEql, (litB c25), (spec_l1SameNum_m hr30), rfl, (litB c31), sEql, (litB c32), sEql, (litB c33), rfl, rfl, trivial⟩
        · have h := Option.some.inj h
          subst h
          exact go_ret hΘ hm hP hn (hs := [⟨1, .bin (B (r2 == [118])), none⟩, ⟨2, .no, some (B false)⟩, ⟨5, .callV [] (B r30), none⟩, ⟨7, .no, some (B true)⟩, ⟨9, .bin (B (r2 == [97])), none⟩, ⟨10, .no, some (B true)⟩, ⟨22, .bin (B (r2 == [97, 98])), none⟩, ⟨23, .no, some (B false)⟩]) (rh := []) (ph := .raw) (ps := [BinS Try.prog .eql 9 (SK r2) (SK [118]) (B (r2 == [118])), (B (r2 == [118])) = (B false), Meets Try.prog 101 [(FK p1.V), (FK 0)] (B r30), litA (B r30) = true, (B r30) = (B true), BinS Try.prog .eql 9 (SK r2) (SK [97]) (B (r2 == [97])), (B (r2 == [97])) = (B true), BinS Try.prog .eql 9 (SK r2) (SK [97, 98]) (B (r2 == [97, 98])), (B (r2 == [97, 98])) = (B false), (B (p1.B == 0)) = (B (p1.B == 0)), litA (B (p1.B == 0)) = true]) (by kernel_rfl) ⟨sEql, (litB c25), (spec_l1SameNum_m hr30), rfl, (litB c31), sEql, (litB c32), sEql, (litB c34), rfl, rfl, trivial⟩
      · rcases itS h with ⟨c36, h⟩ | ⟨c39, h⟩
        · rcases itS h with ⟨c37, h⟩ | ⟨c38, h⟩
          · have h := Option.some.inj h
            subst h
            exact go_ret hΘ hm hP hn (hs := [⟨1, .bin (B (r2 == [118])), none⟩, ⟨2, .no, some (B false)⟩, ⟨5, .callV [] (B r30), none⟩, ⟨7, .no, some (B true)⟩, ⟨9, .bin (B (r2 == [97])), none⟩, ⟨10, .no, some (B false)⟩, ⟨12, .bin (B (r2 == [97, 98])), none⟩, ⟨14, .no, some (B true)⟩, ⟨22, .bin (B (r2 == [97, 98])), none⟩, ⟨23, .no, some (B true)⟩]) (rh := []) (ph := .raw) (ps := [BinS Try.prog .eql 9 (SK r2) (SK [118]) (B (r2 == [118])), (B (r2 == [118])) = (B false), Meets Try.prog 101 [(FK p1.V), (FK 0)] (B r30), litA (B r30) = true, (B r30) = (B true), BinS Try.prog .eql 9 (SK r2) (SK [97]) (B (r2 == [97])), (B (r2 == [97])) = (B false), BinS Try.prog .eql 9 (SK r2) (SK [97, 98]) (B (r2 == [97, 98])), (B (r2 == [97, 98])) = (B true), BinS Try.prog .eql 9 (SK r2) (SK [97, 98]) (B (r2 == [97, 98])), (B (r2 == [97, 98])) = (B true), (B true) = (B true), litA (B true) = true]) (by kernel_rfl) ⟨sEql, (litB c25), (spec_l1SameNum_m hr30), rfl, (litB c31), sEql, (litB c35), sEql, (litB c36), sEql, (litB c37), rfl, rfl, trivial⟩
          · have h := Option.some.inj h
            subst h
            exact go_ret hΘ hm hP hn (hs := [⟨1, .bin (B (r2 == [118])), none⟩, ⟨2, .no, some (B false)⟩, ⟨5, .callV [] (B r30), none⟩, ⟨7, .no, some (B true)⟩, ⟨9, .bin (B (r2 == [97])), none⟩, ⟨10, .no, some (B false)⟩, ⟨12, .bin (B (r2 == [97, 98])), none⟩, ⟨14, .no, some (B true)⟩, ⟨22, .bin (B (r2 == [97, 98])), none⟩, ⟨23, .no, some (B false)⟩]) (rh := []) (ph := .raw) (ps := [BinS Try.prog .eql 9 (SK r2) (SK [118]) (B (r2 == [118])), (B (r2 == [118])) = (B false), Meets Try.prog 101 [(FK p1.V), (FK 0)] (B r30), litA (B r30) = true, (B r30) = (B true), BinS Try.prog .eql 9 (SK r2) (SK [97]) (B (r2 == [97])), (B (r2 == [97])) = (B false), BinS Try.prog .eql 9 (SK r2) (SK [97, 98]) (B (r2 == [97, 98])), (B (r2 == [97, 98])) = (B true), BinS Try.prog .eql 9 (SK r2) (SK [97, 98]) (B (r2 == [97, 98])), (B (r2 == [97, 98])) = (B false), (B (p1.B == 0)) = (B (p1.B == 0)), litA (B (p1.B == 0)) = true]) (by kernel_rfl) ⟨sEql, (litB c25), (spec_l1SameNum_m hr30), rfl, (litB c31), sEql, (litB c35), sEql, (litB c36), sEql, (litB c38), rfl, rfl, trivial⟩
        · rcases itS h with ⟨c40, h⟩ | ⟨c43, h⟩
          · rcases itS h with ⟨c41, h⟩ | ⟨c42, h⟩
            · have h := Option.some.inj h
              subst h
              exact go_ret hΘ hm hP hn (hs := [⟨1, .bin (B (r2 == [118])), none⟩, ⟨2, .no, some (B false)⟩, ⟨5, .callV [] (B r30), none⟩, ⟨7, .no, some (B true)⟩, ⟨9, .bin (B (r2 == [97])), none⟩, ⟨10, .no, some (B false)⟩, ⟨12, .bin (B (r2 == [97, 98])), none⟩, ⟨14, .no, some (B false)⟩, ⟨20, .no, some (B true)⟩, ⟨22, .bin (B (r2 == [97, 98])), none⟩, ⟨23, .no, some (B true)⟩]) (rh := []) (ph := .raw) (ps := [BinS Try.prog .eql 9 (SK r2) (SK [118]) (B (r2 == [118])), (B (r2 == [118])) = (B false), Meets Try.prog 101 [(FK p1.V), (FK 0)] (B r30), litA (B r30) = true, (B r30) = (B true), BinS Try.prog .eql 9 (SK r2) (SK [97]) (B (r2 == [97])), (B (r2 == [97])) = (B false), BinS Try.prog .eql 9 (SK r2) (SK [97, 98]) (B (r2 == [97, 98])), (B (r2 == [97, 98])) = (B false), (B (p1.A == 0)) = (B true), BinS Try.prog .eql 9 (SK r2) (SK [97, 98]) (B (r2 == [97, 98])), (B (r2 == [97, 98])) = (B true), (B true) = (B true), litA (B true) = true]) (by kernel_rfl) ⟨sEql, (litB c25), (spec_l1SameNum_m hr30), rfl, (litB c31), sEql, (litB c35), sEql, (litB c39), (litB c40), sEql, (litB c41), rfl, rfl, trivial⟩
            · have h := Option.some.inj h
              subst h
              exact go_ret hΘ hm hP hn (hs := [⟨1, .bin (B (r2 == [118])), none⟩, ⟨2, .no, some (B false)⟩, ⟨5, .callV [] (B r30), none⟩, ⟨7, .no, some (B true)⟩, ⟨9, .bin (B (r2 == [97])), none⟩, ⟨10, .no, some (B false)⟩, ⟨12, .bin (B (r2 == [97, 98])), none⟩, ⟨14, .no, some (B false)⟩, ⟨20, .no, some (B true)⟩, ⟨22, .bin (B (r2 == [97, 98])), none⟩, ⟨23, .no, some (B false)⟩]) (rh := []) (ph := .raw) (ps := [BinS Try.prog .eql 9 (SK r2) (SK [118]) (B (r2 == [118])), (B (r2 == [118])) = (B false), Meets Try.prog 101 [(FK p1.V), (FK 0)] (B r30), litA (B r30) = true, (B r30) = (B true), BinS Try.prog .eql 9 (SK r2) (SK [97]) (B (r2 == [97])), (B (r2 == [97])) = (B false), BinS Try.prog .eql 9 (SK r2) (SK [97, 98]) (B (r2 == [97, 98])), (B (r2 == [97, 98])) = (B false), (B (p1.A == 0)) = (B true), BinS Try.prog .eql 9 (SK r2) (SK [97, 98]) (B (r2 == [97, 98])), (B (r2 == [97, 98])) = (B false), (B (p1.B == 0)) = (B (p1.B == 0)), litA (B (p1.B == 0)) = true]) (by kernel_rfl) ⟨sEql, (litB c25), (spec_l1SameNum_m hr30), rfl, (litB c31), sEql, (litB c35), sEql, (litB c39), (litB c40), sEql, (litB c42), rfl, rfl, trivial⟩
          · have h := Option.some.inj h
            subst h
            exact go_ret hΘ hm hP hn (hs := [⟨1, .bin (B (r2 == [118])), none⟩, ⟨2, .no, some (B false)⟩, ⟨5, .callV [] (B r30), none⟩, ⟨7, .no, some (B true)⟩, ⟨9, .bin (B (r2 == [97])), none⟩, ⟨10, .no, some (B false)⟩, ⟨12, .bin (B (r2 == [97, 98])), none⟩, ⟨14, .no, some (B false)⟩, ⟨20, .no, some (B false)⟩]) (rh := []) (ph := .raw) (ps := [BinS Try.prog .eql 9 (SK r2) (SK [118]) (B (r2 == [118])), (B (r2 == [118])) = (B false), Meets Try.prog 101 [(FK p1.V), (FK 0)] (B r30), litA (B r30) = true, (B r30) = (B true), BinS Try.prog .eql 9 (SK r2) (SK [97]) (B (r2 == [97])), (B (r2 == [97])) = (B false), BinS Try.prog .eql 9 (SK r2) (SK [97, 98]) (B (r2 == [97, 98])), (B (r2 == [97, 98])) = (B false), (B (p1.A == 0)) = (B false), (B false) = (B false), litA (B false) = true]) (by kernel_rfl) ⟨sEql, (litB c25), (spec_l1SameNum_m hr30), rfl, (litB c31), sEql, (litB c35), sEql, (litB c39), (litB c43), rfl, rfl, trivial⟩
    · have h := Option.some.inj h
      subst h
      exact go_ret hΘ hm hP hn (hs := [⟨1, .bin (B (r2 == [118])), none⟩, ⟨2, .no, some (B false)⟩, ⟨5, .callV [] (B r30), none⟩, ⟨7, .no, some (B false)⟩]) (rh := []) (ph := .raw) (ps := [BinS Try.prog .eql 9 (SK r2) (SK [118]) (B (r2 == [118])), (B (r2 == [118])) = (B false), Meets Try.prog 101 [(FK p1.V), (FK 0)] (B r30), litA (B r30) = true, (B r30) = (B false), (B false) = (B false), litA (B false) = true]) (by kernel_rfl) ⟨sEql, (litB c25), (spec_l1SameNum_m hr30), rfl, (litB c44), rfl, rfl, trivial⟩
noncomputable def spec_l2Plain (p1 : GOp) : Option Bool :=
  Option.bind (spec_l2Uses p1.Code) fun r2 =>
  Option.bind (spec_l1In p1.Code 1 17) fun r3 =>
  if (!r3) = true then
    some false
  else
    Option.bind (spec_l1In p1.A 0 999) fun r6 =>
    if (!r6) = true then
      some false
    else
      Option.bind (spec_l1In p1.B 0 999) fun r9 =>
      if (!r9) = true then
        some false
      else
        spec_l2Plain_j0 p1 r2
theorem spec_l2Plain_m {p1 : GOp} {r : Bool} (h : spec_l2Plain p1 = some r) : Meets Try.prog 90 [(AV.agg ((o85 p1)))] (B r) := by
  refine meets_ofC Θ_ok Try.func90 rfl (c := body90) (by kernel_rfl) (Nat.le_of_ble_eq_true rfl) ?_
  intro E hP hn hx
  replace hn : E.n = 52 := hn
  have hm : E.P.follows .mixedOrders = true := by rw [hP]; exact mixed
  have hΘ : TOK E.P Θ := by rw [hP]; exact Θ_ok
  unfold spec_l2Plain at h
  show WAt E body90 (FQ (RetE Θ Try.f90.results.toList [] [] (B r) E)) [] ⟨[(0, (AV.agg ((o85 p1))))], [], [JJ]⟩
  obtain ⟨r2, hr2, h⟩ := bnS h
  obtain ⟨r3, hr3, h⟩ := bnS h
  rcases itS h with ⟨c4, h⟩ | ⟨c5, h⟩
  · have h := Option.some.inj h
    subst h
    exact go_ret hΘ hm hP hn (hs := [⟨0, .new 1001, none⟩, ⟨4, .callV [] (SK r2), none⟩, ⟨8, .callV [] (B r3), none⟩, ⟨10, .no, some (B true)⟩]) (rh := []) (ph := .raw) (ps := [Meets Try.prog 100 [(I p1.Code)] (SK r2), litA (SK r2) = true, Meets Try.prog 68 [(I p1.Code), (I 1), (I 17)] (B r3), litA (B r3) = true, (B (!r3)) = (B true), (B false) = (B false), litA (B false) = true]) (by kernel_rfl) ⟨(spec_l2Uses_m hr2), rfl, (spec_l1In_m hr3), rfl, (litB c4), rfl, rfl, trivial⟩
  · obtain ⟨r6, hr6, h⟩ := bnS h
    rcases itS h with ⟨c7, h⟩ | ⟨c8, h⟩
    · have h := Option.some.inj h
      subst h
      exact go_ret hΘ hm hP hn (hs := [⟨0, .new 1001, none⟩, ⟨4, .callV [] (SK r2), none⟩, ⟨8, .callV [] (B r3), none⟩, ⟨10, .no, some (B false)⟩, ⟨13, .callV [] (B r6), none⟩, ⟨16, .no, some (B true)⟩]) (rh := []) (ph := .raw) (ps := [Meets Try.prog 100 [(I p1.Code)] (SK r2), litA (SK r2) = true, Meets Try.prog 68 [(I p1.Code), (I 1), (I 17)] (B r3), litA (B r3) = true, (B (!r3)) = (B false), Meets Try.prog 68 [(I p1.A), (I 0), (I 999)] (B r6), litA (B r6) = true, (B (!r6)) = (B true), (B false) = (B false), litA (B false) = true]) (by kernel_rfl) ⟨(spec_l2Uses_m hr2), rfl, (spec_l1In_m hr3), rfl, (litB c5), (spec_l1In_m hr6), rfl, (litB c7), rfl, rfl, trivial⟩
    · obtain ⟨r9, hr9, h⟩ := bnS h
      rcases itS h with ⟨c10, h⟩ | ⟨c11, h⟩
      · have h := Option.some.inj h
        subst h
        exact go_ret hΘ hm hP hn (hs := [⟨0, .new 1001, none⟩, ⟨4, .callV [] (SK r2), none⟩, ⟨8, .callV [] (B r3), none⟩, ⟨10, .no, some (B false)⟩, ⟨13, .callV [] (B r6), none⟩, ⟨16, .no, some (B false)⟩, ⟨19, .callV [] (B r9), none⟩, ⟨22, .br true, none⟩]) (rh := []) (ph := .raw) (ps := [Meets Try.prog 100 [(I p1.Code)] (SK r2), litA (SK r2) = true, Meets Try.prog 68 [(I p1.Code), (I 1), (I 17)] (B r3), litA (B r3) = true, (B (!r3)) = (B false), Meets Try.prog 68 [(I p1.A), (I 0), (I 999)] (B r6), litA (B r6) = true, (B (!r6)) = (B false), Meets Try.prog 68 [(I p1.B), (I 0), (I 999)] (B r9), litA (B r9) = true, (!r9) = true, (B false) = (B false), litA (B false) = true]) (by kernel_rfl) ⟨(spec_l2Uses_m hr2), rfl, (spec_l1In_m hr3), rfl, (litB c5), (spec_l1In_m hr6), rfl, (litB c8), (spec_l1In_m hr9), rfl, c10, rfl, rfl, trivial⟩
      · exact go_to hΘ hm hx hP hn (hs := [⟨0, .new 1001, none⟩, ⟨4, .callV [] (SK r2), none⟩, ⟨8, .callV [] (B r3), none⟩, ⟨10, .no, some (B false)⟩, ⟨13, .callV [] (B r6), none⟩, ⟨16, .no, some (B false)⟩, ⟨19, .callV [] (B r9), none⟩, ⟨22, .br false, none⟩]) (π := [(1001, 1)]) (ts := [1, 3]) (kp := []) (ps := [Meets Try.prog 100 [(I p1.Code)] (SK r2), litA (SK r2) = true, Meets Try.prog 68 [(I p1.Code), (I 1), (I 17)] (B r3), litA (B r3) = true, (B (!r3)) = (B false), Meets Try.prog 68 [(I p1.A), (I 0), (I 999)] (B r6), litA (B r6) = true, (B (!r6)) = (B false), Meets Try.prog 68 [(I p1.B), (I 0), (I 999)] (B r9), litA (B r9) = true, (!r9) = false, RenOK [(1001, 1)] [((o85 p1))]]) (by kernel_rfl) ⟨(spec_l2Uses_m hr2), rfl, (spec_l1In_m hr3), rfl, (litB c5), (spec_l1In_m hr6), rfl, (litB c8), (spec_l1In_m hr9), rfl, c11, (rok rfl), trivial⟩ (spec_l2Plain_j0_m hP hn hx p1 r2  _ h)
noncomputable def body69 : Code := match Try.f69.body with | some c => c | none => .skip
noncomputable def spec_l2Op_j2  (p1 : GProg) (p3 : GOp) (v16 : Bool) : Option Bool :=
  if v16 = true then
    some (decide (p3.A < p1.Locks))
  else
    if (p3.Code == 14) = true then
      some (decide (p3.A < (p1.Routines.length : Int)))
    else
      if (p3.Code == 16) = true then
        if (decide (p3.A < p1.Conds)) = true then
          some (decide (p3.B < p1.Locks))
        else
          some false
      else
        if (p3.Code == 17) = true then
          some (decide (p3.A < p1.Conds))
        else
          some true
theorem spec_l2Op_j2_m {E : Env} (hP : E.P = Try.prog) (hn : E.n = 64) (hx : ∀ p, p ∈ E.fx → p.1 ∈ ([] : List Nat)) (p1 : GProg) (p3 : GOp)  (v16 : Bool) (r : Bool) (h : spec_l2Op_j2 p1 p3 v16 = some r) : WAt E body69 (FQ (RetE Θ Try.f69.results.toList [] [] (B r) E)) [true, true, false, true, false, true, true, true, true, true] ⟨[(3, (AV.ptr 1 0 0)), (5, (AV.ptr 2 0 0)), (11, (I p3.Code)), (27, (B v16))], [(1, some ⟨35, 4, [((r35 p1))]⟩), (2, some ⟨85, 4, [((o85 p3))]⟩)], [1, 2, JJ]⟩ := by
  have hm : E.P.follows .mixedOrders = true := by rw [hP]; exact mixed
  have hΘ : TOK E.P Θ := by rw [hP]; exact Θ_ok
  unfold spec_l2Op_j2 at h
  rcases itS h with ⟨c17, h⟩ | ⟨c18, h⟩
  · have h := Option.some.inj h
    subst h
    exact go_ret hΘ hm hP hn (hs := [⟨0, .br true, none⟩]) (rh := []) (ph := .raw) (ps := [v16 = true, (B (decide (p3.A < p1.Locks))) = (B (decide (p3.A < p1.Locks))), litA (B (decide (p3.A < p1.Locks))) = true]) (by kernel_rfl) ⟨c17, rfl, rfl, trivial⟩
  · rcases itS h with ⟨c19, h⟩ | ⟨c20, h⟩
    · have h := Option.some.inj h
      subst h
      exact go_ret hΘ hm hP hn (hs := [⟨0, .br false, none⟩, ⟨3, .br true, none⟩, ⟨8, .no, some (I (p1.Routines.length : Int))⟩]) (rh := []) (ph := .raw) (ps := [v16 = false, (p3.Code == 14) = true, AV.lit (.int .i64 (((p1.Routines.map r82).length : Nat) : Int)) = (I (p1.Routines.length : Int)), (B (decide (p3.A < (p1.Routines.length : Int)))) = (B (decide (p3.A < (p1.Routines.length : Int)))), litA (B (decide (p3.A < (p1.Routines.length : Int)))) = true]) (by kernel_rfl) ⟨c18, c19, (lenM r82), rfl, rfl, trivial⟩
    · rcases itS h with ⟨c21, h⟩ | ⟨c24, h⟩
      · rcases itS h with ⟨c22, h⟩ | ⟨c23, h⟩
        · have h := Option.some.inj h
          subst h
          exact go_ret hΘ hm hP hn (hs := [⟨0, .br false, none⟩, ⟨3, .br false, none⟩, ⟨6, .br true, none⟩, ⟨12, .no, some (B true)⟩]) (rh := []) (ph := .raw) (ps := [v16 = false, (p3.Code == 14) = false, (p3.Code == 16) = true, (B (decide (p3.A < p1.Conds))) = (B true), (B (decide (p3.B < p1.Locks))) = (B (decide (p3.B < p1.Locks))), litA (B (decide (p3.B < p1.Locks))) = true]) (by kernel_rfl) ⟨c18, c20, c21, (litB c22), rfl, rfl, trivial⟩
        · have h := Option.some.inj h
          subst h
          exact go_ret hΘ hm hP hn (hs := [⟨0, .br false, none⟩, ⟨3, .br false, none⟩, ⟨6, .br true, none⟩, ⟨12, .no, some (B false)⟩]) (rh := []) (ph := .raw) (ps := [v16 = false, (p3.Code == 14) = false, (p3.Code == 16) = true, (B (decide (p3.A < p1.Conds))) = (B false), (B false) = (B false), litA (B false) = true]) (by kernel_rfl) ⟨c18, c20, c21, (litB c23), rfl, rfl, trivial⟩
      · rcases itS h with ⟨c25, h⟩ | ⟨c26, h⟩
        · have h := Option.some.inj h
          subst h
          exact go_ret hΘ hm hP hn (hs := [⟨0, .br false, none⟩, ⟨3, .br false, none⟩, ⟨6, .br false, none⟩, ⟨9, .br true, none⟩]) (rh := []) (ph := .raw) (ps := [v16 = false, (p3.Code == 14) = false, (p3.Code == 16) = false, (p3.Code == 17) = true, (B (decide (p3.A < p1.Conds))) = (B (decide (p3.A < p1.Conds))), litA (B (decide (p3.A < p1.Conds))) = true]) (by kernel_rfl) ⟨c18, c20, c24, c25, rfl, rfl, trivial⟩
        · have h := Option.some.inj h
          subst h
          exact go_ret hΘ hm hP hn (hs := [⟨0, .br false, none⟩, ⟨3, .br false, none⟩, ⟨6, .br false, none⟩, ⟨9, .br false, none⟩]) (rh := []) (ph := .raw) (ps := [v16 = false, (p3.Code == 14) = false, (p3.Code == 16) = false, (p3.Code == 17) = false, (B true) = (B true), litA (B true) = true]) (by kernel_rfl) ⟨c18, c20, c24, c26, rfl, rfl, trivial⟩
noncomputable def spec_l2Op_j1  (p1 : GProg) (p2 : Int) (p3 : GOp) (v12 : Bool) : Option Bool :=
  if v12 = true then
    some (decide (p3.A ≤ p2))
  else
    if (p3.Code == 12) = true then
      spec_l2Op_j2 p1 p3 (p3.Code == 12)
    else
      spec_l2Op_j2 p1 p3 (p3.Code == 13)
theorem spec_l2Op_j1_m {E : Env} (hP : E.P = Try.prog) (hn : E.n = 64) (hx : ∀ p, p ∈ E.fx → p.1 ∈ ([] : List Nat)) (p1 : GProg) (p2 : Int) (p3 : GOp)  (v12 : Bool) (r : Bool) (h : spec_l2Op_j1 p1 p2 p3 v12 = some r) : WAt E body69 (FQ (RetE Θ Try.f69.results.toList [] [] (B r) E)) [true, true, false, true, false, true, true, true] ⟨[(1, (I p2)), (3, (AV.ptr 1 0 0)), (5, (AV.ptr 2 0 0)), (11, (I p3.Code)), (20, (B v12))], [(1, some ⟨35, 4, [((r35 p1))]⟩), (2, some ⟨85, 4, [((o85 p3))]⟩)], [1, 2, JJ]⟩ := by
  have hm : E.P.follows .mixedOrders = true := by rw [hP]; exact mixed
  have hΘ : TOK E.P Θ := by rw [hP]; exact Θ_ok
  unfold spec_l2Op_j1 at h
  rcases itS h with ⟨c13, h⟩ | ⟨c14, h⟩
  · have h := Option.some.inj h
    subst h
    exact go_ret hΘ hm hP hn (hs := [⟨0, .br true, none⟩]) (rh := []) (ph := .raw) (ps := [v12 = true, (B (decide (p3.A ≤ p2))) = (B (decide (p3.A ≤ p2))), litA (B (decide (p3.A ≤ p2))) = true]) (by kernel_rfl) ⟨c13, rfl, rfl, trivial⟩
  · rcases itS h with ⟨c15, h⟩ | ⟨c27, h⟩
    · exact go_to hΘ hm hx hP hn (hs := [⟨0, .br false, none⟩, ⟨3, .br true, none⟩]) (π := [(1, 1), (2, 2)]) (ts := [3, 5, 11, 27]) (kp := []) (ps := [v12 = false, (p3.Code == 12) = true, RenOK [(1, 1), (2, 2)] [((r35 p1))], RenOK [(1, 1), (2, 2)] [((o85 p3))]]) (by kernel_rfl) ⟨c14, c15, (rok (treeB t35 p1)), (rok rfl), trivial⟩ (spec_l2Op_j2_m hP hn hx p1 p3 (p3.Code == 12) _ h)
    · exact go_to hΘ hm hx hP hn (hs := [⟨0, .br false, none⟩, ⟨3, .br false, none⟩]) (π := [(1, 1), (2, 2)]) (ts := [3, 5, 11, 27]) (kp := []) (ps := [v12 = false, (p3.Code == 12) = false, RenOK [(1, 1), (2, 2)] [((r35 p1))], RenOK [(1, 1), (2, 2)] [((o85 p3))]]) (by kernel_rfl) ⟨c14, c27, (rok (treeB t35 p1)), (rok rfl), trivial⟩ (spec_l2Op_j2_m hP hn hx p1 p3 (p3.Code == 13) _ h)
noncomputable def spec_l2Op_j0  (p1 : GProg) (p2 : Int) (p3 : GOp) (v8 : Bool) : Option Bool :=
  if v8 = true then
    some (decide (p3.A < p1.Cells))
  else
    if (p3.Code == 10) = true then
      spec_l2Op_j1 p1 p2 p3 (p3.Code == 10)
    else
      spec_l2Op_j1 p1 p2 p3 (p3.Code == 11)
theorem spec_l2Op_j0_m {E : Env} (hP : E.P = Try.prog) (hn : E.n = 64) (hx : ∀ p, p ∈ E.fx → p.1 ∈ ([] : List Nat)) (p1 : GProg) (p2 : Int) (p3 : GOp)  (v8 : Bool) (r : Bool) (h : spec_l2Op_j0 p1 p2 p3 v8 = some r) : WAt E body69 (FQ (RetE Θ Try.f69.results.toList [] [] (B r) E)) [true, true, false, true, false, true] ⟨[(1, (I p2)), (3, (AV.ptr 1 0 0)), (5, (AV.ptr 2 0 0)), (11, (I p3.Code)), (12, (B v8))], [(1, some ⟨35, 4, [((r35 p1))]⟩), (2, some ⟨85, 4, [((o85 p3))]⟩)], [1, 2, JJ]⟩ := by
  have hm : E.P.follows .mixedOrders = true := by rw [hP]; exact mixed
  have hΘ : TOK E.P Θ := by rw [hP]; exact Θ_ok
  unfold spec_l2Op_j0 at h
  rcases itS h with ⟨c9, h⟩ | ⟨c10, h⟩
  · have h := Option.some.inj h
    subst h
    exact go_ret hΘ hm hP hn (hs := [⟨0, .br true, none⟩]) (rh := []) (ph := .raw) (ps := [v8 = true, (B (decide (p3.A < p1.Cells))) = (B (decide (p3.A < p1.Cells))), litA (B (decide (p3.A < p1.Cells))) = true]) (by kernel_rfl) ⟨c9, rfl, rfl, trivial⟩
  · rcases itS h with ⟨c11, h⟩ | ⟨c28, h⟩
    · exact go_to hΘ hm hx hP hn (hs := [⟨0, .br false, none⟩, ⟨3, .br true, none⟩]) (π := [(1, 1), (2, 2)]) (ts := [1, 3, 5, 11, 20]) (kp := []) (ps := [v8 = false, (p3.Code == 10) = true, RenOK [(1, 1), (2, 2)] [((r35 p1))], RenOK [(1, 1), (2, 2)] [((o85 p3))]]) (by kernel_rfl) ⟨c10, c11, (rok (treeB t35 p1)), (rok rfl), trivial⟩ (spec_l2Op_j1_m hP hn hx p1 p2 p3 (p3.Code == 10) _ h)
    · exact go_to hΘ hm hx hP hn (hs := [⟨0, .br false, none⟩, ⟨3, .br false, none⟩]) (π := [(1, 1), (2, 2)]) (ts := [1, 3, 5, 11, 20]) (kp := []) (ps := [v8 = false, (p3.Code == 10) = false, RenOK [(1, 1), (2, 2)] [((r35 p1))], RenOK [(1, 1), (2, 2)] [((o85 p3))]]) (by kernel_rfl) ⟨c10, c28, (rok (treeB t35 p1)), (rok rfl), trivial⟩ (spec_l2Op_j1_m hP hn hx p1 p2 p3 (p3.Code == 11) _ h)
noncomputable def spec_l2Op (p1 : GProg) (p2 : Int) (p3 : GOp) : Option Bool :=
  Option.bind (spec_l2Plain p3) fun r4 =>
  if (!r4) = true then
    some false
  else
    if (p3.Code == 2) = true then
      spec_l2Op_j0 p1 p2 p3 (p3.Code == 2)
    else
      spec_l2Op_j0 p1 p2 p3 (p3.Code == 3)
theorem spec_l2Op_m {p1 : GProg} {p2 : Int} {p3 : GOp} {r : Bool} (h : spec_l2Op p1 p2 p3 = some r) : Meets Try.prog 69 [(AV.agg ((r35 p1))), (I p2), (AV.agg ((o85 p3)))] (B r) := by
  refine meets_ofC Θ_ok Try.func69 rfl (c := body69) (by kernel_rfl) (Nat.le_of_ble_eq_true rfl) ?_
  intro E hP hn hx
  replace hn : E.n = 64 := hn
  have hm : E.P.follows .mixedOrders = true := by rw [hP]; exact mixed
  have hΘ : TOK E.P Θ := by rw [hP]; exact Θ_ok
  unfold spec_l2Op at h
  show WAt E body69 (FQ (RetE Θ Try.f69.results.toList [] [] (B r) E)) [] ⟨[(0, (AV.agg ((r35 p1)))), (1, (I p2)), (2, (AV.agg ((o85 p3))))], [], [JJ]⟩
  obtain ⟨r4, hr4, h⟩ := bnS h
  rcases itS h with ⟨c5, h⟩ | ⟨c6, h⟩
  · have h := Option.some.inj h
    subst h
    exact go_ret hΘ hm hP hn (hs := [⟨0, .new 1001, none⟩, ⟨1, .new 1002, none⟩, ⟨4, .callV [[]] (B r4), none⟩, ⟨6, .br true, none⟩]) (rh := []) (ph := .raw) (ps := [Meets Try.prog 90 [(AV.agg ((o85 p3)))] (B r4), litA (B r4) = true, (!r4) = true, (B false) = (B false), litA (B false) = true]) (by kernel_rfl) ⟨(spec_l2Plain_m hr4), rfl, c5, rfl, rfl, trivial⟩
  · rcases itS h with ⟨c7, h⟩ | ⟨c29, h⟩
    · exact go_to hΘ hm hx hP hn (hs := [⟨0, .new 1001, none⟩, ⟨1, .new 1002, none⟩, ⟨4, .callV [[]] (B r4), none⟩, ⟨6, .br false, none⟩, ⟨11, .br true, none⟩]) (π := [(1001, 1), (1002, 2)]) (ts := [1, 3, 5, 11, 12]) (kp := []) (ps := [Meets Try.prog 90 [(AV.agg ((o85 p3)))] (B r4), litA (B r4) = true, (!r4) = false, (p3.Code == 2) = true, RenOK [(1001, 1), (1002, 2)] [((r35 p1))], RenOK [(1001, 1), (1002, 2)] [((o85 p3))]]) (by kernel_rfl) ⟨(spec_l2Plain_m hr4), rfl, c6, c7, (rok (treeB t35 p1)), (rok rfl), trivial⟩ (spec_l2Op_j0_m hP hn hx p1 p2 p3 (p3.Code == 2) _ h)
    · exact go_to hΘ hm hx hP hn (hs := [⟨0, .new 1001, none⟩, ⟨1, .new 1002, none⟩, ⟨4, .callV [[]] (B r4), none⟩, ⟨6, .br false, none⟩, ⟨11, .br false, none⟩]) (π := [(1001, 1), (1002, 2)]) (ts := [1, 3, 5, 11, 12]) (kp := []) (ps := [Meets Try.prog 90 [(AV.agg ((o85 p3)))] (B r4), litA (B r4) = true, (!r4) = false, (p3.Code == 2) = false, RenOK [(1001, 1), (1002, 2)] [((r35 p1))], RenOK [(1001, 1), (1002, 2)] [((o85 p3))]]) (by kernel_rfl) ⟨(spec_l2Plain_m hr4), rfl, c6, c29, (rok (treeB t35 p1)), (rok rfl), trivial⟩ (spec_l2Op_j0_m hP hn hx p1 p2 p3 (p3.Code == 3) _ h)
noncomputable def body37 : Code := match Try.f37.body with | some c => c | none => .skip
noncomputable def spec_GoodProg_l1 (K0 : GProg → Int → Option Bool) (p1 : GProg) (v15 : Int) (x17 : (List GOp)) : Nat → GProg → Int → Option Bool
  | 0, _, _ => none
  | n + 1, a18, v19 =>
  if (decide (v19 < (x17.length : Int))) = true then
    Option.bind (rd x17 v19) fun x21 =>
    Option.bind (spec_l2Op a18 (x17.length : Int) x21) fun r30 =>
    if (!r30) = true then
      some false
    else
      spec_GoodProg_l1 K0 p1 v15 x17 n a18 (w64 (v19 + 1))
  else
    if (decide ((x17.length : Int) > 24)) = true then
      some false
    else
      K0 a18 (w64 (v15 + 1))
theorem spec_GoodProg_l1_m {E : Env} (hP : E.P = Try.prog) (hn : E.n = 54) (hx : ∀ p, p ∈ E.fx → p.1 ∈ ([] : List Nat)) (p1 : GProg) (v15 : Int) (x17 : (List GOp)) {K0 : GProg → Int → Option Bool} (hK0 : ∀ (a14 : GProg) (v15 : Int) (r : Bool), K0 a14 v15 = some r → WAt E body37 (FQ (RetE Θ Try.f37.results.toList [] [] (B r) E)) [true, true, false, true, false] ⟨[(1, (AV.ptr 1 0 0)), (31, (AV.ro 1 (p1.Routines.map r82))), (32, (I (p1.Routines.length : Int))), (33, (I v15))], [(1, some ⟨35, 4, [((r35 a14))]⟩)], [1, JJ]⟩) : ∀ (n : Nat) (a18 : GProg) (v19 : Int) (r : Bool), spec_GoodProg_l1 K0 p1 v15 x17 n a18 v19 = some r → WAt E body37 (FQ (RetE Θ Try.f37.results.toList [] [] (B r) E)) [true, true, false, true, false, false, true, true, false, false, true, false, true, false] ⟨[(1, (AV.ptr 1 0 0)), (4, (AV.ro 4 (x17.map o85))), (31, (AV.ro 1 (p1.Routines.map r82))), (32, (I (p1.Routines.length : Int))), (33, (I v15)), (37, (AV.ro 4 (x17.map o85))), (38, (I (x17.length : Int))), (39, (I v19))], [(1, some ⟨35, 4, [((r35 a18))]⟩)], [1, JJ]⟩ := by
  have hm : E.P.follows .mixedOrders = true := by rw [hP]; exact mixed
  have hΘ : TOK E.P Θ := by rw [hP]; exact Θ_ok
  intro n
  induction n with
  | zero => intro a18 v19 r h; simp only [spec_GoodProg_l1] at h; cases h
  | succ n ih =>
    intro a18 v19 r h
    simp only [spec_GoodProg_l1] at h
    rcases itS h with ⟨c20, h⟩ | ⟨c33, h⟩
    · obtain ⟨x21, hx21, h⟩ := bnS h
      obtain ⟨r30, hr30, h⟩ := bnS h
      rcases itS h with ⟨c31, h⟩ | ⟨c32, h⟩
      · have h := Option.some.inj h
        subst h
        exact go_ret hΘ hm hP hn (hs := [⟨1, .br true, none⟩, ⟨2, .row (o85 x21), none⟩, ⟨4, .new 1001, none⟩, ⟨8, .no, some (I (x17.length : Int))⟩, ⟨10, .callV [[], []] (B r30), none⟩, ⟨12, .br true, none⟩]) (rh := []) (ph := .raw) (ps := [(decide (v19 < (x17.length : Int))) = true, (0 : Int) ≤ v19, (x17.map o85)[(Int.toNat v19)]? = some (o85 x21), AV.lit (.int .i64 (((x17.map o85).length : Nat) : Int)) = (I (x17.length : Int)), Meets Try.prog 69 [(AV.agg ((r35 a18))), (I (x17.length : Int)), (AV.agg ((o85 x21)))] (B r30), litA (B r30) = true, (!r30) = true, (B false) = (B false), litA (B false) = true]) (by kernel_rfl) ⟨c20, (rd0 hx21), (rdM o85 hx21), (lenM o85), (spec_l2Op_m hr30), rfl, c31, rfl, rfl, trivial⟩
      · exact go_to hΘ hm hx hP hn (hs := [⟨1, .br true, none⟩, ⟨2, .row (o85 x21), none⟩, ⟨4, .new 1001, none⟩, ⟨8, .no, some (I (x17.length : Int))⟩, ⟨10, .callV [[], []] (B r30), none⟩, ⟨12, .br false, none⟩]) (π := [(1, 1)]) (ts := [1, 4, 31, 32, 33, 37, 38, 39]) (kp := []) (ps := [(decide (v19 < (x17.length : Int))) = true, (0 : Int) ≤ v19, (x17.map o85)[(Int.toNat v19)]? = some (o85 x21), AV.lit (.int .i64 (((x17.map o85).length : Nat) : Int)) = (I (x17.length : Int)), Meets Try.prog 69 [(AV.agg ((r35 a18))), (I (x17.length : Int)), (AV.agg ((o85 x21)))] (B r30), litA (B r30) = true, (!r30) = false, RenOK [(1, 1)] [((r35 a18))]]) (by kernel_rfl) ⟨c20, (rd0 hx21), (rdM o85 hx21), (lenM o85), (spec_l2Op_m hr30), rfl, c32, (rok (treeB t35 a18)), trivial⟩ (ih a18 (w64 (v19 + 1)) _ h)
    · rcases itS h with ⟨c34, h⟩ | ⟨c35, h⟩
      · have h := Option.some.inj h
        subst h
        exact go_ret hΘ hm hP hn (hs := [⟨1, .br false, none⟩, ⟨3, .no, some (I (x17.length : Int))⟩, ⟨5, .br true, none⟩]) (rh := []) (ph := .raw) (ps := [(decide (v19 < (x17.length : Int))) = false, AV.lit (.int .i64 (((x17.map o85).length : Nat) : Int)) = (I (x17.length : Int)), (decide ((x17.length : Int) > 24)) = true, (B false) = (B false), litA (B false) = true]) (by kernel_rfl) ⟨c33, (lenM o85), c34, rfl, rfl, trivial⟩
      · exact go_to hΘ hm hx hP hn (hs := [⟨1, .br false, none⟩, ⟨3, .no, some (I (x17.length : Int))⟩, ⟨5, .br false, none⟩]) (π := [(1, 1)]) (ts := [1, 31, 32, 33]) (kp := []) (ps := [(decide (v19 < (x17.length : Int))) = false, AV.lit (.int .i64 (((x17.map o85).length : Nat) : Int)) = (I (x17.length : Int)), (decide ((x17.length : Int) > 24)) = false, RenOK [(1, 1)] [((r35 a18))]]) (by kernel_rfl) ⟨c33, (lenM o85), c35, (rok (treeB t35 a18)), trivial⟩ (hK0 a18 (w64 (v15 + 1)) _ h)
noncomputable def spec_GoodProg_l0  (p1 : GProg) : Nat → GProg → Int → Option Bool
  | 0, _, _ => none
  | n + 1, a14, v15 =>
  if (decide (v15 < (p1.Routines.length : Int))) = true then
    Option.bind (rd p1.Routines v15) fun x17 =>
    spec_GoodProg_l1 (spec_GoodProg_l0 p1 n) p1 v15 x17 FU a14 0
  else
    some true
theorem spec_GoodProg_l0_m {E : Env} (hP : E.P = Try.prog) (hn : E.n = 54) (hx : ∀ p, p ∈ E.fx → p.1 ∈ ([] : List Nat)) (p1 : GProg)  : ∀ (n : Nat) (a14 : GProg) (v15 : Int) (r : Bool), spec_GoodProg_l0 p1 n a14 v15 = some r → WAt E body37 (FQ (RetE Θ Try.f37.results.toList [] [] (B r) E)) [true, true, false, true, false] ⟨[(1, (AV.ptr 1 0 0)), (31, (AV.ro 1 (p1.Routines.map r82))), (32, (I (p1.Routines.length : Int))), (33, (I v15))], [(1, some ⟨35, 4, [((r35 a14))]⟩)], [1, JJ]⟩ := by
  have hm : E.P.follows .mixedOrders = true := by rw [hP]; exact mixed
  have hΘ : TOK E.P Θ := by rw [hP]; exact Θ_ok
  intro n
  induction n with
  | zero => intro a14 v15 r h; simp only [spec_GoodProg_l0] at h; cases h
  | succ n ih =>
    intro a14 v15 r h
    simp only [spec_GoodProg_l0] at h
    rcases itS h with ⟨c16, h⟩ | ⟨c36, h⟩
    · obtain ⟨x17, hx17, h⟩ := bnS h
      exact go_to hΘ hm hx hP hn (hs := [⟨1, .br true, none⟩, ⟨2, .row (r82 x17), none⟩, ⟨6, .no, some (I (x17.length : Int))⟩]) (π := [(1, 1)]) (ts := [1, 4, 31, 32, 33, 37, 38, 39]) (kp := []) (ps := [(decide (v15 < (p1.Routines.length : Int))) = true, (0 : Int) ≤ v15, (p1.Routines.map r82)[(Int.toNat v15)]? = some (r82 x17), AV.lit (.int .i64 (((x17.map o85).length : Nat) : Int)) = (I (x17.length : Int)), RenOK [(1, 1)] [((r35 a14))]]) (by kernel_rfl) ⟨c16, (rd0 hx17), (rdM r82 hx17), (lenM o85), (rok (treeB t35 a14)), trivial⟩ (spec_GoodProg_l1_m hP hn hx p1 v15 x17 ih FU a14 0 _ h)
    · have h := Option.some.inj h
      subst h
      exact go_ret hΘ hm hP hn (hs := [⟨1, .br false, none⟩]) (rh := []) (ph := .raw) (ps := [(decide (v15 < (p1.Routines.length : Int))) = false, (B true) = (B true), litA (B true) = true]) (by kernel_rfl) ⟨c36, rfl, rfl, trivial⟩
noncomputable def spec_GoodProg (p1 : GProg) : Option Bool :=
  Option.bind (spec_l1In p1.Cells 0 4) fun r2 =>
  if (!r2) = true then
    some false
  else
    Option.bind (spec_l1In p1.Locks 0 4) fun r5 =>
    if (!r5) = true then
      some false
    else
      Option.bind (spec_l1In p1.Conds 0 2) fun r8 =>
      if (!r8) = true then
        some false
      else
        Option.bind (spec_l1In (p1.Routines.length : Int) 1 4) fun r11 =>
        if (!r11) = true then
          some false
        else
          spec_GoodProg_l0 p1 FU p1 0
theorem spec_GoodProg_m {p1 : GProg} {r : Bool} (h : spec_GoodProg p1 = some r) : Meets Try.prog 37 [(AV.agg ((r35 p1)))] (B r) := by
  refine meets_ofC Θ_ok Try.func37 rfl (c := body37) (by kernel_rfl) (Nat.le_of_ble_eq_true rfl) ?_
  intro E hP hn hx
  replace hn : E.n = 54 := hn
  have hm : E.P.follows .mixedOrders = true := by rw [hP]; exact mixed
  have hΘ : TOK E.P Θ := by rw [hP]; exact Θ_ok
  unfold spec_GoodProg at h
  show WAt E body37 (FQ (RetE Θ Try.f37.results.toList [] [] (B r) E)) [] ⟨[(0, (AV.agg ((r35 p1))))], [], [JJ]⟩
  obtain ⟨r2, hr2, h⟩ := bnS h
  rcases itS h with ⟨c3, h⟩ | ⟨c4, h⟩
  · have h := Option.some.inj h
    subst h
    exact go_ret hΘ hm hP hn (hs := [⟨0, .new 1001, none⟩, ⟨4, .callV [] (B r2), none⟩, ⟨6, .no, some (B true)⟩]) (rh := []) (ph := .raw) (ps := [Meets Try.prog 68 [(I p1.Cells), (I 0), (I 4)] (B r2), litA (B r2) = true, (B (!r2)) = (B true), (B false) = (B false), litA (B false) = true]) (by kernel_rfl) ⟨(spec_l1In_m hr2), rfl, (litB c3), rfl, rfl, trivial⟩
  · obtain ⟨r5, hr5, h⟩ := bnS h
    rcases itS h with ⟨c6, h⟩ | ⟨c7, h⟩
    · have h := Option.some.inj h
      subst h
      exact go_ret hΘ hm hP hn (hs := [⟨0, .new 1001, none⟩, ⟨4, .callV [] (B r2), none⟩, ⟨6, .no, some (B false)⟩, ⟨9, .callV [] (B r5), none⟩, ⟨12, .no, some (B true)⟩]) (rh := []) (ph := .raw) (ps := [Meets Try.prog 68 [(I p1.Cells), (I 0), (I 4)] (B r2), litA (B r2) = true, (B (!r2)) = (B false), Meets Try.prog 68 [(I p1.Locks), (I 0), (I 4)] (B r5), litA (B r5) = true, (B (!r5)) = (B true), (B false) = (B false), litA (B false) = true]) (by kernel_rfl) ⟨(spec_l1In_m hr2), rfl, (litB c4), (spec_l1In_m hr5), rfl, (litB c6), rfl, rfl, trivial⟩
    · obtain ⟨r8, hr8, h⟩ := bnS h
      rcases itS h with ⟨c9, h⟩ | ⟨c10, h⟩
      · have h := Option.some.inj h
        subst h
        exact go_ret hΘ hm hP hn (hs := [⟨0, .new 1001, none⟩, ⟨4, .callV [] (B r2), none⟩, ⟨6, .no, some (B false)⟩, ⟨9, .callV [] (B r5), none⟩, ⟨12, .no, some (B false)⟩, ⟨15, .callV [] (B r8), none⟩, ⟨18, .no, some (B true)⟩]) (rh := []) (ph := .raw) (ps := [Meets Try.prog 68 [(I p1.Cells), (I 0), (I 4)] (B r2), litA (B r2) = true, (B (!r2)) = (B false), Meets Try.prog 68 [(I p1.Locks), (I 0), (I 4)] (B r5), litA (B r5) = true, (B (!r5)) = (B false), Meets Try.prog 68 [(I p1.Conds), (I 0), (I 2)] (B r8), litA (B r8) = true, (B (!r8)) = (B true), (B false) = (B false), litA (B false) = true]) (by kernel_rfl) ⟨(spec_l1In_m hr2), rfl, (litB c4), (spec_l1In_m hr5), rfl, (litB c7), (spec_l1In_m hr8), rfl, (litB c9), rfl, rfl, trivial⟩
      · obtain ⟨r11, hr11, h⟩ := bnS h
        rcases itS h with ⟨c12, h⟩ | ⟨c13, h⟩
        · have h := Option.some.inj h
          subst h
          exact go_ret hΘ hm hP hn (hs := [⟨0, .new 1001, none⟩, ⟨4, .callV [] (B r2), none⟩, ⟨6, .no, some (B false)⟩, ⟨9, .callV [] (B r5), none⟩, ⟨12, .no, some (B false)⟩, ⟨15, .callV [] (B r8), none⟩, ⟨18, .no, some (B false)⟩, ⟨21, .no, some (I (p1.Routines.length : Int))⟩, ⟨22, .callV [] (B r11), none⟩, ⟨25, .br true, none⟩]) (rh := []) (ph := .raw) (ps := [Meets Try.prog 68 [(I p1.Cells), (I 0), (I 4)] (B r2), litA (B r2) = true, (B (!r2)) = (B false), Meets Try.prog 68 [(I p1.Locks), (I 0), (I 4)] (B r5), litA (B r5) = true, (B (!r5)) = (B false), Meets Try.prog 68 [(I p1.Conds), (I 0), (I 2)] (B r8), litA (B r8) = true, (B (!r8)) = (B false), AV.lit (.int .i64 (((p1.Routines.map r82).length : Nat) : Int)) = (I (p1.Routines.length : Int)), Meets Try.prog 68 [(I (p1.Routines.length : Int)), (I 1), (I 4)] (B r11), litA (B r11) = true, (!r11) = true, (B false) = (B false), litA (B false) = true]) (by kernel_rfl) ⟨(spec_l1In_m hr2), rfl, (litB c4), (spec_l1In_m hr5), rfl, (litB c7), (spec_l1In_m hr8), rfl, (litB c10), (lenM r82), (spec_l1In_m hr11), rfl, c12, rfl, rfl, trivial⟩
        · exact go_to hΘ hm hx hP hn (hs := [⟨0, .new 1001, none⟩, ⟨4, .callV [] (B r2), none⟩, ⟨6, .no, some (B false)⟩, ⟨9, .callV [] (B r5), none⟩, ⟨12, .no, some (B false)⟩, ⟨15, .callV [] (B r8), none⟩, ⟨18, .no, some (B false)⟩, ⟨21, .no, some (I (p1.Routines.length : Int))⟩, ⟨22, .callV [] (B r11), none⟩, ⟨25, .br false, none⟩, ⟨28, .no, some (I (p1.Routines.length : Int))⟩]) (π := [(1001, 1)]) (ts := [1, 31, 32, 33]) (kp := []) (ps := [Meets Try.prog 68 [(I p1.Cells), (I 0), (I 4)] (B r2), litA (B r2) = true, (B (!r2)) = (B false), Meets Try.prog 68 [(I p1.Locks), (I 0), (I 4)] (B r5), litA (B r5) = true, (B (!r5)) = (B false), Meets Try.prog 68 [(I p1.Conds), (I 0), (I 2)] (B r8), litA (B r8) = true, (B (!r8)) = (B false), AV.lit (.int .i64 (((p1.Routines.map r82).length : Nat) : Int)) = (I (p1.Routines.length : Int)), Meets Try.prog 68 [(I (p1.Routines.length : Int)), (I 1), (I 4)] (B r11), litA (B r11) = true, (!r11) = false, AV.lit (.int .i64 (((p1.Routines.map r82).length : Nat) : Int)) = (I (p1.Routines.length : Int)), RenOK [(1001, 1)] [((r35 p1))]]) (by kernel_rfl) ⟨(spec_l1In_m hr2), rfl, (litB c4), (spec_l1In_m hr5), rfl, (litB c7), (spec_l1In_m hr8), rfl, (litB c10), (lenM r82), (spec_l1In_m hr11), rfl, c13, (lenM r82), (rok (treeB t35 p1)), trivial⟩ (spec_GoodProg_l0_m hP hn hx p1 FU p1 0 _ h)
noncomputable def body71 : Code := match Try.f71.body with | some c => c | none => .skip
noncomputable def spec_l1All_l0  (p1 : (List Int)) (p2 : Int) (p3 : Int) : Nat → Int → Option Bool
  | 0, _ => none
  | n + 1, v4 =>
  if (decide (v4 < (p1.length : Int))) = true then
    Option.bind (rd p1 v4) fun x6 =>
    Option.bind (spec_l1In x6 p2 p3) fun r7 =>
    if (!r7) = true then
      some false
    else
      spec_l1All_l0 p1 p2 p3 n (w64 (v4 + 1))
  else
    some true
theorem spec_l1All_l0_m {E : Env} (hP : E.P = Try.prog) (hn : E.n = 21) (hx : ∀ p, p ∈ E.fx → p.1 ∈ ([] : List Nat)) (p1 : (List Int)) (p2 : Int) (p3 : Int)  : ∀ (n : Nat) (v4 : Int) (r : Bool), spec_l1All_l0 p1 p2 p3 n v4 = some r → WAt E body71 (FQ (RetE Θ Try.f71.results.toList [] [] (B r) E)) [true, false, true, false] ⟨[(1, (I p2)), (2, (I p3)), (9, (AV.ro 1 (p1.map o3))), (10, (I (p1.length : Int))), (11, (I v4))], [], [JJ]⟩ := by
  have hm : E.P.follows .mixedOrders = true := by rw [hP]; exact mixed
  have hΘ : TOK E.P Θ := by rw [hP]; exact Θ_ok
  intro n
  induction n with
  | zero => intro v4 r h; simp only [spec_l1All_l0] at h; cases h
  | succ n ih =>
    intro v4 r h
    simp only [spec_l1All_l0] at h
    rcases itS h with ⟨c5, h⟩ | ⟨c10, h⟩
    · obtain ⟨x6, hx6, h⟩ := bnS h
      obtain ⟨r7, hr7, h⟩ := bnS h
      rcases itS h with ⟨c8, h⟩ | ⟨c9, h⟩
      · have h := Option.some.inj h
        subst h
        exact go_ret hΘ hm hP hn (hs := [⟨1, .br true, none⟩, ⟨2, .row (o3 x6), none⟩, ⟨8, .callV [] (B r7), none⟩, ⟨10, .br true, none⟩]) (rh := []) (ph := .raw) (ps := [(decide (v4 < (p1.length : Int))) = true, (0 : Int) ≤ v4, (p1.map o3)[(Int.toNat v4)]? = some (o3 x6), Meets Try.prog 68 [(I x6), (I p2), (I p3)] (B r7), litA (B r7) = true, (!r7) = true, (B false) = (B false), litA (B false) = true]) (by kernel_rfl) ⟨c5, (rd0 hx6), (rdM o3 hx6), (spec_l1In_m hr7), rfl, c8, rfl, rfl, trivial⟩
      · exact go_to hΘ hm hx hP hn (hs := [⟨1, .br true, none⟩, ⟨2, .row (o3 x6), none⟩, ⟨8, .callV [] (B r7), none⟩, ⟨10, .br false, none⟩]) (π := []) (ts := [1, 2, 9, 10, 11]) (kp := []) (ps := [(decide (v4 < (p1.length : Int))) = true, (0 : Int) ≤ v4, (p1.map o3)[(Int.toNat v4)]? = some (o3 x6), Meets Try.prog 68 [(I x6), (I p2), (I p3)] (B r7), litA (B r7) = true, (!r7) = false]) (by kernel_rfl) ⟨c5, (rd0 hx6), (rdM o3 hx6), (spec_l1In_m hr7), rfl, c9, trivial⟩ (ih (w64 (v4 + 1)) _ h)
    · have h := Option.some.inj h
      subst h
      exact go_ret hΘ hm hP hn (hs := [⟨1, .br false, none⟩]) (rh := []) (ph := .raw) (ps := [(decide (v4 < (p1.length : Int))) = false, (B true) = (B true), litA (B true) = true]) (by kernel_rfl) ⟨c10, rfl, rfl, trivial⟩
noncomputable def spec_l1All (p1 : (List Int)) (p2 : Int) (p3 : Int) : Option Bool :=
  spec_l1All_l0 p1 p2 p3 FU 0
theorem spec_l1All_m {p1 : (List Int)} {p2 : Int} {p3 : Int} {r : Bool} (h : spec_l1All p1 p2 p3 = some r) : Meets Try.prog 71 [(AV.ro 1 (p1.map o3)), (I p2), (I p3)] (B r) := by
  refine meets_ofC Θ_ok Try.func71 rfl (c := body71) (by kernel_rfl) (Nat.le_of_ble_eq_true rfl) ?_
  intro E hP hn hx
  replace hn : E.n = 21 := hn
  have hm : E.P.follows .mixedOrders = true := by rw [hP]; exact mixed
  have hΘ : TOK E.P Θ := by rw [hP]; exact Θ_ok
  unfold spec_l1All at h
  show WAt E body71 (FQ (RetE Θ Try.f71.results.toList [] [] (B r) E)) [] ⟨[(0, (AV.ro 1 (p1.map o3))), (1, (I p2)), (2, (I p3))], [], [JJ]⟩
  exact go_to hΘ hm hx hP hn (hs := [⟨2, .no, some (I (p1.length : Int))⟩]) (π := []) (ts := [1, 2, 9, 10, 11]) (kp := []) (ps := [AV.lit (.int .i64 (((p1.map o3).length : Nat) : Int)) = (I (p1.length : Int))]) (by kernel_rfl) ⟨(lenM o3), trivial⟩ (spec_l1All_l0_m hP hn hx p1 p2 p3 FU 0 _ h)
noncomputable def body70 : Code := match Try.f70.body with | some c => c | none => .skip
noncomputable def spec_l3Thread_j1  (p1 : GProg) (p2 : GThread)  : Option Bool :=
  Option.bind (spec_l1In p2.Cond 0 (w64 (p1.Conds - 1))) fun r16 =>
  if r16 = true then
    Option.bind (spec_l1In p2.Lock 0 (w64 (p1.Locks - 1))) fun r18 =>
    some r18
  else
    some false
theorem spec_l3Thread_j1_m {E : Env} (hP : E.P = Try.prog) (hn : E.n = 66) (hx : ∀ p, p ∈ E.fx → p.1 ∈ ([] : List Nat)) (p1 : GProg) (p2 : GThread)   (r : Bool) (h : spec_l3Thread_j1 p1 p2  = some r) : WAt E body70 (FQ (RetE Θ Try.f70.results.toList [] [] (B r) E)) [true, true, true, false, true, false] ⟨[(2, (AV.ptr 1 0 0)), (3, (AV.ptr 2 0 0))], [(1, some ⟨35, 4, [((r35 p1))]⟩), (2, some ⟨70, 6, [((r70 p2))]⟩)], [1, 2, JJ]⟩ := by
  have hm : E.P.follows .mixedOrders = true := by rw [hP]; exact mixed
  have hΘ : TOK E.P Θ := by rw [hP]; exact Θ_ok
  unfold spec_l3Thread_j1 at h
  obtain ⟨r16, hr16, h⟩ := bnS h
  rcases itS h with ⟨c17, h⟩ | ⟨c19, h⟩
  · obtain ⟨r18, hr18, h⟩ := bnS h
    have h := Option.some.inj h
    subst h
    exact go_ret hΘ hm hP hn (hs := [⟨5, .callV [] (B r16), none⟩, ⟨6, .no, some (B true)⟩, ⟨12, .callV [] (B r18), none⟩]) (rh := []) (ph := .raw) (ps := [Meets Try.prog 68 [(I p2.Cond), (I 0), (I (w64 (p1.Conds - 1)))] (B r16), litA (B r16) = true, (B r16) = (B true), Meets Try.prog 68 [(I p2.Lock), (I 0), (I (w64 (p1.Locks - 1)))] (B r18), litA (B r18) = true, (B r18) = (B r18), litA (B r18) = true]) (by kernel_rfl) ⟨(spec_l1In_m hr16), rfl, (litB c17), (spec_l1In_m hr18), rfl, rfl, rfl, trivial⟩
  · have h := Option.some.inj h
    subst h
    exact go_ret hΘ hm hP hn (hs := [⟨5, .callV [] (B r16), none⟩, ⟨6, .no, some (B false)⟩]) (rh := []) (ph := .raw) (ps := [Meets Try.prog 68 [(I p2.Cond), (I 0), (I (w64 (p1.Conds - 1)))] (B r16), litA (B r16) = true, (B r16) = (B false), (B false) = (B false), litA (B false) = true]) (by kernel_rfl) ⟨(spec_l1In_m hr16), rfl, (litB c19), rfl, rfl, trivial⟩
noncomputable def spec_l3Thread_j0  (p1 : GProg) (p2 : GThread)  : Option Bool :=
  Option.bind (rd p1.Routines p2.Routine) fun x11 =>
  Option.bind (spec_l1In p2.Pc 0 (x11.length : Int)) fun r12 =>
  if (!r12) = true then
    some false
  else
    if (p2.State == 3) = true then
      spec_l3Thread_j1 p1 p2
    else
      if (p2.State == 4) = true then
        spec_l3Thread_j1 p1 p2
      else
        if (p2.Cond == (-1)) = true then
          some (p2.Lock == (-1))
        else
          some false
theorem spec_l3Thread_j0_m {E : Env} (hP : E.P = Try.prog) (hn : E.n = 66) (hx : ∀ p, p ∈ E.fx → p.1 ∈ ([] : List Nat)) (p1 : GProg) (p2 : GThread)   (r : Bool) (h : spec_l3Thread_j0 p1 p2  = some r) : WAt E body70 (FQ (RetE Θ Try.f70.results.toList [] [] (B r) E)) [true, false, true, true] ⟨[(2, (AV.ptr 1 0 0)), (3, (AV.ptr 2 0 0))], [(1, some ⟨35, 4, [((r35 p1))]⟩), (2, some ⟨70, 6, [((r70 p2))]⟩)], [1, 2, JJ]⟩ := by
  have hm : E.P.follows .mixedOrders = true := by rw [hP]; exact mixed
  have hΘ : TOK E.P Θ := by rw [hP]; exact Θ_ok
  unfold spec_l3Thread_j0 at h
  obtain ⟨x11, hx11, h⟩ := bnS h
  obtain ⟨r12, hr12, h⟩ := bnS h
  rcases itS h with ⟨c13, h⟩ | ⟨c14, h⟩
  · have h := Option.some.inj h
    subst h
    exact go_ret hΘ hm hP hn (hs := [⟨6, .row (r82 x11), none⟩, ⟨8, .no, some (I (x11.length : Int))⟩, ⟨9, .callV [] (B r12), none⟩, ⟨11, .br true, none⟩]) (rh := []) (ph := .raw) (ps := [(0 : Int) ≤ p2.Routine, (p1.Routines.map r82)[(Int.toNat p2.Routine)]? = some (r82 x11), AV.lit (.int .i64 (((x11.map o85).length : Nat) : Int)) = (I (x11.length : Int)), Meets Try.prog 68 [(I p2.Pc), (I 0), (I (x11.length : Int))] (B r12), litA (B r12) = true, (!r12) = true, (B false) = (B false), litA (B false) = true]) (by kernel_rfl) ⟨(rd0 hx11), (rdM r82 hx11), (lenM o85), (spec_l1In_m hr12), rfl, c13, rfl, rfl, trivial⟩
  · rcases itS h with ⟨c15, h⟩ | ⟨c20, h⟩
    · exact go_to hΘ hm hx hP hn (hs := [⟨6, .row (r82 x11), none⟩, ⟨8, .no, some (I (x11.length : Int))⟩, ⟨9, .callV [] (B r12), none⟩, ⟨11, .br false, none⟩, ⟨15, .no, some (B true)⟩]) (π := [(1, 1), (2, 2)]) (ts := [2, 3]) (kp := []) (ps := [(0 : Int) ≤ p2.Routine, (p1.Routines.map r82)[(Int.toNat p2.Routine)]? = some (r82 x11), AV.lit (.int .i64 (((x11.map o85).length : Nat) : Int)) = (I (x11.length : Int)), Meets Try.prog 68 [(I p2.Pc), (I 0), (I (x11.length : Int))] (B r12), litA (B r12) = true, (!r12) = false, (B (p2.State == 3)) = (B true), RenOK [(1, 1), (2, 2)] [((r35 p1))], RenOK [(1, 1), (2, 2)] [((r70 p2))]]) (by kernel_rfl) ⟨(rd0 hx11), (rdM r82 hx11), (lenM o85), (spec_l1In_m hr12), rfl, c14, (litB c15), (rok (treeB t35 p1)), (rok (treeB t70 p2)), trivial⟩ (spec_l3Thread_j1_m hP hn hx p1 p2  _ h)
    · rcases itS h with ⟨c21, h⟩ | ⟨c22, h⟩
      · exact go_to hΘ hm hx hP hn (hs := [⟨6, .row (r82 x11), none⟩, ⟨8, .no, some (I (x11.length : Int))⟩, ⟨9, .callV [] (B r12), none⟩, ⟨11, .br false, none⟩, ⟨15, .no, some (B false)⟩, ⟨20, .br true, none⟩]) (π := [(1, 1), (2, 2)]) (ts := [2, 3]) (kp := []) (ps := [(0 : Int) ≤ p2.Routine, (p1.Routines.map r82)[(Int.toNat p2.Routine)]? = some (r82 x11), AV.lit (.int .i64 (((x11.map o85).length : Nat) : Int)) = (I (x11.length : Int)), Meets Try.prog 68 [(I p2.Pc), (I 0), (I (x11.length : Int))] (B r12), litA (B r12) = true, (!r12) = false, (B (p2.State == 3)) = (B false), (p2.State == 4) = true, RenOK [(1, 1), (2, 2)] [((r35 p1))], RenOK [(1, 1), (2, 2)] [((r70 p2))]]) (by kernel_rfl) ⟨(rd0 hx11), (rdM r82 hx11), (lenM o85), (spec_l1In_m hr12), rfl, c14, (litB c20), c21, (rok (treeB t35 p1)), (rok (treeB t70 p2)), trivial⟩ (spec_l3Thread_j1_m hP hn hx p1 p2  _ h)
      · rcases itS h with ⟨c23, h⟩ | ⟨c24, h⟩
        · have h := Option.some.inj h
          subst h
          exact go_ret hΘ hm hP hn (hs := [⟨6, .row (r82 x11), none⟩, ⟨8, .no, some (I (x11.length : Int))⟩, ⟨9, .callV [] (B r12), none⟩, ⟨11, .br false, none⟩, ⟨15, .no, some (B false)⟩, ⟨20, .br false, none⟩, ⟨24, .no, some (B true)⟩]) (rh := []) (ph := .raw) (ps := [(0 : Int) ≤ p2.Routine, (p1.Routines.map r82)[(Int.toNat p2.Routine)]? = some (r82 x11), AV.lit (.int .i64 (((x11.map o85).length : Nat) : Int)) = (I (x11.length : Int)), Meets Try.prog 68 [(I p2.Pc), (I 0), (I (x11.length : Int))] (B r12), litA (B r12) = true, (!r12) = false, (B (p2.State == 3)) = (B false), (p2.State == 4) = false, (B (p2.Cond == (-1))) = (B true), (B (p2.Lock == (-1))) = (B (p2.Lock == (-1))), litA (B (p2.Lock == (-1))) = true]) (by kernel_rfl) ⟨(rd0 hx11), (rdM r82 hx11), (lenM o85), (spec_l1In_m hr12), rfl, c14, (litB c20), c22, (litB c23), rfl, rfl, trivial⟩
        · have h := Option.some.inj h
          subst h
          exact go_ret hΘ hm hP hn (hs := [⟨6, .row (r82 x11), none⟩, ⟨8, .no, some (I (x11.length : Int))⟩, ⟨9, .callV [] (B r12), none⟩, ⟨11, .br false, none⟩, ⟨15, .no, some (B false)⟩, ⟨20, .br false, none⟩, ⟨24, .no, some (B false)⟩]) (rh := []) (ph := .raw) (ps := [(0 : Int) ≤ p2.Routine, (p1.Routines.map r82)[(Int.toNat p2.Routine)]? = some (r82 x11), AV.lit (.int .i64 (((x11.map o85).length : Nat) : Int)) = (I (x11.length : Int)), Meets Try.prog 68 [(I p2.Pc), (I 0), (I (x11.length : Int))] (B r12), litA (B r12) = true, (!r12) = false, (B (p2.State == 3)) = (B false), (p2.State == 4) = false, (B (p2.Cond == (-1))) = (B false), (B false) = (B false), litA (B false) = true]) (by kernel_rfl) ⟨(rd0 hx11), (rdM r82 hx11), (lenM o85), (spec_l1In_m hr12), rfl, c14, (litB c20), c22, (litB c24), rfl, rfl, trivial⟩
noncomputable def spec_l3Thread (p1 : GProg) (p2 : GThread) : Option Bool :=
  Option.bind (spec_l1In p2.Routine 0 (w64 ((p1.Routines.length : Int) - 1))) fun r3 =>
  if (!r3) = true then
    some false
  else
    Option.bind (spec_l1In p2.State 1 4) fun r6 =>
    if (!r6) = true then
      some false
    else
      if (decide ((p2.Stack.length : Int) > 8)) = true then
        some false
      else
        spec_l3Thread_j0 p1 p2
theorem spec_l3Thread_m {p1 : GProg} {p2 : GThread} {r : Bool} (h : spec_l3Thread p1 p2 = some r) : Meets Try.prog 70 [(AV.agg ((r35 p1))), (AV.agg ((r70 p2)))] (B r) := by
  refine meets_ofC Θ_ok Try.func70 rfl (c := body70) (by kernel_rfl) (Nat.le_of_ble_eq_true rfl) ?_
  intro E hP hn hx
  replace hn : E.n = 66 := hn
  have hm : E.P.follows .mixedOrders = true := by rw [hP]; exact mixed
  have hΘ : TOK E.P Θ := by rw [hP]; exact Θ_ok
  unfold spec_l3Thread at h
  show WAt E body70 (FQ (RetE Θ Try.f70.results.toList [] [] (B r) E)) [] ⟨[(0, (AV.agg ((r35 p1)))), (1, (AV.agg ((r70 p2))))], [], [JJ]⟩
  obtain ⟨r3, hr3, h⟩ := bnS h
  rcases itS h with ⟨c4, h⟩ | ⟨c5, h⟩
  · have h := Option.some.inj h
    subst h
    exact go_ret hΘ hm hP hn (hs := [⟨0, .new 1001, none⟩, ⟨1, .new 1002, none⟩, ⟨7, .no, some (I (p1.Routines.length : Int))⟩, ⟨9, .callV [] (B r3), none⟩, ⟨11, .no, some (B true)⟩]) (rh := []) (ph := .raw) (ps := [AV.lit (.int .i64 (((p1.Routines.map r82).length : Nat) : Int)) = (I (p1.Routines.length : Int)), Meets Try.prog 68 [(I p2.Routine), (I 0), (I (w64 ((p1.Routines.length : Int) - 1)))] (B r3), litA (B r3) = true, (B (!r3)) = (B true), (B false) = (B false), litA (B false) = true]) (by kernel_rfl) ⟨(lenM r82), (spec_l1In_m hr3), rfl, (litB c4), rfl, rfl, trivial⟩
  · obtain ⟨r6, hr6, h⟩ := bnS h
    rcases itS h with ⟨c7, h⟩ | ⟨c8, h⟩
    · have h := Option.some.inj h
      subst h
      exact go_ret hΘ hm hP hn (hs := [⟨0, .new 1001, none⟩, ⟨1, .new 1002, none⟩, ⟨7, .no, some (I (p1.Routines.length : Int))⟩, ⟨9, .callV [] (B r3), none⟩, ⟨11, .no, some (B false)⟩, ⟨14, .callV [] (B r6), none⟩, ⟨17, .no, some (B true)⟩]) (rh := []) (ph := .raw) (ps := [AV.lit (.int .i64 (((p1.Routines.map r82).length : Nat) : Int)) = (I (p1.Routines.length : Int)), Meets Try.prog 68 [(I p2.Routine), (I 0), (I (w64 ((p1.Routines.length : Int) - 1)))] (B r3), litA (B r3) = true, (B (!r3)) = (B false), Meets Try.prog 68 [(I p2.State), (I 1), (I 4)] (B r6), litA (B r6) = true, (B (!r6)) = (B true), (B false) = (B false), litA (B false) = true]) (by kernel_rfl) ⟨(lenM r82), (spec_l1In_m hr3), rfl, (litB c5), (spec_l1In_m hr6), rfl, (litB c7), rfl, rfl, trivial⟩
    · rcases itS h with ⟨c9, h⟩ | ⟨c10, h⟩
      · have h := Option.some.inj h
        subst h
        exact go_ret hΘ hm hP hn (hs := [⟨0, .new 1001, none⟩, ⟨1, .new 1002, none⟩, ⟨7, .no, some (I (p1.Routines.length : Int))⟩, ⟨9, .callV [] (B r3), none⟩, ⟨11, .no, some (B false)⟩, ⟨14, .callV [] (B r6), none⟩, ⟨17, .no, some (B false)⟩, ⟨20, .no, some (I (p2.Stack.length : Int))⟩, ⟨23, .br true, none⟩]) (rh := []) (ph := .raw) (ps := [AV.lit (.int .i64 (((p1.Routines.map r82).length : Nat) : Int)) = (I (p1.Routines.length : Int)), Meets Try.prog 68 [(I p2.Routine), (I 0), (I (w64 ((p1.Routines.length : Int) - 1)))] (B r3), litA (B r3) = true, (B (!r3)) = (B false), Meets Try.prog 68 [(I p2.State), (I 1), (I 4)] (B r6), litA (B r6) = true, (B (!r6)) = (B false), AV.lit (.int .i64 (((p2.Stack.map o83).length : Nat) : Int)) = (I (p2.Stack.length : Int)), (decide ((p2.Stack.length : Int) > 8)) = true, (B false) = (B false), litA (B false) = true]) (by kernel_rfl) ⟨(lenM r82), (spec_l1In_m hr3), rfl, (litB c5), (spec_l1In_m hr6), rfl, (litB c8), (lenM o83), c9, rfl, rfl, trivial⟩
      · exact go_to hΘ hm hx hP hn (hs := [⟨0, .new 1001, none⟩, ⟨1, .new 1002, none⟩, ⟨7, .no, some (I (p1.Routines.length : Int))⟩, ⟨9, .callV [] (B r3), none⟩, ⟨11, .no, some (B false)⟩, ⟨14, .callV [] (B r6), none⟩, ⟨17, .no, some (B false)⟩, ⟨20, .no, some (I (p2.Stack.length : Int))⟩, ⟨23, .br false, none⟩]) (π := [(1001, 1), (1002, 2)]) (ts := [2, 3]) (kp := []) (ps := [AV.lit (.int .i64 (((p1.Routines.map r82).length : Nat) : Int)) = (I (p1.Routines.length : Int)), Meets Try.prog 68 [(I p2.Routine), (I 0), (I (w64 ((p1.Routines.length : Int) - 1)))] (B r3), litA (B r3) = true, (B (!r3)) = (B false), Meets Try.prog 68 [(I p2.State), (I 1), (I 4)] (B r6), litA (B r6) = true, (B (!r6)) = (B false), AV.lit (.int .i64 (((p2.Stack.map o83).length : Nat) : Int)) = (I (p2.Stack.length : Int)), (decide ((p2.Stack.length : Int) > 8)) = false, RenOK [(1001, 1), (1002, 2)] [((r35 p1))], RenOK [(1001, 1), (1002, 2)] [((r70 p2))]]) (by kernel_rfl) ⟨(lenM r82), (spec_l1In_m hr3), rfl, (litB c5), (spec_l1In_m hr6), rfl, (litB c8), (lenM o83), c10, (rok (treeB t35 p1)), (rok (treeB t70 p2)), trivial⟩ (spec_l3Thread_j0_m hP hn hx p1 p2  _ h)
noncomputable def body38 : Code := match Try.f38.body with | some c => c | none => .skip
noncomputable def spec_l3Good_l0  (p2 : GState) : Nat → GProg → GState → Int → Option Bool
  | 0, _, _, _ => none
  | n + 1, a13, a14, v15 =>
  if (decide (v15 < (p2.Threads.length : Int))) = true then
    Option.bind (rd p2.Threads v15) fun x17 =>
    Option.bind (spec_l3Thread a13 x17) fun r18 =>
    if (!r18) = true then
      some false
    else
      spec_l3Good_l0 p2 n a13 a14 (w64 (v15 + 1))
  else
    Option.bind (spec_l1All a14.Owner (-1) (w64 ((a14.Threads.length : Int) - 1))) fun r30 =>
    some r30
theorem spec_l3Good_l0_m {E : Env} (hP : E.P = Try.prog) (hn : E.n = 53) (hx : ∀ p, p ∈ E.fx → p.1 ∈ ([] : List Nat)) (p2 : GState)  : ∀ (n : Nat) (a13 : GProg) (a14 : GState) (v15 : Int) (r : Bool), spec_l3Good_l0 p2 n a13 a14 v15 = some r → WAt E body38 (FQ (RetE Θ Try.f38.results.toList [] [] (B r) E)) [true, true, false, true, false] ⟨[(2, (AV.ptr 1 0 0)), (3, (AV.ptr 2 0 0)), (35, (AV.ro 6 (p2.Threads.map r70))), (36, (I (p2.Threads.length : Int))), (37, (I v15))], [(1, some ⟨35, 4, [((r35 a13))]⟩), (2, some ⟨39, 4, [((r39 a14))]⟩)], [1, 2, JJ]⟩ := by
  have hm : E.P.follows .mixedOrders = true := by rw [hP]; exact mixed
  have hΘ : TOK E.P Θ := by rw [hP]; exact Θ_ok
  intro n
  induction n with
  | zero => intro a13 a14 v15 r h; simp only [spec_l3Good_l0] at h; cases h
  | succ n ih =>
    intro a13 a14 v15 r h
    simp only [spec_l3Good_l0] at h
    rcases itS h with ⟨c16, h⟩ | ⟨c21, h⟩
    · obtain ⟨x17, hx17, h⟩ := bnS h
      obtain ⟨r18, hr18, h⟩ := bnS h
      rcases itS h with ⟨c19, h⟩ | ⟨c20, h⟩
      · have h := Option.some.inj h
        subst h
        exact go_ret hΘ hm hP hn (hs := [⟨1, .br true, none⟩, ⟨2, .row (r70 x17), none⟩, ⟨4, .new 1001, none⟩, ⟨8, .callV [[], []] (B r18), none⟩, ⟨10, .br true, none⟩]) (rh := []) (ph := .raw) (ps := [(decide (v15 < (p2.Threads.length : Int))) = true, (0 : Int) ≤ v15, (p2.Threads.map r70)[(Int.toNat v15)]? = some (r70 x17), Meets Try.prog 70 [(AV.agg ((r35 a13))), (AV.agg ((r70 x17)))] (B r18), litA (B r18) = true, (!r18) = true, (B false) = (B false), litA (B false) = true]) (by kernel_rfl) ⟨c16, (rd0 hx17), (rdM r70 hx17), (spec_l3Thread_m hr18), rfl, c19, rfl, rfl, trivial⟩
      · exact go_to hΘ hm hx hP hn (hs := [⟨1, .br true, none⟩, ⟨2, .row (r70 x17), none⟩, ⟨4, .new 1001, none⟩, ⟨8, .callV [[], []] (B r18), none⟩, ⟨10, .br false, none⟩]) (π := [(1, 1), (2, 2)]) (ts := [2, 3, 35, 36, 37]) (kp := []) (ps := [(decide (v15 < (p2.Threads.length : Int))) = true, (0 : Int) ≤ v15, (p2.Threads.map r70)[(Int.toNat v15)]? = some (r70 x17), Meets Try.prog 70 [(AV.agg ((r35 a13))), (AV.agg ((r70 x17)))] (B r18), litA (B r18) = true, (!r18) = false, RenOK [(1, 1), (2, 2)] [((r35 a13))], RenOK [(1, 1), (2, 2)] [((r39 a14))]]) (by kernel_rfl) ⟨c16, (rd0 hx17), (rdM r70 hx17), (spec_l3Thread_m hr18), rfl, c20, (rok (treeB t35 a13)), (rok (treeB t39 a14)), trivial⟩ (ih a13 a14 (w64 (v15 + 1)) _ h)
    · obtain ⟨r30, hr30, h⟩ := bnS h
      have h := Option.some.inj h
      subst h
      exact go_ret hΘ hm hP hn (hs := [⟨1, .br false, none⟩, ⟨6, .no, some (I (a14.Threads.length : Int))⟩, ⟨8, .callV [] (B r30), none⟩]) (rh := []) (ph := .raw) (ps := [(decide (v15 < (p2.Threads.length : Int))) = false, AV.lit (.int .i64 (((a14.Threads.map r70).length : Nat) : Int)) = (I (a14.Threads.length : Int)), Meets Try.prog 71 [(AV.ro 1 (a14.Owner.map o3)), (I (-1)), (I (w64 ((a14.Threads.length : Int) - 1)))] (B r30), litA (B r30) = true, (B r30) = (B r30), litA (B r30) = true]) (by kernel_rfl) ⟨c21, (lenM r70), (spec_l1All_m hr30), rfl, rfl, rfl, trivial⟩
noncomputable def spec_l3Good (p1 : GProg) (p2 : GState) : Option Bool :=
  Option.bind (spec_l1In (p2.Threads.length : Int) 1 5) fun r3 =>
  if (!r3) = true then
    some false
  else
    if ((p2.Cells.length : Int) != p1.Cells) = true then
      some false
    else
      if ((p2.Owner.length : Int) != p1.Locks) = true then
        some false
      else
        Option.bind (spec_l1In p2.Fault 0 4) fun r10 =>
        if (!r10) = true then
          some false
        else
          spec_l3Good_l0 p2 FU p1 p2 0
theorem spec_l3Good_m {p1 : GProg} {p2 : GState} {r : Bool} (h : spec_l3Good p1 p2 = some r) : Meets Try.prog 38 [(AV.agg ((r35 p1))), (AV.agg ((r39 p2)))] (B r) := by
  refine meets_ofC Θ_ok Try.func38 rfl (c := body38) (by kernel_rfl) (Nat.le_of_ble_eq_true rfl) ?_
  intro E hP hn hx
  replace hn : E.n = 53 := hn
  have hm : E.P.follows .mixedOrders = true := by rw [hP]; exact mixed
  have hΘ : TOK E.P Θ := by rw [hP]; exact Θ_ok
  unfold spec_l3Good at h
  show WAt E body38 (FQ (RetE Θ Try.f38.results.toList [] [] (B r) E)) [] ⟨[(0, (AV.agg ((r35 p1)))), (1, (AV.agg ((r39 p2))))], [], [JJ]⟩
  obtain ⟨r3, hr3, h⟩ := bnS h
  rcases itS h with ⟨c4, h⟩ | ⟨c5, h⟩
  · have h := Option.some.inj h
    subst h
    exact go_ret hΘ hm hP hn (hs := [⟨0, .new 1001, none⟩, ⟨1, .new 1002, none⟩, ⟨5, .no, some (I (p2.Threads.length : Int))⟩, ⟨6, .callV [] (B r3), none⟩, ⟨8, .no, some (B true)⟩]) (rh := []) (ph := .raw) (ps := [AV.lit (.int .i64 (((p2.Threads.map r70).length : Nat) : Int)) = (I (p2.Threads.length : Int)), Meets Try.prog 68 [(I (p2.Threads.length : Int)), (I 1), (I 5)] (B r3), litA (B r3) = true, (B (!r3)) = (B true), (B false) = (B false), litA (B false) = true]) (by kernel_rfl) ⟨(lenM r70), (spec_l1In_m hr3), rfl, (litB c4), rfl, rfl, trivial⟩
  · rcases itS h with ⟨c6, h⟩ | ⟨c7, h⟩
    · have h := Option.some.inj h
      subst h
      exact go_ret hΘ hm hP hn (hs := [⟨0, .new 1001, none⟩, ⟨1, .new 1002, none⟩, ⟨5, .no, some (I (p2.Threads.length : Int))⟩, ⟨6, .callV [] (B r3), none⟩, ⟨8, .no, some (B false)⟩, ⟨11, .no, some (I (p2.Cells.length : Int))⟩, ⟨16, .no, some (B true)⟩]) (rh := []) (ph := .raw) (ps := [AV.lit (.int .i64 (((p2.Threads.map r70).length : Nat) : Int)) = (I (p2.Threads.length : Int)), Meets Try.prog 68 [(I (p2.Threads.length : Int)), (I 1), (I 5)] (B r3), litA (B r3) = true, (B (!r3)) = (B false), AV.lit (.int .i64 (((p2.Cells.map o83).length : Nat) : Int)) = (I (p2.Cells.length : Int)), (B ((p2.Cells.length : Int) != p1.Cells)) = (B true), (B false) = (B false), litA (B false) = true]) (by kernel_rfl) ⟨(lenM r70), (spec_l1In_m hr3), rfl, (litB c5), (lenM o83), (litB c6), rfl, rfl, trivial⟩
    · rcases itS h with ⟨c8, h⟩ | ⟨c9, h⟩
      · have h := Option.some.inj h
        subst h
        exact go_ret hΘ hm hP hn (hs := [⟨0, .new 1001, none⟩, ⟨1, .new 1002, none⟩, ⟨5, .no, some (I (p2.Threads.length : Int))⟩, ⟨6, .callV [] (B r3), none⟩, ⟨8, .no, some (B false)⟩, ⟨11, .no, some (I (p2.Cells.length : Int))⟩, ⟨16, .no, some (B false)⟩, ⟨19, .no, some (I (p2.Owner.length : Int))⟩, ⟨24, .no, some (B true)⟩]) (rh := []) (ph := .raw) (ps := [AV.lit (.int .i64 (((p2.Threads.map r70).length : Nat) : Int)) = (I (p2.Threads.length : Int)), Meets Try.prog 68 [(I (p2.Threads.length : Int)), (I 1), (I 5)] (B r3), litA (B r3) = true, (B (!r3)) = (B false), AV.lit (.int .i64 (((p2.Cells.map o83).length : Nat) : Int)) = (I (p2.Cells.length : Int)), (B ((p2.Cells.length : Int) != p1.Cells)) = (B false), AV.lit (.int .i64 (((p2.Owner.map o3).length : Nat) : Int)) = (I (p2.Owner.length : Int)), (B ((p2.Owner.length : Int) != p1.Locks)) = (B true), (B false) = (B false), litA (B false) = true]) (by kernel_rfl) ⟨(lenM r70), (spec_l1In_m hr3), rfl, (litB c5), (lenM o83), (litB c7), (lenM o3), (litB c8), rfl, rfl, trivial⟩
      · obtain ⟨r10, hr10, h⟩ := bnS h
        rcases itS h with ⟨c11, h⟩ | ⟨c12, h⟩
        · have h := Option.some.inj h
          subst h
          exact go_ret hΘ hm hP hn (hs := [⟨0, .new 1001, none⟩, ⟨1, .new 1002, none⟩, ⟨5, .no, some (I (p2.Threads.length : Int))⟩, ⟨6, .callV [] (B r3), none⟩, ⟨8, .no, some (B false)⟩, ⟨11, .no, some (I (p2.Cells.length : Int))⟩, ⟨16, .no, some (B false)⟩, ⟨19, .no, some (I (p2.Owner.length : Int))⟩, ⟨24, .no, some (B false)⟩, ⟨27, .callV [] (B r10), none⟩, ⟨30, .br true, none⟩]) (rh := []) (ph := .raw) (ps := [AV.lit (.int .i64 (((p2.Threads.map r70).length : Nat) : Int)) = (I (p2.Threads.length : Int)), Meets Try.prog 68 [(I (p2.Threads.length : Int)), (I 1), (I 5)] (B r3), litA (B r3) = true, (B (!r3)) = (B false), AV.lit (.int .i64 (((p2.Cells.map o83).length : Nat) : Int)) = (I (p2.Cells.length : Int)), (B ((p2.Cells.length : Int) != p1.Cells)) = (B false), AV.lit (.int .i64 (((p2.Owner.map o3).length : Nat) : Int)) = (I (p2.Owner.length : Int)), (B ((p2.Owner.length : Int) != p1.Locks)) = (B false), Meets Try.prog 68 [(I p2.Fault), (I 0), (I 4)] (B r10), litA (B r10) = true, (!r10) = true, (B false) = (B false), litA (B false) = true]) (by kernel_rfl) ⟨(lenM r70), (spec_l1In_m hr3), rfl, (litB c5), (lenM o83), (litB c7), (lenM o3), (litB c9), (spec_l1In_m hr10), rfl, c11, rfl, rfl, trivial⟩
        · exact go_to hΘ hm hx hP hn (hs := [⟨0, .new 1001, none⟩, ⟨1, .new 1002, none⟩, ⟨5, .no, some (I (p2.Threads.length : Int))⟩, ⟨6, .callV [] (B r3), none⟩, ⟨8, .no, some (B false)⟩, ⟨11, .no, some (I (p2.Cells.length : Int))⟩, ⟨16, .no, some (B false)⟩, ⟨19, .no, some (I (p2.Owner.length : Int))⟩, ⟨24, .no, some (B false)⟩, ⟨27, .callV [] (B r10), none⟩, ⟨30, .br false, none⟩, ⟨33, .no, some (I (p2.Threads.length : Int))⟩]) (π := [(1001, 1), (1002, 2)]) (ts := [2, 3, 35, 36, 37]) (kp := []) (ps := [AV.lit (.int .i64 (((p2.Threads.map r70).length : Nat) : Int)) = (I (p2.Threads.length : Int)), Meets Try.prog 68 [(I (p2.Threads.length : Int)), (I 1), (I 5)] (B r3), litA (B r3) = true, (B (!r3)) = (B false), AV.lit (.int .i64 (((p2.Cells.map o83).length : Nat) : Int)) = (I (p2.Cells.length : Int)), (B ((p2.Cells.length : Int) != p1.Cells)) = (B false), AV.lit (.int .i64 (((p2.Owner.map o3).length : Nat) : Int)) = (I (p2.Owner.length : Int)), (B ((p2.Owner.length : Int) != p1.Locks)) = (B false), Meets Try.prog 68 [(I p2.Fault), (I 0), (I 4)] (B r10), litA (B r10) = true, (!r10) = false, AV.lit (.int .i64 (((p2.Threads.map r70).length : Nat) : Int)) = (I (p2.Threads.length : Int)), RenOK [(1001, 1), (1002, 2)] [((r35 p1))], RenOK [(1001, 1), (1002, 2)] [((r39 p2))]]) (by kernel_rfl) ⟨(lenM r70), (spec_l1In_m hr3), rfl, (litB c5), (lenM o83), (litB c7), (lenM o3), (litB c9), (spec_l1In_m hr10), rfl, c12, (lenM r70), (rok (treeB t35 p1)), (rok (treeB t39 p2)), trivial⟩ (spec_l3Good_l0_m hP hn hx p2 FU p1 p2 0 _ h)
noncomputable def body10 : Code := match Try.f10.body with | some c => c | none => .skip
noncomputable def spec_GoodState (p1 : GProg) (p2 : GState) : Option Bool :=
  Option.bind (spec_GoodProg p1) fun r3 =>
  if r3 = true then
    Option.bind (spec_l3Good p1 p2) fun r5 =>
    some r5
  else
    some false
theorem spec_GoodState_m {p1 : GProg} {p2 : GState} {r : Bool} (h : spec_GoodState p1 p2 = some r) : Meets Try.prog 10 [(AV.agg ((r35 p1))), (AV.agg ((r39 p2)))] (B r) := by
  refine meets_ofC Θ_ok Try.func10 rfl (c := body10) (by kernel_rfl) (Nat.le_of_ble_eq_true rfl) ?_
  intro E hP hn hx
  replace hn : E.n = 12 := hn
  have hm : E.P.follows .mixedOrders = true := by rw [hP]; exact mixed
  have hΘ : TOK E.P Θ := by rw [hP]; exact Θ_ok
  unfold spec_GoodState at h
  show WAt E body10 (FQ (RetE Θ Try.f10.results.toList [] [] (B r) E)) [] ⟨[(0, (AV.agg ((r35 p1)))), (1, (AV.agg ((r39 p2))))], [], [JJ]⟩
  obtain ⟨r3, hr3, h⟩ := bnS h
  rcases itS h with ⟨c4, h⟩ | ⟨c6, h⟩
  · obtain ⟨r5, hr5, h⟩ := bnS h
    have h := Option.some.inj h
    subst h
    exact go_ret hΘ hm hP hn (hs := [⟨0, .new 1001, none⟩, ⟨1, .new 1002, none⟩, ⟨4, .callV [[]] (B r3), none⟩, ⟨5, .no, some (B true)⟩, ⟨8, .callV [[], []] (B r5), none⟩]) (rh := []) (ph := .raw) (ps := [Meets Try.prog 37 [(AV.agg ((r35 p1)))] (B r3), litA (B r3) = true, (B r3) = (B true), Meets Try.prog 38 [(AV.agg ((r35 p1))), (AV.agg ((r39 p2)))] (B r5), litA (B r5) = true, (B r5) = (B r5), litA (B r5) = true]) (by kernel_rfl) ⟨(spec_GoodProg_m hr3), rfl, (litB c4), (spec_l3Good_m hr5), rfl, rfl, rfl, trivial⟩
  · have h := Option.some.inj h
    subst h
    exact go_ret hΘ hm hP hn (hs := [⟨0, .new 1001, none⟩, ⟨1, .new 1002, none⟩, ⟨4, .callV [[]] (B r3), none⟩, ⟨5, .no, some (B false)⟩]) (rh := []) (ph := .raw) (ps := [Meets Try.prog 37 [(AV.agg ((r35 p1)))] (B r3), litA (B r3) = true, (B r3) = (B false), (B false) = (B false), litA (B false) = true]) (by kernel_rfl) ⟨(spec_GoodProg_m hr3), rfl, (litB c6), rfl, rfl, trivial⟩
noncomputable def body99 : Code := match Try.f99.body with | some c => c | none => .skip
noncomputable def spec_ToIndex (p1 : Nat) (p2 : Int) : Option (Int × Bool) :=
  Option.bind (spec_l1In p2 1 1000) fun r3 =>
  if (!r3) = true then
    some (0, false)
  else
    if ((fcmp p1 0) == some .lt) = true then
      some (0, false)
    else
      if (!((fcmp p1 (fOf p2)) == some .lt)) = true then
        some (0, false)
      else
        Option.bind (fTo p1) fun x10 =>
        if ((fcmp (fOf x10) p1) != some .eq) = true then
          some (0, false)
        else
          Option.bind (fTo p1) fun x13 =>
          some (x13, true)
theorem spec_ToIndex_m {p1 : Nat} {p2 : Int} {r : (Int × Bool)} (h : spec_ToIndex p1 p2 = some r) : Meets Try.prog 99 [(FK p1), (I p2)] (AV.tup [(I r.1), (B r.2)]) := by
  refine meets_ofC Θ_ok Try.func99 rfl (c := body99) (by kernel_rfl) (Nat.le_of_ble_eq_true rfl) ?_
  intro E hP hn hx
  replace hn : E.n = 29 := hn
  have hm : E.P.follows .mixedOrders = true := by rw [hP]; exact mixed
  have hΘ : TOK E.P Θ := by rw [hP]; exact Θ_ok
  unfold spec_ToIndex at h
  show WAt E body99 (FQ (RetE Θ Try.f99.results.toList [] [] (AV.tup [(I r.1), (B r.2)]) E)) [] ⟨[(0, (FK p1)), (1, (I p2))], [], [JJ]⟩
  obtain ⟨r3, hr3, h⟩ := bnS h
  rcases itS h with ⟨c4, h⟩ | ⟨c5, h⟩
  · have h := Option.some.inj h
    subst h
    exact go_ret hΘ hm hP hn (hs := [⟨3, .callV [] (B r3), none⟩, ⟨5, .no, some (B true)⟩]) (rh := []) (ph := .agg [.raw, .raw]) (ps := [Meets Try.prog 68 [(I p2), (I 1), (I 1000)] (B r3), litA (B r3) = true, (B (!r3)) = (B true), (I 0) = (I 0), litA (I 0) = true, (B false) = (B false), litA (B false) = true]) (by kernel_rfl) ⟨(spec_l1In_m hr3), rfl, (litB c4), rfl, rfl, rfl, rfl, trivial⟩
  · rcases itS h with ⟨c6, h⟩ | ⟨c7, h⟩
    · have h := Option.some.inj h
      subst h
      exact go_ret hΘ hm hP hn (hs := [⟨3, .callV [] (B r3), none⟩, ⟨5, .no, some (B false)⟩, ⟨7, .bin (B ((fcmp p1 0) == some .lt)), none⟩, ⟨9, .no, some (B true)⟩]) (rh := []) (ph := .agg [.raw, .raw]) (ps := [Meets Try.prog 68 [(I p2), (I 1), (I 1000)] (B r3), litA (B r3) = true, (B (!r3)) = (B false), BinS Try.prog .lss 83 (FK p1) (FK 0) (B ((fcmp p1 0) == some .lt)), (B ((fcmp p1 0) == some .lt)) = (B true), (I 0) = (I 0), litA (I 0) = true, (B false) = (B false), litA (B false) = true]) (by kernel_rfl) ⟨(spec_l1In_m hr3), rfl, (litB c5), fLss, (litB c6), rfl, rfl, rfl, rfl, trivial⟩
    · rcases itS h with ⟨c8, h⟩ | ⟨c9, h⟩
      · have h := Option.some.inj h
        subst h
        exact go_ret hΘ hm hP hn (hs := [⟨3, .callV [] (B r3), none⟩, ⟨5, .no, some (B false)⟩, ⟨7, .bin (B ((fcmp p1 0) == some .lt)), none⟩, ⟨9, .no, some (B false)⟩, ⟨12, .cnv (FK (fOf p2)), none⟩, ⟨13, .bin (B ((fcmp p1 (fOf p2)) == some .lt)), none⟩, ⟨16, .no, some (B true)⟩]) (rh := []) (ph := .agg [.raw, .raw]) (ps := [Meets Try.prog 68 [(I p2), (I 1), (I 1000)] (B r3), litA (B r3) = true, (B (!r3)) = (B false), BinS Try.prog .lss 83 (FK p1) (FK 0) (B ((fcmp p1 0) == some .lt)), (B ((fcmp p1 0) == some .lt)) = (B false), CnvS Try.prog 3 83 (I p2) (FK (fOf p2)), BinS Try.prog .lss 83 (FK p1) (FK (fOf p2)) (B ((fcmp p1 (fOf p2)) == some .lt)), (B (!((fcmp p1 (fOf p2)) == some .lt))) = (B true), (I 0) = (I 0), litA (I 0) = true, (B false) = (B false), litA (B false) = true]) (by kernel_rfl) ⟨(spec_l1In_m hr3), rfl, (litB c5), fLss, (litB c7), (cIF (P := Try.prog) ty3 ty83), fLss, (litB c8), rfl, rfl, rfl, rfl, trivial⟩
      · obtain ⟨x10, hx10, h⟩ := bnS h
        rcases itS h with ⟨c11, h⟩ | ⟨c12, h⟩
        · have h := Option.some.inj h
          subst h
          exact go_ret hΘ hm hP hn (hs := [⟨3, .callV [] (B r3), none⟩, ⟨5, .no, some (B false)⟩, ⟨7, .bin (B ((fcmp p1 0) == some .lt)), none⟩, ⟨9, .no, some (B false)⟩, ⟨12, .cnv (FK (fOf p2)), none⟩, ⟨13, .bin (B ((fcmp p1 (fOf p2)) == some .lt)), none⟩, ⟨16, .no, some (B false)⟩, ⟨18, .cnv (I x10), none⟩, ⟨19, .cnv (FK (fOf x10)), none⟩, ⟨21, .bin (B ((fcmp (fOf x10) p1) != some .eq)), none⟩, ⟨23, .br true, none⟩]) (rh := []) (ph := .agg [.raw, .raw]) (ps := [Meets Try.prog 68 [(I p2), (I 1), (I 1000)] (B r3), litA (B r3) = true, (B (!r3)) = (B false), BinS Try.prog .lss 83 (FK p1) (FK 0) (B ((fcmp p1 0) == some .lt)), (B ((fcmp p1 0) == some .lt)) = (B false), CnvS Try.prog 3 83 (I p2) (FK (fOf p2)), BinS Try.prog .lss 83 (FK p1) (FK (fOf p2)) (B ((fcmp p1 (fOf p2)) == some .lt)), (B (!((fcmp p1 (fOf p2)) == some .lt))) = (B false), CnvS Try.prog 83 3 (FK p1) (I x10), CnvS Try.prog 3 83 (I x10) (FK (fOf x10)), BinS Try.prog .neq 83 (FK (fOf x10)) (FK p1) (B ((fcmp (fOf x10) p1) != some .eq)), ((fcmp (fOf x10) p1) != some .eq) = true, (I 0) = (I 0), litA (I 0) = true, (B false) = (B false), litA (B false) = true]) (by kernel_rfl) ⟨(spec_l1In_m hr3), rfl, (litB c5), fLss, (litB c7), (cIF (P := Try.prog) ty3 ty83), fLss, (litB c9), (cFI (P := Try.prog) ty83 ty3 hx10), (cIF (P := Try.prog) ty3 ty83), fNeq, c11, rfl, rfl, rfl, rfl, trivial⟩
        · obtain ⟨x13, hx13, h⟩ := bnS h
          have h := Option.some.inj h
          subst h
          exact go_ret hΘ hm hP hn (hs := [⟨3, .callV [] (B r3), none⟩, ⟨5, .no, some (B false)⟩, ⟨7, .bin (B ((fcmp p1 0) == some .lt)), none⟩, ⟨9, .no, some (B false)⟩, ⟨12, .cnv (FK (fOf p2)), none⟩, ⟨13, .bin (B ((fcmp p1 (fOf p2)) == some .lt)), none⟩, ⟨16, .no, some (B false)⟩, ⟨18, .cnv (I x10), none⟩, ⟨19, .cnv (FK (fOf x10)), none⟩, ⟨21, .bin (B ((fcmp (fOf x10) p1) != some .eq)), none⟩, ⟨23, .br false, none⟩, ⟨25, .cnv (I x13), none⟩]) (rh := []) (ph := .agg [.raw, .raw]) (ps := [Meets Try.prog 68 [(I p2), (I 1), (I 1000)] (B r3), litA (B r3) = true, (B (!r3)) = (B false), BinS Try.prog .lss 83 (FK p1) (FK 0) (B ((fcmp p1 0) == some .lt)), (B ((fcmp p1 0) == some .lt)) = (B false), CnvS Try.prog 3 83 (I p2) (FK (fOf p2)), BinS Try.prog .lss 83 (FK p1) (FK (fOf p2)) (B ((fcmp p1 (fOf p2)) == some .lt)), (B (!((fcmp p1 (fOf p2)) == some .lt))) = (B false), CnvS Try.prog 83 3 (FK p1) (I x10), CnvS Try.prog 3 83 (I x10) (FK (fOf x10)), BinS Try.prog .neq 83 (FK (fOf x10)) (FK p1) (B ((fcmp (fOf x10) p1) != some .eq)), ((fcmp (fOf x10) p1) != some .eq) = false, CnvS Try.prog 83 3 (FK p1) (I x13), (I x13) = (I x13), litA (I x13) = true, (B true) = (B true), litA (B true) = true]) (by kernel_rfl) ⟨(spec_l1In_m hr3), rfl, (litB c5), fLss, (litB c7), (cIF (P := Try.prog) ty3 ty83), fLss, (litB c9), (cFI (P := Try.prog) ty83 ty3 hx10), (cIF (P := Try.prog) ty3 ty83), fNeq, c12, (cFI (P := Try.prog) ty83 ty3 hx13), rfl, rfl, rfl, rfl, trivial⟩
noncomputable def body89 : Code := match Try.f89.body with | some c => c | none => .skip
noncomputable def spec_l3Joins (p1 : GState) (p2 : GThread) : Option Int :=
  if ((p2.Stack.length : Int) == 0) = true then
    some (-1)
  else
    Option.bind (rd p2.Stack (w64 ((p2.Stack.length : Int) - 1))) fun x5 =>
    Option.bind (spec_ToIndex x5 (p1.Threads.length : Int)) fun r6 =>
    if (!r6.2) = true then
      some (-1)
    else
      some r6.1
theorem spec_l3Joins_m {p1 : GState} {p2 : GThread} {r : Int} (h : spec_l3Joins p1 p2 = some r) : Meets Try.prog 89 [(AV.agg ((r39 p1))), (AV.agg ((r70 p2)))] (I r) := by
  refine meets_ofC Θ_ok Try.func89 rfl (c := body89) (by kernel_rfl) (Nat.le_of_ble_eq_true rfl) ?_
  intro E hP hn hx
  replace hn : E.n = 29 := hn
  have hm : E.P.follows .mixedOrders = true := by rw [hP]; exact mixed
  have hΘ : TOK E.P Θ := by rw [hP]; exact Θ_ok
  unfold spec_l3Joins at h
  show WAt E body89 (FQ (RetE Θ Try.f89.results.toList [] [] (I r) E)) [] ⟨[(0, (AV.agg ((r39 p1)))), (1, (AV.agg ((r70 p2))))], [], [JJ]⟩
  rcases itS h with ⟨c3, h⟩ | ⟨c4, h⟩
  · have h := Option.some.inj h
    subst h
    exact go_ret hΘ hm hP hn (hs := [⟨0, .new 1001, none⟩, ⟨1, .new 1002, none⟩, ⟨5, .no, some (I (p2.Stack.length : Int))⟩, ⟨7, .br true, none⟩]) (rh := []) (ph := .raw) (ps := [AV.lit (.int .i64 (((p2.Stack.map o83).length : Nat) : Int)) = (I (p2.Stack.length : Int)), ((p2.Stack.length : Int) == 0) = true, (I (-1)) = (I (-1)), litA (I (-1)) = true]) (by kernel_rfl) ⟨(lenM o83), c3, rfl, rfl, trivial⟩
  · obtain ⟨x5, hx5, h⟩ := bnS h
    obtain ⟨r6, hr6, h⟩ := bnS h
    rcases itS h with ⟨c7, h⟩ | ⟨c8, h⟩
    · have h := Option.some.inj h
      subst h
      exact go_ret hΘ hm hP hn (hs := [⟨0, .new 1001, none⟩, ⟨1, .new 1002, none⟩, ⟨5, .no, some (I (p2.Stack.length : Int))⟩, ⟨7, .br false, none⟩, ⟨12, .no, some (I (p2.Stack.length : Int))⟩, ⟨14, .row (o83 x5), none⟩, ⟨18, .no, some (I (p1.Threads.length : Int))⟩, ⟨19, .callV [] (AV.tup [(I r6.1), (B r6.2)]), none⟩, ⟨27, .br true, none⟩]) (rh := []) (ph := .raw) (ps := [AV.lit (.int .i64 (((p2.Stack.map o83).length : Nat) : Int)) = (I (p2.Stack.length : Int)), ((p2.Stack.length : Int) == 0) = false, AV.lit (.int .i64 (((p2.Stack.map o83).length : Nat) : Int)) = (I (p2.Stack.length : Int)), (0 : Int) ≤ (w64 ((p2.Stack.length : Int) - 1)), (p2.Stack.map o83)[(Int.toNat (w64 ((p2.Stack.length : Int) - 1)))]? = some (o83 x5), AV.lit (.int .i64 (((p1.Threads.map r70).length : Nat) : Int)) = (I (p1.Threads.length : Int)), Meets Try.prog 99 [(FK x5), (I (p1.Threads.length : Int))] (AV.tup [(I r6.1), (B r6.2)]), litA (AV.tup [(I r6.1), (B r6.2)]) = true, (!r6.2) = true, (I (-1)) = (I (-1)), litA (I (-1)) = true]) (by kernel_rfl) ⟨(lenM o83), c4, (lenM o83), (rd0 hx5), (rdM o83 hx5), (lenM r70), (spec_ToIndex_m hr6), rfl, c7, rfl, rfl, trivial⟩
    · have h := Option.some.inj h
      subst h
      exact go_ret hΘ hm hP hn (hs := [⟨0, .new 1001, none⟩, ⟨1, .new 1002, none⟩, ⟨5, .no, some (I (p2.Stack.length : Int))⟩, ⟨7, .br false, none⟩, ⟨12, .no, some (I (p2.Stack.length : Int))⟩, ⟨14, .row (o83 x5), none⟩, ⟨18, .no, some (I (p1.Threads.length : Int))⟩, ⟨19, .callV [] (AV.tup [(I r6.1), (B r6.2)]), none⟩, ⟨27, .br false, none⟩]) (rh := []) (ph := .raw) (ps := [AV.lit (.int .i64 (((p2.Stack.map o83).length : Nat) : Int)) = (I (p2.Stack.length : Int)), ((p2.Stack.length : Int) == 0) = false, AV.lit (.int .i64 (((p2.Stack.map o83).length : Nat) : Int)) = (I (p2.Stack.length : Int)), (0 : Int) ≤ (w64 ((p2.Stack.length : Int) - 1)), (p2.Stack.map o83)[(Int.toNat (w64 ((p2.Stack.length : Int) - 1)))]? = some (o83 x5), AV.lit (.int .i64 (((p1.Threads.map r70).length : Nat) : Int)) = (I (p1.Threads.length : Int)), Meets Try.prog 99 [(FK x5), (I (p1.Threads.length : Int))] (AV.tup [(I r6.1), (B r6.2)]), litA (AV.tup [(I r6.1), (B r6.2)]) = true, (!r6.2) = false, (I r6.1) = (I r6.1), litA (I r6.1) = true]) (by kernel_rfl) ⟨(lenM o83), c4, (lenM o83), (rd0 hx5), (rdM o83 hx5), (lenM r70), (spec_ToIndex_m hr6), rfl, c8, rfl, rfl, trivial⟩
noncomputable def body88 : Code := match Try.f88.body with | some c => c | none => .skip
noncomputable def spec_l3Next (p1 : GProg) (p2 : GThread) : Option (GOp × Bool) :=
  Option.bind (rd p1.Routines p2.Routine) fun x3 =>
  if (p2.Pc == (x3.length : Int)) = true then
    some ((GOp.mk 0 0 0 0), false)
  else
    Option.bind (rd x3 p2.Pc) fun x6 =>
    some (x6, true)
theorem spec_l3Next_m {p1 : GProg} {p2 : GThread} {r : (GOp × Bool)} (h : spec_l3Next p1 p2 = some r) : Meets Try.prog 88 [(AV.agg ((r35 p1))), (AV.agg ((r70 p2)))] (AV.tup [(AV.agg (o85 r.1)), (B r.2)]) := by
  refine meets_ofC Θ_ok Try.func88 rfl (c := body88) (by kernel_rfl) (Nat.le_of_ble_eq_true rfl) ?_
  intro E hP hn hx
  replace hn : E.n = 24 := hn
  have hm : E.P.follows .mixedOrders = true := by rw [hP]; exact mixed
  have hΘ : TOK E.P Θ := by rw [hP]; exact Θ_ok
  unfold spec_l3Next at h
  show WAt E body88 (FQ (RetE Θ Try.f88.results.toList [] [] (AV.tup [(AV.agg (o85 r.1)), (B r.2)]) E)) [] ⟨[(0, (AV.agg ((r35 p1)))), (1, (AV.agg ((r70 p2))))], [], [JJ]⟩
  obtain ⟨x3, hx3, h⟩ := bnS h
  rcases itS h with ⟨c4, h⟩ | ⟨c5, h⟩
  · have h := Option.some.inj h
    subst h
    exact go_ret hΘ hm hP hn (hs := [⟨0, .new 1001, none⟩, ⟨1, .new 1002, none⟩, ⟨2, .new 1003, none⟩, ⟨8, .row (r82 x3), none⟩, ⟨14, .no, some (I (x3.length : Int))⟩, ⟨16, .br true, none⟩]) (rh := []) (ph := .agg [.raw, .raw]) (ps := [(0 : Int) ≤ p2.Routine, (p1.Routines.map r82)[(Int.toNat p2.Routine)]? = some (r82 x3), AV.lit (.int .i64 (((x3.map o85).length : Nat) : Int)) = (I (x3.length : Int)), (p2.Pc == (x3.length : Int)) = true, (AV.agg [(I 0), (I 0), (I 0), (FK 0)]) = (AV.agg [(I 0), (I 0), (I 0), (FK 0)]), litA (AV.agg [(I 0), (I 0), (I 0), (FK 0)]) = true, (B false) = (B false), litA (B false) = true]) (by kernel_rfl) ⟨(rd0 hx3), (rdM r82 hx3), (lenM o85), c4, rfl, rfl, rfl, rfl, trivial⟩
  · obtain ⟨x6, hx6, h⟩ := bnS h
    have h := Option.some.inj h
    subst h
    exact go_ret hΘ hm hP hn (hs := [⟨0, .new 1001, none⟩, ⟨1, .new 1002, none⟩, ⟨2, .new 1003, none⟩, ⟨8, .row (r82 x3), none⟩, ⟨14, .no, some (I (x3.length : Int))⟩, ⟨16, .br false, none⟩, ⟨20, .row (o85 x6), none⟩]) (rh := []) (ph := .agg [.raw, .raw]) (ps := [(0 : Int) ≤ p2.Routine, (p1.Routines.map r82)[(Int.toNat p2.Routine)]? = some (r82 x3), AV.lit (.int .i64 (((x3.map o85).length : Nat) : Int)) = (I (x3.length : Int)), (p2.Pc == (x3.length : Int)) = false, (0 : Int) ≤ p2.Pc, (x3.map o85)[(Int.toNat p2.Pc)]? = some (o85 x6), (AV.agg ((o85 x6))) = (AV.agg ((o85 x6))), litA (AV.agg ((o85 x6))) = true, (B true) = (B true), litA (B true) = true]) (by kernel_rfl) ⟨(rd0 hx3), (rdM r82 hx3), (lenM o85), c5, (rd0 hx6), (rdM o85 hx6), rfl, rfl, rfl, rfl, trivial⟩
noncomputable def body64 : Code := match Try.f64.body with | some c => c | none => .skip
noncomputable def spec_l3Blocks_j0  (p2 : GState) (p3 : GThread) (r7 : (GOp × Bool))  : Option Int :=
  if (r7.1.Code == 12) = true then
    Option.bind (rd p2.Owner r7.1.A) fun x13 =>
    some x13
  else
    if (r7.1.Code == 15) = true then
      Option.bind (spec_l3Joins p2 p3) fun r16 =>
      if (decide (r16 ≥ 0)) = true then
        Option.bind (rd p2.Threads r16) fun x18 =>
        if (x18.State != 2) = true then
          some r16
        else
          some (-1)
      else
        some (-1)
    else
      some (-1)
theorem spec_l3Blocks_j0_m {E : Env} (hP : E.P = Try.prog) (hn : E.n = 59) (hx : ∀ p, p ∈ E.fx → p.1 ∈ ([] : List Nat)) (p2 : GState) (p3 : GThread) (r7 : (GOp × Bool))   (r : Int) (h : spec_l3Blocks_j0 p2 p3 r7  = some r) : WAt E body64 (FQ (RetE Θ Try.f64.results.toList [] [] (I r) E)) [true, true, true, false, true, true] ⟨[(4, (AV.ptr 1 0 0)), (5, (AV.ptr 2 0 0)), (7, (AV.ptr 3 0 0))], [(1, some ⟨39, 4, [((r39 p2))]⟩), (2, some ⟨70, 6, [((r70 p3))]⟩), (3, some ⟨85, 4, [((o85 r7.1))]⟩)], [1, 2, 3, JJ]⟩ := by
  have hm : E.P.follows .mixedOrders = true := by rw [hP]; exact mixed
  have hΘ : TOK E.P Θ := by rw [hP]; exact Θ_ok
  unfold spec_l3Blocks_j0 at h
  rcases itS h with ⟨c12, h⟩ | ⟨c14, h⟩
  · obtain ⟨x13, hx13, h⟩ := bnS h
    have h := Option.some.inj h
    subst h
    exact go_ret hΘ hm hP hn (hs := [⟨4, .br true, none⟩, ⟨9, .row (o3 x13), none⟩]) (rh := []) (ph := .raw) (ps := [(r7.1.Code == 12) = true, (0 : Int) ≤ r7.1.A, (p2.Owner.map o3)[(Int.toNat r7.1.A)]? = some (o3 x13), (I x13) = (I x13), litA (I x13) = true]) (by kernel_rfl) ⟨c12, (rd0 hx13), (rdM o3 hx13), rfl, rfl, trivial⟩
  · rcases itS h with ⟨c15, h⟩ | ⟨c22, h⟩
    · obtain ⟨r16, hr16, h⟩ := bnS h
      rcases itS h with ⟨c17, h⟩ | ⟨c21, h⟩
      · obtain ⟨x18, hx18, h⟩ := bnS h
        rcases itS h with ⟨c19, h⟩ | ⟨c20, h⟩
        · have h := Option.some.inj h
          subst h
          exact go_ret hΘ hm hP hn (hs := [⟨4, .br false, none⟩, ⟨7, .br true, none⟩, ⟨10, .callV [[], []] (I r16), none⟩, ⟨14, .no, some (B true)⟩, ⟨18, .row (r70 x18), none⟩, ⟨23, .br true, none⟩]) (rh := []) (ph := .raw) (ps := [(r7.1.Code == 12) = false, (r7.1.Code == 15) = true, Meets Try.prog 89 [(AV.agg ((r39 p2))), (AV.agg ((r70 p3)))] (I r16), litA (I r16) = true, (B (decide (r16 ≥ 0))) = (B true), (0 : Int) ≤ r16, (p2.Threads.map r70)[(Int.toNat r16)]? = some (r70 x18), (x18.State != 2) = true, (I r16) = (I r16), litA (I r16) = true]) (by kernel_rfl) ⟨c14, c15, (spec_l3Joins_m hr16), rfl, (litB c17), (rd0 hx18), (rdM r70 hx18), c19, rfl, rfl, trivial⟩
        · have h := Option.some.inj h
          subst h
          exact go_ret hΘ hm hP hn (hs := [⟨4, .br false, none⟩, ⟨7, .br true, none⟩, ⟨10, .callV [[], []] (I r16), none⟩, ⟨14, .no, some (B true)⟩, ⟨18, .row (r70 x18), none⟩, ⟨23, .br false, none⟩]) (rh := []) (ph := .raw) (ps := [(r7.1.Code == 12) = false, (r7.1.Code == 15) = true, Meets Try.prog 89 [(AV.agg ((r39 p2))), (AV.agg ((r70 p3)))] (I r16), litA (I r16) = true, (B (decide (r16 ≥ 0))) = (B true), (0 : Int) ≤ r16, (p2.Threads.map r70)[(Int.toNat r16)]? = some (r70 x18), (x18.State != 2) = false, (I (-1)) = (I (-1)), litA (I (-1)) = true]) (by kernel_rfl) ⟨c14, c15, (spec_l3Joins_m hr16), rfl, (litB c17), (rd0 hx18), (rdM r70 hx18), c20, rfl, rfl, trivial⟩
      · have h := Option.some.inj h
        subst h
        exact go_ret hΘ hm hP hn (hs := [⟨4, .br false, none⟩, ⟨7, .br true, none⟩, ⟨10, .callV [[], []] (I r16), none⟩, ⟨14, .no, some (B false)⟩]) (rh := []) (ph := .raw) (ps := [(r7.1.Code == 12) = false, (r7.1.Code == 15) = true, Meets Try.prog 89 [(AV.agg ((r39 p2))), (AV.agg ((r70 p3)))] (I r16), litA (I r16) = true, (B (decide (r16 ≥ 0))) = (B false), (I (-1)) = (I (-1)), litA (I (-1)) = true]) (by kernel_rfl) ⟨c14, c15, (spec_l3Joins_m hr16), rfl, (litB c21), rfl, rfl, trivial⟩
    · have h := Option.some.inj h
      subst h
      exact go_ret hΘ hm hP hn (hs := [⟨4, .br false, none⟩, ⟨7, .br false, none⟩]) (rh := []) (ph := .raw) (ps := [(r7.1.Code == 12) = false, (r7.1.Code == 15) = false, (I (-1)) = (I (-1)), litA (I (-1)) = true]) (by kernel_rfl) ⟨c14, c22, rfl, rfl, trivial⟩
noncomputable def spec_l3Blocks (p1 : GProg) (p2 : GState) (p3 : GThread) : Option Int :=
  if (p3.State == 4) = true then
    Option.bind (rd p2.Owner p3.Lock) fun x5 =>
    some x5
  else
    Option.bind (spec_l3Next p1 p3) fun r7 =>
    if (p3.State != 1) = true then
      some (-1)
    else
      if (!r7.2) = true then
        some (-1)
      else
        spec_l3Blocks_j0 p2 p3 r7
theorem spec_l3Blocks_m {p1 : GProg} {p2 : GState} {p3 : GThread} {r : Int} (h : spec_l3Blocks p1 p2 p3 = some r) : Meets Try.prog 64 [(AV.agg ((r35 p1))), (AV.agg ((r39 p2))), (AV.agg ((r70 p3)))] (I r) := by
  refine meets_ofC Θ_ok Try.func64 rfl (c := body64) (by kernel_rfl) (Nat.le_of_ble_eq_true rfl) ?_
  intro E hP hn hx
  replace hn : E.n = 59 := hn
  have hm : E.P.follows .mixedOrders = true := by rw [hP]; exact mixed
  have hΘ : TOK E.P Θ := by rw [hP]; exact Θ_ok
  unfold spec_l3Blocks at h
  show WAt E body64 (FQ (RetE Θ Try.f64.results.toList [] [] (I r) E)) [] ⟨[(0, (AV.agg ((r35 p1)))), (1, (AV.agg ((r39 p2)))), (2, (AV.agg ((r70 p3))))], [], [JJ]⟩
  rcases itS h with ⟨c4, h⟩ | ⟨c6, h⟩
  · obtain ⟨x5, hx5, h⟩ := bnS h
    have h := Option.some.inj h
    subst h
    exact go_ret hΘ hm hP hn (hs := [⟨0, .new 1001, none⟩, ⟨1, .new 1002, none⟩, ⟨2, .new 1003, none⟩, ⟨7, .br true, none⟩, ⟨12, .row (o3 x5), none⟩]) (rh := []) (ph := .raw) (ps := [(p3.State == 4) = true, (0 : Int) ≤ p3.Lock, (p2.Owner.map o3)[(Int.toNat p3.Lock)]? = some (o3 x5), (I x5) = (I x5), litA (I x5) = true]) (by kernel_rfl) ⟨c4, (rd0 hx5), (rdM o3 hx5), rfl, rfl, trivial⟩
  · obtain ⟨r7, hr7, h⟩ := bnS h
    rcases itS h with ⟨c8, h⟩ | ⟨c9, h⟩
    · have h := Option.some.inj h
      subst h
      exact go_ret hΘ hm hP hn (hs := [⟨0, .new 1001, none⟩, ⟨1, .new 1002, none⟩, ⟨2, .new 1003, none⟩, ⟨7, .br false, none⟩, ⟨10, .callV [[], []] (AV.tup [(AV.agg (o85 r7.1)), (B r7.2)]), none⟩, ⟨14, .new 1004, none⟩, ⟨20, .no, some (B true)⟩]) (rh := []) (ph := .raw) (ps := [(p3.State == 4) = false, Meets Try.prog 88 [(AV.agg ((r35 p1))), (AV.agg ((r70 p3)))] (AV.tup [(AV.agg (o85 r7.1)), (B r7.2)]), litA (AV.tup [(AV.agg (o85 r7.1)), (B r7.2)]) = true, (B (p3.State != 1)) = (B true), (I (-1)) = (I (-1)), litA (I (-1)) = true]) (by kernel_rfl) ⟨c6, (spec_l3Next_m hr7), rfl, (litB c8), rfl, rfl, trivial⟩
    · rcases itS h with ⟨c10, h⟩ | ⟨c11, h⟩
      · have h := Option.some.inj h
        subst h
        exact go_ret hΘ hm hP hn (hs := [⟨0, .new 1001, none⟩, ⟨1, .new 1002, none⟩, ⟨2, .new 1003, none⟩, ⟨7, .br false, none⟩, ⟨10, .callV [[], []] (AV.tup [(AV.agg (o85 r7.1)), (B r7.2)]), none⟩, ⟨14, .new 1004, none⟩, ⟨20, .no, some (B false)⟩, ⟨24, .br true, none⟩]) (rh := []) (ph := .raw) (ps := [(p3.State == 4) = false, Meets Try.prog 88 [(AV.agg ((r35 p1))), (AV.agg ((r70 p3)))] (AV.tup [(AV.agg (o85 r7.1)), (B r7.2)]), litA (AV.tup [(AV.agg (o85 r7.1)), (B r7.2)]) = true, (B (p3.State != 1)) = (B false), (!r7.2) = true, (I (-1)) = (I (-1)), litA (I (-1)) = true]) (by kernel_rfl) ⟨c6, (spec_l3Next_m hr7), rfl, (litB c9), c10, rfl, rfl, trivial⟩
      · exact go_to hΘ hm hx hP hn (hs := [⟨0, .new 1001, none⟩, ⟨1, .new 1002, none⟩, ⟨2, .new 1003, none⟩, ⟨7, .br false, none⟩, ⟨10, .callV [[], []] (AV.tup [(AV.agg (o85 r7.1)), (B r7.2)]), none⟩, ⟨14, .new 1004, none⟩, ⟨20, .no, some (B false)⟩, ⟨24, .br false, none⟩]) (π := [(1002, 1), (1003, 2), (1004, 3)]) (ts := [4, 5, 7]) (kp := []) (ps := [(p3.State == 4) = false, Meets Try.prog 88 [(AV.agg ((r35 p1))), (AV.agg ((r70 p3)))] (AV.tup [(AV.agg (o85 r7.1)), (B r7.2)]), litA (AV.tup [(AV.agg (o85 r7.1)), (B r7.2)]) = true, (B (p3.State != 1)) = (B false), (!r7.2) = false, RenOK [(1002, 1), (1003, 2), (1004, 3)] [((r39 p2))], RenOK [(1002, 1), (1003, 2), (1004, 3)] [((r70 p3))], RenOK [(1002, 1), (1003, 2), (1004, 3)] [((o85 r7.1))]]) (by kernel_rfl) ⟨c6, (spec_l3Next_m hr7), rfl, (litB c9), c11, (rok (treeB t39 p2)), (rok (treeB t70 p3)), (rok rfl), trivial⟩ (spec_l3Blocks_j0_m hP hn hx p2 p3 r7  _ h)
noncomputable def body28 : Code := match Try.f28.body with | some c => c | none => .skip
noncomputable def spec_WaitsFor_l0  (p2 : GState) : Nat → GProg → GState → (List (List Int)) → Int → Option ((List (List Int)) × Bool)
  | 0, _, _, _, _ => none
  | n + 1, a6, a7, a8, v9 =>
  if (decide (v9 < (p2.Threads.length : Int))) = true then
    Option.bind (rd p2.Threads v9) fun x11 =>
    Option.bind (spec_l3Blocks a6 a7 x11) fun r12 =>
    if (decide (r12 ≥ 0)) = true then
      Option.bind (app a8 [[v9, r12]]) fun l14 =>
      spec_WaitsFor_l0 p2 n a6 a7 l14 (w64 (v9 + 1))
    else
      spec_WaitsFor_l0 p2 n a6 a7 a8 (w64 (v9 + 1))
  else
    some (a8, true)
theorem spec_WaitsFor_l0_m {E : Env} (hP : E.P = Try.prog) (hn : E.n = 36) (hx : ∀ p, p ∈ E.fx → p.1 ∈ ([] : List Nat)) (p2 : GState)  : ∀ (n : Nat) (a6 : GProg) (a7 : GState) (a8 : (List (List Int))) (v9 : Int) (r : ((List (List Int)) × Bool)), spec_WaitsFor_l0 p2 n a6 a7 a8 v9 = some r → WAt E body28 (FQ (RetE Θ Try.f28.results.toList [] [] (AV.tup [(AV.own 27 1 (r.1.map o27)), (B r.2)]) E)) [true, true, true, false, true, false] ⟨[(2, (AV.ptr 1 0 0)), (3, (AV.ptr 2 0 0)), (6, (AV.sl 3 0 (List.length (a8.map o27)))), (15, (AV.ro 6 (p2.Threads.map r70))), (16, (I (p2.Threads.length : Int))), (17, (I v9))], [(1, some ⟨35, 4, [((r35 a6))]⟩), (2, some ⟨39, 4, [((r39 a7))]⟩), (3, some ⟨27, 1, (a8.map o27)⟩)], [1, 2, 3, JJ]⟩ := by
  have hm : E.P.follows .mixedOrders = true := by rw [hP]; exact mixed
  have hΘ : TOK E.P Θ := by rw [hP]; exact Θ_ok
  intro n
  induction n with
  | zero => intro a6 a7 a8 v9 r h; simp only [spec_WaitsFor_l0] at h; cases h
  | succ n ih =>
    intro a6 a7 a8 v9 r h
    simp only [spec_WaitsFor_l0] at h
    rcases itS h with ⟨c10, h⟩ | ⟨c16, h⟩
    · obtain ⟨x11, hx11, h⟩ := bnS h
      obtain ⟨r12, hr12, h⟩ := bnS h
      rcases itS h with ⟨c13, h⟩ | ⟨c15, h⟩
      · obtain ⟨l14, hl14, h⟩ := bnS h
        exact go_to hΘ hm hx hP hn (hs := [⟨1, .br true, none⟩, ⟨3, .row (r70 x11), none⟩, ⟨5, .new 1001, none⟩, ⟨11, .callV [[], [], []] (I r12), none⟩, ⟨15, .br true, none⟩, ⟨19, .new 1002, none⟩, ⟨20, .new 1003, none⟩, ⟨21, .app 1004 ((a8.map o27) ++ [[(AV.sl 1002 0 (List.length ([v9, r12].map o3)))]]), none⟩, ⟨22, .pack 1004 1002 (List.length a8) 0 [(AV.sl 1002 0 (List.length ([v9, r12].map o3)))] (l14.map o27), none⟩, ⟨25, .slen 6 (List.length (l14.map o27)), none⟩]) (π := [(1, 1), (2, 2), (1004, 3)]) (ts := [2, 3, 6, 15, 16, 17]) (kp := []) (ps := [(decide (v9 < (p2.Threads.length : Int))) = true, (0 : Int) ≤ v9, (p2.Threads.map r70)[(Int.toNat v9)]? = some (r70 x11), Meets Try.prog 64 [(AV.agg ((r35 a6))), (AV.agg ((r39 a7))), (AV.agg ((r70 x11)))] (I r12), litA (I r12) = true, (decide (r12 ≥ 0)) = true, (a8.map o27).take (List.length (a8.map o27)) ++ [[(AV.sl 1002 0 (List.length ([v9, r12].map o3)))]] = ((a8.map o27) ++ [[(AV.sl 1002 0 (List.length ([v9, r12].map o3)))]]), [[(AV.sl 1002 0 (List.length ([v9, r12].map o3)))]].all (fun r => r.all AV.plain) = true, (List.length ((a8.map o27) ++ [[(AV.sl 1002 0 (List.length ([v9, r12].map o3)))]])) * 24 ≤ 140737488355328, (List.length ((a8.map o27) ++ [[(AV.sl 1002 0 (List.length ([v9, r12].map o3)))]])) ≤ 140737488355328, ((a8.map o27) ++ [[(AV.sl 1002 0 (List.length ([v9, r12].map o3)))]])[(List.length a8)]? = some [(AV.sl 1002 0 (List.length ([v9, r12].map o3)))], [(AV.sl 1002 0 (List.length ([v9, r12].map o3)))][0]? = some (AV.sl 1002 0 (List.length ([v9, r12].map o3))), treeLL ([v9, r12].map o3) = true, ((a8.map o27) ++ [[(AV.sl 1002 0 (List.length ([v9, r12].map o3)))]]).set (List.length a8) ([(AV.sl 1002 0 (List.length ([v9, r12].map o3)))].set 0 (AV.own 3 1 ([v9, r12].map o3))) = (l14.map o27), (List.length ((a8.map o27) ++ [[(AV.sl 1002 0 (List.length ([v9, r12].map o3)))]])) = (List.length (l14.map o27)), RenOK [(1, 1), (2, 2), (1004, 3)] [((r35 a6))], RenOK [(1, 1), (2, 2), (1004, 3)] [((r39 a7))], RenOK [(1, 1), (2, 2), (1004, 3)] (l14.map o27)]) (by kernel_rfl) ⟨c10, (rd0 hx11), (rdM r70 hx11), (spec_l3Blocks_m hr12), rfl, c13, (apT o27), rfl, (apB o27 hl14 (by decide)), (apC o27 hl14), (apG o27), rfl, (treeM t3), (apS o27 hl14), (apLn o27 hl14), (rok (treeB t35 a6)), (rok (treeB t39 a7)), (rok (treeM t27)), trivial⟩ (ih a6 a7 l14 (w64 (v9 + 1)) _ h)
      · exact go_to hΘ hm hx hP hn (hs := [⟨1, .br true, none⟩, ⟨3, .row (r70 x11), none⟩, ⟨5, .new 1001, none⟩, ⟨11, .callV [[], [], []] (I r12), none⟩, ⟨15, .br false, none⟩]) (π := [(1, 1), (2, 2), (3, 3)]) (ts := [2, 3, 6, 15, 16, 17]) (kp := []) (ps := [(decide (v9 < (p2.Threads.length : Int))) = true, (0 : Int) ≤ v9, (p2.Threads.map r70)[(Int.toNat v9)]? = some (r70 x11), Meets Try.prog 64 [(AV.agg ((r35 a6))), (AV.agg ((r39 a7))), (AV.agg ((r70 x11)))] (I r12), litA (I r12) = true, (decide (r12 ≥ 0)) = false, RenOK [(1, 1), (2, 2), (3, 3)] [((r35 a6))], RenOK [(1, 1), (2, 2), (3, 3)] [((r39 a7))], RenOK [(1, 1), (2, 2), (3, 3)] (a8.map o27)]) (by kernel_rfl) ⟨c10, (rd0 hx11), (rdM r70 hx11), (spec_l3Blocks_m hr12), rfl, c15, (rok (treeB t35 a6)), (rok (treeB t39 a7)), (rok (treeM t27)), trivial⟩ (ih a6 a7 a8 (w64 (v9 + 1)) _ h)
    · have h := Option.some.inj h
      subst h
      exact go_ret hΘ hm hP hn (hs := [⟨1, .br false, none⟩]) (rh := []) (ph := .agg [.own, .raw]) (ps := [(decide (v9 < (p2.Threads.length : Int))) = false, treeLL ((a8.map o27).take (List.length (a8.map o27))) = true, (a8.map o27).take (List.length (a8.map o27)) = (a8.map o27), noRoLL (a8.map o27) = true, (B true) = (B true), litA (B true) = true]) (by kernel_rfl) ⟨c16, (treeT t27), takeM, (noRoM n27), rfl, rfl, trivial⟩
noncomputable def spec_WaitsFor (p1 : GProg) (p2 : GState) : Option ((List (List Int)) × Bool) :=
  Option.bind (spec_GoodState p1 p2) fun r3 =>
  if (!r3) = true then
    some ([], false)
  else
    spec_WaitsFor_l0 p2 FU p1 p2 [] 0
theorem spec_WaitsFor_m {p1 : GProg} {p2 : GState} {r : ((List (List Int)) × Bool)} (h : spec_WaitsFor p1 p2 = some r) : Meets Try.prog 28 [(AV.agg ((r35 p1))), (AV.agg ((r39 p2)))] (AV.tup [(AV.own 27 1 (r.1.map o27)), (B r.2)]) := by
  refine meets_ofC Θ_ok Try.func28 rfl (c := body28) (by kernel_rfl) (Nat.le_of_ble_eq_true rfl) ?_
  intro E hP hn hx
  replace hn : E.n = 36 := hn
  have hm : E.P.follows .mixedOrders = true := by rw [hP]; exact mixed
  have hΘ : TOK E.P Θ := by rw [hP]; exact Θ_ok
  unfold spec_WaitsFor at h
  show WAt E body28 (FQ (RetE Θ Try.f28.results.toList [] [] (AV.tup [(AV.own 27 1 (r.1.map o27)), (B r.2)]) E)) [] ⟨[(0, (AV.agg ((r35 p1)))), (1, (AV.agg ((r39 p2))))], [], [JJ]⟩
  obtain ⟨r3, hr3, h⟩ := bnS h
  rcases itS h with ⟨c4, h⟩ | ⟨c5, h⟩
  · have h := Option.some.inj h
    subst h
    exact go_ret hΘ hm hP hn (hs := [⟨0, .new 1001, none⟩, ⟨1, .new 1002, none⟩, ⟨6, .callV [[], []] (B r3), none⟩, ⟨8, .br true, none⟩]) (rh := []) (ph := .agg [.own, .raw]) (ps := [Meets Try.prog 10 [(AV.agg ((r35 p1))), (AV.agg ((r39 p2)))] (B r3), litA (B r3) = true, (!r3) = true, (B false) = (B false), litA (B false) = true]) (by kernel_rfl) ⟨(spec_GoodState_m hr3), rfl, c4, rfl, rfl, trivial⟩
  · exact go_to hΘ hm hx hP hn (hs := [⟨0, .new 1001, none⟩, ⟨1, .new 1002, none⟩, ⟨6, .callV [[], []] (B r3), none⟩, ⟨8, .br false, none⟩, ⟨12, .no, some (I (p2.Threads.length : Int))⟩, ⟨14, .nil 6 1003 27 1, none⟩]) (π := [(1001, 1), (1002, 2), (1003, 3)]) (ts := [2, 3, 6, 15, 16, 17]) (kp := []) (ps := [Meets Try.prog 10 [(AV.agg ((r35 p1))), (AV.agg ((r39 p2)))] (B r3), litA (B r3) = true, (!r3) = false, AV.lit (.int .i64 (((p2.Threads.map r70).length : Nat) : Int)) = (I (p2.Threads.length : Int)), RenOK [(1001, 1), (1002, 2), (1003, 3)] [((r35 p1))], RenOK [(1001, 1), (1002, 2), (1003, 3)] [((r39 p2))], RenOK [(1001, 1), (1002, 2), (1003, 3)] ([].map o27)]) (by kernel_rfl) ⟨(spec_GoodState_m hr3), rfl, c5, (lenM r70), (rok (treeB t35 p1)), (rok (treeB t39 p2)), (rok (treeM t27)), trivial⟩ (spec_WaitsFor_l0_m hP hn hx p2 FU p1 p2 [] 0 _ h)
end Go.Proofs.Ytgofeoobgpadiaa
