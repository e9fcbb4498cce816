/- Functions as plain data, and that the code comes to them; no condition. -/

import Derived.Test.YtjcaompblpglcaaGA
set_option linter.unusedVariables false
set_option maxRecDepth 100000
namespace Go.Proofs.Ytjcaompblpglcaa
open Go Go.T
noncomputable def Qs7 : Code := match Try.f5.body with | some c => c | none => .skip
noncomputable def Qbb (K0 : (List (List Int)) → (List Int) → (List Int) → Option ((List Int) × Bool)) (K1 : (List (List Int)) → (List Int) → (List Int) → Int → Option ((List Int) × Bool)) (a20 : (List Int)) (a23 : (List (List Int))) (a24 : (List Int)) (a25 : (List Int)) (v26 : Int) (x28 : Int) : Nat → Bool → Int → Option ((List Int) × Bool)
 | 0, _, _ => none
 | n + 1, v29, v30 =>
 if (decide (v30 < (a23.length : Int))) = true then
  Option.bind (rd a23 v30) fun x32 =>
  if v29 = true then
   Option.bind (rd x32 1) fun x34 =>
   if (x34 != x28) = true then
    Qbb K0 K1 a20 a23 a24 a25 v26 x28 n true (w64 (v30 + 1))
   else
    Option.bind (rd x32 0) fun x37 =>
    Option.bind (Qfg a24 x37) fun r38 =>
    Qbb K0 K1 a20 a23 a24 a25 v26 x28 n (!r38) (w64 (v30 + 1))
  else
   Qbb K0 K1 a20 a23 a24 a25 v26 x28 n false (w64 (v30 + 1))
 else
  if v29 = true then
   Option.bind (app a25 [x28]) fun l42 =>
   Option.bind (Qda a24 x28) fun r43 =>
   K0 a23 r43 l42
  else
   K1 a23 a24 a25 (w64 (v26 + 1))
theorem Qlw {E : Env} (hP : E.P = Try.prog) (hn : E.n = 80) (hx : FX E []) (a20 : (List Int)) (a23 : (List (List Int))) (a24 : (List Int)) (a25 : (List Int)) (v26 : Int) (x28 : Int) {K0 : (List (List Int)) → (List Int) → (List Int) → Option ((List Int) × Bool)} (hK0 : ∀ (a19 : (List (List Int))) (a20 : (List Int)) (a21 : (List Int)) (r : ((List Int) × Bool)), K0 a19 a20 a21 = some r → WAt E Qs7 (FQ (Qe2 Θ Try.f5.results.toList [] [] (AV.tup [(AV.own 3 1 (r.1.map o3)), (B r.2)]) E)) [true, true, true, true, true, true, true, false, false] ⟨[(4, (AV.sl 1 0 (List.length (a19.map o24)))), (5, (AV.sl 2 0 (List.length (a20.map o3)))), (9, (AV.sl 3 0 (List.length (a21.map o3))))], [(1, some ⟨24, 1, (a19.map o24)⟩), (2, some ⟨3, 1, (a20.map o3)⟩), (3, some ⟨3, 1, (a21.map o3)⟩)], [1, 2, 3, JJ]⟩) {K1 : (List (List Int)) → (List Int) → (List Int) → Int → Option ((List Int) × Bool)} (hK1 : ∀ (a23 : (List (List Int))) (a24 : (List Int)) (a25 : (List Int)) (v26 : Int) (r : ((List Int) × Bool)), K1 a23 a24 a25 v26 = some r → WAt E Qs7 (FQ (Qe2 Θ Try.f5.results.toList [] [] (AV.tup [(AV.own 3 1 (r.1.map o3)), (B r.2)]) E)) [true, true, true, true, true, true, true, false, false, false, true, false, true, false] ⟨[(4, (AV.sl 1 0 (List.length (a23.map o24)))), (5, (AV.sl 2 0 (List.length (a24.map o3)))), (9, (AV.sl 3 0 (List.length (a25.map o3)))), (41, (AV.sl 2 0 (List.length (a24.map o3)))), (42, (I (a20.length : Int))), (43, (I v26))], [(1, some ⟨24, 1, (a23.map o24)⟩), (2, some ⟨3, 1, (a24.map o3)⟩), (3, some ⟨3, 1, (a25.map o3)⟩)], [1, 2, 3, JJ]⟩) : ∀ (n : Nat) (v29 : Bool) (v30 : Int) (r : ((List Int) × Bool)), Qbb K0 K1 a20 a23 a24 a25 v26 x28 n v29 v30 = some r → WAt E Qs7 (FQ (Qe2 Θ Try.f5.results.toList [] [] (AV.tup [(AV.own 3 1 (r.1.map o3)), (B r.2)]) E)) [true, true, true, true, true, true, true, false, false, false, true, false, true, false, false, true, true, false, false, true, true, false, true, false] ⟨[(4, (AV.sl 1 0 (List.length (a23.map o24)))), (5, (AV.sl 2 0 (List.length (a24.map o3)))), (9, (AV.sl 3 0 (List.length (a25.map o3)))), (11, (I x28)), (12, (B v29)), (41, (AV.sl 2 0 (List.length (a24.map o3)))), (42, (I (a20.length : Int))), (43, (I v26)), (47, (AV.sl 1 0 (List.length (a23.map o24)))), (48, (I (a23.length : Int))), (49, (I v30))], [(1, some ⟨24, 1, (a23.map o24)⟩), (2, some ⟨3, 1, (a24.map o3)⟩), (3, some ⟨3, 1, (a25.map o3)⟩)], [1, 2, 3, JJ]⟩ := by
 intro n
 induction n with
 | zero => intro v29 v30 r h; simp only [Qbb] at h; cases h
 | succ n ih =>
  intro v29 v30 r h
  simp only [Qbb] at h
  let Z2 := a23.map o24; let Z5 := (decide (v30 < (a23.length : Int))); let Z8 := a24.map o3; let Z9 := a25.map o3; let Z10 := (Z8.drop 0).take Z8.length; let Z13 := (([x28].map o3).drop 0).take ([x28].map o3).length
  rcases itS h with ⟨c31, h⟩ | ⟨c40, h⟩
  ·obtain ⟨x32, hx32, h⟩ := bnS h
   let Z0 := x32.map o3; let Z1 := AV.own 3 1 Z0; let Z3 := AV.sl 1001 0 Z0.length; let Z4 := Z2.set v30.toNat [Z3]; let Z6 := ((Z0.length : Nat) : Int); let Z7 := [Z3].set 0 Z1
   let H1 : List Hn := [hT 1, hh 3 (.unpack 1 1001 v30.toNat 0 [Z1] 3 1 Z0 Z4), hh 3 (.row [Z3])]
   let P2 : List Prop := [Z5 = true, (0 : Int) ≤ v30, v30 < ((Z2.length : Nat) : Int), Z2[v30.toNat]? = some [Z1], [Z1][0]? = some Z1, 0 < 1, Z2.set v30.toNat ([Z1].set 0 Z3) = Z4, Z4[v30.toNat]? = some [Z3]]
   have AP2 : Qb5 P2 := ⟨c31, (rd0 hx32), (rdL o24 hx32), (rdM o24 hx32), rfl, (by decide), rfl, (Xck (rdM o24 hx32)), trivial⟩
   rcases itS h with ⟨c33, h⟩ | ⟨c39, h⟩
   ·obtain ⟨x34, hx34, h⟩ := bnS h
    let P3 : List Prop := P2 ++ [(B v29) = (B true), (0 : Int) ≤ 1, 1 < Z6, Z0[(Int.toNat 1)]? = some [(I x34)]]
    have AP3 : Qb5 P3 := Qav AP2 ⟨(Qd6 c33), (rd0 hx34), (rdL o3 hx34), (rdM o3 hx34), trivial⟩
    rcases itS h with ⟨c35, h⟩ | ⟨c36, h⟩
    ·exact gT hP hn hx (H1 ++ [hO 6 (B true), hh 9 (.row [(I x34)]), hO 12 (B true), hh 24 (.pack 1 1001 v30.toNat 0 [Z3] Z2), hh 24 (.slen 4 Z2.length), hh 24 (.slen 47 Z2.length)]) [(1, 1), (2, 2), (3, 3)] [4, 5, 9, 11, 12, 41, 42, 43, 47, 48, 49] [] (P3 ++ [(B (x34 != x28)) = (B true), Z4[v30.toNat]? = some [Z3], [Z3][0]? = some Z3, Qac Z0 = true, Z4.set v30.toNat Z7 = Z2, Z2.length = Z2.length, Z2.length = Z2.length, Qa5 [(1, 1), (2, 2), (3, 3)] Z2, Qa5 [(1, 1), (2, 2), (3, 3)] Z8, Qa5 [(1, 1), (2, 2), (3, 3)] Z9]) (Qav AP3 ⟨(Qd6 c35), (Xck (rdM o24 hx32)), rfl, (Qa6 t3), (Xc7 o24 hx32), rfl, rfl, (rok (Qa6 t24)), (rok (Qa6 t3)), (rok (Qa6 t3)), trivial⟩) (ih true (w64 (v30 + 1)) _ h)
    ·obtain ⟨x37, hx37, h⟩ := bnS h
     obtain ⟨r38, hr38, h⟩ := bnS h
     exact gT hP hn hx (H1 ++ [hO 6 (B true), hh 9 (.row [(I x34)]), hO 12 (B false), hh 16 (.row [(I x37)]), hh 17 (.callV [Z8] (B r38)), hh 24 (.pack 1 1001 v30.toNat 0 [Z3] Z2), hh 24 (.slen 4 Z2.length), hh 24 (.slen 47 Z2.length)]) [(1, 1), (2, 2), (3, 3)] [4, 5, 9, 11, 12, 41, 42, 43, 47, 48, 49] [] (P3 ++ [(B (x34 != x28)) = (B false), (0 : Int) ≤ 0, 0 < Z6, Z0[(Int.toNat 0)]? = some [(I x37)], Qaa Try.prog 18 [(AV.ro 1 Z8), (I x37)] (B r38), Qap (B r38) = true, Frz Z10 Z8, Z4[v30.toNat]? = some [Z3], [Z3][0]? = some Z3, Qac Z0 = true, Z4.set v30.toNat Z7 = Z2, Z2.length = Z2.length, Z2.length = Z2.length, Qa5 [(1, 1), (2, 2), (3, 3)] Z2, Qa5 [(1, 1), (2, 2), (3, 3)] Z8, Qa5 [(1, 1), (2, 2), (3, 3)] Z9]) (Qav AP3 ⟨(Qd6 c36), (rd0 hx37), (rdL o3 hx37), (rdM o3 hx37), (Qm7 hr38), rfl, (Qoz t3 z3), (Xck (rdM o24 hx32)), rfl, (Qa6 t3), (Xc7 o24 hx32), rfl, rfl, (rok (Qa6 t24)), (rok (Qa6 t3)), (rok (Qa6 t3)), trivial⟩) (ih (!r38) (w64 (v30 + 1)) _ h)
   ·exact gT hP hn hx (H1 ++ [hO 6 (B false), hh 24 (.pack 1 1001 v30.toNat 0 [Z3] Z2), hh 24 (.slen 4 Z2.length), hh 24 (.slen 47 Z2.length)]) [(1, 1), (2, 2), (3, 3)] [4, 5, 9, 11, 12, 41, 42, 43, 47, 48, 49] [] (P2 ++ [(B v29) = (B false), Z4[v30.toNat]? = some [Z3], [Z3][0]? = some Z3, Qac Z0 = true, Z4.set v30.toNat Z7 = Z2, Z2.length = Z2.length, Z2.length = Z2.length, Qa5 [(1, 1), (2, 2), (3, 3)] Z2, Qa5 [(1, 1), (2, 2), (3, 3)] Z8, Qa5 [(1, 1), (2, 2), (3, 3)] Z9]) (Qav AP2 ⟨(Qd6 c39), (Xck (rdM o24 hx32)), rfl, (Qa6 t3), (Xc7 o24 hx32), rfl, rfl, (rok (Qa6 t24)), (rok (Qa6 t3)), (rok (Qa6 t3)), trivial⟩) (ih false (w64 (v30 + 1)) _ h)
  ·rcases itS h with ⟨c41, h⟩ | ⟨c44, h⟩
   ·obtain ⟨l42, hl42, h⟩ := bnS h
    obtain ⟨r43, hr43, h⟩ := bnS h
    exact (let Z11 := l42.map o3; let Z12 := AV.own 3 1 (r43.map o3); gT hP hn hx [hF 1, hT 3, hW 6 1002, hh 7 (.app 1003 Z11), hh 11 (.call [Z8] Z12 [1004])] [(1, 1), (1004, 2), (1003, 3)] [4, 5, 9] [] [Z5 = false, v29 = true, Z9.take Z9.length ++ Z13 = Z11, Z13.all (fun r => r.all AV.plain) = true, Z11.length * 8 ≤ 140737488355328, Z11.length ≤ 140737488355328, Qaa Try.prog 19 [(AV.ro 1 Z8), (I x28)] Z12, Qek Z12 = true, Frz Z10 Z8, Qa5 [(1, 1), (1004, 2), (1003, 3)] Z2, Qa5 [(1, 1), (1004, 2), (1003, 3)] (r43.map o3), Qa5 [(1, 1), (1004, 2), (1003, 3)] Z11] ⟨c40, c41, (Qp6 o3 hl42), (plD pa3), (Quf o3 hl42 (by decide)), (Qux o3 hl42), (Qhd hr43), (by simp +zetaDelta only [Qek, Qdn, Qbd n3, Bool.and_self]), (Qoz t3 z3), (rok (Qa6 t24)), (rok (Qa6 t3)), (rok (Qa6 t3)), trivial⟩ (hK0 a23 r43 l42 _ h))
   ·exact gT hP hn hx [hF 1, hF 3] [(1, 1), (2, 2), (3, 3)] [4, 5, 9, 41, 42, 43] [] [Z5 = false, v29 = false, Qa5 [(1, 1), (2, 2), (3, 3)] Z2, Qa5 [(1, 1), (2, 2), (3, 3)] Z8, Qa5 [(1, 1), (2, 2), (3, 3)] Z9] ⟨c40, c44, (rok (Qa6 t24)), (rok (Qa6 t3)), (rok (Qa6 t3)), trivial⟩ (hK1 a23 a24 a25 (w64 (v26 + 1)) _ h)
noncomputable def Qbs (K0 : (List (List Int)) → (List Int) → (List Int) → Option ((List Int) × Bool)) (a20 : (List Int)) : Nat → (List (List Int)) → (List Int) → (List Int) → Int → Option ((List Int) × Bool)
 | 0, _, _, _, _ => none
 | n + 1, a23, a24, a25, v26 =>
 if (decide (v26 < (a20.length : Int))) = true then
  Option.bind (rd a24 v26) fun x28 =>
  Qbb K0 (Qbs K0 a20 n) a20 a23 a24 a25 v26 x28 FU true 0
 else
  K0 a23 a24 a25
theorem Qlu {E : Env} (hP : E.P = Try.prog) (hn : E.n = 80) (hx : FX E []) (a20 : (List Int)) {K0 : (List (List Int)) → (List Int) → (List Int) → Option ((List Int) × Bool)} (hK0 : ∀ (a19 : (List (List Int))) (a20 : (List Int)) (a21 : (List Int)) (r : ((List Int) × Bool)), K0 a19 a20 a21 = some r → WAt E Qs7 (FQ (Qe2 Θ Try.f5.results.toList [] [] (AV.tup [(AV.own 3 1 (r.1.map o3)), (B r.2)]) E)) [true, true, true, true, true, true, true, false, false] ⟨[(4, (AV.sl 1 0 (List.length (a19.map o24)))), (5, (AV.sl 2 0 (List.length (a20.map o3)))), (9, (AV.sl 3 0 (List.length (a21.map o3))))], [(1, some ⟨24, 1, (a19.map o24)⟩), (2, some ⟨3, 1, (a20.map o3)⟩), (3, some ⟨3, 1, (a21.map o3)⟩)], [1, 2, 3, JJ]⟩) : ∀ (n : Nat) (a23 : (List (List Int))) (a24 : (List Int)) (a25 : (List Int)) (v26 : Int) (r : ((List Int) × Bool)), Qbs K0 a20 n a23 a24 a25 v26 = some r → WAt E Qs7 (FQ (Qe2 Θ Try.f5.results.toList [] [] (AV.tup [(AV.own 3 1 (r.1.map o3)), (B r.2)]) E)) [true, true, true, true, true, true, true, false, false, false, true, false, true, false] ⟨[(4, (AV.sl 1 0 (List.length (a23.map o24)))), (5, (AV.sl 2 0 (List.length (a24.map o3)))), (9, (AV.sl 3 0 (List.length (a25.map o3)))), (41, (AV.sl 2 0 (List.length (a24.map o3)))), (42, (I (a20.length : Int))), (43, (I v26))], [(1, some ⟨24, 1, (a23.map o24)⟩), (2, some ⟨3, 1, (a24.map o3)⟩), (3, some ⟨3, 1, (a25.map o3)⟩)], [1, 2, 3, JJ]⟩ := by
 intro n
 induction n with
 | zero => intro a23 a24 a25 v26 r h; simp only [Qbs] at h; cases h
 | succ n ih =>
  intro a23 a24 a25 v26 r h
  simp only [Qbs] at h
  let Z0 := (I (a23.length : Int)); let Z1 := (decide (v26 < (a20.length : Int))); let Z2 := a24.map o3; let Z3 := a23.map o24
  rcases itS h with ⟨c27, h⟩ | ⟨c45, h⟩
  ·obtain ⟨x28, hx28, h⟩ := bnS h
   exact gT hP hn hx [hT 1, hh 3 (.row [(I x28)]), hO 7 Z0] [(1, 1), (2, 2), (3, 3)] [4, 5, 9, 11, 12, 41, 42, 43, 47, 48, 49] [] [Z1 = true, (0 : Int) ≤ v26, v26 < ((Z2.length : Nat) : Int), Z2[v26.toNat]? = some [(I x28)], AV.lit (.int .i64 ((Z3.length : Nat) : Int)) = Z0, Qa5 [(1, 1), (2, 2), (3, 3)] Z3, Qa5 [(1, 1), (2, 2), (3, 3)] Z2, Qa5 [(1, 1), (2, 2), (3, 3)] (a25.map o3)] ⟨c27, (rd0 hx28), (rdL o3 hx28), (rdM o3 hx28), (Qej o24), (rok (Qa6 t24)), (rok (Qa6 t3)), (rok (Qa6 t3)), trivial⟩ (Qlw hP hn hx a20 a23 a24 a25 v26 x28 hK0 ih FU true 0 _ h)
  ·exact gT hP hn hx [hF 1] [(1, 1), (2, 2), (3, 3)] [4, 5, 9] [] [Z1 = false, Qa5 [(1, 1), (2, 2), (3, 3)] Z3, Qa5 [(1, 1), (2, 2), (3, 3)] Z2, Qa5 [(1, 1), (2, 2), (3, 3)] (a25.map o3)] ⟨c45, (rok (Qa6 t24)), (rok (Qa6 t3)), (rok (Qa6 t3)), trivial⟩ (hK0 a23 a24 a25 _ h)
noncomputable def Qb7   : Nat → (List (List Int)) → (List Int) → (List Int) → Option ((List Int) × Bool)
 | 0, _, _, _ => none
 | n + 1, a19, a20, a21 =>
 if (decide ((a20.length : Int) > 0)) = true then
  Qbs (Qb7 n) a20 FU a19 a20 a21 0
 else
  some (a21, true)
theorem Qlq {E : Env} (hP : E.P = Try.prog) (hn : E.n = 80) (hx : FX E [])   : ∀ (n : Nat) (a19 : (List (List Int))) (a20 : (List Int)) (a21 : (List Int)) (r : ((List Int) × Bool)), Qb7  n a19 a20 a21 = some r → WAt E Qs7 (FQ (Qe2 Θ Try.f5.results.toList [] [] (AV.tup [(AV.own 3 1 (r.1.map o3)), (B r.2)]) E)) [true, true, true, true, true, true, true, false, false] ⟨[(4, (AV.sl 1 0 (List.length (a19.map o24)))), (5, (AV.sl 2 0 (List.length (a20.map o3)))), (9, (AV.sl 3 0 (List.length (a21.map o3))))], [(1, some ⟨24, 1, (a19.map o24)⟩), (2, some ⟨3, 1, (a20.map o3)⟩), (3, some ⟨3, 1, (a21.map o3)⟩)], [1, 2, 3, JJ]⟩ := by
 intro n
 induction n with
 | zero => intro a19 a20 a21 r h; simp only [Qb7] at h; cases h
 | succ n ih =>
  intro a19 a20 a21 r h
  simp only [Qb7] at h
  let Z0 := (I (a20.length : Int)); let Z1 := (((a20.map o3).length : Nat) : Int); let Z2 := (decide ((a20.length : Int) > 0)); let Z3 := a21.map o3
  rcases itS h with ⟨c22, h⟩ | ⟨c46, h⟩
  ·exact gT hP hn hx [hO 1 Z0, hT 3, hO 5 Z0] [(1, 1), (2, 2), (3, 3)] [4, 5, 9, 41, 42, 43] [] [AV.lit (.int .i64 Z1) = Z0, Z2 = true, AV.lit (.int .i64 Z1) = Z0, Qa5 [(1, 1), (2, 2), (3, 3)] (a19.map o24), Qa5 [(1, 1), (2, 2), (3, 3)] (a20.map o3), Qa5 [(1, 1), (2, 2), (3, 3)] Z3] ⟨(Qej o3), c22, (Qej o3), (rok (Qa6 t24)), (rok (Qa6 t3)), (rok (Qa6 t3)), trivial⟩ (Qlu hP hn hx a20 ih FU a19 a20 a21 0 _ h)
  ·obtain rfl := sj h
   exact gR hP hn [hO 1 Z0, hF 3] [] (.agg [.own, .raw]) [AV.lit (.int .i64 Z1) = Z0, Z2 = false, Qac (Z3.take Z3.length) = true, Z3.take Z3.length = Z3, Qaz Z3 = true, (B true) = (B true), Qap (B true) = true] ⟨(Qej o3), c46, (Qgc t3), Qgi, (Qbd n3), rfl, rfl, trivial⟩
noncomputable def Qbr  (p1 : (List Qa0)) : Nat → (List (List Int)) → (List Int) → Int → Option ((List Int) × Bool)
 | 0, _, _, _ => none
 | n + 1, a9, a10, v11 =>
 if (decide (v11 < (p1.length : Int))) = true then
  Option.bind (rd p1 v11) fun x13 =>
  Option.bind (Qcr x13) fun r14 =>
  if (decide (r14 ≥ 0)) = true then
   Option.bind (Qdx a10 r14) fun r16 =>
   Qbr p1 n a9 r16 (w64 (v11 + 1))
  else
   Qbr p1 n a9 a10 (w64 (v11 + 1))
 else
  Qb7 FU a9 a10 []
theorem Qlv {E : Env} (hP : E.P = Try.prog) (hn : E.n = 80) (hx : FX E []) (p1 : (List Qa0))  : ∀ (n : Nat) (a9 : (List (List Int))) (a10 : (List Int)) (v11 : Int) (r : ((List Int) × Bool)), Qbr p1 n a9 a10 v11 = some r → WAt E Qs7 (FQ (Qe2 Θ Try.f5.results.toList [] [] (AV.tup [(AV.own 3 1 (r.1.map o3)), (B r.2)]) E)) [true, true, true, true, true, false, true, false] ⟨[(4, (AV.sl 1 0 (List.length (a9.map o24)))), (5, (AV.sl 2 0 (List.length (a10.map o3)))), (24, (AV.ro 5 (p1.map o39))), (25, (I (p1.length : Int))), (26, (I v11))], [(1, some ⟨24, 1, (a9.map o24)⟩), (2, some ⟨3, 1, (a10.map o3)⟩)], [1, 2, JJ]⟩ := by
 intro n
 induction n with
 | zero => intro a9 a10 v11 r h; simp only [Qbr] at h; cases h
 | succ n ih =>
  intro a9 a10 v11 r h
  simp only [Qbr] at h
  let Z0 := (decide (v11 < (p1.length : Int))); let Z1 := a10.map o3
  rcases itS h with ⟨c12, h⟩ | ⟨c18, h⟩
  ·obtain ⟨x13, hx13, h⟩ := bnS h
   obtain ⟨r14, hr14, h⟩ := bnS h
   let P1 : List Prop := [Z0 = true, (0 : Int) ≤ v11, (p1.map o39)[v11.toNat]? = some (o39 x13), Qaa Try.prog 16 [(AV.agg ((o39 x13)))] (I r14), Qap (I r14) = true]
   have AP1 : Qb5 P1 := ⟨c12, (rd0 hx13), (rdM o39 hx13), (Qe9 hr14), rfl, trivial⟩
   rcases itS h with ⟨c15, h⟩ | ⟨c17, h⟩
   ·obtain ⟨r16, hr16, h⟩ := bnS h
    exact (let Z2 := r16.map o3; let Z3 := AV.own 3 1 Z2; let Z4 := AV.sl 1002 0 Z2.length; let Z5 := rtf (Qff [] Z3) [1002]; gT hP hn hx [hT 1, hh 2 (.row (o39 x13)), hW 4 1001, hh 7 (.callV [[]] (I r14)), hT 11, hh 14 (.callX [2] [false] [⟨3, 1, Z1⟩] [⟨3, 1, Z1⟩] [] Z3 [1002] Z4 [(1002, ⟨3, 1, Z2⟩)])] [(1, 1), (1002, 2)] [4, 5, 24, 25, 26] [] (P1 ++ [(decide (r14 ≥ 0)) = true, Qd3 Try.prog 17 [⟨3, 1, Z1⟩] [(AV.sl 0 0 Z1.length), (I r14)] [false] [⟨3, 1, Z1⟩] Z3, (some (Qao.mk 3 1 Z1) = some (Qao.mk 3 1 Z1)) ∧ True, (Qac Z1 = true ∧ Qaz Z1 = true) ∧ True, (Z1.length = Z1.length) ∧ True, Z5.1 = Z4, Z5.2.1 = [(1002, ⟨3, 1, Z2⟩)], Qa5 [(1, 1), (1002, 2)] (a9.map o24), Qa5 [(1, 1), (1002, 2)] Z2]) (Qav AP1 ⟨c15, (Qg6 hr16), ⟨rfl, trivial⟩, ⟨⟨Qa6 t3, Qbd n3⟩, trivial⟩, ⟨rfl, trivial⟩, rfl, rfl, (rok (Qa6 t24)), (rok (Qa6 t3)), trivial⟩) (ih a9 r16 (w64 (v11 + 1)) _ h))
   ·exact gT hP hn hx [hT 1, hh 2 (.row (o39 x13)), hW 4 1001, hh 7 (.callV [[]] (I r14)), hF 11] [(1, 1), (2, 2)] [4, 5, 24, 25, 26] [] (P1 ++ [(decide (r14 ≥ 0)) = false, Qa5 [(1, 1), (2, 2)] (a9.map o24), Qa5 [(1, 1), (2, 2)] Z1]) (Qav AP1 ⟨c17, (rok (Qa6 t24)), (rok (Qa6 t3)), trivial⟩) (ih a9 a10 (w64 (v11 + 1)) _ h)
  ·exact gT hP hn hx [hF 1, hh 3 (.nil 9 1003 3 1)] [(1, 1), (2, 2), (1003, 3)] [4, 5, 9] [] [Z0 = false, Qa5 [(1, 1), (2, 2), (1003, 3)] (a9.map o24), Qa5 [(1, 1), (2, 2), (1003, 3)] Z1, Qa5 [(1, 1), (2, 2), (1003, 3)] ([].map o3)] ⟨c18, (rok (Qa6 t24)), (rok (Qa6 t3)), (rok (Qa6 t3)), trivial⟩ (Qlq hP hn hx FU a9 a10 [] _ h)
noncomputable def Qeg (p1 : (List Qa0)) : Option ((List Int) × Bool) :=
 Option.bind (Qf3 p1) fun r2 =>
 if (!r2) = true then
  some ([], false)
 else
  Option.bind (Qf0 p1) fun r5 =>
  Option.bind (Qf8 r5) fun r6 =>
  if (decide ((r6.length : Int) > 0)) = true then
   some ([], false)
  else
   Qbr p1 FU r5 [] 0
theorem Qow {p1 : (List Qa0)} {r : ((List Int) × Bool)} (h : Qeg p1 = some r) : Qaa Try.prog 5 [(AV.ro 5 (p1.map o39))] (AV.tup [(AV.own 3 1 (r.1.map o3)), (B r.2)]) := by
 refine gM Try.func5 80 Qs7 fun E hP hn hx => ?_
 unfold Qeg at h
 obtain ⟨r2, hr2, h⟩ := bnS h
 let Z0 := [(AV.ro 5 (p1.map o39))]; let Z1 := B false; let Z7 := (I (p1.length : Int))
 let P1 : List Prop := [Qaa Try.prog 13 Z0 (B r2), Qap (B r2) = true]
 have AP1 : Qb5 P1 := ⟨(Qop hr2), rfl, trivial⟩
 rcases itS h with ⟨c3, h⟩ | ⟨c4, h⟩
 ·obtain rfl := sj h
  exact gR hP hn [hh 3 (.callV [] (B r2)), hT 5] [] (.agg [.own, .raw]) (P1 ++ [(!r2) = true, Z1 = Z1, Qap Z1 = true]) (Qav AP1 ⟨c3, rfl, rfl, trivial⟩)
 ·obtain ⟨r5, hr5, h⟩ := bnS h
  obtain ⟨r6, hr6, h⟩ := bnS h
  let Z2 := r5.map o24; let Z3 := AV.own 24 1 Z2; let Z4 := AV.own 3 1 (r6.map o3); let Z5 := (I (r6.length : Int)); let Z6 := (decide ((r6.length : Int) > 0))
  let H2 : List Hn := [hh 3 (.callV [] (B r2)), hF 5, hh 7 (.call [] Z3 [1001]), hh 10 (.call [(r5.map r24)] Z4 [1002]), hO 11 Z5]
  let P3 : List Prop := P1 ++ [(!r2) = false, Qaa Try.prog 14 Z0 Z3, Qek Z3 = true, Qaa Try.prog 15 [(AV.ro 1 (r5.map r24))] Z4, Qek Z4 = true, Frz ((Z2.drop 0).take Z2.length) (r5.map r24), AV.lit (.int .i64 (((r6.map o3).length : Nat) : Int)) = Z5]
  have AP3 : Qb5 P3 := Qav AP1 ⟨c4, (Qot hr5), (by simp +zetaDelta only [Qek, Qdn, Qbd n24, Bool.and_self]), (Qp4 hr6), (by simp +zetaDelta only [Qek, Qdn, Qbd n3, Bool.and_self]), (Qoz t24 z24), (Qej o3), trivial⟩
  rcases itS h with ⟨c7, h⟩ | ⟨c8, h⟩
  ·obtain rfl := sj h
   exact gR hP hn (H2 ++ [hT 13]) [] (.agg [.own, .raw]) (P3 ++ [Z6 = true, Z1 = Z1, Qap Z1 = true]) (Qav AP3 ⟨c7, rfl, rfl, trivial⟩)
  ·exact gT hP hn hx (H2 ++ [hF 13, hO 16 Z7, hh 18 (.nil 5 1003 3 1)]) [(1001, 1), (1003, 2)] [4, 5, 24, 25, 26] [] (P3 ++ [Z6 = false, AV.lit (.int .i64 (((p1.map o39).length : Nat) : Int)) = Z7, Qa5 [(1001, 1), (1003, 2)] Z2, Qa5 [(1001, 1), (1003, 2)] ([].map o3)]) (Qav AP3 ⟨c8, (Qej o39), (rok (Qa6 t24)), (rok (Qa6 t3)), trivial⟩) (Qlv hP hn hx p1 FU r5 [] 0 _ h)
noncomputable def Qz3 : Code := match Try.f3.body with | some c => c | none => .skip
noncomputable def Qce  (r28 : (Int × (List Int)))  : Option Bool :=
 Option.bind (Qe1 r28.2 1) fun r43 =>
 if (decide (r43 < 0)) = true then
  some false
 else
  if (r43 != r28.1) = true then
   some false
  else
   some true
theorem Qgx {E : Env} (hP : E.P = Try.prog) (hn : E.n = 96) (hx : FX E []) (r28 : (Int × (List Int)))   (r : Bool) (h : Qce r28  = some r) : WAt E Qz3 (FQ (Qe2 Θ Try.f3.results.toList [] [] (B r) E)) [true, true, true, true, true, true, true, true, true, true, true, true, true, true, true, true, true, true, true, false, true, true] ⟨[(7, (AV.sl 1 0 (List.length (r28.2.map o3)))), (10, (I r28.1))], [(1, some ⟨3, 1, (r28.2.map o3)⟩)], [1, JJ]⟩ := by
 unfold Qce at h
 obtain ⟨r43, hr43, h⟩ := bnS h
 let Z0 := r28.2.map o3; let Z1 := decide (r43 < 0); let Z2 := B false
 let H1 : List Hn := [hh 3 (.callV [Z0] (I r43))]
 let P2 : List Prop := [Qaa Try.prog 12 [(AV.ro 1 Z0), (I 1)] (I r43), Qap (I r43) = true, Frz ((Z0.drop 0).take Z0.length) Z0]
 have AP2 : Qb5 P2 := ⟨(Qhv hr43), rfl, (Qoz t3 z3), trivial⟩
 rcases itS h with ⟨c44, h⟩ | ⟨c45, h⟩
 ·obtain rfl := sj h
  exact gR hP hn (H1 ++ [hT 7]) [] .raw (P2 ++ [Z1 = true, Z2 = Z2, Qap Z2 = true]) (Qav AP2 ⟨c44, rfl, rfl, trivial⟩)
 ·rcases itS h with ⟨c46, h⟩ | ⟨c47, h⟩
  ·obtain rfl := sj h
   exact gR hP hn (H1 ++ [hF 7, hT 11]) [] .raw (P2 ++ [Z1 = false, (r43 != r28.1) = true, Z2 = Z2, Qap Z2 = true]) (Qav AP2 ⟨c45, c46, rfl, rfl, trivial⟩)
  ·obtain rfl := sj h
   exact gR hP hn (H1 ++ [hF 7, hF 11]) [] .raw (P2 ++ [Z1 = false, (r43 != r28.1) = false, (B true) = (B true), Qap (B true) = true]) (Qav AP2 ⟨c45, c47, rfl, rfl, trivial⟩)
noncomputable def Qcc  (p1 : (List Qa0)) (r6 : ((List Int) × Bool)) (r8 : ((List Int) × Bool))  : Option Bool :=
 Option.bind (Qeq r8.1 1) fun r28 =>
 Option.bind (Qji r8.1 r28.2) fun q29 =>
 Option.bind (Qe1 r28.2 1) fun r30 =>
 if (decide (r30 < 0)) = true then
  some false
 else
  if (r30 != r28.1) = true then
   some false
  else
   Option.bind (Qcs p1) fun r36 =>
   Option.bind (Qdt r36) fun r37 =>
   Option.bind (Qeb r37.1 r6.1) fun r38 =>
   if (!r38) = true then
    some false
   else
    if (!(r37.2 == r6.2)) = true then
     some false
    else
     Qce r28
theorem Qgl {E : Env} (hP : E.P = Try.prog) (hn : E.n = 96) (hx : FX E []) (p1 : (List Qa0)) (r6 : ((List Int) × Bool)) (r8 : ((List Int) × Bool))   (r : Bool) (h : Qcc p1 r6 r8  = some r) : WAt E Qz3 (FQ (Qe2 Θ Try.f3.results.toList [] [] (B r) E)) [true, true, true, true, true, true, true, true, true, true, true, false, true, true] ⟨[(0, (AV.ro 5 (p1.map o44))), (4, (AV.sl 1 0 (List.length (r6.1.map o3)))), (5, (B r6.2)), (7, (AV.sl 2 0 (List.length (r8.1.map o3))))], [(1, some ⟨3, 1, (r6.1.map o3)⟩), (2, some ⟨3, 1, (r8.1.map o3)⟩)], [1, 2, JJ]⟩ := by
 unfold Qcc at h
 obtain ⟨r28, hr28, h⟩ := bnS h
 obtain ⟨q29, hq29, h⟩ := bnS h
 obtain ⟨r30, hr30, h⟩ := bnS h
 let Z0 := r8.1.map o3; let Z1 := r28.2.map o3; let Z2 := I r28.1; let Z3 := rtf (Qff [(0, 2)] Z2) []; let Z4 := decide (r30 < 0); let Z5 := B false; let Z10 := r6.1.map o3
 let H1 : List Hn := [hh 3 (.callX [2] [true] [⟨3, 1, Z0⟩] [⟨3, 1, Z1⟩] [] Z2 [] Z2 []), hh 6 (.slen 7 Z1.length), hh 8 (.callV [Z1] (I r30))]
 let P2 : List Prop := [Qd3 Try.prog 11 [⟨3, 1, Z0⟩] [(AV.sl 0 0 Z0.length), (I 1)] [true] [⟨3, 1, Z1⟩] Z2, (some (Qao.mk 3 1 Z0) = some (Qao.mk 3 1 Z0)) ∧ True, (Qac Z0 = true ∧ Qaz Z0 = true) ∧ True, (Z1.length = Z0.length) ∧ True, Z3.1 = Z2, Z3.2.1 = [], Z0.length = Z1.length, Qaa Try.prog 12 [(AV.ro 1 Z1), (I 1)] (I r30), Qap (I r30) = true, Frz ((Z1.drop 0).take Z1.length) Z1]
 have AP2 : Qb5 P2 := ⟨(Qni hr28), ⟨rfl, trivial⟩, ⟨⟨Qa6 t3, Qbd n3⟩, trivial⟩, ⟨(Qkj o3 hq29), trivial⟩, rfl, rfl, (Qkj o3 hq29).symm, (Qhv hr30), rfl, (Qoz t3 z3), trivial⟩
 rcases itS h with ⟨c31, h⟩ | ⟨c32, h⟩
 ·obtain rfl := sj h
  exact gR hP hn (H1 ++ [hT 12]) [] .raw (P2 ++ [Z4 = true, Z5 = Z5, Qap Z5 = true]) (Qav AP2 ⟨c31, rfl, rfl, trivial⟩)
 ·rcases itS h with ⟨c33, h⟩ | ⟨c34, h⟩
  ·obtain rfl := sj h
   exact gR hP hn (H1 ++ [hF 12, hT 16]) [] .raw (P2 ++ [Z4 = false, (r30 != r28.1) = true, Z5 = Z5, Qap Z5 = true]) (Qav AP2 ⟨c32, c33, rfl, rfl, trivial⟩)
  ·obtain ⟨r36, hr36, h⟩ := bnS h
   obtain ⟨r37, hr37, h⟩ := bnS h
   obtain ⟨r38, hr38, h⟩ := bnS h
   let Z6 := r36.map o39; let Z7 := AV.own 39 5 Z6; let Z8 := r37.1.map o3; let Z9 := AV.tup [(AV.own 3 1 Z8), (B r37.2)]
   let H3 : List Hn := H1 ++ [hF 12, hF 16, hh 18 (.call [] Z7 [1001]), hh 19 (.call [Z6] Z9 [1002]), hh 27 (.callV [Z8, Z10] (B r38))]
   let P4 : List Prop := P2 ++ [Z4 = false, (r30 != r28.1) = false, Qaa Try.prog 6 [(AV.ro 5 (p1.map o44))] Z7, Qek Z7 = true, Qaa Try.prog 7 [(AV.ro 5 Z6)] Z9, Qek Z9 = true, Frz ((Z6.drop 0).take Z6.length) Z6, Qaa Try.prog 8 [(AV.ro 1 Z8), (AV.ro 1 Z10)] (B r38), Qap (B r38) = true, Frz ((Z8.drop 0).take Z8.length) Z8, Frz ((Z10.drop 0).take Z10.length) Z10]
   have AP4 : Qb5 P4 := Qav AP2 ⟨c32, c34, (Qer hr36), (by simp +zetaDelta only [Qek, Qdn, Qbd n39, Bool.and_self]), (Qiz hr37), (by simp +zetaDelta only [Qek, Qdn, Qbd n3, Bool.and_self]), (Qoz t39 z39), (Qh6 hr38), rfl, (Qoz t3 z3), (Qoz t3 z3), trivial⟩
   rcases itS h with ⟨c39, h⟩ | ⟨c40, h⟩
   ·obtain rfl := sj h
    exact gR hP hn (H3 ++ [hO 29 (B true)]) [] .raw (P4 ++ [(B (!r38)) = (B true), Z5 = Z5, Qap Z5 = true]) (Qav AP4 ⟨(Qd6 c39), rfl, rfl, trivial⟩)
   ·rcases itS h with ⟨c41, h⟩ | ⟨c42, h⟩
    ·obtain rfl := sj h
     exact gR hP hn (H3 ++ [hO 29 Z5, hT 34]) [] .raw (P4 ++ [(B (!r38)) = Z5, (!(r37.2 == r6.2)) = true, Z5 = Z5, Qap Z5 = true]) (Qav AP4 ⟨(Qd6 c40), c41, rfl, rfl, trivial⟩)
    ·exact gT hP hn hx (H3 ++ [hO 29 Z5, hF 34]) [(2, 1)] [7, 10] [] (P4 ++ [(B (!r38)) = Z5, (!(r37.2 == r6.2)) = false, Qa5 [(2, 1)] Z1]) (Qav AP4 ⟨(Qd6 c40), c42, (rok (Qa6 t3)), trivial⟩) (Qgx hP hn hx r28  _ h)
noncomputable def Qcd  (p1 : (List Qa0)) (r6 : ((List Int) × Bool)) (r7 : (List Qa0)) (r8 : ((List Int) × Bool))  : Option Bool :=
 Option.bind (Qcs p1) fun r14 =>
 Option.bind (Qel r7 r14) fun r15 =>
 if (!r15) = true then
  some false
 else
  Option.bind (Qdo r7 1) fun r18 =>
  Option.bind (Qji r7 r18.2) fun q19 =>
  if (decide (r18.1 < 0)) = true then
   some false
  else
   Option.bind (Qeb r8.1 r6.1) fun r23 =>
   if (!r23) = true then
    some false
   else
    if (!(r8.2 == r6.2)) = true then
     some false
    else
     Qcc p1 r6 r8
theorem Qgp {E : Env} (hP : E.P = Try.prog) (hn : E.n = 96) (hx : FX E []) (p1 : (List Qa0)) (r6 : ((List Int) × Bool)) (r7 : (List Qa0)) (r8 : ((List Int) × Bool))   (r : Bool) (h : Qcd p1 r6 r7 r8  = some r) : WAt E Qz3 (FQ (Qe2 Θ Try.f3.results.toList [] [] (B r) E)) [true, true, true, true, true, true, true, false, true, true] ⟨[(0, (AV.ro 5 (p1.map o44))), (4, (AV.sl 1 0 (List.length (r6.1.map o3)))), (5, (B r6.2)), (6, (AV.sl 2 0 (List.length (r7.map o39)))), (7, (AV.sl 3 0 (List.length (r8.1.map o3)))), (8, (B r8.2))], [(1, some ⟨3, 1, (r6.1.map o3)⟩), (2, some ⟨39, 5, (r7.map o39)⟩), (3, some ⟨3, 1, (r8.1.map o3)⟩)], [1, 2, 3, JJ]⟩ := by
 unfold Qcd at h
 obtain ⟨r14, hr14, h⟩ := bnS h
 obtain ⟨r15, hr15, h⟩ := bnS h
 let Z0 := r14.map o39; let Z1 := AV.own 39 5 Z0; let Z2 := r7.map o39; let Z3 := B false; let Z8 := r8.1.map o3; let Z9 := r6.1.map o3
 let H1 : List Hn := [hh 2 (.call [] Z1 [1001]), hh 3 (.callV [Z2, Z0] (B r15))]
 let P2 : List Prop := [Qaa Try.prog 6 [(AV.ro 5 (p1.map o44))] Z1, Qek Z1 = true, Qaa Try.prog 9 [(AV.ro 5 Z2), (AV.ro 5 Z0)] (B r15), Qap (B r15) = true, Frz ((Z2.drop 0).take Z2.length) Z2, Frz ((Z0.drop 0).take Z0.length) Z0]
 have AP2 : Qb5 P2 := ⟨(Qer hr14), (by simp +zetaDelta only [Qek, Qdn, Qbd n39, Bool.and_self]), (Qns hr15), rfl, (Qoz t39 z39), (Qoz t39 z39), trivial⟩
 rcases itS h with ⟨c16, h⟩ | ⟨c17, h⟩
 ·obtain rfl := sj h
  exact gR hP hn (H1 ++ [hT 5]) [] .raw (P2 ++ [(!r15) = true, Z3 = Z3, Qap Z3 = true]) (Qav AP2 ⟨c16, rfl, rfl, trivial⟩)
 ·obtain ⟨r18, hr18, h⟩ := bnS h
  obtain ⟨q19, hq19, h⟩ := bnS h
  let Z4 := r18.2.map o39; let Z5 := I r18.1; let Z6 := rtf (Qff [(0, 2)] Z5) []; let Z7 := B (decide (r18.1 < 0))
  let H3 : List Hn := H1 ++ [hF 5, hh 9 (.callX [2] [true] [⟨39, 5, Z2⟩] [⟨39, 5, Z4⟩] [] Z5 [] Z5 [])]
  let P4 : List Prop := P2 ++ [(!r15) = false, Qd3 Try.prog 10 [⟨39, 5, Z2⟩] [(AV.sl 0 0 Z2.length), (I 1)] [true] [⟨39, 5, Z4⟩] Z5, (some (Qao.mk 39 5 Z2) = some (Qao.mk 39 5 Z2)) ∧ True, (Qac Z2 = true ∧ Qaz Z2 = true) ∧ True, (Z4.length = Z2.length) ∧ True, Z6.1 = Z5, Z6.2.1 = []]
  have AP4 : Qb5 P4 := Qav AP2 ⟨c17, (Qlj hr18), ⟨rfl, trivial⟩, ⟨⟨Qa6 t39, Qbd n39⟩, trivial⟩, ⟨(Qkj o39 hq19), trivial⟩, rfl, rfl, trivial⟩
  rcases itS h with ⟨c20, h⟩ | ⟨c21, h⟩
  ·obtain rfl := sj h
   exact gR hP hn (H3 ++ [hO 13 (B true)]) [] .raw (P4 ++ [Z7 = (B true), Z3 = Z3, Qap Z3 = true]) (Qav AP4 ⟨(Qd6 c20), rfl, rfl, trivial⟩)
  ·obtain ⟨r23, hr23, h⟩ := bnS h
   let H5 : List Hn := H3 ++ [hO 13 Z3, hh 16 (.callV [Z8, Z9] (B r23))]
   let P6 : List Prop := P4 ++ [Z7 = Z3, Qaa Try.prog 8 [(AV.ro 1 Z8), (AV.ro 1 Z9)] (B r23), Qap (B r23) = true, Frz ((Z8.drop 0).take Z8.length) Z8, Frz ((Z9.drop 0).take Z9.length) Z9]
   have AP6 : Qb5 P6 := Qav AP4 ⟨(Qd6 c21), (Qh6 hr23), rfl, (Qoz t3 z3), (Qoz t3 z3), trivial⟩
   rcases itS h with ⟨c24, h⟩ | ⟨c25, h⟩
   ·obtain rfl := sj h
    exact gR hP hn (H5 ++ [hO 19 (B true)]) [] .raw (P6 ++ [(B (!r23)) = (B true), Z3 = Z3, Qap Z3 = true]) (Qav AP6 ⟨(Qd6 c24), rfl, rfl, trivial⟩)
   ·rcases itS h with ⟨c26, h⟩ | ⟨c27, h⟩
    ·obtain rfl := sj h
     exact gR hP hn (H5 ++ [hO 19 Z3, hT 24]) [] .raw (P6 ++ [(B (!r23)) = Z3, (!(r8.2 == r6.2)) = true, Z3 = Z3, Qap Z3 = true]) (Qav AP6 ⟨(Qd6 c25), c26, rfl, rfl, trivial⟩)
    ·exact gT hP hn hx (H5 ++ [hO 19 Z3, hF 24]) [(1, 1), (3, 2)] [0, 4, 5, 7] [] (P6 ++ [(B (!r23)) = Z3, (!(r8.2 == r6.2)) = false, Qa5 [(1, 1), (3, 2)] Z9, Qa5 [(1, 1), (3, 2)] Z8]) (Qav AP6 ⟨(Qd6 c25), c27, (rok (Qa6 t3)), (rok (Qa6 t3)), trivial⟩) (Qgl hP hn hx p1 r6 r8  _ h)
noncomputable def Qca (p1 : (List Qa0)) : Option Bool :=
 Option.bind (Qen p1 1048576) fun r2 =>
 if (decide (r2 < 0)) = true then
  some true
 else
  Option.bind (Qcs p1) fun r5 =>
  Option.bind (Qeg r5) fun r6 =>
  Option.bind (Qcs p1) fun r7 =>
  Option.bind (Qdt r7) fun r8 =>
  Option.bind (Qeb r8.1 r6.1) fun r9 =>
  if (!r9) = true then
   some false
  else
   if (!(r8.2 == r6.2)) = true then
    some false
   else
    Qcd p1 r6 r7 r8
theorem Qi4 {p1 : (List Qa0)} {r : Bool} (h : Qca p1 = some r) : Qaa Try.prog 3 [(AV.ro 5 (p1.map o44))] (B r) := by
 refine gM Try.func3 96 Qz3 fun E hP hn hx => ?_
 unfold Qca at h
 obtain ⟨r2, hr2, h⟩ := bnS h
 let Z0 := AV.ro 5 (p1.map o44); let Z9 := B false
 let H1 : List Hn := [hh 4 (.callV [] (I r2))]
 let P2 : List Prop := [Qaa Try.prog 4 [Z0, (I 1048576)] (I r2), Qap (I r2) = true]
 have AP2 : Qb5 P2 := ⟨(Qom hr2), rfl, trivial⟩
 rcases itS h with ⟨c3, h⟩ | ⟨c4, h⟩
 ·obtain rfl := sj h
  exact gR hP hn (H1 ++ [hT 8]) [] .raw (P2 ++ [(decide (r2 < 0)) = true, (B true) = (B true), Qap (B true) = true]) (Qav AP2 ⟨c3, rfl, rfl, trivial⟩)
 ·obtain ⟨r5, hr5, h⟩ := bnS h
  obtain ⟨r6, hr6, h⟩ := bnS h
  obtain ⟨r7, hr7, h⟩ := bnS h
  obtain ⟨r8, hr8, h⟩ := bnS h
  obtain ⟨r9, hr9, h⟩ := bnS h
  let Z1 := r5.map o39; let Z2 := AV.own 39 5 Z1; let Z3 := r6.1.map o3; let Z4 := AV.tup [(AV.own 3 1 Z3), (B r6.2)]; let Z5 := r7.map o39; let Z6 := AV.own 39 5 Z5; let Z7 := r8.1.map o3; let Z8 := AV.tup [(AV.own 3 1 Z7), (B r8.2)]
  let H3 : List Hn := H1 ++ [hF 8, hh 10 (.call [] Z2 [1001]), hh 11 (.call [Z1] Z4 [1002]), hh 18 (.call [] Z6 [1003]), hh 21 (.call [Z5] Z8 [1004]), hh 29 (.callV [Z7, Z3] (B r9))]
  let P4 : List Prop := P2 ++ [(decide (r2 < 0)) = false, Qaa Try.prog 6 [Z0] Z2, Qek Z2 = true, Qaa Try.prog 5 [(AV.ro 5 Z1)] Z4, Qek Z4 = true, Frz ((Z1.drop 0).take Z1.length) Z1, Qaa Try.prog 6 [Z0] Z6, Qek Z6 = true, Qaa Try.prog 7 [(AV.ro 5 Z5)] Z8, Qek Z8 = true, Frz ((Z5.drop 0).take Z5.length) Z5, Qaa Try.prog 8 [(AV.ro 1 Z7), (AV.ro 1 Z3)] (B r9), Qap (B r9) = true, Frz ((Z7.drop 0).take Z7.length) Z7, Frz ((Z3.drop 0).take Z3.length) Z3]
  have AP4 : Qb5 P4 := Qav AP2 ⟨c4, (Qer hr5), (by simp +zetaDelta only [Qek, Qdn, Qbd n39, Bool.and_self]), (Qow hr6), (by simp +zetaDelta only [Qek, Qdn, Qbd n3, Bool.and_self]), (Qoz t39 z39), (Qer hr7), (by simp +zetaDelta only [Qek, Qdn, Qbd n39, Bool.and_self]), (Qiz hr8), (by simp +zetaDelta only [Qek, Qdn, Qbd n3, Bool.and_self]), (Qoz t39 z39), (Qh6 hr9), rfl, (Qoz t3 z3), (Qoz t3 z3), trivial⟩
  rcases itS h with ⟨c10, h⟩ | ⟨c11, h⟩
  ·obtain rfl := sj h
   exact gR hP hn (H3 ++ [hO 31 (B true)]) [] .raw (P4 ++ [(B (!r9)) = (B true), Z9 = Z9, Qap Z9 = true]) (Qav AP4 ⟨(Qd6 c10), rfl, rfl, trivial⟩)
  ·rcases itS h with ⟨c12, h⟩ | ⟨c13, h⟩
   ·obtain rfl := sj h
    exact gR hP hn (H3 ++ [hO 31 Z9, hT 36]) [] .raw (P4 ++ [(B (!r9)) = Z9, (!(r8.2 == r6.2)) = true, Z9 = Z9, Qap Z9 = true]) (Qav AP4 ⟨(Qd6 c11), c12, rfl, rfl, trivial⟩)
   ·exact gT hP hn hx (H3 ++ [hO 31 Z9, hF 36]) [(1002, 1), (1003, 2), (1004, 3)] [0, 4, 5, 6, 7, 8] [] (P4 ++ [(B (!r9)) = Z9, (!(r8.2 == r6.2)) = false, Qa5 [(1002, 1), (1003, 2), (1004, 3)] Z3, Qa5 [(1002, 1), (1003, 2), (1004, 3)] Z5, Qa5 [(1002, 1), (1003, 2), (1004, 3)] Z7]) (Qav AP4 ⟨(Qd6 c11), c13, (rok (Qa6 t3)), (rok (Qa6 t39)), (rok (Qa6 t3)), trivial⟩) (Qgp hP hn hx p1 r6 r7 r8  _ h)
end Go.Proofs.Ytjcaompblpglcaa
