/- Functions as plain data, and that the code comes to them; no condition. -/

import Derived.Test.YtemmdkcpcjidmaaGreatGC
set_option linter.unusedVariables false
set_option maxRecDepth 100000
namespace Go.Proofs.YtemmdkcpcjidmaaGreat
open Go Go.T
noncomputable def Xeb : Code := match Tryz.f116.body with | some c => c | none => .skip
noncomputable def Qej  (p1 : (List Int)) (p2 : (List Int)) : Nat → Int → Option Bool
 | 0, _ => none
 | n + 1, v5 =>
 if (decide (v5 < (p1.length : Int))) = true then
  Option.bind (rd p1 v5) fun x7 =>
  Option.bind (rd p2 v5) fun x8 =>
  if (x7 != x8) = true then
   some false
  else
   Qej p1 p2 n (w64 (v5 + 1))
 else
  some true
theorem Qsi {E : Env} (hP : E.pk = pk0 Tryz.prog) (hn : E.n = 26) (hx : FX E []) (p1 : (List Int)) (p2 : (List Int))  : ∀ (n : Nat) (v5 : Int) (r : Bool), Qej p1 p2 n v5 = some r → WAt E Xeb (FQ (Qes Θ Tryz.f116.results.toList [] [] (B r) E)) [true, true, false, true, false] ⟨[(0, (AV.ro 1 (p1.map o3))), (1, (AV.ro 1 (p2.map o3))), (12, (I (p1.length : Int))), (13, (I v5))], [], [JJ]⟩ := by
 intro n
 induction n with
 | zero => intro v5 r h; simp only [Qej] at h; cases h
 | succ n ih =>
  intro v5 r h
  simp only [Qej] at h
  let Z0 := (decide (v5 < (p1.length : Int)))
  rcases itS h with ⟨c6, h⟩ | ⟨c11, h⟩
  ·obtain ⟨x7, hx7, h⟩ := bnS h
   obtain ⟨x8, hx8, h⟩ := bnS h
   let P1 : List Prop := [Z0 = true, (0 : Int) ≤ v5, (p1.map o3)[v5.toNat]? = some (o3 x7), (0 : Int) ≤ v5, (p2.map o3)[v5.toNat]? = some (o3 x8)]
   have AP1 : Qan P1 := ⟨c6, (rd0 hx7), (rdM o3 hx7), (rd0 hx8), (rdM o3 hx8), trivial⟩
   rcases itS h with ⟨c9, h⟩ | ⟨c10, h⟩
   ·obtain rfl := sj h
    exact gR hP hn [hT 1, hh 6 (.row (o3 x7)), hh 10 (.row (o3 x8)), hT 13] [] .raw (P1 ++ [(x7 != x8) = true, (B false) = (B false), Qa3 (B false) = true]) (Qa6 AP1 ⟨c9, rfl, rfl, trivial⟩)
   ·exact gT hP hn hx [hT 1, hh 6 (.row (o3 x7)), hh 10 (.row (o3 x8)), hF 13] [] [0, 1, 12, 13] [] (P1 ++ [(x7 != x8) = false]) (Qa6 AP1 ⟨c10, trivial⟩) (ih (w64 (v5 + 1)) _ h)
  ·obtain rfl := sj h
   exact gR hP hn [hF 1] [] .raw [Z0 = false, (B true) = (B true), Qa3 (B true) = true] ⟨c11, rfl, rfl, trivial⟩
noncomputable def Qhv (p1 : (List Int)) (p2 : (List Int)) : Option Bool :=
 if ((p1.length : Int) != (p2.length : Int)) = true then
  some false
 else
  Qej p1 p2 FU 0
theorem Qpe {p1 : (List Int)} {p2 : (List Int)} {r : Bool} (h : Qhv p1 p2 = some r) : Qa4 Tryz.prog 116 [(AV.ro 1 (p1.map o3)), (AV.ro 1 (p2.map o3))] (B r) := by
 refine gM Tryz.func116 26 Xeb fun E hP hn hx => ?_
 unfold Qhv at h
 let Z0 := (((p1.map o3).length : Nat) : Int); let Z1 := (I (p1.length : Int)); let Z2 := (I (p2.length : Int)); let Z3 := ((p1.length : Int) != (p2.length : Int))
 let P1 : List Prop := [AV.lit (.int .i64 Z0) = Z1, AV.lit (.int .i64 (((p2.map o3).length : Nat) : Int)) = Z2]
 have AP1 : Qan P1 := ⟨(Qbw o3), (Qbw o3), trivial⟩
 rcases itS h with ⟨c3, h⟩ | ⟨c4, h⟩
 ·obtain rfl := sj h
  exact gR hP hn [hO 2 Z1, hO 4 Z2, hT 6] [] .raw (P1 ++ [Z3 = true, (B false) = (B false), Qa3 (B false) = true]) (Qa6 AP1 ⟨c3, rfl, rfl, trivial⟩)
 ·exact gT hP hn hx [hO 2 Z1, hO 4 Z2, hF 6, hO 8 Z1] [] [0, 1, 12, 13] [] (P1 ++ [Z3 = false, AV.lit (.int .i64 Z0) = Z1]) (Qa6 AP1 ⟨c4, (Qbw o3), trivial⟩) (Qsi hP hn hx p1 p2 FU 0 _ h)
noncomputable def Xe9 : Code := match Tryz.f115.body with | some c => c | none => .skip
noncomputable def Qck  (p1 : (List Nat)) (p2 : (List Nat)) : Nat → Int → Option Bool
 | 0, _ => none
 | n + 1, v5 =>
 if (decide (v5 < (p1.length : Int))) = true then
  Option.bind (rd p1 v5) fun x7 =>
  Option.bind (rd p2 v5) fun x8 =>
  Option.bind (Qc6 x7 x8) fun r9 =>
  if (!r9) = true then
   some false
  else
   Qck p1 p2 n (w64 (v5 + 1))
 else
  some true
theorem Qnq {E : Env} (hP : E.pk = pk0 Tryz.prog) (hn : E.n = 27) (hx : FX E []) (p1 : (List Nat)) (p2 : (List Nat))  : ∀ (n : Nat) (v5 : Int) (r : Bool), Qck p1 p2 n v5 = some r → WAt E Xe9 (FQ (Qes Θ Tryz.f115.results.toList [] [] (B r) E)) [true, true, false, true, false] ⟨[(0, (AV.ro 1 (p1.map Qae))), (1, (AV.ro 1 (p2.map Qae))), (12, (I (p1.length : Int))), (13, (I v5))], [], [JJ]⟩ := by
 intro n
 induction n with
 | zero => intro v5 r h; simp only [Qck] at h; cases h
 | succ n ih =>
  intro v5 r h
  simp only [Qck] at h
  let Z0 := (decide (v5 < (p1.length : Int)))
  rcases itS h with ⟨c6, h⟩ | ⟨c12, h⟩
  ·obtain ⟨x7, hx7, h⟩ := bnS h
   obtain ⟨x8, hx8, h⟩ := bnS h
   obtain ⟨r9, hr9, h⟩ := bnS h
   let H1 : List Hn := [hT 1, hh 6 (.row (Qae x7)), hh 10 (.row (Qae x8)), hh 12 (.callV [] (B r9))]
   let P2 : List Prop := [Z0 = true, (0 : Int) ≤ v5, (p1.map Qae)[v5.toNat]? = some (Qae x7), (0 : Int) ≤ v5, (p2.map Qae)[v5.toNat]? = some (Qae x8), Qa4 Tryz.prog 182 [(FK x7), (FK x8)] (B r9), Qa3 (B r9) = true]
   have AP2 : Qan P2 := ⟨c6, (rd0 hx7), (rdM Qae hx7), (rd0 hx8), (rdM Qae hx8), (Qj2 hr9), rfl, trivial⟩
   rcases itS h with ⟨c10, h⟩ | ⟨c11, h⟩
   ·obtain rfl := sj h
    exact gR hP hn (H1 ++ [hT 14]) [] .raw (P2 ++ [(!r9) = true, (B false) = (B false), Qa3 (B false) = true]) (Qa6 AP2 ⟨c10, rfl, rfl, trivial⟩)
   ·exact gT hP hn hx (H1 ++ [hF 14]) [] [0, 1, 12, 13] [] (P2 ++ [(!r9) = false]) (Qa6 AP2 ⟨c11, trivial⟩) (ih (w64 (v5 + 1)) _ h)
  ·obtain rfl := sj h
   exact gR hP hn [hF 1] [] .raw [Z0 = false, (B true) = (B true), Qa3 (B true) = true] ⟨c12, rfl, rfl, trivial⟩
noncomputable def Qet (p1 : (List Nat)) (p2 : (List Nat)) : Option Bool :=
 if ((p1.length : Int) != (p2.length : Int)) = true then
  some false
 else
  Qck p1 p2 FU 0
theorem Ql4 {p1 : (List Nat)} {p2 : (List Nat)} {r : Bool} (h : Qet p1 p2 = some r) : Qa4 Tryz.prog 115 [(AV.ro 1 (p1.map Qae)), (AV.ro 1 (p2.map Qae))] (B r) := by
 refine gM Tryz.func115 27 Xe9 fun E hP hn hx => ?_
 unfold Qet at h
 let Z0 := (((p1.map Qae).length : Nat) : Int); let Z1 := (I (p1.length : Int)); let Z2 := (I (p2.length : Int)); let Z3 := ((p1.length : Int) != (p2.length : Int))
 let P1 : List Prop := [AV.lit (.int .i64 Z0) = Z1, AV.lit (.int .i64 (((p2.map Qae).length : Nat) : Int)) = Z2]
 have AP1 : Qan P1 := ⟨(Qbw Qae), (Qbw Qae), trivial⟩
 rcases itS h with ⟨c3, h⟩ | ⟨c4, h⟩
 ·obtain rfl := sj h
  exact gR hP hn [hO 2 Z1, hO 4 Z2, hT 6] [] .raw (P1 ++ [Z3 = true, (B false) = (B false), Qa3 (B false) = true]) (Qa6 AP1 ⟨c3, rfl, rfl, trivial⟩)
 ·exact gT hP hn hx [hO 2 Z1, hO 4 Z2, hF 6, hO 8 Z1] [] [0, 1, 12, 13] [] (P1 ++ [Z3 = false, AV.lit (.int .i64 Z0) = Z1]) (Qa6 AP1 ⟨c4, (Qbw Qae), trivial⟩) (Qnq hP hn hx p1 p2 FU 0 _ h)
noncomputable def Xio : Code := match Tryz.f38.body with | some c => c | none => .skip
noncomputable def Qcv  (p1 : Qa1) : Nat → Qa1 → Int → Option Bool
 | 0, _, _ => none
 | n + 1, a13, v14 =>
 if (decide (v14 < (p1.Threads.length : Int))) = true then
  Option.bind (rd p1.Threads v14) fun x16 =>
  Option.bind (rd a13.Threads v14) fun x17 =>
  if (x16.Routine != x17.Routine) = true then
   some false
  else
   if (x16.Pc != x17.Pc) = true then
    some false
   else
    if (x16.State != x17.State) = true then
     some false
    else
     if (x16.Cond != x17.Cond) = true then
      some false
     else
      if (x16.Lock != x17.Lock) = true then
       some false
      else
       Option.bind (Qet x16.Stack x17.Stack) fun r33 =>
       if (!r33) = true then
        some false
       else
        Qcv p1 n a13 (w64 (v14 + 1))
 else
  some true
theorem Qoa {E : Env} (hP : E.pk = pk0 Tryz.prog) (hn : E.n = 93) (hx : FX E []) (p1 : Qa1)  : ∀ (n : Nat) (a13 : Qa1) (v14 : Int) (r : Bool), Qcv p1 n a13 v14 = some r → WAt E Xio (FQ (Qes Θ Tryz.f38.results.toList [] [] (B r) E)) [true, true, false, true, false] ⟨[(3, (AV.ptr 1 0 0)), (39, (AV.ro 6 (p1.Threads.map r70))), (40, (I (p1.Threads.length : Int))), (41, (I v14))], [(1, some ⟨44, 4, [((r44 a13))]⟩)], [1, JJ]⟩ := by
 intro n
 induction n with
 | zero => intro a13 v14 r h; simp only [Qcv] at h; cases h
 | succ n ih =>
  intro a13 v14 r h
  simp only [Qcv] at h
  let Z0 := (decide (v14 < (p1.Threads.length : Int))); let Z1 := B true; let Z3 := B false
  rcases itS h with ⟨c15, h⟩ | ⟨c36, h⟩
  ·obtain ⟨x16, hx16, h⟩ := bnS h
   obtain ⟨x17, hx17, h⟩ := bnS h
   let Z2 := B (x16.Routine != x17.Routine); let Z4 := B (x16.Pc != x17.Pc); let Z5 := B (x16.State != x17.State); let Z6 := B (x16.Cond != x17.Cond); let Z7 := B (x16.Lock != x17.Lock)
   let H1 : List Hn := [hT 1, hh 3 (.row (r70 x16)), hW 5 1001, hh 11 (.row (r70 x17)), hW 13 1002]
   let P2 : List Prop := [Z0 = true, (0 : Int) ≤ v14, (p1.Threads.map r70)[v14.toNat]? = some (r70 x16), (0 : Int) ≤ v14, (a13.Threads.map r70)[v14.toNat]? = some (r70 x17)]
   have AP2 : Qan P2 := ⟨c15, (rd0 hx16), (rdM r70 hx16), (rd0 hx17), (rdM r70 hx17), trivial⟩
   rcases itS h with ⟨c18, h⟩ | ⟨c19, h⟩
   ·obtain rfl := sj h
    exact gR hP hn (H1 ++ [hO 20 Z1]) [] .raw (P2 ++ [Z2 = Z1, Z3 = Z3, Qa3 Z3 = true]) (Qa6 AP2 ⟨(Qax c18), rfl, rfl, trivial⟩)
   ·let H3 : List Hn := H1 ++ [hO 20 Z3]
    let P4 : List Prop := P2 ++ [Z2 = Z3]
    have AP4 : Qan P4 := Qa6 AP2 ⟨(Qax c19), trivial⟩
    rcases itS h with ⟨c20, h⟩ | ⟨c21, h⟩
    ·obtain rfl := sj h
     exact gR hP hn (H3 ++ [hO 27 Z1]) [] .raw (P4 ++ [Z4 = Z1, Z3 = Z3, Qa3 Z3 = true]) (Qa6 AP4 ⟨(Qax c20), rfl, rfl, trivial⟩)
    ·let P5 : List Prop := P4 ++ [Z4 = Z3]
     have AP5 : Qan P5 := Qa6 AP4 ⟨(Qax c21), trivial⟩
     rcases itS h with ⟨c22, h⟩ | ⟨c23, h⟩
     ·obtain rfl := sj h
      exact gR hP hn (H3 ++ [hO 27 Z3, hO 34 Z1]) [] .raw (P5 ++ [Z5 = Z1, Z3 = Z3, Qa3 Z3 = true]) (Qa6 AP5 ⟨(Qax c22), rfl, rfl, trivial⟩)
     ·let H6 : List Hn := H3 ++ [hO 27 Z3, hO 34 Z3]
      let P7 : List Prop := P5 ++ [Z5 = Z3]
      have AP7 : Qan P7 := Qa6 AP5 ⟨(Qax c23), trivial⟩
      rcases itS h with ⟨c24, h⟩ | ⟨c25, h⟩
      ·obtain rfl := sj h
       exact gR hP hn (H6 ++ [hO 41 Z1]) [] .raw (P7 ++ [Z6 = Z1, Z3 = Z3, Qa3 Z3 = true]) (Qa6 AP7 ⟨(Qax c24), rfl, rfl, trivial⟩)
      ·rcases itS h with ⟨c26, h⟩ | ⟨c27, h⟩
       ·obtain rfl := sj h
        exact gR hP hn (H6 ++ [hO 41 Z3, hO 48 Z1]) [] .raw (P7 ++ [Z6 = Z3, Z7 = Z1, Z3 = Z3, Qa3 Z3 = true]) (Qa6 AP7 ⟨(Qax c25), (Qax c26), rfl, rfl, trivial⟩)
       ·obtain ⟨r33, hr33, h⟩ := bnS h
        let P8 : List Prop := P7 ++ [Z6 = Z3, Z7 = Z3, Qa4 Tryz.prog 115 [(AV.ro 1 (x16.Stack.map Qae)), (AV.ro 1 (x17.Stack.map Qae))] (B r33), Qa3 (B r33) = true]
        have AP8 : Qan P8 := Qa6 AP7 ⟨(Qax c25), (Qax c27), (Ql4 hr33), rfl, trivial⟩
        rcases itS h with ⟨c34, h⟩ | ⟨c35, h⟩
        ·obtain rfl := sj h
         exact gR hP hn (H6 ++ [hO 41 Z3, hO 48 Z3, hh 53 (.callV [] (B r33)), hT 56]) [] .raw (P8 ++ [(!r33) = true, Z3 = Z3, Qa3 Z3 = true]) (Qa6 AP8 ⟨c34, rfl, rfl, trivial⟩)
        ·exact gT hP hn hx (H6 ++ [hO 41 Z3, hO 48 Z3, hh 53 (.callV [] (B r33)), hF 56]) [(1, 1)] [3, 39, 40, 41] [] (P8 ++ [(!r33) = false, Qac [(1, 1)] [((r44 a13))]]) (Qa6 AP8 ⟨c35, (rok (Qb2 t44 a13)), trivial⟩) (ih a13 (w64 (v14 + 1)) _ h)
  ·obtain rfl := sj h
   exact gR hP hn [hF 1] [] .raw [Z0 = false, Z1 = Z1, Qa3 Z1 = true] ⟨c36, rfl, rfl, trivial⟩
noncomputable def Qgq (p1 : Qa1) (p2 : Qa1) : Option Bool :=
 if ((p1.Threads.length : Int) != (p2.Threads.length : Int)) = true then
  some false
 else
  Option.bind (Qet p1.Cells p2.Cells) fun r5 =>
  if (!r5) = true then
   some false
  else
   Option.bind (Qhv p1.Owner p2.Owner) fun r8 =>
   if (!r8) = true then
    some false
   else
    if (p1.Fault != p2.Fault) = true then
     some false
    else
     Qcv p1 FU p2 0
theorem Qsd {p1 : Qa1} {p2 : Qa1} {r : Bool} (h : Qgq p1 p2 = some r) : Qa4 Tryz.prog 38 [(AV.agg ((r44 p1))), (AV.agg ((r44 p2)))] (B r) := by
 refine gM Tryz.func38 93 Xio fun E hP hn hx => ?_
 unfold Qgq at h
 let Z0 := (p1.Threads.length : Int); let Z1 := (p2.Threads.length : Int); let Z2 := (((p1.Threads.map r70).length : Nat) : Int); let Z3 := B true; let Z4 := B false; let Z5 := p1.Fault != p2.Fault
 let H1 : List Hn := [hW 0 1001, hW 1 1002, hO 5 (I Z0), hO 8 (I Z1)]
 let P2 : List Prop := [AV.lit (.int .i64 Z2) = (I Z0), AV.lit (.int .i64 (((p2.Threads.map r70).length : Nat) : Int)) = (I Z1)]
 have AP2 : Qan P2 := ⟨(Qbw r70), (Qbw r70), trivial⟩
 rcases itS h with ⟨c3, h⟩ | ⟨c4, h⟩
 ·obtain rfl := sj h
  exact gR hP hn (H1 ++ [hO 10 Z3]) [] .raw (P2 ++ [(B (Z0 != Z1)) = Z3, Z4 = Z4, Qa3 Z4 = true]) (Qa6 AP2 ⟨(Qax c3), rfl, rfl, trivial⟩)
 ·obtain ⟨r5, hr5, h⟩ := bnS h
  let H3 : List Hn := H1 ++ [hO 10 Z4, hh 15 (.callV [] (B r5))]
  let P4 : List Prop := P2 ++ [(B (Z0 != Z1)) = Z4, Qa4 Tryz.prog 115 [(AV.ro 1 (p1.Cells.map Qae)), (AV.ro 1 (p2.Cells.map Qae))] (B r5), Qa3 (B r5) = true]
  have AP4 : Qan P4 := Qa6 AP2 ⟨(Qax c4), (Ql4 hr5), rfl, trivial⟩
  rcases itS h with ⟨c6, h⟩ | ⟨c7, h⟩
  ·obtain rfl := sj h
   exact gR hP hn (H3 ++ [hO 18 Z3]) [] .raw (P4 ++ [(B (!r5)) = Z3, Z4 = Z4, Qa3 Z4 = true]) (Qa6 AP4 ⟨(Qax c6), rfl, rfl, trivial⟩)
  ·obtain ⟨r8, hr8, h⟩ := bnS h
   let H5 : List Hn := H3 ++ [hO 18 Z4, hh 23 (.callV [] (B r8))]
   let P6 : List Prop := P4 ++ [(B (!r5)) = Z4, Qa4 Tryz.prog 116 [(AV.ro 1 (p1.Owner.map o3)), (AV.ro 1 (p2.Owner.map o3))] (B r8), Qa3 (B r8) = true]
   have AP6 : Qan P6 := Qa6 AP4 ⟨(Qax c7), (Qpe hr8), rfl, trivial⟩
   rcases itS h with ⟨c9, h⟩ | ⟨c10, h⟩
   ·obtain rfl := sj h
    exact gR hP hn (H5 ++ [hO 26 Z3]) [] .raw (P6 ++ [(B (!r8)) = Z3, Z4 = Z4, Qa3 Z4 = true]) (Qa6 AP6 ⟨(Qax c9), rfl, rfl, trivial⟩)
   ·rcases itS h with ⟨c11, h⟩ | ⟨c12, h⟩
    ·obtain rfl := sj h
     exact gR hP hn (H5 ++ [hO 26 Z4, hT 33]) [] .raw (P6 ++ [(B (!r8)) = Z4, Z5 = true, Z4 = Z4, Qa3 Z4 = true]) (Qa6 AP6 ⟨(Qax c10), c11, rfl, rfl, trivial⟩)
    ·exact gT hP hn hx (H5 ++ [hO 26 Z4, hF 33, hO 36 (I Z0)]) [(1002, 1)] [3, 39, 40, 41] [] (P6 ++ [(B (!r8)) = Z4, Z5 = false, AV.lit (.int .i64 Z2) = (I Z0), Qac [(1002, 1)] [((r44 p2))]]) (Qa6 AP6 ⟨(Qax c10), c12, (Qbw r70), (rok (Qb2 t44 p2)), trivial⟩) (Qoa hP hn hx p1 FU p2 0 _ h)
noncomputable def Xgd : Code := match Tryz.f197.body with | some c => c | none => .skip
noncomputable def Qc1  (p1 : (List Qab)) (p2 : (List Qab)) : Nat → Int → Option Bool
 | 0, _ => none
 | n + 1, v5 =>
 if (decide (v5 < (p1.length : Int))) = true then
  Option.bind (rd p1 v5) fun x7 =>
  Option.bind (rd p2 v5) fun x8 =>
  if (!(decide (x7 = x8))) = true then
   some false
  else
   Qc1 p1 p2 n (w64 (v5 + 1))
 else
  some true
theorem Qmg {E : Env} (hP : E.pk = pk0 Tryz.prog) (hn : E.n = 26) (hx : FX E []) (p1 : (List Qab)) (p2 : (List Qab))  : ∀ (n : Nat) (v5 : Int) (r : Bool), Qc1 p1 p2 n v5 = some r → WAt E Xgd (FQ (Qes Θ Tryz.f197.results.toList [] [] (B r) E)) [true, true, false, true, false] ⟨[(0, (AV.ro 5 (p1.map o60))), (1, (AV.ro 5 (p2.map o60))), (12, (I (p1.length : Int))), (13, (I v5))], [], [JJ]⟩ := by
 intro n
 induction n with
 | zero => intro v5 r h; simp only [Qc1] at h; cases h
 | succ n ih =>
  intro v5 r h
  simp only [Qc1] at h
  let Z1 := (decide (v5 < (p1.length : Int)))
  rcases itS h with ⟨c6, h⟩ | ⟨c11, h⟩
  ·obtain ⟨x7, hx7, h⟩ := bnS h
   obtain ⟨x8, hx8, h⟩ := bnS h
   let Z0 := decide (x7 = x8)
   let H1 : List Hn := [hT 1, hh 6 (.row (o60 x7)), hh 10 (.row (o60 x8)), hh 12 (.bin (B (!Z0)))]
   let P2 : List Prop := [Z1 = true, (0 : Int) ≤ v5, (p1.map o60)[v5.toNat]? = some (o60 x7), (0 : Int) ≤ v5, (p2.map o60)[v5.toNat]? = some (o60 x8), Qfu Tryz.prog .neq 60 (AV.agg ((o60 x7))) (AV.agg ((o60 x8))) (B (!Z0))]
   have AP2 : Qan P2 := ⟨c6, (rd0 hx7), (rdM o60 hx7), (rd0 hx8), (rdM o60 hx8), (Xm8 _ _), trivial⟩
   rcases itS h with ⟨c9, h⟩ | ⟨c10, h⟩
   ·obtain rfl := sj h
    exact gR hP hn (H1 ++ [hT 13]) [] .raw (P2 ++ [(!Z0) = true, (B false) = (B false), Qa3 (B false) = true]) (Qa6 AP2 ⟨c9, rfl, rfl, trivial⟩)
   ·exact gT hP hn hx (H1 ++ [hF 13]) [] [0, 1, 12, 13] [] (P2 ++ [(!Z0) = false]) (Qa6 AP2 ⟨c10, trivial⟩) (ih (w64 (v5 + 1)) _ h)
  ·obtain rfl := sj h
   exact gR hP hn [hF 1] [] .raw [Z1 = false, (B true) = (B true), Qa3 (B true) = true] ⟨c11, rfl, rfl, trivial⟩
noncomputable def Qf2 (p1 : (List Qab)) (p2 : (List Qab)) : Option Bool :=
 if ((p1.length : Int) != (p2.length : Int)) = true then
  some false
 else
  Qc1 p1 p2 FU 0
theorem Qon {p1 : (List Qab)} {p2 : (List Qab)} {r : Bool} (h : Qf2 p1 p2 = some r) : Qa4 Tryz.prog 197 [(AV.ro 5 (p1.map o60)), (AV.ro 5 (p2.map o60))] (B r) := by
 refine gM Tryz.func197 26 Xgd fun E hP hn hx => ?_
 unfold Qf2 at h
 let Z0 := (((p1.map o60).length : Nat) : Int); let Z1 := (I (p1.length : Int)); let Z2 := (I (p2.length : Int)); let Z3 := ((p1.length : Int) != (p2.length : Int))
 let P1 : List Prop := [AV.lit (.int .i64 Z0) = Z1, AV.lit (.int .i64 (((p2.map o60).length : Nat) : Int)) = Z2]
 have AP1 : Qan P1 := ⟨(Qbw o60), (Qbw o60), trivial⟩
 rcases itS h with ⟨c3, h⟩ | ⟨c4, h⟩
 ·obtain rfl := sj h
  exact gR hP hn [hO 2 Z1, hO 4 Z2, hT 6] [] .raw (P1 ++ [Z3 = true, (B false) = (B false), Qa3 (B false) = true]) (Qa6 AP1 ⟨c3, rfl, rfl, trivial⟩)
 ·exact gT hP hn hx [hO 2 Z1, hO 4 Z2, hF 6, hO 8 Z1] [] [0, 1, 12, 13] [] (P1 ++ [Z3 = false, AV.lit (.int .i64 Z0) = Z1]) (Qa6 AP1 ⟨c4, (Qbw o60), trivial⟩) (Qmg hP hn hx p1 p2 FU 0 _ h)
noncomputable def Xlw : Code := match Tryz.f143.body with | some c => c | none => .skip
noncomputable def Qgx (p1 : Qbx) (p2 : Qbx) : Option Bool :=
 if (p1.Code == p2.Code) = true then
  Option.bind (Qf2 p1.Trace p2.Trace) fun r4 =>
  if r4 = true then
   Option.bind (Qhv p1.Picks p2.Picks) fun r6 =>
   if r6 = true then
    Option.bind (Qgq p1.End p2.End) fun r8 =>
    some r8
   else
    some false
  else
   some false
 else
  some false
theorem Qs9 {p1 : Qbx} {p2 : Qbx} {r : Bool} (h : Qgx p1 p2 = some r) : Qa4 Tryz.prog 143 [(AV.agg ((r46 p1))), (AV.agg ((r46 p2)))] (B r) := by
 refine gM Tryz.func143 31 Xlw fun E hP hn hx => ?_
 unfold Qgx at h
 let Z0 := B true; let Z1 := B (p1.Code == p2.Code); let Z2 := B false
 rcases itS h with ⟨c3, h⟩ | ⟨c11, h⟩
 ·obtain ⟨r4, hr4, h⟩ := bnS h
  let H1 : List Hn := [hW 0 1001, hW 1 1002, hO 8 Z0, hh 13 (.callV [] (B r4))]
  let P2 : List Prop := [Z1 = Z0, Qa4 Tryz.prog 197 [(AV.ro 5 (p1.Trace.map o60)), (AV.ro 5 (p2.Trace.map o60))] (B r4), Qa3 (B r4) = true]
  have AP2 : Qan P2 := ⟨(Qax c3), (Qon hr4), rfl, trivial⟩
  rcases itS h with ⟨c5, h⟩ | ⟨c10, h⟩
  ·obtain ⟨r6, hr6, h⟩ := bnS h
   let P3 : List Prop := P2 ++ [(B r4) = Z0, Qa4 Tryz.prog 116 [(AV.ro 1 (p1.Picks.map o3)), (AV.ro 1 (p2.Picks.map o3))] (B r6), Qa3 (B r6) = true]
   have AP3 : Qan P3 := Qa6 AP2 ⟨(Qax c5), (Qpe hr6), rfl, trivial⟩
   rcases itS h with ⟨c7, h⟩ | ⟨c9, h⟩
   ·obtain ⟨r8, hr8, h⟩ := bnS h
    obtain rfl := sj h
    exact gR hP hn (H1 ++ [hO 15 Z0, hh 20 (.callV [] (B r6)), hO 22 Z0, hh 27 (.callV [[], []] (B r8))]) [] .raw (P3 ++ [(B r6) = Z0, Qa4 Tryz.prog 38 [(AV.agg ((r44 p1.End))), (AV.agg ((r44 p2.End)))] (B r8), Qa3 (B r8) = true, (B r8) = (B r8), Qa3 (B r8) = true]) (Qa6 AP3 ⟨(Qax c7), (Qsd hr8), rfl, rfl, rfl, trivial⟩)
   ·obtain rfl := sj h
    exact gR hP hn (H1 ++ [hO 15 Z0, hh 20 (.callV [] (B r6)), hO 22 Z2]) [] .raw (P3 ++ [(B r6) = Z2, Z2 = Z2, Qa3 Z2 = true]) (Qa6 AP3 ⟨(Qax c9), rfl, rfl, trivial⟩)
  ·obtain rfl := sj h
   exact gR hP hn (H1 ++ [hO 15 Z2]) [] .raw (P2 ++ [(B r4) = Z2, Z2 = Z2, Qa3 Z2 = true]) (Qa6 AP2 ⟨(Qax c10), rfl, rfl, trivial⟩)
 ·obtain rfl := sj h
  exact gR hP hn [hW 0 1001, hW 1 1002, hO 8 Z2] [] .raw [Z1 = Z2, Z2 = Z2, Qa3 Z2 = true] ⟨(Qax c11), rfl, rfl, trivial⟩
noncomputable def Xmn : Code := match Tryz.f64.body with | some c => c | none => .skip
noncomputable def Qn7 (p1 : Qag) (p2 : Qbx) : Option Bool :=
 if (decide ((p2.Trace.length : Int) ≤ 200)) = true then
  Option.bind (Qit p2.Picks) fun r4 =>
  if r4 = true then
   Option.bind (Qhz p1 p2.Picks (p2.Picks.length : Int)) fun r6 =>
   Option.bind (Qgx (Qbx.mk r6.Code r6.Trace r6.Picks (Qa1.mk r6.End.Threads r6.End.Cells r6.End.Owner r6.End.Fault)) p2) fun r7 =>
   some r7
  else
   some false
 else
  some false
theorem Xad {p1 : Qag} {p2 : Qbx} {r : Bool} (h : Qn7 p1 p2 = some r) : Qa4 Tryz.prog 64 [(AV.agg ((r39 p1))), (AV.agg ((r46 p2)))] (B r) := by
 refine gM Tryz.func64 25 Xmn fun E hP hn hx => ?_
 unfold Qn7 at h
 let Z0 := (p2.Trace.length : Int); let Z1 := B (decide (Z0 ≤ 200)); let Z2 := AV.ro 1 (p2.Picks.map o3); let Z3 := (I (p2.Picks.length : Int)); let Z10 := AV.agg ((r46 p2)); let Z12 := B false
 let H1 : List Hn := [hW 0 1001, hW 1 1002, hO 5 (I Z0)]
 let P2 : List Prop := [AV.lit (.int .i64 (((p2.Trace.map o60).length : Nat) : Int)) = (I Z0)]
 have AP2 : Qan P2 := ⟨(Qbw o60), trivial⟩
 rcases itS h with ⟨c3, h⟩ | ⟨c9, h⟩
 ·obtain ⟨r4, hr4, h⟩ := bnS h
  let P3 : List Prop := P2 ++ [Z1 = (B true), Qa4 Tryz.prog 63 [Z2] (B r4), Qa3 (B r4) = true]
  have AP3 : Qan P3 := Qa6 AP2 ⟨(Qax c3), (Qv3 hr4), rfl, trivial⟩
  rcases itS h with ⟨c5, h⟩ | ⟨c8, h⟩
  ·obtain ⟨r6, hr6, h⟩ := bnS h
   obtain ⟨r7, hr7, h⟩ := bnS h
   obtain rfl := sj h
   exact (let Z4 := AV.agg (o46 r6); let Z5 := r6.Trace.map o60; let Z6 := r6.Picks.map o3; let Z7 := r6.End.Threads.map r70; let Z8 := r6.End.Cells.map Qae; let Z9 := r6.End.Owner.map o3; let Z11 := r6.End.Threads.map o70; gR hP hn (H1 ++ [hO 7 (B true), hh 10 (.callV [] (B r4)), hO 12 (B true), hO 18 Z3, hh 19 (.call [[]] Z4 [1003, 1004, 1005, 1006, 1007]), hh 22 (.callV [[], Z5, Z6, Z7, Z8, Z9, []] (B r7))]) [] .raw (P3 ++ [(B r4) = (B true), AV.lit (.int .i64 (((p2.Picks.map o3).length : Nat) : Int)) = Z3, Qa4 Tryz.prog 119 [(AV.agg ((r39 p1))), Z2, Z3] Z4, Qc5 Z4 = true, Z10 = Z10, Qa4 Tryz.prog 143 [(AV.agg [(I r6.Code), (AV.ro 5 Z5), (AV.ro 1 Z6), (AV.ro 6 Z7), (AV.ro 1 Z8), (AV.ro 1 Z9), (I r6.End.Fault)]), Z10] (B r7), Qa3 (B r7) = true, Frz ((Z5.drop 0).take Z5.length) Z5, Frz ((Z6.drop 0).take Z6.length) Z6, Frz ((Z11.drop 0).take Z11.length) Z7, Frz ((Z8.drop 0).take Z8.length) Z8, Frz ((Z9.drop 0).take Z9.length) Z9, (B r7) = (B r7), Qa3 (B r7) = true]) (Qa6 AP3 ⟨(Qax c5), (Qbw o3), (Qzb hr6), (by simp +zetaDelta only [Qc5, Qbl, Qa8 n3, Qa8 n60, Qa8 n70, Qa8 Qer, o46, Bool.and_self]), rfl, (Qs9 hr7), rfl, (Qgt t60 z60), (Qgt t3 z3), (Qgt t70 z70), (Qgt Qc3 Qsj), (Qgt t3 z3), rfl, rfl, trivial⟩))
  ·obtain rfl := sj h
   exact gR hP hn (H1 ++ [hO 7 (B true), hh 10 (.callV [] (B r4)), hO 12 Z12]) [] .raw (P3 ++ [(B r4) = Z12, Z12 = Z12, Qa3 Z12 = true]) (Qa6 AP3 ⟨(Qax c8), rfl, rfl, trivial⟩)
 ·obtain rfl := sj h
  exact gR hP hn (H1 ++ [hO 7 Z12]) [] .raw (P2 ++ [Z1 = Z12, Z12 = Z12, Qa3 Z12 = true]) (Qa6 AP2 ⟨(Qax c9), rfl, rfl, trivial⟩)
noncomputable def Xmk : Code := match Tryz.f17.body with | some c => c | none => .skip
noncomputable def Qk5 (p1 : Qag) (p2 : Qbx) (p3 : Int) : Option (Int × Bool) :=
 Option.bind (Qhc p1) fun r4 =>
 if (!r4) = true then
  some (0, false)
 else
  Option.bind (Qn7 p1 p2) fun r7 =>
  if (!r7) = true then
   some (0, false)
  else
   Option.bind (Qds p3 0 (w64 ((p2.Trace.length : Int) - 1))) fun r10 =>
   if (!r10) = true then
    some (0, false)
   else
    Option.bind (Qkt p2 p3) fun r13 =>
    some (r13, true)
theorem Qxk {p1 : Qag} {p2 : Qbx} {p3 : Int} {r : (Int × Bool)} (h : Qk5 p1 p2 p3 = some r) : Qa4 Tryz.prog 17 [(AV.agg ((r39 p1))), (AV.agg ((r46 p2))), (I p3)] (AV.tup [(I r.1), (B r.2)]) := by
 refine gM Tryz.func17 29 Xmk fun E hP hn hx => ?_
 unfold Qk5 at h
 obtain ⟨r4, hr4, h⟩ := bnS h
 let Z0 := B true; let Z1 := B false; let Z2 := (p2.Trace.length : Int)
 let H1 : List Hn := [hW 0 1001, hW 1 1002, hh 5 (.callV [[]] (B r4))]
 let P2 : List Prop := [Qa4 Tryz.prog 62 [(AV.agg ((r39 p1)))] (B r4), Qa3 (B r4) = true]
 have AP2 : Qan P2 := ⟨(Qto hr4), rfl, trivial⟩
 rcases itS h with ⟨c5, h⟩ | ⟨c6, h⟩
 ·obtain rfl := sj h
  exact gR hP hn (H1 ++ [hO 7 Z0]) [] (.agg [.raw, .raw]) (P2 ++ [(B (!r4)) = Z0, (I 0) = (I 0), Qa3 (I 0) = true, Z1 = Z1, Qa3 Z1 = true]) (Qa6 AP2 ⟨(Qax c5), rfl, rfl, rfl, rfl, trivial⟩)
 ·obtain ⟨r7, hr7, h⟩ := bnS h
  let H3 : List Hn := H1 ++ [hO 7 Z1, hh 10 (.callV [[], []] (B r7))]
  let P4 : List Prop := P2 ++ [(B (!r4)) = Z1, Qa4 Tryz.prog 64 [(AV.agg ((r39 p1))), (AV.agg ((r46 p2)))] (B r7), Qa3 (B r7) = true]
  have AP4 : Qan P4 := Qa6 AP2 ⟨(Qax c6), (Xad hr7), rfl, trivial⟩
  rcases itS h with ⟨c8, h⟩ | ⟨c9, h⟩
  ·obtain rfl := sj h
   exact gR hP hn (H3 ++ [hO 13 Z0]) [] (.agg [.raw, .raw]) (P4 ++ [(B (!r7)) = Z0, (I 0) = (I 0), Qa3 (I 0) = true, Z1 = Z1, Qa3 Z1 = true]) (Qa6 AP4 ⟨(Qax c8), rfl, rfl, rfl, rfl, trivial⟩)
  ·obtain ⟨r10, hr10, h⟩ := bnS h
   let H5 : List Hn := H3 ++ [hO 13 Z1, hO 17 (I Z2), hh 19 (.callV [] (B r10))]
   let P6 : List Prop := P4 ++ [(B (!r7)) = Z1, AV.lit (.int .i64 (((p2.Trace.map o60).length : Nat) : Int)) = (I Z2), Qa4 Tryz.prog 77 [(I p3), (I 0), (I (w64 (Z2 - 1)))] (B r10), Qa3 (B r10) = true]
   have AP6 : Qan P6 := Qa6 AP4 ⟨(Qax c9), (Qbw o60), (Qdm hr10), rfl, trivial⟩
   rcases itS h with ⟨c11, h⟩ | ⟨c12, h⟩
   ·obtain rfl := sj h
    exact gR hP hn (H5 ++ [hT 22]) [] (.agg [.raw, .raw]) (P6 ++ [(!r10) = true, (I 0) = (I 0), Qa3 (I 0) = true, Z1 = Z1, Qa3 Z1 = true]) (Qa6 AP6 ⟨c11, rfl, rfl, rfl, rfl, trivial⟩)
   ·obtain ⟨r13, hr13, h⟩ := bnS h
    obtain rfl := sj h
    exact gR hP hn (H5 ++ [hF 22, hh 25 (.callV [[]] (I r13))]) [] (.agg [.raw, .raw]) (P6 ++ [(!r10) = false, Qa4 Tryz.prog 78 [(AV.agg ((r46 p2))), (I p3)] (I r13), Qa3 (I r13) = true, (I r13) = (I r13), Qa3 (I r13) = true, Z0 = Z0, Qa3 Z0 = true]) (Qa6 AP6 ⟨c12, (Qve hr13), rfl, rfl, rfl, rfl, rfl, trivial⟩)
noncomputable def Xoa : Code := match Tryz.f4.body with | some c => c | none => .skip
noncomputable def Qed  (p1 : Qag) (p2 : Qbx) (r13 : Qag) (r14 : Qbx)  : Option Bool :=
 Option.bind (Qgz p1) fun r20 =>
 Option.bind (Qka (Qag.mk r13.Cells r13.Locks r13.Conds r13.Routines) (Qag.mk r20.Cells r20.Locks r20.Conds r20.Routines)) fun r21 =>
 if (!r21) = true then
  some false
 else
  Option.bind (Qi6 p2) fun r33 =>
  Option.bind (Ql6 (Qbx.mk r14.Code r14.Trace r14.Picks (Qa1.mk r14.End.Threads r14.End.Cells r14.End.Owner r14.End.Fault)) (Qbx.mk r33.Code r33.Trace r33.Picks (Qa1.mk r33.End.Threads r33.End.Cells r33.End.Owner r33.End.Fault))) fun r34 =>
  if (!r34) = true then
   some false
  else
   some true
theorem Qm3 {E : Env} (hP : E.pk = pk0 Tryz.prog) (hn : E.n = 62) (hx : FX E []) (p1 : Qag) (p2 : Qbx) (r13 : Qag) (r14 : Qbx)   (r : Bool) (h : Qed p1 p2 r13 r14  = some r) : WAt E Xoa (FQ (Qes Θ Tryz.f4.results.toList [] [] (B r) E)) [true, true, true, true, true, true, true, true, true, true, false, true, true] ⟨[(3, (AV.ptr 1 0 0)), (4, (AV.ptr 2 0 0)), (10, (AV.ptr 3 0 0)), (11, (AV.ptr 4 0 0))], [(1, some ⟨24, 4, [((r24 p1))]⟩), (2, some ⟨32, 7, [((r32 p2))]⟩), (3, some ⟨39, 4, [[(I r13.Cells), (I r13.Locks), (I r13.Conds), (AV.own 154 1 (r13.Routines.map Qs6))]]⟩), (4, some ⟨46, 7, [[(I r14.Code), (AV.own 60 5 (r14.Trace.map o60)), (AV.own 3 1 (r14.Picks.map o3)), (AV.own 70 6 (r14.End.Threads.map o70)), (AV.own 132 1 (r14.End.Cells.map Qae)), (AV.own 3 1 (r14.End.Owner.map o3)), (I r14.End.Fault)]]⟩)], [1, 2, 3, 4, JJ]⟩ := by
 unfold Qed at h
 obtain ⟨r20, hr20, h⟩ := bnS h
 obtain ⟨r21, hr21, h⟩ := bnS h
 let Z0 := I r13.Cells; let Z1 := I r13.Locks; let Z2 := I r13.Conds; let Z3 := r13.Routines.map Qs6; let Z4 := [Z0, Z1, Z2, (AV.own 154 1 Z3)]; let Z5 := AV.sl 1001 0 Z3.length; let Z6 := AV.agg (o39 r20); let Z7 := r13.Routines.map Qh7; let Z8 := r20.Routines.map Qh7; let Z9 := AV.agg [Z0, Z1, Z2, Z5]; let Z10 := r20.Routines.map Qs6; let Z11 := B false; let Z12 := I r14.Code; let Z13 := r14.Trace.map o60; let Z14 := r14.Picks.map o3; let Z15 := AV.own 3 1 Z14; let Z16 := r14.End.Threads.map o70; let Z17 := AV.own 70 6 Z16; let Z18 := r14.End.Cells.map Qae; let Z19 := AV.own 132 1 Z18; let Z20 := r14.End.Owner.map o3; let Z21 := AV.own 3 1 Z20; let Z22 := I r14.End.Fault; let Z23 := [Z12, (AV.own 60 5 Z13), Z15, Z17, Z19, Z21, Z22]; let Z24 := AV.sl 1003 0 Z13.length; let Z25 := [Z12, Z24, Z15, Z17, Z19, Z21, Z22]; let Z26 := AV.sl 1004 0 Z14.length; let Z27 := [Z12, Z24, Z26, Z17, Z19, Z21, Z22]; let Z28 := AV.sl 1005 0 Z16.length; let Z29 := [Z12, Z24, Z26, Z28, Z19, Z21, Z22]; let Z30 := AV.sl 1006 0 Z18.length; let Z31 := [Z12, Z24, Z26, Z28, Z30, Z21, Z22]; let Z32 := AV.sl 1007 0 Z20.length; let Z33 := [Z12, Z24, Z26, Z28, Z30, Z32, Z22]; let Z35 := r14.End.Threads.map r70
 let H1 : List Hn := [hh 0 (.unpack 3 1001 0 3 Z4 154 1 Z3 [[Z0, Z1, Z2, Z5]]), hh 2 (.call [[]] Z6 [1002]), hh 4 (.callV [[], Z7, [], Z8] (B r21))]
 let P2 : List Prop := [[Z4][0]? = some Z4, Z4[3]? = some (AV.own 154 1 Z3), 0 < 1, [Z4].set 0 (Z4.set 3 Z5) = [[Z0, Z1, Z2, Z5]], Qa4 Tryz.prog 12 [(AV.agg ((r24 p1)))] Z6, Qc5 Z6 = true, Z9 = Z9, Qa4 Tryz.prog 15 [(AV.agg [Z0, Z1, Z2, (AV.ro 1 Z7)]), (AV.agg [(I r20.Cells), (I r20.Locks), (I r20.Conds), (AV.ro 1 Z8)])] (B r21), Qa3 (B r21) = true, Frz ((Z3.drop 0).take Z3.length) Z7, Frz ((Z10.drop 0).take Z10.length) Z8]
 have AP2 : Qan P2 := ⟨rfl, rfl, (by decide), rfl, (Qlp hr20), (by simp +zetaDelta only [Qc5, Qbl, Qa8 Xm5, o39, Bool.and_self]), rfl, (Qxb hr21), rfl, (Qgt Xhz z154), (Qgt Xhz z154), trivial⟩
 rcases itS h with ⟨c22, h⟩ | ⟨c23, h⟩
 ·obtain rfl := sj h
  exact gR hP hn (H1 ++ [hT 6]) [] .raw (P2 ++ [(!r21) = true, Z11 = Z11, Qa3 Z11 = true]) (Qa6 AP2 ⟨c22, rfl, rfl, trivial⟩)
 ·obtain ⟨r33, hr33, h⟩ := bnS h
  obtain ⟨r34, hr34, h⟩ := bnS h
  let Z34 := AV.agg (o46 r33); let Z36 := r33.Trace.map o60; let Z37 := r33.Picks.map o3; let Z38 := r33.End.Threads.map r70; let Z39 := r33.End.Cells.map Qae; let Z40 := r33.End.Owner.map o3; let Z41 := r33.End.Threads.map o70
  let H3 : List Hn := H1 ++ [hF 6, hh 7 (.unpack 4 1003 0 1 Z23 60 5 Z13 [Z25]), hh 7 (.unpack 4 1004 0 2 Z25 3 1 Z14 [Z27]), hh 7 (.unpack 4 1005 0 3 Z27 70 6 Z16 [Z29]), hh 7 (.unpack 4 1006 0 4 Z29 132 1 Z18 [Z31]), hh 7 (.unpack 4 1007 0 5 Z31 3 1 Z20 [Z33]), hh 9 (.call [[]] Z34 [1008, 1009, 1010, 1011, 1012]), hh 11 (.callV [[], Z13, Z14, Z35, Z18, Z20, [], Z36, Z37, Z38, Z39, Z40] (B r34))]
  let P4 : List Prop := P2 ++ [(!r21) = false, [Z23][0]? = some Z23, Z23[1]? = some (AV.own 60 5 Z13), 0 < 5, [Z23].set 0 (Z23.set 1 Z24) = [Z25], [Z25][0]? = some Z25, Z25[2]? = some Z15, 0 < 1, [Z25].set 0 (Z25.set 2 Z26) = [Z27], [Z27][0]? = some Z27, Z27[3]? = some Z17, 0 < 6, [Z27].set 0 (Z27.set 3 Z28) = [Z29], [Z29][0]? = some Z29, Z29[4]? = some Z19, 0 < 1, [Z29].set 0 (Z29.set 4 Z30) = [Z31], [Z31][0]? = some Z31, Z31[5]? = some Z21, 0 < 1, [Z31].set 0 (Z31.set 5 Z32) = [Z33], Qa4 Tryz.prog 13 [(AV.agg ((r32 p2)))] Z34, Qc5 Z34 = true, (AV.agg Z33) = (AV.agg Z33), Qa4 Tryz.prog 16 [(AV.agg [Z12, (AV.ro 5 Z13), (AV.ro 1 Z14), (AV.ro 6 Z35), (AV.ro 1 Z18), (AV.ro 1 Z20), Z22]), (AV.agg [(I r33.Code), (AV.ro 5 Z36), (AV.ro 1 Z37), (AV.ro 6 Z38), (AV.ro 1 Z39), (AV.ro 1 Z40), (I r33.End.Fault)])] (B r34), Qa3 (B r34) = true, Frz ((Z13.drop 0).take Z13.length) Z13, Frz ((Z14.drop 0).take Z14.length) Z14, Frz ((Z16.drop 0).take Z16.length) Z35, Frz ((Z18.drop 0).take Z18.length) Z18, Frz ((Z20.drop 0).take Z20.length) Z20, Frz ((Z36.drop 0).take Z36.length) Z36, Frz ((Z37.drop 0).take Z37.length) Z37, Frz ((Z41.drop 0).take Z41.length) Z38, Frz ((Z39.drop 0).take Z39.length) Z39, Frz ((Z40.drop 0).take Z40.length) Z40]
  have AP4 : Qan P4 := Qa6 AP2 ⟨c23, rfl, rfl, (by decide), rfl, rfl, rfl, (by decide), rfl, rfl, rfl, (by decide), rfl, rfl, rfl, (by decide), rfl, rfl, rfl, (by decide), rfl, (Qmm hr33), (by simp +zetaDelta only [Qc5, Qbl, Qa8 n3, Qa8 n60, Qa8 n70, Qa8 Qer, o46, Bool.and_self]), rfl, (Qy8 hr34), rfl, (Qgt t60 z60), (Qgt t3 z3), (Qgt t70 z70), (Qgt Qc3 Qsj), (Qgt t3 z3), (Qgt t60 z60), (Qgt t3 z3), (Qgt t70 z70), (Qgt Qc3 Qsj), (Qgt t3 z3), trivial⟩
  rcases itS h with ⟨c35, h⟩ | ⟨c36, h⟩
  ·obtain rfl := sj h
   exact gR hP hn (H3 ++ [hT 13]) [] .raw (P4 ++ [(!r34) = true, Z11 = Z11, Qa3 Z11 = true]) (Qa6 AP4 ⟨c35, rfl, rfl, trivial⟩)
  ·obtain rfl := sj h
   exact gR hP hn (H3 ++ [hF 13]) [] .raw (P4 ++ [(!r34) = false, (B true) = (B true), Qa3 (B true) = true]) (Qa6 AP4 ⟨c36, rfl, rfl, trivial⟩)
noncomputable def Qee (p1 : Qag) (p2 : Qbx) (p3 : Int) : Option Bool :=
 Option.bind (Qjv p1 1048576) fun r4 =>
 if (decide (r4 < 0)) = true then
  some true
 else
  Option.bind (Ql3 p2 r4) fun r7 =>
  if (decide (r7 < 0)) = true then
   some true
  else
   Option.bind (Qgz p1) fun r10 =>
   Option.bind (Qi6 p2) fun r11 =>
   Option.bind (Qk5 (Qag.mk r10.Cells r10.Locks r10.Conds r10.Routines) (Qbx.mk r11.Code r11.Trace r11.Picks (Qa1.mk r11.End.Threads r11.End.Cells r11.End.Owner r11.End.Fault)) p3) fun r12 =>
   Option.bind (Qgz p1) fun r13 =>
   Option.bind (Qi6 p2) fun r14 =>
   Option.bind (Qjr (Qag.mk r13.Cells r13.Locks r13.Conds r13.Routines) (Qbx.mk r14.Code r14.Trace r14.Picks (Qa1.mk r14.End.Threads r14.End.Cells r14.End.Owner r14.End.Fault)) p3) fun r15 =>
   if (r15.1 != r12.1) = true then
    some false
   else
    if (!(r15.2 == r12.2)) = true then
     some false
    else
     Qed p1 p2 r13 r14
theorem Qnr {p1 : Qag} {p2 : Qbx} {p3 : Int} {r : Bool} (h : Qee p1 p2 p3 = some r) : Qa4 Tryz.prog 4 [(AV.agg ((r24 p1))), (AV.agg ((r32 p2))), (I p3)] (B r) := by
 refine gM Tryz.func4 62 Xoa fun E hP hn hx => ?_
 unfold Qee at h
 obtain ⟨r4, hr4, h⟩ := bnS h
 let Z0 := B true; let Z1 := AV.agg ((r32 p2)); let Z20 := [(AV.agg ((r24 p1)))]; let Z31 := B false
 let H1 : List Hn := [hW 0 1001, hW 1 1002, hh 6 (.callV [[]] (I r4))]
 let P2 : List Prop := [Qa4 Tryz.prog 9 [(AV.agg ((r24 p1))), (I 1048576)] (I r4), Qa3 (I r4) = true]
 have AP2 : Qan P2 := ⟨(Qwi hr4), rfl, trivial⟩
 rcases itS h with ⟨c5, h⟩ | ⟨c6, h⟩
 ·obtain rfl := sj h
  exact gR hP hn (H1 ++ [hT 10]) [] .raw (P2 ++ [(decide (r4 < 0)) = true, Z0 = Z0, Qa3 Z0 = true]) (Qa6 AP2 ⟨c5, rfl, rfl, trivial⟩)
 ·obtain ⟨r7, hr7, h⟩ := bnS h
  let H3 : List Hn := H1 ++ [hF 10, hh 13 (.callV [[]] (I r7))]
  let P4 : List Prop := P2 ++ [(decide (r4 < 0)) = false, Qa4 Tryz.prog 10 [Z1, (I r4)] (I r7), Qa3 (I r7) = true]
  have AP4 : Qan P4 := Qa6 AP2 ⟨c6, (Qzi hr7), rfl, trivial⟩
  rcases itS h with ⟨c8, h⟩ | ⟨c9, h⟩
  ·obtain rfl := sj h
   exact gR hP hn (H3 ++ [hT 17]) [] .raw (P4 ++ [(decide (r7 < 0)) = true, Z0 = Z0, Qa3 Z0 = true]) (Qa6 AP4 ⟨c8, rfl, rfl, trivial⟩)
  ·obtain ⟨r10, hr10, h⟩ := bnS h
   obtain ⟨r11, hr11, h⟩ := bnS h
   obtain ⟨r12, hr12, h⟩ := bnS h
   obtain ⟨r13, hr13, h⟩ := bnS h
   obtain ⟨r14, hr14, h⟩ := bnS h
   obtain ⟨r15, hr15, h⟩ := bnS h
   let Z2 := AV.agg (o39 r10); let Z3 := AV.agg (o46 r11); let Z4 := r10.Routines.map Qh7; let Z5 := r11.Trace.map o60; let Z6 := r11.Picks.map o3; let Z7 := r11.End.Threads.map r70; let Z8 := r11.End.Cells.map Qae; let Z9 := r11.End.Owner.map o3; let Z10 := AV.tup [(I r12.1), (B r12.2)]; let Z11 := AV.agg (o39 r13); let Z12 := AV.agg (o46 r14); let Z13 := r13.Routines.map Qh7; let Z14 := r14.Trace.map o60; let Z15 := r14.Picks.map o3; let Z16 := r14.End.Threads.map r70; let Z17 := r14.End.Cells.map Qae; let Z18 := r14.End.Owner.map o3; let Z19 := AV.tup [(I r15.1), (B r15.2)]; let Z21 := r10.Routines.map Qs6; let Z22 := r11.End.Threads.map o70; let Z23 := I r13.Cells; let Z24 := I r13.Locks; let Z25 := I r13.Conds; let Z26 := I r14.Code; let Z27 := I r14.End.Fault; let Z28 := r13.Routines.map Qs6; let Z29 := r14.End.Threads.map o70; let Z30 := B (r15.1 != r12.1); let Z32 := AV.sl 1009 0 Z28.length; let Z33 := [Z23, Z24, Z25, Z32]; let Z34 := [[Z23, Z24, Z25, (AV.own 154 1 Z28)]]; let Z35 := AV.sl 1011 0 Z14.length; let Z36 := AV.sl 1012 0 Z15.length; let Z37 := AV.sl 1013 0 Z29.length; let Z38 := AV.sl 1014 0 Z17.length; let Z39 := AV.sl 1015 0 Z18.length; let Z40 := [Z26, Z35, Z36, Z37, Z38, Z39, Z27]; let Z41 := AV.own 60 5 Z14; let Z42 := [Z26, Z41, Z36, Z37, Z38, Z39, Z27]; let Z43 := AV.own 3 1 Z15; let Z44 := [Z26, Z41, Z43, Z37, Z38, Z39, Z27]; let Z45 := AV.own 70 6 Z29; let Z46 := [Z26, Z41, Z43, Z45, Z38, Z39, Z27]; let Z47 := AV.own 132 1 Z17; let Z48 := [Z26, Z41, Z43, Z45, Z47, Z39, Z27]; let Z49 := [[Z26, Z41, Z43, Z45, Z47, (AV.own 3 1 Z18), Z27]]
   let H5 : List Hn := H3 ++ [hF 17, hh 19 (.call [[]] Z2 [1003]), hh 21 (.call [[]] Z3 [1004, 1005, 1006, 1007, 1008]), hh 23 (.callV [[], Z4, [], Z5, Z6, Z7, Z8, Z9] Z10), hh 33 (.call [[]] Z11 [1009]), hW 34 1010, hh 37 (.call [[]] Z12 [1011, 1012, 1013, 1014, 1015]), hW 38 1016, hh 43 (.callV [[], Z13, [], Z14, Z15, Z16, Z17, Z18] Z19)]
   let P6 : List Prop := P4 ++ [(decide (r7 < 0)) = false, Qa4 Tryz.prog 12 Z20 Z2, Qc5 Z2 = true, Qa4 Tryz.prog 13 [Z1] Z3, Qc5 Z3 = true, Qa4 Tryz.prog 17 [(AV.agg [(I r10.Cells), (I r10.Locks), (I r10.Conds), (AV.ro 1 Z4)]), (AV.agg [(I r11.Code), (AV.ro 5 Z5), (AV.ro 1 Z6), (AV.ro 6 Z7), (AV.ro 1 Z8), (AV.ro 1 Z9), (I r11.End.Fault)]), (I p3)] Z10, Qa3 Z10 = true, Frz ((Z21.drop 0).take Z21.length) Z4, Frz ((Z5.drop 0).take Z5.length) Z5, Frz ((Z6.drop 0).take Z6.length) Z6, Frz ((Z22.drop 0).take Z22.length) Z7, Frz ((Z8.drop 0).take Z8.length) Z8, Frz ((Z9.drop 0).take Z9.length) Z9, Z1 = Z1, (I p3) = (I p3), (I p3) = (I p3), Qa4 Tryz.prog 12 Z20 Z11, Qc5 Z11 = true, Qa4 Tryz.prog 13 [Z1] Z12, Qc5 Z12 = true, Qa4 Tryz.prog 18 [(AV.agg [Z23, Z24, Z25, (AV.ro 1 Z13)]), (AV.agg [Z26, (AV.ro 5 Z14), (AV.ro 1 Z15), (AV.ro 6 Z16), (AV.ro 1 Z17), (AV.ro 1 Z18), Z27]), (I p3)] Z19, Qa3 Z19 = true, Frz ((Z28.drop 0).take Z28.length) Z13, Frz ((Z14.drop 0).take Z14.length) Z14, Frz ((Z15.drop 0).take Z15.length) Z15, Frz ((Z29.drop 0).take Z29.length) Z16, Frz ((Z17.drop 0).take Z17.length) Z17, Frz ((Z18.drop 0).take Z18.length) Z18]
   have AP6 : Qan P6 := Qa6 AP4 ⟨c9, (Qlp hr10), (by simp +zetaDelta only [Qc5, Qbl, Qa8 Xm5, o39, Bool.and_self]), (Qmm hr11), (by simp +zetaDelta only [Qc5, Qbl, Qa8 n3, Qa8 n60, Qa8 n70, Qa8 Qer, o46, Bool.and_self]), (Qxk hr12), rfl, (Qgt Xhz z154), (Qgt t60 z60), (Qgt t3 z3), (Qgt t70 z70), (Qgt Qc3 Qsj), (Qgt t3 z3), rfl, rfl, rfl, (Qlp hr13), (by simp +zetaDelta only [Qc5, Qbl, Qa8 Xm5, o39, Bool.and_self]), (Qmm hr14), (by simp +zetaDelta only [Qc5, Qbl, Qa8 n3, Qa8 n60, Qa8 n70, Qa8 Qer, o46, Bool.and_self]), (Qxu hr15), rfl, (Qgt Xhz z154), (Qgt t60 z60), (Qgt t3 z3), (Qgt t70 z70), (Qgt Qc3 Qsj), (Qgt t3 z3), trivial⟩
   rcases itS h with ⟨c16, h⟩ | ⟨c17, h⟩
   ·obtain rfl := sj h
    exact gR hP hn (H5 ++ [hO 52 Z0]) [] .raw (P6 ++ [Z30 = Z0, Z31 = Z31, Qa3 Z31 = true]) (Qa6 AP6 ⟨(Qax c16), rfl, rfl, trivial⟩)
   ·rcases itS h with ⟨c18, h⟩ | ⟨c19, h⟩
    ·obtain rfl := sj h
     exact gR hP hn (H5 ++ [hO 52 Z31, hT 57]) [] .raw (P6 ++ [Z30 = Z31, (!(r15.2 == r12.2)) = true, Z31 = Z31, Qa3 Z31 = true]) (Qa6 AP6 ⟨(Qax c17), c18, rfl, rfl, trivial⟩)
    ·exact gT hP hn hx (H5 ++ [hO 52 Z31, hF 57, hh 58 (.pack 1010 1009 0 3 Z33 Z34), hh 58 (.pack 1016 1011 0 1 Z40 [Z42]), hh 58 (.pack 1016 1012 0 2 Z42 [Z44]), hh 58 (.pack 1016 1013 0 3 Z44 [Z46]), hh 58 (.pack 1016 1014 0 4 Z46 [Z48]), hh 58 (.pack 1016 1015 0 5 Z48 Z49)]) [(1001, 1), (1002, 2), (1010, 3), (1016, 4)] [3, 4, 10, 11] [] (P6 ++ [Z30 = Z31, (!(r15.2 == r12.2)) = false, [Z33][0]? = some Z33, Z33[3]? = some Z32, Qa2 Z28 = true, [Z33].set 0 (Z33.set 3 (AV.own 154 1 Z28)) = Z34, [Z40][0]? = some Z40, Z40[1]? = some Z35, Qa2 Z14 = true, [Z40].set 0 (Z40.set 1 Z41) = [Z42], [Z42][0]? = some Z42, Z42[2]? = some Z36, Qa2 Z15 = true, [Z42].set 0 (Z42.set 2 Z43) = [Z44], [Z44][0]? = some Z44, Z44[3]? = some Z37, Qa2 Z29 = true, [Z44].set 0 (Z44.set 3 Z45) = [Z46], [Z46][0]? = some Z46, Z46[4]? = some Z38, Qa2 Z17 = true, [Z46].set 0 (Z46.set 4 Z47) = [Z48], [Z48][0]? = some Z48, Z48[5]? = some Z39, Qa2 Z18 = true, [Z48].set 0 (Z48.set 5 (AV.own 3 1 Z18)) = Z49, Qac [(1001, 1), (1002, 2), (1010, 3), (1016, 4)] [((r24 p1))], Qac [(1001, 1), (1002, 2), (1010, 3), (1016, 4)] [((r32 p2))], Qac [(1001, 1), (1002, 2), (1010, 3), (1016, 4)] Z34, Qac [(1001, 1), (1002, 2), (1010, 3), (1016, 4)] Z49]) (Qa6 AP6 ⟨(Qax c17), c19, rfl, rfl, (Qah Xhz), rfl, rfl, rfl, (Qah t60), rfl, rfl, rfl, (Qah t3), rfl, rfl, rfl, (Qah t70), rfl, rfl, rfl, (Qah Qc3), rfl, rfl, rfl, (Qah t3), rfl, (rok (Qb2 t24 p1)), (rok (Qb2 t32 p2)), (rok (Qb2 t39 (Qag.mk r13.Cells r13.Locks r13.Conds r13.Routines))), (rok (Qb2 t46 (Qbx.mk r14.Code r14.Trace r14.Picks (Qa1.mk r14.End.Threads r14.End.Cells r14.End.Owner r14.End.Fault)))), trivial⟩) (Qm3 hP hn hx p1 p2 r13 r14  _ h)
end Go.Proofs.YtemmdkcpcjidmaaGreat
