/- Functions as plain data, and that the code comes to them; no condition. -/

import Derived.Test.YtjcaompblpglcaaGT
import Derived.Test.YtjcaompblpglcaaBN
import Derived.Ground.SlgmProg
import Derived.Test.YtjcaompblpglcaaSC
import Derived.Ground.SlsfProg
set_option linter.unusedVariables false
set_option maxRecDepth 100000
namespace Go.Proofs.Ytjcaompblpglcaa
open Go Go.T
noncomputable def Xdh : Code := match Try.f23.body with | some c => c | none => .skip
noncomputable def Qb0 (p1 : Qa0) : Option Int :=
 if (p1.Kind == 4) = true then
  some p1.Obj
 else
  if (p1.Kind == 9) = true then
   some p1.Lock
  else
   some (-1)
theorem Qcp {p1 : Qa0} {r : Int} (h : Qb0 p1 = some r) : Qaa Try.prog 23 [(AV.agg ((o39 p1)))] (I r) := by
 refine gM Try.func23 13 Xdh fun E hP hn hx => ?_
 unfold Qb0 at h
 let Z0 := p1.Kind == 4
 rcases itS h with ⟨c2, h⟩ | ⟨c3, h⟩
 ·obtain rfl := sj h
  exact gR hP hn [hW 0 1001, hT 6] [] .raw [Z0 = true, (I p1.Obj) = (I p1.Obj), Qap (I p1.Obj) = true] ⟨c2, rfl, rfl, trivial⟩
 ·rcases itS h with ⟨c4, h⟩ | ⟨c5, h⟩
  ·obtain rfl := sj h
   exact gR hP hn [hW 0 1001, hF 6, hT 9] [] .raw [Z0 = false, (p1.Kind == 9) = true, (I p1.Lock) = (I p1.Lock), Qap (I p1.Lock) = true] ⟨c3, c4, rfl, rfl, trivial⟩
  ·obtain rfl := sj h
   exact gR hP hn [hW 0 1001, hF 6, hF 9] [] .raw [Z0 = false, (p1.Kind == 9) = false, (I (-1)) = (I (-1)), Qap (I (-1)) = true] ⟨c3, c5, rfl, rfl, trivial⟩
noncomputable def Xcy : Code := match Try.f48.body with | some c => c | none => .skip
noncomputable def Qg7 (p1 : Int) (p2 : Int) (p3 : Int) : Option Bool :=
 if (decide (p2 ≤ p1)) = true then
  some (decide (p1 ≤ p3))
 else
  some false
theorem Qgw {p1 : Int} {p2 : Int} {p3 : Int} {r : Bool} (h : Qg7 p1 p2 p3 = some r) : Qaa Try.prog 48 [(I p1), (I p2), (I p3)] (B r) := by
 refine gM Try.func48 15 Xcy fun E hP hn hx => ?_
 unfold Qg7 at h
 let Z0 := B (decide (p2 ≤ p1)); let Z1 := B (decide (p1 ≤ p3)); let Z2 := B false
 rcases itS h with ⟨c4, h⟩ | ⟨c5, h⟩
 ·obtain rfl := sj h
  exact gR hP hn [hO 4 (B true)] [] .raw [Z0 = (B true), Z1 = Z1, Qap Z1 = true] ⟨(Qd6 c4), rfl, rfl, trivial⟩
 ·obtain rfl := sj h
  exact gR hP hn [hO 4 Z2] [] .raw [Z0 = Z2, Z2 = Z2, Qap Z2 = true] ⟨(Qd6 c5), rfl, rfl, trivial⟩
noncomputable def Xa8 : Code := match Try.f37.body with | some c => c | none => .skip
noncomputable def Qd1  (p1 : Qa0)  : Option Bool :=
 if (decide (p1.Obj ≥ 0)) = true then
  if (decide (p1.Lock ≥ 0)) = true then
   some true
  else
   if (p1.Kind != 8) = true then
    some (p1.Kind != 9)
   else
    some false
 else
  Option.bind (Qg7 p1.Kind 2 10) fun r23 =>
  if (!r23) = true then
   if (decide (p1.Lock ≥ 0)) = true then
    some true
   else
    if (p1.Kind != 8) = true then
     some (p1.Kind != 9)
    else
     some false
  else
   some false
theorem Qhm {E : Env} (hP : E.P = Try.prog) (hn : E.n = 55) (hx : FX E []) (p1 : Qa0)   (r : Bool) (h : Qd1 p1  = some r) : WAt E Xa8 (FQ (Qe2 Θ Try.f37.results.toList [] [] (B r) E)) [true, false, true, true] ⟨[(1, (AV.ptr 1 0 0))], [(1, some ⟨39, 5, [((o39 p1))]⟩)], [1, JJ]⟩ := by
 unfold Qd1 at h
 let Z0 := B true; let Z1 := B (decide (p1.Obj ≥ 0)); let Z2 := B (decide (p1.Lock ≥ 0)); let Z3 := B false; let Z4 := B (p1.Kind != 8); let Z5 := B (p1.Kind != 9)
 rcases itS h with ⟨c17, h⟩ | ⟨c22, h⟩
 ·rcases itS h with ⟨c18, h⟩ | ⟨c19, h⟩
  ·obtain rfl := sj h
   exact gR hP hn [hO 3 Z0, hO 13 Z0] [] .raw [Z1 = Z0, Z2 = Z0, Z0 = Z0, Qap Z0 = true] ⟨(Qd6 c17), (Qd6 c18), rfl, rfl, trivial⟩
  ·rcases itS h with ⟨c20, h⟩ | ⟨c21, h⟩
   ·obtain rfl := sj h
    exact gR hP hn [hO 3 Z0, hO 13 Z3, hO 17 Z0] [] .raw [Z1 = Z0, Z2 = Z3, Z4 = Z0, Z5 = Z5, Qap Z5 = true] ⟨(Qd6 c17), (Qd6 c19), (Qd6 c20), rfl, rfl, trivial⟩
   ·obtain rfl := sj h
    exact gR hP hn [hO 3 Z0, hO 13 Z3, hO 17 Z3] [] .raw [Z1 = Z0, Z2 = Z3, Z4 = Z3, Z3 = Z3, Qap Z3 = true] ⟨(Qd6 c17), (Qd6 c19), (Qd6 c21), rfl, rfl, trivial⟩
 ·obtain ⟨r23, hr23, h⟩ := bnS h
  let Z6 := B (!r23)
  let H1 : List Hn := [hO 3 Z3, hh 6 (.callV [] (B r23))]
  let P2 : List Prop := [Z1 = Z3, Qaa Try.prog 48 [(I p1.Kind), (I 2), (I 10)] (B r23), Qap (B r23) = true]
  have AP2 : Qb5 P2 := ⟨(Qd6 c22), (Qgw hr23), rfl, trivial⟩
  rcases itS h with ⟨c24, h⟩ | ⟨c29, h⟩
  ·rcases itS h with ⟨c25, h⟩ | ⟨c26, h⟩
   ·obtain rfl := sj h
    exact gR hP hn (H1 ++ [hO 9 Z0, hO 13 Z0]) [] .raw (P2 ++ [Z6 = Z0, Z2 = Z0, Z0 = Z0, Qap Z0 = true]) (Qav AP2 ⟨(Qd6 c24), (Qd6 c25), rfl, rfl, trivial⟩)
   ·rcases itS h with ⟨c27, h⟩ | ⟨c28, h⟩
    ·obtain rfl := sj h
     exact gR hP hn (H1 ++ [hO 9 Z0, hO 13 Z3, hO 17 Z0]) [] .raw (P2 ++ [Z6 = Z0, Z2 = Z3, Z4 = Z0, Z5 = Z5, Qap Z5 = true]) (Qav AP2 ⟨(Qd6 c24), (Qd6 c26), (Qd6 c27), rfl, rfl, trivial⟩)
    ·obtain rfl := sj h
     exact gR hP hn (H1 ++ [hO 9 Z0, hO 13 Z3, hO 17 Z3]) [] .raw (P2 ++ [Z6 = Z0, Z2 = Z3, Z4 = Z3, Z3 = Z3, Qap Z3 = true]) (Qav AP2 ⟨(Qd6 c24), (Qd6 c26), (Qd6 c28), rfl, rfl, trivial⟩)
  ·obtain rfl := sj h
   exact gR hP hn (H1 ++ [hO 9 Z3]) [] .raw (P2 ++ [Z6 = Z3, Z3 = Z3, Qap Z3 = true]) (Qav AP2 ⟨(Qd6 c29), rfl, rfl, trivial⟩)
noncomputable def Qd5 (p1 : Qa0) : Option Bool :=
 Option.bind (Qg7 p1.Thread 0 4) fun r2 =>
 if (!r2) = true then
  some false
 else
  Option.bind (Qg7 p1.Kind 1 12) fun r5 =>
  if (!r5) = true then
   some false
  else
   Option.bind (Qg7 p1.Obj (-1) 99) fun r8 =>
   if (!r8) = true then
    some false
   else
    Option.bind (Qg7 p1.Lock (-1) 99) fun r11 =>
    if (!r11) = true then
     some false
    else
     Option.bind (Qg7 p1.Pc 0 99) fun r14 =>
     if (!r14) = true then
      some false
     else
      Qd1 p1
theorem Qjt {p1 : Qa0} {r : Bool} (h : Qd5 p1 = some r) : Qaa Try.prog 37 [(AV.agg ((o39 p1)))] (B r) := by
 refine gM Try.func37 55 Xa8 fun E hP hn hx => ?_
 unfold Qd5 at h
 obtain ⟨r2, hr2, h⟩ := bnS h
 let Z0 := B true; let Z1 := B false
 let H1 : List Hn := [hW 0 1001, hh 4 (.callV [] (B r2))]
 let P2 : List Prop := [Qaa Try.prog 48 [(I p1.Thread), (I 0), (I 4)] (B r2), Qap (B r2) = true]
 have AP2 : Qb5 P2 := ⟨(Qgw hr2), rfl, trivial⟩
 rcases itS h with ⟨c3, h⟩ | ⟨c4, h⟩
 ·obtain rfl := sj h
  exact gR hP hn (H1 ++ [hO 6 Z0]) [] .raw (P2 ++ [(B (!r2)) = Z0, Z1 = Z1, Qap Z1 = true]) (Qav AP2 ⟨(Qd6 c3), rfl, rfl, trivial⟩)
 ·obtain ⟨r5, hr5, h⟩ := bnS h
  let H3 : List Hn := H1 ++ [hO 6 Z1, hh 9 (.callV [] (B r5))]
  let P4 : List Prop := P2 ++ [(B (!r2)) = Z1, Qaa Try.prog 48 [(I p1.Kind), (I 1), (I 12)] (B r5), Qap (B r5) = true]
  have AP4 : Qb5 P4 := Qav AP2 ⟨(Qd6 c4), (Qgw hr5), rfl, trivial⟩
  rcases itS h with ⟨c6, h⟩ | ⟨c7, h⟩
  ·obtain rfl := sj h
   exact gR hP hn (H3 ++ [hO 12 Z0]) [] .raw (P4 ++ [(B (!r5)) = Z0, Z1 = Z1, Qap Z1 = true]) (Qav AP4 ⟨(Qd6 c6), rfl, rfl, trivial⟩)
  ·obtain ⟨r8, hr8, h⟩ := bnS h
   let H5 : List Hn := H3 ++ [hO 12 Z1, hh 15 (.callV [] (B r8))]
   let P6 : List Prop := P4 ++ [(B (!r5)) = Z1, Qaa Try.prog 48 [(I p1.Obj), (I (-1)), (I 99)] (B r8), Qap (B r8) = true]
   have AP6 : Qb5 P6 := Qav AP4 ⟨(Qd6 c7), (Qgw hr8), rfl, trivial⟩
   rcases itS h with ⟨c9, h⟩ | ⟨c10, h⟩
   ·obtain rfl := sj h
    exact gR hP hn (H5 ++ [hO 18 Z0]) [] .raw (P6 ++ [(B (!r8)) = Z0, Z1 = Z1, Qap Z1 = true]) (Qav AP6 ⟨(Qd6 c9), rfl, rfl, trivial⟩)
   ·obtain ⟨r11, hr11, h⟩ := bnS h
    let H7 : List Hn := H5 ++ [hO 18 Z1, hh 21 (.callV [] (B r11))]
    let P8 : List Prop := P6 ++ [(B (!r8)) = Z1, Qaa Try.prog 48 [(I p1.Lock), (I (-1)), (I 99)] (B r11), Qap (B r11) = true]
    have AP8 : Qb5 P8 := Qav AP6 ⟨(Qd6 c10), (Qgw hr11), rfl, trivial⟩
    rcases itS h with ⟨c12, h⟩ | ⟨c13, h⟩
    ·obtain rfl := sj h
     exact gR hP hn (H7 ++ [hO 24 Z0]) [] .raw (P8 ++ [(B (!r11)) = Z0, Z1 = Z1, Qap Z1 = true]) (Qav AP8 ⟨(Qd6 c12), rfl, rfl, trivial⟩)
    ·obtain ⟨r14, hr14, h⟩ := bnS h
     let P9 : List Prop := P8 ++ [(B (!r11)) = Z1, Qaa Try.prog 48 [(I p1.Pc), (I 0), (I 99)] (B r14), Qap (B r14) = true]
     have AP9 : Qb5 P9 := Qav AP8 ⟨(Qd6 c13), (Qgw hr14), rfl, trivial⟩
     rcases itS h with ⟨c15, h⟩ | ⟨c16, h⟩
     ·obtain rfl := sj h
      exact gR hP hn (H7 ++ [hO 24 Z1, hh 27 (.callV [] (B r14)), hT 30]) [] .raw (P9 ++ [(!r14) = true, Z1 = Z1, Qap Z1 = true]) (Qav AP9 ⟨c15, rfl, rfl, trivial⟩)
     ·exact gT hP hn hx (H7 ++ [hO 24 Z1, hh 27 (.callV [] (B r14)), hF 30]) [(1001, 1)] [1] [] (P9 ++ [(!r14) = false, Qa5 [(1001, 1)] [((o39 p1))]]) (Qav AP9 ⟨c16, (rok rfl), trivial⟩) (Qhm hP hn hx p1  _ h)
noncomputable def Xd9 : Code := match Try.f36.body with | some c => c | none => .skip
noncomputable def Qea (p1 : Qa0) : Option Bool :=
 Option.bind (Qd5 p1) fun r2 =>
 some (!r2)
theorem Qkv {p1 : Qa0} {r : Bool} (h : Qea p1 = some r) : Qaa Try.prog 36 [(AV.agg ((o39 p1)))] (B r) := by
 refine gM Try.func36 6 Xd9 fun E hP hn hx => ?_
 unfold Qea at h
 obtain ⟨r2, hr2, h⟩ := bnS h
 obtain rfl := sj h
 exact gR hP hn [hW 0 1001, hh 3 (.callV [[]] (B r2))] [] .raw [Qaa Try.prog 37 [(AV.agg ((o39 p1)))] (B r2), Qap (B r2) = true, (B (!r2)) = (B (!r2)), Qap (B (!r2)) = true] ⟨(Qjt hr2), rfl, rfl, rfl, trivial⟩
noncomputable def Xa4 : Code := match Try.f47.body with | some c => c | none => .skip
noncomputable def Qa3  (p1 : (List Qa0)) : Nat → Int → Option Int
 | 0, _ => none
 | n + 1, v2 =>
 if (decide (v2 < (p1.length : Int))) = true then
  Option.bind (rd p1 v2) fun x4 =>
  Option.bind (Qea x4) fun r5 =>
  if r5 = true then
   some v2
  else
   Qa3 p1 n (w64 (v2 + 1))
 else
  some (-1)
theorem Qc6 {E : Env} (hP : E.P = Try.prog) (hn : E.n = 19) (hx : FX E []) (p1 : (List Qa0))  : ∀ (n : Nat) (v2 : Int) (r : Int), Qa3 p1 n v2 = some r → WAt E Xa4 (FQ (Qe2 Θ Try.f47.results.toList [] [] (I r) E)) [true, false, true, false] ⟨[(0, (AV.ro 5 (p1.map o39))), (1, (AV.fn 36 [])), (7, (I (p1.length : Int))), (8, (I v2))], [], [JJ]⟩ := by
 intro n
 induction n with
 | zero => intro v2 r h; simp only [Qa3] at h; cases h
 | succ n ih =>
  intro v2 r h
  simp only [Qa3] at h
  let Z0 := (decide (v2 < (p1.length : Int)))
  rcases itS h with ⟨c3, h⟩ | ⟨c8, h⟩
  ·obtain ⟨x4, hx4, h⟩ := bnS h
   obtain ⟨r5, hr5, h⟩ := bnS h
   let P1 : List Prop := [Z0 = true, (0 : Int) ≤ v2, (p1.map o39)[v2.toNat]? = some (o39 x4), Qaa Try.prog 36 [(AV.agg ((o39 x4)))] (B r5), Qap (B r5) = true]
   have AP1 : Qb5 P1 := ⟨c3, (rd0 hx4), (rdM o39 hx4), (Qkv hr5), rfl, trivial⟩
   rcases itS h with ⟨c6, h⟩ | ⟨c7, h⟩
   ·obtain rfl := sj h
    exact gR hP hn [hT 1, hh 7 (.row (o39 x4)), hh 9 (.callV [[]] (B r5)), hT 10] [] .raw (P1 ++ [r5 = true, (I v2) = (I v2), Qap (I v2) = true]) (Qav AP1 ⟨c6, rfl, rfl, trivial⟩)
   ·exact gT hP hn hx [hT 1, hh 7 (.row (o39 x4)), hh 9 (.callV [[]] (B r5)), hF 10] [] [0, 1, 7, 8] [] (P1 ++ [r5 = false]) (Qav AP1 ⟨c7, trivial⟩) (ih (w64 (v2 + 1)) _ h)
  ·obtain rfl := sj h
   exact gR hP hn [hF 1] [] .raw [Z0 = false, (I (-1)) = (I (-1)), Qap (I (-1)) = true] ⟨c8, rfl, rfl, trivial⟩
noncomputable def Qak (p1 : (List Qa0)) : Option Int :=
 Qa3 p1 FU 0
theorem Qco {p1 : (List Qa0)} {r : Int} (h : Qak p1 = some r) : Qaa Try.prog 47 [(AV.ro 5 (p1.map o39)), (AV.fn 36 [])] (I r) := by
 refine gM Try.func47 19 Xa4 fun E hP hn hx => ?_
 unfold Qak at h
 exact (let Z0 := (I (p1.length : Int)); gT hP hn hx [hO 2 Z0] [] [0, 1, 7, 8] [] [AV.lit (.int .i64 (((p1.map o39).length : Nat) : Int)) = Z0] ⟨(Qej o39), trivial⟩ (Qc6 hP hn hx p1 FU 0 _ h))
noncomputable def Xe6 : Code := match Try.f35.body with | some c => c | none => .skip
noncomputable def Qaf (p1 : (List Qa0)) : Option Bool :=
 Option.bind (Qak p1) fun r2 =>
 some (decide (r2 ≥ 0))
theorem Qc4 {p1 : (List Qa0)} {r : Bool} (h : Qaf p1 = some r) : Qaa Try.prog 35 [(AV.ro 5 (p1.map o39)), (AV.fn 36 [])] (B r) := by
 refine gM Try.func35 9 Xe6 fun E hP hn hx => ?_
 unfold Qaf at h
 obtain ⟨r2, hr2, h⟩ := bnS h
 obtain rfl := sj h
 exact (let Z0 := B (decide (r2 ≥ 0)); gR hP hn [hh 3 (.callV [] (I r2))] [] .raw [Qaa Try.prog 47 [(AV.ro 5 (p1.map o39)), (AV.fn 36 [])] (I r2), Qap (I r2) = true, Z0 = Z0, Qap Z0 = true] ⟨(Qco hr2), rfl, rfl, rfl, trivial⟩)
noncomputable def Xd2 : Code := match Try.f21.body with | some c => c | none => .skip
noncomputable def Qe3 (p1 : (List Qa0)) : Option Bool :=
 if (decide ((p1.length : Int) ≤ 200)) = true then
  Option.bind (Qaf p1) fun r3 =>
  some (!r3)
 else
  some false
theorem Qhj {p1 : (List Qa0)} {r : Bool} (h : Qe3 p1 = some r) : Qaa Try.prog 21 [(AV.ro 5 (p1.map o39))] (B r) := by
 refine gM Try.func21 11 Xd2 fun E hP hn hx => ?_
 unfold Qe3 at h
 let Z0 := (I (p1.length : Int)); let Z1 := (((p1.map o39).length : Nat) : Int); let Z2 := (B (decide ((p1.length : Int) ≤ 200))); let Z3 := B false
 rcases itS h with ⟨c2, h⟩ | ⟨c4, h⟩
 ·obtain ⟨r3, hr3, h⟩ := bnS h
  obtain rfl := sj h
  exact gR hP hn [hO 2 Z0, hO 4 (B true), hh 6 (.callV [] (B r3))] [] .raw [AV.lit (.int .i64 Z1) = Z0, Z2 = (B true), Qaa Try.prog 35 [(AV.ro 5 (p1.map o39)), (AV.fn 36 [])] (B r3), Qap (B r3) = true, (B (!r3)) = (B (!r3)), Qap (B (!r3)) = true] ⟨(Qej o39), (Qd6 c2), (Qc4 hr3), rfl, rfl, rfl, trivial⟩
 ·obtain rfl := sj h
  exact gR hP hn [hO 2 Z0, hO 4 Z3] [] .raw [AV.lit (.int .i64 Z1) = Z0, Z2 = Z3, Z3 = Z3, Qap Z3 = true] ⟨(Qej o39), (Qd6 c4), rfl, rfl, trivial⟩
noncomputable def Xd3 : Code := match Try.f80.body with | some c => c | none => .skip
noncomputable def Qe0 (p1 : Int) : Option Bool :=
 some (p1 != p1)
theorem Qi7 {p1 : Int} {r : Bool} (h : Qe0 p1 = some r) : Qaa Try.prog 80 [(I p1)] (B r) := by
 refine gM Try.func80 6 Xd3 fun E hP hn hx => ?_
 unfold Qe0 at h
 obtain rfl := sj h
 exact (let Z0 := B (p1 != p1); gR hP hn [] [] .raw [Z0 = Z0, Qap Z0 = true] ⟨rfl, rfl, trivial⟩)
noncomputable def Xdc : Code := match Try.f60.body with | some c => c | none => .skip
noncomputable def Qdr (p1 : Int) (p2 : Int) : Option Int :=
 Option.bind (Qe0 p1) fun r3 =>
 Option.bind (Qe0 p2) fun r4 =>
 if r3 = true then
  if r4 = true then
   some 0
  else
   some (-1)
 else
  if r4 = true then
   some 1
  else
   if (decide (p1 < p2)) = true then
    some (-1)
   else
    if (decide (p1 > p2)) = true then
     some 1
    else
     some 0
theorem Qm0 {p1 : Int} {p2 : Int} {r : Int} (h : Qdr p1 p2 = some r) : Qaa Try.prog 60 [(I p1), (I p2)] (I r) := by
 refine gM Try.func60 20 Xdc fun E hP hn hx => ?_
 unfold Qdr at h
 obtain ⟨r3, hr3, h⟩ := bnS h
 obtain ⟨r4, hr4, h⟩ := bnS h
 let Z0 := I (-1); let Z1 := decide (p1 < p2)
 let H1 : List Hn := [hh 2 (.callV [] (B r3)), hh 5 (.callV [] (B r4))]
 let P2 : List Prop := [Qaa Try.prog 80 [(I p1)] (B r3), Qap (B r3) = true, Qaa Try.prog 80 [(I p2)] (B r4), Qap (B r4) = true]
 have AP2 : Qb5 P2 := ⟨(Qi7 hr3), rfl, (Qi7 hr4), rfl, trivial⟩
 rcases itS h with ⟨c5, h⟩ | ⟨c8, h⟩
 ·rcases itS h with ⟨c6, h⟩ | ⟨c7, h⟩
  ·obtain rfl := sj h
   exact gR hP hn (H1 ++ [hT 8, hT 10]) [] .raw (P2 ++ [r3 = true, r4 = true, (I 0) = (I 0), Qap (I 0) = true]) (Qav AP2 ⟨c5, c6, rfl, rfl, trivial⟩)
  ·obtain rfl := sj h
   exact gR hP hn (H1 ++ [hT 8, hF 10]) [] .raw (P2 ++ [r3 = true, r4 = false, Z0 = Z0, Qap Z0 = true]) (Qav AP2 ⟨c5, c7, rfl, rfl, trivial⟩)
 ·rcases itS h with ⟨c9, h⟩ | ⟨c10, h⟩
  ·obtain rfl := sj h
   exact gR hP hn (H1 ++ [hF 8, hT 10]) [] .raw (P2 ++ [r3 = false, r4 = true, (I 1) = (I 1), Qap (I 1) = true]) (Qav AP2 ⟨c8, c9, rfl, rfl, trivial⟩)
  ·rcases itS h with ⟨c11, h⟩ | ⟨c12, h⟩
   ·obtain rfl := sj h
    exact gR hP hn (H1 ++ [hF 8, hF 10, hT 14]) [] .raw (P2 ++ [r3 = false, r4 = false, Z1 = true, Z0 = Z0, Qap Z0 = true]) (Qav AP2 ⟨c8, c10, c11, rfl, rfl, trivial⟩)
   ·rcases itS h with ⟨c13, h⟩ | ⟨c14, h⟩
    ·obtain rfl := sj h
     exact gR hP hn (H1 ++ [hF 8, hF 10, hF 14, hT 18]) [] .raw (P2 ++ [r3 = false, r4 = false, Z1 = false, (decide (p1 > p2)) = true, (I 1) = (I 1), Qap (I 1) = true]) (Qav AP2 ⟨c8, c10, c12, c13, rfl, rfl, trivial⟩)
    ·obtain rfl := sj h
     exact gR hP hn (H1 ++ [hF 8, hF 10, hF 14, hF 18]) [] .raw (P2 ++ [r3 = false, r4 = false, Z1 = false, (decide (p1 > p2)) = false, (I 0) = (I 0), Qap (I 0) = true]) (Qav AP2 ⟨c8, c10, c12, c14, rfl, rfl, trivial⟩)
noncomputable def Xae : Code := match Try.f51.body with | some c => c | none => .skip
noncomputable def Qaw  (p1 : (List Int)) (p2 : (List Int)) : Nat → Int → Option Int
 | 0, _ => none
 | n + 1, v3 =>
 if (decide (v3 < (p1.length : Int))) = true then
  Option.bind (rd p1 v3) fun x5 =>
  if (decide (v3 ≥ (p2.length : Int))) = true then
   some 1
  else
   Option.bind (rd p2 v3) fun x8 =>
   Option.bind (Qdr x5 x8) fun r9 =>
   if (r9 != 0) = true then
    some r9
   else
    Qaw p1 p2 n (w64 (v3 + 1))
 else
  if (decide ((p1.length : Int) < (p2.length : Int))) = true then
   some (-1)
  else
   some 0
theorem Qfn {E : Env} (hP : E.P = Try.prog) (hn : E.n = 36) (hx : FX E []) (p1 : (List Int)) (p2 : (List Int))  : ∀ (n : Nat) (v3 : Int) (r : Int), Qaw p1 p2 n v3 = some r → WAt E Xae (FQ (Qe2 Θ Try.f51.results.toList [] [] (I r) E)) [true, false, true, false] ⟨[(0, (AV.ro 1 (p1.map o3))), (1, (AV.ro 1 (p2.map o3))), (9, (AV.ro 1 (p1.map o3))), (10, (I (p1.length : Int))), (11, (I v3))], [], [JJ]⟩ := by
 intro n
 induction n with
 | zero => intro v3 r h; simp only [Qaw] at h; cases h
 | succ n ih =>
  intro v3 r h
  simp only [Qaw] at h
  let Z0 := (p2.length : Int); let Z1 := (p1.length : Int); let Z2 := (((p2.map o3).length : Nat) : Int)
  rcases itS h with ⟨c4, h⟩ | ⟨c12, h⟩
  ·obtain ⟨x5, hx5, h⟩ := bnS h
   let H1 : List Hn := [hT 1, hh 3 (.row (o3 x5)), hO 9 (I Z0)]
   let P2 : List Prop := [(decide (v3 < Z1)) = true, (0 : Int) ≤ v3, (p1.map o3)[v3.toNat]? = some (o3 x5), AV.lit (.int .i64 Z2) = (I Z0)]
   have AP2 : Qb5 P2 := ⟨c4, (rd0 hx5), (rdM o3 hx5), (Qej o3), trivial⟩
   rcases itS h with ⟨c6, h⟩ | ⟨c7, h⟩
   ·obtain rfl := sj h
    exact gR hP hn (H1 ++ [hT 11]) [] .raw (P2 ++ [(decide (v3 ≥ Z0)) = true, (I 1) = (I 1), Qap (I 1) = true]) (Qav AP2 ⟨c6, rfl, rfl, trivial⟩)
   ·obtain ⟨x8, hx8, h⟩ := bnS h
    obtain ⟨r9, hr9, h⟩ := bnS h
    let P3 : List Prop := P2 ++ [(decide (v3 ≥ Z0)) = false, (0 : Int) ≤ v3, (p2.map o3)[v3.toNat]? = some (o3 x8), Qaa Try.prog 60 [(I x5), (I x8)] (I r9), Qap (I r9) = true]
    have AP3 : Qb5 P3 := Qav AP2 ⟨c7, (rd0 hx8), (rdM o3 hx8), (Qm0 hr9), rfl, trivial⟩
    rcases itS h with ⟨c10, h⟩ | ⟨c11, h⟩
    ·obtain rfl := sj h
     exact gR hP hn (H1 ++ [hF 11, hh 14 (.row (o3 x8)), hh 19 (.callV [] (I r9)), hT 23]) [] .raw (P3 ++ [(r9 != 0) = true, (I r9) = (I r9), Qap (I r9) = true]) (Qav AP3 ⟨c10, rfl, rfl, trivial⟩)
    ·exact gT hP hn hx (H1 ++ [hF 11, hh 14 (.row (o3 x8)), hh 19 (.callV [] (I r9)), hF 23]) [] [0, 1, 9, 10, 11] [] (P3 ++ [(r9 != 0) = false]) (Qav AP3 ⟨c11, trivial⟩) (ih (w64 (v3 + 1)) _ h)
  ·let P4 : List Prop := [(decide (v3 < Z1)) = false, AV.lit (.int .i64 (((p1.map o3).length : Nat) : Int)) = (I Z1), AV.lit (.int .i64 Z2) = (I Z0)]
   have AP4 : Qb5 P4 := ⟨c12, (Qej o3), (Qej o3), trivial⟩
   rcases itS h with ⟨c13, h⟩ | ⟨c14, h⟩
   ·obtain rfl := sj h
    exact gR hP hn [hF 1, hO 3 (I Z1), hO 5 (I Z0), hT 7] [] .raw (P4 ++ [(decide (Z1 < Z0)) = true, (I (-1)) = (I (-1)), Qap (I (-1)) = true]) (Qav AP4 ⟨c13, rfl, rfl, trivial⟩)
   ·obtain rfl := sj h
    exact gR hP hn [hF 1, hO 3 (I Z1), hO 5 (I Z0), hF 7] [] .raw (P4 ++ [(decide (Z1 < Z0)) = false, (I 0) = (I 0), Qap (I 0) = true]) (Qav AP4 ⟨c14, rfl, rfl, trivial⟩)
noncomputable def Qcb (p1 : (List Int)) (p2 : (List Int)) : Option Int :=
 Qaw p1 p2 FU 0
theorem Qgu {p1 : (List Int)} {p2 : (List Int)} {r : Int} (h : Qcb p1 p2 = some r) : Qaa Try.prog 51 [(AV.ro 1 (p1.map o3)), (AV.ro 1 (p2.map o3))] (I r) := by
 refine gM Try.func51 36 Xae fun E hP hn hx => ?_
 unfold Qcb at h
 exact (let Z0 := (I (p1.length : Int)); gT hP hn hx [hO 2 Z0] [] [0, 1, 9, 10, 11] [] [AV.lit (.int .i64 (((p1.map o3).length : Nat) : Int)) = Z0] ⟨(Qej o3), trivial⟩ (Qfn hP hn hx p1 p2 FU 0 _ h))
noncomputable def Xa6 : Code := match Try.f53.body with | some c => c | none => .skip
noncomputable def Qay  (p1 : (List Int)) (p2 : (List Int)) : Nat → Int → Option Bool
 | 0, _ => none
 | n + 1, v5 =>
 if (decide (v5 < (p1.length : Int))) = true then
  Option.bind (rd p1 v5) fun x7 =>
  Option.bind (rd p2 v5) fun x8 =>
  if (x7 != x8) = true then
   some false
  else
   Qay p1 p2 n (w64 (v5 + 1))
 else
  some true
theorem Qg9 {E : Env} (hP : E.P = Try.prog) (hn : E.n = 26) (hx : FX E []) (p1 : (List Int)) (p2 : (List Int))  : ∀ (n : Nat) (v5 : Int) (r : Bool), Qay p1 p2 n v5 = some r → WAt E Xa6 (FQ (Qe2 Θ Try.f53.results.toList [] [] (B r) E)) [true, true, false, true, false] ⟨[(0, (AV.ro 1 (p1.map o3))), (1, (AV.ro 1 (p2.map o3))), (12, (I (p1.length : Int))), (13, (I v5))], [], [JJ]⟩ := by
 intro n
 induction n with
 | zero => intro v5 r h; simp only [Qay] at h; cases h
 | succ n ih =>
  intro v5 r h
  simp only [Qay] at h
  let Z0 := (decide (v5 < (p1.length : Int)))
  rcases itS h with ⟨c6, h⟩ | ⟨c11, h⟩
  ·obtain ⟨x7, hx7, h⟩ := bnS h
   obtain ⟨x8, hx8, h⟩ := bnS h
   let P1 : List Prop := [Z0 = true, (0 : Int) ≤ v5, (p1.map o3)[v5.toNat]? = some (o3 x7), (0 : Int) ≤ v5, (p2.map o3)[v5.toNat]? = some (o3 x8)]
   have AP1 : Qb5 P1 := ⟨c6, (rd0 hx7), (rdM o3 hx7), (rd0 hx8), (rdM o3 hx8), trivial⟩
   rcases itS h with ⟨c9, h⟩ | ⟨c10, h⟩
   ·obtain rfl := sj h
    exact gR hP hn [hT 1, hh 6 (.row (o3 x7)), hh 10 (.row (o3 x8)), hT 13] [] .raw (P1 ++ [(x7 != x8) = true, (B false) = (B false), Qap (B false) = true]) (Qav AP1 ⟨c9, rfl, rfl, trivial⟩)
   ·exact gT hP hn hx [hT 1, hh 6 (.row (o3 x7)), hh 10 (.row (o3 x8)), hF 13] [] [0, 1, 12, 13] [] (P1 ++ [(x7 != x8) = false]) (Qav AP1 ⟨c10, trivial⟩) (ih (w64 (v5 + 1)) _ h)
  ·obtain rfl := sj h
   exact gR hP hn [hF 1] [] .raw [Z0 = false, (B true) = (B true), Qap (B true) = true] ⟨c11, rfl, rfl, trivial⟩
noncomputable def Qd0 (p1 : (List Int)) (p2 : (List Int)) : Option Bool :=
 if ((p1.length : Int) != (p2.length : Int)) = true then
  some false
 else
  Qay p1 p2 FU 0
theorem Qhk {p1 : (List Int)} {p2 : (List Int)} {r : Bool} (h : Qd0 p1 p2 = some r) : Qaa Try.prog 53 [(AV.ro 1 (p1.map o3)), (AV.ro 1 (p2.map o3))] (B r) := by
 refine gM Try.func53 26 Xa6 fun E hP hn hx => ?_
 unfold Qd0 at h
 let Z0 := (((p1.map o3).length : Nat) : Int); let Z1 := (I (p1.length : Int)); let Z2 := (I (p2.length : Int)); let Z3 := ((p1.length : Int) != (p2.length : Int))
 let P1 : List Prop := [AV.lit (.int .i64 Z0) = Z1, AV.lit (.int .i64 (((p2.map o3).length : Nat) : Int)) = Z2]
 have AP1 : Qb5 P1 := ⟨(Qej o3), (Qej o3), trivial⟩
 rcases itS h with ⟨c3, h⟩ | ⟨c4, h⟩
 ·obtain rfl := sj h
  exact gR hP hn [hO 2 Z1, hO 4 Z2, hT 6] [] .raw (P1 ++ [Z3 = true, (B false) = (B false), Qap (B false) = true]) (Qav AP1 ⟨c3, rfl, rfl, trivial⟩)
 ·exact gT hP hn hx [hO 2 Z1, hO 4 Z2, hF 6, hO 8 Z1] [] [0, 1, 12, 13] [] (P1 ++ [Z3 = false, AV.lit (.int .i64 Z0) = Z1]) (Qav AP1 ⟨c4, (Qej o3), trivial⟩) (Qg9 hP hn hx p1 p2 FU 0 _ h)
section
open Go.RowKit Go.Proofs Go.Shelf Go.Lib Go.Sort
shelf_lay_g SlLaysF.n6 Slsf 6 at Try 50 as Try.srtf50
set_option maxHeartbeats 8000000 in
set_option maxRecDepth 1000000 in
theorem Qr4 (enc : Nat → Value) (eqf : Nat → Nat → Bool) (fe : Nat) (cb : Array Value) (g off cap : Nat) (d0 d : Array Nat) (w0 w : World) (R : Row1 enc w0 g off d0) (hs : d.size = d0.size) (S : SW enc w0 g off d w)
    (eg : ∀ args w, (callFunc fe args).run Try.prog w = .ok (.enter fe args) w)
    (heq : ∀ (W : World) (dk : Array Nat), SW enc w0 g off dk W → dk.size = d0.size → ∀ x y, Calls Try.prog fe (#[enc x, enc y] ++ cb) W fun e w' => e = .returned (.bool (eqf x y)) ∧ ∃ q os', w' = grow (W.drewN q) os')
    (zr : Nat) (hz : enc zr = .slice none 0 0) (hsz : d.size < 4611686018427387904) (hcap : d.size ≤ cap) :
    Calls Try.prog 52 #[.slice (some ⟨g, off, none⟩) d.size cap, .func (.func fe) #[] cb] w fun e w' => e = .returned (.slice (some ⟨g, off, none⟩) (keptUpTo (kpE eqf d) d d.size).length cap) ∧ SW enc w0 g off (keptUpTo (kpE eqf d) d d.size ++ List.replicate (d.size - (keptUpTo (kpE eqf d) d d.size).length) zr).toArray w' := by
  have Qzo : Try.prog.follows .mixedOrders = true := Qzo
  have tS : Try.prog.underlying 35 = some (.slice 24) := Qag ty35
  have tI : Try.prog.underlying 3 = some (.int .i64) := Qag ty3
  have tB : Try.prog.underlying 4 = some .bool := Qag ty4
  have aE : ∀ w, (isAgg 24).run Try.prog w = .ok false w := fun w => by kernel_rfl
  have zE : ∀ w, (Go.sizeOf 24).run Try.prog w = .ok 1 w := fun w => by kernel_rfl
  have vE : ∀ w, (zeroValue 24).run Try.prog w = .ok (enc zr) w := fun w => by rw [hz]; kernel_rfl
  have aS : ∀ w, (isAgg 35).run Try.prog w = .ok false w := fun w => by kernel_rfl
  have zS : ∀ w, (Go.sizeOf 35).run Try.prog w = .ok 1 w := fun w => by kernel_rfl
  have aI : ∀ w, (isAgg 3).run Try.prog w = .ok false w := fun w => by kernel_rfl
  have zI : ∀ w, (Go.sizeOf 3).run Try.prog w = .ok 1 w := fun w => by kernel_rfl
  have uS := run_underlying tS
  have hcl0 := R.hO.cells
  simp only [Value.cells] at hcl0
  have hst := R.hO.store Try.prog
  have HC : Aside _ := heq
  have Hs : Aside (d.size = d0.size) := hs
  clear hs
  have S0 : Aside (SW enc w0 g off d w) := S
  have k0 : kpE eqf d 0 = true := rfl
  have same : ∀ W, SW enc w0 g off d W → (∀ j, j < d.size → kpE eqf d j = true) → (keptUpTo (kpE eqf d) d d.size).length = d.size ∧ SW enc w0 g off (keptUpTo (kpE eqf d) d d.size ++ List.replicate (d.size - (keptUpTo (kpE eqf d) d d.size).length) zr).toArray W := by
    intro W hW hall
    have e : keptUpTo (kpE eqf d) d d.size = d.toList := by rw [keptUpTo_all _ d _ hall, range_map_get]
    rw [e]
    refine ⟨by simp, ?_⟩
    simpa using hW
  have HS : Aside (∀ W, SW enc w0 g off d W → (∀ j, j < d.size → kpE eqf d j = true) → (keptUpTo (kpE eqf d) d d.size).length = d.size ∧ SW enc w0 g off (keptUpTo (kpE eqf d) d d.size ++ List.replicate (d.size - (keptUpTo (kpE eqf d) d d.size).length) zr).toArray W) := same
  clear same S heq
  by_cases h2 : (d.size : Int) < 2
  · go_enter Try.func52, Try.ntmps52
    go_wp2
    go_ret
    obtain ⟨e1, e2⟩ := HS.out w S0.out (fun j hj => by
      have : j = 0 ∨ j = 1 := by omega
      rcases this with rfl | rfl
      · exact k0
      · omega)
    exact ⟨by rw [e1]; rfl, e2⟩
  · go_enter Try.func52, Try.ntmps52
    go_wp2
    go_loopg [5] d.size (fun gg s5 wr => ∃ k : Nat, 1 ≤ k ∧ k ≤ d.size ∧ d.size - k ≤ gg ∧ s5 = .int .i64 k ∧ Aside (SW enc w0 g off d wr) ∧ Aside (∀ j, j < k → kpE eqf d j = true))
    case atStart => exact ⟨1, Nat.le_refl _, by omega, by omega, rfl, S0, fun j hj => by
      have : j = 0 := by omega
      subst this; exact k0⟩
    case round =>
      clear S0
      obtain ⟨k, hk1, hk, hgg, rfl, S1, A1⟩ := hrel
      by_cases hlt : k < d.size
      · obtain ⟨t, rfl⟩ : ∃ t, k = t + 1 := ⟨k - 1, by omega⟩
        have hqz : ((t + 1 : Nat) : Int) = (t : Int) + 1 := by omega
        rw [hqz]
        obtain ⟨iN, hiN⟩ : ∃ q, q = t + 1 := ⟨_, rfl⟩
        obtain ⟨jN, hjN⟩ : ∃ q, q = t := ⟨_, rfl⟩
        have ea : ((t : Int) + 1).toNat = iN := by omega
        have pa : (0 : Int) ≤ (t : Int) + 1 := by omega
        have ba : (t : Int) + 1 < (d.size : Int) := by omega
        have ra : IntKind.i64.wrap ((t : Int) + 1) = (t : Int) + 1 := by rw [IntKind.wrap_i64]; omega
        have ec : ((t : Int)).toNat = jN := by omega
        have pc : (0 : Int) ≤ (t : Int) := by omega
        have bc : (t : Int) < (d.size : Int) := by omega
        have rc : IntKind.i64.wrap ((t : Int)) = (t : Int) := by rw [IntKind.wrap_i64]; omega
        obtain ⟨x, hx⟩ : ∃ x, x = d[t + 1]! := ⟨_, rfl⟩
        obtain ⟨y, hy⟩ : ∃ x, x = d[t]! := ⟨_, rfl⟩
        have la := S1.out.cl R Hs.out (t + 1) (by omega)
        have lb := S1.out.cl R Hs.out t (by omega)
        rw [← hx, ← hiN] at la
        rw [← hy, ← hjN] at lb
        have hc := fun n os => HC.out (grow (wr.drewN n) os) d (S1.out.grown n os) Hs.out x y
        have kk1 : kpE eqf d (t + 1) = !(eqf x y) := by rw [hx, hy]; rfl
        cases hv : eqf x y with
        | true =>
          rw [hv] at kk1
          simp only [hv] at hc
          clear hx hy hiN hjN
          go_wp2_with fail
          go_quiet_grown (first | (go_at_fn fe; refine Calls.grown_of (hc _ _)))
          have S2 : Aside (SW enc w0 g off d (grow (wr.drewN nq) osq)) := S1.out.grown nq osq
          clear la lb hc S1
          generalize grow (wr.drewN nq) osq = w2 at S2 ⊢
          clear nq osq
          clear ea ec
          go_wp2
          go_loopg [5, 7] d.size (fun gg s5 s7 wr => ∃ (kk k2 : Nat) (dk : Array Nat), s5 = .int .i64 kk ∧ s7 = .int .i64 k2 ∧ 1 ≤ k2 ∧ t + 1 + k2 ≤ d.size ∧ d.size - (t + 1 + k2) ≤ gg ∧ Aside (SW enc w0 g off dk wr) ∧ Aside (KeptInv (kpE eqf d) d (t + 1 + k2) kk dk))
          case atStart => exact ⟨t + 1, 1, d, by go_num, rfl, Nat.le_refl _, by omega, by omega, S2, KeptInv.start A1.out kk1⟩
          case round =>
            clear S2
            obtain ⟨kk, k2, dk, rfl, rfl, h1, hle, hg2, S3, I2⟩ := hrel
            by_cases hlt2 : t + 1 + k2 < d.size
            · obtain ⟨r, rfl⟩ : ∃ r, k2 = r + 1 := ⟨k2 - 1, by omega⟩
              have hqz2 : ((r + 1 : Nat) : Int) = (r : Int) + 1 := by omega
              rw [hqz2]
              obtain ⟨pN, hpN⟩ : ∃ q, q = r + 1 := ⟨_, rfl⟩
              obtain ⟨qN, hqN⟩ : ∃ q, q = r := ⟨_, rfl⟩
              have ea2 : ((r : Int) + 1).toNat = pN := by omega
              have pa2 : (0 : Int) ≤ (r : Int) + 1 := by omega
              have ba2 : (r : Int) + 1 < ((d.size - (t + 1) : Nat) : Int) := by omega
              have ra2 : IntKind.i64.wrap ((r : Int) + 1) = (r : Int) + 1 := by rw [IntKind.wrap_i64]; omega
              have ec2 : ((r : Int)).toNat = qN := by omega
              have pc2 : (0 : Int) ≤ (r : Int) := by omega
              have bc2 : (r : Int) < ((d.size - (t + 1) : Nat) : Int) := by omega
              have rc2 : IntKind.i64.wrap ((r : Int)) = (r : Int) := by rw [IntKind.wrap_i64]; omega
              obtain ⟨u, hu⟩ : ∃ x, x = d[t + 1 + (r + 1)]! := ⟨_, rfl⟩
              obtain ⟨v, hv2⟩ : ∃ x, x = d[t + 1 + r]! := ⟨_, rfl⟩
              have hds := I2.out.size
              have hkk := I2.out.lt
              have la2 := S3.out.cl R (by rw [hds, Hs.out]) (t + 1 + (r + 1)) (by omega)
              have lb2 := S3.out.cl R (by rw [hds, Hs.out]) (t + 1 + r) (by omega)
              rw [I2.out.high _ (by omega), ← hu, ← hpN, ← Nat.add_assoc] at la2
              rw [I2.out.high _ (by omega), ← hv2, ← hqN, ← Nat.add_assoc] at lb2
              have hc2 := fun n os => HC.out (grow (wr.drewN n) os) dk (S3.out.grown n os) (by rw [hds, Hs.out]) u v
              have kk2 : kpE eqf d (t + 1 + (r + 1)) = !(eqf u v) := by rw [hu, hv2]; rfl
              have hds2 : Aside (dk.size = d.size) := hds
              have U2 : Aside (u = d[t + 1 + (r + 1)]!) := hu
              clear hds
              cases hvv : eqf u v with
              | true =>
                rw [hvv] at kk2
                simp only [hvv] at hc2
                clear hu hv2 hpN hqN
                go_wp2_with fail
                go_quiet_grown (first | (go_at_fn fe; refine Calls.grown_of (hc2 _ _)))
                have S4 : Aside (SW enc w0 g off dk (grow (wr.drewN nq) osq)) := S3.out.grown nq osq
                clear la2 lb2 hc2 S3
                generalize grow (wr.drewN nq) osq = w3 at S4 ⊢
                clear nq osq
                clear ea2 ec2
                go_wp2
                go_roundg (d.size - (t + 1 + (r + 2)))
                case measure => omega
                case rel => exact ⟨kk, r + 2, dk, rfl, by go_num, by omega, by omega, Nat.le_refl _, S4, I2.out.skip kk2⟩
              | false =>
                rw [hvv] at kk2
                simp only [hvv] at hc2
                have HP : Aside (pN = r + 1) := hpN
                clear hu hv2 hqN hpN
                go_wp2_with fail
                go_quiet_grown (first | (go_at_fn fe; refine Calls.grown_of (hc2 _ _)))
                have S4 : Aside (SW enc w0 g off dk (grow (wr.drewN nq) osq)) := S3.out.grown nq osq
                clear la2 lb2 hc2 S3
                generalize grow (wr.drewN nq) osq = w3 at S4 ⊢
                clear nq osq
                have lc := S4.out.c1 R (by rw [hds2.out, Hs.out]) (t + 1 + (r + 1)) (by have := hds2.out; omega)
                rw [I2.out.high _ (by omega), ← U2.out, ← HP.out, ← Nat.add_assoc] at lc
                have ld := S4.out.c1 R (by rw [hds2.out, Hs.out]) kk (by have := hds2.out; omega)
                have fd := S4.out.f1 R (by rw [hds2.out, Hs.out]) kk (by have := hds2.out; omega)
                generalize dk[kk]! = old at ld
                have kz : ((kk : Nat) : Int) < (d.size : Int) := by omega
                go_wp2
                go_roundg (d.size - (t + 1 + (r + 2)))
                case measure => omega
                case rel => exact ⟨kk + 1, r + 2, dk.setIfInBounds kk u, by go_num, by go_num, by omega, by omega, Nat.le_refl _, Go.T.SW.set S4.out R.hblk kk u (by have := hds2.out; omega), by have := I2.out.keep hlt2 kk2; rwa [← U2.out] at this⟩
            · have hend : t + 1 + k2 = d.size := by omega
              have hkk := I2.out.lt
              have hds2 : Aside (dk.size = d.size) := I2.out.size
              have hH2 := S3.out.holds R.hblk R.hH (by rw [hds2.out, Hs.out])
              have hcl : ∀ ty, (Builtin.clear_ #[35] ty #[.slice (some ⟨g, off + kk, none⟩) (d.size - kk) (cap - kk)]).run Try.prog wr = .ok (.tuple #[]) (wr.setCells g (off + kk) (List.replicate (d.size - kk) (enc zr))) :=
                fun ty => Lib.run_clear_slice wr _ _ ty _ tS vE (R.hO.cells zr) (R.hO zr) g (off + kk) _ _ (by omega) (fun j hj => by rw [show off + kk + j = off + (kk + j) by omega, (hH2 (kk + j) (by have := hds2.out; omega)).1]; rfl) (fun j hj => by rw [show off + kk + j = off + (kk + j) by omega]; exact (hH2 (kk + j) (by have := hds2.out; omega)).2)
              clear hH2
              have kz : ¬ ((k2 : Nat) : Int) < ((d.size - (t + 1) : Nat) : Int) := by omega
              go_wp2
              go_ret
              have hI := I2.out
              rw [hend] at hI
              refine ⟨by rw [hI.len]; rfl, ?_⟩
              have := Go.T.SW.sets S3.out R.hblk kk (List.replicate (d.size - kk) zr) (by rw [List.length_replicate]; have := hds2.out; omega)
              rw [List.map_replicate, hz] at this
              rw [hI.len, ← hI.done zr]
              exact this
        | false =>
          rw [hv] at kk1
          simp only [hv] at hc
          clear hx hy hiN hjN
          go_wp2_with fail
          go_quiet_grown (first | (go_at_fn fe; refine Calls.grown_of (hc _ _)))
          have S2 : Aside (SW enc w0 g off d (grow (wr.drewN nq) osq)) := S1.out.grown nq osq
          clear la lb hc S1
          generalize grow (wr.drewN nq) osq = w2 at S2 ⊢
          clear nq osq
          clear ea ec
          go_wp2
          go_roundg (d.size - (t + 2))
          case measure => omega
          case rel => exact ⟨t + 2, by omega, by omega, Nat.le_refl _, by go_num, S2, fun j hj => by
            by_cases e : j = t + 1
            · subst e; exact kk1
            · exact A1.out j (by omega)⟩
      · have : k = d.size := by omega
        subst this
        go_wp2
        go_ret
        obtain ⟨e1, e2⟩ := HS.out _ S1.out A1.out
        exact ⟨by rw [e1]; rfl, e2⟩
theorem Qrp (fv : Value) (A : Option Addr) (cap : Nat) (w : World) : Calls Try.prog 52 #[.slice A 0 cap, fv] w fun e w' => e = .returned (.slice A 0 cap) ∧ w' = w := by
 have tS : Try.prog.underlying 35 = some (.slice 24) := Qag ty35
 have tI : Try.prog.underlying 3 = some (.int .i64) := Qag ty3
 have uS := run_underlying tS
 go_enter Try.func52, Try.ntmps52
 go_wp2
 go_ret
 exact ⟨rfl, rfl⟩
theorem Qwn (x y : Int) : Qdr x y = some (if x < y then -1 else if x > y then 1 else 0) := by
 rw [Qdr, Qe0, Qe0]
 simp only [bne_self_eq_false, Option.bind_some, Bool.false_eq_true, if_false, decide_eq_true_eq]
 split
 ·rfl
 ·split <;> rfl
theorem Qz7 (a b : List Int) (ha : a.length < 1099511627776) : Qcb a b = some (Qim a b) := by
 have key : ∀ (n k : Nat), k ≤ a.length → a.length < n + k → (k ≤ b.length) → Qaw a b n k = some (Qim (a.drop k) (b.drop k)) := by
  intro n
  induction n with
  | zero => intro k h1 h2; omega
  | succ n ih =>
   intro k h1 h2 h3
   rw [Qaw]
   by_cases hk : k < a.length
   ·have e1 : decide ((k : Int) < (a.length : Int)) = true := by simp; omega
    simp only [e1, if_true, Qdm hk, Option.bind_some]
    by_cases hb : k < b.length
    ·have e2 : decide ((k : Int) ≥ (b.length : Int)) = false := by simp; omega
     simp only [e2, Bool.false_eq_true, if_false, Qdm hb, Option.bind_some, Qwn]
     rw [List.drop_eq_getElem_cons hk, List.drop_eq_getElem_cons hb, Qim]
     split
     ·simp
     ·split
      ·simp
      ·simp only [bne_self_eq_false, Bool.false_eq_true, if_false]
       rw [Qcx (by omega)]
       exact ih (k + 1) (by omega) (by omega) (by omega)
    ·have e2 : decide ((k : Int) ≥ (b.length : Int)) = true := by simp; omega
     simp only [e2, if_true]
     rw [List.drop_eq_getElem_cons hk, List.drop_of_length_le (show b.length ≤ k by omega), Qim]
   ·have e1 : decide ((k : Int) < (a.length : Int)) = false := by simp; omega
    simp only [e1, Bool.false_eq_true, if_false]
    rw [List.drop_of_length_le (show a.length ≤ k by omega)]
    by_cases hb : k < b.length
    ·have e2 : decide ((a.length : Int) < (b.length : Int)) = true := by simp; omega
     simp only [e2, if_true]
     rw [List.drop_eq_getElem_cons hb, Qim]
    ·have e2 : decide ((a.length : Int) < (b.length : Int)) = false := by simp; omega
     simp only [e2, Bool.false_eq_true, if_false]
     rw [List.drop_of_length_le (show b.length ≤ k by omega), Qim]
 have := key FU 0 (by omega) (Qdg (by omega)) (by omega)
 rw [Qcb]
 simpa using this
theorem Xb6 (a b : List Int) (ha : a.length < 1099511627776) : Qd0 a b = some (a == b) := by
 rw [Qd0]
 by_cases hl : a.length = b.length
 ·have e0 : ((a.length : Int) != (b.length : Int)) = false := by rw [hl]; simp
  simp only [e0, Bool.false_eq_true, if_false]
  have key : ∀ (n k : Nat), k ≤ a.length → a.length < n + k → Qay a b n k = some (a.drop k == b.drop k) := by
   intro n
   induction n with
   | zero => intro k h1 h2; omega
   | succ n ih =>
    intro k h1 h2
    rw [Qay]
    by_cases hk : k < a.length
    ·have e1 : decide ((k : Int) < (a.length : Int)) = true := by simp; omega
     have hb : k < b.length := by omega
     simp only [e1, if_true, Qdm hk, Qdm hb, Option.bind_some]
     rw [List.drop_eq_getElem_cons hk, List.drop_eq_getElem_cons hb]
     by_cases hx : a[k] = b[k]
     ·rw [hx]
      simp only [bne_self_eq_false, Bool.false_eq_true, if_false]
      rw [Qcx (by omega), ih (k + 1) (by omega) (by omega), List.cons_beq_cons, beq_self_eq_true, Bool.true_and]
     ·have e3 : (a[k] != b[k]) = true := by simp [hx]
      simp only [e3, if_true]
      have e4 : (a[k] :: a.drop (k + 1) == b[k] :: b.drop (k + 1)) = false := by
       rw [beq_eq_false_iff_ne]
       intro e
       injection e with e1 _
       exact hx e1
      rw [e4]
    ·have e1 : decide ((k : Int) < (a.length : Int)) = false := by simp; omega
     simp only [e1, Bool.false_eq_true, if_false]
     rw [List.drop_of_length_le (show a.length ≤ k by omega), List.drop_of_length_le (show b.length ≤ k by omega)]
     rfl
  have := key FU 0 (by omega) (Qdg (by omega))
  simpa using this
 ·have e0 : ((a.length : Int) != (b.length : Int)) = true := by simp; omega
  simp only [e0, if_true]
  have : (a == b) = false := by
   rw [beq_eq_false_iff_ne]
   intro e; exact hl (by rw [e])
  rw [this]
theorem Qwq {w : World} {S : Nat → Prop} {x y : AV} {u v : Value} (h1 : rep w S x u []) (h2 : rep w S y v []) : Qcy w S [x, y] [u, v] [] := by
 simp only [Qcy]
 exact ⟨u, _, [], [], rfl, rfl, h1, v, [], [], [], rfl, rfl, h2, rfl, rfl⟩
set_option maxHeartbeats 1000000 in
theorem Qu3 : Qrz Try.prog 39 := by
  refine ⟨fun A cap w => ?_, fun enc con g cap n w h1 hH hg h0 hn hcap hnil hlen hrep => ?_⟩
  · have sn := fun fv w => Qyt Try.srtf50 A cap fv w
    change ∀ fv w, Calls Try.prog 50 _ _ _ at sn
    go_enter Try.func39, Try.ntmps39
    go_wp2_with (first
      | (go_at_call 50; refine Calls.mono (sn _ _) ?_; rintro e w' ⟨rfl, rfl⟩)
      | (go_at_call 52; refine (Qrp _ A cap _).mono ?_; rintro e w' ⟨rfl, rfl⟩))
    go_ret
    exact ⟨rfl, rfl⟩
  · have egC : ∀ args w, (callFunc 51 args).run Try.prog w = .ok (.enter 51 args) w := enters_of Try.func51 rfl rfl
    have egE : ∀ args w, (callFunc 53 args).run Try.prog w = .ok (.enter 53 args) w := enters_of Try.func53 rfl rfl
    have hsz : (Array.range n).size = n := Array.size_range
    have cmp : CmpLays1 Try.prog 51 #[] enc (fun i j => Qim (con i) (con j)) g 0 n w := fun m os dk hs x y => by
      have := Qoc (Qgu (Qz7 (con x) (con y) (hlen x))) rfl (w := sortWorld enc w g 0 m dk os) (vals := [enc x, enc y]) (Qwq (hrep dk _ ⟨m, os, rfl⟩ hs x) (hrep dk _ ⟨m, os, rfl⟩ hs y))
      simpa using this
    have heq : ∀ (W : World) (dk : Array Nat), SW enc w g 0 dk W → dk.size = (Array.range n).size → ∀ x y, Calls Try.prog 53 (#[enc x, enc y] ++ #[]) W fun e w' => e = .returned (.bool (con x == con y)) ∧ ∃ q os', w' = grow (W.drewN q) os' := fun W dk hW hs x y => by
      have := Qoc (Qhk (Xb6 (con x) (con y) (hlen x))) rfl (w := W) (vals := [enc x, enc y]) (Qwq (hrep dk _ hW (by rw [hs, hsz]) x) (hrep dk _ hW (by rw [hs, hsz]) y))
      simpa using this
    have srt := Any.slices_SortFunc Try.srtf50 enc h1 (fun i j => Qim (con i) (con j)) (swoL con) 51 #[] g 0 cap (Array.range n) w egC (by rw [hsz]; exact cmp) hH hg (by rw [hsz]; exact hn)
    rw [hsz] at srt
    change Calls Try.prog 50 _ _ _ at srt
    have R : Row1 enc w g 0 (Array.range n) := ⟨h1, hH, hg⟩
    have cpt : ∀ (d : Array Nat) (m : Nat) (os : Array Obj), PermIn 0 n (Array.range n) d → SortedIn (ltOf fun i j => Qim (con i) (con j)) 0 n d → Calls Try.prog 52 #[.slice (some ⟨g, 0, none⟩) n cap, .func (.func 53) #[] #[]] (sortWorld enc w g 0 m d os) fun e w' => ∃ K : List Nat, e = .returned (.slice (some ⟨g, 0, none⟩) K.length cap) ∧ K.map con = sdL ((List.range n).map con) ∧ K.Nodup ∧ (∀ i ∈ K, i < n) ∧ SW enc w g 0 (K ++ List.replicate (n - K.length) n).toArray w' := by
      intro d m os hp hs
      obtain ⟨c1, c2, c3, c4⟩ := Qvp hp hs
      have := Qr4 enc (fun i j => con i == con j) 53 #[] g 0 cap (Array.range n) d w (sortWorld enc w g 0 m d os) R (by rw [c1, hsz]) ⟨m, os, rfl⟩ egE heq n hnil (by omega) (by omega)
      rw [c1] at this c2 c3 c4
      exact this.mono fun e w' h => ⟨_, h.1, c2, c3, c4, h.2⟩
    clear cmp heq hH hrep R
    have SRT : Aside _ := srt
    have CPT : Aside _ := cpt
    clear srt cpt
    go_enter Try.func39, Try.ntmps39
    go_wp2_with (first
      | (go_at_call 50; refine Calls.mono SRT.out ?_; rintro e w' ⟨rfl, d', m, os, hp, hs, rfl⟩)
      | (go_at_call 52; refine Calls.mono (CPT.out _ _ _ hp hs) ?_; rintro e w' ⟨K, rfl, c2, c3, c4, c5⟩))
    go_ret
    exact ⟨K, rfl, c2, c3, c4, c5⟩
end
noncomputable def Qid (p1 : (List (List Int))) : Option (List (List Int)) :=
 lstL p1
theorem Qs1 {p1 : (List (List Int))} {r : (List (List Int))} (h : Qid p1 = some r) : Qd3 Try.prog 39 [⟨24, 1, (p1.map o24)⟩] [(AV.sl 0 0 (List.length (p1.map o24)))] [false] [⟨24, 1, (p1.map o24)⟩] (AV.own 24 1 (r.map o24)) := by
 unfold Qid lstL at h
 split at h
 ·rename_i hb
  cases h
  exact Qsb (T := 24) (T2 := 3) (Go.Proofs.enters_of Try.func39 rfl rfl) Qu3 p1 hb.1 hb.2
 ·cases h
noncomputable def Xdq : Code := match Try.f58.body with | some c => c | none => .skip
noncomputable def Qdh (p1 : Qa0) : Option Int :=
 if (p1.Kind == 5) = true then
  some p1.Obj
 else
  if (p1.Kind == 8) = true then
   some p1.Lock
  else
   some (-1)
theorem Qg5 {p1 : Qa0} {r : Int} (h : Qdh p1 = some r) : Qaa Try.prog 58 [(AV.agg ((o39 p1)))] (I r) := by
 refine gM Try.func58 13 Xdq fun E hP hn hx => ?_
 unfold Qdh at h
 let Z0 := p1.Kind == 5
 rcases itS h with ⟨c2, h⟩ | ⟨c3, h⟩
 ·obtain rfl := sj h
  exact gR hP hn [hW 0 1001, hT 6] [] .raw [Z0 = true, (I p1.Obj) = (I p1.Obj), Qap (I p1.Obj) = true] ⟨c2, rfl, rfl, trivial⟩
 ·rcases itS h with ⟨c4, h⟩ | ⟨c5, h⟩
  ·obtain rfl := sj h
   exact gR hP hn [hW 0 1001, hF 6, hT 9] [] .raw [Z0 = false, (p1.Kind == 8) = true, (I p1.Lock) = (I p1.Lock), Qap (I p1.Lock) = true] ⟨c3, c4, rfl, rfl, trivial⟩
  ·obtain rfl := sj h
   exact gR hP hn [hW 0 1001, hF 6, hF 9] [] .raw [Z0 = false, (p1.Kind == 8) = false, (I (-1)) = (I (-1)), Qap (I (-1)) = true] ⟨c3, c5, rfl, rfl, trivial⟩
noncomputable def Qsv : Code := match Try.f49.body with | some c => c | none => .skip
noncomputable def Qeh (K0 : (Vector Bool 100) → Int → Option (List Int)) (p2 : Int) (l4 : (List Qa0)) (v6 : Int) (a14 : (Vector Bool 100)) (a15 : Qa0) : Option (List Int) :=
 Option.bind (Qdh a15) fun r16 =>
 if (decide (r16 ≥ 0)) = true then
  Option.bind (rdv a14 r16) fun x18 =>
  K0 (a14.setIfInBounds (Int.toNat r16) false) (w64 (v6 + 1))
 else
  K0 a14 (w64 (v6 + 1))
theorem Qix {E : Env} (hP : E.P = Try.prog) (hn : E.n = 54) (hx : FX E []) (p2 : Int) (l4 : (List Qa0)) (v6 : Int) {K0 : (Vector Bool 100) → Int → Option (List Int)} (hK0 : ∀ (a5 : (Vector Bool 100)) (v6 : Int) (r : (List Int)), K0 a5 v6 = some r → WAt E Qsv (FQ (Qe2 Θ Try.f49.results.toList [] [] (AV.own 3 1 (r.map o3)) E)) [true, true, false, true, false] ⟨[(1, (I p2)), (7, (AV.ptr 1 0 0)), (18, (AV.ro 5 (l4.map o39))), (19, (I (l4.length : Int))), (20, (I v6))], [(1, some ⟨74, 100, [((o74 a5))]⟩)], [1, JJ]⟩) (a14 : (Vector Bool 100)) (a15 : Qa0) (r : (List Int)) (h : Qeh K0 p2 l4 v6 a14 a15 = some r) : WAt E Qsv (FQ (Qe2 Θ Try.f49.results.toList [] [] (AV.own 3 1 (r.map o3)) E)) [true, true, false, true, false, false, true, true, false, false, true, true, true] ⟨[(1, (I p2)), (7, (AV.ptr 1 0 0)), (9, (AV.ptr 2 0 0)), (18, (AV.ro 5 (l4.map o39))), (19, (I (l4.length : Int))), (20, (I v6))], [(1, some ⟨74, 100, [((o74 a14))]⟩), (2, some ⟨39, 5, [((o39 a15))]⟩)], [1, 2, JJ]⟩ := by
 unfold Qeh at h
 obtain ⟨r16, hr16, h⟩ := bnS h
 let Z0 := o74 a14; let Z1 := a14.setIfInBounds r16.toNat false; let Z2 := [(AV.agg ((o39 a15)))]
 rcases itS h with ⟨c17, h⟩ | ⟨c19, h⟩
 ·obtain ⟨x18, hx18, h⟩ := bnS h
  exact gT hP hn hx [hh 1 (.callV [[]] (I r16)), hT 5, hh 8 (.sto Z0 [((o74 Z1))])] [(1, 1)] [1, 7, 18, 19, 20] [] [Qaa Try.prog 58 Z2 (I r16), Qap (I r16) = true, (decide (r16 ≥ 0)) = true, (0 : Int) ≤ r16, r16 < ((100 : Nat) : Int), [Z0][0]? = some Z0, [Z0].set 0 (wr Z0 r16.toNat [(B false)]) = [((o74 Z1))], [(B false)].length = 1, r16.toNat + [(B false)].length ≤ Z0.length, Qa5 [(1, 1)] [((o74 Z1))]] ⟨(Qg5 hr16), rfl, c17, (rv0 hx18), (rvL hx18), rfl, (Xd4 k4 _ (rvLt hx18)), rfl, (Xdz k4 hx18), (rok (Qis t74 Z1)), trivial⟩ (hK0 Z1 (w64 (v6 + 1)) _ h)
 ·exact gT hP hn hx [hh 1 (.callV [[]] (I r16)), hF 5] [(1, 1)] [1, 7, 18, 19, 20] [] [Qaa Try.prog 58 Z2 (I r16), Qap (I r16) = true, (decide (r16 ≥ 0)) = false, Qa5 [(1, 1)] [Z0]] ⟨(Qg5 hr16), rfl, c19, (rok (Qis t74 a14)), trivial⟩ (hK0 a14 (w64 (v6 + 1)) _ h)
noncomputable def Qd7  (a5 : (Vector Bool 100)) : Nat → (List Int) → Int → Option (List Int)
 | 0, _, _ => none
 | n + 1, a22, v23 =>
 if (decide (v23 < 100)) = true then
  Option.bind (rdv a5 v23) fun x25 =>
  if x25 = true then
   Option.bind (app a22 [v23]) fun l27 =>
   Qd7 a5 n l27 (w64 (v23 + 1))
  else
   Qd7 a5 n a22 (w64 (v23 + 1))
 else
  some a22
theorem Qp2 {E : Env} (hP : E.P = Try.prog) (hn : E.n = 54) (hx : FX E []) (a5 : (Vector Bool 100))  : ∀ (n : Nat) (a22 : (List Int)) (v23 : Int) (r : (List Int)), Qd7 a5 n a22 v23 = some r → WAt E Qsv (FQ (Qe2 Θ Try.f49.results.toList [] [] (AV.own 3 1 (r.map o3)) E)) [true, true, true, true, false, true, false] ⟨[(12, (AV.sl 1 0 (List.length (a22.map o3)))), (42, (AV.agg ((o74 a5)))), (43, (I v23))], [(1, some ⟨3, 1, (a22.map o3)⟩)], [1, JJ]⟩ := by
 intro n
 induction n with
 | zero => intro a22 v23 r h; simp only [Qd7] at h; cases h
 | succ n ih =>
  intro a22 v23 r h
  simp only [Qd7] at h
  let Z1 := a22.map o3; let Z2 := (([v23].map o3).drop 0).take ([v23].map o3).length
  rcases itS h with ⟨c24, h⟩ | ⟨c29, h⟩
  ·obtain ⟨x25, hx25, h⟩ := bnS h
   let P1 : List Prop := [(decide (v23 < 100)) = true, (0 : Int) ≤ v23, v23 < ((100 : Nat) : Int), ((o74 a5))[v23.toNat]? = some (B x25)]
   have AP1 : Qb5 P1 := ⟨c24, (rv0 hx25), (rvL hx25), (rvM k4 hx25), trivial⟩
   rcases itS h with ⟨c26, h⟩ | ⟨c28, h⟩
   ·obtain ⟨l27, hl27, h⟩ := bnS h
    exact (let Z0 := l27.map o3; gT hP hn hx [hT 1, hh 3 (.cel [] (B x25)), hT 7, hW 10 1001, hh 11 (.app 1002 Z0)] [(1002, 1)] [12, 42, 43] [42] (P1 ++ [x25 = true, Z1.take Z1.length ++ Z2 = Z0, Z2.all (fun r => r.all AV.plain) = true, Z0.length * 8 ≤ 140737488355328, Z0.length ≤ 140737488355328, Qa5 [(1002, 1)] Z0, Qov (AV.agg ((o74 a5))) = true]) (Qav AP1 ⟨c26, (Qp6 o3 hl27), (plD pa3), (Quf o3 hl27 (by decide)), (Qux o3 hl27), (rok (Qa6 t3)), (t74 a5), trivial⟩) (ih l27 (w64 (v23 + 1)) _ h))
   ·exact gT hP hn hx [hT 1, hh 3 (.cel [] (B x25)), hF 7] [(1, 1)] [12, 42, 43] [42] (P1 ++ [x25 = false, Qa5 [(1, 1)] Z1, Qov (AV.agg ((o74 a5))) = true]) (Qav AP1 ⟨c28, (rok (Qa6 t3)), (t74 a5), trivial⟩) (ih a22 (w64 (v23 + 1)) _ h)
  ·obtain rfl := sj h
   exact gR hP hn [hF 1] [] .own [(decide (v23 < 100)) = false, Qac (Z1.take Z1.length) = true, Z1.take Z1.length = Z1, Qaz Z1 = true] ⟨c29, (Qgc t3), Qgi, (Qbd n3), trivial⟩
noncomputable def Qc0  (p2 : Int) (l4 : (List Qa0)) : Nat → (Vector Bool 100) → Int → Option (List Int)
 | 0, _, _ => none
 | n + 1, a5, v6 =>
 if (decide (v6 < (l4.length : Int))) = true then
  Option.bind (rd l4 v6) fun x8 =>
  if (x8.Thread != p2) = true then
   Qc0 p2 l4 n a5 (w64 (v6 + 1))
  else
   Option.bind (Qb0 x8) fun r11 =>
   if (decide (r11 ≥ 0)) = true then
    Option.bind (rdv a5 r11) fun x13 =>
    Qeh (Qc0 p2 l4 n) p2 l4 v6 (a5.setIfInBounds (Int.toNat r11) true) x8
   else
    Qeh (Qc0 p2 l4 n) p2 l4 v6 a5 x8
 else
  Qd7 a5 FU [] 0
theorem Qoq {E : Env} (hP : E.P = Try.prog) (hn : E.n = 54) (hx : FX E []) (p2 : Int) (l4 : (List Qa0))  : ∀ (n : Nat) (a5 : (Vector Bool 100)) (v6 : Int) (r : (List Int)), Qc0 p2 l4 n a5 v6 = some r → WAt E Qsv (FQ (Qe2 Θ Try.f49.results.toList [] [] (AV.own 3 1 (r.map o3)) E)) [true, true, false, true, false] ⟨[(1, (I p2)), (7, (AV.ptr 1 0 0)), (18, (AV.ro 5 (l4.map o39))), (19, (I (l4.length : Int))), (20, (I v6))], [(1, some ⟨74, 100, [((o74 a5))]⟩)], [1, JJ]⟩ := by
 intro n
 induction n with
 | zero => intro a5 v6 r h; simp only [Qc0] at h; cases h
 | succ n ih =>
  intro a5 v6 r h
  simp only [Qc0] at h
  let Z0 := (decide (v6 < (l4.length : Int))); let Z1 := o74 a5
  rcases itS h with ⟨c7, h⟩ | ⟨c21, h⟩
  ·obtain ⟨x8, hx8, h⟩ := bnS h
   let H1 : List Hn := [hT 1, hh 2 (.row (o39 x8)), hW 4 1001]
   let P2 : List Prop := [Z0 = true, (0 : Int) ≤ v6, (l4.map o39)[v6.toNat]? = some (o39 x8)]
   have AP2 : Qb5 P2 := ⟨c7, (rd0 hx8), (rdM o39 hx8), trivial⟩
   rcases itS h with ⟨c9, h⟩ | ⟨c10, h⟩
   ·exact gT hP hn hx (H1 ++ [hT 10]) [(1, 1)] [1, 7, 18, 19, 20] [] (P2 ++ [(x8.Thread != p2) = true, Qa5 [(1, 1)] [Z1]]) (Qav AP2 ⟨c9, (rok (Qis t74 a5)), trivial⟩) (ih a5 (w64 (v6 + 1)) _ h)
   ·obtain ⟨r11, hr11, h⟩ := bnS h
    let Z2 := a5.setIfInBounds r11.toNat true
    let P3 : List Prop := P2 ++ [(x8.Thread != p2) = false, Qaa Try.prog 23 [(AV.agg ((o39 x8)))] (I r11), Qap (I r11) = true]
    have AP3 : Qb5 P3 := Qav AP2 ⟨c10, (Qcp hr11), rfl, trivial⟩
    rcases itS h with ⟨c12, h⟩ | ⟨c20, h⟩
    ·obtain ⟨x13, hx13, h⟩ := bnS h
     exact gT hP hn hx (H1 ++ [hF 10, hh 12 (.callV [[]] (I r11)), hT 16, hh 19 (.sto Z1 [((o74 Z2))])]) [(1, 1), (1001, 2)] [1, 7, 9, 18, 19, 20] [] (P3 ++ [(decide (r11 ≥ 0)) = true, (0 : Int) ≤ r11, r11 < ((100 : Nat) : Int), [Z1][0]? = some Z1, [Z1].set 0 (wr Z1 r11.toNat [(B true)]) = [((o74 Z2))], [(B true)].length = 1, r11.toNat + [(B true)].length ≤ Z1.length, Qa5 [(1, 1), (1001, 2)] [((o74 Z2))], Qa5 [(1, 1), (1001, 2)] [((o39 x8))]]) (Qav AP3 ⟨c12, (rv0 hx13), (rvL hx13), rfl, (Xd4 k4 _ (rvLt hx13)), rfl, (Xdz k4 hx13), (rok (Qis t74 Z2)), (rok rfl), trivial⟩) (Qix hP hn hx p2 l4 v6 ih Z2 x8 _ h)
    ·exact gT hP hn hx (H1 ++ [hF 10, hh 12 (.callV [[]] (I r11)), hF 16]) [(1, 1), (1001, 2)] [1, 7, 9, 18, 19, 20] [] (P3 ++ [(decide (r11 ≥ 0)) = false, Qa5 [(1, 1), (1001, 2)] [Z1], Qa5 [(1, 1), (1001, 2)] [((o39 x8))]]) (Qav AP3 ⟨c20, (rok (Qis t74 a5)), (rok rfl), trivial⟩) (Qix hP hn hx p2 l4 v6 ih a5 x8 _ h)
  ·exact gT hP hn hx [hF 1, hW 2 1001, hh 4 (.agg Z1 Z1)] [(1001, 1)] [12, 42, 43] [42] [Z0 = false, 0 + 100 ≤ Z1.length, (Z1.drop 0).take 100 = Z1, Z1.all AV.plain = true, [Z1][0]? = some Z1, Qa5 [(1001, 1)] ([].map o3), Qov (AV.agg Z1) = true] ⟨c21, (Xdf k4), (Xe9 k4), (pa74 _), rfl, (rok (Qa6 t3)), (t74 a5), trivial⟩ (Qp2 hP hn hx a5 FU [] 0 _ h)
noncomputable def Qi5 (p1 : (List Qa0)) (p2 : Int) (p3 : Int) : Option (List Int) :=
 Option.bind (slc p1 0 p3) fun l4 =>
 Qc0 p2 l4 FU (Vector.replicate 100 false) 0
theorem Qu4 {p1 : (List Qa0)} {p2 : Int} {p3 : Int} {r : (List Int)} (h : Qi5 p1 p2 p3 = some r) : Qaa Try.prog 49 [(AV.ro 5 (p1.map o39)), (I p2), (I p3)] (AV.own 3 1 (r.map o3)) := by
 refine gM Try.func49 54 Qsv fun E hP hn hx => ?_
 unfold Qi5 at h
 obtain ⟨l4, hl4, h⟩ := bnS h
 exact (let Z0 := o74 (Vector.replicate 100 false); let Z1 := AV.ro 5 (l4.map o39); let Z2 := (I (l4.length : Int)); gT hP hn hx [hO 1 (AV.agg Z0), hh 2 (.nw 1001 [Z0]), hh 3 (.stoS Z0 [Z0]), hO 6 Z1, hO 7 Z2] [(1001, 1)] [1, 7, 18, 19, 20] [] [AV.agg (Qf9 (List.replicate 100 (.bool false))) = (AV.agg Z0), [Qf9 (List.replicate 100 (.bool false))] = [Z0], [Z0][0]? = some Z0, [Z0].set 0 (wr Z0 0 Z0) = [Z0], Z0.length = 100, 0 + Z0.length ≤ Z0.length, Z0.all Qr3 = true, AV.ro 5 (((p1.map o39).drop (Int.toNat 0)).take (Qh4 p3.toNat (Int.toNat 0))) = Z1, (0 : Int) ≤ 0, 0 ≤ p3, p3 ≤ (((p1.map o39).length : Nat) : Int), AV.lit (.int .i64 (((l4.map o39).length : Nat) : Int)) = Z2, Qa5 [(1001, 1)] [Z0]] ⟨(Qzp k4 rfl), (Xbm k4 rfl), rfl, (vecSt k4 k4), (Xd0 k4), (vecLL k4 k4), (Xav k4 (fun _ => rfl)), (slM 5 o39 hl4), (sl0 hl4), (sl1 hl4), (sl2 o39 hl4), (Qej o39), (rok (Qis t74 (Vector.replicate 100 false))), trivial⟩ (Qoq hP hn hx p2 l4 FU (Vector.replicate 100 false) 0 _ h))
noncomputable def Qu8 : Code := match Try.f38.body with | some c => c | none => .skip
noncomputable def Qcv (K0 : (List Qaj) → Int → Option (List Qaj)) (p1 : (List Qa0)) (v3 : Int) (r9 : (List Int)) : Nat → (List Qaj) → Qa0 → (List Int) → Int → Option (List Qaj)
 | 0, _, _, _, _ => none
 | n + 1, a10, a11, a12, v13 =>
 if (decide (v13 < (r9.length : Int))) = true then
  Option.bind (rd a12 v13) fun x15 =>
  Option.bind (Qb0 a11) fun r16 =>
  Option.bind (app a10 [(Qaj.mk x15 r16 a11.Thread v3)]) fun l17 =>
  Qcv K0 p1 v3 r9 n l17 a11 a12 (w64 (v13 + 1))
 else
  K0 a10 (w64 (v3 + 1))
theorem Qmk {E : Env} (hP : E.P = Try.prog) (hn : E.n = 42) (hx : FX E []) (p1 : (List Qa0)) (v3 : Int) (r9 : (List Int)) {K0 : (List Qaj) → Int → Option (List Qaj)} (hK0 : ∀ (a2 : (List Qaj)) (v3 : Int) (r : (List Qaj)), K0 a2 v3 = some r → WAt E Qu8 (FQ (Qe2 Θ Try.f38.results.toList [] [] (AV.own 57 4 (r.map o57)) E)) [true, true, false, true, false] ⟨[(0, (AV.ro 5 (p1.map o39))), (3, (AV.sl 1 0 (List.length (a2.map o57)))), (9, (AV.ro 5 (p1.map o39))), (10, (I (p1.length : Int))), (11, (I v3))], [(1, some ⟨57, 4, (a2.map o57)⟩)], [1, JJ]⟩) : ∀ (n : Nat) (a10 : (List Qaj)) (a11 : Qa0) (a12 : (List Int)) (v13 : Int) (r : (List Qaj)), Qcv K0 p1 v3 r9 n a10 a11 a12 v13 = some r → WAt E Qu8 (FQ (Qe2 Θ Try.f38.results.toList [] [] (AV.own 57 4 (r.map o57)) E)) [true, true, false, true, false, false, true, true, false, false, true, true, true, false] ⟨[(0, (AV.ro 5 (p1.map o39))), (3, (AV.sl 1 0 (List.length (a10.map o57)))), (4, (I v3)), (5, (AV.ptr 2 0 0)), (9, (AV.ro 5 (p1.map o39))), (10, (I (p1.length : Int))), (11, (I v3)), (23, (AV.sl 3 0 (List.length (a12.map o3)))), (24, (I (r9.length : Int))), (25, (I v13))], [(1, some ⟨57, 4, (a10.map o57)⟩), (2, some ⟨39, 5, [((o39 a11))]⟩), (3, some ⟨3, 1, (a12.map o3)⟩)], [1, 2, 3, JJ]⟩ := by
 intro n
 induction n with
 | zero => intro a10 a11 a12 v13 r h; simp only [Qcv] at h; cases h
 | succ n ih =>
  intro a10 a11 a12 v13 r h
  simp only [Qcv] at h
  let Z1 := (decide (v13 < (r9.length : Int))); let Z2 := a10.map o57; let Z3 := AV.sl 1 0 Z2.length
  rcases itS h with ⟨c14, h⟩ | ⟨c18, h⟩
  ·obtain ⟨x15, hx15, h⟩ := bnS h
   obtain ⟨r16, hr16, h⟩ := bnS h
   obtain ⟨l17, hl17, h⟩ := bnS h
   exact (let Z0 := l17.map o57; let Z4 := [(Qaj.mk x15 r16 a11.Thread v3)].map o57; let Z5 := (Z4.drop 0).take Z4.length; gT hP hn hx [hT 1, hh 3 (.row [(I x15)]), hh 8 (.callV [[]] (I r16)), hW 13 1001, hh 15 (.app 1002 Z0)] [(1002, 1), (2, 2), (3, 3)] [0, 3, 4, 5, 9, 10, 11, 23, 24, 25] [] [Z1 = true, (0 : Int) ≤ v13, v13 < (((a12.map o3).length : Nat) : Int), (a12.map o3)[v13.toNat]? = some [(I x15)], Qaa Try.prog 23 [(AV.agg ((o39 a11)))] (I r16), Qap (I r16) = true, Z3 = Z3, Z2.take Z2.length ++ Z5 = Z0, Z5.all (fun r => r.all AV.plain) = true, Z0.length * 32 ≤ 140737488355328, Z0.length ≤ 140737488355328, Qa5 [(1002, 1), (2, 2), (3, 3)] Z0, Qa5 [(1002, 1), (2, 2), (3, 3)] [((o39 a11))], Qa5 [(1002, 1), (2, 2), (3, 3)] (a12.map o3)] ⟨c14, (rd0 hx15), (rdL o3 hx15), (rdM o3 hx15), (Qcp hr16), rfl, rfl, (Qp6 o57 hl17), (plD pa57), (Quf o57 hl17 (by decide)), (Qux o57 hl17), (rok (Qa6 t57)), (rok rfl), (rok (Qa6 t3)), trivial⟩ (ih l17 a11 a12 (w64 (v13 + 1)) _ h))
  ·exact gT hP hn hx [hF 1] [(1, 1)] [0, 3, 9, 10, 11] [] [Z1 = false, Qa5 [(1, 1)] Z2] ⟨c18, (rok (Qa6 t57)), trivial⟩ (hK0 a10 (w64 (v3 + 1)) _ h)
noncomputable def Qc2  (p1 : (List Qa0)) : Nat → (List Qaj) → Int → Option (List Qaj)
 | 0, _, _ => none
 | n + 1, a2, v3 =>
 if (decide (v3 < (p1.length : Int))) = true then
  Option.bind (rd p1 v3) fun x5 =>
  Option.bind (Qb0 x5) fun r6 =>
  if (decide (r6 < 0)) = true then
   Qc2 p1 n a2 (w64 (v3 + 1))
  else
   Option.bind (Qi5 p1 x5.Thread v3) fun r9 =>
   Qcv (Qc2 p1 n) p1 v3 r9 FU a2 x5 r9 0
 else
  some a2
theorem Qmi {E : Env} (hP : E.P = Try.prog) (hn : E.n = 42) (hx : FX E []) (p1 : (List Qa0))  : ∀ (n : Nat) (a2 : (List Qaj)) (v3 : Int) (r : (List Qaj)), Qc2 p1 n a2 v3 = some r → WAt E Qu8 (FQ (Qe2 Θ Try.f38.results.toList [] [] (AV.own 57 4 (r.map o57)) E)) [true, true, false, true, false] ⟨[(0, (AV.ro 5 (p1.map o39))), (3, (AV.sl 1 0 (List.length (a2.map o57)))), (9, (AV.ro 5 (p1.map o39))), (10, (I (p1.length : Int))), (11, (I v3))], [(1, some ⟨57, 4, (a2.map o57)⟩)], [1, JJ]⟩ := by
 intro n
 induction n with
 | zero => intro a2 v3 r h; simp only [Qc2] at h; cases h
 | succ n ih =>
  intro a2 v3 r h
  simp only [Qc2] at h
  let Z0 := (decide (v3 < (p1.length : Int))); let Z1 := a2.map o57
  rcases itS h with ⟨c4, h⟩ | ⟨c19, h⟩
  ·obtain ⟨x5, hx5, h⟩ := bnS h
   obtain ⟨r6, hr6, h⟩ := bnS h
   let P1 : List Prop := [Z0 = true, (0 : Int) ≤ v3, (p1.map o39)[v3.toNat]? = some (o39 x5), Qaa Try.prog 23 [(AV.agg ((o39 x5)))] (I r6), Qap (I r6) = true]
   have AP1 : Qb5 P1 := ⟨c4, (rd0 hx5), (rdM o39 hx5), (Qcp hr6), rfl, trivial⟩
   rcases itS h with ⟨c7, h⟩ | ⟨c8, h⟩
   ·exact gT hP hn hx [hT 1, hh 3 (.row (o39 x5)), hW 5 1001, hh 9 (.callV [[]] (I r6)), hT 11] [(1, 1)] [0, 3, 9, 10, 11] [] (P1 ++ [(decide (r6 < 0)) = true, Qa5 [(1, 1)] Z1]) (Qav AP1 ⟨c7, (rok (Qa6 t57)), trivial⟩) (ih a2 (w64 (v3 + 1)) _ h)
   ·obtain ⟨r9, hr9, h⟩ := bnS h
    exact (let Z2 := AV.own 3 1 (r9.map o3); let Z3 := (I (r9.length : Int)); gT hP hn hx [hT 1, hh 3 (.row (o39 x5)), hW 5 1001, hh 9 (.callV [[]] (I r6)), hF 11, hh 16 (.call [] Z2 [1002]), hO 17 Z3] [(1, 1), (1001, 2), (1002, 3)] [0, 3, 4, 5, 9, 10, 11, 23, 24, 25] [] (P1 ++ [(decide (r6 < 0)) = false, Qaa Try.prog 49 [(AV.ro 5 (p1.map o39)), (I x5.Thread), (I v3)] Z2, Qek Z2 = true, AV.lit (.int .i64 (((r9.map o3).length : Nat) : Int)) = Z3, Qa5 [(1, 1), (1001, 2), (1002, 3)] Z1, Qa5 [(1, 1), (1001, 2), (1002, 3)] [((o39 x5))], Qa5 [(1, 1), (1001, 2), (1002, 3)] (r9.map o3)]) (Qav AP1 ⟨c8, (Qu4 hr9), (by simp +zetaDelta only [Qek, Qdn, Qbd n3, Bool.and_self]), (Qej o3), (rok (Qa6 t57)), (rok rfl), (rok (Qa6 t3)), trivial⟩) (Qmk hP hn hx p1 v3 r9 ih FU a2 x5 r9 0 _ h))
  ·obtain rfl := sj h
   exact gR hP hn [hF 1] [] .own [Z0 = false, Qac (Z1.take Z1.length) = true, Z1.take Z1.length = Z1, Qaz Z1 = true] ⟨c19, (Qgc t57), Qgi, (Qbd n57), trivial⟩
noncomputable def Qfw (p1 : (List Qa0)) : Option (List Qaj) :=
 Qc2 p1 FU [] 0
theorem Qr5 {p1 : (List Qa0)} {r : (List Qaj)} (h : Qfw p1 = some r) : Qaa Try.prog 38 [(AV.ro 5 (p1.map o39))] (AV.own 57 4 (r.map o57)) := by
 refine gM Try.func38 42 Qu8 fun E hP hn hx => ?_
 unfold Qfw at h
 exact (let Z0 := (I (p1.length : Int)); gT hP hn hx [hW 1 1001, hO 4 Z0] [(1001, 1)] [0, 3, 9, 10, 11] [] [AV.lit (.int .i64 (((p1.map o39).length : Nat) : Int)) = Z0, Qa5 [(1001, 1)] ([].map o57)] ⟨(Qej o39), (rok (Qa6 t57)), trivial⟩ (Qmi hP hn hx p1 FU [] 0 _ h))
noncomputable def Xap : Code := match Try.f22.body with | some c => c | none => .skip
noncomputable def Qbj  (r2 : (List Qaj)) : Nat → (List (List Int)) → (List Qaj) → Int → Option (List (List Int))
 | 0, _, _, _ => none
 | n + 1, a3, a4, v5 =>
 if (decide (v5 < (r2.length : Int))) = true then
  Option.bind (rd a4 v5) fun x7 =>
  Option.bind (app a3 [[x7.Had, x7.Taken]]) fun l8 =>
  Qbj r2 n l8 a4 (w64 (v5 + 1))
 else
  Option.bind (Qid a3) fun r10 =>
  some r10
theorem Qjp {E : Env} (hP : E.P = Try.prog) (hn : E.n = 25) (hx : FX E []) (r2 : (List Qaj))  : ∀ (n : Nat) (a3 : (List (List Int))) (a4 : (List Qaj)) (v5 : Int) (r : (List (List Int))), Qbj r2 n a3 a4 v5 = some r → WAt E Xap (FQ (Qe2 Θ Try.f22.results.toList [] [] (AV.own 24 1 (r.map o24)) E)) [true, true, false, true, false] ⟨[(3, (AV.sl 1 0 (List.length (a3.map o24)))), (8, (AV.sl 2 0 (List.length (a4.map o57)))), (9, (I (r2.length : Int))), (10, (I v5))], [(1, some ⟨24, 1, (a3.map o24)⟩), (2, some ⟨57, 4, (a4.map o57)⟩)], [1, 2, JJ]⟩ := by
 intro n
 induction n with
 | zero => intro a3 a4 v5 r h; simp only [Qbj] at h; cases h
 | succ n ih =>
  intro a3 a4 v5 r h
  simp only [Qbj] at h
  let Z0 := a3.map o24; let Z5 := (decide (v5 < (r2.length : Int)))
  rcases itS h with ⟨c6, h⟩ | ⟨c9, h⟩
  ·obtain ⟨x7, hx7, h⟩ := bnS h
   obtain ⟨l8, hl8, h⟩ := bnS h
   exact (let Z1 := [x7.Had, x7.Taken].map o3; let Z2 := AV.sl 1002 0 Z1.length; let Z3 := Z0 ++ [[Z2]]; let Z4 := l8.map o24; gT hP hn hx [hT 1, hh 3 (.row ((o57 x7))), hW 4 1001, hW 11 1002, hW 12 1003, hh 13 (.app 1004 Z3), hh 14 (.pack 1004 1002 a3.length 0 [Z2] Z4), hh 17 (.slen 3 Z4.length)] [(1004, 1), (2, 2)] [3, 8, 9, 10] [] [Z5 = true, (0 : Int) ≤ v5, v5 < (((a4.map o57).length : Nat) : Int), (a4.map o57)[v5.toNat]? = some ((o57 x7)), Z0.take Z0.length ++ [[Z2]] = Z3, [[Z2]].all (fun r => r.all AV.plain) = true, Z3.length * 24 ≤ 140737488355328, Z3.length ≤ 140737488355328, Z3[a3.length]? = some [Z2], [Z2][0]? = some Z2, Qac Z1 = true, Z3.set a3.length ([Z2].set 0 (AV.own 3 1 Z1)) = Z4, Z3.length = Z4.length, Qa5 [(1004, 1), (2, 2)] Z4, Qa5 [(1004, 1), (2, 2)] (a4.map o57)] ⟨c6, (rd0 hx7), (rdL o57 hx7), (rdM o57 hx7), (apT o24), rfl, (apB o24 hl8 (by decide)), (apC o24 hl8), (apG o24), rfl, (Qa6 t3), (apS o24 hl8), (apLn o24 hl8), (rok (Qa6 t24)), (rok (Qa6 t57)), trivial⟩ (ih l8 a4 (w64 (v5 + 1)) _ h))
  ·obtain ⟨r10, hr10, h⟩ := bnS h
   obtain rfl := sj h
   exact (let Z6 := r10.map o24; let Z7 := AV.own 24 1 Z6; let Z8 := AV.sl 1005 0 Z6.length; let Z9 := rtf (Qff [] Z7) [1005]; gR hP hn [hF 1, hh 3 (.callX [1] [false] [⟨24, 1, Z0⟩] [⟨24, 1, Z0⟩] [] Z7 [1005] Z8 [(1005, ⟨24, 1, Z6⟩)])] [] .own [Z5 = false, Qd3 Try.prog 39 [⟨24, 1, Z0⟩] [(AV.sl 0 0 Z0.length)] [false] [⟨24, 1, Z0⟩] Z7, (some (Qao.mk 24 1 Z0) = some (Qao.mk 24 1 Z0)) ∧ True, (Qac Z0 = true ∧ Qaz Z0 = true) ∧ True, (Z0.length = Z0.length) ∧ True, Z9.1 = Z8, Z9.2.1 = [(1005, ⟨24, 1, Z6⟩)], Qac (Z6.take Z6.length) = true, Z6.take Z6.length = Z6, Qaz Z6 = true] ⟨c9, (Qs1 hr10), ⟨rfl, trivial⟩, ⟨⟨Qa6 t24, Qbd n24⟩, trivial⟩, ⟨rfl, trivial⟩, rfl, rfl, (Qgc t24), Qgi, (Qbd n24), trivial⟩)
noncomputable def Qe8 (p1 : (List Qa0)) : Option (List (List Int)) :=
 Option.bind (Qfw p1) fun r2 =>
 Qbj r2 FU [] r2 0
theorem Qmj {p1 : (List Qa0)} {r : (List (List Int))} (h : Qe8 p1 = some r) : Qaa Try.prog 22 [(AV.ro 5 (p1.map o39))] (AV.own 24 1 (r.map o24)) := by
 refine gM Try.func22 25 Xap fun E hP hn hx => ?_
 unfold Qe8 at h
 obtain ⟨r2, hr2, h⟩ := bnS h
 exact (let Z0 := AV.own 57 4 (r2.map o57); let Z1 := (I (r2.length : Int)); gT hP hn hx [hW 1 1001, hh 4 (.call [] Z0 [1002]), hO 5 Z1] [(1001, 1), (1002, 2)] [3, 8, 9, 10] [] [Qaa Try.prog 38 [(AV.ro 5 (p1.map o39))] Z0, Qek Z0 = true, AV.lit (.int .i64 (((r2.map o57).length : Nat) : Int)) = Z1, Qa5 [(1001, 1), (1002, 2)] ([].map o24), Qa5 [(1001, 1), (1002, 2)] (r2.map o57)] ⟨(Qr5 hr2), (by simp +zetaDelta only [Qek, Qdn, Qbd n57, Bool.and_self]), (Qej o57), (rok (Qa6 t24)), (rok (Qa6 t57)), trivial⟩ (Qjp hP hn hx r2 FU [] r2 0 _ h))
noncomputable def Qul : Code := match Try.f41.body with | some c => c | none => .skip
noncomputable def Qaq (K0 : (List Int) → Int → Option (List Int)) (p1 : (List Int)) (a4 : (List Int)) (v5 : Int) : Nat → (List Int) → Int → Int → Option (List Int)
 | 0, _, _, _ => none
 | n + 1, a11, v12, v13 =>
 if (decide (v13 < (((Qh4 (Int.toNat (((a4.map o3).length : Nat) : Int)) (Int.toNat v5)) : Nat) : Int))) = true then
  Option.bind (rdc a11 (Int.toNat v5) (Qh4 (Int.toNat (((a4.map o3).length : Nat) : Int)) (Int.toNat v5)) v13) fun x15 =>
  Option.bind (rdc a11 (Int.toNat v5) (Qh4 (Int.toNat (((a4.map o3).length : Nat) : Int)) (Int.toNat v5)) (w64 (v13 - 1))) fun x16 =>
  if (x15 != x16) = true then
   Option.bind (rdc a11 (Int.toNat v5) (Qh4 (Int.toNat (((a4.map o3).length : Nat) : Int)) (Int.toNat v5)) v13) fun x18 =>
   Option.bind (rd a11 v12) fun x19 =>
   Qaq K0 p1 a4 v5 n (a11.set (Int.toNat v12) x18) (w64 (v12 + 1)) (w64 (v13 + 1))
  else
   Qaq K0 p1 a4 v5 n a11 v12 (w64 (v13 + 1))
 else
  Option.bind (slc a11 v12 (a11.length : Int)) fun l22 =>
  Option.bind (slc (Qud a11 0 (Int.toNat v12) (Qh4 (Int.toNat (((a11.map o3).length : Nat) : Int)) (Int.toNat v12))) 0 v12) fun l23 =>
  some l23
theorem Qg0 {E : Env} (hP : E.P = Try.prog) (hn : E.n = 61) (hx : FX E []) (p1 : (List Int)) (a4 : (List Int)) (v5 : Int) {K0 : (List Int) → Int → Option (List Int)} (hK0 : ∀ (a4 : (List Int)) (v5 : Int) (r : (List Int)), K0 a4 v5 = some r → WAt E Qul (FQ (Qe2 Θ Try.f41.results.toList [false] [⟨3, 1, (p1.map o3)⟩] (AV.own 3 1 (r.map o3)) E)) [true, true, false, true, false] ⟨[(0, (AV.sl 1 0 (List.length (a4.map o3)))), (3, (I v5))], [(1, some ⟨3, 1, (a4.map o3)⟩)], [1, JJ]⟩) : ∀ (n : Nat) (a11 : (List Int)) (v12 : Int) (v13 : Int) (r : (List Int)), Qaq K0 p1 a4 v5 n a11 v12 v13 = some r → WAt E Qul (FQ (Qe2 Θ Try.f41.results.toList [false] [⟨3, 1, (p1.map o3)⟩] (AV.own 3 1 (r.map o3)) E)) [true, true, false, true, false, false, true, false, false, true, false, true, false, true, false] ⟨[(0, (AV.sl 1 0 (List.length (a11.map o3)))), (3, (I v12)), (4, (AV.sl 1 (Int.toNat v5) (Qh4 (Int.toNat (((a4.map o3).length : Nat) : Int)) (Int.toNat v5)))), (5, (I v13))], [(1, some ⟨3, 1, (a11.map o3)⟩)], [1, JJ]⟩ := by
 intro n
 induction n with
 | zero => intro a11 v12 v13 r h; simp only [Qaq] at h; cases h
 | succ n ih =>
  intro a11 v12 v13 r h
  simp only [Qaq] at h
  let Z0 := (((Qh4 (((a4.map o3).length : Nat) : Int).toNat v5.toNat) : Nat) : Int); let Z1 := a11.map o3; let Z2 := Qwd v5.toNat v13.toNat; let Z3 := w64 (v13 - 1); let Z7 := ((Z1.length : Nat) : Int); let Z8 := Qh4 Z7.toNat v12.toNat; let Z9 := (Qud a11 0 v12.toNat Z8).map o3
  let H1 : List Hn := [hO 2 (I Z0)]
  let P2 : List Prop := [AV.lit (.int .i64 Z0) = (I Z0)]
  have AP2 : Qb5 P2 := ⟨rfl, trivial⟩
  rcases itS h with ⟨c14, h⟩ | ⟨c21, h⟩
  ·obtain ⟨x15, hx15, h⟩ := bnS h
   obtain ⟨x16, hx16, h⟩ := bnS h
   let P3 : List Prop := P2 ++ [(decide (v13 < Z0)) = true, (0 : Int) ≤ v13, v13 < Z0, Z1[Z2]? = some [(I x15)], (0 : Int) ≤ Z3, Z3 < Z0, Z1[(Qwd v5.toNat Z3.toNat)]? = some [(I x16)]]
   have AP3 : Qb5 P3 := Qav AP2 ⟨c14, (rdc0 hx15), (rdcL hx15), (rdM o3 (rdcR hx15)), (rdc0 hx16), (rdcL hx16), (rdM o3 (rdcR hx16)), trivial⟩
   rcases itS h with ⟨c17, h⟩ | ⟨c20, h⟩
   ·obtain ⟨x18, hx18, h⟩ := bnS h
    obtain ⟨x19, hx19, h⟩ := bnS h
    exact (let Z4 := [(I x18)]; let Z5 := a11.set v12.toNat x18; let Z6 := Z5.map o3; gT hP hn hx (H1 ++ [hT 4, hh 8 (.row [(I x15)]), hh 13 (.row [(I x16)]), hT 15, hh 21 (.row Z4), hh 23 (.sto [(I x19)] Z6), hh 30 (.slen 0 Z6.length)]) [(1, 1)] [0, 3, 4, 5] [] (P3 ++ [(x15 != x16) = true, (0 : Int) ≤ v13, v13 < Z0, Z1[Z2]? = some Z4, (0 : Int) ≤ v12, v12 < Z7, Z1[v12.toNat]? = some [(I x19)], Z1.set v12.toNat (wr [(I x19)] 0 Z4) = Z6, Z4.length = 1, 0 + Z4.length ≤ [(I x19)].length, Z1.length = Z6.length, Qa5 [(1, 1)] Z6]) (Qav AP3 ⟨c17, (rdc0 hx18), (rdcL hx18), (rdM o3 (rdcR hx18)), (rd0 hx19), (rdL o3 hx19), (rdM o3 hx19), (setM o3), rfl, leB, lnq, (rok (Qa6 t3)), trivial⟩) (ih Z5 (w64 (v12 + 1)) (w64 (v13 + 1)) _ h))
   ·exact gT hP hn hx (H1 ++ [hT 4, hh 8 (.row [(I x15)]), hh 13 (.row [(I x16)]), hF 15]) [(1, 1)] [0, 3, 4, 5] [] (P3 ++ [(x15 != x16) = false, Qa5 [(1, 1)] Z1]) (Qav AP3 ⟨c20, (rok (Qa6 t3)), trivial⟩) (ih a11 v12 (w64 (v13 + 1)) _ h)
  ·obtain ⟨l22, hl22, h⟩ := bnS h
   obtain ⟨l23, hl23, h⟩ := bnS h
   obtain rfl := sj h
   exact gR hP hn (H1 ++ [hF 4, hh 8 (.clr Z9), hh 9 (.slen 0 Z9.length)]) [] .own (P2 ++ [(decide (v13 < Z0)) = false, (0 : Int) ≤ v12, v12 ≤ Z7, Z7 ≤ Z7, Qiu Z1 = true, v12.toNat + Z8 ≤ Z1.length, Qgg Z1 v12.toNat (List.replicate Z8 (o3 0)) = Z9, Z1.length = Z9.length, (0 : Int) ≤ 0, 0 ≤ v12, v12 ≤ ((Z9.length : Nat) : Int), Qac (Z9.take v12.toNat) = true, Z9.take v12.toNat = (l23.map o3), Qaz (l23.map o3) = true]) (Qav AP2 ⟨c21, (sl0 hl22), (sl1e o3 hl22), (Int.le_refl _), (Qvj (fun _ => rfl) _), (clBe o3 hl22), (clrM o3 rfl), (Xdd o3 hl22), (sl0 hl23), (sl1 hl23), (sl2 o3 hl23), (Xdg t3 hl23), (winT0 o3 hl23), (Qbd n3), trivial⟩)
noncomputable def Qai  (p1 : (List Int)) : Nat → (List Int) → Int → Option (List Int)
 | 0, _, _ => none
 | n + 1, a4, v5 =>
 if (decide (v5 < (a4.length : Int))) = true then
  Option.bind (rd a4 v5) fun x7 =>
  Option.bind (rd a4 (w64 (v5 - 1))) fun x8 =>
  if (x7 == x8) = true then
   Option.bind (slc a4 v5 (a4.length : Int)) fun l10 =>
   Qaq (Qai p1 n) p1 a4 v5 FU a4 v5 1
  else
   Qai p1 n a4 (w64 (v5 + 1))
 else
  some a4
theorem Qfq {E : Env} (hP : E.P = Try.prog) (hn : E.n = 61) (hx : FX E []) (p1 : (List Int))  : ∀ (n : Nat) (a4 : (List Int)) (v5 : Int) (r : (List Int)), Qai p1 n a4 v5 = some r → WAt E Qul (FQ (Qe2 Θ Try.f41.results.toList [false] [⟨3, 1, (p1.map o3)⟩] (AV.own 3 1 (r.map o3)) E)) [true, true, false, true, false] ⟨[(0, (AV.sl 1 0 (List.length (a4.map o3)))), (3, (I v5))], [(1, some ⟨3, 1, (a4.map o3)⟩)], [1, JJ]⟩ := by
 intro n
 induction n with
 | zero => intro a4 v5 r h; simp only [Qai] at h; cases h
 | succ n ih =>
  intro a4 v5 r h
  simp only [Qai] at h
  let Z0 := a4.map o3; let Z1 := ((Z0.length : Nat) : Int); let Z2 := (I (a4.length : Int)); let Z3 := (decide (v5 < (a4.length : Int))); let Z4 := w64 (v5 - 1)
  let P1 : List Prop := [AV.lit (.int .i64 Z1) = Z2]
  have AP1 : Qb5 P1 := ⟨(Qej o3), trivial⟩
  rcases itS h with ⟨c6, h⟩ | ⟨c25, h⟩
  ·obtain ⟨x7, hx7, h⟩ := bnS h
   obtain ⟨x8, hx8, h⟩ := bnS h
   let H2 : List Hn := [hO 2 Z2, hT 4, hh 8 (.row [(I x7)]), hh 13 (.row [(I x8)])]
   let P3 : List Prop := P1 ++ [Z3 = true, (0 : Int) ≤ v5, v5 < Z1, Z0[v5.toNat]? = some [(I x7)], (0 : Int) ≤ Z4, Z4 < Z1, Z0[Z4.toNat]? = some [(I x8)]]
   have AP3 : Qb5 P3 := Qav AP1 ⟨c6, (rd0 hx7), (rdL o3 hx7), (rdM o3 hx7), (rd0 hx8), (rdL o3 hx8), (rdM o3 hx8), trivial⟩
   rcases itS h with ⟨c9, h⟩ | ⟨c24, h⟩
   ·obtain ⟨l10, hl10, h⟩ := bnS h
    exact gT hP hn hx (H2 ++ [hT 15]) [(1, 1)] [0, 3, 4, 5] [] (P3 ++ [(x7 == x8) = true, (0 : Int) ≤ v5, v5 ≤ Z1, Z1 ≤ Z1, Qa5 [(1, 1)] Z0]) (Qav AP3 ⟨c9, (sl0 hl10), (sl1e o3 hl10), (Int.le_refl _), (rok (Qa6 t3)), trivial⟩) (Qg0 hP hn hx p1 a4 v5 ih FU a4 v5 1 _ h)
   ·exact gT hP hn hx (H2 ++ [hF 15]) [(1, 1)] [0, 3] [] (P3 ++ [(x7 == x8) = false, Qa5 [(1, 1)] Z0]) (Qav AP3 ⟨c24, (rok (Qa6 t3)), trivial⟩) (ih a4 (w64 (v5 + 1)) _ h)
  ·obtain rfl := sj h
   exact gR hP hn [hO 2 Z2, hF 4] [] .own (P1 ++ [Z3 = false, Qac (Z0.take Z0.length) = true, Z0.take Z0.length = Z0, Qaz Z0 = true]) (Qav AP1 ⟨c25, (Qgc t3), Qgi, (Qbd n3), trivial⟩)
noncomputable def Qbh (p1 : (List Int)) : Option (List Int) :=
 if (decide ((p1.length : Int) < 2)) = true then
  some p1
 else
  Qai p1 FU p1 1
theorem Qgr {p1 : (List Int)} {r : (List Int)} (h : Qbh p1 = some r) : Qd3 Try.prog 41 [⟨3, 1, (p1.map o3)⟩] [(AV.sl 0 0 (List.length (p1.map o3)))] [false] [⟨3, 1, (p1.map o3)⟩] (AV.own 3 1 (r.map o3)) := by
 refine Qgv Qzv Try.func41 rfl (c := Qul) (by kernel_rfl) (Nat.le_of_ble_eq_true rfl) rfl (Nat.le_of_ble_eq_true rfl) rfl (fr := []) (frI rfl) ?_
 intro E hP hn hx
 replace hn : E.n = 61 := hn
 unfold Qbh at h
 let Z0 := (I (p1.length : Int)); let Z1 := p1.map o3; let Z2 := ((Z1.length : Nat) : Int); let Z3 := (decide ((p1.length : Int) < 2))
 rcases itS h with ⟨c2, h⟩ | ⟨c3, h⟩
 ·obtain rfl := sj h
  exact gR hP hn [hO 2 Z0, hT 4] [] .own [AV.lit (.int .i64 Z2) = Z0, Z3 = true, Qac (Z1.take Z1.length) = true, Z1.take Z1.length = Z1, Qaz Z1 = true] ⟨(Qej o3), c2, (Qgc t3), Qgi, (Qbd n3), trivial⟩
 ·exact gT hP hn hx [hO 2 Z0, hF 4] [(0, 1)] [0, 3] [] [AV.lit (.int .i64 Z2) = Z0, Z3 = false, Qa5 [(0, 1)] Z1] ⟨(Qej o3), c3, (rok (Qa6 t3)), trivial⟩ (Qfq hP hn hx p1 FU p1 1 _ h)
section
open Go.RowKit Go.Sort Go.Shelf Go.Proofs
shelf_lay_g SlLaysM.n5 Slgm 5 at Try 40 as Try.srt40
end
noncomputable def Qec (p1 : (List Int)) : Option (Unit × (List Int)) :=
 srtL p1
theorem Qhw {p1 : (List Int)} {r : (Unit × (List Int))} (h : Qec p1 = some r) : Qd3 Try.prog 40 [⟨3, 1, (p1.map o3)⟩] [(AV.sl 0 0 (List.length (p1.map o3)))] [true] [⟨3, 1, (r.2.map o3)⟩] (AV.tup []) := by
 obtain ⟨h1, rfl⟩ := srtE h
 exact Qse Try.srt40 (Go.Proofs.enters_of Try.func40 rfl rfl) 3 p1 h1
noncomputable def Xdy : Code := match Try.f24.body with | some c => c | none => .skip
noncomputable def Qfv (p1 : (List Int)) : Option (List Int) :=
 Option.bind (Qec p1) fun r2 =>
 Option.bind (Qji p1 r2.2) fun q3 =>
 Option.bind (Qbh r2.2) fun r4 =>
 some r4
theorem Qqr {p1 : (List Int)} {r : (List Int)} (h : Qfv p1 = some r) : Qd3 Try.prog 24 [⟨3, 1, (p1.map o3)⟩] [(AV.sl 0 0 (List.length (p1.map o3)))] [false] [⟨3, 1, (p1.map o3)⟩] (AV.own 3 1 (r.map o3)) := by
 refine Qgv Qzv Try.func24 rfl (c := Xdy) (by kernel_rfl) (Nat.le_of_ble_eq_true rfl) rfl (Nat.le_of_ble_eq_true rfl) rfl (fr := []) (frI rfl) ?_
 intro E hP hn hx
 replace hn : E.n = 7 := hn
 unfold Qfv at h
 obtain ⟨r2, hr2, h⟩ := bnS h
 obtain ⟨q3, hq3, h⟩ := bnS h
 obtain ⟨r4, hr4, h⟩ := bnS h
 obtain rfl := sj h
 exact (let Z0 := p1.map o3; let Z1 := r2.2.map o3; let Z2 := AV.tup []; let Z3 := r4.map o3; let Z4 := AV.own 3 1 Z3; let Z5 := AV.sl 1001 0 Z3.length; let Z6 := rtf (Qff [(0, 0)] Z2) []; let Z7 := rtf (Qff [] Z4) [1001]; gR hP hn [hh 2 (.callX [0] [true] [⟨3, 1, Z0⟩] [⟨3, 1, Z1⟩] [] Z2 [] Z2 []), hh 3 (.slen 0 Z1.length), hh 4 (.callX [0] [false] [⟨3, 1, Z1⟩] [⟨3, 1, Z1⟩] [] Z4 [1001] Z5 [(1001, ⟨3, 1, Z3⟩)])] [] .own [Qd3 Try.prog 40 [⟨3, 1, Z0⟩] [(AV.sl 0 0 Z0.length)] [true] [⟨3, 1, Z1⟩] Z2, (some (Qao.mk 3 1 Z0) = some (Qao.mk 3 1 Z0)) ∧ True, (Qac Z0 = true ∧ Qaz Z0 = true) ∧ True, (Z1.length = Z0.length) ∧ True, Z6.1 = Z2, Z6.2.1 = [], Z0.length = Z1.length, Qd3 Try.prog 41 [⟨3, 1, Z1⟩] [(AV.sl 0 0 Z1.length)] [false] [⟨3, 1, Z1⟩] Z4, (some (Qao.mk 3 1 Z1) = some (Qao.mk 3 1 Z1)) ∧ True, (Qac Z1 = true ∧ Qaz Z1 = true) ∧ True, (Z1.length = Z1.length) ∧ True, Z7.1 = Z5, Z7.2.1 = [(1001, ⟨3, 1, Z3⟩)], Qac (Z3.take Z3.length) = true, Z3.take Z3.length = Z3, Qaz Z3 = true] ⟨(Qhw hr2), ⟨rfl, trivial⟩, ⟨⟨Qa6 t3, Qbd n3⟩, trivial⟩, ⟨(Qkj o3 hq3), trivial⟩, rfl, rfl, (Qkj o3 hq3).symm, (Qgr hr4), ⟨rfl, trivial⟩, ⟨⟨Qa6 t3, Qbd n3⟩, trivial⟩, ⟨rfl, trivial⟩, rfl, rfl, (Qgc t3), Qgi, (Qbd n3), trivial⟩)
noncomputable def Xdn : Code := match Try.f30.body with | some c => c | none => .skip
noncomputable def Qbo (p1 : (List Int)) (p2 : Int) (p3 : Int) : Option (List Int) :=
 delL p1 p2 p3
theorem Qh7 {p1 : (List Int)} {p2 : Int} {p3 : Int} {r : (List Int)} (h : Qbo p1 p2 p3 = some r) : Qd3 Try.prog 30 [⟨3, 1, (p1.map o3)⟩] [(AV.sl 0 0 (List.length (p1.map o3))), (I p2), (I p3)] [false] [⟨3, 1, (p1.map o3)⟩] (AV.own 3 1 (r.map o3)) := by
 refine Qgv Qzv Try.func30 rfl (c := Xdn) (by kernel_rfl) (Nat.le_of_ble_eq_true rfl) rfl (Nat.le_of_ble_eq_true rfl) rfl (fr := []) (frI rfl) ?_
 intro E hP hn hx
 replace hn : E.n = 33 := hn
 unfold Qbo at h
 obtain ⟨d0, d1, d2, rfl⟩ := delE h
 have d2m : p3 ≤ (((List.length (p1.map o3)) : Nat) : Int) := by rw [List.length_map]; exact d2
 have hl : Qiu (p1.map o3) = true := Qvj (fun _ => rfl) p1
 let Z0 := p1.map o3; let Z1 := ((Z0.length : Nat) : Int); let Z2 := (p1.take p2.toNat ++ p1.drop p3.toNat).map o3; let Z3 := Qh4 Z0.length p3.toNat; let Z4 := (Z0.drop p3.toNat).take Z3; let Z5 := p2.toNat + Z3; let Z6 := Z0.length - Z5; let Z7 := ((p2.toNat + Z3 : Nat) : Int)
 let P1 : List Prop := [(0 : Int) ≤ p2, p2 ≤ p3, p3 ≤ Z1, Z1 ≤ Z1]
 have AP1 : Qb5 P1 := ⟨d0, d1, d2m, (Int.le_refl _), trivial⟩
 by_cases c : (p2 == p3) = true
 ·exact gR hP hn [hh 6 (.sl3), hT 10] [] .own (P1 ++ [(p2 == p3) = true, Qac (Z0.take Z0.length) = true, Z0.take Z0.length = Z2, Qaz Z2 = true]) (Qav AP1 ⟨c, ((delS c).symm ▸ (Qa6 t3)), (delS c), (Qbd n3), trivial⟩)
 ·replace c : (p2 == p3) = false := by simpa using c
  exact gR hP hn [hh 6 (.sl3), hF 10, hh 20 (.api), hh 26 (.slB), hh 27 (.clr (Qgg (Qgg Z0 p2.toNat Z4) Z5 (List.replicate Z6 (Qf9 ((Θ.lookup 3).getD ⟨0, 0, .bool, []⟩).zero))))] [] .own (P1 ++ [(p2 == p3) = false, (0 : Int) ≤ 0, 0 ≤ p2, p2 ≤ Z1, (0 : Int) ≤ p3, p3 ≤ Z1, Z1 ≤ Z1, Qiu Z0 = true, p2.toNat + Z3 ≤ Z0.length, (0 : Int) ≤ Z7, Z7 ≤ Z1, Z1 ≤ (((Qgg Z0 p2.toNat Z4).length : Nat) : Int), Qiu (Qgg Z0 p2.toNat Z4) = true, Z5 + Z6 ≤ (Qgg Z0 p2.toNat Z4).length, (Qgg (Qgg Z0 p2.toNat Z4) Z5 (List.replicate Z6 (Qf9 ((Θ.lookup 3).getD ⟨0, 0, .bool, []⟩).zero))) = (Qgg (Qgg Z0 p2.toNat Z4) Z5 (List.replicate Z6 (Qf9 ((Θ.lookup 3).getD ⟨0, 0, .bool, []⟩).zero))), Qac ((Qgg (Qgg Z0 p2.toNat Z4) Z5 (List.replicate Z6 (Qf9 ((Θ.lookup 3).getD ⟨0, 0, .bool, []⟩).zero))).take Z5) = true, (Qgg (Qgg Z0 p2.toNat Z4) Z5 (List.replicate Z6 (Qf9 ((Θ.lookup 3).getD ⟨0, 0, .bool, []⟩).zero))).take Z5 = Z2, Qaz Z2 = true]) (Qav AP1 ⟨c, (Int.le_refl _), d0, (Int.le_trans d1 d2m), (Int.le_trans d0 d1), d2m, (Int.le_refl _), hl, (delA d0 d1 d2), (Int.natCast_nonneg _), (delB d0 d1 d2), (delC d0 d1 d2), (Qze hl), (delD d0 d1 d2), rfl, ((delQ d0 d1 d2).symm ▸ (Qa6 t3)), (delQ d0 d1 d2), (Qbd n3), trivial⟩)
noncomputable def Xb2 : Code := match Try.f43.body with | some c => c | none => .skip
noncomputable def Qau  (p1 : (List Int)) (p2 : Int) : Nat → Int → Option Int
 | 0, _ => none
 | n + 1, v3 =>
 if (decide (v3 < (p1.length : Int))) = true then
  Option.bind (rd p1 v3) fun x5 =>
  if (p2 == x5) = true then
   some v3
  else
   Qau p1 p2 n (w64 (v3 + 1))
 else
  some (-1)
theorem Qg8 {E : Env} (hP : E.P = Try.prog) (hn : E.n = 19) (hx : FX E []) (p1 : (List Int)) (p2 : Int)  : ∀ (n : Nat) (v3 : Int) (r : Int), Qau p1 p2 n v3 = some r → WAt E Xb2 (FQ (Qe2 Θ Try.f43.results.toList [] [] (I r) E)) [true, false, true, false] ⟨[(0, (AV.ro 1 (p1.map o3))), (1, (I p2)), (7, (I (p1.length : Int))), (8, (I v3))], [], [JJ]⟩ := by
 intro n
 induction n with
 | zero => intro v3 r h; simp only [Qau] at h; cases h
 | succ n ih =>
  intro v3 r h
  simp only [Qau] at h
  let Z0 := (decide (v3 < (p1.length : Int)))
  rcases itS h with ⟨c4, h⟩ | ⟨c8, h⟩
  ·obtain ⟨x5, hx5, h⟩ := bnS h
   let P1 : List Prop := [Z0 = true, (0 : Int) ≤ v3, (p1.map o3)[v3.toNat]? = some (o3 x5)]
   have AP1 : Qb5 P1 := ⟨c4, (rd0 hx5), (rdM o3 hx5), trivial⟩
   rcases itS h with ⟨c6, h⟩ | ⟨c7, h⟩
   ·obtain rfl := sj h
    exact gR hP hn [hT 1, hh 7 (.row (o3 x5)), hT 10] [] .raw (P1 ++ [(p2 == x5) = true, (I v3) = (I v3), Qap (I v3) = true]) (Qav AP1 ⟨c6, rfl, rfl, trivial⟩)
   ·exact gT hP hn hx [hT 1, hh 7 (.row (o3 x5)), hF 10] [] [0, 1, 7, 8] [] (P1 ++ [(p2 == x5) = false]) (Qav AP1 ⟨c7, trivial⟩) (ih (w64 (v3 + 1)) _ h)
  ·obtain rfl := sj h
   exact gR hP hn [hF 1] [] .raw [Z0 = false, (I (-1)) = (I (-1)), Qap (I (-1)) = true] ⟨c8, rfl, rfl, trivial⟩
noncomputable def Qcz (p1 : (List Int)) (p2 : Int) : Option Int :=
 Qau p1 p2 FU 0
theorem Qhn {p1 : (List Int)} {p2 : Int} {r : Int} (h : Qcz p1 p2 = some r) : Qaa Try.prog 43 [(AV.ro 1 (p1.map o3)), (I p2)] (I r) := by
 refine gM Try.func43 19 Xb2 fun E hP hn hx => ?_
 unfold Qcz at h
 exact (let Z0 := (I (p1.length : Int)); gT hP hn hx [hO 2 Z0] [] [0, 1, 7, 8] [] [AV.lit (.int .i64 (((p1.map o3).length : Nat) : Int)) = Z0] ⟨(Qej o3), trivial⟩ (Qg8 hP hn hx p1 p2 FU 0 _ h))
noncomputable def Xe1 : Code := match Try.f29.body with | some c => c | none => .skip
noncomputable def Qba (p1 : (List Int)) (p2 : Int) : Option Bool :=
 Option.bind (Qcz p1 p2) fun r3 =>
 some (decide (r3 ≥ 0))
theorem Qge {p1 : (List Int)} {p2 : Int} {r : Bool} (h : Qba p1 p2 = some r) : Qaa Try.prog 29 [(AV.ro 1 (p1.map o3)), (I p2)] (B r) := by
 refine gM Try.func29 9 Xe1 fun E hP hn hx => ?_
 unfold Qba at h
 obtain ⟨r3, hr3, h⟩ := bnS h
 obtain rfl := sj h
 exact (let Z0 := B (decide (r3 ≥ 0)); gR hP hn [hh 3 (.callV [] (I r3))] [] .raw [Qaa Try.prog 43 [(AV.ro 1 (p1.map o3)), (I p2)] (I r3), Qap (I r3) = true, Z0 = Z0, Qap Z0 = true] ⟨(Qhn hr3), rfl, rfl, rfl, trivial⟩)
noncomputable def Xd1 : Code := match Try.f28.body with | some c => c | none => .skip
noncomputable def Qch (p1 : (List Int)) (p2 : Int) (p3 : (List Int)) : Option Bool :=
 Option.bind (rd p1 1) fun x4 =>
 if (x4 == p2) = true then
  Option.bind (rd p1 0) fun x6 =>
  Option.bind (Qba p3 x6) fun r7 =>
  some r7
 else
  some false
theorem Qkt {p1 : (List Int)} {p2 : Int} {p3 : (List Int)} {r : Bool} (h : Qch p1 p2 p3 = some r) : Qaa Try.prog 28 [(AV.ro 1 (p1.map o3)), (AV.rop (o3 p2) 0), (AV.rop (r24 p3) 0)] (B r) := by
 refine gM Try.func28 17 Xd1 fun E hP hn hx => ?_
 unfold Qch at h
 obtain ⟨x4, hx4, h⟩ := bnS h
 let Z0 := B false
 rcases itS h with ⟨c5, h⟩ | ⟨c8, h⟩
 ·obtain ⟨x6, hx6, h⟩ := bnS h
  obtain ⟨r7, hr7, h⟩ := bnS h
  obtain rfl := sj h
  exact gR hP hn [hh 2 (.row (o3 x4)), hO 6 (B true), hh 9 (.row (o3 x6)), hh 11 (.callV [] (B r7))] [] .raw [(0 : Int) ≤ 1, (p1.map o3)[(Int.toNat 1)]? = some (o3 x4), (B (x4 == p2)) = (B true), (0 : Int) ≤ 0, (p1.map o3)[(Int.toNat 0)]? = some (o3 x6), Qaa Try.prog 29 [(AV.ro 1 (p3.map o3)), (I x6)] (B r7), Qap (B r7) = true, (B r7) = (B r7), Qap (B r7) = true] ⟨(rd0 hx4), (rdM o3 hx4), (Qd6 c5), (rd0 hx6), (rdM o3 hx6), (Qge hr7), rfl, rfl, rfl, trivial⟩
 ·obtain rfl := sj h
  exact gR hP hn [hh 2 (.row (o3 x4)), hO 6 Z0] [] .raw [(0 : Int) ≤ 1, (p1.map o3)[(Int.toNat 1)]? = some (o3 x4), (B (x4 == p2)) = Z0, Z0 = Z0, Qap Z0 = true] ⟨(rd0 hx4), (rdM o3 hx4), (Qd6 c8), rfl, rfl, trivial⟩
noncomputable def Xam : Code := match Try.f42.body with | some c => c | none => .skip
noncomputable def Qa4  (p1 : (List (List Int))) (p2 : Int) (p3 : (List Int)) : Nat → Int → Option Int
 | 0, _ => none
 | n + 1, v4 =>
 if (decide (v4 < (p1.length : Int))) = true then
  Option.bind (rd p1 v4) fun x6 =>
  Option.bind (Qch x6 p2 p3) fun r7 =>
  if r7 = true then
   some v4
  else
   Qa4 p1 p2 p3 n (w64 (v4 + 1))
 else
  some (-1)
theorem Qcf {E : Env} (hP : E.P = Try.prog) (hn : E.n = 19) (hx : FX E []) (p1 : (List (List Int))) (p2 : Int) (p3 : (List Int))  : ∀ (n : Nat) (v4 : Int) (r : Int), Qa4 p1 p2 p3 n v4 = some r → WAt E Xam (FQ (Qe2 Θ Try.f42.results.toList [] [] (I r) E)) [true, false, true, false] ⟨[(0, (AV.ro 1 (p1.map r24))), (1, (AV.fn 28 [(AV.rop (o3 p2) 0), (AV.rop (r24 p3) 0)])), (7, (I (p1.length : Int))), (8, (I v4))], [], [JJ]⟩ := by
 intro n
 induction n with
 | zero => intro v4 r h; simp only [Qa4] at h; cases h
 | succ n ih =>
  intro v4 r h
  simp only [Qa4] at h
  let Z0 := (decide (v4 < (p1.length : Int)))
  rcases itS h with ⟨c5, h⟩ | ⟨c10, h⟩
  ·obtain ⟨x6, hx6, h⟩ := bnS h
   obtain ⟨r7, hr7, h⟩ := bnS h
   let P1 : List Prop := [Z0 = true, (0 : Int) ≤ v4, (p1.map r24)[v4.toNat]? = some (r24 x6), Qaa Try.prog 28 [(AV.ro 1 (x6.map o3)), (AV.rop (o3 p2) 0), (AV.rop (r24 p3) 0)] (B r7), Qap (B r7) = true]
   have AP1 : Qb5 P1 := ⟨c5, (rd0 hx6), (rdM r24 hx6), (Qkt hr7), rfl, trivial⟩
   rcases itS h with ⟨c8, h⟩ | ⟨c9, h⟩
   ·obtain rfl := sj h
    exact gR hP hn [hT 1, hh 7 (.row (r24 x6)), hh 9 (.callV [] (B r7)), hT 10] [] .raw (P1 ++ [r7 = true, (I v4) = (I v4), Qap (I v4) = true]) (Qav AP1 ⟨c8, rfl, rfl, trivial⟩)
   ·exact gT hP hn hx [hT 1, hh 7 (.row (r24 x6)), hh 9 (.callV [] (B r7)), hF 10] [] [0, 1, 7, 8] [] (P1 ++ [r7 = false]) (Qav AP1 ⟨c9, trivial⟩) (ih (w64 (v4 + 1)) _ h)
  ·obtain rfl := sj h
   exact gR hP hn [hF 1] [] .raw [Z0 = false, (I (-1)) = (I (-1)), Qap (I (-1)) = true] ⟨c10, rfl, rfl, trivial⟩
noncomputable def Qam (p1 : (List (List Int))) (p2 : Int) (p3 : (List Int)) : Option Int :=
 Qa4 p1 p2 p3 FU 0
theorem Qct {p1 : (List (List Int))} {p2 : Int} {p3 : (List Int)} {r : Int} (h : Qam p1 p2 p3 = some r) : Qaa Try.prog 42 [(AV.ro 1 (p1.map r24)), (AV.fn 28 [(AV.rop (o3 p2) 0), (AV.rop (r24 p3) 0)])] (I r) := by
 refine gM Try.func42 19 Xam fun E hP hn hx => ?_
 unfold Qam at h
 exact (let Z0 := (I (p1.length : Int)); gT hP hn hx [hO 2 Z0] [] [0, 1, 7, 8] [] [AV.lit (.int .i64 (((p1.map r24).length : Nat) : Int)) = Z0] ⟨(Qej r24), trivial⟩ (Qcf hP hn hx p1 p2 p3 FU 0 _ h))
noncomputable def Xdm : Code := match Try.f27.body with | some c => c | none => .skip
noncomputable def Qal (p1 : (List (List Int))) (p2 : Int) (p3 : (List Int)) : Option Bool :=
 Option.bind (Qam p1 p2 p3) fun r4 =>
 some (decide (r4 ≥ 0))
theorem Qcu {p1 : (List (List Int))} {p2 : Int} {p3 : (List Int)} {r : Bool} (h : Qal p1 p2 p3 = some r) : Qaa Try.prog 27 [(AV.ro 1 (p1.map r24)), (AV.fn 28 [(AV.rop (o3 p2) 0), (AV.rop (r24 p3) 0)])] (B r) := by
 refine gM Try.func27 9 Xdm fun E hP hn hx => ?_
 unfold Qal at h
 obtain ⟨r4, hr4, h⟩ := bnS h
 obtain rfl := sj h
 exact (let Z0 := B (decide (r4 ≥ 0)); gR hP hn [hh 3 (.callV [] (I r4))] [] .raw [Qaa Try.prog 42 [(AV.ro 1 (p1.map r24)), (AV.fn 28 [(AV.rop (o3 p2) 0), (AV.rop (r24 p3) 0)])] (I r4), Qap (I r4) = true, Z0 = Z0, Qap Z0 = true] ⟨(Qct hr4), rfl, rfl, rfl, trivial⟩)
noncomputable def Xdb : Code := match Try.f26.body with | some c => c | none => .skip
noncomputable def Qe7 (p1 : Int) (p2 : (List (List Int))) (p3 : (List Int)) : Option Bool :=
 Option.bind (Qal p2 p1 p3) fun r4 =>
 some (!r4)
theorem Qmh {p1 : Int} {p2 : (List (List Int))} {p3 : (List Int)} {r : Bool} (h : Qe7 p1 p2 p3 = some r) : Qaa Try.prog 26 [(I p1), (AV.rop (r35 p2) 0), (AV.rop (r24 p3) 0)] (B r) := by
 refine gM Try.func26 9 Xdb fun E hP hn hx => ?_
 unfold Qe7 at h
 obtain ⟨r4, hr4, h⟩ := bnS h
 obtain rfl := sj h
 exact gR hP hn [hW 0 1001, hh 4 (.callV [[]] (B r4))] [] .raw [Qaa Try.prog 27 [(AV.ro 1 (p2.map r24)), (AV.fn 28 [(AV.rop (o3 p1) 0), (AV.rop (r24 p3) 0)])] (B r4), Qap (B r4) = true, (B (!r4)) = (B (!r4)), Qap (B (!r4)) = true] ⟨(Qcu hr4), rfl, rfl, rfl, trivial⟩
noncomputable def Xar : Code := match Try.f25.body with | some c => c | none => .skip
noncomputable def Qa2  (p1 : (List Int)) (p2 : (List (List Int))) (p3 : (List Int)) : Nat → Int → Option Int
 | 0, _ => none
 | n + 1, v4 =>
 if (decide (v4 < (p1.length : Int))) = true then
  Option.bind (rd p1 v4) fun x6 =>
  Option.bind (Qe7 x6 p2 p3) fun r7 =>
  if r7 = true then
   some v4
  else
   Qa2 p1 p2 p3 n (w64 (v4 + 1))
 else
  some (-1)
theorem Qcq {E : Env} (hP : E.P = Try.prog) (hn : E.n = 19) (hx : FX E []) (p1 : (List Int)) (p2 : (List (List Int))) (p3 : (List Int))  : ∀ (n : Nat) (v4 : Int) (r : Int), Qa2 p1 p2 p3 n v4 = some r → WAt E Xar (FQ (Qe2 Θ Try.f25.results.toList [] [] (I r) E)) [true, false, true, false] ⟨[(0, (AV.ro 1 (p1.map o3))), (1, (AV.fn 26 [(AV.rop (r35 p2) 0), (AV.rop (r24 p3) 0)])), (7, (I (p1.length : Int))), (8, (I v4))], [], [JJ]⟩ := by
 intro n
 induction n with
 | zero => intro v4 r h; simp only [Qa2] at h; cases h
 | succ n ih =>
  intro v4 r h
  simp only [Qa2] at h
  let Z0 := (decide (v4 < (p1.length : Int)))
  rcases itS h with ⟨c5, h⟩ | ⟨c10, h⟩
  ·obtain ⟨x6, hx6, h⟩ := bnS h
   obtain ⟨r7, hr7, h⟩ := bnS h
   let P1 : List Prop := [Z0 = true, (0 : Int) ≤ v4, (p1.map o3)[v4.toNat]? = some (o3 x6), Qaa Try.prog 26 [(I x6), (AV.rop (r35 p2) 0), (AV.rop (r24 p3) 0)] (B r7), Qap (B r7) = true]
   have AP1 : Qb5 P1 := ⟨c5, (rd0 hx6), (rdM o3 hx6), (Qmh hr7), rfl, trivial⟩
   rcases itS h with ⟨c8, h⟩ | ⟨c9, h⟩
   ·obtain rfl := sj h
    exact gR hP hn [hT 1, hh 7 (.row (o3 x6)), hh 9 (.callV [] (B r7)), hT 10] [] .raw (P1 ++ [r7 = true, (I v4) = (I v4), Qap (I v4) = true]) (Qav AP1 ⟨c8, rfl, rfl, trivial⟩)
   ·exact gT hP hn hx [hT 1, hh 7 (.row (o3 x6)), hh 9 (.callV [] (B r7)), hF 10] [] [0, 1, 7, 8] [] (P1 ++ [r7 = false]) (Qav AP1 ⟨c9, trivial⟩) (ih (w64 (v4 + 1)) _ h)
  ·obtain rfl := sj h
   exact gR hP hn [hF 1] [] .raw [Z0 = false, (I (-1)) = (I (-1)), Qap (I (-1)) = true] ⟨c10, rfl, rfl, trivial⟩
noncomputable def Qa9 (p1 : (List Int)) (p2 : (List (List Int))) (p3 : (List Int)) : Option Int :=
 Qa2 p1 p2 p3 FU 0
theorem Qd4 {p1 : (List Int)} {p2 : (List (List Int))} {p3 : (List Int)} {r : Int} (h : Qa9 p1 p2 p3 = some r) : Qaa Try.prog 25 [(AV.ro 1 (p1.map o3)), (AV.fn 26 [(AV.rop (r35 p2) 0), (AV.rop (r24 p3) 0)])] (I r) := by
 refine gM Try.func25 19 Xar fun E hP hn hx => ?_
 unfold Qa9 at h
 exact (let Z0 := (I (p1.length : Int)); gT hP hn hx [hO 2 Z0] [] [0, 1, 7, 8] [] [AV.lit (.int .i64 (((p1.map o3).length : Nat) : Int)) = Z0] ⟨(Qej o3), trivial⟩ (Qcq hP hn hx p1 p2 p3 FU 0 _ h))
noncomputable def Xb8 : Code := match Try.f7.body with | some c => c | none => .skip
noncomputable def Qb4   : Nat → (List Int) → (List (List Int)) → (List Int) → Option ((List Int) × Bool)
 | 0, _, _, _ => none
 | n + 1, a19, a20, a21 =>
 if (decide ((a19.length : Int) > 0)) = true then
  Option.bind (Qa9 a19 a20 a19) fun r23 =>
  if (decide (r23 < 0)) = true then
   some ([], false)
  else
   Option.bind (rd a19 r23) fun x26 =>
   Option.bind (app a21 [x26]) fun l27 =>
   Option.bind (Qbo a19 r23 (w64 (r23 + 1))) fun r28 =>
   Qb4 n r28 a20 l27
 else
  some (a21, true)
theorem Qlx {E : Env} (hP : E.P = Try.prog) (hn : E.n = 55) (hx : FX E [])   : ∀ (n : Nat) (a19 : (List Int)) (a20 : (List (List Int))) (a21 : (List Int)) (r : ((List Int) × Bool)), Qb4  n a19 a20 a21 = some r → WAt E Xb8 (FQ (Qe2 Θ Try.f7.results.toList [] [] (AV.tup [(AV.own 3 1 (r.1.map o3)), (B r.2)]) E)) [true, true, true, true, true, false, false] ⟨[(4, (AV.ptr 1 0 0)), (5, (AV.ptr 2 0 0)), (6, (AV.sl 3 0 (List.length (a21.map o3))))], [(1, some ⟨24, 1, [[(AV.own 3 1 (a19.map o3))]]⟩), (2, some ⟨35, 1, [[(AV.own 24 1 (a20.map o24))]]⟩), (3, some ⟨3, 1, (a21.map o3)⟩)], [1, 2, 3, JJ]⟩ := by
 intro n
 induction n with
 | zero => intro a19 a20 a21 r h; simp only [Qb4] at h; cases h
 | succ n ih =>
  intro a19 a20 a21 r h
  simp only [Qb4] at h
  let Z0 := a19.map o3; let Z1 := [(AV.own 3 1 Z0)]; let Z2 := AV.sl 1001 0 Z0.length; let Z3 := (I (a19.length : Int)); let Z4 := ((Z0.length : Nat) : Int); let Z5 := [(AV.own 24 1 (a20.map o24))]; let Z6 := (decide ((a19.length : Int) > 0)); let Z7 := Qao.mk 3 1 Z0; let Z12 := a21.map o3
  let H1 : List Hn := [hh 0 (.unpack 1 1001 0 0 Z1 3 1 Z0 [[Z2]]), hO 1 Z3]
  let P2 : List Prop := [[Z1][0]? = some Z1, Z1[0]? = some (AV.own 3 1 Z0), 0 < 1, [Z1].set 0 (Z1.set 0 Z2) = [[Z2]], AV.lit (.int .i64 Z4) = Z3]
  have AP2 : Qb5 P2 := ⟨rfl, rfl, (by decide), rfl, (Qej o3), trivial⟩
  rcases itS h with ⟨c22, h⟩ | ⟨c29, h⟩
  ·obtain ⟨r23, hr23, h⟩ := bnS h
   let H3 : List Hn := H1 ++ [hT 3, hh 6 (.callD [1001] [Z0, [Z5, (r35 a20)], [[Z2], (r24 a19)]] (I r23) [])]
   let P4 : List Prop := P2 ++ [Z6 = true, Qaa Try.prog 25 [(AV.ro 1 Z0), (AV.fn 26 [(AV.rop (r35 a20) 0), (AV.rop (r24 a19) 0)])] (I r23), Qek (I r23) = true, Qzq [(1001, Z7)] ((Z0.drop 0).take Z0.length) = some Z0, [Z5][0]? = some Z5, rsL [(1001, Z7)] Z5 = some (r35 a20), [[Z2]][0]? = some [Z2], rsL [(1001, Z7)] [Z2] = some (r24 a19)]
   have AP4 : Qb5 P4 := Qav AP2 ⟨c22, (Qd4 hr23), rfl, (rsW (Quz t3 z3 _)), rfl, (Quc (t35 a20) (z35 a20)), rfl, (Xcv (Xe4 (R := ⟨3, 1, Z0⟩) rfl (Qoz t3 z3)) rfl), trivial⟩
   rcases itS h with ⟨c24, h⟩ | ⟨c25, h⟩
   ·obtain rfl := sj h
    exact gR hP hn (H3 ++ [hT 10]) [] (.agg [.own, .raw]) (P4 ++ [(decide (r23 < 0)) = true, (B false) = (B false), Qap (B false) = true]) (Qav AP4 ⟨c24, rfl, rfl, trivial⟩)
   ·obtain ⟨x26, hx26, h⟩ := bnS h
    obtain ⟨l27, hl27, h⟩ := bnS h
    obtain ⟨r28, hr28, h⟩ := bnS h
    exact (let Z8 := l27.map o3; let Z9 := r28.map o3; let Z10 := AV.own 3 1 Z9; let Z11 := AV.sl 1004 0 Z9.length; let Z13 := (([x26].map o3).drop 0).take ([x26].map o3).length; let Z14 := rtf (Qff [] Z10) [1004]; gT hP hn hx (H3 ++ [hF 10, hh 15 (.row [(I x26)]), hW 16 1002, hh 17 (.app 1003 Z8), hh 23 (.callX [1001] [false] [⟨3, 1, Z0⟩] [⟨3, 1, Z0⟩] [] Z10 [1004] Z11 [(1004, ⟨3, 1, Z9⟩)]), hh 25 (.pack 1 1004 0 0 [Z11] [[Z10]])]) [(1, 1), (2, 2), (1003, 3)] [4, 5, 6] [] (P4 ++ [(decide (r23 < 0)) = false, (0 : Int) ≤ r23, r23 < Z4, Z0[r23.toNat]? = some [(I x26)], Z12.take Z12.length ++ Z13 = Z8, Z13.all (fun r => r.all AV.plain) = true, Z8.length * 8 ≤ 140737488355328, Z8.length ≤ 140737488355328, Qd3 Try.prog 30 [⟨3, 1, Z0⟩] [(AV.sl 0 0 Z0.length), (I r23), (I (w64 (r23 + 1)))] [false] [⟨3, 1, Z0⟩] Z10, (some Z7 = some Z7) ∧ True, (Qac Z0 = true ∧ Qaz Z0 = true) ∧ True, (Z0.length = Z0.length) ∧ True, Z14.1 = Z11, Z14.2.1 = [(1004, ⟨3, 1, Z9⟩)], [[Z11]][0]? = some [Z11], [Z11][0]? = some Z11, Qac Z9 = true, [[Z11]].set 0 ([Z11].set 0 Z10) = [[Z10]], Qa5 [(1, 1), (2, 2), (1003, 3)] [[Z10]], Qa5 [(1, 1), (2, 2), (1003, 3)] [Z5], Qa5 [(1, 1), (2, 2), (1003, 3)] Z8]) (Qav AP4 ⟨c25, (rd0 hx26), (rdL o3 hx26), (rdM o3 hx26), (Qp6 o3 hl27), (plD pa3), (Quf o3 hl27 (by decide)), (Qux o3 hl27), (Qh7 hr28), ⟨rfl, trivial⟩, ⟨⟨Qa6 t3, Qbd n3⟩, trivial⟩, ⟨rfl, trivial⟩, rfl, rfl, rfl, rfl, (Qa6 t3), rfl, (rok (Qis t24 r28)), (rok (Qis t35 a20)), (rok (Qa6 t3)), trivial⟩) (ih r28 a20 l27 _ h))
  ·obtain rfl := sj h
   exact gR hP hn (H1 ++ [hF 3]) [] (.agg [.own, .raw]) (P2 ++ [Z6 = false, Qac (Z12.take Z12.length) = true, Z12.take Z12.length = Z12, Qaz Z12 = true, (B true) = (B true), Qap (B true) = true]) (Qav AP2 ⟨c29, (Qgc t3), Qgi, (Qbd n3), rfl, rfl, trivial⟩)
noncomputable def Qbp  (p1 : (List Qa0)) : Nat → (List Int) → (List (List Int)) → (List Int) → Int → Option ((List Int) × Bool)
 | 0, _, _, _, _ => none
 | n + 1, a6, a7, a8, v9 =>
 if (decide (v9 < (p1.length : Int))) = true then
  Option.bind (rd p1 v9) fun x11 =>
  Option.bind (Qb0 x11) fun r12 =>
  if (decide (r12 ≥ 0)) = true then
   Option.bind (Qb0 x11) fun r14 =>
   Option.bind (app a6 [r14]) fun l15 =>
   Qbp p1 n l15 a7 a8 (w64 (v9 + 1))
  else
   Qbp p1 n a6 a7 a8 (w64 (v9 + 1))
 else
  Option.bind (Qfv a6) fun r18 =>
  Qb4 FU r18 a7 a8
theorem Qle {E : Env} (hP : E.P = Try.prog) (hn : E.n = 55) (hx : FX E []) (p1 : (List Qa0))  : ∀ (n : Nat) (a6 : (List Int)) (a7 : (List (List Int))) (a8 : (List Int)) (v9 : Int) (r : ((List Int) × Bool)), Qbp p1 n a6 a7 a8 v9 = some r → WAt E Xb8 (FQ (Qe2 Θ Try.f7.results.toList [] [] (AV.tup [(AV.own 3 1 (r.1.map o3)), (B r.2)]) E)) [true, true, true, false, true, false] ⟨[(4, (AV.ptr 1 0 0)), (5, (AV.ptr 2 0 0)), (6, (AV.sl 3 0 (List.length (a8.map o3)))), (17, (AV.ro 5 (p1.map o39))), (18, (I (p1.length : Int))), (19, (I v9))], [(1, some ⟨24, 1, [[(AV.own 3 1 (a6.map o3))]]⟩), (2, some ⟨35, 1, [[(AV.own 24 1 (a7.map o24))]]⟩), (3, some ⟨3, 1, (a8.map o3)⟩)], [1, 2, 3, JJ]⟩ := by
 intro n
 induction n with
 | zero => intro a6 a7 a8 v9 r h; simp only [Qbp] at h; cases h
 | succ n ih =>
  intro a6 a7 a8 v9 r h
  simp only [Qbp] at h
  let Z0 := (decide (v9 < (p1.length : Int))); let Z2 := a6.map o3; let Z3 := AV.own 3 1 Z2; let Z4 := AV.sl 1002 0 Z2.length; let Z9 := [[(AV.own 24 1 (a7.map o24))]]; let Z10 := AV.sl 1005 0 Z2.length
  rcases itS h with ⟨c10, h⟩ | ⟨c17, h⟩
  ·obtain ⟨x11, hx11, h⟩ := bnS h
   obtain ⟨r12, hr12, h⟩ := bnS h
   let Z1 := [(AV.agg ((o39 x11)))]
   let P1 : List Prop := [Z0 = true, (0 : Int) ≤ v9, (p1.map o39)[v9.toNat]? = some (o39 x11), Qaa Try.prog 23 Z1 (I r12), Qap (I r12) = true]
   have AP1 : Qb5 P1 := ⟨c10, (rd0 hx11), (rdM o39 hx11), (Qcp hr12), rfl, trivial⟩
   rcases itS h with ⟨c13, h⟩ | ⟨c16, h⟩
   ·obtain ⟨r14, hr14, h⟩ := bnS h
    obtain ⟨l15, hl15, h⟩ := bnS h
    exact (let Z5 := l15.map o3; let Z6 := AV.sl 1004 0 Z5.length; let Z7 := [[(AV.own 3 1 Z5)]]; let Z8 := (([r14].map o3).drop 0).take ([r14].map o3).length; gT hP hn hx [hT 1, hh 2 (.row (o39 x11)), hW 4 1001, hh 7 (.callV [[]] (I r12)), hT 9, hh 10 (.unpack 1 1002 0 0 [Z3] 3 1 Z2 [[Z4]]), hh 12 (.callV [[]] (I r14)), hW 13 1003, hh 15 (.app 1004 Z5), hh 19 (.pack 1 1004 0 0 [Z6] Z7)] [(1, 1), (2, 2), (3, 3)] [4, 5, 6, 17, 18, 19] [] (P1 ++ [(decide (r12 ≥ 0)) = true, [[Z3]][0]? = some [Z3], [Z3][0]? = some Z3, 0 < 1, [[Z3]].set 0 ([Z3].set 0 Z4) = [[Z4]], Qaa Try.prog 23 Z1 (I r14), Qap (I r14) = true, Z4 = Z4, Z2.take Z2.length ++ Z8 = Z5, Z8.all (fun r => r.all AV.plain) = true, Z5.length * 8 ≤ 140737488355328, Z5.length ≤ 140737488355328, [[Z6]][0]? = some [Z6], [Z6][0]? = some Z6, Qac Z5 = true, [[Z6]].set 0 ([Z6].set 0 (AV.own 3 1 Z5)) = Z7, Qa5 [(1, 1), (2, 2), (3, 3)] Z7, Qa5 [(1, 1), (2, 2), (3, 3)] Z9, Qa5 [(1, 1), (2, 2), (3, 3)] (a8.map o3)]) (Qav AP1 ⟨c13, rfl, rfl, (by decide), rfl, (Qcp hr14), rfl, rfl, (Qp6 o3 hl15), (plD pa3), (Quf o3 hl15 (by decide)), (Qux o3 hl15), rfl, rfl, (Qa6 t3), rfl, (rok (Qis t24 l15)), (rok (Qis t35 a7)), (rok (Qa6 t3)), trivial⟩) (ih l15 a7 a8 (w64 (v9 + 1)) _ h))
   ·exact gT hP hn hx [hT 1, hh 2 (.row (o39 x11)), hW 4 1001, hh 7 (.callV [[]] (I r12)), hF 9] [(1, 1), (2, 2), (3, 3)] [4, 5, 6, 17, 18, 19] [] (P1 ++ [(decide (r12 ≥ 0)) = false, Qa5 [(1, 1), (2, 2), (3, 3)] [[Z3]], Qa5 [(1, 1), (2, 2), (3, 3)] Z9, Qa5 [(1, 1), (2, 2), (3, 3)] (a8.map o3)]) (Qav AP1 ⟨c16, (rok (Qis t24 a6)), (rok (Qis t35 a7)), (rok (Qa6 t3)), trivial⟩) (ih a6 a7 a8 (w64 (v9 + 1)) _ h)
  ·obtain ⟨r18, hr18, h⟩ := bnS h
   exact (let Z11 := r18.map o3; let Z12 := AV.own 3 1 Z11; let Z13 := AV.sl 1006 0 Z11.length; let Z14 := rtf (Qff [] Z12) [1006]; gT hP hn hx [hF 1, hh 2 (.unpack 1 1005 0 0 [Z3] 3 1 Z2 [[Z10]]), hh 3 (.callX [1005] [false] [⟨3, 1, Z2⟩] [⟨3, 1, Z2⟩] [] Z12 [1006] Z13 [(1006, ⟨3, 1, Z11⟩)]), hh 5 (.pack 1 1006 0 0 [Z13] [[Z12]])] [(1, 1), (2, 2), (3, 3)] [4, 5, 6] [] [Z0 = false, [[Z3]][0]? = some [Z3], [Z3][0]? = some Z3, 0 < 1, [[Z3]].set 0 ([Z3].set 0 Z10) = [[Z10]], Qd3 Try.prog 24 [⟨3, 1, Z2⟩] [(AV.sl 0 0 Z2.length)] [false] [⟨3, 1, Z2⟩] Z12, (some (Qao.mk 3 1 Z2) = some (Qao.mk 3 1 Z2)) ∧ True, (Qac Z2 = true ∧ Qaz Z2 = true) ∧ True, (Z2.length = Z2.length) ∧ True, Z14.1 = Z13, Z14.2.1 = [(1006, ⟨3, 1, Z11⟩)], [[Z13]][0]? = some [Z13], [Z13][0]? = some Z13, Qac Z11 = true, [[Z13]].set 0 ([Z13].set 0 Z12) = [[Z12]], Qa5 [(1, 1), (2, 2), (3, 3)] [[Z12]], Qa5 [(1, 1), (2, 2), (3, 3)] Z9, Qa5 [(1, 1), (2, 2), (3, 3)] (a8.map o3)] ⟨c17, rfl, rfl, (by decide), rfl, (Qqr hr18), ⟨rfl, trivial⟩, ⟨⟨Qa6 t3, Qbd n3⟩, trivial⟩, ⟨rfl, trivial⟩, rfl, rfl, rfl, rfl, (Qa6 t3), rfl, (rok (Qis t24 r18)), (rok (Qis t35 a7)), (rok (Qa6 t3)), trivial⟩ (Qlx hP hn hx FU r18 a7 a8 _ h))
noncomputable def Qdt (p1 : (List Qa0)) : Option ((List Int) × Bool) :=
 Option.bind (Qe3 p1) fun r2 =>
 if (!r2) = true then
  some ([], false)
 else
  Option.bind (Qe8 p1) fun r5 =>
  Qbp p1 FU [] r5 [] 0
theorem Qiz {p1 : (List Qa0)} {r : ((List Int) × Bool)} (h : Qdt p1 = some r) : Qaa Try.prog 7 [(AV.ro 5 (p1.map o39))] (AV.tup [(AV.own 3 1 (r.1.map o3)), (B r.2)]) := by
 refine gM Try.func7 55 Xb8 fun E hP hn hx => ?_
 unfold Qdt at h
 obtain ⟨r2, hr2, h⟩ := bnS h
 let Z0 := [(AV.ro 5 (p1.map o39))]; let Z2 := (I (p1.length : Int)); let Z3 := [].map o3; let Z4 := AV.sl 1001 0 Z3.length; let Z5 := [[(AV.own 3 1 Z3)]]
 rcases itS h with ⟨c3, h⟩ | ⟨c4, h⟩
 ·obtain rfl := sj h
  exact gR hP hn [hh 3 (.callV [] (B r2)), hT 5] [] (.agg [.own, .raw]) [Qaa Try.prog 21 Z0 (B r2), Qap (B r2) = true, (!r2) = true, (B false) = (B false), Qap (B false) = true] ⟨(Qhj hr2), rfl, c3, rfl, rfl, trivial⟩
 ·obtain ⟨r5, hr5, h⟩ := bnS h
  exact (let Z1 := AV.own 24 1 (r5.map o24); let Z6 := AV.sl 1002 0 (r5.map o24).length; gT hP hn hx [hh 3 (.callV [] (B r2)), hF 5, hW 6 1001, hh 8 (.call [] Z1 [1002]), hW 9 1003, hW 10 1004, hW 11 1005, hO 16 Z2, hh 18 (.pack 1004 1001 0 0 [Z4] Z5), hh 18 (.pack 1005 1002 0 0 [Z6] [[Z1]])] [(1004, 1), (1005, 2), (1003, 3)] [4, 5, 6, 17, 18, 19] [] [Qaa Try.prog 21 Z0 (B r2), Qap (B r2) = true, (!r2) = false, Qaa Try.prog 22 Z0 Z1, Qek Z1 = true, AV.lit (.int .i64 (((p1.map o39).length : Nat) : Int)) = Z2, [[Z4]][0]? = some [Z4], [Z4][0]? = some Z4, Qac Z3 = true, [[Z4]].set 0 ([Z4].set 0 (AV.own 3 1 Z3)) = Z5, [[Z6]][0]? = some [Z6], [Z6][0]? = some Z6, Qac (r5.map o24) = true, [[Z6]].set 0 ([Z6].set 0 Z1) = [[Z1]], Qa5 [(1004, 1), (1005, 2), (1003, 3)] Z5, Qa5 [(1004, 1), (1005, 2), (1003, 3)] [[Z1]], Qa5 [(1004, 1), (1005, 2), (1003, 3)] Z3] ⟨(Qhj hr2), rfl, c4, (Qmj hr5), (by simp +zetaDelta only [Qek, Qdn, Qbd n24, Bool.and_self]), (Qej o39), rfl, rfl, (Qa6 t3), rfl, rfl, rfl, (Qa6 t24), rfl, (rok (Qis t24 [])), (rok (Qis t35 r5)), (rok (Qa6 t3)), trivial⟩ (Qle hP hn hx p1 FU [] r5 [] 0 _ h))
noncomputable def Xe7 : Code := match Try.f31.body with | some c => c | none => .skip
noncomputable def Qef (p1 : Qa0) (p2 : Qa0) : Option Bool :=
 if (p1.Thread != p2.Thread) = true then
  some false
 else
  if (p1.Kind != p2.Kind) = true then
   some false
  else
   if (p1.Obj != p2.Obj) = true then
    some false
   else
    if (p1.Lock != p2.Lock) = true then
     some false
    else
     if (p1.Pc != p2.Pc) = true then
      some false
     else
      some true
theorem Qp3 {p1 : Qa0} {p2 : Qa0} {r : Bool} (h : Qef p1 p2 = some r) : Qaa Try.prog 31 [(AV.agg ((o39 p1))), (AV.agg ((o39 p2)))] (B r) := by
 refine gM Try.func31 30 Xe7 fun E hP hn hx => ?_
 unfold Qef at h
 let Z0 := p1.Thread != p2.Thread; let Z1 := B false; let Z2 := p1.Kind != p2.Kind; let Z3 := p1.Lock != p2.Lock
 let H1 : List Hn := [hW 0 1001, hW 1 1002]
 rcases itS h with ⟨c3, h⟩ | ⟨c4, h⟩
 ·obtain rfl := sj h
  exact gR hP hn (H1 ++ [hT 8]) [] .raw [Z0 = true, Z1 = Z1, Qap Z1 = true] ⟨c3, rfl, rfl, trivial⟩
 ·let P2 : List Prop := [Z0 = false]
  have AP2 : Qb5 P2 := ⟨c4, trivial⟩
  rcases itS h with ⟨c5, h⟩ | ⟨c6, h⟩
  ·obtain rfl := sj h
   exact gR hP hn (H1 ++ [hF 8, hT 14]) [] .raw (P2 ++ [Z2 = true, Z1 = Z1, Qap Z1 = true]) (Qav AP2 ⟨c5, rfl, rfl, trivial⟩)
  ·rcases itS h with ⟨c7, h⟩ | ⟨c8, h⟩
   ·obtain rfl := sj h
    exact gR hP hn (H1 ++ [hF 8, hF 14, hT 20]) [] .raw (P2 ++ [Z2 = false, (p1.Obj != p2.Obj) = true, Z1 = Z1, Qap Z1 = true]) (Qav AP2 ⟨c6, c7, rfl, rfl, trivial⟩)
   ·let P3 : List Prop := P2 ++ [Z2 = false, (p1.Obj != p2.Obj) = false]
    have AP3 : Qb5 P3 := Qav AP2 ⟨c6, c8, trivial⟩
    rcases itS h with ⟨c9, h⟩ | ⟨c10, h⟩
    ·obtain rfl := sj h
     exact gR hP hn (H1 ++ [hF 8, hF 14, hF 20, hT 26]) [] .raw (P3 ++ [Z3 = true, Z1 = Z1, Qap Z1 = true]) (Qav AP3 ⟨c9, rfl, rfl, trivial⟩)
    ·rcases itS h with ⟨c11, h⟩ | ⟨c12, h⟩
     ·obtain rfl := sj h
      exact gR hP hn (H1 ++ [hF 8, hF 14, hF 20, hF 26, hT 32]) [] .raw (P3 ++ [Z3 = false, (p1.Pc != p2.Pc) = true, Z1 = Z1, Qap Z1 = true]) (Qav AP3 ⟨c10, c11, rfl, rfl, trivial⟩)
     ·obtain rfl := sj h
      exact gR hP hn (H1 ++ [hF 8, hF 14, hF 20, hF 26, hF 32]) [] .raw (P3 ++ [Z3 = false, (p1.Pc != p2.Pc) = false, (B true) = (B true), Qap (B true) = true]) (Qav AP3 ⟨c10, c12, rfl, rfl, trivial⟩)
noncomputable def Xcx : Code := match Try.f9.body with | some c => c | none => .skip
noncomputable def Qcl  (p1 : (List Qa0)) (p2 : (List Qa0)) : Nat → Int → Option Bool
 | 0, _ => none
 | n + 1, v5 =>
 if (decide (v5 < (p1.length : Int))) = true then
  Option.bind (rd p1 v5) fun x7 =>
  Option.bind (rd p2 v5) fun x8 =>
  Option.bind (Qef x7 x8) fun r9 =>
  if (!r9) = true then
   some false
  else
   Qcl p1 p2 n (w64 (v5 + 1))
 else
  some true
theorem Qk4 {E : Env} (hP : E.P = Try.prog) (hn : E.n = 27) (hx : FX E []) (p1 : (List Qa0)) (p2 : (List Qa0))  : ∀ (n : Nat) (v5 : Int) (r : Bool), Qcl p1 p2 n v5 = some r → WAt E Xcx (FQ (Qe2 Θ Try.f9.results.toList [] [] (B r) E)) [true, true, false, true, false] ⟨[(0, (AV.ro 5 (p1.map o39))), (1, (AV.ro 5 (p2.map o39))), (5, (I v5))], [], [JJ]⟩ := by
 intro n
 induction n with
 | zero => intro v5 r h; simp only [Qcl] at h; cases h
 | succ n ih =>
  intro v5 r h
  simp only [Qcl] at h
  let Z0 := (I (p1.length : Int)); let Z1 := (decide (v5 < (p1.length : Int)))
  let P1 : List Prop := [AV.lit (.int .i64 (((p1.map o39).length : Nat) : Int)) = Z0]
  have AP1 : Qb5 P1 := ⟨(Qej o39), trivial⟩
  rcases itS h with ⟨c6, h⟩ | ⟨c12, h⟩
  ·obtain ⟨x7, hx7, h⟩ := bnS h
   obtain ⟨x8, hx8, h⟩ := bnS h
   obtain ⟨r9, hr9, h⟩ := bnS h
   let H2 : List Hn := [hO 2 Z0, hT 4, hh 7 (.row (o39 x7)), hh 11 (.row (o39 x8)), hh 13 (.callV [[], []] (B r9))]
   let P3 : List Prop := P1 ++ [Z1 = true, (0 : Int) ≤ v5, (p1.map o39)[v5.toNat]? = some (o39 x7), (0 : Int) ≤ v5, (p2.map o39)[v5.toNat]? = some (o39 x8), Qaa Try.prog 31 [(AV.agg ((o39 x7))), (AV.agg ((o39 x8)))] (B r9), Qap (B r9) = true]
   have AP3 : Qb5 P3 := Qav AP1 ⟨c6, (rd0 hx7), (rdM o39 hx7), (rd0 hx8), (rdM o39 hx8), (Qp3 hr9), rfl, trivial⟩
   rcases itS h with ⟨c10, h⟩ | ⟨c11, h⟩
   ·obtain rfl := sj h
    exact gR hP hn (H2 ++ [hT 15]) [] .raw (P3 ++ [(!r9) = true, (B false) = (B false), Qap (B false) = true]) (Qav AP3 ⟨c10, rfl, rfl, trivial⟩)
   ·exact gT hP hn hx (H2 ++ [hF 15]) [] [0, 1, 5] [] (P3 ++ [(!r9) = false]) (Qav AP3 ⟨c11, trivial⟩) (ih (w64 (v5 + 1)) _ h)
  ·obtain rfl := sj h
   exact gR hP hn [hO 2 Z0, hF 4] [] .raw (P1 ++ [Z1 = false, (B true) = (B true), Qap (B true) = true]) (Qav AP1 ⟨c12, rfl, rfl, trivial⟩)
noncomputable def Qel (p1 : (List Qa0)) (p2 : (List Qa0)) : Option Bool :=
 if ((p1.length : Int) != (p2.length : Int)) = true then
  some false
 else
  Qcl p1 p2 FU 0
theorem Qns {p1 : (List Qa0)} {p2 : (List Qa0)} {r : Bool} (h : Qel p1 p2 = some r) : Qaa Try.prog 9 [(AV.ro 5 (p1.map o39)), (AV.ro 5 (p2.map o39))] (B r) := by
 refine gM Try.func9 27 Xcx fun E hP hn hx => ?_
 unfold Qel at h
 let Z0 := (I (p1.length : Int)); let Z1 := (I (p2.length : Int)); let Z2 := ((p1.length : Int) != (p2.length : Int))
 let P1 : List Prop := [AV.lit (.int .i64 (((p1.map o39).length : Nat) : Int)) = Z0, AV.lit (.int .i64 (((p2.map o39).length : Nat) : Int)) = Z1]
 have AP1 : Qb5 P1 := ⟨(Qej o39), (Qej o39), trivial⟩
 rcases itS h with ⟨c3, h⟩ | ⟨c4, h⟩
 ·obtain rfl := sj h
  exact gR hP hn [hO 2 Z0, hO 4 Z1, hT 6] [] .raw (P1 ++ [Z2 = true, (B false) = (B false), Qap (B false) = true]) (Qav AP1 ⟨c3, rfl, rfl, trivial⟩)
 ·exact gT hP hn hx [hO 2 Z0, hO 4 Z1, hF 6] [] [0, 1, 5] [] (P1 ++ [Z2 = false]) (Qav AP1 ⟨c4, trivial⟩) (Qk4 hP hn hx p1 p2 FU 0 _ h)
noncomputable def Xdi : Code := match Try.f8.body with | some c => c | none => .skip
noncomputable def Qdk  (p1 : (List Int)) (p2 : (List Int)) : Nat → Int → Option Bool
 | 0, _ => none
 | n + 1, v5 =>
 if (decide (v5 < (p1.length : Int))) = true then
  Option.bind (rd p1 v5) fun x7 =>
  Option.bind (rd p2 v5) fun x8 =>
  if (x7 != x8) = true then
   some false
  else
   Qdk p1 p2 n (w64 (v5 + 1))
 else
  some true
theorem Qmp {E : Env} (hP : E.P = Try.prog) (hn : E.n = 26) (hx : FX E []) (p1 : (List Int)) (p2 : (List Int))  : ∀ (n : Nat) (v5 : Int) (r : Bool), Qdk p1 p2 n v5 = some r → WAt E Xdi (FQ (Qe2 Θ Try.f8.results.toList [] [] (B r) E)) [true, true, false, true, false] ⟨[(0, (AV.ro 1 (p1.map o3))), (1, (AV.ro 1 (p2.map o3))), (5, (I v5))], [], [JJ]⟩ := by
 intro n
 induction n with
 | zero => intro v5 r h; simp only [Qdk] at h; cases h
 | succ n ih =>
  intro v5 r h
  simp only [Qdk] at h
  let Z0 := (I (p1.length : Int)); let Z1 := (decide (v5 < (p1.length : Int)))
  let P1 : List Prop := [AV.lit (.int .i64 (((p1.map o3).length : Nat) : Int)) = Z0]
  have AP1 : Qb5 P1 := ⟨(Qej o3), trivial⟩
  rcases itS h with ⟨c6, h⟩ | ⟨c11, h⟩
  ·obtain ⟨x7, hx7, h⟩ := bnS h
   obtain ⟨x8, hx8, h⟩ := bnS h
   let H2 : List Hn := [hO 2 Z0, hT 4, hh 7 (.row (o3 x7)), hh 11 (.row (o3 x8))]
   let P3 : List Prop := P1 ++ [Z1 = true, (0 : Int) ≤ v5, (p1.map o3)[v5.toNat]? = some (o3 x7), (0 : Int) ≤ v5, (p2.map o3)[v5.toNat]? = some (o3 x8)]
   have AP3 : Qb5 P3 := Qav AP1 ⟨c6, (rd0 hx7), (rdM o3 hx7), (rd0 hx8), (rdM o3 hx8), trivial⟩
   rcases itS h with ⟨c9, h⟩ | ⟨c10, h⟩
   ·obtain rfl := sj h
    exact gR hP hn (H2 ++ [hT 14]) [] .raw (P3 ++ [(x7 != x8) = true, (B false) = (B false), Qap (B false) = true]) (Qav AP3 ⟨c9, rfl, rfl, trivial⟩)
   ·exact gT hP hn hx (H2 ++ [hF 14]) [] [0, 1, 5] [] (P3 ++ [(x7 != x8) = false]) (Qav AP3 ⟨c10, trivial⟩) (ih (w64 (v5 + 1)) _ h)
  ·obtain rfl := sj h
   exact gR hP hn [hO 2 Z0, hF 4] [] .raw (P1 ++ [Z1 = false, (B true) = (B true), Qap (B true) = true]) (Qav AP1 ⟨c11, rfl, rfl, trivial⟩)
noncomputable def Qeb (p1 : (List Int)) (p2 : (List Int)) : Option Bool :=
 if ((p1.length : Int) != (p2.length : Int)) = true then
  some false
 else
  Qdk p1 p2 FU 0
theorem Qh6 {p1 : (List Int)} {p2 : (List Int)} {r : Bool} (h : Qeb p1 p2 = some r) : Qaa Try.prog 8 [(AV.ro 1 (p1.map o3)), (AV.ro 1 (p2.map o3))] (B r) := by
 refine gM Try.func8 26 Xdi fun E hP hn hx => ?_
 unfold Qeb at h
 let Z0 := (I (p1.length : Int)); let Z1 := (I (p2.length : Int)); let Z2 := ((p1.length : Int) != (p2.length : Int))
 let P1 : List Prop := [AV.lit (.int .i64 (((p1.map o3).length : Nat) : Int)) = Z0, AV.lit (.int .i64 (((p2.map o3).length : Nat) : Int)) = Z1]
 have AP1 : Qb5 P1 := ⟨(Qej o3), (Qej o3), trivial⟩
 rcases itS h with ⟨c3, h⟩ | ⟨c4, h⟩
 ·obtain rfl := sj h
  exact gR hP hn [hO 2 Z0, hO 4 Z1, hT 6] [] .raw (P1 ++ [Z2 = true, (B false) = (B false), Qap (B false) = true]) (Qav AP1 ⟨c3, rfl, rfl, trivial⟩)
 ·exact gT hP hn hx [hO 2 Z0, hO 4 Z1, hF 6] [] [0, 1, 5] [] (P1 ++ [Z2 = false]) (Qav AP1 ⟨c4, trivial⟩) (Qmp hP hn hx p1 p2 FU 0 _ h)
noncomputable def Xaj : Code := match Try.f12.body with | some c => c | none => .skip
noncomputable def Qbv  (p1 : (List Int)) : Nat → Int → Int → Option Int
 | 0, _, _ => none
 | n + 1, v3, v4 =>
 if (decide (v4 < (p1.length : Int))) = true then
  Option.bind (rd p1 v4) fun x6 =>
  if (x6 != v3) = true then
   some (-1)
  else
   Qbv p1 n (w64 (v3 + 1)) (w64 (v4 + 1))
 else
  some v3
theorem Qk7 {E : Env} (hP : E.P = Try.prog) (hn : E.n = 21) (hx : FX E []) (p1 : (List Int))  : ∀ (n : Nat) (v3 : Int) (v4 : Int) (r : Int), Qbv p1 n v3 v4 = some r → WAt E Xaj (FQ (Qe2 Θ Try.f12.results.toList [] [] (I r) E)) [true, false, true, false] ⟨[(0, (AV.ro 1 (p1.map o3))), (1, (I v3)), (5, (I v4))], [], [JJ]⟩ := by
 intro n
 induction n with
 | zero => intro v3 v4 r h; simp only [Qbv] at h; cases h
 | succ n ih =>
  intro v3 v4 r h
  simp only [Qbv] at h
  let Z0 := (I (p1.length : Int)); let Z1 := (decide (v4 < (p1.length : Int)))
  let P1 : List Prop := [AV.lit (.int .i64 (((p1.map o3).length : Nat) : Int)) = Z0]
  have AP1 : Qb5 P1 := ⟨(Qej o3), trivial⟩
  rcases itS h with ⟨c5, h⟩ | ⟨c9, h⟩
  ·obtain ⟨x6, hx6, h⟩ := bnS h
   let P2 : List Prop := P1 ++ [Z1 = true, (0 : Int) ≤ v4, (p1.map o3)[v4.toNat]? = some (o3 x6)]
   have AP2 : Qb5 P2 := Qav AP1 ⟨c5, (rd0 hx6), (rdM o3 hx6), trivial⟩
   rcases itS h with ⟨c7, h⟩ | ⟨c8, h⟩
   ·obtain rfl := sj h
    exact gR hP hn [hO 2 Z0, hT 4, hh 7 (.row (o3 x6)), hT 11] [] .raw (P2 ++ [(x6 != v3) = true, (I (-1)) = (I (-1)), Qap (I (-1)) = true]) (Qav AP2 ⟨c7, rfl, rfl, trivial⟩)
   ·exact gT hP hn hx [hO 2 Z0, hT 4, hh 7 (.row (o3 x6)), hF 11] [] [0, 1, 5] [] (P2 ++ [(x6 != v3) = false]) (Qav AP2 ⟨c8, trivial⟩) (ih (w64 (v3 + 1)) (w64 (v4 + 1)) _ h)
  ·obtain rfl := sj h
   exact gR hP hn [hO 2 Z0, hF 4] [] .raw (P1 ++ [Z1 = false, (I v3) = (I v3), Qap (I v3) = true]) (Qav AP1 ⟨c9, rfl, rfl, trivial⟩)
noncomputable def Qe1 (p1 : (List Int)) (p2 : Int) : Option Int :=
 Qbv p1 FU p2 0
theorem Qhv {p1 : (List Int)} {p2 : Int} {r : Int} (h : Qe1 p1 p2 = some r) : Qaa Try.prog 12 [(AV.ro 1 (p1.map o3)), (I p2)] (I r) := by
 refine gM Try.func12 21 Xaj fun E hP hn hx => ?_
 unfold Qe1 at h
 exact gT hP hn hx [] [] [0, 1, 5] [] [] trivial (Qk7 hP hn hx p1 FU p2 0 _ h)
noncomputable def Xa5 : Code := match Try.f10.body with | some c => c | none => .skip
noncomputable def Qb6   : Nat → (List Qa0) → Int → Int → Option (Int × (List Qa0))
 | 0, _, _, _ => none
 | n + 1, a3, v4, v5 =>
 if (decide (v5 < (a3.length : Int))) = true then
  Option.bind (rd a3 v5) fun x7 =>
  Qb6 n (a3.set (Int.toNat v5) (Qa0.mk v4 (w64 (v4 + 1)) (w64 ((w64 (v4 + 1)) + 1)) (w64 ((w64 ((w64 (v4 + 1)) + 1)) + 1)) (w64 ((w64 ((w64 ((w64 (v4 + 1)) + 1)) + 1)) + 1)))) (w64 ((w64 ((w64 ((w64 ((w64 (v4 + 1)) + 1)) + 1)) + 1)) + 1)) (w64 (v5 + 1))
 else
  some (v4, a3)
theorem Qiw {E : Env} (hP : E.P = Try.prog) (hn : E.n = 48) (hx : ∀ p, p ∈ E.fx → p.1 ∈ ([0] : List Nat))   : ∀ (n : Nat) (a3 : (List Qa0)) (v4 : Int) (v5 : Int) (r : (Int × (List Qa0))), Qb6  n a3 v4 v5 = some r → WAt E Xa5 (FQ (Qe2 Θ Try.f10.results.toList [true] [⟨39, 5, (r.2.map o39)⟩] (I r.1) E)) [true, false, true, false] ⟨[(0, (AV.sl 0 0 (List.length (a3.map o39)))), (1, (I v4)), (5, (I v5))], [(0, some ⟨39, 5, (a3.map o39)⟩)], [0, JJ]⟩ := by
 intro n
 induction n with
 | zero => intro a3 v4 v5 r h; simp only [Qb6] at h; cases h
 | succ n ih =>
  intro a3 v4 v5 r h
  simp only [Qb6] at h
  let Z0 := (I (a3.length : Int)); let Z4 := w64 (v4 + 1); let Z7 := w64 (Z4 + 1); let Z10 := w64 (Z7 + 1); let Z13 := a3.set v5.toNat (Qa0.mk v4 Z4 Z7 Z10 (w64 (Z10 + 1))); let Z14 := Z13.map o39; let Z15 := a3.map o39; let Z16 := ((Z15.length : Nat) : Int); let Z17 := (decide (v5 < (a3.length : Int))); let Z18 := [(I (w64 (Z10 + 1)))]
  rcases itS h with ⟨c6, h⟩ | ⟨c8, h⟩
  ·obtain ⟨x7, hx7, h⟩ := bnS h
   exact (let Z1 := o39 x7; let Z2 := (a3.set v5.toNat (Qa0.mk v4 x7.Kind x7.Obj x7.Lock x7.Pc)).map o39; let Z3 := [(I v4), (I x7.Kind), (I x7.Obj), (I x7.Lock), (I x7.Pc)]; let Z5 := (a3.set v5.toNat (Qa0.mk v4 Z4 x7.Obj x7.Lock x7.Pc)).map o39; let Z6 := [(I v4), (I Z4), (I x7.Obj), (I x7.Lock), (I x7.Pc)]; let Z8 := (a3.set v5.toNat (Qa0.mk v4 Z4 Z7 x7.Lock x7.Pc)).map o39; let Z9 := [(I v4), (I Z4), (I Z7), (I x7.Lock), (I x7.Pc)]; let Z11 := (a3.set v5.toNat (Qa0.mk v4 Z4 Z7 Z10 x7.Pc)).map o39; let Z12 := [(I v4), (I Z4), (I Z7), (I Z10), (I x7.Pc)]; let Z19 := Qa0.mk v4 x7.Kind x7.Obj x7.Lock x7.Pc; let Z20 := Qa0.mk v4 (w64 (v4 + 1)) x7.Obj x7.Lock x7.Pc; let Z21 := Qa0.mk v4 (w64 (v4 + 1)) (w64 ((w64 (v4 + 1)) + 1)) x7.Lock x7.Pc; let Z22 := Qa0.mk v4 (w64 (v4 + 1)) (w64 ((w64 (v4 + 1)) + 1)) (w64 ((w64 ((w64 (v4 + 1)) + 1)) + 1)) x7.Pc; gT hP hn hx [hO 2 Z0, hT 4, hh 10 (.sto Z1 Z2), hh 14 (.slen 0 Z2.length), hh 19 (.sto Z3 Z5), hh 23 (.slen 0 Z5.length), hh 28 (.sto Z6 Z8), hh 32 (.slen 0 Z8.length), hh 37 (.sto Z9 Z11), hh 41 (.slen 0 Z11.length), hh 46 (.sto Z12 Z14), hh 53 (.slen 0 Z14.length)] [(0, 0)] [0, 1, 5] [] [AV.lit (.int .i64 Z16) = Z0, Z17 = true, (0 : Int) ≤ v5, v5 < Z16, Z15[v5.toNat]? = some Z1, Z15.set v5.toNat (wr Z1 0 [(I v4)]) = Z2, [(I v4)].length = 1, 0 + [(I v4)].length ≤ Z1.length, Z15.length = Z2.length, (0 : Int) ≤ v5, v5 < ((Z2.length : Nat) : Int), Z2[v5.toNat]? = some Z3, Z2.set v5.toNat (wr Z3 1 [(I Z4)]) = Z5, [(I Z4)].length = 1, 1 + [(I Z4)].length ≤ Z3.length, Z2.length = Z5.length, (0 : Int) ≤ v5, v5 < ((Z5.length : Nat) : Int), Z5[v5.toNat]? = some Z6, Z5.set v5.toNat (wr Z6 2 [(I Z7)]) = Z8, [(I Z7)].length = 1, 2 + [(I Z7)].length ≤ Z6.length, Z5.length = Z8.length, (0 : Int) ≤ v5, v5 < ((Z8.length : Nat) : Int), Z8[v5.toNat]? = some Z9, Z8.set v5.toNat (wr Z9 3 [(I Z10)]) = Z11, [(I Z10)].length = 1, 3 + [(I Z10)].length ≤ Z9.length, Z8.length = Z11.length, (0 : Int) ≤ v5, v5 < ((Z11.length : Nat) : Int), Z11[v5.toNat]? = some Z12, Z11.set v5.toNat (wr Z12 4 Z18) = Z14, Z18.length = 1, 4 + Z18.length ≤ Z12.length, Z11.length = Z14.length, Qa5 [(0, 0)] Z14] ⟨(Qej o39), c6, (rd0 hx7), (rdL o39 hx7), (rdM o39 hx7), (Xb1 o39), rfl, leB, lnq, (rd0 hx7), (rdL o39 (rdS (y := Z19) hx7)), (rdM o39 (rdS (y := Z19) hx7)), (Qum o39), rfl, leB, lnq, (rd0 hx7), (rdL o39 (rdS (y := Z20) hx7)), (rdM o39 (rdS (y := Z20) hx7)), (Qum o39), rfl, leB, lnq, (rd0 hx7), (rdL o39 (rdS (y := Z21) hx7)), (rdM o39 (rdS (y := Z21) hx7)), (Qum o39), rfl, leB, lnq, (rd0 hx7), (rdL o39 (rdS (y := Z22) hx7)), (rdM o39 (rdS (y := Z22) hx7)), (Qum o39), rfl, leB, lnq, (rok (Qa6 t39)), trivial⟩ (ih Z13 (w64 ((w64 ((w64 ((w64 ((w64 (v4 + 1)) + 1)) + 1)) + 1)) + 1)) (w64 (v5 + 1)) _ h))
  ·obtain rfl := sj h
   exact gR hP hn [hO 2 Z0, hF 4] [] .raw [AV.lit (.int .i64 Z16) = Z0, Z17 = false, Z15 = Z15, Qac Z15 = true, Qaz Z15 = true, (I v4) = (I v4), Qap (I v4) = true] ⟨(Qej o39), c8, rfl, (Qa6 t39), (Qbd n39), rfl, rfl, trivial⟩
noncomputable def Qdo (p1 : (List Qa0)) (p2 : Int) : Option (Int × (List Qa0)) :=
 Qb6 FU p1 p2 0
theorem Qlj {p1 : (List Qa0)} {p2 : Int} {r : (Int × (List Qa0))} (h : Qdo p1 p2 = some r) : Qd3 Try.prog 10 [⟨39, 5, (p1.map o39)⟩] [(AV.sl 0 0 (List.length (p1.map o39))), (I p2)] [true] [⟨39, 5, (r.2.map o39)⟩] (I r.1) := by
 refine Qgv Qzv Try.func10 rfl (c := Xa5) (by kernel_rfl) (Nat.le_of_ble_eq_true rfl) rfl (Nat.le_of_ble_eq_true rfl) rfl (fr := [0]) (frI rfl) ?_
 intro E hP hn hx
 replace hn : E.n = 48 := hn
 unfold Qdo at h
 exact gT hP hn hx [] [(0, 0)] [0, 1, 5] [] [Qa5 [(0, 0)] (p1.map o39)] ⟨(rok (Qa6 t39)), trivial⟩ (Qiw hP hn hx FU p1 p2 0 _ h)
noncomputable def Xb3 : Code := match Try.f11.body with | some c => c | none => .skip
noncomputable def Qbf   : Nat → (List Int) → Int → Int → Option (Int × (List Int))
 | 0, _, _, _ => none
 | n + 1, a3, v4, v5 =>
 if (decide (v5 < (a3.length : Int))) = true then
  Option.bind (rd a3 v5) fun x7 =>
  Qbf n (a3.set (Int.toNat v5) v4) (w64 (v4 + 1)) (w64 (v5 + 1))
 else
  some (v4, a3)
theorem Qkx {E : Env} (hP : E.P = Try.prog) (hn : E.n = 19) (hx : ∀ p, p ∈ E.fx → p.1 ∈ ([0] : List Nat))   : ∀ (n : Nat) (a3 : (List Int)) (v4 : Int) (v5 : Int) (r : (Int × (List Int))), Qbf  n a3 v4 v5 = some r → WAt E Xb3 (FQ (Qe2 Θ Try.f11.results.toList [true] [⟨3, 1, (r.2.map o3)⟩] (I r.1) E)) [true, false, true, false] ⟨[(0, (AV.sl 0 0 (List.length (a3.map o3)))), (1, (I v4)), (5, (I v5))], [(0, some ⟨3, 1, (a3.map o3)⟩)], [0, JJ]⟩ := by
 intro n
 induction n with
 | zero => intro a3 v4 v5 r h; simp only [Qbf] at h; cases h
 | succ n ih =>
  intro a3 v4 v5 r h
  simp only [Qbf] at h
  let Z0 := (I (a3.length : Int)); let Z1 := (a3.set v5.toNat v4).map o3; let Z2 := a3.map o3; let Z3 := ((Z2.length : Nat) : Int); let Z4 := (decide (v5 < (a3.length : Int)))
  rcases itS h with ⟨c6, h⟩ | ⟨c8, h⟩
  ·obtain ⟨x7, hx7, h⟩ := bnS h
   exact gT hP hn hx [hO 2 Z0, hT 4, hh 9 (.sto [(I x7)] Z1), hh 16 (.slen 0 Z1.length)] [(0, 0)] [0, 1, 5] [] [AV.lit (.int .i64 Z3) = Z0, Z4 = true, (0 : Int) ≤ v5, v5 < Z3, Z2[v5.toNat]? = some [(I x7)], Z2.set v5.toNat (wr [(I x7)] 0 [(I v4)]) = Z1, [(I v4)].length = 1, 0 + [(I v4)].length ≤ [(I x7)].length, Z2.length = Z1.length, Qa5 [(0, 0)] Z1] ⟨(Qej o3), c6, (rd0 hx7), (rdL o3 hx7), (rdM o3 hx7), (setM o3), rfl, leB, lnq, (rok (Qa6 t3)), trivial⟩ (ih (a3.set v5.toNat v4) (w64 (v4 + 1)) (w64 (v5 + 1)) _ h)
  ·obtain rfl := sj h
   exact gR hP hn [hO 2 Z0, hF 4] [] .raw [AV.lit (.int .i64 Z3) = Z0, Z4 = false, Z2 = Z2, Qac Z2 = true, Qaz Z2 = true, (I v4) = (I v4), Qap (I v4) = true] ⟨(Qej o3), c8, rfl, (Qa6 t3), (Qbd n3), rfl, rfl, trivial⟩
noncomputable def Qeq (p1 : (List Int)) (p2 : Int) : Option (Int × (List Int)) :=
 Qbf FU p1 p2 0
theorem Qni {p1 : (List Int)} {p2 : Int} {r : (Int × (List Int))} (h : Qeq p1 p2 = some r) : Qd3 Try.prog 11 [⟨3, 1, (p1.map o3)⟩] [(AV.sl 0 0 (List.length (p1.map o3))), (I p2)] [true] [⟨3, 1, (r.2.map o3)⟩] (I r.1) := by
 refine Qgv Qzv Try.func11 rfl (c := Xb3) (by kernel_rfl) (Nat.le_of_ble_eq_true rfl) rfl (Nat.le_of_ble_eq_true rfl) rfl (fr := [0]) (frI rfl) ?_
 intro E hP hn hx
 replace hn : E.n = 19 := hn
 unfold Qeq at h
 exact gT hP hn hx [] [(0, 0)] [0, 1, 5] [] [Qa5 [(0, 0)] (p1.map o3)] ⟨(rok (Qa6 t3)), trivial⟩ (Qkx hP hn hx FU p1 p2 0 _ h)
noncomputable def body4 : Code := match Try.f4.body with | some c => c | none => .skip
noncomputable def Qen (p1 : (List Qa0)) (p2 : Int) : Option Int :=
 if (decide ((w64 (p2 - (p1.length : Int))) < 0)) = true then
  some (-1)
 else
  some (w64 (p2 - (p1.length : Int)))
theorem Qom {p1 : (List Qa0)} {p2 : Int} {r : Int} (h : Qen p1 p2 = some r) : Qaa Try.prog 4 [(AV.ro 5 (p1.map o44)), (I p2)] (I r) := by
 refine gM Try.func4 12 body4 fun E hP hn hx => ?_
 unfold Qen at h
 let Z0 := (I (p1.length : Int)); let Z1 := (((p1.map o44).length : Nat) : Int); let Z2 := (w64 (p2 - (p1.length : Int)))
 rcases itS h with ⟨c3, h⟩ | ⟨c4, h⟩
 ·obtain rfl := sj h
  exact gR hP hn [hO 3 Z0, hT 8] [] .raw [AV.lit (.int .i64 Z1) = Z0, (decide (Z2 < 0)) = true, (I (-1)) = (I (-1)), Qap (I (-1)) = true] ⟨(Qej o44), c3, rfl, rfl, trivial⟩
 ·obtain rfl := sj h
  exact gR hP hn [hO 3 Z0, hF 8] [] .raw [AV.lit (.int .i64 Z1) = Z0, (decide (Z2 < 0)) = false, (I Z2) = (I Z2), Qap (I Z2) = true] ⟨(Qej o44), c4, rfl, rfl, trivial⟩
noncomputable def Xdl : Code := match Try.f20.body with | some c => c | none => .skip
noncomputable def Qf4 (p1 : Qa0) : Option Qa0 :=
 some (Qa0.mk p1.Thread p1.Kind p1.Obj p1.Lock p1.Pc)
theorem Qp1 {p1 : Qa0} {r : Qa0} (h : Qf4 p1 = some r) : Qaa Try.prog 20 [(AV.agg ((o44 p1)))] (AV.agg (o39 r)) := by
 refine gM Try.func20 20 Xdl fun E hP hn hx => ?_
 unfold Qf4 at h
 obtain rfl := sj h
 exact (let Z0 := AV.agg [(I p1.Thread), (I p1.Kind), (I p1.Obj), (I p1.Lock), (I p1.Pc)]; gR hP hn [hW 0 1001, hW 1 1002, hW 2 1003] [] .raw [Z0 = Z0, Qap Z0 = true] ⟨rfl, rfl, trivial⟩)
noncomputable def Xcp : Code := match Try.f6.body with | some c => c | none => .skip
noncomputable def Qcj  (p1 : (List Qa0)) : Nat → (List Qa0) → Int → Option (List Qa0)
 | 0, _, _ => none
 | n + 1, a3, v4 =>
 if (decide (v4 < (p1.length : Int))) = true then
  Option.bind (rd p1 v4) fun x6 =>
  Option.bind (Qf4 x6) fun r7 =>
  Option.bind (rd a3 v4) fun x8 =>
  Qcj p1 n (a3.set (Int.toNat v4) r7) (w64 (v4 + 1))
 else
  some a3
theorem Qkq {E : Env} (hP : E.P = Try.prog) (hn : E.n = 23) (hx : FX E []) (p1 : (List Qa0))  : ∀ (n : Nat) (a3 : (List Qa0)) (v4 : Int) (r : (List Qa0)), Qcj p1 n a3 v4 = some r → WAt E Xcp (FQ (Qe2 Θ Try.f6.results.toList [] [] (AV.own 39 5 (r.map o39)) E)) [true, true, false, true, false] ⟨[(0, (AV.ro 5 (p1.map o44))), (3, (AV.sl 1 0 (List.length (a3.map o39)))), (4, (I v4))], [(1, some ⟨39, 5, (a3.map o39)⟩)], [1, JJ]⟩ := by
 intro n
 induction n with
 | zero => intro a3 v4 r h; simp only [Qcj] at h; cases h
 | succ n ih =>
  intro a3 v4 r h
  simp only [Qcj] at h
  let Z0 := (I (p1.length : Int)); let Z4 := (((p1.map o44).length : Nat) : Int); let Z5 := (decide (v4 < (p1.length : Int))); let Z6 := a3.map o39
  rcases itS h with ⟨c5, h⟩ | ⟨c9, h⟩
  ·obtain ⟨x6, hx6, h⟩ := bnS h
   obtain ⟨r7, hr7, h⟩ := bnS h
   obtain ⟨x8, hx8, h⟩ := bnS h
   exact (let Z1 := AV.agg (o39 r7); let Z2 := o39 x8; let Z3 := (a3.set v4.toNat r7).map o39; gT hP hn hx [hO 2 Z0, hT 4, hh 9 (.row (o44 x6)), hh 11 (.callV [[]] Z1), hh 13 (.sto Z2 Z3), hh 17 (.slen 3 Z3.length)] [(1, 1)] [0, 3, 4] [] [AV.lit (.int .i64 Z4) = Z0, Z5 = true, (0 : Int) ≤ v4, (p1.map o44)[v4.toNat]? = some (o44 x6), Qaa Try.prog 20 [(AV.agg ((o44 x6)))] Z1, Qap Z1 = true, (0 : Int) ≤ v4, v4 < ((Z6.length : Nat) : Int), Z6[v4.toNat]? = some Z2, Z6.set v4.toNat (wr Z2 0 ((o39 r7))) = Z3, ((o39 r7)).length = 5, 0 + ((o39 r7)).length ≤ Z2.length, Z6.length = Z3.length, Qa5 [(1, 1)] Z3] ⟨(Qej o44), c5, (rd0 hx6), (rdM o44 hx6), (Qp1 hr7), rfl, (rd0 hx8), (rdL o39 hx8), (rdM o39 hx8), (Xb1 o39), rfl, leB, lnq, (rok (Qa6 t39)), trivial⟩ (ih (a3.set v4.toNat r7) (w64 (v4 + 1)) _ h))
  ·obtain rfl := sj h
   exact gR hP hn [hO 2 Z0, hF 4] [] .own [AV.lit (.int .i64 Z4) = Z0, Z5 = false, Qac (Z6.take Z6.length) = true, Z6.take Z6.length = Z6, Qaz Z6 = true] ⟨(Qej o44), c9, (Qgc t39), Qgi, (Qbd n39), trivial⟩
noncomputable def Qcs (p1 : (List Qa0)) : Option (List Qa0) :=
 Option.bind (mk (Qa0.mk 0 0 0 0 0) (p1.length : Int)) fun l2 =>
 Qcj p1 FU l2 0
theorem Qer {p1 : (List Qa0)} {r : (List Qa0)} (h : Qcs p1 = some r) : Qaa Try.prog 6 [(AV.ro 5 (p1.map o44))] (AV.own 39 5 (r.map o39)) := by
 refine gM Try.func6 23 Xcp fun E hP hn hx => ?_
 unfold Qcs at h
 obtain ⟨l2, hl2, h⟩ := bnS h
 exact (let Z0 := (p1.length : Int); let Z1 := l2.map o39; let Z2 := AV.sl 1001 0 Z1.length; gT hP hn hx [hO 2 (I Z0), ⟨3, .nw 1001 Z1, some Z2⟩] [(1001, 1)] [0, 3, 4] [] [AV.lit (.int .i64 (((p1.map o44).length : Nat) : Int)) = (I Z0), List.replicate Z0.toNat [.lit (.int .i64 0), .lit (.int .i64 0), .lit (.int .i64 0), .lit (.int .i64 0), .lit (.int .i64 0)] = Z1, AV.sl 1001 0 Z0.toNat = Z2, Z0 = Z0, (0 : Int) ≤ Z0, Z0 * ((40 : Nat) : Int) ≤ 140737488355328, Z0 ≤ 140737488355328, Qa5 [(1001, 1)] Z1] ⟨(Qej o44), (mkM o39 hl2), (mkS o39 hl2), rfl, (mk0 hl2), (mkB hl2 (by decide)), (mkC hl2), (rok (Qa6 t39)), trivial⟩ (Qkq hP hn hx p1 FU l2 0 _ h))
noncomputable def Xan : Code := match Try.f18.body with | some c => c | none => .skip
noncomputable def Qde  (p1 : (List Int)) (p2 : Int) : Nat → Int → Option Bool
 | 0, _ => none
 | n + 1, v3 =>
 if (decide (v3 < (p1.length : Int))) = true then
  Option.bind (rd p1 v3) fun x5 =>
  if (x5 == p2) = true then
   some true
  else
   Qde p1 p2 n (w64 (v3 + 1))
 else
  some false
theorem Qn4 {E : Env} (hP : E.P = Try.prog) (hn : E.n = 17) (hx : FX E []) (p1 : (List Int)) (p2 : Int)  : ∀ (n : Nat) (v3 : Int) (r : Bool), Qde p1 p2 n v3 = some r → WAt E Xan (FQ (Qe2 Θ Try.f18.results.toList [] [] (B r) E)) [true, false, true, false] ⟨[(1, (I p2)), (7, (AV.ro 1 (p1.map o3))), (8, (I (p1.length : Int))), (9, (I v3))], [], [JJ]⟩ := by
 intro n
 induction n with
 | zero => intro v3 r h; simp only [Qde] at h; cases h
 | succ n ih =>
  intro v3 r h
  simp only [Qde] at h
  let Z0 := (decide (v3 < (p1.length : Int)))
  rcases itS h with ⟨c4, h⟩ | ⟨c8, h⟩
  ·obtain ⟨x5, hx5, h⟩ := bnS h
   let P1 : List Prop := [Z0 = true, (0 : Int) ≤ v3, (p1.map o3)[v3.toNat]? = some (o3 x5)]
   have AP1 : Qb5 P1 := ⟨c4, (rd0 hx5), (rdM o3 hx5), trivial⟩
   rcases itS h with ⟨c6, h⟩ | ⟨c7, h⟩
   ·obtain rfl := sj h
    exact gR hP hn [hT 1, hh 2 (.row (o3 x5)), hT 8] [] .raw (P1 ++ [(x5 == p2) = true, (B true) = (B true), Qap (B true) = true]) (Qav AP1 ⟨c6, rfl, rfl, trivial⟩)
   ·exact gT hP hn hx [hT 1, hh 2 (.row (o3 x5)), hF 8] [] [1, 7, 8, 9] [] (P1 ++ [(x5 == p2) = false]) (Qav AP1 ⟨c7, trivial⟩) (ih (w64 (v3 + 1)) _ h)
  ·obtain rfl := sj h
   exact gR hP hn [hF 1] [] .raw [Z0 = false, (B false) = (B false), Qap (B false) = true] ⟨c8, rfl, rfl, trivial⟩
noncomputable def Qfg (p1 : (List Int)) (p2 : Int) : Option Bool :=
 Qde p1 p2 FU 0
theorem Qm7 {p1 : (List Int)} {p2 : Int} {r : Bool} (h : Qfg p1 p2 = some r) : Qaa Try.prog 18 [(AV.ro 1 (p1.map o3)), (I p2)] (B r) := by
 refine gM Try.func18 17 Xan fun E hP hn hx => ?_
 unfold Qfg at h
 exact (let Z0 := (I (p1.length : Int)); gT hP hn hx [hO 2 Z0] [] [1, 7, 8, 9] [] [AV.lit (.int .i64 (((p1.map o3).length : Nat) : Int)) = Z0] ⟨(Qej o3), trivial⟩ (Qn4 hP hn hx p1 p2 FU 0 _ h))
noncomputable def Qrk : Code := match Try.f17.body with | some c => c | none => .skip
noncomputable def Qdy  (p1 : (List Int)) (p2 : Int) (v3 : Int)  : Option (List Int) :=
 Option.bind (slc p1 0 v3) fun l12 =>
 Option.bind (app [] l12) fun l13 =>
 Option.bind (app l13 [p2]) fun l14 =>
 Option.bind (slc p1 v3 (p1.length : Int)) fun l15 =>
 Option.bind (app l14 l15) fun l16 =>
 some l16
theorem Qi1 {E : Env} (hP : E.P = Try.prog) (hn : E.n = 48) (hx : FX E []) (p1 : (List Int)) (p2 : Int) (v3 : Int)   (r : (List Int)) (h : Qdy p1 p2 v3  = some r) : WAt E Qrk (FQ (Qe2 Θ Try.f17.results.toList [false] [⟨3, 1, (p1.map o3)⟩] (AV.own 3 1 (r.map o3)) E)) [true, true, true, false, true, true] ⟨[(0, (AV.sl 1 0 (List.length (p1.map o3)))), (1, (I p2)), (5, (I v3))], [(1, some ⟨3, 1, (p1.map o3)⟩)], [1, JJ]⟩ := by
 unfold Qdy at h
 obtain ⟨l12, hl12, h⟩ := bnS h
 obtain ⟨l13, hl13, h⟩ := bnS h
 obtain ⟨l14, hl14, h⟩ := bnS h
 obtain ⟨l15, hl15, h⟩ := bnS h
 obtain ⟨l16, hl16, h⟩ := bnS h
 obtain rfl := sj h
 exact (let Z0 := l13.map o3; let Z1 := l14.map o3; let Z2 := l16.map o3; let Z3 := (((p1.map o3).length : Nat) : Int); let Z4 := ((p1.map o3).drop 0).take v3.toNat; let Z5 := (([p2].map o3).drop 0).take ([p2].map o3).length; let Z6 := ((p1.map o3).drop v3.toNat).take (Qh4 Z3.toNat v3.toNat); gR hP hn [hW 0 1001, hh 4 (.app 1002 Z0), hW 8 1003, hh 9 (.app 1004 Z1), hh 15 (.app 1005 Z2)] [] .own [(0 : Int) ≤ 0, 0 ≤ v3, v3 ≤ Z3, ([].map o3).take ([].map o3).length ++ Z4 = Z0, Z4.all (fun r => r.all AV.plain) = true, Z0.length * 8 ≤ 140737488355328, Z0.length ≤ 140737488355328, Z0.take Z0.length ++ Z5 = Z1, Z5.all (fun r => r.all AV.plain) = true, Z1.length * 8 ≤ 140737488355328, Z1.length ≤ 140737488355328, (0 : Int) ≤ v3, v3 ≤ Z3, Z3 ≤ Z3, Z1.take Z1.length ++ Z6 = Z2, Z6.all (fun r => r.all AV.plain) = true, Z2.length * 8 ≤ 140737488355328, Z2.length ≤ 140737488355328, Qac (Z2.take Z2.length) = true, Z2.take Z2.length = Z2, Qaz Z2 = true] ⟨(sl0 hl12), (sl1 hl12), (sl2 o3 hl12), (Xc0 o3 hl13 hl12), (plD pa3), (Quf o3 hl13 (by decide)), (Qux o3 hl13), (Qp6 o3 hl14), (plD pa3), (Quf o3 hl14 (by decide)), (Qux o3 hl14), (sl0 hl15), (sl1e o3 hl15), (Int.le_refl _), (Xb9 o3 hl16 hl15), (plD pa3), (Quf o3 hl16 (by decide)), (Qux o3 hl16), (Qgc t3), Qgi, (Qbd n3), trivial⟩)
noncomputable def Qdz (K0 : Int → Option (List Int)) (p1 : (List Int)) (p2 : Int) (v3 : Int)  : Option (List Int) :=
 if (decide (v3 < (p1.length : Int))) = true then
  Option.bind (rd p1 v3) fun x9 =>
  if (x9 == p2) = true then
   some p1
  else
   Qdy p1 p2 v3
 else
  Qdy p1 p2 v3
theorem Qi6 {E : Env} (hP : E.P = Try.prog) (hn : E.n = 48) (hx : FX E []) (p1 : (List Int)) (p2 : Int) (v3 : Int) {K0 : Int → Option (List Int)} (hK0 : ∀ (v3 : Int) (r : (List Int)), K0 v3 = some r → WAt E Qrk (FQ (Qe2 Θ Try.f17.results.toList [false] [⟨3, 1, (p1.map o3)⟩] (AV.own 3 1 (r.map o3)) E)) [true, true, false, false] ⟨[(0, (AV.sl 1 0 (List.length (p1.map o3)))), (1, (I p2)), (5, (I v3))], [(1, some ⟨3, 1, (p1.map o3)⟩)], [1, JJ]⟩)  (r : (List Int)) (h : Qdz K0 p1 p2 v3  = some r) : WAt E Qrk (FQ (Qe2 Θ Try.f17.results.toList [false] [⟨3, 1, (p1.map o3)⟩] (AV.own 3 1 (r.map o3)) E)) [true, true, false, false, false, false, true, true] ⟨[(0, (AV.sl 1 0 (List.length (p1.map o3)))), (1, (I p2)), (5, (I v3))], [(1, some ⟨3, 1, (p1.map o3)⟩)], [1, JJ]⟩ := by
 unfold Qdz at h
 let Z0 := p1.map o3; let Z1 := ((Z0.length : Nat) : Int); let Z2 := (I (p1.length : Int)); let Z3 := (B (decide (v3 < (p1.length : Int))))
 let P1 : List Prop := [AV.lit (.int .i64 Z1) = Z2]
 have AP1 : Qb5 P1 := ⟨(Qej o3), trivial⟩
 rcases itS h with ⟨c8, h⟩ | ⟨c17, h⟩
 ·obtain ⟨x9, hx9, h⟩ := bnS h
  let P2 : List Prop := P1 ++ [Z3 = (B true), (0 : Int) ≤ v3, v3 < Z1, Z0[v3.toNat]? = some [(I x9)]]
  have AP2 : Qb5 P2 := Qav AP1 ⟨(Qd6 c8), (rd0 hx9), (rdL o3 hx9), (rdM o3 hx9), trivial⟩
  rcases itS h with ⟨c10, h⟩ | ⟨c11, h⟩
  ·obtain rfl := sj h
   exact gR hP hn [hO 2 Z2, hO 4 (B true), hh 8 (.row [(I x9)]), hT 12] [] .own (P2 ++ [(x9 == p2) = true, Qac (Z0.take Z0.length) = true, Z0.take Z0.length = Z0, Qaz Z0 = true]) (Qav AP2 ⟨c10, (Qgc t3), Qgi, (Qbd n3), trivial⟩)
  ·exact gT hP hn hx [hO 2 Z2, hO 4 (B true), hh 8 (.row [(I x9)]), hF 12] [(1, 1)] [0, 1, 5] [] (P2 ++ [(x9 == p2) = false, Qa5 [(1, 1)] Z0]) (Qav AP2 ⟨c11, (rok (Qa6 t3)), trivial⟩) (Qi1 hP hn hx p1 p2 v3  _ h)
 ·exact gT hP hn hx [hO 2 Z2, hO 4 (B false)] [(1, 1)] [0, 1, 5] [] (P1 ++ [Z3 = (B false), Qa5 [(1, 1)] Z0]) (Qav AP1 ⟨(Qd6 c17), (rok (Qa6 t3)), trivial⟩) (Qi1 hP hn hx p1 p2 v3  _ h)
noncomputable def Qby  (p1 : (List Int)) (p2 : Int) : Nat → Int → Option (List Int)
 | 0, _ => none
 | n + 1, v3 =>
 if (decide (v3 < (p1.length : Int))) = true then
  Option.bind (rd p1 v3) fun x5 =>
  if (decide (x5 < p2)) = true then
   Qby p1 p2 n (w64 (v3 + 1))
  else
   Qdz (Qby p1 p2 n) p1 p2 v3
 else
  Qdz (Qby p1 p2 n) p1 p2 v3
theorem Qne {E : Env} (hP : E.P = Try.prog) (hn : E.n = 48) (hx : FX E []) (p1 : (List Int)) (p2 : Int)  : ∀ (n : Nat) (v3 : Int) (r : (List Int)), Qby p1 p2 n v3 = some r → WAt E Qrk (FQ (Qe2 Θ Try.f17.results.toList [false] [⟨3, 1, (p1.map o3)⟩] (AV.own 3 1 (r.map o3)) E)) [true, true, false, false] ⟨[(0, (AV.sl 1 0 (List.length (p1.map o3)))), (1, (I p2)), (5, (I v3))], [(1, some ⟨3, 1, (p1.map o3)⟩)], [1, JJ]⟩ := by
 intro n
 induction n with
 | zero => intro v3 r h; simp only [Qby] at h; cases h
 | succ n ih =>
  intro v3 r h
  simp only [Qby] at h
  let Z0 := p1.map o3; let Z1 := ((Z0.length : Nat) : Int); let Z2 := (I (p1.length : Int)); let Z3 := (B (decide (v3 < (p1.length : Int))))
  let P1 : List Prop := [AV.lit (.int .i64 Z1) = Z2]
  have AP1 : Qb5 P1 := ⟨(Qej o3), trivial⟩
  rcases itS h with ⟨c4, h⟩ | ⟨c18, h⟩
  ·obtain ⟨x5, hx5, h⟩ := bnS h
   let P2 : List Prop := P1 ++ [Z3 = (B true), (0 : Int) ≤ v3, v3 < Z1, Z0[v3.toNat]? = some [(I x5)]]
   have AP2 : Qb5 P2 := Qav AP1 ⟨(Qd6 c4), (rd0 hx5), (rdL o3 hx5), (rdM o3 hx5), trivial⟩
   rcases itS h with ⟨c6, h⟩ | ⟨c7, h⟩
   ·exact gT hP hn hx [hO 2 Z2, hO 4 (B true), hh 8 (.row [(I x5)]), hT 12] [(1, 1)] [0, 1, 5] [] (P2 ++ [(decide (x5 < p2)) = true, Qa5 [(1, 1)] Z0]) (Qav AP2 ⟨c6, (rok (Qa6 t3)), trivial⟩) (ih (w64 (v3 + 1)) _ h)
   ·exact gT hP hn hx [hO 2 Z2, hO 4 (B true), hh 8 (.row [(I x5)]), hF 12] [(1, 1)] [0, 1, 5] [] (P2 ++ [(decide (x5 < p2)) = false, Qa5 [(1, 1)] Z0]) (Qav AP2 ⟨c7, (rok (Qa6 t3)), trivial⟩) (Qi6 hP hn hx p1 p2 v3 ih  _ h)
  ·exact gT hP hn hx [hO 2 Z2, hO 4 (B false)] [(1, 1)] [0, 1, 5] [] (P1 ++ [Z3 = (B false), Qa5 [(1, 1)] Z0]) (Qav AP1 ⟨(Qd6 c18), (rok (Qa6 t3)), trivial⟩) (Qi6 hP hn hx p1 p2 v3 ih  _ h)
noncomputable def Qdx (p1 : (List Int)) (p2 : Int) : Option (List Int) :=
 Qby p1 p2 FU 0
theorem Qg6 {p1 : (List Int)} {p2 : Int} {r : (List Int)} (h : Qdx p1 p2 = some r) : Qd3 Try.prog 17 [⟨3, 1, (p1.map o3)⟩] [(AV.sl 0 0 (List.length (p1.map o3))), (I p2)] [false] [⟨3, 1, (p1.map o3)⟩] (AV.own 3 1 (r.map o3)) := by
 refine Qgv Qzv Try.func17 rfl (c := Qrk) (by kernel_rfl) (Nat.le_of_ble_eq_true rfl) rfl (Nat.le_of_ble_eq_true rfl) rfl (fr := []) (frI rfl) ?_
 intro E hP hn hx
 replace hn : E.n = 48 := hn
 unfold Qdx at h
 exact gT hP hn hx [] [(0, 1)] [0, 1, 5] [] [Qa5 [(0, 1)] (p1.map o3)] ⟨(rok (Qa6 t3)), trivial⟩ (Qne hP hn hx p1 p2 FU 0 _ h)
noncomputable def Xcl : Code := match Try.f46.body with | some c => c | none => .skip
noncomputable def Qip (p1 : (List Int)) : Option (List Int) :=
 Option.bind (app [] p1) fun l2 =>
 some l2
theorem Qrt {p1 : (List Int)} {r : (List Int)} (h : Qip p1 = some r) : Qaa Try.prog 46 [(AV.ro 1 (p1.map o3))] (AV.own 3 1 (r.map o3)) := by
 refine gM Try.func46 6 Xcl fun E hP hn hx => ?_
 unfold Qip at h
 obtain ⟨l2, hl2, h⟩ := bnS h
 obtain rfl := sj h
 exact (let Z0 := l2.map o3; gR hP hn [hW 1 1001, hh 3 (.app 1002 Z0)] [] .own [([].map o3).take ([].map o3).length ++ (p1.map o3) = Z0, (p1.map o3).all (fun r => r.all AV.plain) = true, Z0.length * 8 ≤ 140737488355328, Z0.length ≤ 140737488355328, Qac (Z0.take Z0.length) = true, Z0.take Z0.length = Z0, Qaz Z0 = true] ⟨(appT o3 hl2), (plM pa3), (Quf o3 hl2 (by decide)), (Qux o3 hl2), (Qgc t3), Qgi, (Qbd n3), trivial⟩)
noncomputable def Qpu : Code := match Try.f34.body with | some c => c | none => .skip
noncomputable def Qbx (K0 : (List (List Int)) → (List Int) → Int → Option (List Int)) (p1 : (List (List Int))) (p3 : Int) (v6 : Int) (a12 : (List Int)) : Nat → (List (List Int)) → (List Int) → (List Int) → (List Int) → Int → Option (List Int)
 | 0, _, _, _, _, _ => none
 | n + 1, a23, a24, a25, a26, v27 =>
 if (decide (v27 < (a12.length : Int))) = true then
  Option.bind (rd a26 v27) fun x29 =>
  if (x29 == p3) = true then
   some a24
  else
   Option.bind (Qfg a25 x29) fun r32 =>
   if (!r32) = true then
    Option.bind (app a25 [x29]) fun l34 =>
    Option.bind (Qip a24) fun r36 =>
    Option.bind (app r36 [x29]) fun l37 =>
    Option.bind (rd a23 v6) fun x38 =>
    Option.bind (app a23 [l37]) fun l39 =>
    Qbx K0 p1 p3 v6 a12 n l39 a24 l34 a26 (w64 (v27 + 1))
   else
    Qbx K0 p1 p3 v6 a12 n a23 a24 a25 a26 (w64 (v27 + 1))
 else
  Option.bind (rd a23 v6) fun x42 =>
  K0 (a23.set (Int.toNat v6) a24) a25 (w64 (v6 + 1))
theorem Qod {E : Env} (hP : E.P = Try.prog) (hn : E.n = 78) (hx : FX E []) (p1 : (List (List Int))) (p3 : Int) (v6 : Int) (a12 : (List Int)) {K0 : (List (List Int)) → (List Int) → Int → Option (List Int)} (hK0 : ∀ (a4 : (List (List Int))) (a5 : (List Int)) (v6 : Int) (r : (List Int)), K0 a4 a5 v6 = some r → WAt E Qpu (FQ (Qe2 Θ Try.f34.results.toList [] [] (AV.own 3 1 (r.map o3)) E)) [true, true, true, false, true, false] ⟨[(0, (AV.ro 1 (p1.map r24))), (2, (I p3)), (7, (AV.sl 1 0 (List.length (a4.map o24)))), (8, (AV.sl 2 0 (List.length (a5.map o3)))), (9, (I v6))], [(1, some ⟨24, 1, (a4.map o24)⟩), (2, some ⟨3, 1, (a5.map o3)⟩)], [1, 2, JJ]⟩) : ∀ (n : Nat) (a23 : (List (List Int))) (a24 : (List Int)) (a25 : (List Int)) (a26 : (List Int)) (v27 : Int) (r : (List Int)), Qbx K0 p1 p3 v6 a12 n a23 a24 a25 a26 v27 = some r → WAt E Qpu (FQ (Qe2 Θ Try.f34.results.toList [] [] (AV.own 3 1 (r.map o3)) E)) [true, true, true, false, true, false, false, true, false, false, true, true, true, true, false] ⟨[(0, (AV.ro 1 (p1.map r24))), (2, (I p3)), (7, (AV.sl 1 0 (List.length ((a23.map o24).set (Int.toNat v6) [(AV.sl 1001 0 (List.length (a24.map o3)))])))), (8, (AV.sl 2 0 (List.length (a25.map o3)))), (9, (I v6)), (10, (AV.sl 1001 0 (List.length (a24.map o3)))), (51, (AV.sl 3 0 (List.length (a26.map o3)))), (52, (I (a12.length : Int))), (53, (I v27))], [(1, some ⟨24, 1, ((a23.map o24).set (Int.toNat v6) [(AV.sl 1001 0 (List.length (a24.map o3)))])⟩), (1001, some ⟨3, 1, (a24.map o3)⟩), (2, some ⟨3, 1, (a25.map o3)⟩), (3, some ⟨3, 1, (a26.map o3)⟩)], [1, 1001, 2, 3, JJ]⟩ := by
 intro n
 induction n with
 | zero => intro a23 a24 a25 a26 v27 r h; simp only [Qbx] at h; cases h
 | succ n ih =>
  intro a23 a24 a25 a26 v27 r h
  simp only [Qbx] at h
  let Z0 := (decide (v27 < (a12.length : Int))); let Z1 := a26.map o3; let Z2 := a24.map o3; let Z3 := a25.map o3; let Z7 := AV.sl 1001 0 Z2.length; let Z8 := (a23.map o24).set v6.toNat [Z7]; let Z13 := a23.set v6.toNat a24; let Z14 := Z13.map o24
  rcases itS h with ⟨c28, h⟩ | ⟨c41, h⟩
  ·obtain ⟨x29, hx29, h⟩ := bnS h
   let Z12 := (([x29].map o3).drop 0).take ([x29].map o3).length
   let P1 : List Prop := [Z0 = true, (0 : Int) ≤ v27, v27 < ((Z1.length : Nat) : Int), Z1[v27.toNat]? = some [(I x29)]]
   have AP1 : Qb5 P1 := ⟨c28, (rd0 hx29), (rdL o3 hx29), (rdM o3 hx29), trivial⟩
   rcases itS h with ⟨c30, h⟩ | ⟨c31, h⟩
   ·obtain rfl := sj h
    exact gR hP hn [hT 1, hh 3 (.row [(I x29)]), hT 8] [] .own (P1 ++ [(x29 == p3) = true, Qac (Z2.take Z2.length) = true, Z2.take Z2.length = Z2, Qaz Z2 = true]) (Qav AP1 ⟨c30, (Qgc t3), Qgi, (Qbd n3), trivial⟩)
   ·obtain ⟨r32, hr32, h⟩ := bnS h
    let H2 : List Hn := [hT 1, hh 3 (.row [(I x29)]), hF 8, hh 11 (.callV [Z3] (B r32))]
    let P3 : List Prop := P1 ++ [(x29 == p3) = false, Qaa Try.prog 18 [(AV.ro 1 Z3), (I x29)] (B r32), Qap (B r32) = true, Frz ((Z3.drop 0).take Z3.length) Z3]
    have AP3 : Qb5 P3 := Qav AP1 ⟨c31, (Qm7 hr32), rfl, (Qoz t3 z3), trivial⟩
    rcases itS h with ⟨c33, h⟩ | ⟨c40, h⟩
    ·obtain ⟨l34, hl34, h⟩ := bnS h
     obtain ⟨r36, hr36, h⟩ := bnS h
     obtain ⟨l37, hl37, h⟩ := bnS h
     obtain ⟨x38, hx38, h⟩ := bnS h
     obtain ⟨l39, hl39, h⟩ := bnS h
     exact (let Z4 := l34.map o3; let Z5 := AV.own 3 1 (r36.map o3); let Z6 := l37.map o3; let Z9 := AV.sl 1006 0 Z6.length; let Z10 := Z8 ++ [[Z9]]; let Z11 := (l39.map o24).set v6.toNat [Z7]; gT hP hn hx (H2 ++ [hT 13, hW 16 1002, hh 17 (.app 1003 Z4), hh 21 (.call [Z2] Z5 [1004]), hW 23 1005, hh 24 (.app 1006 Z6), hW 25 1007, hh 26 (.app 1008 Z10), hh 27 (.pack 1008 1006 a23.length 0 [Z9] Z11), hh 30 (.slen 7 Z11.length)]) [(1008, 1), (1001, 1001), (1003, 2), (3, 3)] [0, 2, 7, 8, 9, 10, 51, 52, 53] [] (P3 ++ [(!r32) = true, Z3.take Z3.length ++ Z12 = Z4, Z12.all (fun r => r.all AV.plain) = true, Z4.length * 8 ≤ 140737488355328, Z4.length ≤ 140737488355328, Qaa Try.prog 46 [(AV.ro 1 Z2)] Z5, Qek Z5 = true, Frz ((Z2.drop 0).take Z2.length) Z2, (r36.map o3).take (r36.map o3).length ++ Z12 = Z6, Z12.all (fun r => r.all AV.plain) = true, Z6.length * 8 ≤ 140737488355328, Z6.length ≤ 140737488355328, Z8.take Z8.length ++ [[Z9]] = Z10, [[Z9]].all (fun r => r.all AV.plain) = true, Z10.length * 24 ≤ 140737488355328, Z10.length ≤ 140737488355328, Z10[a23.length]? = some [Z9], [Z9][0]? = some Z9, Qac Z6 = true, Z10.set a23.length ([Z9].set 0 (AV.own 3 1 Z6)) = Z11, Z10.length = Z11.length, Qa5 [(1008, 1), (1001, 1001), (1003, 2), (3, 3)] Z11, Qa5 [(1008, 1), (1001, 1001), (1003, 2), (3, 3)] Z2, Qa5 [(1008, 1), (1001, 1001), (1003, 2), (3, 3)] Z4, Qa5 [(1008, 1), (1001, 1001), (1003, 2), (3, 3)] Z1]) (Qav AP3 ⟨c33, (Qp6 o3 hl34), (plD pa3), (Quf o3 hl34 (by decide)), (Qux o3 hl34), (Qrt hr36), (by simp +zetaDelta only [Qek, Qdn, Qbd n3, Bool.and_self]), (Qoz t3 z3), (Qp6 o3 hl37), (plD pa3), (Quf o3 hl37 (by decide)), (Qux o3 hl37), (adT rfl), rfl, (adB o24 hl39 (by decide)), (adC o24 hl39), (adG o24), rfl, (Qa6 t3), (adS o24 hl39 hx38), (adL o24 hl39), (Qpz (rok (Qa6 t24)) rfl), (rok (Qa6 t3)), (rok (Qa6 t3)), (rok (Qa6 t3)), trivial⟩) (ih l39 a24 l34 a26 (w64 (v27 + 1)) _ h))
    ·exact gT hP hn hx (H2 ++ [hF 13]) [(1, 1), (1001, 1001), (2, 2), (3, 3)] [0, 2, 7, 8, 9, 10, 51, 52, 53] [] (P3 ++ [(!r32) = false, Qa5 [(1, 1), (1001, 1001), (2, 2), (3, 3)] Z8, Qa5 [(1, 1), (1001, 1001), (2, 2), (3, 3)] Z2, Qa5 [(1, 1), (1001, 1001), (2, 2), (3, 3)] Z3, Qa5 [(1, 1), (1001, 1001), (2, 2), (3, 3)] Z1]) (Qav AP3 ⟨c40, (Qpz (rok (Qa6 t24)) rfl), (rok (Qa6 t3)), (rok (Qa6 t3)), (rok (Qa6 t3)), trivial⟩) (ih a23 a24 a25 a26 (w64 (v27 + 1)) _ h)
  ·obtain ⟨x42, hx42, h⟩ := bnS h
   exact gT hP hn hx [hF 1, hh 5 (.pack 1 1001 v6.toNat 0 [Z7] Z14), hh 5 (.slen 7 Z14.length)] [(1, 1), (2, 2)] [0, 2, 7, 8, 9] [] [Z0 = false, Z8[v6.toNat]? = some [Z7], [Z7][0]? = some Z7, Qac Z2 = true, Z8.set v6.toNat ([Z7].set 0 (AV.own 3 1 Z2)) = Z14, Z8.length = Z14.length, Qa5 [(1, 1), (2, 2)] Z14, Qa5 [(1, 1), (2, 2)] Z3] ⟨c41, (Xck (rdM o24 hx42)), rfl, (Qa6 t3), (setP o24), lnq, (rok (Qa6 t24)), (rok (Qa6 t3)), trivial⟩ (hK0 Z13 a25 (w64 (v6 + 1)) _ h)
noncomputable def Qcm (K0 : (List (List Int)) → (List Int) → Int → Option (List Int)) (p1 : (List (List Int))) (p3 : Int) (v6 : Int) : Nat → (List (List Int)) → (List Int) → (List Int) → (List Int) → Int → Option (List Int)
 | 0, _, _, _, _, _ => none
 | n + 1, a9, a10, a11, a12, v13 =>
 if (decide (v13 < (p1.length : Int))) = true then
  Option.bind (rd p1 v13) fun x15 =>
  Option.bind (rd x15 0) fun x16 =>
  Option.bind (rd a10 (w64 ((a10.length : Int) - 1))) fun x17 =>
  if (x16 == x17) = true then
   Option.bind (rd x15 1) fun x19 =>
   Option.bind (Qdx a12 x19) fun r20 =>
   Qcm K0 p1 p3 v6 n a9 a10 a11 r20 (w64 (v13 + 1))
  else
   Qcm K0 p1 p3 v6 n a9 a10 a11 a12 (w64 (v13 + 1))
 else
  Qbx K0 p1 p3 v6 a12 FU a9 a10 a11 a12 0
theorem Qnv {E : Env} (hP : E.P = Try.prog) (hn : E.n = 78) (hx : FX E []) (p1 : (List (List Int))) (p3 : Int) (v6 : Int) {K0 : (List (List Int)) → (List Int) → Int → Option (List Int)} (hK0 : ∀ (a4 : (List (List Int))) (a5 : (List Int)) (v6 : Int) (r : (List Int)), K0 a4 a5 v6 = some r → WAt E Qpu (FQ (Qe2 Θ Try.f34.results.toList [] [] (AV.own 3 1 (r.map o3)) E)) [true, true, true, false, true, false] ⟨[(0, (AV.ro 1 (p1.map r24))), (2, (I p3)), (7, (AV.sl 1 0 (List.length (a4.map o24)))), (8, (AV.sl 2 0 (List.length (a5.map o3)))), (9, (I v6))], [(1, some ⟨24, 1, (a4.map o24)⟩), (2, some ⟨3, 1, (a5.map o3)⟩)], [1, 2, JJ]⟩) : ∀ (n : Nat) (a9 : (List (List Int))) (a10 : (List Int)) (a11 : (List Int)) (a12 : (List Int)) (v13 : Int) (r : (List Int)), Qcm K0 p1 p3 v6 n a9 a10 a11 a12 v13 = some r → WAt E Qpu (FQ (Qe2 Θ Try.f34.results.toList [] [] (AV.own 3 1 (r.map o3)) E)) [true, true, true, false, true, false, false, true, false, false, true, true, false, true, false] ⟨[(0, (AV.ro 1 (p1.map r24))), (2, (I p3)), (7, (AV.sl 1 0 (List.length ((a9.map o24).set (Int.toNat v6) [(AV.sl 1001 0 (List.length (a10.map o3)))])))), (8, (AV.sl 2 0 (List.length (a11.map o3)))), (9, (I v6)), (10, (AV.sl 1001 0 (List.length (a10.map o3)))), (11, (AV.sl 3 0 (List.length (a12.map o3)))), (29, (AV.ro 1 (p1.map r24))), (30, (I (p1.length : Int))), (31, (I v13))], [(1, some ⟨24, 1, ((a9.map o24).set (Int.toNat v6) [(AV.sl 1001 0 (List.length (a10.map o3)))])⟩), (1001, some ⟨3, 1, (a10.map o3)⟩), (2, some ⟨3, 1, (a11.map o3)⟩), (3, some ⟨3, 1, (a12.map o3)⟩)], [1, 1001, 2, 3, JJ]⟩ := by
 intro n
 induction n with
 | zero => intro a9 a10 a11 a12 v13 r h; simp only [Qcm] at h; cases h
 | succ n ih =>
  intro a9 a10 a11 a12 v13 r h
  simp only [Qcm] at h
  let Z0 := (I (a10.length : Int)); let Z1 := (decide (v13 < (p1.length : Int))); let Z2 := a10.map o3; let Z3 := ((Z2.length : Nat) : Int); let Z4 := (w64 ((a10.length : Int) - 1)); let Z5 := a12.map o3; let Z10 := (a9.map o24).set v6.toNat [(AV.sl 1001 0 Z2.length)]; let Z11 := (I (a12.length : Int))
  rcases itS h with ⟨c14, h⟩ | ⟨c22, h⟩
  ·obtain ⟨x15, hx15, h⟩ := bnS h
   obtain ⟨x16, hx16, h⟩ := bnS h
   obtain ⟨x17, hx17, h⟩ := bnS h
   let H1 : List Hn := [hT 1, hh 2 (.row (r24 x15)), hh 6 (.row (o3 x16)), hO 10 Z0, hh 13 (.row [(I x17)])]
   let P2 : List Prop := [Z1 = true, (0 : Int) ≤ v13, (p1.map r24)[v13.toNat]? = some (r24 x15), (0 : Int) ≤ 0, (x15.map o3)[(Int.toNat 0)]? = some (o3 x16), AV.lit (.int .i64 Z3) = Z0, (0 : Int) ≤ Z4, Z4 < Z3, Z2[Z4.toNat]? = some [(I x17)]]
   have AP2 : Qb5 P2 := ⟨c14, (rd0 hx15), (rdM r24 hx15), (rd0 hx16), (rdM o3 hx16), (Qej o3), (rd0 hx17), (rdL o3 hx17), (rdM o3 hx17), trivial⟩
   rcases itS h with ⟨c18, h⟩ | ⟨c21, h⟩
   ·obtain ⟨x19, hx19, h⟩ := bnS h
    obtain ⟨r20, hr20, h⟩ := bnS h
    exact (let Z6 := r20.map o3; let Z7 := AV.own 3 1 Z6; let Z8 := AV.sl 1002 0 Z6.length; let Z9 := rtf (Qff [] Z7) [1002]; gT hP hn hx (H1 ++ [hT 15, hh 18 (.row (o3 x19)), hh 20 (.callX [3] [false] [⟨3, 1, Z5⟩] [⟨3, 1, Z5⟩] [] Z7 [1002] Z8 [(1002, ⟨3, 1, Z6⟩)])]) [(1, 1), (1001, 1001), (2, 2), (1002, 3)] [0, 2, 7, 8, 9, 10, 11, 29, 30, 31] [] (P2 ++ [(x16 == x17) = true, (0 : Int) ≤ 1, (x15.map o3)[(Int.toNat 1)]? = some (o3 x19), Qd3 Try.prog 17 [⟨3, 1, Z5⟩] [(AV.sl 0 0 Z5.length), (I x19)] [false] [⟨3, 1, Z5⟩] Z7, (some (Qao.mk 3 1 Z5) = some (Qao.mk 3 1 Z5)) ∧ True, (Qac Z5 = true ∧ Qaz Z5 = true) ∧ True, (Z5.length = Z5.length) ∧ True, Z9.1 = Z8, Z9.2.1 = [(1002, ⟨3, 1, Z6⟩)], Qa5 [(1, 1), (1001, 1001), (2, 2), (1002, 3)] Z10, Qa5 [(1, 1), (1001, 1001), (2, 2), (1002, 3)] Z2, Qa5 [(1, 1), (1001, 1001), (2, 2), (1002, 3)] (a11.map o3), Qa5 [(1, 1), (1001, 1001), (2, 2), (1002, 3)] Z6]) (Qav AP2 ⟨c18, (rd0 hx19), (rdM o3 hx19), (Qg6 hr20), ⟨rfl, trivial⟩, ⟨⟨Qa6 t3, Qbd n3⟩, trivial⟩, ⟨rfl, trivial⟩, rfl, rfl, (Qpz (rok (Qa6 t24)) rfl), (rok (Qa6 t3)), (rok (Qa6 t3)), (rok (Qa6 t3)), trivial⟩) (ih a9 a10 a11 r20 (w64 (v13 + 1)) _ h))
   ·exact gT hP hn hx (H1 ++ [hF 15]) [(1, 1), (1001, 1001), (2, 2), (3, 3)] [0, 2, 7, 8, 9, 10, 11, 29, 30, 31] [] (P2 ++ [(x16 == x17) = false, Qa5 [(1, 1), (1001, 1001), (2, 2), (3, 3)] Z10, Qa5 [(1, 1), (1001, 1001), (2, 2), (3, 3)] Z2, Qa5 [(1, 1), (1001, 1001), (2, 2), (3, 3)] (a11.map o3), Qa5 [(1, 1), (1001, 1001), (2, 2), (3, 3)] Z5]) (Qav AP2 ⟨c21, (Qpz (rok (Qa6 t24)) rfl), (rok (Qa6 t3)), (rok (Qa6 t3)), (rok (Qa6 t3)), trivial⟩) (ih a9 a10 a11 a12 (w64 (v13 + 1)) _ h)
  ·exact gT hP hn hx [hF 1, hO 3 Z11] [(1, 1), (1001, 1001), (2, 2), (3, 3)] [0, 2, 7, 8, 9, 10, 51, 52, 53] [] [Z1 = false, AV.lit (.int .i64 ((Z5.length : Nat) : Int)) = Z11, Qa5 [(1, 1), (1001, 1001), (2, 2), (3, 3)] Z10, Qa5 [(1, 1), (1001, 1001), (2, 2), (3, 3)] Z2, Qa5 [(1, 1), (1001, 1001), (2, 2), (3, 3)] (a11.map o3), Qa5 [(1, 1), (1001, 1001), (2, 2), (3, 3)] Z5] ⟨c22, (Qej o3), (Qpz (rok (Qa6 t24)) rfl), (rok (Qa6 t3)), (rok (Qa6 t3)), (rok (Qa6 t3)), trivial⟩ (Qod hP hn hx p1 p3 v6 a12 hK0 FU a9 a10 a11 a12 0 _ h)
noncomputable def Qbz  (p1 : (List (List Int))) (p3 : Int) : Nat → (List (List Int)) → (List Int) → Int → Option (List Int)
 | 0, _, _, _ => none
 | n + 1, a4, a5, v6 =>
 if (decide (v6 < (a4.length : Int))) = true then
  Option.bind (rd a4 v6) fun x8 =>
  Qcm (Qbz p1 p3 n) p1 p3 v6 FU a4 x8 a5 [] 0
 else
  some []
theorem Qof {E : Env} (hP : E.P = Try.prog) (hn : E.n = 78) (hx : FX E []) (p1 : (List (List Int))) (p3 : Int)  : ∀ (n : Nat) (a4 : (List (List Int))) (a5 : (List Int)) (v6 : Int) (r : (List Int)), Qbz p1 p3 n a4 a5 v6 = some r → WAt E Qpu (FQ (Qe2 Θ Try.f34.results.toList [] [] (AV.own 3 1 (r.map o3)) E)) [true, true, true, false, true, false] ⟨[(0, (AV.ro 1 (p1.map r24))), (2, (I p3)), (7, (AV.sl 1 0 (List.length (a4.map o24)))), (8, (AV.sl 2 0 (List.length (a5.map o3)))), (9, (I v6))], [(1, some ⟨24, 1, (a4.map o24)⟩), (2, some ⟨3, 1, (a5.map o3)⟩)], [1, 2, JJ]⟩ := by
 intro n
 induction n with
 | zero => intro a4 a5 v6 r h; simp only [Qbz] at h; cases h
 | succ n ih =>
  intro a4 a5 v6 r h
  simp only [Qbz] at h
  let Z0 := (I (a4.length : Int)); let Z3 := a4.map o24; let Z6 := (I (p1.length : Int)); let Z7 := ((Z3.length : Nat) : Int); let Z8 := (decide (v6 < (a4.length : Int)))
  rcases itS h with ⟨c7, h⟩ | ⟨c43, h⟩
  ·obtain ⟨x8, hx8, h⟩ := bnS h
   exact (let Z1 := x8.map o3; let Z2 := [(AV.own 3 1 Z1)]; let Z4 := AV.sl 1001 0 Z1.length; let Z5 := Z3.set v6.toNat [Z4]; gT hP hn hx [hO 2 Z0, hT 4, hh 8 (.unpack 1 1001 v6.toNat 0 Z2 3 1 Z1 Z5), hh 8 (.row [Z4]), hO 12 Z6, hh 14 (.slen 7 Z5.length), hh 14 (.nil 11 1002 3 1)] [(1, 1), (1001, 1001), (2, 2), (1002, 3)] [0, 2, 7, 8, 9, 10, 11, 29, 30, 31] [] [AV.lit (.int .i64 Z7) = Z0, Z8 = true, (0 : Int) ≤ v6, v6 < Z7, Z3[v6.toNat]? = some Z2, Z2[0]? = some (AV.own 3 1 Z1), 0 < 1, Z3.set v6.toNat (Z2.set 0 Z4) = Z5, Z5[v6.toNat]? = some [Z4], AV.lit (.int .i64 (((p1.map r24).length : Nat) : Int)) = Z6, Z3.length = Z5.length, Qa5 [(1, 1), (1001, 1001), (2, 2), (1002, 3)] Z5, Qa5 [(1, 1), (1001, 1001), (2, 2), (1002, 3)] Z1, Qa5 [(1, 1), (1001, 1001), (2, 2), (1002, 3)] (a5.map o3), Qa5 [(1, 1), (1001, 1001), (2, 2), (1002, 3)] ([].map o3)] ⟨(Qej o24), c7, (rd0 hx8), (rdL o24 hx8), (rdM o24 hx8), rfl, (by decide), rfl, (Xck (rdM o24 hx8)), (Qej r24), lnq, (Qpz (rok (Qa6 t24)) rfl), (rok (Qa6 t3)), (rok (Qa6 t3)), (rok (Qa6 t3)), trivial⟩ (Qnv hP hn hx p1 p3 v6 ih FU a4 x8 a5 [] 0 _ h))
  ·obtain rfl := sj h
   exact gR hP hn [hO 2 Z0, hF 4] [] .own [AV.lit (.int .i64 Z7) = Z0, Z8 = false] ⟨(Qej o24), c43, trivial⟩
noncomputable def Qgs (p1 : (List (List Int))) (p2 : Int) (p3 : Int) : Option (List Int) :=
 Qbz p1 p3 FU [[p2]] [] 0
theorem Qrl {p1 : (List (List Int))} {p2 : Int} {p3 : Int} {r : (List Int)} (h : Qgs p1 p2 p3 = some r) : Qaa Try.prog 34 [(AV.ro 1 (p1.map r24)), (I p2), (I p3)] (AV.own 3 1 (r.map o3)) := by
 refine gM Try.func34 78 Qpu fun E hP hn hx => ?_
 unfold Qgs at h
 exact (let Z0 := [p2].map o3; let Z1 := AV.sl 1001 0 Z0.length; let Z2 := [[p2]].map o24; gT hP hn hx [hW 2 1001, hW 3 1002, hh 7 (.pack 1002 1001 0 0 [Z1] Z2), hh 7 (.slen 7 Z2.length), hh 7 (.nil 8 1003 3 1)] [(1002, 1), (1003, 2)] [0, 2, 7, 8, 9] [] [[[Z1]][0]? = some [Z1], [Z1][0]? = some Z1, Qac Z0 = true, [[Z1]].set 0 ([Z1].set 0 (AV.own 3 1 Z0)) = Z2, [[Z1]].length = Z2.length, Qa5 [(1002, 1), (1003, 2)] Z2, Qa5 [(1002, 1), (1003, 2)] ([].map o3)] ⟨rfl, rfl, (Qa6 t3), rfl, lnq, (rok (Qa6 t24)), (rok (Qa6 t3)), trivial⟩ (Qof hP hn hx p1 p3 FU [[p2]] [] 0 _ h))
noncomputable def Xax : Code := match Try.f15.body with | some c => c | none => .skip
noncomputable def Qc9  (p1 : (List (List Int))) : Nat → Int → Option (List Int)
 | 0, _ => none
 | n + 1, v2 =>
 if (decide (v2 < 100)) = true then
  Option.bind (Qgs p1 v2 v2) fun r4 =>
  if (decide ((r4.length : Int) > 0)) = true then
   some r4
  else
   Qc9 p1 n (w64 (v2 + 1))
 else
  some []
theorem Qli {E : Env} (hP : E.P = Try.prog) (hn : E.n = 17) (hx : FX E []) (p1 : (List (List Int)))  : ∀ (n : Nat) (v2 : Int) (r : (List Int)), Qc9 p1 n v2 = some r → WAt E Xax (FQ (Qe2 Θ Try.f15.results.toList [] [] (AV.own 3 1 (r.map o3)) E)) [true, false, true, false] ⟨[(0, (AV.ro 1 (p1.map r24))), (3, (I v2))], [], [JJ]⟩ := by
 intro n
 induction n with
 | zero => intro v2 r h; simp only [Qc9] at h; cases h
 | succ n ih =>
  intro v2 r h
  simp only [Qc9] at h
  rcases itS h with ⟨c3, h⟩ | ⟨c7, h⟩
  ·obtain ⟨r4, hr4, h⟩ := bnS h
   let Z0 := r4.map o3; let Z1 := AV.own 3 1 Z0; let Z2 := (I (r4.length : Int)); let Z3 := (decide ((r4.length : Int) > 0))
   let H1 : List Hn := [hT 2, hh 6 (.call [] Z1 [1001]), hO 9 Z2]
   let P2 : List Prop := [(decide (v2 < 100)) = true, Qaa Try.prog 34 [(AV.ro 1 (p1.map r24)), (I v2), (I v2)] Z1, Qek Z1 = true, AV.lit (.int .i64 ((Z0.length : Nat) : Int)) = Z2]
   have AP2 : Qb5 P2 := ⟨c3, (Qrl hr4), (by simp +zetaDelta only [Qek, Qdn, Qbd n3, Bool.and_self]), (Qej o3), trivial⟩
   rcases itS h with ⟨c5, h⟩ | ⟨c6, h⟩
   ·obtain rfl := sj h
    exact gR hP hn (H1 ++ [hT 11]) [] .own (P2 ++ [Z3 = true, Qac (Z0.take Z0.length) = true, Z0.take Z0.length = Z0, Qaz Z0 = true]) (Qav AP2 ⟨c5, (Qgc t3), Qgi, (Qbd n3), trivial⟩)
   ·exact gT hP hn hx (H1 ++ [hF 11]) [] [0, 3] [] (P2 ++ [Z3 = false]) (Qav AP2 ⟨c6, trivial⟩) (ih (w64 (v2 + 1)) _ h)
  ·obtain rfl := sj h
   exact gR hP hn [hF 2] [] .own [(decide (v2 < 100)) = false] ⟨c7, trivial⟩
noncomputable def Qf8 (p1 : (List (List Int))) : Option (List Int) :=
 Qc9 p1 FU 0
theorem Qp4 {p1 : (List (List Int))} {r : (List Int)} (h : Qf8 p1 = some r) : Qaa Try.prog 15 [(AV.ro 1 (p1.map r24))] (AV.own 3 1 (r.map o3)) := by
 refine gM Try.func15 17 Xax fun E hP hn hx => ?_
 unfold Qf8 at h
 exact gT hP hn hx [] [] [0, 3] [] [] trivial (Qli hP hn hx p1 FU 0 _ h)
noncomputable def Xcw : Code := match Try.f16.body with | some c => c | none => .skip
noncomputable def Qcr (p1 : Qa0) : Option Int :=
 if (p1.Kind == 4) = true then
  some p1.Obj
 else
  if (p1.Kind == 9) = true then
   some p1.Lock
  else
   some (-3)
theorem Qe9 {p1 : Qa0} {r : Int} (h : Qcr p1 = some r) : Qaa Try.prog 16 [(AV.agg ((o39 p1)))] (I r) := by
 refine gM Try.func16 13 Xcw fun E hP hn hx => ?_
 unfold Qcr at h
 let Z0 := p1.Kind == 4
 rcases itS h with ⟨c2, h⟩ | ⟨c3, h⟩
 ·obtain rfl := sj h
  exact gR hP hn [hW 0 1001, hT 6] [] .raw [Z0 = true, (I p1.Obj) = (I p1.Obj), Qap (I p1.Obj) = true] ⟨c2, rfl, rfl, trivial⟩
 ·rcases itS h with ⟨c4, h⟩ | ⟨c5, h⟩
  ·obtain rfl := sj h
   exact gR hP hn [hW 0 1001, hF 6, hT 9] [] .raw [Z0 = false, (p1.Kind == 9) = true, (I p1.Lock) = (I p1.Lock), Qap (I p1.Lock) = true] ⟨c3, c4, rfl, rfl, trivial⟩
  ·obtain rfl := sj h
   exact gR hP hn [hW 0 1001, hF 6, hF 9] [] .raw [Z0 = false, (p1.Kind == 9) = false, (I (-3)) = (I (-3)), Qap (I (-3)) = true] ⟨c3, c5, rfl, rfl, trivial⟩
noncomputable def Xd7 : Code := match Try.f44.body with | some c => c | none => .skip
noncomputable def Qe6 (p1 : Int) (p2 : Int) (p3 : Int) : Option Bool :=
 if (decide (p1 ≥ p2)) = true then
  some (decide (p1 ≤ p3))
 else
  some false
theorem Qeu {p1 : Int} {p2 : Int} {p3 : Int} {r : Bool} (h : Qe6 p1 p2 p3 = some r) : Qaa Try.prog 44 [(I p1), (I p2), (I p3)] (B r) := by
 refine gM Try.func44 15 Xd7 fun E hP hn hx => ?_
 unfold Qe6 at h
 let Z0 := B (decide (p1 ≥ p2)); let Z1 := B (decide (p1 ≤ p3)); let Z2 := B false
 rcases itS h with ⟨c4, h⟩ | ⟨c5, h⟩
 ·obtain rfl := sj h
  exact gR hP hn [hO 4 (B true)] [] .raw [Z0 = (B true), Z1 = Z1, Qap Z1 = true] ⟨(Qd6 c4), rfl, rfl, trivial⟩
 ·obtain rfl := sj h
  exact gR hP hn [hO 4 Z2] [] .raw [Z0 = Z2, Z2 = Z2, Qap Z2 = true] ⟨(Qd6 c5), rfl, rfl, trivial⟩
noncomputable def Xay : Code := match Try.f32.body with | some c => c | none => .skip
noncomputable def Qb9  (p1 : Qa0)  : Option Bool :=
 Option.bind (Qe6 p1.Thread 0 4) fun r9 =>
 if r9 = true then
  Option.bind (Qe6 p1.Kind 1 12) fun r11 =>
  if r11 = true then
   Option.bind (Qe6 p1.Obj (-1) 99) fun r13 =>
   if r13 = true then
    Option.bind (Qe6 p1.Lock (-1) 99) fun r15 =>
    if r15 = true then
     Option.bind (Qe6 p1.Pc 0 99) fun r17 =>
     some r17
    else
     some false
   else
    some false
  else
   some false
 else
  some false
theorem Qc3 {E : Env} (hP : E.P = Try.prog) (hn : E.n = 49) (hx : FX E []) (p1 : Qa0)   (r : Bool) (h : Qb9 p1  = some r) : WAt E Xay (FQ (Qe2 Θ Try.f32.results.toList [] [] (B r) E)) [true, false, true, true] ⟨[(1, (AV.ptr 1 0 0))], [(1, some ⟨39, 5, [((o39 p1))]⟩)], [1, JJ]⟩ := by
 unfold Qb9 at h
 obtain ⟨r9, hr9, h⟩ := bnS h
 let Z0 := B true; let Z1 := B false
 let H1 : List Hn := [hh 2 (.callV [] (B r9))]
 let P2 : List Prop := [Qaa Try.prog 44 [(I p1.Thread), (I 0), (I 4)] (B r9), Qap (B r9) = true]
 have AP2 : Qb5 P2 := ⟨(Qeu hr9), rfl, trivial⟩
 rcases itS h with ⟨c10, h⟩ | ⟨c21, h⟩
 ·obtain ⟨r11, hr11, h⟩ := bnS h
  let H3 : List Hn := H1 ++ [hO 3 Z0, hh 6 (.callV [] (B r11))]
  let P4 : List Prop := P2 ++ [(B r9) = Z0, Qaa Try.prog 44 [(I p1.Kind), (I 1), (I 12)] (B r11), Qap (B r11) = true]
  have AP4 : Qb5 P4 := Qav AP2 ⟨(Qd6 c10), (Qeu hr11), rfl, trivial⟩
  rcases itS h with ⟨c12, h⟩ | ⟨c20, h⟩
  ·obtain ⟨r13, hr13, h⟩ := bnS h
   let H5 : List Hn := H3 ++ [hO 8 Z0, hh 11 (.callV [] (B r13))]
   let P6 : List Prop := P4 ++ [(B r11) = Z0, Qaa Try.prog 44 [(I p1.Obj), (I (-1)), (I 99)] (B r13), Qap (B r13) = true]
   have AP6 : Qb5 P6 := Qav AP4 ⟨(Qd6 c12), (Qeu hr13), rfl, trivial⟩
   rcases itS h with ⟨c14, h⟩ | ⟨c19, h⟩
   ·obtain ⟨r15, hr15, h⟩ := bnS h
    let P7 : List Prop := P6 ++ [(B r13) = Z0, Qaa Try.prog 44 [(I p1.Lock), (I (-1)), (I 99)] (B r15), Qap (B r15) = true]
    have AP7 : Qb5 P7 := Qav AP6 ⟨(Qd6 c14), (Qeu hr15), rfl, trivial⟩
    rcases itS h with ⟨c16, h⟩ | ⟨c18, h⟩
    ·obtain ⟨r17, hr17, h⟩ := bnS h
     obtain rfl := sj h
     exact gR hP hn (H5 ++ [hO 13 Z0, hh 16 (.callV [] (B r15)), hO 18 Z0, hh 21 (.callV [] (B r17))]) [] .raw (P7 ++ [(B r15) = Z0, Qaa Try.prog 44 [(I p1.Pc), (I 0), (I 99)] (B r17), Qap (B r17) = true, (B r17) = (B r17), Qap (B r17) = true]) (Qav AP7 ⟨(Qd6 c16), (Qeu hr17), rfl, rfl, rfl, trivial⟩)
    ·obtain rfl := sj h
     exact gR hP hn (H5 ++ [hO 13 Z0, hh 16 (.callV [] (B r15)), hO 18 Z1]) [] .raw (P7 ++ [(B r15) = Z1, Z1 = Z1, Qap Z1 = true]) (Qav AP7 ⟨(Qd6 c18), rfl, rfl, trivial⟩)
   ·obtain rfl := sj h
    exact gR hP hn (H5 ++ [hO 13 Z1]) [] .raw (P6 ++ [(B r13) = Z1, Z1 = Z1, Qap Z1 = true]) (Qav AP6 ⟨(Qd6 c19), rfl, rfl, trivial⟩)
  ·obtain rfl := sj h
   exact gR hP hn (H3 ++ [hO 8 Z1]) [] .raw (P4 ++ [(B r11) = Z1, Z1 = Z1, Qap Z1 = true]) (Qav AP4 ⟨(Qd6 c20), rfl, rfl, trivial⟩)
 ·obtain rfl := sj h
  exact gR hP hn (H1 ++ [hO 3 Z1]) [] .raw (P2 ++ [(B r9) = Z1, Z1 = Z1, Qap Z1 = true]) (Qav AP2 ⟨(Qd6 c21), rfl, rfl, trivial⟩)
noncomputable def Qf1 (p1 : Qa0) : Option Bool :=
 Option.bind (Qe6 p1.Kind 2 10) fun r2 =>
 if r2 = true then
  if (decide (p1.Obj < 0)) = true then
   some false
  else
   if (p1.Kind == 8) = true then
    if (decide (p1.Lock < 0)) = true then
     some false
    else
     Qb9 p1
   else
    if (p1.Kind == 9) = true then
     if (decide (p1.Lock < 0)) = true then
      some false
     else
      Qb9 p1
    else
     Qb9 p1
 else
  if (p1.Kind == 8) = true then
   if (decide (p1.Lock < 0)) = true then
    some false
   else
    Qb9 p1
  else
   if (p1.Kind == 9) = true then
    if (decide (p1.Lock < 0)) = true then
     some false
    else
     Qb9 p1
   else
    Qb9 p1
theorem Qp5 {p1 : Qa0} {r : Bool} (h : Qf1 p1 = some r) : Qaa Try.prog 32 [(AV.agg ((o39 p1)))] (B r) := by
 refine gM Try.func32 49 Xay fun E hP hn hx => ?_
 unfold Qf1 at h
 obtain ⟨r2, hr2, h⟩ := bnS h
 let Z0 := B true; let Z1 := B (decide (p1.Obj < 0)); let Z2 := B false; let Z3 := B (p1.Kind == 8); let Z4 := decide (p1.Lock < 0); let Z5 := o39 p1; let Z6 := B (p1.Kind == 9)
 let H1 : List Hn := [hW 0 1001, hh 4 (.callV [] (B r2))]
 let P2 : List Prop := [Qaa Try.prog 44 [(I p1.Kind), (I 2), (I 10)] (B r2), Qap (B r2) = true]
 have AP2 : Qb5 P2 := ⟨(Qeu hr2), rfl, trivial⟩
 rcases itS h with ⟨c3, h⟩ | ⟨c27, h⟩
 ·let H3 : List Hn := H1 ++ [hO 5 Z0]
  let P4 : List Prop := P2 ++ [(B r2) = Z0]
  have AP4 : Qb5 P4 := Qav AP2 ⟨(Qd6 c3), trivial⟩
  rcases itS h with ⟨c4, h⟩ | ⟨c5, h⟩
  ·obtain rfl := sj h
   exact gR hP hn (H3 ++ [hO 10 Z0]) [] .raw (P4 ++ [Z1 = Z0, Z2 = Z2, Qap Z2 = true]) (Qav AP4 ⟨(Qd6 c4), rfl, rfl, trivial⟩)
  ·let P5 : List Prop := P4 ++ [Z1 = Z2]
   have AP5 : Qb5 P5 := Qav AP4 ⟨(Qd6 c5), trivial⟩
   rcases itS h with ⟨c6, h⟩ | ⟨c22, h⟩
   ·rcases itS h with ⟨c7, h⟩ | ⟨c8, h⟩
    ·obtain rfl := sj h
     exact gR hP hn (H3 ++ [hO 10 Z2, hO 14 Z0, hT 25]) [] .raw (P5 ++ [Z3 = Z0, Z4 = true, Z2 = Z2, Qap Z2 = true]) (Qav AP5 ⟨(Qd6 c6), c7, rfl, rfl, trivial⟩)
    ·exact gT hP hn hx (H3 ++ [hO 10 Z2, hO 14 Z0, hF 25]) [(1001, 1)] [1] [] (P5 ++ [Z3 = Z0, Z4 = false, Qa5 [(1001, 1)] [Z5]]) (Qav AP5 ⟨(Qd6 c6), c8, (rok rfl), trivial⟩) (Qc3 hP hn hx p1  _ h)
   ·rcases itS h with ⟨c23, h⟩ | ⟨c26, h⟩
    ·rcases itS h with ⟨c24, h⟩ | ⟨c25, h⟩
     ·obtain rfl := sj h
      exact gR hP hn (H3 ++ [hO 10 Z2, hO 14 Z2, hO 19 Z0, hT 25]) [] .raw (P5 ++ [Z3 = Z2, Z6 = Z0, Z4 = true, Z2 = Z2, Qap Z2 = true]) (Qav AP5 ⟨(Qd6 c22), (Qd6 c23), c24, rfl, rfl, trivial⟩)
     ·exact gT hP hn hx (H3 ++ [hO 10 Z2, hO 14 Z2, hO 19 Z0, hF 25]) [(1001, 1)] [1] [] (P5 ++ [Z3 = Z2, Z6 = Z0, Z4 = false, Qa5 [(1001, 1)] [Z5]]) (Qav AP5 ⟨(Qd6 c22), (Qd6 c23), c25, (rok rfl), trivial⟩) (Qc3 hP hn hx p1  _ h)
    ·exact gT hP hn hx (H3 ++ [hO 10 Z2, hO 14 Z2, hO 19 Z2]) [(1001, 1)] [1] [] (P5 ++ [Z3 = Z2, Z6 = Z2, Qa5 [(1001, 1)] [Z5]]) (Qav AP5 ⟨(Qd6 c22), (Qd6 c26), (rok rfl), trivial⟩) (Qc3 hP hn hx p1  _ h)
 ·let P6 : List Prop := P2 ++ [(B r2) = Z2]
  have AP6 : Qb5 P6 := Qav AP2 ⟨(Qd6 c27), trivial⟩
  rcases itS h with ⟨c28, h⟩ | ⟨c31, h⟩
  ·rcases itS h with ⟨c29, h⟩ | ⟨c30, h⟩
   ·obtain rfl := sj h
    exact gR hP hn (H1 ++ [hO 5 Z2, hO 14 Z0, hT 25]) [] .raw (P6 ++ [Z3 = Z0, Z4 = true, Z2 = Z2, Qap Z2 = true]) (Qav AP6 ⟨(Qd6 c28), c29, rfl, rfl, trivial⟩)
   ·exact gT hP hn hx (H1 ++ [hO 5 Z2, hO 14 Z0, hF 25]) [(1001, 1)] [1] [] (P6 ++ [Z3 = Z0, Z4 = false, Qa5 [(1001, 1)] [Z5]]) (Qav AP6 ⟨(Qd6 c28), c30, (rok rfl), trivial⟩) (Qc3 hP hn hx p1  _ h)
  ·rcases itS h with ⟨c32, h⟩ | ⟨c35, h⟩
   ·rcases itS h with ⟨c33, h⟩ | ⟨c34, h⟩
    ·obtain rfl := sj h
     exact gR hP hn (H1 ++ [hO 5 Z2, hO 14 Z2, hO 19 Z0, hT 25]) [] .raw (P6 ++ [Z3 = Z2, Z6 = Z0, Z4 = true, Z2 = Z2, Qap Z2 = true]) (Qav AP6 ⟨(Qd6 c31), (Qd6 c32), c33, rfl, rfl, trivial⟩)
    ·exact gT hP hn hx (H1 ++ [hO 5 Z2, hO 14 Z2, hO 19 Z0, hF 25]) [(1001, 1)] [1] [] (P6 ++ [Z3 = Z2, Z6 = Z0, Z4 = false, Qa5 [(1001, 1)] [Z5]]) (Qav AP6 ⟨(Qd6 c31), (Qd6 c32), c34, (rok rfl), trivial⟩) (Qc3 hP hn hx p1  _ h)
   ·exact gT hP hn hx (H1 ++ [hO 5 Z2, hO 14 Z2, hO 19 Z2]) [(1001, 1)] [1] [] (P6 ++ [Z3 = Z2, Z6 = Z2, Qa5 [(1001, 1)] [Z5]]) (Qav AP6 ⟨(Qd6 c31), (Qd6 c35), (rok rfl), trivial⟩) (Qc3 hP hn hx p1  _ h)
noncomputable def Xau : Code := match Try.f13.body with | some c => c | none => .skip
noncomputable def Qc5  (p1 : (List Qa0)) : Nat → Int → Option Bool
 | 0, _ => none
 | n + 1, v2 =>
 if (decide (v2 < (p1.length : Int))) = true then
  Option.bind (rd p1 v2) fun x4 =>
  Option.bind (Qf1 x4) fun r5 =>
  if (!r5) = true then
   some false
  else
   Qc5 p1 n (w64 (v2 + 1))
 else
  some (decide ((p1.length : Int) ≤ 200))
theorem Qlb {E : Env} (hP : E.P = Try.prog) (hn : E.n = 18) (hx : FX E []) (p1 : (List Qa0))  : ∀ (n : Nat) (v2 : Int) (r : Bool), Qc5 p1 n v2 = some r → WAt E Xau (FQ (Qe2 Θ Try.f13.results.toList [] [] (B r) E)) [true, false, true, false] ⟨[(0, (AV.ro 5 (p1.map o39))), (5, (AV.ro 5 (p1.map o39))), (6, (I (p1.length : Int))), (7, (I v2))], [], [JJ]⟩ := by
 intro n
 induction n with
 | zero => intro v2 r h; simp only [Qc5] at h; cases h
 | succ n ih =>
  intro v2 r h
  simp only [Qc5] at h
  let Z0 := (p1.length : Int); let Z1 := B (decide (Z0 ≤ 200))
  rcases itS h with ⟨c3, h⟩ | ⟨c8, h⟩
  ·obtain ⟨x4, hx4, h⟩ := bnS h
   obtain ⟨r5, hr5, h⟩ := bnS h
   let P1 : List Prop := [(decide (v2 < Z0)) = true, (0 : Int) ≤ v2, (p1.map o39)[v2.toNat]? = some (o39 x4), Qaa Try.prog 32 [(AV.agg ((o39 x4)))] (B r5), Qap (B r5) = true]
   have AP1 : Qb5 P1 := ⟨c3, (rd0 hx4), (rdM o39 hx4), (Qp5 hr5), rfl, trivial⟩
   rcases itS h with ⟨c6, h⟩ | ⟨c7, h⟩
   ·obtain rfl := sj h
    exact gR hP hn [hT 1, hh 2 (.row (o39 x4)), hW 4 1001, hh 7 (.callV [[]] (B r5)), hT 9] [] .raw (P1 ++ [(!r5) = true, (B false) = (B false), Qap (B false) = true]) (Qav AP1 ⟨c6, rfl, rfl, trivial⟩)
   ·exact gT hP hn hx [hT 1, hh 2 (.row (o39 x4)), hW 4 1001, hh 7 (.callV [[]] (B r5)), hF 9] [] [0, 5, 6, 7] [] (P1 ++ [(!r5) = false]) (Qav AP1 ⟨c7, trivial⟩) (ih (w64 (v2 + 1)) _ h)
  ·obtain rfl := sj h
   exact gR hP hn [hF 1, hO 3 (I Z0)] [] .raw [(decide (v2 < Z0)) = false, AV.lit (.int .i64 (((p1.map o39).length : Nat) : Int)) = (I Z0), Z1 = Z1, Qap Z1 = true] ⟨c8, (Qej o39), rfl, rfl, trivial⟩
noncomputable def Qf3 (p1 : (List Qa0)) : Option Bool :=
 Qc5 p1 FU 0
theorem Qop {p1 : (List Qa0)} {r : Bool} (h : Qf3 p1 = some r) : Qaa Try.prog 13 [(AV.ro 5 (p1.map o39))] (B r) := by
 refine gM Try.func13 18 Xau fun E hP hn hx => ?_
 unfold Qf3 at h
 exact (let Z0 := (I (p1.length : Int)); gT hP hn hx [hO 2 Z0] [] [0, 5, 6, 7] [] [AV.lit (.int .i64 (((p1.map o39).length : Nat) : Int)) = Z0] ⟨(Qej o39), trivial⟩ (Qlb hP hn hx p1 FU 0 _ h))
noncomputable def Xat : Code := match Try.f19.body with | some c => c | none => .skip
noncomputable def Qc1  (p1 : (List Int)) (p2 : Int) : Nat → (List Int) → Int → Option (List Int)
 | 0, _, _ => none
 | n + 1, a3, v4 =>
 if (decide (v4 < (p1.length : Int))) = true then
  Option.bind (rd p1 v4) fun x6 =>
  if (x6 != p2) = true then
   Option.bind (app a3 [x6]) fun l8 =>
   Qc1 p1 p2 n l8 (w64 (v4 + 1))
  else
   Qc1 p1 p2 n a3 (w64 (v4 + 1))
 else
  some a3
theorem Qmd {E : Env} (hP : E.P = Try.prog) (hn : E.n = 23) (hx : FX E []) (p1 : (List Int)) (p2 : Int)  : ∀ (n : Nat) (a3 : (List Int)) (v4 : Int) (r : (List Int)), Qc1 p1 p2 n a3 v4 = some r → WAt E Xat (FQ (Qe2 Θ Try.f19.results.toList [] [] (AV.own 3 1 (r.map o3)) E)) [true, true, false, true, false] ⟨[(1, (I p2)), (5, (AV.sl 1 0 (List.length (a3.map o3)))), (8, (AV.ro 1 (p1.map o3))), (9, (I (p1.length : Int))), (10, (I v4))], [(1, some ⟨3, 1, (a3.map o3)⟩)], [1, JJ]⟩ := by
 intro n
 induction n with
 | zero => intro a3 v4 r h; simp only [Qc1] at h; cases h
 | succ n ih =>
  intro a3 v4 r h
  simp only [Qc1] at h
  let Z0 := (decide (v4 < (p1.length : Int))); let Z2 := a3.map o3
  rcases itS h with ⟨c5, h⟩ | ⟨c10, h⟩
  ·obtain ⟨x6, hx6, h⟩ := bnS h
   let Z3 := (([x6].map o3).drop 0).take ([x6].map o3).length
   let P1 : List Prop := [Z0 = true, (0 : Int) ≤ v4, (p1.map o3)[v4.toNat]? = some (o3 x6)]
   have AP1 : Qb5 P1 := ⟨c5, (rd0 hx6), (rdM o3 hx6), trivial⟩
   rcases itS h with ⟨c7, h⟩ | ⟨c9, h⟩
   ·obtain ⟨l8, hl8, h⟩ := bnS h
    exact (let Z1 := l8.map o3; gT hP hn hx [hT 1, hh 2 (.row (o3 x6)), hT 8, hW 11 1001, hh 12 (.app 1002 Z1)] [(1002, 1)] [1, 5, 8, 9, 10] [] (P1 ++ [(x6 != p2) = true, Z2.take Z2.length ++ Z3 = Z1, Z3.all (fun r => r.all AV.plain) = true, Z1.length * 8 ≤ 140737488355328, Z1.length ≤ 140737488355328, Qa5 [(1002, 1)] Z1]) (Qav AP1 ⟨c7, (Qp6 o3 hl8), (plD pa3), (Quf o3 hl8 (by decide)), (Qux o3 hl8), (rok (Qa6 t3)), trivial⟩) (ih l8 (w64 (v4 + 1)) _ h))
   ·exact gT hP hn hx [hT 1, hh 2 (.row (o3 x6)), hF 8] [(1, 1)] [1, 5, 8, 9, 10] [] (P1 ++ [(x6 != p2) = false, Qa5 [(1, 1)] Z2]) (Qav AP1 ⟨c9, (rok (Qa6 t3)), trivial⟩) (ih a3 (w64 (v4 + 1)) _ h)
  ·obtain rfl := sj h
   exact gR hP hn [hF 1] [] .own [Z0 = false, Qac (Z2.take Z2.length) = true, Z2.take Z2.length = Z2, Qaz Z2 = true] ⟨c10, (Qgc t3), Qgi, (Qbd n3), trivial⟩
noncomputable def Qda (p1 : (List Int)) (p2 : Int) : Option (List Int) :=
 Qc1 p1 p2 FU [] 0
theorem Qhd {p1 : (List Int)} {p2 : Int} {r : (List Int)} (h : Qda p1 p2 = some r) : Qaa Try.prog 19 [(AV.ro 1 (p1.map o3)), (I p2)] (AV.own 3 1 (r.map o3)) := by
 refine gM Try.func19 23 Xat fun E hP hn hx => ?_
 unfold Qda at h
 exact (let Z0 := (I (p1.length : Int)); gT hP hn hx [hO 3 Z0, hh 5 (.nil 5 1001 3 1)] [(1001, 1)] [1, 5, 8, 9, 10] [] [AV.lit (.int .i64 (((p1.map o3).length : Nat) : Int)) = Z0, Qa5 [(1001, 1)] ([].map o3)] ⟨(Qej o3), (rok (Qa6 t3)), trivial⟩ (Qmd hP hn hx p1 p2 FU [] 0 _ h))
noncomputable def Xcn : Code := match Try.f57.body with | some c => c | none => .skip
noncomputable def Qee (p1 : Qa0) : Option Int :=
 if (p1.Kind == 5) = true then
  some p1.Obj
 else
  if (p1.Kind == 8) = true then
   some p1.Lock
  else
   some (-2)
theorem Qgb {p1 : Qa0} {r : Int} (h : Qee p1 = some r) : Qaa Try.prog 57 [(AV.agg ((o39 p1)))] (I r) := by
 refine gM Try.func57 13 Xcn fun E hP hn hx => ?_
 unfold Qee at h
 let Z0 := p1.Kind == 5
 rcases itS h with ⟨c2, h⟩ | ⟨c3, h⟩
 ·obtain rfl := sj h
  exact gR hP hn [hW 0 1001, hT 6] [] .raw [Z0 = true, (I p1.Obj) = (I p1.Obj), Qap (I p1.Obj) = true] ⟨c2, rfl, rfl, trivial⟩
 ·rcases itS h with ⟨c4, h⟩ | ⟨c5, h⟩
  ·obtain rfl := sj h
   exact gR hP hn [hW 0 1001, hF 6, hT 9] [] .raw [Z0 = false, (p1.Kind == 8) = true, (I p1.Lock) = (I p1.Lock), Qap (I p1.Lock) = true] ⟨c3, c4, rfl, rfl, trivial⟩
  ·obtain rfl := sj h
   exact gR hP hn [hW 0 1001, hF 6, hF 9] [] .raw [Z0 = false, (p1.Kind == 8) = false, (I (-2)) = (I (-2)), Qap (I (-2)) = true] ⟨c3, c5, rfl, rfl, trivial⟩
noncomputable def Qv7 : Code := match Try.f56.body with | some c => c | none => .skip
noncomputable def Qdi (K0 : (List Int) → Int → Option (List Int)) (p1 : (List Qa0)) (p2 : Int) (l3 : (List Qa0)) (v5 : Int) (a14 : (List Int)) (a15 : Qa0) : Option (List Int) :=
 Option.bind (Qee a15) fun r16 =>
 if (decide (r16 ≥ 0)) = true then
  Option.bind (Qda a14 r16) fun r18 =>
  K0 r18 (w64 (v5 + 1))
 else
  K0 a14 (w64 (v5 + 1))
theorem Qhi {E : Env} (hP : E.P = Try.prog) (hn : E.n = 43) (hx : FX E []) (p1 : (List Qa0)) (p2 : Int) (l3 : (List Qa0)) (v5 : Int) {K0 : (List Int) → Int → Option (List Int)} (hK0 : ∀ (a4 : (List Int)) (v5 : Int) (r : (List Int)), K0 a4 v5 = some r → WAt E Qv7 (FQ (Qe2 Θ Try.f56.results.toList [] [] (AV.own 3 1 (r.map o3)) E)) [true, true, false, true, false] ⟨[(0, (AV.ro 5 (p1.map o39))), (1, (I p2)), (5, (AV.sl 1 0 (List.length (a4.map o3)))), (13, (AV.ro 5 (l3.map o39))), (14, (I (l3.length : Int))), (15, (I v5))], [(1, some ⟨3, 1, (a4.map o3)⟩)], [1, JJ]⟩) (a14 : (List Int)) (a15 : Qa0) (r : (List Int)) (h : Qdi K0 p1 p2 l3 v5 a14 a15 = some r) : WAt E Qv7 (FQ (Qe2 Θ Try.f56.results.toList [] [] (AV.own 3 1 (r.map o3)) E)) [true, true, false, true, false, false, true, true, false, false, true, true, true] ⟨[(0, (AV.ro 5 (p1.map o39))), (1, (I p2)), (5, (AV.sl 1 0 (List.length (a14.map o3)))), (7, (AV.ptr 2 0 0)), (13, (AV.ro 5 (l3.map o39))), (14, (I (l3.length : Int))), (15, (I v5))], [(1, some ⟨3, 1, (a14.map o3)⟩), (2, some ⟨39, 5, [((o39 a15))]⟩)], [1, 2, JJ]⟩ := by
 unfold Qdi at h
 obtain ⟨r16, hr16, h⟩ := bnS h
 let Z0 := I r16; let Z1 := a14.map o3; let Z3 := [(AV.agg ((o39 a15)))]
 rcases itS h with ⟨c17, h⟩ | ⟨c19, h⟩
 ·obtain ⟨r18, hr18, h⟩ := bnS h
  exact (let Z2 := AV.own 3 1 (r18.map o3); gT hP hn hx [hh 1 (.callV [[]] Z0), hT 5, hh 8 (.call [Z1] Z2 [1001])] [(1001, 1)] [0, 1, 5, 13, 14, 15] [] [Qaa Try.prog 57 Z3 Z0, Qap Z0 = true, (decide (r16 ≥ 0)) = true, Qaa Try.prog 19 [(AV.ro 1 Z1), Z0] Z2, Qek Z2 = true, Frz ((Z1.drop 0).take Z1.length) Z1, Qa5 [(1001, 1)] (r18.map o3)] ⟨(Qgb hr16), rfl, c17, (Qhd hr18), (by simp +zetaDelta only [Qek, Qdn, Qbd n3, Bool.and_self]), (Qoz t3 z3), (rok (Qa6 t3)), trivial⟩ (hK0 r18 (w64 (v5 + 1)) _ h))
 ·exact gT hP hn hx [hh 1 (.callV [[]] Z0), hF 5] [(1, 1)] [0, 1, 5, 13, 14, 15] [] [Qaa Try.prog 57 Z3 Z0, Qap Z0 = true, (decide (r16 ≥ 0)) = false, Qa5 [(1, 1)] Z1] ⟨(Qgb hr16), rfl, c19, (rok (Qa6 t3)), trivial⟩ (hK0 a14 (w64 (v5 + 1)) _ h)
noncomputable def Qb8  (p1 : (List Qa0)) (p2 : Int) (l3 : (List Qa0)) : Nat → (List Int) → Int → Option (List Int)
 | 0, _, _ => none
 | n + 1, a4, v5 =>
 if (decide (v5 < (l3.length : Int))) = true then
  Option.bind (rd l3 v5) fun x7 =>
  Option.bind (rd p1 p2) fun x8 =>
  if (x7.Thread != x8.Thread) = true then
   Qb8 p1 p2 l3 n a4 (w64 (v5 + 1))
  else
   Option.bind (Qcr x7) fun r11 =>
   if (decide (r11 ≥ 0)) = true then
    Option.bind (Qdx a4 r11) fun r13 =>
    Qdi (Qb8 p1 p2 l3 n) p1 p2 l3 v5 r13 x7
   else
    Qdi (Qb8 p1 p2 l3 n) p1 p2 l3 v5 a4 x7
 else
  some a4
theorem Qme {E : Env} (hP : E.P = Try.prog) (hn : E.n = 43) (hx : FX E []) (p1 : (List Qa0)) (p2 : Int) (l3 : (List Qa0))  : ∀ (n : Nat) (a4 : (List Int)) (v5 : Int) (r : (List Int)), Qb8 p1 p2 l3 n a4 v5 = some r → WAt E Qv7 (FQ (Qe2 Θ Try.f56.results.toList [] [] (AV.own 3 1 (r.map o3)) E)) [true, true, false, true, false] ⟨[(0, (AV.ro 5 (p1.map o39))), (1, (I p2)), (5, (AV.sl 1 0 (List.length (a4.map o3)))), (13, (AV.ro 5 (l3.map o39))), (14, (I (l3.length : Int))), (15, (I v5))], [(1, some ⟨3, 1, (a4.map o3)⟩)], [1, JJ]⟩ := by
 intro n
 induction n with
 | zero => intro a4 v5 r h; simp only [Qb8] at h; cases h
 | succ n ih =>
  intro a4 v5 r h
  simp only [Qb8] at h
  let Z0 := (decide (v5 < (l3.length : Int))); let Z2 := a4.map o3
  rcases itS h with ⟨c6, h⟩ | ⟨c21, h⟩
  ·obtain ⟨x7, hx7, h⟩ := bnS h
   obtain ⟨x8, hx8, h⟩ := bnS h
   let Z1 := x7.Thread != x8.Thread
   let H1 : List Hn := [hT 1, hh 2 (.row (o39 x7)), hW 4 1001, hh 10 (.row (o39 x8))]
   let P2 : List Prop := [Z0 = true, (0 : Int) ≤ v5, (l3.map o39)[v5.toNat]? = some (o39 x7), (0 : Int) ≤ p2, (p1.map o39)[p2.toNat]? = some (o39 x8)]
   have AP2 : Qb5 P2 := ⟨c6, (rd0 hx7), (rdM o39 hx7), (rd0 hx8), (rdM o39 hx8), trivial⟩
   rcases itS h with ⟨c9, h⟩ | ⟨c10, h⟩
   ·exact gT hP hn hx (H1 ++ [hT 14]) [(1, 1)] [0, 1, 5, 13, 14, 15] [] (P2 ++ [Z1 = true, Qa5 [(1, 1)] Z2]) (Qav AP2 ⟨c9, (rok (Qa6 t3)), trivial⟩) (ih a4 (w64 (v5 + 1)) _ h)
   ·obtain ⟨r11, hr11, h⟩ := bnS h
    let P3 : List Prop := P2 ++ [Z1 = false, Qaa Try.prog 16 [(AV.agg ((o39 x7)))] (I r11), Qap (I r11) = true]
    have AP3 : Qb5 P3 := Qav AP2 ⟨c10, (Qe9 hr11), rfl, trivial⟩
    rcases itS h with ⟨c12, h⟩ | ⟨c20, h⟩
    ·obtain ⟨r13, hr13, h⟩ := bnS h
     exact (let Z3 := r13.map o3; let Z4 := AV.own 3 1 Z3; let Z5 := AV.sl 1002 0 Z3.length; let Z6 := rtf (Qff [] Z4) [1002]; gT hP hn hx (H1 ++ [hF 14, hh 16 (.callV [[]] (I r11)), hT 20, hh 23 (.callX [1] [false] [⟨3, 1, Z2⟩] [⟨3, 1, Z2⟩] [] Z4 [1002] Z5 [(1002, ⟨3, 1, Z3⟩)])]) [(1002, 1), (1001, 2)] [0, 1, 5, 7, 13, 14, 15] [] (P3 ++ [(decide (r11 ≥ 0)) = true, Qd3 Try.prog 17 [⟨3, 1, Z2⟩] [(AV.sl 0 0 Z2.length), (I r11)] [false] [⟨3, 1, Z2⟩] Z4, (some (Qao.mk 3 1 Z2) = some (Qao.mk 3 1 Z2)) ∧ True, (Qac Z2 = true ∧ Qaz Z2 = true) ∧ True, (Z2.length = Z2.length) ∧ True, Z6.1 = Z5, Z6.2.1 = [(1002, ⟨3, 1, Z3⟩)], Qa5 [(1002, 1), (1001, 2)] Z3, Qa5 [(1002, 1), (1001, 2)] [((o39 x7))]]) (Qav AP3 ⟨c12, (Qg6 hr13), ⟨rfl, trivial⟩, ⟨⟨Qa6 t3, Qbd n3⟩, trivial⟩, ⟨rfl, trivial⟩, rfl, rfl, (rok (Qa6 t3)), (rok rfl), trivial⟩) (Qhi hP hn hx p1 p2 l3 v5 ih r13 x7 _ h))
    ·exact gT hP hn hx (H1 ++ [hF 14, hh 16 (.callV [[]] (I r11)), hF 20]) [(1, 1), (1001, 2)] [0, 1, 5, 7, 13, 14, 15] [] (P3 ++ [(decide (r11 ≥ 0)) = false, Qa5 [(1, 1), (1001, 2)] Z2, Qa5 [(1, 1), (1001, 2)] [((o39 x7))]]) (Qav AP3 ⟨c20, (rok (Qa6 t3)), (rok rfl), trivial⟩) (Qhi hP hn hx p1 p2 l3 v5 ih a4 x7 _ h)
  ·obtain rfl := sj h
   exact gR hP hn [hF 1] [] .own [Z0 = false, Qac (Z2.take Z2.length) = true, Z2.take Z2.length = Z2, Qaz Z2 = true] ⟨c21, (Qgc t3), Qgi, (Qbd n3), trivial⟩
noncomputable def Qfz (p1 : (List Qa0)) (p2 : Int) : Option (List Int) :=
 Option.bind (slc p1 0 (w64 (p2 + 1))) fun l3 =>
 Qb8 p1 p2 l3 FU [] 0
theorem Qrd {p1 : (List Qa0)} {p2 : Int} {r : (List Int)} (h : Qfz p1 p2 = some r) : Qaa Try.prog 56 [(AV.ro 5 (p1.map o39)), (I p2)] (AV.own 3 1 (r.map o3)) := by
 refine gM Try.func56 43 Qv7 fun E hP hn hx => ?_
 unfold Qfz at h
 obtain ⟨l3, hl3, h⟩ := bnS h
 exact (let Z0 := AV.ro 5 (l3.map o39); let Z1 := (I (l3.length : Int)); let Z2 := w64 (p2 + 1); gT hP hn hx [hO 5 Z0, hO 6 Z1, hh 8 (.nil 5 1001 3 1)] [(1001, 1)] [0, 1, 5, 13, 14, 15] [] [AV.ro 5 (((p1.map o39).drop (Int.toNat 0)).take (Qh4 Z2.toNat (Int.toNat 0))) = Z0, (0 : Int) ≤ 0, 0 ≤ Z2, Z2 ≤ (((p1.map o39).length : Nat) : Int), AV.lit (.int .i64 (((l3.map o39).length : Nat) : Int)) = Z1, Qa5 [(1001, 1)] ([].map o3)] ⟨(slM 5 o39 hl3), (sl0 hl3), (sl1 hl3), (sl2 o39 hl3), (Qej o39), (rok (Qa6 t3)), trivial⟩ (Qme hP hn hx p1 p2 l3 FU [] 0 _ h))
noncomputable def Qvg : Code := match Try.f45.body with | some c => c | none => .skip
noncomputable def Qcg (K0 : Bool → Int → Option (List Int)) (p1 : (List Qa0)) (p2 : Int) (r3 : (List Int)) (r5 : Int) (v8 : Int) (v16 : Bool) : Option (List Int) :=
 Option.bind (rd p1 v8) fun x17 =>
 Option.bind (Qee x17) fun r18 =>
 if (r18 == r5) = true then
  K0 false (w64 (v8 + 1))
 else
  K0 v16 (w64 (v8 + 1))
theorem Qg2 {E : Env} (hP : E.P = Try.prog) (hn : E.n = 55) (hx : FX E []) (p1 : (List Qa0)) (p2 : Int) (r3 : (List Int)) (r5 : Int) (v8 : Int) {K0 : Bool → Int → Option (List Int)} (hK0 : ∀ (v7 : Bool) (v8 : Int) (r : (List Int)), K0 v7 v8 = some r → WAt E Qvg (FQ (Qe2 Θ Try.f45.results.toList [] [] (AV.own 3 1 (r.map o3)) E)) [true, true, false, true, true, false, true, false, true, false] ⟨[(0, (AV.ro 5 (p1.map o39))), (1, (I p2)), (5, (AV.sl 1 0 (List.length (r3.map o3)))), (6, (I r5)), (7, (B v7)), (8, (I v8))], [(1, some ⟨3, 1, (r3.map o3)⟩)], [1, JJ]⟩) (v16 : Bool) (r : (List Int)) (h : Qcg K0 p1 p2 r3 r5 v8 v16 = some r) : WAt E Qvg (FQ (Qe2 Θ Try.f45.results.toList [] [] (AV.own 3 1 (r.map o3)) E)) [true, true, false, true, true, false, true, false, true, false, false, true, false, false, true, true] ⟨[(0, (AV.ro 5 (p1.map o39))), (1, (I p2)), (5, (AV.sl 1 0 (List.length (r3.map o3)))), (6, (I r5)), (7, (B v16)), (8, (I v8))], [(1, some ⟨3, 1, (r3.map o3)⟩)], [1, JJ]⟩ := by
 unfold Qcg at h
 obtain ⟨x17, hx17, h⟩ := bnS h
 obtain ⟨r18, hr18, h⟩ := bnS h
 let P1 : List Prop := [(0 : Int) ≤ v8, (p1.map o39)[v8.toNat]? = some (o39 x17), Qaa Try.prog 57 [(AV.agg ((o39 x17)))] (I r18), Qap (I r18) = true]
 have AP1 : Qb5 P1 := ⟨(rd0 hx17), (rdM o39 hx17), (Qgb hr18), rfl, trivial⟩
 rcases itS h with ⟨c19, h⟩ | ⟨c20, h⟩
 ·exact gT hP hn hx [hh 2 (.row (o39 x17)), hh 4 (.callV [[]] (I r18)), hT 7] [(1, 1)] [0, 1, 5, 6, 7, 8] [] (P1 ++ [(r18 == r5) = true, Qa5 [(1, 1)] (r3.map o3)]) (Qav AP1 ⟨c19, (rok (Qa6 t3)), trivial⟩) (hK0 false (w64 (v8 + 1)) _ h)
 ·exact gT hP hn hx [hh 2 (.row (o39 x17)), hh 4 (.callV [[]] (I r18)), hF 7] [(1, 1)] [0, 1, 5, 6, 7, 8] [] (P1 ++ [(r18 == r5) = false, Qa5 [(1, 1)] (r3.map o3)]) (Qav AP1 ⟨c20, (rok (Qa6 t3)), trivial⟩) (hK0 v16 (w64 (v8 + 1)) _ h)
noncomputable def Qb1  (p1 : (List Qa0)) (p2 : Int) (r3 : (List Int)) (r5 : Int) : Nat → Bool → Int → Option (List Int)
 | 0, _, _ => none
 | n + 1, v7, v8 =>
 if (decide (v8 < p2)) = true then
  Option.bind (rd p1 v8) fun x10 =>
  Option.bind (rd p1 p2) fun x11 =>
  if (x10.Thread != x11.Thread) = true then
   Qb1 p1 p2 r3 r5 n v7 (w64 (v8 + 1))
  else
   Option.bind (Qcr x10) fun r14 =>
   if (r14 == r5) = true then
    Qcg (Qb1 p1 p2 r3 r5 n) p1 p2 r3 r5 v8 true
   else
    Qcg (Qb1 p1 p2 r3 r5 n) p1 p2 r3 r5 v8 v7
 else
  if (!v7) = true then
   Option.bind (Qda r3 r5) fun r25 =>
   some r25
  else
   some r3
theorem Qk8 {E : Env} (hP : E.P = Try.prog) (hn : E.n = 55) (hx : FX E []) (p1 : (List Qa0)) (p2 : Int) (r3 : (List Int)) (r5 : Int)  : ∀ (n : Nat) (v7 : Bool) (v8 : Int) (r : (List Int)), Qb1 p1 p2 r3 r5 n v7 v8 = some r → WAt E Qvg (FQ (Qe2 Θ Try.f45.results.toList [] [] (AV.own 3 1 (r.map o3)) E)) [true, true, false, true, true, false, true, false, true, false] ⟨[(0, (AV.ro 5 (p1.map o39))), (1, (I p2)), (5, (AV.sl 1 0 (List.length (r3.map o3)))), (6, (I r5)), (7, (B v7)), (8, (I v8))], [(1, some ⟨3, 1, (r3.map o3)⟩)], [1, JJ]⟩ := by
 intro n
 induction n with
 | zero => intro v7 v8 r h; simp only [Qb1] at h; cases h
 | succ n ih =>
  intro v7 v8 r h
  simp only [Qb1] at h
  let Z1 := decide (v8 < p2); let Z3 := r3.map o3
  rcases itS h with ⟨c9, h⟩ | ⟨c22, h⟩
  ·obtain ⟨x10, hx10, h⟩ := bnS h
   obtain ⟨x11, hx11, h⟩ := bnS h
   let Z0 := o39 x10; let Z2 := x10.Thread != x11.Thread
   let H1 : List Hn := [hT 3, hh 6 (.row Z0), hh 11 (.row (o39 x11))]
   let P2 : List Prop := [Z1 = true, (0 : Int) ≤ v8, (p1.map o39)[v8.toNat]? = some Z0, (0 : Int) ≤ p2, (p1.map o39)[p2.toNat]? = some (o39 x11)]
   have AP2 : Qb5 P2 := ⟨c9, (rd0 hx10), (rdM o39 hx10), (rd0 hx11), (rdM o39 hx11), trivial⟩
   rcases itS h with ⟨c12, h⟩ | ⟨c13, h⟩
   ·exact gT hP hn hx (H1 ++ [hT 15]) [(1, 1)] [0, 1, 5, 6, 7, 8] [] (P2 ++ [Z2 = true, Qa5 [(1, 1)] Z3]) (Qav AP2 ⟨c12, (rok (Qa6 t3)), trivial⟩) (ih v7 (w64 (v8 + 1)) _ h)
   ·obtain ⟨r14, hr14, h⟩ := bnS h
    let P3 : List Prop := P2 ++ [Z2 = false, (0 : Int) ≤ v8, (p1.map o39)[v8.toNat]? = some Z0, Qaa Try.prog 16 [(AV.agg (Z0))] (I r14), Qap (I r14) = true]
    have AP3 : Qb5 P3 := Qav AP2 ⟨c13, (rd0 hx10), (rdM o39 hx10), (Qe9 hr14), rfl, trivial⟩
    rcases itS h with ⟨c15, h⟩ | ⟨c21, h⟩
    ·exact gT hP hn hx (H1 ++ [hF 15, hh 18 (.row Z0), hh 20 (.callV [[]] (I r14)), hT 23]) [(1, 1)] [0, 1, 5, 6, 7, 8] [] (P3 ++ [(r14 == r5) = true, Qa5 [(1, 1)] Z3]) (Qav AP3 ⟨c15, (rok (Qa6 t3)), trivial⟩) (Qg2 hP hn hx p1 p2 r3 r5 v8 ih true _ h)
    ·exact gT hP hn hx (H1 ++ [hF 15, hh 18 (.row Z0), hh 20 (.callV [[]] (I r14)), hF 23]) [(1, 1)] [0, 1, 5, 6, 7, 8] [] (P3 ++ [(r14 == r5) = false, Qa5 [(1, 1)] Z3]) (Qav AP3 ⟨c21, (rok (Qa6 t3)), trivial⟩) (Qg2 hP hn hx p1 p2 r3 r5 v8 ih v7 _ h)
  ·rcases itS h with ⟨c23, h⟩ | ⟨c26, h⟩
   ·obtain ⟨r25, hr25, h⟩ := bnS h
    obtain rfl := sj h
    exact (let Z4 := r25.map o3; let Z5 := AV.own 3 1 Z4; gR hP hn [hF 3, hT 6, hh 9 (.call [Z3] Z5 [1001])] [] .own [Z1 = false, (!v7) = true, Qaa Try.prog 19 [(AV.ro 1 Z3), (I r5)] Z5, Qek Z5 = true, Frz ((Z3.drop 0).take Z3.length) Z3, Qac (Z4.take Z4.length) = true, Z4.take Z4.length = Z4, Qaz Z4 = true] ⟨c22, c23, (Qhd hr25), (by simp +zetaDelta only [Qek, Qdn, Qbd n3, Bool.and_self]), (Qoz t3 z3), (Qgc t3), Qgi, (Qbd n3), trivial⟩)
   ·obtain rfl := sj h
    exact gR hP hn [hF 3, hF 6] [] .own [Z1 = false, (!v7) = false, Qac (Z3.take Z3.length) = true, Z3.take Z3.length = Z3, Qaz Z3 = true] ⟨c22, c26, (Qgc t3), Qgi, (Qbd n3), trivial⟩
noncomputable def Qeo (p1 : (List Qa0)) (p2 : Int) : Option (List Int) :=
 Option.bind (Qfz p1 p2) fun r3 =>
 Option.bind (rd p1 p2) fun x4 =>
 Option.bind (Qcr x4) fun r5 =>
 if (decide (r5 ≥ 0)) = true then
  Qb1 p1 p2 r3 r5 FU false 0
 else
  some r3
theorem Qno {p1 : (List Qa0)} {p2 : Int} {r : (List Int)} (h : Qeo p1 p2 = some r) : Qaa Try.prog 45 [(AV.ro 5 (p1.map o39)), (I p2)] (AV.own 3 1 (r.map o3)) := by
 refine gM Try.func45 55 Qvg fun E hP hn hx => ?_
 unfold Qeo at h
 obtain ⟨r3, hr3, h⟩ := bnS h
 obtain ⟨x4, hx4, h⟩ := bnS h
 obtain ⟨r5, hr5, h⟩ := bnS h
 let Z0 := r3.map o3; let Z1 := AV.own 3 1 Z0
 let H1 : List Hn := [hh 3 (.call [] Z1 [1001]), hh 7 (.row (o39 x4)), hh 9 (.callV [[]] (I r5))]
 let P2 : List Prop := [Qaa Try.prog 56 [(AV.ro 5 (p1.map o39)), (I p2)] Z1, Qek Z1 = true, (0 : Int) ≤ p2, (p1.map o39)[p2.toNat]? = some (o39 x4), Qaa Try.prog 16 [(AV.agg ((o39 x4)))] (I r5), Qap (I r5) = true]
 have AP2 : Qb5 P2 := ⟨(Qrd hr3), (by simp +zetaDelta only [Qek, Qdn, Qbd n3, Bool.and_self]), (rd0 hx4), (rdM o39 hx4), (Qe9 hr5), rfl, trivial⟩
 rcases itS h with ⟨c6, h⟩ | ⟨c27, h⟩
 ·exact gT hP hn hx (H1 ++ [hT 13]) [(1001, 1)] [0, 1, 5, 6, 7, 8] [] (P2 ++ [(decide (r5 ≥ 0)) = true, Qa5 [(1001, 1)] Z0]) (Qav AP2 ⟨c6, (rok (Qa6 t3)), trivial⟩) (Qk8 hP hn hx p1 p2 r3 r5 FU false 0 _ h)
 ·obtain rfl := sj h
  exact gR hP hn (H1 ++ [hF 13]) [] .own (P2 ++ [(decide (r5 ≥ 0)) = false, Qac (Z0.take Z0.length) = true, Z0.take Z0.length = Z0, Qaz Z0 = true]) (Qav AP2 ⟨c27, (Qgc t3), Qgi, (Qbd n3), trivial⟩)
noncomputable def Qus : Code := match Try.f33.body with | some c => c | none => .skip
noncomputable def Qbu (K0 : (List Qaj) → Int → Option (List Qaj)) (p1 : (List Qa0)) (v3 : Int) (r6 : Int) (r9 : (List Int)) : Nat → (List Qaj) → Qa0 → (List Int) → Int → Option (List Qaj)
 | 0, _, _, _, _ => none
 | n + 1, a10, a11, a12, v13 =>
 if (decide (v13 < (r9.length : Int))) = true then
  Option.bind (rd a12 v13) fun x15 =>
  Option.bind (app a10 [(Qaj.mk x15 r6 a11.Thread v3)]) fun l16 =>
  Qbu K0 p1 v3 r6 r9 n l16 a11 a12 (w64 (v13 + 1))
 else
  K0 a10 (w64 (v3 + 1))
theorem Qka {E : Env} (hP : E.P = Try.prog) (hn : E.n = 40) (hx : FX E []) (p1 : (List Qa0)) (v3 : Int) (r6 : Int) (r9 : (List Int)) {K0 : (List Qaj) → Int → Option (List Qaj)} (hK0 : ∀ (a2 : (List Qaj)) (v3 : Int) (r : (List Qaj)), K0 a2 v3 = some r → WAt E Qus (FQ (Qe2 Θ Try.f33.results.toList [] [] (AV.own 57 4 (r.map o57)) E)) [true, true, false, true, false] ⟨[(0, (AV.ro 5 (p1.map o39))), (3, (AV.sl 1 0 (List.length (a2.map o57)))), (9, (AV.ro 5 (p1.map o39))), (10, (I (p1.length : Int))), (11, (I v3))], [(1, some ⟨57, 4, (a2.map o57)⟩)], [1, JJ]⟩) : ∀ (n : Nat) (a10 : (List Qaj)) (a11 : Qa0) (a12 : (List Int)) (v13 : Int) (r : (List Qaj)), Qbu K0 p1 v3 r6 r9 n a10 a11 a12 v13 = some r → WAt E Qus (FQ (Qe2 Θ Try.f33.results.toList [] [] (AV.own 57 4 (r.map o57)) E)) [true, true, false, true, false, false, true, true, false, false, true, true, true, true, false] ⟨[(0, (AV.ro 5 (p1.map o39))), (3, (AV.sl 1 0 (List.length (a10.map o57)))), (4, (I v3)), (5, (AV.ptr 2 0 0)), (6, (I r6)), (9, (AV.ro 5 (p1.map o39))), (10, (I (p1.length : Int))), (11, (I v3)), (22, (AV.sl 3 0 (List.length (a12.map o3)))), (23, (I (r9.length : Int))), (24, (I v13))], [(1, some ⟨57, 4, (a10.map o57)⟩), (2, some ⟨39, 5, [((o39 a11))]⟩), (3, some ⟨3, 1, (a12.map o3)⟩)], [1, 2, 3, JJ]⟩ := by
 intro n
 induction n with
 | zero => intro a10 a11 a12 v13 r h; simp only [Qbu] at h; cases h
 | succ n ih =>
  intro a10 a11 a12 v13 r h
  simp only [Qbu] at h
  let Z1 := (decide (v13 < (r9.length : Int))); let Z2 := a10.map o57
  rcases itS h with ⟨c14, h⟩ | ⟨c17, h⟩
  ·obtain ⟨x15, hx15, h⟩ := bnS h
   obtain ⟨l16, hl16, h⟩ := bnS h
   exact (let Z0 := l16.map o57; let Z3 := [(Qaj.mk x15 r6 a11.Thread v3)].map o57; let Z4 := (Z3.drop 0).take Z3.length; gT hP hn hx [hT 1, hh 3 (.row [(I x15)]), hW 12 1001, hh 13 (.app 1002 Z0)] [(1002, 1), (2, 2), (3, 3)] [0, 3, 4, 5, 6, 9, 10, 11, 22, 23, 24] [] [Z1 = true, (0 : Int) ≤ v13, v13 < (((a12.map o3).length : Nat) : Int), (a12.map o3)[v13.toNat]? = some [(I x15)], Z2.take Z2.length ++ Z4 = Z0, Z4.all (fun r => r.all AV.plain) = true, Z0.length * 32 ≤ 140737488355328, Z0.length ≤ 140737488355328, Qa5 [(1002, 1), (2, 2), (3, 3)] Z0, Qa5 [(1002, 1), (2, 2), (3, 3)] [((o39 a11))], Qa5 [(1002, 1), (2, 2), (3, 3)] (a12.map o3)] ⟨c14, (rd0 hx15), (rdL o3 hx15), (rdM o3 hx15), (Qp6 o57 hl16), (plD pa57), (Quf o57 hl16 (by decide)), (Qux o57 hl16), (rok (Qa6 t57)), (rok rfl), (rok (Qa6 t3)), trivial⟩ (ih l16 a11 a12 (w64 (v13 + 1)) _ h))
  ·exact gT hP hn hx [hF 1] [(1, 1)] [0, 3, 9, 10, 11] [] [Z1 = false, Qa5 [(1, 1)] Z2] ⟨c17, (rok (Qa6 t57)), trivial⟩ (hK0 a10 (w64 (v3 + 1)) _ h)
noncomputable def Qbe  (p1 : (List Qa0)) : Nat → (List Qaj) → Int → Option (List Qaj)
 | 0, _, _ => none
 | n + 1, a2, v3 =>
 if (decide (v3 < (p1.length : Int))) = true then
  Option.bind (rd p1 v3) fun x5 =>
  Option.bind (Qcr x5) fun r6 =>
  if (decide (r6 < 0)) = true then
   Qbe p1 n a2 (w64 (v3 + 1))
  else
   Option.bind (Qeo p1 v3) fun r9 =>
   Qbu (Qbe p1 n) p1 v3 r6 r9 FU a2 x5 r9 0
 else
  some a2
theorem Ql4 {E : Env} (hP : E.P = Try.prog) (hn : E.n = 40) (hx : FX E []) (p1 : (List Qa0))  : ∀ (n : Nat) (a2 : (List Qaj)) (v3 : Int) (r : (List Qaj)), Qbe p1 n a2 v3 = some r → WAt E Qus (FQ (Qe2 Θ Try.f33.results.toList [] [] (AV.own 57 4 (r.map o57)) E)) [true, true, false, true, false] ⟨[(0, (AV.ro 5 (p1.map o39))), (3, (AV.sl 1 0 (List.length (a2.map o57)))), (9, (AV.ro 5 (p1.map o39))), (10, (I (p1.length : Int))), (11, (I v3))], [(1, some ⟨57, 4, (a2.map o57)⟩)], [1, JJ]⟩ := by
 intro n
 induction n with
 | zero => intro a2 v3 r h; simp only [Qbe] at h; cases h
 | succ n ih =>
  intro a2 v3 r h
  simp only [Qbe] at h
  let Z0 := (decide (v3 < (p1.length : Int))); let Z1 := a2.map o57
  rcases itS h with ⟨c4, h⟩ | ⟨c18, h⟩
  ·obtain ⟨x5, hx5, h⟩ := bnS h
   obtain ⟨r6, hr6, h⟩ := bnS h
   let P1 : List Prop := [Z0 = true, (0 : Int) ≤ v3, (p1.map o39)[v3.toNat]? = some (o39 x5), Qaa Try.prog 16 [(AV.agg ((o39 x5)))] (I r6), Qap (I r6) = true]
   have AP1 : Qb5 P1 := ⟨c4, (rd0 hx5), (rdM o39 hx5), (Qe9 hr6), rfl, trivial⟩
   rcases itS h with ⟨c7, h⟩ | ⟨c8, h⟩
   ·exact gT hP hn hx [hT 1, hh 3 (.row (o39 x5)), hW 5 1001, hh 9 (.callV [[]] (I r6)), hT 13] [(1, 1)] [0, 3, 9, 10, 11] [] (P1 ++ [(decide (r6 < 0)) = true, Qa5 [(1, 1)] Z1]) (Qav AP1 ⟨c7, (rok (Qa6 t57)), trivial⟩) (ih a2 (w64 (v3 + 1)) _ h)
   ·obtain ⟨r9, hr9, h⟩ := bnS h
    exact (let Z2 := AV.own 3 1 (r9.map o3); let Z3 := (I (r9.length : Int)); gT hP hn hx [hT 1, hh 3 (.row (o39 x5)), hW 5 1001, hh 9 (.callV [[]] (I r6)), hF 13, hh 16 (.call [] Z2 [1002]), hO 17 Z3] [(1, 1), (1001, 2), (1002, 3)] [0, 3, 4, 5, 6, 9, 10, 11, 22, 23, 24] [] (P1 ++ [(decide (r6 < 0)) = false, Qaa Try.prog 45 [(AV.ro 5 (p1.map o39)), (I v3)] Z2, Qek Z2 = true, AV.lit (.int .i64 (((r9.map o3).length : Nat) : Int)) = Z3, Qa5 [(1, 1), (1001, 2), (1002, 3)] Z1, Qa5 [(1, 1), (1001, 2), (1002, 3)] [((o39 x5))], Qa5 [(1, 1), (1001, 2), (1002, 3)] (r9.map o3)]) (Qav AP1 ⟨c8, (Qno hr9), (by simp +zetaDelta only [Qek, Qdn, Qbd n3, Bool.and_self]), (Qej o3), (rok (Qa6 t57)), (rok rfl), (rok (Qa6 t3)), trivial⟩) (Qka hP hn hx p1 v3 r6 r9 ih FU a2 x5 r9 0 _ h))
  ·obtain rfl := sj h
   exact gR hP hn [hF 1] [] .own [Z0 = false, Qac (Z1.take Z1.length) = true, Z1.take Z1.length = Z1, Qaz Z1 = true] ⟨c18, (Qgc t57), Qgi, (Qbd n57), trivial⟩
noncomputable def Qdw (p1 : (List Qa0)) : Option (List Qaj) :=
 Qbe p1 FU [] 0
theorem Qnx {p1 : (List Qa0)} {r : (List Qaj)} (h : Qdw p1 = some r) : Qaa Try.prog 33 [(AV.ro 5 (p1.map o39))] (AV.own 57 4 (r.map o57)) := by
 refine gM Try.func33 40 Qus fun E hP hn hx => ?_
 unfold Qdw at h
 exact (let Z0 := (I (p1.length : Int)); gT hP hn hx [hO 3 Z0, hh 5 (.nil 3 1001 57 4)] [(1001, 1)] [0, 3, 9, 10, 11] [] [AV.lit (.int .i64 (((p1.map o39).length : Nat) : Int)) = Z0, Qa5 [(1001, 1)] ([].map o57)] ⟨(Qej o39), (rok (Qa6 t57)), trivial⟩ (Ql4 hP hn hx p1 FU [] 0 _ h))
noncomputable def Qq8 : Code := match Try.f14.body with | some c => c | none => .skip
noncomputable def Qc8 (K0 : (List (List Int)) → Int → Option (List (List Int))) (p1 : (List Qa0)) (v3 : Int) (a7 : (List Int)) : Nat → (List (List Int)) → (List Int) → Int → Option (List (List Int))
 | 0, _, _, _ => none
 | n + 1, a16, a17, v18 =>
 if (decide (v18 < (a7.length : Int))) = true then
  Option.bind (rd a17 v18) fun x20 =>
  Option.bind (app a16 [[v3, x20]]) fun l21 =>
  Qc8 K0 p1 v3 a7 n l21 a17 (w64 (v18 + 1))
 else
  K0 a16 (w64 (v3 + 1))
theorem Ql8 {E : Env} (hP : E.P = Try.prog) (hn : E.n = 44) (hx : FX E []) (p1 : (List Qa0)) (v3 : Int) (a7 : (List Int)) {K0 : (List (List Int)) → Int → Option (List (List Int))} (hK0 : ∀ (a2 : (List (List Int))) (v3 : Int) (r : (List (List Int))), K0 a2 v3 = some r → WAt E Qq8 (FQ (Qe2 Θ Try.f14.results.toList [] [] (AV.own 24 1 (r.map o24)) E)) [true, true, false, true, false] ⟨[(0, (AV.ro 5 (p1.map o39))), (3, (AV.sl 1 0 (List.length (a2.map o24)))), (4, (I v3))], [(1, some ⟨24, 1, (a2.map o24)⟩)], [1, JJ]⟩) : ∀ (n : Nat) (a16 : (List (List Int))) (a17 : (List Int)) (v18 : Int) (r : (List (List Int))), Qc8 K0 p1 v3 a7 n a16 a17 v18 = some r → WAt E Qq8 (FQ (Qe2 Θ Try.f14.results.toList [] [] (AV.own 24 1 (r.map o24)) E)) [true, true, false, true, false, false, true, false, false, true, true, true, false] ⟨[(0, (AV.ro 5 (p1.map o39))), (3, (AV.sl 1 0 (List.length (a16.map o24)))), (4, (I v3)), (30, (AV.sl 2 0 (List.length (a17.map o3)))), (31, (I (a7.length : Int))), (32, (I v18))], [(1, some ⟨24, 1, (a16.map o24)⟩), (2, some ⟨3, 1, (a17.map o3)⟩)], [1, 2, JJ]⟩ := by
 intro n
 induction n with
 | zero => intro a16 a17 v18 r h; simp only [Qc8] at h; cases h
 | succ n ih =>
  intro a16 a17 v18 r h
  simp only [Qc8] at h
  let Z0 := a16.map o24; let Z5 := (decide (v18 < (a7.length : Int)))
  rcases itS h with ⟨c19, h⟩ | ⟨c22, h⟩
  ·obtain ⟨x20, hx20, h⟩ := bnS h
   obtain ⟨l21, hl21, h⟩ := bnS h
   exact (let Z1 := [v3, x20].map o3; let Z2 := AV.sl 1001 0 Z1.length; let Z3 := Z0 ++ [[Z2]]; let Z4 := l21.map o24; gT hP hn hx [hT 1, hh 3 (.row [(I x20)]), hW 8 1001, hW 9 1002, hh 10 (.app 1003 Z3), hh 11 (.pack 1003 1001 a16.length 0 [Z2] Z4), hh 14 (.slen 3 Z4.length)] [(1003, 1), (2, 2)] [0, 3, 4, 30, 31, 32] [] [Z5 = true, (0 : Int) ≤ v18, v18 < (((a17.map o3).length : Nat) : Int), (a17.map o3)[v18.toNat]? = some [(I x20)], Z0.take Z0.length ++ [[Z2]] = Z3, [[Z2]].all (fun r => r.all AV.plain) = true, Z3.length * 24 ≤ 140737488355328, Z3.length ≤ 140737488355328, Z3[a16.length]? = some [Z2], [Z2][0]? = some Z2, Qac Z1 = true, Z3.set a16.length ([Z2].set 0 (AV.own 3 1 Z1)) = Z4, Z3.length = Z4.length, Qa5 [(1003, 1), (2, 2)] Z4, Qa5 [(1003, 1), (2, 2)] (a17.map o3)] ⟨c19, (rd0 hx20), (rdL o3 hx20), (rdM o3 hx20), (apT o24), rfl, (apB o24 hl21 (by decide)), (apC o24 hl21), (apG o24), rfl, (Qa6 t3), (apS o24 hl21), (apLn o24 hl21), (rok (Qa6 t24)), (rok (Qa6 t3)), trivial⟩ (ih l21 a17 (w64 (v18 + 1)) _ h))
  ·exact gT hP hn hx [hF 1] [(1, 1)] [0, 3, 4] [] [Z5 = false, Qa5 [(1, 1)] Z0] ⟨c22, (rok (Qa6 t24)), trivial⟩ (hK0 a16 (w64 (v3 + 1)) _ h)
noncomputable def Qbq (K0 : (List (List Int)) → Int → Option (List (List Int))) (p1 : (List Qa0)) (v3 : Int) (r5 : (List Qaj)) : Nat → (List (List Int)) → (List Int) → (List Qaj) → Int → Option (List (List Int))
 | 0, _, _, _, _ => none
 | n + 1, a6, a7, a8, v9 =>
 if (decide (v9 < (r5.length : Int))) = true then
  Option.bind (rd a8 v9) fun x11 =>
  if (x11.Had == v3) = true then
   Option.bind (Qdx a7 x11.Taken) fun r13 =>
   Qbq K0 p1 v3 r5 n a6 r13 a8 (w64 (v9 + 1))
  else
   Qbq K0 p1 v3 r5 n a6 a7 a8 (w64 (v9 + 1))
 else
  Qc8 K0 p1 v3 a7 FU a6 a7 0
theorem Qly {E : Env} (hP : E.P = Try.prog) (hn : E.n = 44) (hx : FX E []) (p1 : (List Qa0)) (v3 : Int) (r5 : (List Qaj)) {K0 : (List (List Int)) → Int → Option (List (List Int))} (hK0 : ∀ (a2 : (List (List Int))) (v3 : Int) (r : (List (List Int))), K0 a2 v3 = some r → WAt E Qq8 (FQ (Qe2 Θ Try.f14.results.toList [] [] (AV.own 24 1 (r.map o24)) E)) [true, true, false, true, false] ⟨[(0, (AV.ro 5 (p1.map o39))), (3, (AV.sl 1 0 (List.length (a2.map o24)))), (4, (I v3))], [(1, some ⟨24, 1, (a2.map o24)⟩)], [1, JJ]⟩) : ∀ (n : Nat) (a6 : (List (List Int))) (a7 : (List Int)) (a8 : (List Qaj)) (v9 : Int) (r : (List (List Int))), Qbq K0 p1 v3 r5 n a6 a7 a8 v9 = some r → WAt E Qq8 (FQ (Qe2 Θ Try.f14.results.toList [] [] (AV.own 24 1 (r.map o24)) E)) [true, true, false, true, false, false, true, false, false, true, false, true, false] ⟨[(0, (AV.ro 5 (p1.map o39))), (3, (AV.sl 1 0 (List.length (a6.map o24)))), (4, (I v3)), (5, (AV.sl 2 0 (List.length (a7.map o3)))), (15, (AV.sl 3 0 (List.length (a8.map o57)))), (16, (I (r5.length : Int))), (17, (I v9))], [(1, some ⟨24, 1, (a6.map o24)⟩), (2, some ⟨3, 1, (a7.map o3)⟩), (3, some ⟨57, 4, (a8.map o57)⟩)], [1, 2, 3, JJ]⟩ := by
 intro n
 induction n with
 | zero => intro a6 a7 a8 v9 r h; simp only [Qbq] at h; cases h
 | succ n ih =>
  intro a6 a7 a8 v9 r h
  simp only [Qbq] at h
  let Z0 := (decide (v9 < (r5.length : Int))); let Z1 := a8.map o57; let Z2 := a7.map o3; let Z7 := (I (a7.length : Int))
  rcases itS h with ⟨c10, h⟩ | ⟨c15, h⟩
  ·obtain ⟨x11, hx11, h⟩ := bnS h
   let P1 : List Prop := [Z0 = true, (0 : Int) ≤ v9, v9 < ((Z1.length : Nat) : Int), Z1[v9.toNat]? = some ((o57 x11))]
   have AP1 : Qb5 P1 := ⟨c10, (rd0 hx11), (rdL o57 hx11), (rdM o57 hx11), trivial⟩
   rcases itS h with ⟨c12, h⟩ | ⟨c14, h⟩
   ·obtain ⟨r13, hr13, h⟩ := bnS h
    exact (let Z3 := r13.map o3; let Z4 := AV.own 3 1 Z3; let Z5 := AV.sl 1002 0 Z3.length; let Z6 := rtf (Qff [] Z4) [1002]; gT hP hn hx [hT 1, hh 3 (.row ((o57 x11))), hW 4 1001, hT 10, hh 14 (.callX [2] [false] [⟨3, 1, Z2⟩] [⟨3, 1, Z2⟩] [] Z4 [1002] Z5 [(1002, ⟨3, 1, Z3⟩)])] [(1, 1), (1002, 2), (3, 3)] [0, 3, 4, 5, 15, 16, 17] [] (P1 ++ [(x11.Had == v3) = true, Qd3 Try.prog 17 [⟨3, 1, Z2⟩] [(AV.sl 0 0 Z2.length), (I x11.Taken)] [false] [⟨3, 1, Z2⟩] Z4, (some (Qao.mk 3 1 Z2) = some (Qao.mk 3 1 Z2)) ∧ True, (Qac Z2 = true ∧ Qaz Z2 = true) ∧ True, (Z2.length = Z2.length) ∧ True, Z6.1 = Z5, Z6.2.1 = [(1002, ⟨3, 1, Z3⟩)], Qa5 [(1, 1), (1002, 2), (3, 3)] (a6.map o24), Qa5 [(1, 1), (1002, 2), (3, 3)] Z3, Qa5 [(1, 1), (1002, 2), (3, 3)] Z1]) (Qav AP1 ⟨c12, (Qg6 hr13), ⟨rfl, trivial⟩, ⟨⟨Qa6 t3, Qbd n3⟩, trivial⟩, ⟨rfl, trivial⟩, rfl, rfl, (rok (Qa6 t24)), (rok (Qa6 t3)), (rok (Qa6 t57)), trivial⟩) (ih a6 r13 a8 (w64 (v9 + 1)) _ h))
   ·exact gT hP hn hx [hT 1, hh 3 (.row ((o57 x11))), hW 4 1001, hF 10] [(1, 1), (2, 2), (3, 3)] [0, 3, 4, 5, 15, 16, 17] [] (P1 ++ [(x11.Had == v3) = false, Qa5 [(1, 1), (2, 2), (3, 3)] (a6.map o24), Qa5 [(1, 1), (2, 2), (3, 3)] Z2, Qa5 [(1, 1), (2, 2), (3, 3)] Z1]) (Qav AP1 ⟨c14, (rok (Qa6 t24)), (rok (Qa6 t3)), (rok (Qa6 t57)), trivial⟩) (ih a6 a7 a8 (w64 (v9 + 1)) _ h)
  ·exact gT hP hn hx [hF 1, hO 3 Z7] [(1, 1), (2, 2)] [0, 3, 4, 30, 31, 32] [] [Z0 = false, AV.lit (.int .i64 ((Z2.length : Nat) : Int)) = Z7, Qa5 [(1, 1), (2, 2)] (a6.map o24), Qa5 [(1, 1), (2, 2)] Z2] ⟨c15, (Qej o3), (rok (Qa6 t24)), (rok (Qa6 t3)), trivial⟩ (Ql8 hP hn hx p1 v3 a7 hK0 FU a6 a7 0 _ h)
noncomputable def Qbn  (p1 : (List Qa0)) : Nat → (List (List Int)) → Int → Option (List (List Int))
 | 0, _, _ => none
 | n + 1, a2, v3 =>
 if (decide (v3 < 100)) = true then
  Option.bind (Qdw p1) fun r5 =>
  Qbq (Qbn p1 n) p1 v3 r5 FU a2 [] r5 0
 else
  some a2
theorem Qla {E : Env} (hP : E.P = Try.prog) (hn : E.n = 44) (hx : FX E []) (p1 : (List Qa0))  : ∀ (n : Nat) (a2 : (List (List Int))) (v3 : Int) (r : (List (List Int))), Qbn p1 n a2 v3 = some r → WAt E Qq8 (FQ (Qe2 Θ Try.f14.results.toList [] [] (AV.own 24 1 (r.map o24)) E)) [true, true, false, true, false] ⟨[(0, (AV.ro 5 (p1.map o39))), (3, (AV.sl 1 0 (List.length (a2.map o24)))), (4, (I v3))], [(1, some ⟨24, 1, (a2.map o24)⟩)], [1, JJ]⟩ := by
 intro n
 induction n with
 | zero => intro a2 v3 r h; simp only [Qbn] at h; cases h
 | succ n ih =>
  intro a2 v3 r h
  simp only [Qbn] at h
  let Z2 := a2.map o24
  rcases itS h with ⟨c4, h⟩ | ⟨c23, h⟩
  ·obtain ⟨r5, hr5, h⟩ := bnS h
   exact (let Z0 := AV.own 57 4 (r5.map o57); let Z1 := (I (r5.length : Int)); gT hP hn hx [hT 2, hh 5 (.call [] Z0 [1001]), hO 6 Z1, hh 8 (.nil 5 1002 3 1)] [(1, 1), (1002, 2), (1001, 3)] [0, 3, 4, 5, 15, 16, 17] [] [(decide (v3 < 100)) = true, Qaa Try.prog 33 [(AV.ro 5 (p1.map o39))] Z0, Qek Z0 = true, AV.lit (.int .i64 (((r5.map o57).length : Nat) : Int)) = Z1, Qa5 [(1, 1), (1002, 2), (1001, 3)] Z2, Qa5 [(1, 1), (1002, 2), (1001, 3)] ([].map o3), Qa5 [(1, 1), (1002, 2), (1001, 3)] (r5.map o57)] ⟨c4, (Qnx hr5), (by simp +zetaDelta only [Qek, Qdn, Qbd n57, Bool.and_self]), (Qej o57), (rok (Qa6 t24)), (rok (Qa6 t3)), (rok (Qa6 t57)), trivial⟩ (Qly hP hn hx p1 v3 r5 ih FU a2 [] r5 0 _ h))
  ·obtain rfl := sj h
   exact gR hP hn [hF 2] [] .own [(decide (v3 < 100)) = false, Qac (Z2.take Z2.length) = true, Z2.take Z2.length = Z2, Qaz Z2 = true] ⟨c23, (Qgc t24), Qgi, (Qbd n24), trivial⟩
noncomputable def Qf0 (p1 : (List Qa0)) : Option (List (List Int)) :=
 Qbn p1 FU [] 0
theorem Qot {p1 : (List Qa0)} {r : (List (List Int))} (h : Qf0 p1 = some r) : Qaa Try.prog 14 [(AV.ro 5 (p1.map o39))] (AV.own 24 1 (r.map o24)) := by
 refine gM Try.func14 44 Qq8 fun E hP hn hx => ?_
 unfold Qf0 at h
 exact gT hP hn hx [hh 3 (.nil 3 1001 24 1)] [(1001, 1)] [0, 3, 4] [] [Qa5 [(1001, 1)] ([].map o24)] ⟨(rok (Qa6 t24)), trivial⟩ (Qla hP hn hx p1 FU [] 0 _ h)
end Go.Proofs.Ytjcaompblpglcaa
