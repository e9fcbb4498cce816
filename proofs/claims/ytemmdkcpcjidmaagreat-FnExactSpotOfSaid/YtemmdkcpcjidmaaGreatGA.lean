/- Functions as plain data, and that the code comes to them; no condition. -/

import Derived.Test.YtemmdkcpcjidmaaGreatGT
import Derived.Test.YtemmdkcpcjidmaaGreatBN
set_option linter.unusedVariables false
set_option maxRecDepth 100000
namespace Go.Proofs.YtemmdkcpcjidmaaGreat
open Go Go.T
noncomputable def Xo5 : Code := match Tryz.f95.body with | some c => c | none => .skip
noncomputable def Qff (p1 : Int) (p2 : Int) (p3 : Int) : Option Bool :=
 if (decide (p2 ≤ p1)) = true then
  some (decide (p1 ≤ p3))
 else
  some false
theorem Qdo {p1 : Int} {p2 : Int} {p3 : Int} {r : Bool} (h : Qff p1 p2 p3 = some r) : Qa4 Tryz.prog 95 [(I p1), (I p2), (I p3)] (B r) := by
 refine gM Tryz.func95 15 Xo5 fun E hP hn hx => ?_
 unfold Qff at h
 let Z0 := B (decide (p2 ≤ p1)); let Z1 := B (decide (p1 ≤ p3)); let Z2 := B false
 rcases itS h with ⟨c4, h⟩ | ⟨c5, h⟩
 ·obtain rfl := sj h
  exact gR hP hn [hO 4 (B true)] [] .raw [Z0 = (B true), Z1 = Z1, Qa3 Z1 = true] ⟨(Qax c4), rfl, rfl, trivial⟩
 ·obtain rfl := sj h
  exact gR hP hn [hO 4 Z2] [] .raw [Z0 = Z2, Z2 = Z2, Qa3 Z2 = true] ⟨(Qax c5), rfl, rfl, trivial⟩
noncomputable def Xdb : Code := match Tryz.f225.body with | some c => c | none => .skip
noncomputable def Qbj  (p1 : GOp) (v3 : Bool) : Option Int :=
 if v3 = true then
  some 1
 else
  if (p1.Code == 16) = true then
   some 2
  else
   some 0
theorem Qc2 {E : Env} (hP : E.pk = pk0 Tryz.prog) (hn : E.n = 16) (hx : FX E []) (p1 : GOp)  (v3 : Bool) (r : Int) (h : Qbj p1 v3 = some r) : WAt E Xdb (FQ (Qes Θ Tryz.f225.results.toList [] [] (I r) E)) [true, false, true, false, true] ⟨[(4, (I p1.Code)), (5, (B v3))], [], [JJ]⟩ := by
 unfold Qbj at h
 rcases itS h with ⟨c4, h⟩ | ⟨c5, h⟩
 ·obtain rfl := sj h
  exact gR hP hn [hT 0] [] .raw [v3 = true, (I 1) = (I 1), Qa3 (I 1) = true] ⟨c4, rfl, rfl, trivial⟩
 ·rcases itS h with ⟨c6, h⟩ | ⟨c7, h⟩
  ·obtain rfl := sj h
   exact gR hP hn [hF 0, hT 3] [] .raw [v3 = false, (p1.Code == 16) = true, (I 2) = (I 2), Qa3 (I 2) = true] ⟨c5, c6, rfl, rfl, trivial⟩
  ·obtain rfl := sj h
   exact gR hP hn [hF 0, hF 3] [] .raw [v3 = false, (p1.Code == 16) = false, (I 0) = (I 0), Qa3 (I 0) = true] ⟨c5, c7, rfl, rfl, trivial⟩
noncomputable def Qhj (p1 : GOp) : Option Int :=
 if (p1.Code == 2) = true then
  Qbj p1 (p1.Code == 2)
 else
  if (p1.Code == 3) = true then
   Qbj p1 (p1.Code == 3)
  else
   if (p1.Code == 10) = true then
    Qbj p1 (p1.Code == 10)
   else
    if (p1.Code == 11) = true then
     Qbj p1 (p1.Code == 11)
    else
     if (p1.Code == 12) = true then
      Qbj p1 (p1.Code == 12)
     else
      if (p1.Code == 13) = true then
       Qbj p1 (p1.Code == 13)
      else
       if (p1.Code == 14) = true then
        Qbj p1 (p1.Code == 14)
       else
        Qbj p1 (p1.Code == 17)
theorem Qu1 {p1 : GOp} {r : Int} (h : Qhj p1 = some r) : Qa4 Tryz.prog 225 [(AV.agg ((Qbi p1)))] (I r) := by
 refine gM Tryz.func225 16 Xdb fun E hP hn hx => ?_
 unfold Qhj at h
 let Z0 := p1.Code == 2; let Z1 := p1.Code == 3; let Z2 := p1.Code == 10; let Z3 := p1.Code == 11; let Z4 := p1.Code == 12; let Z5 := p1.Code == 13; let Z6 := p1.Code == 14
 let H1 : List Hn := [hW 0 1001]
 rcases itS h with ⟨c2, h⟩ | ⟨c8, h⟩
 ·exact gT hP hn hx (H1 ++ [hT 6]) [] [4, 5] [] [Z0 = true] ⟨c2, trivial⟩ (Qc2 hP hn hx p1 Z0 _ h)
 ·let P2 : List Prop := [Z0 = false]
  have AP2 : Qan P2 := ⟨c8, trivial⟩
  rcases itS h with ⟨c9, h⟩ | ⟨c10, h⟩
  ·exact gT hP hn hx (H1 ++ [hF 6, hT 9]) [] [4, 5] [] (P2 ++ [Z1 = true]) (Qa6 AP2 ⟨c9, trivial⟩) (Qc2 hP hn hx p1 Z1 _ h)
  ·let P3 : List Prop := P2 ++ [Z1 = false]
   have AP3 : Qan P3 := Qa6 AP2 ⟨c10, trivial⟩
   rcases itS h with ⟨c11, h⟩ | ⟨c12, h⟩
   ·exact gT hP hn hx (H1 ++ [hF 6, hF 9, hT 12]) [] [4, 5] [] (P3 ++ [Z2 = true]) (Qa6 AP3 ⟨c11, trivial⟩) (Qc2 hP hn hx p1 Z2 _ h)
   ·let P4 : List Prop := P3 ++ [Z2 = false]
    have AP4 : Qan P4 := Qa6 AP3 ⟨c12, trivial⟩
    rcases itS h with ⟨c13, h⟩ | ⟨c14, h⟩
    ·exact gT hP hn hx (H1 ++ [hF 6, hF 9, hF 12, hT 15]) [] [4, 5] [] (P4 ++ [Z3 = true]) (Qa6 AP4 ⟨c13, trivial⟩) (Qc2 hP hn hx p1 Z3 _ h)
    ·rcases itS h with ⟨c15, h⟩ | ⟨c16, h⟩
     ·exact gT hP hn hx (H1 ++ [hF 6, hF 9, hF 12, hF 15, hT 18]) [] [4, 5] [] (P4 ++ [Z3 = false, Z4 = true]) (Qa6 AP4 ⟨c14, c15, trivial⟩) (Qc2 hP hn hx p1 Z4 _ h)
     ·let P5 : List Prop := P4 ++ [Z3 = false, Z4 = false]
      have AP5 : Qan P5 := Qa6 AP4 ⟨c14, c16, trivial⟩
      rcases itS h with ⟨c17, h⟩ | ⟨c18, h⟩
      ·exact gT hP hn hx (H1 ++ [hF 6, hF 9, hF 12, hF 15, hF 18, hT 21]) [] [4, 5] [] (P5 ++ [Z5 = true]) (Qa6 AP5 ⟨c17, trivial⟩) (Qc2 hP hn hx p1 Z5 _ h)
      ·rcases itS h with ⟨c19, h⟩ | ⟨c20, h⟩
       ·exact gT hP hn hx (H1 ++ [hF 6, hF 9, hF 12, hF 15, hF 18, hF 21, hT 24]) [] [4, 5] [] (P5 ++ [Z5 = false, Z6 = true]) (Qa6 AP5 ⟨c18, c19, trivial⟩) (Qc2 hP hn hx p1 Z6 _ h)
       ·exact gT hP hn hx (H1 ++ [hF 6, hF 9, hF 12, hF 15, hF 18, hF 21, hF 24]) [] [4, 5] [] (P5 ++ [Z5 = false, Z6 = false]) (Qa6 AP5 ⟨c18, c20, trivial⟩) (Qc2 hP hn hx p1 (p1.Code == 17) _ h)
section
open Go.RowKit
theorem Xh0 (m : Nat) (w : World) : (callFunc 181 #[.float .f64 m]).run Tryz.prog w = .ok (.value (.int .u64 (m : Int))) w := by
 rw [run_callFunc_extern Tryz.func181 (by kernel_rfl) (by kernel_rfl) (by kernel_rfl) (e := Extern.MathFloatBits.float64bits) (by kernel_rfl)]; rfl
theorem Xc4 (m n : Nat) (w : World) : Calls Tryz.prog 112 #[.float .f64 m, .float .f64 n] w fun e w' => e = .returned (.bool (Qiu m n)) ∧ w' = w := by
  have hB := Xh0
  have hi : ((m : Int) == (n : Int)) = (m == n) := by rw [Bool.eq_iff_iff, beq_iff_eq, beq_iff_eq]; exact ⟨fun h => by omega, fun h => by omega⟩
  have hs : Qiu m n = ((Qkf m && Qkf n) || m == n) := rfl
  rw [hs]
  go_enter Tryz.func112, Tryz.ntmps112
  go_wp2
  all_goals first
    | (rename_i K ha
       rw [hB, Oper.upon_value]
       refine ha _ _ ?_
       clear ha
       go_wp2
       rename_i K2 ha2
       rw [hB, Oper.upon_value]
       refine ha2 _ _ ?_
       clear ha2
       go_wp2)
    | skip
  all_goals
    have c1 := Xd8 m
    have c2 := Xd8 n
    have d1 : FloatKind.f64.format.order m m = some .eq ↔ Qkf m = false := by rw [← c1]; simp
    have d2 : FloatKind.f64.format.order n n = some .eq ↔ Qkf n = false := by rw [← c2]; simp
    go_ret
    cases h1 : Qkf m <;> cases h2 : Qkf n <;> simp_all
end
noncomputable def Qcy (p1 : Nat) (p2 : Nat) : Option Bool :=
 some (Qiu p1 p2)
theorem Qfo {p1 : Nat} {p2 : Nat} {r : Bool} (h : Qcy p1 p2 = some r) : Qa4 Tryz.prog 112 [(FK p1), (FK p2)] (B r) := by
 cases h
 exact Xcb (Go.Proofs.enters_of Tryz.func112 rfl rfl) Xc4
noncomputable def Xjq : Code := match Tryz.f201.body with | some c => c | none => .skip
noncomputable def Qko (p1 : GOp) : Option Bool :=
 Option.bind (Qhj p1) fun r2 =>
 Option.bind (Qff p1.Code 1 17) fun r3 =>
 if r3 = true then
  if (decide (r2 > 0)) = true then
   if (decide (r2 > 1)) = true then
    if (p1.Code == 1) = true then
     some true
    else
     Option.bind (Qcy p1.V 0) fun r9 =>
     some r9
   else
    if (p1.B == 0) = true then
     if (p1.Code == 1) = true then
      some true
     else
      Option.bind (Qcy p1.V 0) fun r14 =>
      some r14
    else
     some false
  else
   if (p1.A == 0) = true then
    if (decide (r2 > 1)) = true then
     if (p1.Code == 1) = true then
      some true
     else
      Option.bind (Qcy p1.V 0) fun r21 =>
      some r21
    else
     if (p1.B == 0) = true then
      if (p1.Code == 1) = true then
       some true
      else
       Option.bind (Qcy p1.V 0) fun r33 =>
       some r33
     else
      some false
   else
    some false
 else
  some false
theorem Qv2 {p1 : GOp} {r : Bool} (h : Qko p1 = some r) : Qa4 Tryz.prog 201 [(AV.agg ((Qbi p1)))] (B r) := by
 refine gM Tryz.func201 37 Xjq fun E hP hn hx => ?_
 unfold Qko at h
 obtain ⟨r2, hr2, h⟩ := bnS h
 obtain ⟨r3, hr3, h⟩ := bnS h
 let Z0 := B true; let Z1 := B (decide (r2 > 0)); let Z2 := B (decide (r2 > 1)); let Z3 := B (p1.Code == 1); let Z4 := B false; let Z5 := B (p1.B == 0)
 let H1 : List Hn := [hW 0 1001, hh 3 (.callV [[]] (I r2)), hh 7 (.callV [] (B r3))]
 let P2 : List Prop := [Qa4 Tryz.prog 225 [(AV.agg ((Qbi p1)))] (I r2), Qa3 (I r2) = true, Qa4 Tryz.prog 95 [(I p1.Code), (I 1), (I 17)] (B r3), Qa3 (B r3) = true]
 have AP2 : Qan P2 := ⟨(Qu1 hr2), rfl, (Qdo hr3), rfl, trivial⟩
 rcases itS h with ⟨c4, h⟩ | ⟨c36, h⟩
 ·let H3 : List Hn := H1 ++ [hO 8 Z0]
  let P4 : List Prop := P2 ++ [(B r3) = Z0]
  have AP4 : Qan P4 := Qa6 AP2 ⟨(Qax c4), trivial⟩
  rcases itS h with ⟨c5, h⟩ | ⟨c16, h⟩
  ·let P5 : List Prop := P4 ++ [Z1 = Z0]
   have AP5 : Qan P5 := Qa6 AP4 ⟨(Qax c5), trivial⟩
   rcases itS h with ⟨c6, h⟩ | ⟨c10, h⟩
   ·rcases itS h with ⟨c7, h⟩ | ⟨c8, h⟩
    ·obtain rfl := sj h
     exact gR hP hn (H3 ++ [hO 11 Z0, hO 20 Z0, hO 30 Z0]) [] .raw (P5 ++ [Z2 = Z0, Z3 = Z0, Z0 = Z0, Qa3 Z0 = true]) (Qa6 AP5 ⟨(Qax c6), (Qax c7), rfl, rfl, trivial⟩)
    ·obtain ⟨r9, hr9, h⟩ := bnS h
     obtain rfl := sj h
     exact gR hP hn (H3 ++ [hO 11 Z0, hO 20 Z0, hO 30 Z4, hh 33 (.callV [] (B r9))]) [] .raw (P5 ++ [Z2 = Z0, Z3 = Z4, Qa4 Tryz.prog 112 [(FK p1.V), (FK 0)] (B r9), Qa3 (B r9) = true, (B r9) = (B r9), Qa3 (B r9) = true]) (Qa6 AP5 ⟨(Qax c6), (Qax c8), (Qfo hr9), rfl, rfl, rfl, trivial⟩)
   ·rcases itS h with ⟨c11, h⟩ | ⟨c15, h⟩
    ·rcases itS h with ⟨c12, h⟩ | ⟨c13, h⟩
     ·obtain rfl := sj h
      exact gR hP hn (H3 ++ [hO 11 Z0, hO 20 Z4, hO 26 Z0, hO 30 Z0]) [] .raw (P5 ++ [Z2 = Z4, Z5 = Z0, Z3 = Z0, Z0 = Z0, Qa3 Z0 = true]) (Qa6 AP5 ⟨(Qax c10), (Qax c11), (Qax c12), rfl, rfl, trivial⟩)
     ·obtain ⟨r14, hr14, h⟩ := bnS h
      obtain rfl := sj h
      exact gR hP hn (H3 ++ [hO 11 Z0, hO 20 Z4, hO 26 Z0, hO 30 Z4, hh 33 (.callV [] (B r14))]) [] .raw (P5 ++ [Z2 = Z4, Z5 = Z0, Z3 = Z4, Qa4 Tryz.prog 112 [(FK p1.V), (FK 0)] (B r14), Qa3 (B r14) = true, (B r14) = (B r14), Qa3 (B r14) = true]) (Qa6 AP5 ⟨(Qax c10), (Qax c11), (Qax c13), (Qfo hr14), rfl, rfl, rfl, trivial⟩)
    ·obtain rfl := sj h
     exact gR hP hn (H3 ++ [hO 11 Z0, hO 20 Z4, hO 26 Z4]) [] .raw (P5 ++ [Z2 = Z4, Z5 = Z4, Z4 = Z4, Qa3 Z4 = true]) (Qa6 AP5 ⟨(Qax c10), (Qax c15), rfl, rfl, trivial⟩)
  ·let H6 : List Hn := H3 ++ [hO 11 Z4]
   let P7 : List Prop := P4 ++ [Z1 = Z4]
   have AP7 : Qan P7 := Qa6 AP4 ⟨(Qax c16), trivial⟩
   rcases itS h with ⟨c17, h⟩ | ⟨c35, h⟩
   ·let P8 : List Prop := P7 ++ [(B (p1.A == 0)) = Z0]
    have AP8 : Qan P8 := Qa6 AP7 ⟨(Qax c17), trivial⟩
    rcases itS h with ⟨c18, h⟩ | ⟨c22, h⟩
    ·rcases itS h with ⟨c19, h⟩ | ⟨c20, h⟩
     ·obtain rfl := sj h
      exact gR hP hn (H6 ++ [hO 17 Z0, hO 20 Z0, hO 30 Z0]) [] .raw (P8 ++ [Z2 = Z0, Z3 = Z0, Z0 = Z0, Qa3 Z0 = true]) (Qa6 AP8 ⟨(Qax c18), (Qax c19), rfl, rfl, trivial⟩)
     ·obtain ⟨r21, hr21, h⟩ := bnS h
      obtain rfl := sj h
      exact gR hP hn (H6 ++ [hO 17 Z0, hO 20 Z0, hO 30 Z4, hh 33 (.callV [] (B r21))]) [] .raw (P8 ++ [Z2 = Z0, Z3 = Z4, Qa4 Tryz.prog 112 [(FK p1.V), (FK 0)] (B r21), Qa3 (B r21) = true, (B r21) = (B r21), Qa3 (B r21) = true]) (Qa6 AP8 ⟨(Qax c18), (Qax c20), (Qfo hr21), rfl, rfl, rfl, trivial⟩)
    ·rcases itS h with ⟨c23, h⟩ | ⟨c34, h⟩
     ·rcases itS h with ⟨c24, h⟩ | ⟨c25, h⟩
      ·obtain rfl := sj h
       exact gR hP hn (H6 ++ [hO 17 Z0, hO 20 Z4, hO 26 Z0, hO 30 Z0]) [] .raw (P8 ++ [Z2 = Z4, Z5 = Z0, Z3 = Z0, Z0 = Z0, Qa3 Z0 = true]) (Qa6 AP8 ⟨(Qax c22), (Qax c23), (Qax c24), rfl, rfl, trivial⟩)
      ·obtain ⟨r33, hr33, h⟩ := bnS h
       obtain rfl := sj h
       exact gR hP hn (H6 ++ [hO 17 Z0, hO 20 Z4, hO 26 Z0, hO 30 Z4, hh 33 (.callV [] (B r33))]) [] .raw (P8 ++ [Z2 = Z4, Z5 = Z0, Z3 = Z4, Qa4 Tryz.prog 112 [(FK p1.V), (FK 0)] (B r33), Qa3 (B r33) = true, (B r33) = (B r33), Qa3 (B r33) = true]) (Qa6 AP8 ⟨(Qax c22), (Qax c23), (Qax c25), (Qfo hr33), rfl, rfl, rfl, trivial⟩)
     ·obtain rfl := sj h
      exact gR hP hn (H6 ++ [hO 17 Z0, hO 20 Z4, hO 26 Z4]) [] .raw (P8 ++ [Z2 = Z4, Z5 = Z4, Z4 = Z4, Qa3 Z4 = true]) (Qa6 AP8 ⟨(Qax c22), (Qax c34), rfl, rfl, trivial⟩)
   ·obtain rfl := sj h
    exact gR hP hn (H6 ++ [hO 17 Z4]) [] .raw (P7 ++ [(B (p1.A == 0)) = Z4, Z4 = Z4, Qa3 Z4 = true]) (Qa6 AP7 ⟨(Qax c35), rfl, rfl, trivial⟩)
 ·obtain rfl := sj h
  exact gR hP hn (H1 ++ [hO 8 Z4]) [] .raw (P2 ++ [(B r3) = Z4, Z4 = Z4, Qa3 Z4 = true]) (Qa6 AP2 ⟨(Qax c36), rfl, rfl, trivial⟩)
noncomputable def Qxg : Code := match Tryz.f150.body with | some c => c | none => .skip
noncomputable def Qdp  (p1 : Qag) (p2 : GOp) (v18 : Bool) : Option Bool :=
 if v18 = true then
  Option.bind (Qff p2.A 0 (w64 (p1.Locks - 1))) fun r20 =>
  some r20
 else
  if (p2.Code == 14) = true then
   Option.bind (Qff p2.A 0 (w64 ((p1.Routines.length : Int) - 1))) fun r33 =>
   some r33
  else
   if (p2.Code == 16) = true then
    Option.bind (Qff p2.A 0 (w64 (p1.Conds - 1))) fun r36 =>
    if r36 = true then
     Option.bind (Qff p2.B 0 (w64 (p1.Locks - 1))) fun r40 =>
     some r40
    else
     some false
   else
    if (p2.Code == 17) = true then
     Option.bind (Qff p2.A 0 (w64 (p1.Conds - 1))) fun r47 =>
     some r47
    else
     some true
theorem Qiv {E : Env} (hP : E.pk = pk0 Tryz.prog) (hn : E.n = 70) (hx : FX E []) (p1 : Qag) (p2 : GOp)  (v18 : Bool) (r : Bool) (h : Qdp p1 p2 v18 = some r) : WAt E Qxg (FQ (Qes Θ Tryz.f150.results.toList [] [] (B r) E)) [true, true, false, true, false, true, true, true, true, true] ⟨[(3, (AV.ptr 1 0 0)), (4, (AV.ptr 2 0 0)), (11, (I p2.Code)), (28, (B v18))], [(1, some ⟨39, 4, [((r39 p1))]⟩), (2, some ⟨156, 4, [((Qbi p2))]⟩)], [1, 2, JJ]⟩ := by
 unfold Qdp at h
 let Z0 := I (w64 (p1.Locks - 1)); let Z1 := (p1.Routines.length : Int); let Z2 := p2.Code == 16; let Z3 := [(I p2.A), (I 0), (I (w64 (p1.Conds - 1)))]; let Z4 := B false
 rcases itS h with ⟨c19, h⟩ | ⟨c21, h⟩
 ·obtain ⟨r20, hr20, h⟩ := bnS h
  obtain rfl := sj h
  exact gR hP hn [hT 0, hh 6 (.callV [] (B r20))] [] .raw [v18 = true, Qa4 Tryz.prog 95 [(I p2.A), (I 0), Z0] (B r20), Qa3 (B r20) = true, (B r20) = (B r20), Qa3 (B r20) = true] ⟨c19, (Qdo hr20), rfl, rfl, rfl, trivial⟩
 ·rcases itS h with ⟨c22, h⟩ | ⟨c34, h⟩
  ·obtain ⟨r33, hr33, h⟩ := bnS h
   obtain rfl := sj h
   exact gR hP hn [hF 0, hT 3, hO 8 (I Z1), hh 10 (.callV [] (B r33))] [] .raw [v18 = false, (p2.Code == 14) = true, AV.lit (.int .i64 (((p1.Routines.map Qh7).length : Nat) : Int)) = (I Z1), Qa4 Tryz.prog 95 [(I p2.A), (I 0), (I (w64 (Z1 - 1)))] (B r33), Qa3 (B r33) = true, (B r33) = (B r33), Qa3 (B r33) = true] ⟨c21, c22, (Qbw Qh7), (Qdo hr33), rfl, rfl, rfl, trivial⟩
  ·let P1 : List Prop := [v18 = false, (p2.Code == 14) = false]
   have AP1 : Qan P1 := ⟨c21, c34, trivial⟩
   rcases itS h with ⟨c35, h⟩ | ⟨c42, h⟩
   ·obtain ⟨r36, hr36, h⟩ := bnS h
    let P2 : List Prop := P1 ++ [Z2 = true, Qa4 Tryz.prog 95 Z3 (B r36), Qa3 (B r36) = true]
    have AP2 : Qan P2 := Qa6 AP1 ⟨c35, (Qdo hr36), rfl, trivial⟩
    rcases itS h with ⟨c37, h⟩ | ⟨c41, h⟩
    ·obtain ⟨r40, hr40, h⟩ := bnS h
     obtain rfl := sj h
     exact gR hP hn [hF 0, hF 3, hT 6, hh 12 (.callV [] (B r36)), hO 13 (B true), hh 19 (.callV [] (B r40))] [] .raw (P2 ++ [(B r36) = (B true), Qa4 Tryz.prog 95 [(I p2.B), (I 0), Z0] (B r40), Qa3 (B r40) = true, (B r40) = (B r40), Qa3 (B r40) = true]) (Qa6 AP2 ⟨(Qax c37), (Qdo hr40), rfl, rfl, rfl, trivial⟩)
    ·obtain rfl := sj h
     exact gR hP hn [hF 0, hF 3, hT 6, hh 12 (.callV [] (B r36)), hO 13 Z4] [] .raw (P2 ++ [(B r36) = Z4, Z4 = Z4, Qa3 Z4 = true]) (Qa6 AP2 ⟨(Qax c41), rfl, rfl, trivial⟩)
   ·rcases itS h with ⟨c43, h⟩ | ⟨c48, h⟩
    ·obtain ⟨r47, hr47, h⟩ := bnS h
     obtain rfl := sj h
     exact gR hP hn [hF 0, hF 3, hF 6, hT 9, hh 15 (.callV [] (B r47))] [] .raw (P1 ++ [Z2 = false, (p2.Code == 17) = true, Qa4 Tryz.prog 95 Z3 (B r47), Qa3 (B r47) = true, (B r47) = (B r47), Qa3 (B r47) = true]) (Qa6 AP1 ⟨c42, c43, (Qdo hr47), rfl, rfl, rfl, trivial⟩)
    ·obtain rfl := sj h
     exact gR hP hn [hF 0, hF 3, hF 6, hF 9] [] .raw (P1 ++ [Z2 = false, (p2.Code == 17) = false, (B true) = (B true), Qa3 (B true) = true]) (Qa6 AP1 ⟨c42, c48, rfl, rfl, trivial⟩)
noncomputable def Qdq  (p1 : Qag) (p2 : GOp) (p3 : Int) (v13 : Bool) : Option Bool :=
 if v13 = true then
  Option.bind (Qff p2.A 0 p3) fun r15 =>
  some r15
 else
  if (p2.Code == 12) = true then
   Qdp p1 p2 (p2.Code == 12)
  else
   Qdp p1 p2 (p2.Code == 13)
theorem Qig {E : Env} (hP : E.pk = pk0 Tryz.prog) (hn : E.n = 70) (hx : FX E []) (p1 : Qag) (p2 : GOp) (p3 : Int)  (v13 : Bool) (r : Bool) (h : Qdq p1 p2 p3 v13 = some r) : WAt E Qxg (FQ (Qes Θ Tryz.f150.results.toList [] [] (B r) E)) [true, true, false, true, false, true, true, true] ⟨[(2, (I p3)), (3, (AV.ptr 1 0 0)), (4, (AV.ptr 2 0 0)), (11, (I p2.Code)), (21, (B v13))], [(1, some ⟨39, 4, [((r39 p1))]⟩), (2, some ⟨156, 4, [((Qbi p2))]⟩)], [1, 2, JJ]⟩ := by
 unfold Qdq at h
 let Z0 := p2.Code == 12
 rcases itS h with ⟨c14, h⟩ | ⟨c16, h⟩
 ·obtain ⟨r15, hr15, h⟩ := bnS h
  obtain rfl := sj h
  exact gR hP hn [hT 0, hh 4 (.callV [] (B r15))] [] .raw [v13 = true, Qa4 Tryz.prog 95 [(I p2.A), (I 0), (I p3)] (B r15), Qa3 (B r15) = true, (B r15) = (B r15), Qa3 (B r15) = true] ⟨c14, (Qdo hr15), rfl, rfl, rfl, trivial⟩
 ·rcases itS h with ⟨c17, h⟩ | ⟨c49, h⟩
  ·exact gT hP hn hx [hF 0, hT 3] [(1, 1), (2, 2)] [3, 4, 11, 28] [] [v13 = false, Z0 = true, Qac [(1, 1), (2, 2)] [((r39 p1))], Qac [(1, 1), (2, 2)] [((Qbi p2))]] ⟨c16, c17, (rok (Qb2 t39 p1)), (rok rfl), trivial⟩ (Qiv hP hn hx p1 p2 Z0 _ h)
  ·exact gT hP hn hx [hF 0, hF 3] [(1, 1), (2, 2)] [3, 4, 11, 28] [] [v13 = false, Z0 = false, Qac [(1, 1), (2, 2)] [((r39 p1))], Qac [(1, 1), (2, 2)] [((Qbi p2))]] ⟨c16, c49, (rok (Qb2 t39 p1)), (rok rfl), trivial⟩ (Qiv hP hn hx p1 p2 (p2.Code == 13) _ h)
noncomputable def Qdn  (p1 : Qag) (p2 : GOp) (p3 : Int) (v8 : Bool) : Option Bool :=
 if v8 = true then
  Option.bind (Qff p2.A 0 (w64 (p1.Cells - 1))) fun r10 =>
  some r10
 else
  if (p2.Code == 10) = true then
   Qdq p1 p2 p3 (p2.Code == 10)
  else
   Qdq p1 p2 p3 (p2.Code == 11)
theorem Qik {E : Env} (hP : E.pk = pk0 Tryz.prog) (hn : E.n = 70) (hx : FX E []) (p1 : Qag) (p2 : GOp) (p3 : Int)  (v8 : Bool) (r : Bool) (h : Qdn p1 p2 p3 v8 = some r) : WAt E Qxg (FQ (Qes Θ Tryz.f150.results.toList [] [] (B r) E)) [true, true, false, true, false, true] ⟨[(2, (I p3)), (3, (AV.ptr 1 0 0)), (4, (AV.ptr 2 0 0)), (11, (I p2.Code)), (12, (B v8))], [(1, some ⟨39, 4, [((r39 p1))]⟩), (2, some ⟨156, 4, [((Qbi p2))]⟩)], [1, 2, JJ]⟩ := by
 unfold Qdn at h
 let Z0 := p2.Code == 10
 rcases itS h with ⟨c9, h⟩ | ⟨c11, h⟩
 ·obtain ⟨r10, hr10, h⟩ := bnS h
  obtain rfl := sj h
  exact gR hP hn [hT 0, hh 6 (.callV [] (B r10))] [] .raw [v8 = true, Qa4 Tryz.prog 95 [(I p2.A), (I 0), (I (w64 (p1.Cells - 1)))] (B r10), Qa3 (B r10) = true, (B r10) = (B r10), Qa3 (B r10) = true] ⟨c9, (Qdo hr10), rfl, rfl, rfl, trivial⟩
 ·rcases itS h with ⟨c12, h⟩ | ⟨c50, h⟩
  ·exact gT hP hn hx [hF 0, hT 3] [(1, 1), (2, 2)] [2, 3, 4, 11, 21] [] [v8 = false, Z0 = true, Qac [(1, 1), (2, 2)] [((r39 p1))], Qac [(1, 1), (2, 2)] [((Qbi p2))]] ⟨c11, c12, (rok (Qb2 t39 p1)), (rok rfl), trivial⟩ (Qig hP hn hx p1 p2 p3 Z0 _ h)
  ·exact gT hP hn hx [hF 0, hF 3] [(1, 1), (2, 2)] [2, 3, 4, 11, 21] [] [v8 = false, Z0 = false, Qac [(1, 1), (2, 2)] [((r39 p1))], Qac [(1, 1), (2, 2)] [((Qbi p2))]] ⟨c11, c50, (rok (Qb2 t39 p1)), (rok rfl), trivial⟩ (Qig hP hn hx p1 p2 p3 (p2.Code == 11) _ h)
noncomputable def Qfj (p1 : Qag) (p2 : GOp) (p3 : Int) : Option Bool :=
 Option.bind (Qko p2) fun r4 =>
 if (!r4) = true then
  some false
 else
  if (p2.Code == 2) = true then
   Qdn p1 p2 p3 (p2.Code == 2)
  else
   Qdn p1 p2 p3 (p2.Code == 3)
theorem Qpy {p1 : Qag} {p2 : GOp} {p3 : Int} {r : Bool} (h : Qfj p1 p2 p3 = some r) : Qa4 Tryz.prog 150 [(AV.agg ((r39 p1))), (AV.agg ((Qbi p2))), (I p3)] (B r) := by
 refine gM Tryz.func150 70 Qxg fun E hP hn hx => ?_
 unfold Qfj at h
 obtain ⟨r4, hr4, h⟩ := bnS h
 let Z0 := p2.Code == 2
 let H1 : List Hn := [hW 0 1001, hW 1 1002, hh 4 (.callV [[]] (B r4))]
 let P2 : List Prop := [Qa4 Tryz.prog 201 [(AV.agg ((Qbi p2)))] (B r4), Qa3 (B r4) = true]
 have AP2 : Qan P2 := ⟨(Qv2 hr4), rfl, trivial⟩
 rcases itS h with ⟨c5, h⟩ | ⟨c6, h⟩
 ·obtain rfl := sj h
  exact gR hP hn (H1 ++ [hT 6]) [] .raw (P2 ++ [(!r4) = true, (B false) = (B false), Qa3 (B false) = true]) (Qa6 AP2 ⟨c5, rfl, rfl, trivial⟩)
 ·rcases itS h with ⟨c7, h⟩ | ⟨c51, h⟩
  ·exact gT hP hn hx (H1 ++ [hF 6, hT 11]) [(1001, 1), (1002, 2)] [2, 3, 4, 11, 12] [] (P2 ++ [(!r4) = false, Z0 = true, Qac [(1001, 1), (1002, 2)] [((r39 p1))], Qac [(1001, 1), (1002, 2)] [((Qbi p2))]]) (Qa6 AP2 ⟨c6, c7, (rok (Qb2 t39 p1)), (rok rfl), trivial⟩) (Qik hP hn hx p1 p2 p3 Z0 _ h)
  ·exact gT hP hn hx (H1 ++ [hF 6, hF 11]) [(1001, 1), (1002, 2)] [2, 3, 4, 11, 12] [] (P2 ++ [(!r4) = false, Z0 = false, Qac [(1001, 1), (1002, 2)] [((r39 p1))], Qac [(1001, 1), (1002, 2)] [((Qbi p2))]]) (Qa6 AP2 ⟨c6, c51, (rok (Qb2 t39 p1)), (rok rfl), trivial⟩) (Qik hP hn hx p1 p2 p3 (p2.Code == 3) _ h)
noncomputable def Xl6 : Code := match Tryz.f149.body with | some c => c | none => .skip
noncomputable def Qg2 (p1 : GOp) (p2 : Qag) (p3 : (List GOp)) : Option Bool :=
 Option.bind (Qfj p2 p1 (p3.length : Int)) fun r4 =>
 some (!r4)
theorem Qrb {p1 : GOp} {p2 : Qag} {p3 : (List GOp)} {r : Bool} (h : Qg2 p1 p2 p3 = some r) : Qa4 Tryz.prog 149 [(AV.agg ((Qbi p1))), (AV.rop (r39 p2) 0), (AV.rop (Qh7 p3) 0)] (B r) := by
 refine gM Tryz.func149 11 Xl6 fun E hP hn hx => ?_
 unfold Qg2 at h
 obtain ⟨r4, hr4, h⟩ := bnS h
 obtain rfl := sj h
 exact (let Z0 := (I (p3.length : Int)); gR hP hn [hW 0 1001, hO 5 Z0, hh 6 (.callV [[], []] (B r4))] [] .raw [AV.lit (.int .i64 (((p3.map Qbi).length : Nat) : Int)) = Z0, Qa4 Tryz.prog 150 [(AV.agg ((r39 p2))), (AV.agg ((Qbi p1))), Z0] (B r4), Qa3 (B r4) = true, (B (!r4)) = (B (!r4)), Qa3 (B (!r4)) = true] ⟨(Qbw Qbi), (Qpy hr4), rfl, rfl, rfl, trivial⟩)
noncomputable def Xfd : Code := match Tryz.f200.body with | some c => c | none => .skip
noncomputable def Qao  (p1 : (List GOp)) (p2 : Qag) (p3 : (List GOp)) : Nat → Int → Option Int
 | 0, _ => none
 | n + 1, v4 =>
 if (decide (v4 < (p1.length : Int))) = true then
  Option.bind (rd p1 v4) fun x6 =>
  Option.bind (Qg2 x6 p2 p3) fun r7 =>
  if r7 = true then
   some v4
  else
   Qao p1 p2 p3 n (w64 (v4 + 1))
 else
  some (-1)
theorem Qf4 {E : Env} (hP : E.pk = pk0 Tryz.prog) (hn : E.n = 19) (hx : FX E []) (p1 : (List GOp)) (p2 : Qag) (p3 : (List GOp))  : ∀ (n : Nat) (v4 : Int) (r : Int), Qao p1 p2 p3 n v4 = some r → WAt E Xfd (FQ (Qes Θ Tryz.f200.results.toList [] [] (I r) E)) [true, false, true, false] ⟨[(0, (AV.ro 4 (p1.map Qbi))), (1, (AV.fn 149 [(AV.rop (r39 p2) 0), (AV.rop (Qh7 p3) 0)])), (7, (I (p1.length : Int))), (8, (I v4))], [], [JJ]⟩ := by
 intro n
 induction n with
 | zero => intro v4 r h; simp only [Qao] at h; cases h
 | succ n ih =>
  intro v4 r h
  simp only [Qao] at h
  let Z0 := (decide (v4 < (p1.length : Int)))
  rcases itS h with ⟨c5, h⟩ | ⟨c10, h⟩
  ·obtain ⟨x6, hx6, h⟩ := bnS h
   obtain ⟨r7, hr7, h⟩ := bnS h
   let P1 : List Prop := [Z0 = true, (0 : Int) ≤ v4, (p1.map Qbi)[v4.toNat]? = some (Qbi x6), Qa4 Tryz.prog 149 [(AV.agg ((Qbi x6))), (AV.rop (r39 p2) 0), (AV.rop (Qh7 p3) 0)] (B r7), Qa3 (B r7) = true]
   have AP1 : Qan P1 := ⟨c5, (rd0 hx6), (rdM Qbi hx6), (Qrb hr7), rfl, trivial⟩
   rcases itS h with ⟨c8, h⟩ | ⟨c9, h⟩
   ·obtain rfl := sj h
    exact gR hP hn [hT 1, hh 7 (.row (Qbi x6)), hh 9 (.callV [[]] (B r7)), hT 10] [] .raw (P1 ++ [r7 = true, (I v4) = (I v4), Qa3 (I v4) = true]) (Qa6 AP1 ⟨c8, rfl, rfl, trivial⟩)
   ·exact gT hP hn hx [hT 1, hh 7 (.row (Qbi x6)), hh 9 (.callV [[]] (B r7)), hF 10] [] [0, 1, 7, 8] [] (P1 ++ [r7 = false]) (Qa6 AP1 ⟨c9, trivial⟩) (ih (w64 (v4 + 1)) _ h)
  ·obtain rfl := sj h
   exact gR hP hn [hF 1] [] .raw [Z0 = false, (I (-1)) = (I (-1)), Qa3 (I (-1)) = true] ⟨c10, rfl, rfl, trivial⟩
noncomputable def Qbh (p1 : (List GOp)) (p2 : Qag) (p3 : (List GOp)) : Option Int :=
 Qao p1 p2 p3 FU 0
theorem Qft {p1 : (List GOp)} {p2 : Qag} {p3 : (List GOp)} {r : Int} (h : Qbh p1 p2 p3 = some r) : Qa4 Tryz.prog 200 [(AV.ro 4 (p1.map Qbi)), (AV.fn 149 [(AV.rop (r39 p2) 0), (AV.rop (Qh7 p3) 0)])] (I r) := by
 refine gM Tryz.func200 19 Xfd fun E hP hn hx => ?_
 unfold Qbh at h
 exact (let Z0 := (I (p1.length : Int)); gT hP hn hx [hO 2 Z0] [] [0, 1, 7, 8] [] [AV.lit (.int .i64 (((p1.map Qbi).length : Nat) : Int)) = Z0] ⟨(Qbw Qbi), trivial⟩ (Qf4 hP hn hx p1 p2 p3 FU 0 _ h))
noncomputable def Xlf : Code := match Tryz.f148.body with | some c => c | none => .skip
noncomputable def Qb1 (p1 : (List GOp)) (p2 : Qag) (p3 : (List GOp)) : Option Bool :=
 Option.bind (Qbh p1 p2 p3) fun r4 =>
 some (decide (r4 ≥ 0))
theorem Qf5 {p1 : (List GOp)} {p2 : Qag} {p3 : (List GOp)} {r : Bool} (h : Qb1 p1 p2 p3 = some r) : Qa4 Tryz.prog 148 [(AV.ro 4 (p1.map Qbi)), (AV.fn 149 [(AV.rop (r39 p2) 0), (AV.rop (Qh7 p3) 0)])] (B r) := by
 refine gM Tryz.func148 9 Xlf fun E hP hn hx => ?_
 unfold Qb1 at h
 obtain ⟨r4, hr4, h⟩ := bnS h
 obtain rfl := sj h
 exact (let Z0 := B (decide (r4 ≥ 0)); gR hP hn [hh 3 (.callV [] (I r4))] [] .raw [Qa4 Tryz.prog 200 [(AV.ro 4 (p1.map Qbi)), (AV.fn 149 [(AV.rop (r39 p2) 0), (AV.rop (Qh7 p3) 0)])] (I r4), Qa3 (I r4) = true, Z0 = Z0, Qa3 Z0 = true] ⟨(Qft hr4), rfl, rfl, rfl, trivial⟩)
noncomputable def Xip : Code := match Tryz.f69.body with | some c => c | none => .skip
noncomputable def Qd7  (p1 : Qag) : Nat → Qag → Int → Option Bool
 | 0, _, _ => none
 | n + 1, a14, v15 =>
 if (decide (v15 < (p1.Routines.length : Int))) = true then
  Option.bind (rd p1.Routines v15) fun x17 =>
  if (decide ((x17.length : Int) > 24)) = true then
   some false
  else
   Option.bind (Qb1 x17 a14 x17) fun r20 =>
   if r20 = true then
    some false
   else
    Qd7 p1 n a14 (w64 (v15 + 1))
 else
  some true
theorem Qqo {E : Env} (hP : E.pk = pk0 Tryz.prog) (hn : E.n = 44) (hx : FX E []) (p1 : Qag)  : ∀ (n : Nat) (a14 : Qag) (v15 : Int) (r : Bool), Qd7 p1 n a14 v15 = some r → WAt E Xip (FQ (Qes Θ Tryz.f69.results.toList [] [] (B r) E)) [true, true, false, true, false] ⟨[(1, (AV.ptr 1 0 0)), (29, (AV.ro 1 (p1.Routines.map Qh7))), (30, (I (p1.Routines.length : Int))), (31, (I v15))], [(1, some ⟨39, 4, [((r39 a14))]⟩)], [1, JJ]⟩ := by
 intro n
 induction n with
 | zero => intro a14 v15 r h; simp only [Qd7] at h; cases h
 | succ n ih =>
  intro a14 v15 r h
  simp only [Qd7] at h
  let Z2 := (decide (v15 < (p1.Routines.length : Int))); let Z4 := B false; let Z5 := r39 a14
  rcases itS h with ⟨c16, h⟩ | ⟨c23, h⟩
  ·obtain ⟨x17, hx17, h⟩ := bnS h
   let Z0 := Qh7 x17; let Z1 := (I (x17.length : Int)); let Z3 := (B (decide ((x17.length : Int) > 24))); let Z6 := AV.ro 4 (x17.map Qbi)
   let H1 : List Hn := [hT 1, hh 2 (.row Z0), hW 4 1001, hO 7 Z1]
   let P2 : List Prop := [Z2 = true, (0 : Int) ≤ v15, (p1.Routines.map Qh7)[v15.toNat]? = some Z0, AV.lit (.int .i64 (((x17.map Qbi).length : Nat) : Int)) = Z1]
   have AP2 : Qan P2 := ⟨c16, (rd0 hx17), (rdM Qh7 hx17), (Qbw Qbi), trivial⟩
   rcases itS h with ⟨c18, h⟩ | ⟨c19, h⟩
   ·obtain rfl := sj h
    exact gR hP hn (H1 ++ [hO 9 (B true)]) [] .raw (P2 ++ [Z3 = (B true), Z4 = Z4, Qa3 Z4 = true]) (Qa6 AP2 ⟨(Qax c18), rfl, rfl, trivial⟩)
   ·obtain ⟨r20, hr20, h⟩ := bnS h
    let H3 : List Hn := H1 ++ [hO 9 Z4, hh 12 (.callV [[Z5, (r39 a14)], [[Z6], Z0]] (B r20))]
    let P4 : List Prop := P2 ++ [Z3 = Z4, Qa4 Tryz.prog 148 [Z6, (AV.fn 149 [(AV.rop (r39 a14) 0), (AV.rop Z0 0)])] (B r20), Qa3 (B r20) = true, [Z5][0]? = some Z5, Qcs Z5 = true, Qj7 Z5 = (r39 a14), [[Z6]][0]? = some [Z6], Qcs [Z6] = true, Qj7 [Z6] = Z0]
    have AP4 : Qan P4 := Qa6 AP2 ⟨(Qax c19), (Qf5 hr20), rfl, rfl, rfl, rfl, rfl, rfl, rfl, trivial⟩
    rcases itS h with ⟨c21, h⟩ | ⟨c22, h⟩
    ·obtain rfl := sj h
     exact gR hP hn (H3 ++ [hT 14]) [] .raw (P4 ++ [r20 = true, Z4 = Z4, Qa3 Z4 = true]) (Qa6 AP4 ⟨c21, rfl, rfl, trivial⟩)
    ·exact gT hP hn hx (H3 ++ [hF 14]) [(1, 1)] [1, 29, 30, 31] [] (P4 ++ [r20 = false, Qac [(1, 1)] [Z5]]) (Qa6 AP4 ⟨c22, (rok (Qb2 t39 a14)), trivial⟩) (ih a14 (w64 (v15 + 1)) _ h)
  ·obtain rfl := sj h
   exact gR hP hn [hF 1] [] .raw [Z2 = false, (B true) = (B true), Qa3 (B true) = true] ⟨c23, rfl, rfl, trivial⟩
noncomputable def Qfd (p1 : Qag) : Option Bool :=
 Option.bind (Qff p1.Cells 0 4) fun r2 =>
 if (!r2) = true then
  some false
 else
  Option.bind (Qff p1.Locks 0 4) fun r5 =>
  if (!r5) = true then
   some false
  else
   Option.bind (Qff p1.Conds 0 2) fun r8 =>
   if (!r8) = true then
    some false
   else
    Option.bind (Qff (p1.Routines.length : Int) 1 4) fun r11 =>
    if (!r11) = true then
     some false
    else
     Qd7 p1 FU p1 0
theorem Quc {p1 : Qag} {r : Bool} (h : Qfd p1 = some r) : Qa4 Tryz.prog 69 [(AV.agg ((r39 p1)))] (B r) := by
 refine gM Tryz.func69 44 Xip fun E hP hn hx => ?_
 unfold Qfd at h
 obtain ⟨r2, hr2, h⟩ := bnS h
 let Z0 := B true; let Z1 := B false; let Z2 := (I (p1.Routines.length : Int)); let Z3 := (((p1.Routines.map Qh7).length : Nat) : Int)
 let H1 : List Hn := [hW 0 1001, hh 4 (.callV [] (B r2))]
 let P2 : List Prop := [Qa4 Tryz.prog 95 [(I p1.Cells), (I 0), (I 4)] (B r2), Qa3 (B r2) = true]
 have AP2 : Qan P2 := ⟨(Qdo hr2), rfl, trivial⟩
 rcases itS h with ⟨c3, h⟩ | ⟨c4, h⟩
 ·obtain rfl := sj h
  exact gR hP hn (H1 ++ [hO 6 Z0]) [] .raw (P2 ++ [(B (!r2)) = Z0, Z1 = Z1, Qa3 Z1 = true]) (Qa6 AP2 ⟨(Qax c3), rfl, rfl, trivial⟩)
 ·obtain ⟨r5, hr5, h⟩ := bnS h
  let H3 : List Hn := H1 ++ [hO 6 Z1, hh 9 (.callV [] (B r5))]
  let P4 : List Prop := P2 ++ [(B (!r2)) = Z1, Qa4 Tryz.prog 95 [(I p1.Locks), (I 0), (I 4)] (B r5), Qa3 (B r5) = true]
  have AP4 : Qan P4 := Qa6 AP2 ⟨(Qax c4), (Qdo hr5), rfl, trivial⟩
  rcases itS h with ⟨c6, h⟩ | ⟨c7, h⟩
  ·obtain rfl := sj h
   exact gR hP hn (H3 ++ [hO 12 Z0]) [] .raw (P4 ++ [(B (!r5)) = Z0, Z1 = Z1, Qa3 Z1 = true]) (Qa6 AP4 ⟨(Qax c6), rfl, rfl, trivial⟩)
  ·obtain ⟨r8, hr8, h⟩ := bnS h
   let H5 : List Hn := H3 ++ [hO 12 Z1, hh 15 (.callV [] (B r8))]
   let P6 : List Prop := P4 ++ [(B (!r5)) = Z1, Qa4 Tryz.prog 95 [(I p1.Conds), (I 0), (I 2)] (B r8), Qa3 (B r8) = true]
   have AP6 : Qan P6 := Qa6 AP4 ⟨(Qax c7), (Qdo hr8), rfl, trivial⟩
   rcases itS h with ⟨c9, h⟩ | ⟨c10, h⟩
   ·obtain rfl := sj h
    exact gR hP hn (H5 ++ [hO 18 Z0]) [] .raw (P6 ++ [(B (!r8)) = Z0, Z1 = Z1, Qa3 Z1 = true]) (Qa6 AP6 ⟨(Qax c9), rfl, rfl, trivial⟩)
   ·obtain ⟨r11, hr11, h⟩ := bnS h
    let H7 : List Hn := H5 ++ [hO 18 Z1, hO 21 Z2, hh 22 (.callV [] (B r11))]
    let P8 : List Prop := P6 ++ [(B (!r8)) = Z1, AV.lit (.int .i64 Z3) = Z2, Qa4 Tryz.prog 95 [Z2, (I 1), (I 4)] (B r11), Qa3 (B r11) = true]
    have AP8 : Qan P8 := Qa6 AP6 ⟨(Qax c10), (Qbw Qh7), (Qdo hr11), rfl, trivial⟩
    rcases itS h with ⟨c12, h⟩ | ⟨c13, h⟩
    ·obtain rfl := sj h
     exact gR hP hn (H7 ++ [hT 25]) [] .raw (P8 ++ [(!r11) = true, Z1 = Z1, Qa3 Z1 = true]) (Qa6 AP8 ⟨c12, rfl, rfl, trivial⟩)
    ·exact gT hP hn hx (H7 ++ [hF 25, hO 28 Z2]) [(1001, 1)] [1, 29, 30, 31] [] (P8 ++ [(!r11) = false, AV.lit (.int .i64 Z3) = Z2, Qac [(1001, 1)] [((r39 p1))]]) (Qa6 AP8 ⟨c13, (Qbw Qh7), (rok (Qb2 t39 p1)), trivial⟩) (Qqo hP hn hx p1 FU p1 0 _ h)
noncomputable def Xkg : Code := match Tryz.f151.body with | some c => c | none => .skip
noncomputable def Qg5 (p1 : Int) : Option Bool :=
 Option.bind (Qff p1 0 999) fun r2 =>
 some (!r2)
theorem Qrd {p1 : Int} {r : Bool} (h : Qg5 p1 = some r) : Qa4 Tryz.prog 151 [(I p1)] (B r) := by
 refine gM Tryz.func151 6 Xkg fun E hP hn hx => ?_
 unfold Qg5 at h
 obtain ⟨r2, hr2, h⟩ := bnS h
 obtain rfl := sj h
 exact gR hP hn [hh 2 (.callV [] (B r2))] [] .raw [Qa4 Tryz.prog 95 [(I p1), (I 0), (I 999)] (B r2), Qa3 (B r2) = true, (B (!r2)) = (B (!r2)), Qa3 (B (!r2)) = true] ⟨(Qdo hr2), rfl, rfl, rfl, trivial⟩
noncomputable def Xdp : Code := match Tryz.f173.body with | some c => c | none => .skip
noncomputable def Qam  (p1 : (List Int)) : Nat → Int → Option Int
 | 0, _ => none
 | n + 1, v2 =>
 if (decide (v2 < (p1.length : Int))) = true then
  Option.bind (rd p1 v2) fun x4 =>
  Option.bind (Qg5 x4) fun r5 =>
  if r5 = true then
   some v2
  else
   Qam p1 n (w64 (v2 + 1))
 else
  some (-1)
theorem Qeq {E : Env} (hP : E.pk = pk0 Tryz.prog) (hn : E.n = 19) (hx : FX E []) (p1 : (List Int))  : ∀ (n : Nat) (v2 : Int) (r : Int), Qam p1 n v2 = some r → WAt E Xdp (FQ (Qes Θ Tryz.f173.results.toList [] [] (I r) E)) [true, false, true, false] ⟨[(0, (AV.ro 1 (p1.map o3))), (1, (AV.fn 151 [])), (7, (I (p1.length : Int))), (8, (I v2))], [], [JJ]⟩ := by
 intro n
 induction n with
 | zero => intro v2 r h; simp only [Qam] at h; cases h
 | succ n ih =>
  intro v2 r h
  simp only [Qam] at h
  let Z0 := (decide (v2 < (p1.length : Int)))
  rcases itS h with ⟨c3, h⟩ | ⟨c8, h⟩
  ·obtain ⟨x4, hx4, h⟩ := bnS h
   obtain ⟨r5, hr5, h⟩ := bnS h
   let P1 : List Prop := [Z0 = true, (0 : Int) ≤ v2, (p1.map o3)[v2.toNat]? = some (o3 x4), Qa4 Tryz.prog 151 [(I x4)] (B r5), Qa3 (B r5) = true]
   have AP1 : Qan P1 := ⟨c3, (rd0 hx4), (rdM o3 hx4), (Qrd hr5), rfl, trivial⟩
   rcases itS h with ⟨c6, h⟩ | ⟨c7, h⟩
   ·obtain rfl := sj h
    exact gR hP hn [hT 1, hh 7 (.row (o3 x4)), hh 9 (.callV [] (B r5)), hT 10] [] .raw (P1 ++ [r5 = true, (I v2) = (I v2), Qa3 (I v2) = true]) (Qa6 AP1 ⟨c6, rfl, rfl, trivial⟩)
   ·exact gT hP hn hx [hT 1, hh 7 (.row (o3 x4)), hh 9 (.callV [] (B r5)), hF 10] [] [0, 1, 7, 8] [] (P1 ++ [r5 = false]) (Qa6 AP1 ⟨c7, trivial⟩) (ih (w64 (v2 + 1)) _ h)
  ·obtain rfl := sj h
   exact gR hP hn [hF 1] [] .raw [Z0 = false, (I (-1)) = (I (-1)), Qa3 (I (-1)) = true] ⟨c8, rfl, rfl, trivial⟩
noncomputable def Qbf (p1 : (List Int)) : Option Int :=
 Qam p1 FU 0
theorem Qfg {p1 : (List Int)} {r : Int} (h : Qbf p1 = some r) : Qa4 Tryz.prog 173 [(AV.ro 1 (p1.map o3)), (AV.fn 151 [])] (I r) := by
 refine gM Tryz.func173 19 Xdp fun E hP hn hx => ?_
 unfold Qbf at h
 exact (let Z0 := (I (p1.length : Int)); gT hP hn hx [hO 2 Z0] [] [0, 1, 7, 8] [] [AV.lit (.int .i64 (((p1.map o3).length : Nat) : Int)) = Z0] ⟨(Qbw o3), trivial⟩ (Qeq hP hn hx p1 FU 0 _ h))
noncomputable def Xma : Code := match Tryz.f99.body with | some c => c | none => .skip
noncomputable def Qaz (p1 : (List Int)) : Option Bool :=
 Option.bind (Qbf p1) fun r2 =>
 some (decide (r2 ≥ 0))
theorem Qep {p1 : (List Int)} {r : Bool} (h : Qaz p1 = some r) : Qa4 Tryz.prog 99 [(AV.ro 1 (p1.map o3)), (AV.fn 151 [])] (B r) := by
 refine gM Tryz.func99 9 Xma fun E hP hn hx => ?_
 unfold Qaz at h
 obtain ⟨r2, hr2, h⟩ := bnS h
 obtain rfl := sj h
 exact (let Z0 := B (decide (r2 ≥ 0)); gR hP hn [hh 3 (.callV [] (I r2))] [] .raw [Qa4 Tryz.prog 173 [(AV.ro 1 (p1.map o3)), (AV.fn 151 [])] (I r2), Qa3 (I r2) = true, Z0 = Z0, Qa3 Z0 = true] ⟨(Qfg hr2), rfl, rfl, rfl, trivial⟩)
noncomputable def Xn6 : Code := match Tryz.f70.body with | some c => c | none => .skip
noncomputable def Qhq (p1 : (List Int)) (p2 : Int) : Option Bool :=
 if (decide ((p1.length : Int) ≤ p2)) = true then
  Option.bind (Qaz p1) fun r4 =>
  some (!r4)
 else
  some false
theorem Qu3 {p1 : (List Int)} {p2 : Int} {r : Bool} (h : Qhq p1 p2 = some r) : Qa4 Tryz.prog 70 [(AV.ro 1 (p1.map o3)), (I p2)] (B r) := by
 refine gM Tryz.func70 14 Xn6 fun E hP hn hx => ?_
 unfold Qhq at h
 let Z0 := (I (p1.length : Int)); let Z1 := (((p1.map o3).length : Nat) : Int); let Z2 := (B (decide ((p1.length : Int) ≤ p2))); let Z3 := B false
 rcases itS h with ⟨c3, h⟩ | ⟨c5, h⟩
 ·obtain ⟨r4, hr4, h⟩ := bnS h
  obtain rfl := sj h
  exact gR hP hn [hO 2 Z0, hO 5 (B true), hh 7 (.callV [] (B r4))] [] .raw [AV.lit (.int .i64 Z1) = Z0, Z2 = (B true), Qa4 Tryz.prog 99 [(AV.ro 1 (p1.map o3)), (AV.fn 151 [])] (B r4), Qa3 (B r4) = true, (B (!r4)) = (B (!r4)), Qa3 (B (!r4)) = true] ⟨(Qbw o3), (Qax c3), (Qep hr4), rfl, rfl, rfl, trivial⟩
 ·obtain rfl := sj h
  exact gR hP hn [hO 2 Z0, hO 5 Z3] [] .raw [AV.lit (.int .i64 Z1) = Z0, Z2 = Z3, Z3 = Z3, Qa3 Z3 = true] ⟨(Qbw o3), (Qax c5), rfl, rfl, trivial⟩
noncomputable def Xdo : Code := match Tryz.f163.body with | some c => c | none => .skip
noncomputable def Qc8  (p1 : (List Qa0))  : Option (List Qa0) :=
  Xiz p1 (
    some []) (
    Option.bind (app [] p1) fun l2 =>
    some l2)
theorem Qi2 {E : Env} (hP : E.pk = pk0 Tryz.prog) (hn : E.n = 8) (hx : FX E []) (p1 : (List Qa0))   (r : (List Qa0)) (h : Qc8 p1  = some r) : WAt E Xdo (FQ (Qes Θ Tryz.f163.results.toList [] [] (AV.own 70 6 (r.map r70)) E)) [true, false, false] ⟨[(0, (AV.ro 6 (p1.map r70)))], [], [JJ]⟩ := by
 have hm : E.P.follows .mixedOrders = true := by rw [pkP hP]; exact Xby
 have hΘ : TOK E.P Θ := by rw [pkP hP]; exact Xd2
 unfold Qc8 at h
 obtain ⟨h1, h2⟩ := Xld h
 refine Xfo hΘ hm hP hn (p := [true, false, false]) (q := [true, false, true]) (s' := ⟨[(3, (AV.ro 6 (p1.map r70))), (0, (AV.ro 6 (p1.map r70)))], [], [JJ]⟩) (hs := []) (d := 4) (xs := (p1.map r70)) (ps := []) (by kernel_rfl) trivial (fun c hc => ?_)
 cases c
 ·have h := h2
  obtain ⟨l2, hl2, h⟩ := bnS h
  obtain rfl := sj h
  exact (let Z0 := l2.map r70; gR hP hn [hW 1 1001, hh 3 (.app 1002 Z0)] [] .ownS [([].map o70).take ([].map o70).length ++ (p1.map r70) = Z0, (p1.map r70).all (fun r => r.all AV.plain) = true, Z0.length * 64 ≤ 140737488355328, Z0.length ≤ 140737488355328, Qa2 (Z0.take Z0.length) = true, Z0.take Z0.length = Z0] ⟨(appTr o70 r70 hl2), (plM par70), (Qnv r70 hl2 (by decide)), (Qo0 r70 hl2), (Qb5 tr70), Qb6, trivial⟩)
 ·have h := h1 (List.map_eq_nil_iff.1 (hc rfl))
  obtain rfl := sj h
  exact gR hP hn [] [] .own [] trivial
noncomputable def Qby (p1 : (List Qa0)) : Option (List Qa0) :=
 Qc8 p1
theorem Qfw {p1 : (List Qa0)} {r : (List Qa0)} (h : Qby p1 = some r) : Qa4 Tryz.prog 163 [(AV.ro 6 (p1.map r70))] (AV.own 70 6 (r.map r70)) := by
 refine gM Tryz.func163 8 Xdo fun E hP hn hx => ?_
 unfold Qby at h
 exact gT hP hn hx [] [] [0] [] [] trivial (Qi2 hP hn hx p1  _ h)
noncomputable def Xdi : Code := match Tryz.f161.body with | some c => c | none => .skip
noncomputable def Qbv  (p1 : (List Nat))  : Option (List Nat) :=
  Xiz p1 (
    some []) (
    Option.bind (app [] p1) fun l2 =>
    some l2)
theorem Qhr {E : Env} (hP : E.pk = pk0 Tryz.prog) (hn : E.n = 8) (hx : FX E []) (p1 : (List Nat))   (r : (List Nat)) (h : Qbv p1  = some r) : WAt E Xdi (FQ (Qes Θ Tryz.f161.results.toList [] [] (AV.own 132 1 (r.map Qae)) E)) [true, false, false] ⟨[(0, (AV.ro 1 (p1.map Qae)))], [], [JJ]⟩ := by
 have hm : E.P.follows .mixedOrders = true := by rw [pkP hP]; exact Xby
 have hΘ : TOK E.P Θ := by rw [pkP hP]; exact Xd2
 unfold Qbv at h
 obtain ⟨h1, h2⟩ := Xld h
 refine Xfo hΘ hm hP hn (p := [true, false, false]) (q := [true, false, true]) (s' := ⟨[(3, (AV.ro 1 (p1.map Qae))), (0, (AV.ro 1 (p1.map Qae)))], [], [JJ]⟩) (hs := []) (d := 4) (xs := (p1.map Qae)) (ps := []) (by kernel_rfl) trivial (fun c hc => ?_)
 cases c
 ·have h := h2
  obtain ⟨l2, hl2, h⟩ := bnS h
  obtain rfl := sj h
  exact (let Z0 := l2.map Qae; gR hP hn [hW 1 1001, hh 3 (.app 1002 Z0)] [] .own [([].map Qae).take ([].map Qae).length ++ (p1.map Qae) = Z0, (p1.map Qae).all (fun r => r.all AV.plain) = true, Z0.length * 8 ≤ 140737488355328, Z0.length ≤ 140737488355328, Qa2 (Z0.take Z0.length) = true, Z0.take Z0.length = Z0, Qa5 Z0 = true] ⟨(Xl1 Qae hl2), (plM Qln), (Qnv Qae hl2 (by decide)), (Qo0 Qae hl2), (Qb5 Qc3), Qb6, (Qa8 Qer), trivial⟩)
 ·have h := h1 (List.map_eq_nil_iff.1 (hc rfl))
  obtain rfl := sj h
  exact gR hP hn [] [] .own [] trivial
noncomputable def Qba (p1 : (List Nat)) : Option (List Nat) :=
 Qbv p1
theorem Qd0 {p1 : (List Nat)} {r : (List Nat)} (h : Qba p1 = some r) : Qa4 Tryz.prog 161 [(AV.ro 1 (p1.map Qae))] (AV.own 132 1 (r.map Qae)) := by
 refine gM Tryz.func161 8 Xdi fun E hP hn hx => ?_
 unfold Qba at h
 exact gT hP hn hx [] [] [0] [] [] trivial (Qhr hP hn hx p1  _ h)
noncomputable def Xf4 : Code := match Tryz.f162.body with | some c => c | none => .skip
noncomputable def Qde  (p1 : (List Int))  : Option (List Int) :=
  Xiz p1 (
    some []) (
    Option.bind (app [] p1) fun l2 =>
    some l2)
theorem Qkz {E : Env} (hP : E.pk = pk0 Tryz.prog) (hn : E.n = 8) (hx : FX E []) (p1 : (List Int))   (r : (List Int)) (h : Qde p1  = some r) : WAt E Xf4 (FQ (Qes Θ Tryz.f162.results.toList [] [] (AV.own 3 1 (r.map o3)) E)) [true, false, false] ⟨[(0, (AV.ro 1 (p1.map o3)))], [], [JJ]⟩ := by
 have hm : E.P.follows .mixedOrders = true := by rw [pkP hP]; exact Xby
 have hΘ : TOK E.P Θ := by rw [pkP hP]; exact Xd2
 unfold Qde at h
 obtain ⟨h1, h2⟩ := Xld h
 refine Xfo hΘ hm hP hn (p := [true, false, false]) (q := [true, false, true]) (s' := ⟨[(3, (AV.ro 1 (p1.map o3))), (0, (AV.ro 1 (p1.map o3)))], [], [JJ]⟩) (hs := []) (d := 4) (xs := (p1.map o3)) (ps := []) (by kernel_rfl) trivial (fun c hc => ?_)
 cases c
 ·have h := h2
  obtain ⟨l2, hl2, h⟩ := bnS h
  obtain rfl := sj h
  exact (let Z0 := l2.map o3; gR hP hn [hW 1 1001, hh 3 (.app 1002 Z0)] [] .own [([].map o3).take ([].map o3).length ++ (p1.map o3) = Z0, (p1.map o3).all (fun r => r.all AV.plain) = true, Z0.length * 8 ≤ 140737488355328, Z0.length ≤ 140737488355328, Qa2 (Z0.take Z0.length) = true, Z0.take Z0.length = Z0, Qa5 Z0 = true] ⟨(Xl1 o3 hl2), (plM pa3), (Qnv o3 hl2 (by decide)), (Qo0 o3 hl2), (Qb5 t3), Qb6, (Qa8 n3), trivial⟩)
 ·have h := h1 (List.map_eq_nil_iff.1 (hc rfl))
  obtain rfl := sj h
  exact gR hP hn [] [] .own [] trivial
noncomputable def Qda (p1 : (List Int)) : Option (List Int) :=
 Qde p1
theorem Qhs {p1 : (List Int)} {r : (List Int)} (h : Qda p1 = some r) : Qa4 Tryz.prog 162 [(AV.ro 1 (p1.map o3))] (AV.own 3 1 (r.map o3)) := by
 refine gM Tryz.func162 8 Xf4 fun E hP hn hx => ?_
 unfold Qda at h
 exact gT hP hn hx [] [] [0] [] [] trivial (Qkz hP hn hx p1  _ h)
noncomputable def Xil : Code := match Tryz.f90.body with | some c => c | none => .skip
noncomputable def Qbz  (r4 : (List Qa0)) : Nat → Qa1 → (List Qa0) → (List Nat) → (List Int) → Int → Int → Option Qa1
 | 0, _, _, _, _, _, _ => none
 | n + 1, a5, a6, a7, a8, a9, v10 =>
 if (decide (v10 < (r4.length : Int))) = true then
  Option.bind (rd r4 v10) fun x12 =>
  Option.bind (Qpc a6 v10) fun q13 =>
  Option.bind (app [] x12.Stack) fun l14 =>
  Option.bind (nx1 v10) fun q15 =>
  Qbz r4 n a5 (a6 ++ [(Qa0.mk x12.Routine x12.Pc x12.State x12.Cond x12.Lock l14)]) a7 a8 a9 (w64 (v10 + 1))
 else
  Option.bind (Xfc r4 v10) fun q17 =>
  some (Qa1.mk a6 a7 a8 a9)
theorem Qmf {E : Env} (hP : E.pk = pk0 Tryz.prog) (hn : E.n = 38) (hx : FX E []) (r4 : (List Qa0))  : ∀ (n : Nat) (a5 : Qa1) (a6 : (List Qa0)) (a7 : (List Nat)) (a8 : (List Int)) (a9 : Int) (v10 : Int) (r : Qa1), Qbz r4 n a5 a6 a7 a8 a9 v10 = some r → WAt E Xil (FQ (Qes Θ Tryz.f90.results.toList [] [] (AV.agg (o44 r)) E)) [true, true, false, true, false] ⟨[(2, (AV.ptr 1 0 0)), (3, (AV.ptr 2 0 0)), (19, (I (r4.length : Int))), (20, (I v10))], [(1, some ⟨44, 4, [((o44 a5))]⟩), (2, some ⟨44, 4, [[(AV.sl 1005 0 (List.length (Qux o70 r70 a6 r4 (Int.toNat v10)))), (AV.own 132 1 (a7.map Qae)), (AV.own 3 1 (a8.map o3)), (I a9)]]⟩), (1005, some ⟨70, 6, (Qux o70 r70 a6 r4 (Int.toNat v10))⟩)], [1, 2, 1005, JJ]⟩ := by
 intro n
 induction n with
 | zero => intro a5 a6 a7 a8 a9 v10 r h; simp only [Qbz] at h; cases h
 | succ n ih =>
  intro a5 a6 a7 a8 a9 v10 r h
  simp only [Qbz] at h
  let Z0 := [].map Qae; let Z1 := AV.sl 1001 0 Z0.length; let Z4 := Qux o70 r70 a6 r4 v10.toNat; let Z9 := a7.map Qae; let Z10 := AV.own 132 1 Z9; let Z11 := a8.map o3; let Z12 := AV.own 3 1 Z11; let Z14 := (decide (v10 < (r4.length : Int))); let Z15 := ((Z4.length : Nat) : Int); let Z17 := AV.ptr 2 0 0; let Z18 := AV.sl 1005 0 Z4.length; let Z19 := AV.ptr 1005 v10.toNat 0; let Z20 := AV.ptr 1005 v10.toNat 5; let Z21 := [Z18, Z10, Z12, (I a9)]; let Z23 := AV.sl 1003 0 Z9.length; let Z24 := [Z18, Z23, Z12, (I a9)]; let Z25 := AV.sl 1004 0 Z11.length; let Z26 := [[Z18, Z23, Z25, (I a9)]]; let Z27 := a6.map o70
  rcases itS h with ⟨c11, h⟩ | ⟨c16, h⟩
  ·obtain ⟨x12, hx12, h⟩ := bnS h
   obtain ⟨q13, hq13, h⟩ := bnS h
   obtain ⟨l14, hl14, h⟩ := bnS h
   obtain ⟨q15, hq15, h⟩ := bnS h
   exact (let Z2 := r70 x12; let Z3 := l14.map Qae; let Z5 := AV.sl 1002 0 Z3.length; let Z6 := [(I x12.Routine), (I x12.Pc), (I x12.State), (I x12.Cond), (I x12.Lock), Z5]; let Z7 := Z4.set v10.toNat Z6; let Z8 := Qux o70 r70 (a6 ++ [(Qa0.mk x12.Routine x12.Pc x12.State x12.Cond x12.Lock l14)]) r4 (w64 (v10 + 1)).toNat; let Z13 := [(AV.sl 1005 0 Z8.length), Z10, Z12, (I a9)]; let Z16 := x12.Stack.map Qae; let Z22 := Qa0.mk x12.Routine x12.Pc x12.State x12.Cond x12.Lock l14; gT hP hn hx [hT 1, ⟨7, .nwc 1001, some Z1⟩, hh 13 (.row Z2), hh 14 (.app 1002 Z3), hh 26 (.row Z2), hh 29 (.sto Z2 Z7), hh 30 (.pack 1005 1002 v10.toNat 5 Z6 Z8), hh 32 (.eqr 2 [Z13])] [(1, 1), (2, 2), (1005, 1005)] [2, 3, 19, 20] [] [Z14 = true, AV.sl 1001 0 (Int.toNat 0) = Z1, (0 : Int) ≤ (8 : Int), (0 : Int) ≤ (0 : Int), (8 : Int) * ((8 : Nat) : Int) ≤ 140737488355328, (8 : Int) ≤ 140737488355328, (0 : Int) ≤ v10, v10 < Z15, Z4[v10.toNat]? = some Z2, Z0.take Z0.length ++ Z16 = Z3, Z16.all (fun r => r.all AV.plain) = true, Z3.length * 8 ≤ 140737488355328, Z3.length ≤ 140737488355328, Z17 = Z17, Z17 = Z17, Z18 = Z18, Z18 = Z18, (I v10) = (I v10), (I v10) = (I v10), Z17 = Z17, Z18 = Z18, (I v10) = (I v10), Z19 = Z19, (0 : Int) ≤ v10, v10 < Z15, Z20 = Z20, (AV.ro 1 Z16) = (AV.ro 1 Z16), Z4[v10.toNat]? = some Z2, (0 : Int) ≤ v10, v10 < Z15, Z4[v10.toNat]? = some Z2, Z4.set v10.toNat (wr Z2 5 [Z5]) = Z7, [Z5].length = 1, 5 + [Z5].length ≤ Z2.length, Z7[v10.toNat]? = some Z6, Z6[5]? = some Z5, Qa2 Z3 = true, Z7.set v10.toNat (Z6.set 5 (AV.own 132 1 Z3)) = Z8, [Z21] = [Z13], Qac [(1, 1), (2, 2), (1005, 1005)] [((o44 a5))], Qac [(1, 1), (2, 2), (1005, 1005)] [Z13], Qac [(1, 1), (2, 2), (1005, 1005)] Z8] ⟨c11, rfl, (by decide), (Int.le_refl _), (by decide), (by decide), (rd0 hx12), (mxL hq13 hx12), (mxR hq13 hx12), (Xl1 Qae hl14), (plM Qln), (Qnv Qae hl14 (by decide)), (Qo0 Qae hl14), rfl, rfl, rfl, rfl, rfl, rfl, rfl, rfl, rfl, rfl, (rd0 hx12), (mxL hq13 hx12), rfl, rfl, (mxR hq13 hx12), (rd0 hx12), (mxL hq13 hx12), (mxR hq13 hx12), rfl, rfl, leB, (Qdb (mxR hq13 hx12)), rfl, (Qah Qc3), (mxS (x2 := Z6) (y := Z22) hq13 hx12 hq15 rfl), (congrArg (fun nn => [[(AV.sl 1005 0 nn), Z10, Z12, (I a9)]]) (show (Qux o70 r70 a6 r4 v10.toNat).length = (Qux o70 r70 (a6 ++ [Z22]) r4 (w64 (v10 + 1)).toNat).length from (by try simp +zetaDelta only []; rw [← (mxS (x2 := Z6) (y := Z22) hq13 hx12 hq15 rfl), List.length_set, List.length_set]))), (rok (Qb2 t44 a5)), (.inr rfl), (rok (mxT t70 tr70)), trivial⟩ (ih a5 (a6 ++ [Z22]) a7 a8 a9 (w64 (v10 + 1)) _ h))
  ·obtain ⟨q17, hq17, h⟩ := bnS h
   obtain rfl := sj h
   exact gR hP hn [hF 1, hh 2 (.unpack 2 1003 0 1 Z21 132 1 Z9 [Z24]), hh 2 (.unpack 2 1004 0 2 Z24 3 1 Z11 Z26), hh 4 (.eqr 1005 Z27)] [] (.agg [.own, .own, .own, .raw]) [Z14 = false, [Z21][0]? = some Z21, Z21[1]? = some Z10, 0 < 1, [Z21].set 0 (Z21.set 1 Z23) = [Z24], [Z24][0]? = some Z24, Z24[2]? = some Z12, 0 < 1, [Z24].set 0 (Z24.set 2 Z25) = Z26, Z4 = Z27, Qa2 (Z27.take Z4.length) = true, Z27.take Z4.length = Z27, Qa5 Z27 = true, Qa2 (Z9.take Z9.length) = true, Z9.take Z9.length = Z9, Qa5 Z9 = true, Qa2 (Z11.take Z11.length) = true, Z11.take Z11.length = Z11, Qa5 Z11 = true, (I a9) = (I a9), Qa3 (I a9) = true] ⟨c16, rfl, rfl, (by decide), rfl, rfl, rfl, (by decide), rfl, (mxE (o := o70) (r := r70) (A := a6) hq17), (Qcg (congrArg List.length (mxE (o := o70) (r := r70) (A := a6) hq17)) (Qah t70)), (Qew (congrArg List.length (mxE (o := o70) (r := r70) (A := a6) hq17))), (Qa8 n70), (Qb5 Qc3), Qb6, (Qa8 Qer), (Qb5 t3), Qb6, (Qa8 n3), rfl, rfl, trivial⟩
noncomputable def Qf0 (p1 : Qa1) : Option Qa1 :=
 Option.bind (Qba p1.Cells) fun r2 =>
 Option.bind (Qda p1.Owner) fun r3 =>
 Option.bind (Qby p1.Threads) fun r4 =>
 Qbz r4 FU (Qa1.mk [] [] [] 0) [] r2 r3 p1.Fault 0
theorem Qo9 {p1 : Qa1} {r : Qa1} (h : Qf0 p1 = some r) : Qa4 Tryz.prog 90 [(AV.agg ((r44 p1)))] (AV.agg (o44 r)) := by
 refine gM Tryz.func90 38 Xil fun E hP hn hx => ?_
 unfold Qf0 at h
 obtain ⟨r2, hr2, h⟩ := bnS h
 obtain ⟨r3, hr3, h⟩ := bnS h
 obtain ⟨r4, hr4, h⟩ := bnS h
 exact (let Z0 := r2.map Qae; let Z1 := AV.own 132 1 Z0; let Z2 := AV.own 3 1 (r3.map o3); let Z3 := r4.map r70; let Z4 := AV.own 70 6 Z3; let Z5 := AV.sl 1005 0 Z3.length; let Z6 := (I (r4.length : Int)); let Z7 := AV.own 70 6 ([].map o70); let Z8 := [[Z7, nS, nS, (I 0)]]; let Z9 := AV.own 132 1 ([].map Qae); let Z10 := [[Z7, Z9, nS, (I 0)]]; let Z11 := [[Z7, Z9, (AV.own 3 1 ([].map o3)), (I 0)]]; let Z12 := AV.sl 1003 0 Z0.length; let Z13 := AV.sl 1004 0 (r3.map o3).length; let Z14 := I p1.Fault; let Z15 := [Z5, Z12, Z13, Z14]; let Z16 := [Z5, Z1, Z13, Z14]; let Z17 := [[Z5, Z1, Z2, Z14]]; let Z18 := Qux o70 r70 [] r4 (Int.toNat 0); let Z19 := [[(AV.sl 1005 0 Z18.length), Z1, Z2, Z14]]; let Z20 := AV.ptr 1001 0 1; let Z21 := AV.ro 1 (p1.Cells.map Qae); let Z22 := ((rtf Z1 [1003]).2.1).map sm; let Z23 := AV.ptr 1001 0 2; let Z24 := AV.ro 1 (p1.Owner.map o3); let Z25 := ((rtf Z2 [1004]).2.1).map sm; let Z26 := AV.ptr 1001 0 3; let Z27 := AV.ptr 1001 0 0; let Z28 := AV.ro 6 (p1.Threads.map r70); let Z29 := rtf Z4 [1005]; let Z30 := AV.agg Z15; let Z31 := AV.ptr 1006 0 0; let Z32 := ([(1006, (Qas.mk 44 4 [[nS, nS, nS, (I 0)]]))].map sm); let Z33 := Qa1.mk [] [] [] 0; gT hP hn hx [hW 0 1001, hW 1 1002, hh 4 (.call [] Z1 [1003]), hh 7 (.call [] Z2 [1004]), hh 12 (.callS Z4 [1005] Z5 [(1005, ⟨70, 6, Z3⟩)]), hW 14 1006, hO 18 Z6, hh 20 (.own0 1002 1 [] [nS, nS, (I 0)] 70 6 Z8), hh 20 (.own0 1002 1 [Z7] [nS, (I 0)] 132 1 Z10), hh 20 (.own0 1002 1 [Z7, Z9] [(I 0)] 3 1 Z11), hh 20 (.pack 1006 1003 0 1 Z15 [Z16]), hh 20 (.pack 1006 1004 0 2 Z16 Z17), hh 20 (.eqr 1005 Z18), hh 20 (.eqr 1006 Z19)] [(1002, 1), (1006, 2), (1005, 1005)] [2, 3, 19, 20] [] [Z20 = Z20, Z20 = Z20, Z21 = Z21, Z21 = Z21, Z12 = Z12, Z22 = Z22, Qa4 Tryz.prog 161 [Z21] Z1, Qc5 Z1 = true, Z12 = Z12, Z22 = Z22, Qa4 Tryz.prog 161 [Z21] Z1, Qc5 Z1 = true, Z23 = Z23, Z23 = Z23, Z23 = Z23, Z23 = Z23, Z24 = Z24, Z24 = Z24, Z24 = Z24, Z24 = Z24, Z13 = Z13, Z25 = Z25, Qa4 Tryz.prog 162 [Z24] Z2, Qc5 Z2 = true, Z13 = Z13, Z25 = Z25, Qa4 Tryz.prog 162 [Z24] Z2, Qc5 Z2 = true, Z26 = Z26, Z26 = Z26, Z26 = Z26, Z26 = Z26, Z26 = Z26, Z26 = Z26, Z26 = Z26, Z26 = Z26, Z14 = Z14, Z14 = Z14, Z14 = Z14, Z14 = Z14, Z14 = Z14, Z14 = Z14, Z14 = Z14, Z14 = Z14, Z27 = Z27, Z27 = Z27, Z27 = Z27, Z27 = Z27, Z27 = Z27, Z27 = Z27, Z28 = Z28, Z28 = Z28, Z28 = Z28, Z28 = Z28, Z28 = Z28, Z28 = Z28, Z5 = Z5, (([(1005, ⟨70, 6, Z3⟩)]).map sm) = (([(1005, ⟨70, 6, Z3⟩)]).map sm), Qa4 Tryz.prog 163 [Z28] Z4, Qcs [Z28] = true, Z29.1 = Z5, Z29.2.1 = [(1005, ⟨70, 6, Z3⟩)], Z5 = Z5, (([(1005, ⟨70, 6, Z3⟩)]).map sm) = (([(1005, ⟨70, 6, Z3⟩)]).map sm), Qa4 Tryz.prog 163 [Z28] Z4, Qcs [Z28] = true, Z29.1 = Z5, Z29.2.1 = [(1005, ⟨70, 6, Z3⟩)], Z30 = Z30, Z30 = Z30, Z31 = Z31, Z32 = Z32, Z31 = Z31, Z32 = Z32, Z31 = Z31, Z32 = Z32, Z31 = Z31, Z32 = Z32, AV.lit (.int .i64 ((Z3.length : Nat) : Int)) = Z6, [[nS, nS, nS, (I 0)]] = List.replicate 1 ([] ++ AV.lit (.slice none 0 0) :: [nS, nS, (I 0)]), List.replicate 1 ([] ++ AV.own 70 6 [] :: [nS, nS, (I 0)]) = Z8, Z8 = List.replicate 1 ([Z7] ++ AV.lit (.slice none 0 0) :: [nS, (I 0)]), List.replicate 1 ([Z7] ++ AV.own 132 1 [] :: [nS, (I 0)]) = Z10, Z10 = List.replicate 1 ([Z7, Z9] ++ AV.lit (.slice none 0 0) :: [(I 0)]), List.replicate 1 ([Z7, Z9] ++ AV.own 3 1 [] :: [(I 0)]) = Z11, [Z15][0]? = some Z15, Z15[1]? = some Z12, Qa2 Z0 = true, [Z15].set 0 (Z15.set 1 Z1) = [Z16], [Z16][0]? = some Z16, Z16[2]? = some Z13, Qa2 (r3.map o3) = true, [Z16].set 0 (Z16.set 2 Z2) = Z17, Z3 = Z18, Z17 = Z19, Qac [(1002, 1), (1006, 2), (1005, 1005)] Z11, Qac [(1002, 1), (1006, 2), (1005, 1005)] Z19, Qac [(1002, 1), (1006, 2), (1005, 1005)] Z18] ⟨rfl, rfl, rfl, rfl, rfl, rfl, (Qd0 hr2), (by simp +zetaDelta only [Qc5, Qbl, Qa8 Qer, Bool.and_self]), rfl, rfl, (Qd0 hr2), (by simp +zetaDelta only [Qc5, Qbl, Qa8 Qer, Bool.and_self]), rfl, rfl, rfl, rfl, rfl, rfl, rfl, rfl, rfl, rfl, (Qhs hr3), (by simp +zetaDelta only [Qc5, Qbl, Qa8 n3, Bool.and_self]), rfl, rfl, (Qhs hr3), (by simp +zetaDelta only [Qc5, Qbl, Qa8 n3, Bool.and_self]), rfl, rfl, rfl, rfl, rfl, rfl, rfl, rfl, rfl, rfl, rfl, rfl, rfl, rfl, rfl, rfl, rfl, rfl, rfl, rfl, rfl, rfl, rfl, rfl, rfl, rfl, rfl, rfl, rfl, rfl, (Qfw hr4), rfl, rfl, rfl, rfl, rfl, (Qfw hr4), rfl, rfl, rfl, rfl, rfl, rfl, rfl, rfl, rfl, rfl, rfl, rfl, rfl, (Qbw r70), rfl, rfl, rfl, rfl, rfl, rfl, rfl, rfl, (Qah Qc3), rfl, rfl, rfl, (Qah t3), rfl, (mx0 (o := o70) (r := r70)), (congrArg (fun nn => [[(AV.sl 1005 0 nn), Z1, Z2, (I p1.Fault)]]) (show Z3.length = (Qux o70 r70 [] r4 (Int.toNat 0)).length from (congrArg List.length (mx0 (l := r4) (o := o70) (r := r70))))), (rok (Qb2 t44 Z33)), (.inr rfl), (rok (mxT t70 tr70)), trivial⟩ (Qmf hP hn hx r4 FU Z33 [] r2 r3 p1.Fault 0 _ h))
noncomputable def Xja : Code := match Tryz.f164.body with | some c => c | none => .skip
noncomputable def Qcj (p1 : Qag) (p2 : Qa0) : Option (GOp × Bool) :=
 Option.bind (rd p1.Routines p2.Routine) fun x3 =>
 if (decide (p2.Pc < (x3.length : Int))) = true then
  Option.bind (rd x3 p2.Pc) fun x5 =>
  some (x5, true)
 else
  some ((GOp.mk 0 0 0 0), false)
theorem Qj1 {p1 : Qag} {p2 : Qa0} {r : (GOp × Bool)} (h : Qcj p1 p2 = some r) : Qa4 Tryz.prog 164 [(AV.agg ((r39 p1))), (AV.agg ((r70 p2)))] (AV.tup [(AV.agg (Qbi r.1)), (B r.2)]) := by
 refine gM Tryz.func164 24 Xja fun E hP hn hx => ?_
 unfold Qcj at h
 obtain ⟨x3, hx3, h⟩ := bnS h
 let Z0 := (I (x3.length : Int)); let Z1 := (decide (p2.Pc < (x3.length : Int))); let Z3 := AV.agg [(I 0), (I 0), (I 0), (FK 0)]
 let H1 : List Hn := [hW 0 1001, hW 1 1002, hW 2 1003, hh 8 (.row (Qh7 x3)), hO 14 Z0]
 let P2 : List Prop := [(0 : Int) ≤ p2.Routine, (p1.Routines.map Qh7)[p2.Routine.toNat]? = some (Qh7 x3), AV.lit (.int .i64 (((x3.map Qbi).length : Nat) : Int)) = Z0]
 have AP2 : Qan P2 := ⟨(rd0 hx3), (rdM Qh7 hx3), (Qbw Qbi), trivial⟩
 rcases itS h with ⟨c4, h⟩ | ⟨c6, h⟩
 ·obtain ⟨x5, hx5, h⟩ := bnS h
  obtain rfl := sj h
  exact (let Z2 := AV.agg ((Qbi x5)); gR hP hn (H1 ++ [hT 16, hh 20 (.row (Qbi x5))]) [] (.agg [.raw, .raw]) (P2 ++ [Z1 = true, (0 : Int) ≤ p2.Pc, (x3.map Qbi)[p2.Pc.toNat]? = some (Qbi x5), Z2 = Z2, Qa3 Z2 = true, (B true) = (B true), Qa3 (B true) = true]) (Qa6 AP2 ⟨c4, (rd0 hx5), (rdM Qbi hx5), rfl, rfl, rfl, rfl, trivial⟩))
 ·obtain rfl := sj h
  exact gR hP hn (H1 ++ [hF 16]) [] (.agg [.raw, .raw]) (P2 ++ [Z1 = false, Z3 = Z3, Qa3 Z3 = true, (B false) = (B false), Qa3 (B false) = true]) (Qa6 AP2 ⟨c6, rfl, rfl, rfl, rfl, trivial⟩)
noncomputable def Xk6 : Code := match Tryz.f230.body with | some c => c | none => .skip
noncomputable def Qqb (p1 : Nat) : Option Nat :=
 Option.bind (Xgq p1) fun q2 =>
 some (Int.toNat (Qv9 .u64 ((p1 : Nat) : Int) 9223372036854775808))
theorem Xcy {p1 : Nat} {r : Nat} (h : Qqb p1 = some r) : Qa4 Tryz.prog 230 [(FK p1)] (FK r) := by
 refine gM Tryz.func230 7 Xk6 fun E hP hn hx => ?_
 unfold Qqb at h
 obtain ⟨q2, hq2, h⟩ := bnS h
 obtain rfl := sj h
 exact (let Z0 := ((p1 : Nat) : Int); gR hP hn [hh 2 (.xt (IK .u64 Z0)), hh 4 (.xt (FK (Qv9 .u64 Z0 9223372036854775808).toNat))] [] .raw [Xid Tryz.prog 181 (FK p1) (IK .u64 Z0), Xid Tryz.prog 233 (IK .u64 (Qv9 .u64 Z0 9223372036854775808)) (FK (Qv9 .u64 Z0 9223372036854775808).toNat), (FK (Qv9 .u64 Z0 9223372036854775808).toNat) = (FK (Qv9 .u64 Z0 9223372036854775808).toNat), Qa3 (FK (Qv9 .u64 Z0 9223372036854775808).toNat) = true] ⟨(xBits Tryz.func181 (by kernel_rfl) (by kernel_rfl) (by kernel_rfl) (by kernel_rfl) (Xom hq2)), (xFrom Tryz.func233 (by kernel_rfl) (by kernel_rfl) (by kernel_rfl) (by kernel_rfl)), rfl, rfl, trivial⟩)
noncomputable def Xk1 : Code := match Tryz.f228.body with | some c => c | none => .skip
noncomputable def Qf8 (p1 : Nat) : Option Bool :=
 Option.bind (Qqb p1) fun r2 =>
 some ((Qc7 r2 9218868437227405311) == some .gt)
theorem Qua {p1 : Nat} {r : Bool} (h : Qf8 p1 = some r) : Qa4 Tryz.prog 228 [(FK p1), (I 0)] (B r) := by
 refine gM Tryz.func228 15 Xk1 fun E hP hn hx => ?_
 unfold Qf8 at h
 obtain ⟨r2, hr2, h⟩ := bnS h
 obtain rfl := sj h
 exact (let Z0 := Qc7 r2 9218868437227405311; gR hP hn [hh 5 (.callV [] (FK r2)), hh 8 (.bin (B (Z0 == some .gt)))] [] .raw [Qa4 Tryz.prog 230 [(FK p1)] (FK r2), Qa3 (FK r2) = true, Qfu Tryz.prog .gtr 132 (FK r2) (FK 9218868437227405311) (B (Z0 == some .gt)), (B (Z0 == some .gt)) = (B (Z0 == some .gt)), Qa3 (B (Z0 == some .gt)) = true] ⟨(Xcy hr2), rfl, fGtr, rfl, rfl, trivial⟩)
noncomputable def Xkj : Code := match Tryz.f180.body with | some c => c | none => .skip
noncomputable def Qfn (p1 : Nat) : Option Bool :=
 some ((Qc7 p1 p1) != some .eq)
theorem Qz0 {p1 : Nat} {r : Bool} (h : Qfn p1 = some r) : Qa4 Tryz.prog 180 [(FK p1)] (B r) := by
 refine gM Tryz.func180 6 Xkj fun E hP hn hx => ?_
 unfold Qfn at h
 obtain rfl := sj h
 exact (let Z0 := Qc7 p1 p1; gR hP hn [hh 3 (.bin (B (Z0 != some .eq)))] [] .raw [Qfu Tryz.prog .neq 132 (FK p1) (FK p1) (B (Z0 != some .eq)), (B (Z0 != some .eq)) = (B (Z0 != some .eq)), Qa3 (B (Z0 != some .eq)) = true] ⟨Xi7, rfl, rfl, trivial⟩)
noncomputable def Xk4 : Code := match Tryz.f229.body with | some c => c | none => .skip
noncomputable def Qjm (p1 : Nat) : Option Nat :=
 Option.bind (Xgq p1) fun q2 =>
 some (fTr p1)
theorem Qyw {p1 : Nat} {r : Nat} (h : Qjm p1 = some r) : Qa4 Tryz.prog 229 [(FK p1)] (FK r) := by
 refine gM Tryz.func229 7 Xk4 fun E hP hn hx => ?_
 unfold Qjm at h
 obtain ⟨q2, hq2, h⟩ := bnS h
 obtain rfl := sj h
 exact gR hP hn [hh 3 (.xt (FK (fTr p1)))] [] .raw [Xid Tryz.prog 231 (FK p1) (FK (fTr p1)), (FK (fTr p1)) = (FK (fTr p1)), Qa3 (FK (fTr p1)) = true] ⟨(Xoe Tryz.func231 (by kernel_rfl) (by kernel_rfl) (by kernel_rfl) (by kernel_rfl) (Xom hq2)), rfl, rfl, trivial⟩
noncomputable def Xkb : Code := match Tryz.f226.body with | some c => c | none => .skip
noncomputable def Qc0 (p1 : Nat) : Option Int :=
 Option.bind (Qfn p1) fun r2 =>
 if r2 = true then
  some 0
 else
  Option.bind (Qf8 p1) fun r5 =>
  if r5 = true then
   some 1
  else
   if ((Qc7 p1 0) == some .eq) = true then
    some 2
   else
    Option.bind (Qjm p1) fun r10 =>
    if ((Qc7 p1 r10) == some .eq) = true then
     some 3
    else
     some 4
theorem Qlt {p1 : Nat} {r : Int} (h : Qc0 p1 = some r) : Qa4 Tryz.prog 226 [(FK p1)] (I r) := by
 refine gM Tryz.func226 17 Xkb fun E hP hn hx => ?_
 unfold Qc0 at h
 obtain ⟨r2, hr2, h⟩ := bnS h
 let Z0 := Qc7 p1 0
 let H1 : List Hn := [hh 2 (.callV [] (B r2))]
 let P2 : List Prop := [Qa4 Tryz.prog 180 [(FK p1)] (B r2), Qa3 (B r2) = true]
 have AP2 : Qan P2 := ⟨(Qz0 hr2), rfl, trivial⟩
 rcases itS h with ⟨c3, h⟩ | ⟨c4, h⟩
 ·obtain rfl := sj h
  exact gR hP hn (H1 ++ [hT 4]) [] .raw (P2 ++ [r2 = true, (I 0) = (I 0), Qa3 (I 0) = true]) (Qa6 AP2 ⟨c3, rfl, rfl, trivial⟩)
 ·obtain ⟨r5, hr5, h⟩ := bnS h
  let H3 : List Hn := H1 ++ [hF 4, hh 6 (.callV [] (B r5))]
  let P4 : List Prop := P2 ++ [r2 = false, Qa4 Tryz.prog 228 [(FK p1), (I 0)] (B r5), Qa3 (B r5) = true]
  have AP4 : Qan P4 := Qa6 AP2 ⟨c4, (Qua hr5), rfl, trivial⟩
  rcases itS h with ⟨c6, h⟩ | ⟨c7, h⟩
  ·obtain rfl := sj h
   exact gR hP hn (H3 ++ [hT 8]) [] .raw (P4 ++ [r5 = true, (I 1) = (I 1), Qa3 (I 1) = true]) (Qa6 AP4 ⟨c6, rfl, rfl, trivial⟩)
  ·let H5 : List Hn := H3 ++ [hF 8, hh 10 (.bin (B (Z0 == some .eq)))]
   let P6 : List Prop := P4 ++ [r5 = false, Qfu Tryz.prog .eql 132 (FK p1) (FK 0) (B (Z0 == some .eq))]
   have AP6 : Qan P6 := Qa6 AP4 ⟨c7, Xgl, trivial⟩
   rcases itS h with ⟨c8, h⟩ | ⟨c9, h⟩
   ·obtain rfl := sj h
    exact gR hP hn (H5 ++ [hT 12]) [] .raw (P6 ++ [(Z0 == some .eq) = true, (I 2) = (I 2), Qa3 (I 2) = true]) (Qa6 AP6 ⟨c8, rfl, rfl, trivial⟩)
   ·obtain ⟨r10, hr10, h⟩ := bnS h
    let Z1 := Qc7 p1 r10
    let H7 : List Hn := H5 ++ [hF 12, hh 15 (.callV [] (FK r10)), hh 16 (.bin (B (Z1 == some .eq)))]
    let P8 : List Prop := P6 ++ [(Z0 == some .eq) = false, Qa4 Tryz.prog 229 [(FK p1)] (FK r10), Qa3 (FK r10) = true, Qfu Tryz.prog .eql 132 (FK p1) (FK r10) (B (Z1 == some .eq))]
    have AP8 : Qan P8 := Qa6 AP6 ⟨c9, (Qyw hr10), rfl, Xgl, trivial⟩
    rcases itS h with ⟨c11, h⟩ | ⟨c12, h⟩
    ·obtain rfl := sj h
     exact gR hP hn (H7 ++ [hT 18]) [] .raw (P8 ++ [(Z1 == some .eq) = true, (I 3) = (I 3), Qa3 (I 3) = true]) (Qa6 AP8 ⟨c11, rfl, rfl, trivial⟩)
    ·obtain rfl := sj h
     exact gR hP hn (H7 ++ [hF 18]) [] .raw (P8 ++ [(Z1 == some .eq) = false, (I 4) = (I 4), Qa3 (I 4) = true]) (Qa6 AP8 ⟨c12, rfl, rfl, trivial⟩)
noncomputable def Xls : Code := match Tryz.f208.body with | some c => c | none => .skip
noncomputable def Qf6 (p1 : Nat) (p2 : Int) : Option (Int × Bool) :=
 Option.bind (Qc0 p1) fun r3 =>
 Option.bind (Qff p2 1 1000) fun r4 =>
 if (!r4) = true then
  some (0, false)
 else
  if (r3 != 2) = true then
   if (r3 != 3) = true then
    some (0, false)
   else
    if ((Qc7 p1 0) == some .lt) = true then
     some (0, false)
    else
     if ((Qc7 p1 (fOf p2)) == some .gt || (Qc7 p1 (fOf p2)) == some .eq) = true then
      some (0, false)
     else
      Option.bind (fTo p1) fun x14 =>
      some (x14, true)
  else
   if ((Qc7 p1 0) == some .lt) = true then
    some (0, false)
   else
    if ((Qc7 p1 (fOf p2)) == some .gt || (Qc7 p1 (fOf p2)) == some .eq) = true then
     some (0, false)
    else
     Option.bind (fTo p1) fun x20 =>
     some (x20, true)
theorem Qny {p1 : Nat} {p2 : Int} {r : (Int × Bool)} (h : Qf6 p1 p2 = some r) : Qa4 Tryz.prog 208 [(FK p1), (I p2)] (AV.tup [(I r.1), (B r.2)]) := by
 refine gM Tryz.func208 32 Xls fun E hP hn hx => ?_
 unfold Qf6 at h
 obtain ⟨r3, hr3, h⟩ := bnS h
 obtain ⟨r4, hr4, h⟩ := bnS h
 let Z0 := B true; let Z1 := I 0; let Z2 := B false; let Z3 := B (r3 != 2); let Z4 := Qc7 p1 0; let Z5 := fOf p2; let Z6 := Qc7 p1 Z5
 let H1 : List Hn := [hh 3 (.callV [] (I r3)), hh 6 (.callV [] (B r4))]
 let P2 : List Prop := [Qa4 Tryz.prog 226 [(FK p1)] (I r3), Qa3 (I r3) = true, Qa4 Tryz.prog 95 [(I p2), (I 1), (I 1000)] (B r4), Qa3 (B r4) = true]
 have AP2 : Qan P2 := ⟨(Qlt hr3), rfl, (Qdo hr4), rfl, trivial⟩
 rcases itS h with ⟨c5, h⟩ | ⟨c6, h⟩
 ·obtain rfl := sj h
  exact gR hP hn (H1 ++ [hO 8 Z0]) [] (.agg [.raw, .raw]) (P2 ++ [(B (!r4)) = Z0, Z1 = Z1, Qa3 Z1 = true, Z2 = Z2, Qa3 Z2 = true]) (Qa6 AP2 ⟨(Qax c5), rfl, rfl, rfl, rfl, trivial⟩)
 ·let H3 : List Hn := H1 ++ [hO 8 Z2]
  let P4 : List Prop := P2 ++ [(B (!r4)) = Z2]
  have AP4 : Qan P4 := Qa6 AP2 ⟨(Qax c6), trivial⟩
  rcases itS h with ⟨c7, h⟩ | ⟨c15, h⟩
  ·rcases itS h with ⟨c8, h⟩ | ⟨c9, h⟩
   ·obtain rfl := sj h
    exact gR hP hn (H3 ++ [hO 11 Z0, hO 16 Z0]) [] (.agg [.raw, .raw]) (P4 ++ [Z3 = Z0, (B (r3 != 3)) = Z0, Z1 = Z1, Qa3 Z1 = true, Z2 = Z2, Qa3 Z2 = true]) (Qa6 AP4 ⟨(Qax c7), (Qax c8), rfl, rfl, rfl, rfl, trivial⟩)
   ·let H5 : List Hn := H3 ++ [hO 11 Z0, hO 16 Z2, hh 18 (.bin (B (Z4 == some .lt)))]
    let P6 : List Prop := P4 ++ [Z3 = Z0, (B (r3 != 3)) = Z2, Qfu Tryz.prog .lss 132 (FK p1) (FK 0) (B (Z4 == some .lt))]
    have AP6 : Qan P6 := Qa6 AP4 ⟨(Qax c7), (Qax c9), Xj8, trivial⟩
    rcases itS h with ⟨c10, h⟩ | ⟨c11, h⟩
    ·obtain rfl := sj h
     exact gR hP hn (H5 ++ [hO 20 Z0]) [] (.agg [.raw, .raw]) (P6 ++ [(B (Z4 == some .lt)) = Z0, Z1 = Z1, Qa3 Z1 = true, Z2 = Z2, Qa3 Z2 = true]) (Qa6 AP6 ⟨(Qax c10), rfl, rfl, rfl, rfl, trivial⟩)
    ·let H7 : List Hn := H5 ++ [hO 20 Z2, hh 23 (.cnv (FK Z5)), hh 24 (.bin (B (Z6 == some .gt || Z6 == some .eq)))]
     let P8 : List Prop := P6 ++ [(B (Z4 == some .lt)) = Z2, Qy6 Tryz.prog 3 132 (I p2) (FK Z5), Qfu Tryz.prog .geq 132 (FK p1) (FK Z5) (B (Z6 == some .gt || Z6 == some .eq))]
     have AP8 : Qan P8 := Qa6 AP6 ⟨(Qax c11), (cIF (P := Tryz.prog) ty3 Qpq), fGeq, trivial⟩
     rcases itS h with ⟨c12, h⟩ | ⟨c13, h⟩
     ·obtain rfl := sj h
      exact gR hP hn (H7 ++ [hT 26]) [] (.agg [.raw, .raw]) (P8 ++ [(Z6 == some .gt || Z6 == some .eq) = true, Z1 = Z1, Qa3 Z1 = true, Z2 = Z2, Qa3 Z2 = true]) (Qa6 AP8 ⟨c12, rfl, rfl, rfl, rfl, trivial⟩)
     ·obtain ⟨x14, hx14, h⟩ := bnS h
      obtain rfl := sj h
      exact gR hP hn (H7 ++ [hF 26, hh 28 (.cnv (I x14))]) [] (.agg [.raw, .raw]) (P8 ++ [(Z6 == some .gt || Z6 == some .eq) = false, Qy6 Tryz.prog 132 3 (FK p1) (I x14), (I x14) = (I x14), Qa3 (I x14) = true, Z0 = Z0, Qa3 Z0 = true]) (Qa6 AP8 ⟨c13, (cFI (P := Tryz.prog) Qpq ty3 hx14), rfl, rfl, rfl, rfl, trivial⟩)
  ·let H9 : List Hn := H3 ++ [hO 11 Z2, hh 18 (.bin (B (Z4 == some .lt)))]
   let P10 : List Prop := P4 ++ [Z3 = Z2, Qfu Tryz.prog .lss 132 (FK p1) (FK 0) (B (Z4 == some .lt))]
   have AP10 : Qan P10 := Qa6 AP4 ⟨(Qax c15), Xj8, trivial⟩
   rcases itS h with ⟨c16, h⟩ | ⟨c17, h⟩
   ·obtain rfl := sj h
    exact gR hP hn (H9 ++ [hO 20 Z0]) [] (.agg [.raw, .raw]) (P10 ++ [(B (Z4 == some .lt)) = Z0, Z1 = Z1, Qa3 Z1 = true, Z2 = Z2, Qa3 Z2 = true]) (Qa6 AP10 ⟨(Qax c16), rfl, rfl, rfl, rfl, trivial⟩)
   ·let H11 : List Hn := H9 ++ [hO 20 Z2, hh 23 (.cnv (FK Z5)), hh 24 (.bin (B (Z6 == some .gt || Z6 == some .eq)))]
    let P12 : List Prop := P10 ++ [(B (Z4 == some .lt)) = Z2, Qy6 Tryz.prog 3 132 (I p2) (FK Z5), Qfu Tryz.prog .geq 132 (FK p1) (FK Z5) (B (Z6 == some .gt || Z6 == some .eq))]
    have AP12 : Qan P12 := Qa6 AP10 ⟨(Qax c17), (cIF (P := Tryz.prog) ty3 Qpq), fGeq, trivial⟩
    rcases itS h with ⟨c18, h⟩ | ⟨c19, h⟩
    ·obtain rfl := sj h
     exact gR hP hn (H11 ++ [hT 26]) [] (.agg [.raw, .raw]) (P12 ++ [(Z6 == some .gt || Z6 == some .eq) = true, Z1 = Z1, Qa3 Z1 = true, Z2 = Z2, Qa3 Z2 = true]) (Qa6 AP12 ⟨c18, rfl, rfl, rfl, rfl, trivial⟩)
    ·obtain ⟨x20, hx20, h⟩ := bnS h
     obtain rfl := sj h
     exact gR hP hn (H11 ++ [hF 26, hh 28 (.cnv (I x20))]) [] (.agg [.raw, .raw]) (P12 ++ [(Z6 == some .gt || Z6 == some .eq) = false, Qy6 Tryz.prog 132 3 (FK p1) (I x20), (I x20) = (I x20), Qa3 (I x20) = true, Z0 = Z0, Qa3 Z0 = true]) (Qa6 AP12 ⟨c19, (cFI (P := Tryz.prog) Qpq ty3 hx20), rfl, rfl, rfl, rfl, trivial⟩)
noncomputable def Qbu (p1 : Qa1) (p2 : Qa0) : Option (Int × Bool) :=
 if ((p2.Stack.length : Int) == 0) = true then
  some (0, false)
 else
  Option.bind (rd p2.Stack (w64 ((p2.Stack.length : Int) - 1))) fun x5 =>
  Option.bind (Qf6 x5 (p1.Threads.length : Int)) fun r6 =>
  some (r6.1, r6.2)
noncomputable def Qf9  (p1 : Qa1) (r8 : (GOp × Bool))  : Option (Int × Bool) :=
 Option.bind (rd p1.Owner r8.1.A) fun x11 =>
 some (x11, (decide (x11 ≥ 0)))
noncomputable def Qcw  (p1 : Qa1) (p3 : Qa0)  : Option (Int × Bool) :=
 Option.bind (Qbu p1 p3) fun r15 =>
 if r15.2 = true then
  Option.bind (rd p1.Threads r15.1) fun x17 =>
  some (r15.1, (x17.State != 2))
 else
  some (r15.1, false)
noncomputable def Qbm  (p1 : Qa1) (p3 : Qa0) (r8 : (GOp × Bool))  : Option (Int × Bool) :=
 if r8.2 = true then
  if (r8.1.Code == 15) = true then
   Qcw p1 p3
  else
   some (0, false)
 else
  some (0, false)
noncomputable def Qfi (p1 : Qa1) (p2 : Qag) (p3 : Qa0) : Option (Int × Bool) :=
 if (p3.State == 4) = true then
  Option.bind (rd p1.Owner p3.Lock) fun x5 =>
  some (x5, (decide (x5 ≥ 0)))
 else
  if (p3.State == 1) = true then
   Option.bind (Qcj p2 p3) fun r8 =>
   if r8.2 = true then
    if (r8.1.Code == 12) = true then
     Qf9 p1 r8
    else
     Qbm p1 p3 r8
   else
    Qbm p1 p3 r8
  else
   some (0, false)
noncomputable def Qb7  (p1 : Qa1) : Nat → Qag → (List Int) → Int → Option (List Int)
 | 0, _, _, _ => none
 | n + 1, a3, a4, v5 =>
 if (decide (v5 < (p1.Threads.length : Int))) = true then
  Option.bind (rd p1.Threads v5) fun x7 =>
  Option.bind (Qfi p1 a3 x7) fun r8 =>
  if (p1.Fault == 0) = true then
   if (!r8.2) = true then
    if (x7.State == 1) = true then
     Option.bind (app a4 [v5]) fun l12 =>
     Qb7 p1 n a3 l12 (w64 (v5 + 1))
    else
     if (x7.State == 4) = true then
      Option.bind (app a4 [v5]) fun l15 =>
      Qb7 p1 n a3 l15 (w64 (v5 + 1))
     else
      Qb7 p1 n a3 a4 (w64 (v5 + 1))
   else
    Qb7 p1 n a3 a4 (w64 (v5 + 1))
  else
   Qb7 p1 n a3 a4 (w64 (v5 + 1))
 else
  some a4
noncomputable def Qd5 (p1 : Qa1) (p2 : Qag) : Option (List Int) :=
 Qb7 p1 FU p2 [] 0
noncomputable def Xkr : Code := match Tryz.f205.body with | some c => c | none => .skip
theorem Qgm {p1 : Qa1} {p2 : Qa0} {W0 W1 W2 : AV} {r : (Int × Bool)} (h : Qbu p1 p2 = some r) : Qa4 Tryz.prog 205 [(AV.rop ([W0, W1, W2] ++ (r44 p1)) 3), (AV.agg ((r70 p2)))] (AV.tup [(I r.1), (B r.2)]) := by
 refine gM Tryz.func205 26 Xkr fun E hP hn hx => ?_
 unfold Qbu at h
 let Z0 := (((p2.Stack.map Qae).length : Nat) : Int); let Z1 := (p2.Stack.length : Int); let Z2 := (I (p1.Threads.length : Int))
 let P1 : List Prop := [AV.lit (.int .i64 Z0) = (I Z1)]
 have AP1 : Qan P1 := ⟨(Qbw Qae), trivial⟩
 rcases itS h with ⟨c3, h⟩ | ⟨c4, h⟩
 ·obtain rfl := sj h
  exact gR hP hn [hW 0 1001, hO 5 (I Z1), hT 7] [] (.agg [.raw, .raw]) (P1 ++ [(Z1 == 0) = true, (I 0) = (I 0), Qa3 (I 0) = true, (B false) = (B false), Qa3 (B false) = true]) (Qa6 AP1 ⟨c3, rfl, rfl, rfl, rfl, trivial⟩)
 ·obtain ⟨x5, hx5, h⟩ := bnS h
  obtain ⟨r6, hr6, h⟩ := bnS h
  obtain rfl := sj h
  exact (let Z3 := AV.tup [(I r6.1), (B r6.2)]; gR hP hn [hW 0 1001, hO 5 (I Z1), hF 7, hO 12 (I Z1), hh 14 (.row (Qae x5)), hO 20 Z2, hh 21 (.callV [] Z3)] [] (.agg [.raw, .raw]) (P1 ++ [(Z1 == 0) = false, AV.lit (.int .i64 Z0) = (I Z1), (0 : Int) ≤ (w64 (Z1 - 1)), (p2.Stack.map Qae)[(w64 (Z1 - 1)).toNat]? = some (Qae x5), AV.lit (.int .i64 (((p1.Threads.map r70).length : Nat) : Int)) = Z2, Qa4 Tryz.prog 208 [(FK x5), Z2] Z3, Qa3 Z3 = true, (I r6.1) = (I r6.1), Qa3 (I r6.1) = true, (B r6.2) = (B r6.2), Qa3 (B r6.2) = true]) (Qa6 AP1 ⟨c4, (Qbw Qae), (rd0 hx5), (rdM Qae hx5), (Qbw r70), (Qny hr6), rfl, rfl, rfl, rfl, rfl, trivial⟩))
noncomputable def Qwm : Code := match Tryz.f160.body with | some c => c | none => .skip
theorem Qjd {E : Env} (hP : E.pk = pk0 Tryz.prog) (hn : E.n = 91) (hx : FX E []) {W0 W1 W2 : AV} (p1 : Qa1) (r8 : (GOp × Bool))   (r : (Int × Bool)) (h : Qf9 p1 r8  = some r) : WAt E Qwm (FQ (Qes Θ Tryz.f160.results.toList [] [] (AV.tup [(I r.1), (B r.2)]) E)) [true, false, true, false, true, true, true, false, true, false, true, false] ⟨[(0, (AV.rop ([W0, W1, W2] ++ (r44 p1)) 3)), (8, (AV.ptr 1 0 0))], [(1, some ⟨156, 4, [((Qbi r8.1))]⟩)], [1, JJ]⟩ := by
 unfold Qf9 at h
 obtain ⟨x11, hx11, h⟩ := bnS h
 obtain rfl := sj h
 exact (let Z0 := B (decide (x11 ≥ 0)); gR hP hn [hh 6 (.row (o3 x11)), hh 14 (.row (o3 x11))] [] (.agg [.raw, .raw]) [(0 : Int) ≤ r8.1.A, (p1.Owner.map o3)[r8.1.A.toNat]? = some (o3 x11), (0 : Int) ≤ r8.1.A, (p1.Owner.map o3)[r8.1.A.toNat]? = some (o3 x11), (I x11) = (I x11), Qa3 (I x11) = true, Z0 = Z0, Qa3 Z0 = true] ⟨(rd0 hx11), (rdM o3 hx11), (rd0 hx11), (rdM o3 hx11), rfl, rfl, rfl, rfl, trivial⟩)
theorem Qjg {E : Env} (hP : E.pk = pk0 Tryz.prog) (hn : E.n = 91) (hx : FX E []) {W0 W1 W2 : AV} (p1 : Qa1) (p3 : Qa0)   (r : (Int × Bool)) (h : Qcw p1 p3  = some r) : WAt E Qwm (FQ (Qes Θ Tryz.f160.results.toList [] [] (AV.tup [(I r.1), (B r.2)]) E)) [true, false, true, false, true, true, true, false, true, false, true, true, true, false] ⟨[(0, (AV.rop ([W0, W1, W2] ++ (r44 p1)) 3)), (5, (AV.ptr 1 0 0))], [(1, some ⟨70, 6, [((r70 p3))]⟩)], [1, JJ]⟩ := by
 unfold Qcw at h
 obtain ⟨r15, hr15, h⟩ := bnS h
 let Z0 := I r15.1; let Z1 := AV.tup [Z0, (B r15.2)]; let Z3 := B false
 let P1 : List Prop := [Qa4 Tryz.prog 205 [(AV.rop ([W0, W1, W2] ++ (r44 p1)) 3), (AV.agg ((r70 p3)))] Z1, Qa3 Z1 = true]
 have AP1 : Qan P1 := ⟨(Qgm hr15), rfl, trivial⟩
 rcases itS h with ⟨c16, h⟩ | ⟨c18, h⟩
 ·obtain ⟨x17, hx17, h⟩ := bnS h
  obtain rfl := sj h
  exact (let Z2 := B (x17.State != 2); gR hP hn [hh 2 (.callV [[]] Z1), hO 10 (B true), hh 16 (.row (r70 x17))] [] (.agg [.raw, .raw]) (P1 ++ [(B r15.2) = (B true), (0 : Int) ≤ r15.1, (p1.Threads.map r70)[r15.1.toNat]? = some (r70 x17), Z0 = Z0, Qa3 Z0 = true, Z2 = Z2, Qa3 Z2 = true]) (Qa6 AP1 ⟨(Qax c16), (rd0 hx17), (rdM r70 hx17), rfl, rfl, rfl, rfl, trivial⟩))
 ·obtain rfl := sj h
  exact gR hP hn [hh 2 (.callV [[]] Z1), hO 10 Z3] [] (.agg [.raw, .raw]) (P1 ++ [(B r15.2) = Z3, Z0 = Z0, Qa3 Z0 = true, Z3 = Z3, Qa3 Z3 = true]) (Qa6 AP1 ⟨(Qax c18), rfl, rfl, rfl, rfl, trivial⟩)
theorem Qfv {E : Env} (hP : E.pk = pk0 Tryz.prog) (hn : E.n = 91) (hx : FX E []) {W0 W1 W2 : AV} (p1 : Qa1) (p3 : Qa0) (r8 : (GOp × Bool))   (r : (Int × Bool)) (h : Qbm p1 p3 r8  = some r) : WAt E Qwm (FQ (Qes Θ Tryz.f160.results.toList [] [] (AV.tup [(I r.1), (B r.2)]) E)) [true, false, true, false, true, true, true, false, true, false, true, true] ⟨[(0, (AV.rop ([W0, W1, W2] ++ (r44 p1)) 3)), (5, (AV.ptr 1 0 0)), (8, (AV.ptr 2 0 0)), (9, (B r8.2))], [(1, some ⟨70, 6, [((r70 p3))]⟩), (2, some ⟨156, 4, [((Qbi r8.1))]⟩)], [1, 2, JJ]⟩ := by
 unfold Qbm at h
 let Z0 := B false
 rcases itS h with ⟨c13, h⟩ | ⟨c20, h⟩
 ·rcases itS h with ⟨c14, h⟩ | ⟨c19, h⟩
  ·exact gT hP hn hx [hO 1 (B true), hT 7] [(1, 1)] [0, 5] [] [(B r8.2) = (B true), (r8.1.Code == 15) = true, Qac [(1, 1)] [((r70 p3))]] ⟨(Qax c13), c14, (rok (Qb2 t70 p3)), trivial⟩ (Qjg (W0 := W0) (W1 := W1) (W2 := W2) hP hn hx p1 p3  _ h)
  ·obtain rfl := sj h
   exact gR hP hn [hO 1 (B true), hF 7] [] (.agg [.raw, .raw]) [(B r8.2) = (B true), (r8.1.Code == 15) = false, (I 0) = (I 0), Qa3 (I 0) = true, Z0 = Z0, Qa3 Z0 = true] ⟨(Qax c13), c19, rfl, rfl, rfl, rfl, trivial⟩
 ·obtain rfl := sj h
  exact gR hP hn [hO 1 Z0] [] (.agg [.raw, .raw]) [(B r8.2) = Z0, (I 0) = (I 0), Qa3 (I 0) = true, Z0 = Z0, Qa3 Z0 = true] ⟨(Qax c20), rfl, rfl, rfl, rfl, trivial⟩
theorem Ql2 {p1 : Qa1} {p2 : Qag} {p3 : Qa0} {W0 W1 W2 : AV} {r : (Int × Bool)} (h : Qfi p1 p2 p3 = some r) : Qa4 Tryz.prog 160 [(AV.rop ([W0, W1, W2] ++ (r44 p1)) 3), (AV.agg ((r39 p2))), (AV.agg ((r70 p3)))] (AV.tup [(I r.1), (B r.2)]) := by
 refine gM Tryz.func160 91 Qwm fun E hP hn hx => ?_
 unfold Qfi at h
 let Z0 := p3.State == 4; let Z4 := B false
 let H1 : List Hn := [hW 0 1001, hW 1 1002]
 rcases itS h with ⟨c4, h⟩ | ⟨c6, h⟩
 ·obtain ⟨x5, hx5, h⟩ := bnS h
  obtain rfl := sj h
  exact (let Z1 := B (decide (x5 ≥ 0)); gR hP hn (H1 ++ [hT 8, hh 15 (.row (o3 x5)), hh 23 (.row (o3 x5))]) [] (.agg [.raw, .raw]) [Z0 = true, (0 : Int) ≤ p3.Lock, (p1.Owner.map o3)[p3.Lock.toNat]? = some (o3 x5), (0 : Int) ≤ p3.Lock, (p1.Owner.map o3)[p3.Lock.toNat]? = some (o3 x5), (I x5) = (I x5), Qa3 (I x5) = true, Z1 = Z1, Qa3 Z1 = true] ⟨c4, (rd0 hx5), (rdM o3 hx5), (rd0 hx5), (rdM o3 hx5), rfl, rfl, rfl, rfl, trivial⟩)
 ·rcases itS h with ⟨c7, h⟩ | ⟨c22, h⟩
  ·obtain ⟨r8, hr8, h⟩ := bnS h
   let Z2 := AV.tup [(AV.agg (Qbi r8.1)), (B r8.2)]; let Z3 := Qbi r8.1
   let H2 : List Hn := H1 ++ [hF 8, hT 11, hh 14 (.callV [[], []] Z2), hW 18 1003]
   let P3 : List Prop := [Z0 = false, (p3.State == 1) = true, Qa4 Tryz.prog 164 [(AV.agg ((r39 p2))), (AV.agg ((r70 p3)))] Z2, Qa3 Z2 = true]
   have AP3 : Qan P3 := ⟨c6, c7, (Qj1 hr8), rfl, trivial⟩
   rcases itS h with ⟨c9, h⟩ | ⟨c21, h⟩
   ·rcases itS h with ⟨c10, h⟩ | ⟨c12, h⟩
    ·exact gT hP hn hx (H2 ++ [hO 22 (B true), hT 28]) [(1003, 1)] [0, 8] [] (P3 ++ [(B r8.2) = (B true), (r8.1.Code == 12) = true, Qac [(1003, 1)] [Z3]]) (Qa6 AP3 ⟨(Qax c9), c10, (rok rfl), trivial⟩) (Qjd (W0 := W0) (W1 := W1) (W2 := W2) hP hn hx p1 r8  _ h)
    ·exact gT hP hn hx (H2 ++ [hO 22 (B true), hF 28]) [(1002, 1), (1003, 2)] [0, 5, 8, 9] [] (P3 ++ [(B r8.2) = (B true), (r8.1.Code == 12) = false, Qac [(1002, 1), (1003, 2)] [((r70 p3))], Qac [(1002, 1), (1003, 2)] [Z3]]) (Qa6 AP3 ⟨(Qax c9), c12, (rok (Qb2 t70 p3)), (rok rfl), trivial⟩) (Qfv (W0 := W0) (W1 := W1) (W2 := W2) hP hn hx p1 p3 r8  _ h)
   ·exact gT hP hn hx (H2 ++ [hO 22 Z4]) [(1002, 1), (1003, 2)] [0, 5, 8, 9] [] (P3 ++ [(B r8.2) = Z4, Qac [(1002, 1), (1003, 2)] [((r70 p3))], Qac [(1002, 1), (1003, 2)] [Z3]]) (Qa6 AP3 ⟨(Qax c21), (rok (Qb2 t70 p3)), (rok rfl), trivial⟩) (Qfv (W0 := W0) (W1 := W1) (W2 := W2) hP hn hx p1 p3 r8  _ h)
  ·obtain rfl := sj h
   exact gR hP hn (H1 ++ [hF 8, hF 11]) [] (.agg [.raw, .raw]) [Z0 = false, (p3.State == 1) = false, (I 0) = (I 0), Qa3 (I 0) = true, Z4 = Z4, Qa3 Z4 = true] ⟨c6, c22, rfl, rfl, rfl, rfl, trivial⟩
noncomputable def Xj5 : Code := match Tryz.f89.body with | some c => c | none => .skip
theorem Qir {E : Env} (hP : E.pk = pk0 Tryz.prog) (hn : E.n = 53) (hx : FX E []) {W0 W1 W2 : AV} (p1 : Qa1)  : ∀ (n : Nat) (a3 : Qag) (a4 : (List Int)) (v5 : Int) (r : (List Int)), Qb7 p1 n a3 a4 v5 = some r → WAt E Xj5 (FQ (Qes Θ Tryz.f89.results.toList [] [] (AV.own 3 1 (r.map o3)) E)) [true, true, false, true, false] ⟨[(0, (AV.rop ([W0, W1, W2] ++ (r44 p1)) 3)), (3, (AV.ptr 1 0 0)), (5, (AV.sl 2 0 (List.length (a4.map o3)))), (14, (AV.ro 6 (p1.Threads.map r70))), (15, (I (p1.Threads.length : Int))), (16, (I v5))], [(1, some ⟨39, 4, [((r39 a3))]⟩), (2, some ⟨3, 1, (a4.map o3)⟩)], [1, 2, JJ]⟩ := by
 intro n
 induction n with
 | zero => intro a3 a4 v5 r h; simp only [Qb7] at h; cases h
 | succ n ih =>
  intro a3 a4 v5 r h
  simp only [Qb7] at h
  let Z1 := (decide (v5 < (p1.Threads.length : Int))); let Z2 := r39 a3; let Z3 := B true; let Z7 := a4.map o3; let Z8 := (([v5].map o3).drop 0).take ([v5].map o3).length; let Z9 := B false
  rcases itS h with ⟨c6, h⟩ | ⟨c19, h⟩
  ·obtain ⟨x7, hx7, h⟩ := bnS h
   obtain ⟨r8, hr8, h⟩ := bnS h
   let Z0 := AV.tup [(I r8.1), (B r8.2)]; let Z5 := B (!r8.2); let Z6 := B (x7.State == 1)
   let H1 : List Hn := [hT 1, hh 3 (.row (r70 x7)), hW 5 1001, hh 11 (.callV [[], []] Z0)]
   let P2 : List Prop := [Z1 = true, (0 : Int) ≤ v5, (p1.Threads.map r70)[v5.toNat]? = some (r70 x7), Qa4 Tryz.prog 160 [(AV.rop ([W0, W1, W2] ++ (r44 p1)) 3), (AV.agg Z2), (AV.agg ((r70 x7)))] Z0, Qa3 Z0 = true]
   have AP2 : Qan P2 := ⟨c6, (rd0 hx7), (rdM r70 hx7), (Ql2 hr8), rfl, trivial⟩
   rcases itS h with ⟨c9, h⟩ | ⟨c18, h⟩
   ·let P3 : List Prop := P2 ++ [(B (p1.Fault == 0)) = Z3]
    have AP3 : Qan P3 := Qa6 AP2 ⟨(Qax c9), trivial⟩
    rcases itS h with ⟨c10, h⟩ | ⟨c17, h⟩
    ·rcases itS h with ⟨c11, h⟩ | ⟨c13, h⟩
     ·obtain ⟨l12, hl12, h⟩ := bnS h
      exact (let Z4 := l12.map o3; gT hP hn hx (H1 ++ [hO 22 Z3, hO 26 Z3, hO 30 Z3, hW 39 1002, hh 40 (.app 1003 Z4)]) [(1, 1), (1003, 2)] [0, 3, 5, 14, 15, 16] [] (P3 ++ [Z5 = Z3, Z6 = Z3, Z7.take Z7.length ++ Z8 = Z4, Z8.all (fun r => r.all AV.plain) = true, Z4.length * 8 ≤ 140737488355328, Z4.length ≤ 140737488355328, Qac [(1, 1), (1003, 2)] [Z2], Qac [(1, 1), (1003, 2)] Z4]) (Qa6 AP3 ⟨(Qax c10), (Qax c11), (Ql0 o3 hl12), (plD pa3), (Qnv o3 hl12 (by decide)), (Qo0 o3 hl12), (rok (Qb2 t39 a3)), (rok (Qah t3)), trivial⟩) (ih a3 l12 (w64 (v5 + 1)) _ h))
     ·rcases itS h with ⟨c14, h⟩ | ⟨c16, h⟩
      ·obtain ⟨l15, hl15, h⟩ := bnS h
       exact (let Z10 := l15.map o3; gT hP hn hx (H1 ++ [hO 22 Z3, hO 26 Z3, hO 30 Z9, hT 36, hW 39 1004, hh 40 (.app 1005 Z10)]) [(1, 1), (1005, 2)] [0, 3, 5, 14, 15, 16] [] (P3 ++ [Z5 = Z3, Z6 = Z9, (x7.State == 4) = true, Z7.take Z7.length ++ Z8 = Z10, Z8.all (fun r => r.all AV.plain) = true, Z10.length * 8 ≤ 140737488355328, Z10.length ≤ 140737488355328, Qac [(1, 1), (1005, 2)] [Z2], Qac [(1, 1), (1005, 2)] Z10]) (Qa6 AP3 ⟨(Qax c10), (Qax c13), c14, (Ql0 o3 hl15), (plD pa3), (Qnv o3 hl15 (by decide)), (Qo0 o3 hl15), (rok (Qb2 t39 a3)), (rok (Qah t3)), trivial⟩) (ih a3 l15 (w64 (v5 + 1)) _ h))
      ·exact gT hP hn hx (H1 ++ [hO 22 Z3, hO 26 Z3, hO 30 Z9, hF 36]) [(1, 1), (2, 2)] [0, 3, 5, 14, 15, 16] [] (P3 ++ [Z5 = Z3, Z6 = Z9, (x7.State == 4) = false, Qac [(1, 1), (2, 2)] [Z2], Qac [(1, 1), (2, 2)] Z7]) (Qa6 AP3 ⟨(Qax c10), (Qax c13), c16, (rok (Qb2 t39 a3)), (rok (Qah t3)), trivial⟩) (ih a3 a4 (w64 (v5 + 1)) _ h)
    ·exact gT hP hn hx (H1 ++ [hO 22 Z3, hO 26 Z9]) [(1, 1), (2, 2)] [0, 3, 5, 14, 15, 16] [] (P3 ++ [Z5 = Z9, Qac [(1, 1), (2, 2)] [Z2], Qac [(1, 1), (2, 2)] Z7]) (Qa6 AP3 ⟨(Qax c17), (rok (Qb2 t39 a3)), (rok (Qah t3)), trivial⟩) (ih a3 a4 (w64 (v5 + 1)) _ h)
   ·exact gT hP hn hx (H1 ++ [hO 22 Z9]) [(1, 1), (2, 2)] [0, 3, 5, 14, 15, 16] [] (P2 ++ [(B (p1.Fault == 0)) = Z9, Qac [(1, 1), (2, 2)] [Z2], Qac [(1, 1), (2, 2)] Z7]) (Qa6 AP2 ⟨(Qax c18), (rok (Qb2 t39 a3)), (rok (Qah t3)), trivial⟩) (ih a3 a4 (w64 (v5 + 1)) _ h)
  ·obtain rfl := sj h
   exact gR hP hn [hF 1] [] .own [Z1 = false, Qa2 (Z7.take Z7.length) = true, Z7.take Z7.length = Z7, Qa5 Z7 = true] ⟨c19, (Qb5 t3), Qb6, (Qa8 n3), trivial⟩
theorem Qg8 {p1 : Qa1} {p2 : Qag} {W0 W1 W2 : AV} {r : (List Int)} (h : Qd5 p1 p2 = some r) : Qa4 Tryz.prog 89 [(AV.rop ([W0, W1, W2] ++ (r44 p1)) 3), (AV.agg ((r39 p2)))] (AV.own 3 1 (r.map o3)) := by
 refine gM Tryz.func89 53 Xj5 fun E hP hn hx => ?_
 unfold Qd5 at h
 exact (let Z0 := (I (p1.Threads.length : Int)); gT hP hn hx [hW 0 1001, hW 2 1002, hO 8 Z0] [(1001, 1), (1002, 2)] [0, 3, 5, 14, 15, 16] [] [AV.lit (.int .i64 (((p1.Threads.map r70).length : Nat) : Int)) = Z0, Qac [(1001, 1), (1002, 2)] [((r39 p2))], Qac [(1001, 1), (1002, 2)] ([].map o3)] ⟨(Qbw r70), (rok (Qb2 t39 p2)), (rok (Qah t3)), trivial⟩ (Qir (W0 := W0) (W1 := W1) (W2 := W2) hP hn hx p1 FU p2 [] 0 _ h))
noncomputable def Qwx : Code := match Tryz.f206.body with | some c => c | none => .skip
noncomputable def Qcb   (v11 : Bool) : Option (Int × Int) :=
 if v11 = true then
  some (2, 1)
 else
  some (0, 0)
theorem Qd2 {E : Env} (hP : E.pk = pk0 Tryz.prog) (hn : E.n = 21) (hx : FX E [])   (v11 : Bool) (r : (Int × Int)) (h : Qcb  v11 = some r) : WAt E Qwx (FQ (Qes Θ Tryz.f206.results.toList [] [] (AV.tup [(I r.1), (I r.2)]) E)) [true, false, true, false, true, true, true, true, true] ⟨[(14, (B v11))], [], [JJ]⟩ := by
 unfold Qcb at h
 rcases itS h with ⟨c12, h⟩ | ⟨c13, h⟩
 ·obtain rfl := sj h
  exact gR hP hn [hT 0] [] (.agg [.raw, .raw]) [v11 = true, (I 2) = (I 2), Qa3 (I 2) = true, (I 1) = (I 1), Qa3 (I 1) = true] ⟨c12, rfl, rfl, rfl, rfl, trivial⟩
 ·obtain rfl := sj h
  exact gR hP hn [hF 0] [] (.agg [.raw, .raw]) [v11 = false, (I 0) = (I 0), Qa3 (I 0) = true, (I 0) = (I 0), Qa3 (I 0) = true] ⟨c13, rfl, rfl, rfl, rfl, trivial⟩
noncomputable def Qdw  (p1 : GOp) (v7 : Bool) : Option (Int × Int) :=
 if v7 = true then
  some (1, 0)
 else
  if (p1.Code == 4) = true then
   Qcb (p1.Code == 4)
  else
   if (p1.Code == 5) = true then
    Qcb (p1.Code == 5)
   else
    if (p1.Code == 6) = true then
     Qcb (p1.Code == 6)
    else
     if (p1.Code == 7) = true then
      Qcb (p1.Code == 7)
     else
      if (p1.Code == 8) = true then
       Qcb (p1.Code == 8)
      else
       Qcb (p1.Code == 9)
theorem Qhl {E : Env} (hP : E.pk = pk0 Tryz.prog) (hn : E.n = 21) (hx : FX E []) (p1 : GOp)  (v7 : Bool) (r : (Int × Int)) (h : Qdw p1 v7 = some r) : WAt E Qwx (FQ (Qes Θ Tryz.f206.results.toList [] [] (AV.tup [(I r.1), (I r.2)]) E)) [true, false, true, false, true, true, true] ⟨[(5, (I p1.Code)), (10, (B v7))], [], [JJ]⟩ := by
 unfold Qdw at h
 let Z0 := p1.Code == 4; let Z1 := p1.Code == 5; let Z2 := p1.Code == 6; let Z3 := p1.Code == 7; let Z4 := p1.Code == 8
 rcases itS h with ⟨c8, h⟩ | ⟨c9, h⟩
 ·obtain rfl := sj h
  exact gR hP hn [hT 0] [] (.agg [.raw, .raw]) [v7 = true, (I 1) = (I 1), Qa3 (I 1) = true, (I 0) = (I 0), Qa3 (I 0) = true] ⟨c8, rfl, rfl, rfl, rfl, trivial⟩
 ·rcases itS h with ⟨c10, h⟩ | ⟨c14, h⟩
  ·exact gT hP hn hx [hF 0, hT 3] [] [14] [] [v7 = false, Z0 = true] ⟨c9, c10, trivial⟩ (Qd2 hP hn hx Z0 _ h)
  ·let P1 : List Prop := [v7 = false, Z0 = false]
   have AP1 : Qan P1 := ⟨c9, c14, trivial⟩
   rcases itS h with ⟨c15, h⟩ | ⟨c16, h⟩
   ·exact gT hP hn hx [hF 0, hF 3, hT 6] [] [14] [] (P1 ++ [Z1 = true]) (Qa6 AP1 ⟨c15, trivial⟩) (Qd2 hP hn hx Z1 _ h)
   ·rcases itS h with ⟨c17, h⟩ | ⟨c18, h⟩
    ·exact gT hP hn hx [hF 0, hF 3, hF 6, hT 9] [] [14] [] (P1 ++ [Z1 = false, Z2 = true]) (Qa6 AP1 ⟨c16, c17, trivial⟩) (Qd2 hP hn hx Z2 _ h)
    ·rcases itS h with ⟨c19, h⟩ | ⟨c20, h⟩
     ·exact gT hP hn hx [hF 0, hF 3, hF 6, hF 9, hT 12] [] [14] [] (P1 ++ [Z1 = false, Z2 = false, Z3 = true]) (Qa6 AP1 ⟨c16, c18, c19, trivial⟩) (Qd2 hP hn hx Z3 _ h)
     ·rcases itS h with ⟨c21, h⟩ | ⟨c22, h⟩
      ·exact gT hP hn hx [hF 0, hF 3, hF 6, hF 9, hF 12, hT 15] [] [14] [] (P1 ++ [Z1 = false, Z2 = false, Z3 = false, Z4 = true]) (Qa6 AP1 ⟨c16, c18, c20, c21, trivial⟩) (Qd2 hP hn hx Z4 _ h)
      ·exact gT hP hn hx [hF 0, hF 3, hF 6, hF 9, hF 12, hF 15] [] [14] [] (P1 ++ [Z1 = false, Z2 = false, Z3 = false, Z4 = false]) (Qa6 AP1 ⟨c16, c18, c20, c22, trivial⟩) (Qd2 hP hn hx (p1.Code == 9) _ h)
noncomputable def Qe1  (p1 : GOp) (v3 : Bool) : Option (Int × Int) :=
 if v3 = true then
  some (0, 1)
 else
  if (p1.Code == 3) = true then
   Qdw p1 (p1.Code == 3)
  else
   if (p1.Code == 11) = true then
    Qdw p1 (p1.Code == 11)
   else
    Qdw p1 (p1.Code == 15)
theorem Qhi {E : Env} (hP : E.pk = pk0 Tryz.prog) (hn : E.n = 21) (hx : FX E []) (p1 : GOp)  (v3 : Bool) (r : (Int × Int)) (h : Qe1 p1 v3 = some r) : WAt E Qwx (FQ (Qes Θ Tryz.f206.results.toList [] [] (AV.tup [(I r.1), (I r.2)]) E)) [true, false, true, false, true] ⟨[(5, (I p1.Code)), (6, (B v3))], [], [JJ]⟩ := by
 unfold Qe1 at h
 let Z0 := p1.Code == 3; let Z1 := p1.Code == 11
 rcases itS h with ⟨c4, h⟩ | ⟨c5, h⟩
 ·obtain rfl := sj h
  exact gR hP hn [hT 0] [] (.agg [.raw, .raw]) [v3 = true, (I 0) = (I 0), Qa3 (I 0) = true, (I 1) = (I 1), Qa3 (I 1) = true] ⟨c4, rfl, rfl, rfl, rfl, trivial⟩
 ·rcases itS h with ⟨c6, h⟩ | ⟨c23, h⟩
  ·exact gT hP hn hx [hF 0, hT 3] [] [5, 10] [] [v3 = false, Z0 = true] ⟨c5, c6, trivial⟩ (Qhl hP hn hx p1 Z0 _ h)
  ·rcases itS h with ⟨c24, h⟩ | ⟨c25, h⟩
   ·exact gT hP hn hx [hF 0, hF 3, hT 6] [] [5, 10] [] [v3 = false, Z0 = false, Z1 = true] ⟨c5, c23, c24, trivial⟩ (Qhl hP hn hx p1 Z1 _ h)
   ·exact gT hP hn hx [hF 0, hF 3, hF 6] [] [5, 10] [] [v3 = false, Z0 = false, Z1 = false] ⟨c5, c23, c25, trivial⟩ (Qhl hP hn hx p1 (p1.Code == 15) _ h)
noncomputable def Qgh (p1 : GOp) : Option (Int × Int) :=
 if (p1.Code == 1) = true then
  Qe1 p1 (p1.Code == 1)
 else
  if (p1.Code == 2) = true then
   Qe1 p1 (p1.Code == 2)
  else
   Qe1 p1 (p1.Code == 14)
theorem Qmt {p1 : GOp} {r : (Int × Int)} (h : Qgh p1 = some r) : Qa4 Tryz.prog 206 [(AV.agg ((Qbi p1)))] (AV.tup [(I r.1), (I r.2)]) := by
 refine gM Tryz.func206 21 Qwx fun E hP hn hx => ?_
 unfold Qgh at h
 let Z0 := p1.Code == 1; let Z1 := p1.Code == 2
 rcases itS h with ⟨c2, h⟩ | ⟨c26, h⟩
 ·exact gT hP hn hx [hW 0 1001, hT 7] [] [5, 6] [] [Z0 = true] ⟨c2, trivial⟩ (Qhi hP hn hx p1 Z0 _ h)
 ·rcases itS h with ⟨c27, h⟩ | ⟨c28, h⟩
  ·exact gT hP hn hx [hW 0 1001, hF 7, hT 10] [] [5, 6] [] [Z0 = false, Z1 = true] ⟨c26, c27, trivial⟩ (Qhi hP hn hx p1 Z1 _ h)
  ·exact gT hP hn hx [hW 0 1001, hF 7, hF 10] [] [5, 6] [] [Z0 = false, Z1 = false] ⟨c26, c28, trivial⟩ (Qhi hP hn hx p1 (p1.Code == 14) _ h)
noncomputable def Xki : Code := match Tryz.f207.body with | some c => c | none => .skip
noncomputable def Qn0 (p1 : Nat) : Option Bool :=
 Option.bind (Qc0 p1) fun r2 =>
 if (r2 == 0) = true then
  some true
 else
  some (r2 == 2)
theorem Xac {p1 : Nat} {r : Bool} (h : Qn0 p1 = some r) : Qa4 Tryz.prog 207 [(FK p1)] (B r) := by
 refine gM Tryz.func207 12 Xki fun E hP hn hx => ?_
 unfold Qn0 at h
 obtain ⟨r2, hr2, h⟩ := bnS h
 let Z0 := B (r2 == 2)
 rcases itS h with ⟨c3, h⟩ | ⟨c4, h⟩
 ·obtain rfl := sj h
  exact gR hP hn [hh 2 (.callV [] (I r2)), hO 6 (B true)] [] .raw [Qa4 Tryz.prog 226 [(FK p1)] (I r2), Qa3 (I r2) = true, (B (r2 == 0)) = (B true), (B true) = (B true), Qa3 (B true) = true] ⟨(Qlt hr2), rfl, (Qax c3), rfl, rfl, trivial⟩
 ·obtain rfl := sj h
  exact gR hP hn [hh 2 (.callV [] (I r2)), hO 6 (B false)] [] .raw [Qa4 Tryz.prog 226 [(FK p1)] (I r2), Qa3 (I r2) = true, (B (r2 == 0)) = (B false), Z0 = Z0, Qa3 Z0 = true] ⟨(Qlt hr2), rfl, (Qax c4), rfl, rfl, trivial⟩
noncomputable def Xlz : Code := match Tryz.f178.body with | some c => c | none => .skip
noncomputable def Qfs (p1 : Int) : Option Qa0 :=
 some (Qa0.mk p1 0 1 (-1) (-1) [])
theorem Qca {p1 : Int} {r : Qa0} (h : Qfs p1 = some r) : Qa4 Tryz.prog 178 [(I p1)] (AV.agg (o70 r)) := by
 refine gM Tryz.func178 6 Xlz fun E hP hn hx => ?_
 unfold Qfs at h
 obtain rfl := sj h
 exact (let Z0 := I (-1); let Z1 := [].map Qae; gR hP hn [hW 0 1001, hW 2 1002] [] (.agg [.raw, .raw, .raw, .raw, .raw, .own]) [(I p1) = (I p1), Qa3 (I p1) = true, (I 0) = (I 0), Qa3 (I 0) = true, (I 1) = (I 1), Qa3 (I 1) = true, Z0 = Z0, Qa3 Z0 = true, Z0 = Z0, Qa3 Z0 = true, Qa2 (Z1.take Z1.length) = true, Z1.take Z1.length = Z1, Qa5 Z1 = true] ⟨rfl, rfl, rfl, rfl, rfl, rfl, rfl, rfl, rfl, rfl, (Qb5 Qc3), Qb6, (Qa8 Qer), trivial⟩)
noncomputable def Xly : Code := match Tryz.f157.body with | some c => c | none => .skip
noncomputable def Qe5 (p1 : Bool) : Option Int :=
 if p1 = true then
  some 1
 else
  some 0
theorem Ql1 {p1 : Bool} {r : Int} (h : Qe5 p1 = some r) : Qa4 Tryz.prog 157 [(B p1)] (I r) := by
 refine gM Tryz.func157 4 Xly fun E hP hn hx => ?_
 unfold Qe5 at h
 rcases itS h with ⟨c2, h⟩ | ⟨c3, h⟩
 ·obtain rfl := sj h
  exact gR hP hn [hT 2] [] .raw [p1 = true, (I 1) = (I 1), Qa3 (I 1) = true] ⟨c2, rfl, rfl, trivial⟩
 ·obtain rfl := sj h
  exact gR hP hn [hF 2] [] .raw [p1 = false, (I 0) = (I 0), Qa3 (I 0) = true] ⟨c3, rfl, rfl, trivial⟩
noncomputable def Xjy : Code := match Tryz.f210.body with | some c => c | none => .skip
noncomputable def Qk4 (p1 : Int) (p2 : Nat) (p3 : Nat) : Option Nat :=
 if (p1 == 4) = true then
  some (fad p2 p3)
 else
  if (p1 == 5) = true then
   some (fsb p2 p3)
  else
   if (p1 == 6) = true then
    some (fml p2 p3)
   else
    if (p1 == 7) = true then
     some (fdv p2 p3)
    else
     if (p1 == 8) = true then
      Option.bind (Qe5 ((Qc7 p2 p3) == some .lt)) fun r13 =>
      some (fOf r13)
     else
      Option.bind (Qcy p2 p3) fun r15 =>
      Option.bind (Qe5 r15) fun r16 =>
      some (fOf r16)
theorem Qxf {p1 : Int} {p2 : Nat} {p3 : Nat} {r : Nat} (h : Qk4 p1 p2 p3 = some r) : Qa4 Tryz.prog 210 [(I p1), (FK p2), (FK p3)] (FK r) := by
 refine gM Tryz.func210 40 Xjy fun E hP hn hx => ?_
 unfold Qk4 at h
 let Z0 := fad p2 p3; let Z1 := fsb p2 p3; let Z2 := fml p2 p3; let Z3 := fdv p2 p3
 rcases itS h with ⟨c4, h⟩ | ⟨c5, h⟩
 ·obtain rfl := sj h
  exact gR hP hn [hT 4, hh 7 (.bin (FK Z0))] [] .raw [(p1 == 4) = true, Qfu Tryz.prog .add 132 (FK p2) (FK p3) (FK Z0), (FK Z0) = (FK Z0), Qa3 (FK Z0) = true] ⟨c4, fAdd, rfl, rfl, trivial⟩
 ·rcases itS h with ⟨c6, h⟩ | ⟨c7, h⟩
  ·obtain rfl := sj h
   exact gR hP hn [hF 4, hT 7, hh 10 (.bin (FK Z1))] [] .raw [(p1 == 4) = false, (p1 == 5) = true, Qfu Tryz.prog .sub 132 (FK p2) (FK p3) (FK Z1), (FK Z1) = (FK Z1), Qa3 (FK Z1) = true] ⟨c5, c6, fSub, rfl, rfl, trivial⟩
  ·let P1 : List Prop := [(p1 == 4) = false, (p1 == 5) = false]
   have AP1 : Qan P1 := ⟨c5, c7, trivial⟩
   rcases itS h with ⟨c8, h⟩ | ⟨c9, h⟩
   ·obtain rfl := sj h
    exact gR hP hn [hF 4, hF 7, hT 10, hh 13 (.bin (FK Z2))] [] .raw (P1 ++ [(p1 == 6) = true, Qfu Tryz.prog .mul 132 (FK p2) (FK p3) (FK Z2), (FK Z2) = (FK Z2), Qa3 (FK Z2) = true]) (Qa6 AP1 ⟨c8, fMul, rfl, rfl, trivial⟩)
   ·rcases itS h with ⟨c10, h⟩ | ⟨c11, h⟩
    ·obtain rfl := sj h
     exact gR hP hn [hF 4, hF 7, hF 10, hT 13, hh 16 (.bin (FK Z3))] [] .raw (P1 ++ [(p1 == 6) = false, (p1 == 7) = true, Qfu Tryz.prog .quo 132 (FK p2) (FK p3) (FK Z3), (FK Z3) = (FK Z3), Qa3 (FK Z3) = true]) (Qa6 AP1 ⟨c9, c10, Xo0, rfl, rfl, trivial⟩)
    ·rcases itS h with ⟨c12, h⟩ | ⟨c14, h⟩
     ·obtain ⟨r13, hr13, h⟩ := bnS h
      obtain rfl := sj h
      exact (let Z4 := fOf r13; gR hP hn [hF 4, hF 7, hF 10, hF 13, hT 16, hh 19 (.bin (B ((Qc7 p2 p3) == some .lt))), hh 20 (.callV [] (I r13)), hh 21 (.cnv (FK Z4))] [] .raw (P1 ++ [(p1 == 6) = false, (p1 == 7) = false, (p1 == 8) = true, Qfu Tryz.prog .lss 132 (FK p2) (FK p3) (B ((Qc7 p2 p3) == some .lt)), Qa4 Tryz.prog 157 [(B ((Qc7 p2 p3) == some .lt))] (I r13), Qa3 (I r13) = true, Qy6 Tryz.prog 3 132 (I r13) (FK Z4), (FK Z4) = (FK Z4), Qa3 (FK Z4) = true]) (Qa6 AP1 ⟨c9, c11, c12, Xj8, (Ql1 hr13), rfl, (cIF (P := Tryz.prog) ty3 Qpq), rfl, rfl, trivial⟩))
     ·obtain ⟨r15, hr15, h⟩ := bnS h
      obtain ⟨r16, hr16, h⟩ := bnS h
      obtain rfl := sj h
      exact (let Z5 := fOf r16; gR hP hn [hF 4, hF 7, hF 10, hF 13, hF 16, hh 19 (.callV [] (B r15)), hh 20 (.callV [] (I r16)), hh 21 (.cnv (FK Z5))] [] .raw (P1 ++ [(p1 == 6) = false, (p1 == 7) = false, (p1 == 8) = false, Qa4 Tryz.prog 112 [(FK p2), (FK p3)] (B r15), Qa3 (B r15) = true, Qa4 Tryz.prog 157 [(B r15)] (I r16), Qa3 (I r16) = true, Qy6 Tryz.prog 3 132 (I r16) (FK Z5), (FK Z5) = (FK Z5), Qa3 (FK Z5) = true]) (Qa6 AP1 ⟨c9, c11, c14, (Qfo hr15), rfl, (Ql1 hr16), rfl, (cIF (P := Tryz.prog) ty3 Qpq), rfl, rfl, trivial⟩))
noncomputable def Xju : Code := match Tryz.f209.body with | some c => c | none => .skip
noncomputable def Qfz (p1 : Qa0) (p2 : GOp) : Option Bool :=
 if (p1.State == 3) = true then
  some (p1.Cond == p2.A)
 else
  some false
theorem Qqu {p1 : Qa0} {p2 : GOp} {r : Bool} (h : Qfz p1 p2 = some r) : Qa4 Tryz.prog 209 [(AV.agg ((r70 p1))), (AV.rop (Qbi p2) 0)] (B r) := by
 refine gM Tryz.func209 14 Xju fun E hP hn hx => ?_
 unfold Qfz at h
 let Z0 := B (p1.Cond == p2.A); let Z1 := B false
 rcases itS h with ⟨c3, h⟩ | ⟨c4, h⟩
 ·obtain rfl := sj h
  exact gR hP hn [hW 0 1001, hO 5 (B true)] [] .raw [(B (p1.State == 3)) = (B true), Z0 = Z0, Qa3 Z0 = true] ⟨(Qax c3), rfl, rfl, trivial⟩
 ·obtain rfl := sj h
  exact gR hP hn [hW 0 1001, hO 5 Z1] [] .raw [(B (p1.State == 3)) = Z1, Z1 = Z1, Qa3 Z1 = true] ⟨(Qax c4), rfl, rfl, trivial⟩
noncomputable def Qt0 : Code := match Tryz.f172.body with | some c => c | none => .skip
noncomputable def Qad  (p1 : (List Qa0)) (p2 : GOp) : Nat → Int → Option Int
 | 0, _ => none
 | n + 1, v3 =>
 if (decide (v3 < (p1.length : Int))) = true then
  Option.bind (rd p1 v3) fun x5 =>
  Option.bind (Qfz x5 p2) fun r6 =>
  if r6 = true then
   some v3
  else
   Qad p1 p2 n (w64 (v3 + 1))
 else
  some (-1)
theorem Qdk {E : Env} (hP : E.pk = pk0 Tryz.prog) (hn : E.n = 19) (hx : FX E []) (p1 : (List Qa0)) (p2 : GOp)  : ∀ (n : Nat) (v3 : Int) (r : Int), Qad p1 p2 n v3 = some r → WAt E Qt0 (FQ (Qes Θ Tryz.f172.results.toList [] [] (I r) E)) [true, false, true, false] ⟨[(0, (AV.ro 6 (p1.map r70))), (1, (AV.fn 209 [(AV.rop (Qbi p2) 0)])), (7, (I (p1.length : Int))), (8, (I v3))], [], [JJ]⟩ := by
 intro n
 induction n with
 | zero => intro v3 r h; simp only [Qad] at h; cases h
 | succ n ih =>
  intro v3 r h
  simp only [Qad] at h
  let Z0 := (decide (v3 < (p1.length : Int)))
  rcases itS h with ⟨c4, h⟩ | ⟨c9, h⟩
  ·obtain ⟨x5, hx5, h⟩ := bnS h
   obtain ⟨r6, hr6, h⟩ := bnS h
   let P1 : List Prop := [Z0 = true, (0 : Int) ≤ v3, (p1.map r70)[v3.toNat]? = some (r70 x5), Qa4 Tryz.prog 209 [(AV.agg ((r70 x5))), (AV.rop (Qbi p2) 0)] (B r6), Qa3 (B r6) = true]
   have AP1 : Qan P1 := ⟨c4, (rd0 hx5), (rdM r70 hx5), (Qqu hr6), rfl, trivial⟩
   rcases itS h with ⟨c7, h⟩ | ⟨c8, h⟩
   ·obtain rfl := sj h
    exact gR hP hn [hT 1, hh 7 (.row (r70 x5)), hh 9 (.callV [[]] (B r6)), hT 10] [] .raw (P1 ++ [r6 = true, (I v3) = (I v3), Qa3 (I v3) = true]) (Qa6 AP1 ⟨c7, rfl, rfl, trivial⟩)
   ·exact gT hP hn hx [hT 1, hh 7 (.row (r70 x5)), hh 9 (.callV [[]] (B r6)), hF 10] [] [0, 1, 7, 8] [] (P1 ++ [r6 = false]) (Qa6 AP1 ⟨c8, trivial⟩) (ih (w64 (v3 + 1)) _ h)
  ·obtain rfl := sj h
   exact gR hP hn [hF 1] [] .raw [Z0 = false, (I (-1)) = (I (-1)), Qa3 (I (-1)) = true] ⟨c9, rfl, rfl, trivial⟩
noncomputable def Qau (p1 : (List Qa0)) (p2 : GOp) : Option Int :=
 Qad p1 p2 FU 0
theorem Qdv {p1 : (List Qa0)} {p2 : GOp} {r : Int} (h : Qau p1 p2 = some r) : Qa4 Tryz.prog 172 [(AV.ro 6 (p1.map r70)), (AV.fn 209 [(AV.rop (Qbi p2) 0)])] (I r) := by
 refine gM Tryz.func172 19 Qt0 fun E hP hn hx => ?_
 unfold Qau at h
 exact (let Z0 := (I (p1.length : Int)); gT hP hn hx [hO 2 Z0] [] [0, 1, 7, 8] [] [AV.lit (.int .i64 (((p1.map r70).length : Nat) : Int)) = Z0] ⟨(Qbw r70), trivial⟩ (Qdk hP hn hx p1 p2 FU 0 _ h))
noncomputable def Qav (p1 : Qa1) (p2 : Int) (p3 : GOp) (p4 : Qab) : Option (Qab × Qa1) :=
 Option.bind (rd p1.Threads p2) fun x5 =>
 Option.bind (Qgh p3) fun r6 =>
 Option.bind (slc x5.Stack (w64 ((x5.Stack.length : Int) - r6.1)) (x5.Stack.length : Int)) fun l7 =>
 Option.bind (Qba l7) fun r8 =>
 Option.bind (slc x5.Stack 0 (w64 ((x5.Stack.length : Int) - r6.1))) fun l9 =>
 if (p3.Code == 1) = true then
  Option.bind (app l9 [p3.V]) fun l11 =>
  some (p4, (Qa1.mk (((p1.Threads.set (Int.toNat p2) (Qa0.mk x5.Routine x5.Pc x5.State x5.Cond x5.Lock l9)).set (Int.toNat p2) (Qa0.mk x5.Routine (w64 (x5.Pc + 1)) x5.State x5.Cond x5.Lock l9)).set (Int.toNat p2) (Qa0.mk x5.Routine (w64 (x5.Pc + 1)) x5.State x5.Cond x5.Lock l11)) p1.Cells p1.Owner p1.Fault))
 else
  if (p3.Code == 2) = true then
   Option.bind (rd p1.Cells p3.A) fun x14 =>
   Option.bind (app l9 [x14]) fun l15 =>
   some ((Qab.mk p4.Thread 2 p3.A p4.Lock p4.Pc), (Qa1.mk (((p1.Threads.set (Int.toNat p2) (Qa0.mk x5.Routine x5.Pc x5.State x5.Cond x5.Lock l9)).set (Int.toNat p2) (Qa0.mk x5.Routine (w64 (x5.Pc + 1)) x5.State x5.Cond x5.Lock l9)).set (Int.toNat p2) (Qa0.mk x5.Routine (w64 (x5.Pc + 1)) x5.State x5.Cond x5.Lock l15)) p1.Cells p1.Owner p1.Fault))
  else
   if (p3.Code == 3) = true then
    Option.bind (rd r8 0) fun x18 =>
    Option.bind (rd p1.Cells p3.A) fun x19 =>
    some ((Qab.mk p4.Thread 3 p3.A p4.Lock p4.Pc), (Qa1.mk ((p1.Threads.set (Int.toNat p2) (Qa0.mk x5.Routine x5.Pc x5.State x5.Cond x5.Lock l9)).set (Int.toNat p2) (Qa0.mk x5.Routine (w64 (x5.Pc + 1)) x5.State x5.Cond x5.Lock l9)) (p1.Cells.set (Int.toNat p3.A) x18) p1.Owner p1.Fault))
   else
    if (p3.Code == 10) = true then
     some (p4, (Qa1.mk ((p1.Threads.set (Int.toNat p2) (Qa0.mk x5.Routine x5.Pc x5.State x5.Cond x5.Lock l9)).set (Int.toNat p2) (Qa0.mk x5.Routine p3.A x5.State x5.Cond x5.Lock l9)) p1.Cells p1.Owner p1.Fault))
    else
     if (p3.Code == 11) = true then
      Option.bind (rd r8 0) fun x24 =>
      Option.bind (Qn0 x24) fun r33 =>
      if r33 = true then
       some (p4, (Qa1.mk ((p1.Threads.set (Int.toNat p2) (Qa0.mk x5.Routine x5.Pc x5.State x5.Cond x5.Lock l9)).set (Int.toNat p2) (Qa0.mk x5.Routine p3.A x5.State x5.Cond x5.Lock l9)) p1.Cells p1.Owner p1.Fault))
      else
       some (p4, (Qa1.mk ((p1.Threads.set (Int.toNat p2) (Qa0.mk x5.Routine x5.Pc x5.State x5.Cond x5.Lock l9)).set (Int.toNat p2) (Qa0.mk x5.Routine (w64 (x5.Pc + 1)) x5.State x5.Cond x5.Lock l9)) p1.Cells p1.Owner p1.Fault))
     else
      if (p3.Code == 12) = true then
       Option.bind (rd p1.Owner p3.A) fun x38 =>
       some ((Qab.mk p4.Thread 4 p3.A p4.Lock p4.Pc), (Qa1.mk ((p1.Threads.set (Int.toNat p2) (Qa0.mk x5.Routine x5.Pc x5.State x5.Cond x5.Lock l9)).set (Int.toNat p2) (Qa0.mk x5.Routine (w64 (x5.Pc + 1)) x5.State x5.Cond x5.Lock l9)) p1.Cells (p1.Owner.set (Int.toNat p3.A) p2) p1.Fault))
      else
       if (p3.Code == 13) = true then
        Option.bind (rd p1.Owner p3.A) fun x41 =>
        some ((Qab.mk p4.Thread 5 p3.A p4.Lock p4.Pc), (Qa1.mk ((p1.Threads.set (Int.toNat p2) (Qa0.mk x5.Routine x5.Pc x5.State x5.Cond x5.Lock l9)).set (Int.toNat p2) (Qa0.mk x5.Routine (w64 (x5.Pc + 1)) x5.State x5.Cond x5.Lock l9)) p1.Cells (p1.Owner.set (Int.toNat p3.A) (-1)) p1.Fault))
       else
        if (p3.Code == 14) = true then
         Option.bind (app l9 [(fOf (((p1.Threads.set (Int.toNat p2) (Qa0.mk x5.Routine x5.Pc x5.State x5.Cond x5.Lock l9)).set (Int.toNat p2) (Qa0.mk x5.Routine (w64 (x5.Pc + 1)) x5.State x5.Cond x5.Lock l9)).length : Int))]) fun l44 =>
         Option.bind (Qfs p3.A) fun r47 =>
         Option.bind (app (((p1.Threads.set (Int.toNat p2) (Qa0.mk x5.Routine x5.Pc x5.State x5.Cond x5.Lock l9)).set (Int.toNat p2) (Qa0.mk x5.Routine (w64 (x5.Pc + 1)) x5.State x5.Cond x5.Lock l9)).set (Int.toNat p2) (Qa0.mk x5.Routine (w64 (x5.Pc + 1)) x5.State x5.Cond x5.Lock l44)) [(Qa0.mk r47.Routine r47.Pc r47.State r47.Cond r47.Lock r47.Stack)]) fun l48 =>
         some ((Qab.mk p4.Thread 6 (((p1.Threads.set (Int.toNat p2) (Qa0.mk x5.Routine x5.Pc x5.State x5.Cond x5.Lock l9)).set (Int.toNat p2) (Qa0.mk x5.Routine (w64 (x5.Pc + 1)) x5.State x5.Cond x5.Lock l9)).length : Int) p4.Lock p4.Pc), (Qa1.mk l48 p1.Cells p1.Owner p1.Fault))
        else
         if (p3.Code == 15) = true then
          Option.bind (rd r8 0) fun x51 =>
          Option.bind (Qf6 x51 (((p1.Threads.set (Int.toNat p2) (Qa0.mk x5.Routine x5.Pc x5.State x5.Cond x5.Lock l9)).set (Int.toNat p2) (Qa0.mk x5.Routine (w64 (x5.Pc + 1)) x5.State x5.Cond x5.Lock l9)).length : Int)) fun r52 =>
          some ((Qab.mk p4.Thread 7 r52.1 p4.Lock p4.Pc), (Qa1.mk ((p1.Threads.set (Int.toNat p2) (Qa0.mk x5.Routine x5.Pc x5.State x5.Cond x5.Lock l9)).set (Int.toNat p2) (Qa0.mk x5.Routine (w64 (x5.Pc + 1)) x5.State x5.Cond x5.Lock l9)) p1.Cells p1.Owner p1.Fault))
         else
          if (p3.Code == 16) = true then
           Option.bind (rd p1.Owner p3.B) fun x55 =>
           some ((Qab.mk p4.Thread 8 p3.A p3.B p4.Pc), (Qa1.mk ((p1.Threads.set (Int.toNat p2) (Qa0.mk x5.Routine x5.Pc x5.State x5.Cond x5.Lock l9)).set (Int.toNat p2) (Qa0.mk x5.Routine (w64 ((w64 (x5.Pc + 1)) - 1)) 3 p3.A p3.B l9)) p1.Cells (p1.Owner.set (Int.toNat p3.B) (-1)) p1.Fault))
          else
           if (p3.Code == 17) = true then
            Option.bind (Qau ((p1.Threads.set (Int.toNat p2) (Qa0.mk x5.Routine x5.Pc x5.State x5.Cond x5.Lock l9)).set (Int.toNat p2) (Qa0.mk x5.Routine (w64 (x5.Pc + 1)) x5.State x5.Cond x5.Lock l9)) p3) fun r58 =>
            if (decide (r58 ≥ 0)) = true then
             Option.bind (rd ((p1.Threads.set (Int.toNat p2) (Qa0.mk x5.Routine x5.Pc x5.State x5.Cond x5.Lock l9)).set (Int.toNat p2) (Qa0.mk x5.Routine (w64 (x5.Pc + 1)) x5.State x5.Cond x5.Lock l9)) r58) fun x60 =>
             some ((Qab.mk p4.Thread 10 p3.A r58 p4.Pc), (Qa1.mk (((p1.Threads.set (Int.toNat p2) (Qa0.mk x5.Routine x5.Pc x5.State x5.Cond x5.Lock l9)).set (Int.toNat p2) (Qa0.mk x5.Routine (w64 (x5.Pc + 1)) x5.State x5.Cond x5.Lock l9)).set (Int.toNat r58) (Qa0.mk x60.Routine x60.Pc 4 x60.Cond x60.Lock x60.Stack)) p1.Cells p1.Owner p1.Fault))
            else
             some ((Qab.mk p4.Thread 10 p3.A r58 p4.Pc), (Qa1.mk ((p1.Threads.set (Int.toNat p2) (Qa0.mk x5.Routine x5.Pc x5.State x5.Cond x5.Lock l9)).set (Int.toNat p2) (Qa0.mk x5.Routine (w64 (x5.Pc + 1)) x5.State x5.Cond x5.Lock l9)) p1.Cells p1.Owner p1.Fault))
           else
            Option.bind (rd r8 0) fun x63 =>
            Option.bind (rd r8 1) fun x64 =>
            Option.bind (Qk4 p3.Code x63 x64) fun r65 =>
            Option.bind (app l9 [r65]) fun l66 =>
            some (p4, (Qa1.mk (((p1.Threads.set (Int.toNat p2) (Qa0.mk x5.Routine x5.Pc x5.State x5.Cond x5.Lock l9)).set (Int.toNat p2) (Qa0.mk x5.Routine (w64 (x5.Pc + 1)) x5.State x5.Cond x5.Lock l9)).set (Int.toNat p2) (Qa0.mk x5.Routine (w64 (x5.Pc + 1)) x5.State x5.Cond x5.Lock l66)) p1.Cells p1.Owner p1.Fault))
noncomputable def Xkd : Code := match Tryz.f166.body with | some c => c | none => .skip
theorem Qmh {p1 : Qa1} {p2 : Int} {p3 : GOp} {p4 : Qab} {V0 V1 V2 : Value} {r : (Qab × Qa1)} (h : Qav p1 p2 p3 p4 = some r) : Qpf Tryz.prog 166 [⟨46, 7, [([(AV.lit V0), (AV.lit V1), (AV.lit V2)] ++ (o44 p1))]⟩] [(AV.ptr 0 0 3), (I p2), (AV.agg ((Qbi p3))), (AV.agg ((o60 p4)))] [true] [⟨46, 7, [([(AV.lit V0), (AV.lit V1), (AV.lit V2)] ++ (o44 r.2))]⟩] (AV.agg (o60 r.1)) := by
 refine Qp9 Xd2 Tryz.func166 rfl (c := Xkd) (by kernel_rfl) (Nat.le_of_ble_eq_true rfl) rfl (Nat.le_of_ble_eq_true rfl) rfl (fr := [0]) (frI rfl) ?_
 intro E hP hn hx
 replace hn : E.n = 285 := hn
 unfold Qav at h
 obtain ⟨x5, hx5, h⟩ := bnS h
 obtain ⟨r6, hr6, h⟩ := bnS h
 obtain ⟨l7, hl7, h⟩ := bnS h
 obtain ⟨r8, hr8, h⟩ := bnS h
 obtain ⟨l9, hl9, h⟩ := bnS h
 let Z0 := AV.lit V0; let Z1 := AV.lit V1; let Z2 := AV.lit V2; let Z3 := [Z0, Z1, Z2]; let Z4 := Z3 ++ (o44 p1); let Z5 := p1.Threads.map o70; let Z6 := AV.sl 1004 0 Z5.length; let Z7 := p1.Cells.map Qae; let Z8 := AV.own 132 1 Z7; let Z9 := p1.Owner.map o3; let Z10 := AV.own 3 1 Z9; let Z11 := I p1.Fault; let Z12 := [Z0, Z1, Z2, Z6, Z8, Z10, Z11]; let Z13 := [Z12]; let Z14 := AV.tup [(I r6.1), (I r6.2)]; let Z15 := o70 x5; let Z16 := x5.Stack.map Qae; let Z17 := I x5.Routine; let Z18 := I x5.State; let Z19 := I x5.Cond; let Z20 := I x5.Lock; let Z21 := AV.sl 1005 0 Z16.length; let Z22 := [Z17, (I x5.Pc), Z18, Z19, Z20, Z21]; let Z23 := Z5.set p2.toNat Z22; let Z24 := (x5.Stack.length : Int); let Z25 := l7.map Qae; let Z26 := r8.map Qae; let Z27 := AV.own 132 1 Z26; let Z28 := [Z17, (I x5.Pc), Z18, Z19, Z20, AV.dead]; let Z29 := Z5.set p2.toNat Z28; let Z30 := l9.map Qae; let Z31 := AV.sl 1007 0 Z30.length; let Z32 := [Z17, (I x5.Pc), Z18, Z19, Z20, Z31]; let Z33 := Z5.set p2.toNat Z32; let Z34 := p1.Threads.set p2.toNat (Qa0.mk x5.Routine x5.Pc x5.State x5.Cond x5.Lock l9); let Z35 := Z34.map o70; let Z36 := AV.own 132 1 Z30; let Z37 := [Z17, (I x5.Pc), Z18, Z19, Z20, Z36]; let Z38 := x5.Pc + 1; let Z39 := w64 Z38; let Z40 := Z34.set p2.toNat (Qa0.mk x5.Routine Z39 x5.State x5.Cond x5.Lock l9); let Z41 := Z40.map o70; let Z42 := ((Z16.length : Nat) : Int); let Z43 := w64 (Z24 - r6.1); let Z44 := I Z39; let Z45 := Qa0.mk x5.Routine x5.Pc x5.State x5.Cond x5.Lock l9; let Z46 := [Z17, Z44, Z18, Z19, Z20, Z36]; let Z47 := AV.sl 1008 0 Z30.length; let Z48 := [Z17, Z44, Z18, Z19, Z20, Z47]; let Z49 := Z41.set p2.toNat Z48; let Z57 := (([p3.V].map Qae).drop 0).take ([p3.V].map Qae).length; let Z58 := AV.ptr 1004 p2.toNat 0; let Z59 := AV.ptr 1004 p2.toNat 5; let Z61 := AV.agg ((o60 p4)); let Z62 := Qa0.mk x5.Routine (w64 Z38) x5.State x5.Cond x5.Lock l9; let Z64 := AV.sl 1011 0 Z30.length; let Z65 := [Z17, Z44, Z18, Z19, Z20, Z64]; let Z66 := Z41.set p2.toNat Z65; let Z67 := AV.sl 1004 0 Z66.length; let Z68 := [Z0, Z1, Z2, Z67, Z8, Z10, Z11]; let Z69 := AV.sl 1012 0 Z7.length; let Z70 := [Z0, Z1, Z2, Z67, Z69, Z10, Z11]; let Z80 := AV.ptr 1001 0 1; let Z81 := I p3.A; let Z82 := AV.ptr 1002 0 1; let Z83 := I p4.Thread; let Z84 := I p4.Obj; let Z85 := I p4.Lock; let Z86 := I p4.Pc; let Z87 := Qas.mk 60 5 [[Z83, (I 2), Z84, Z85, Z86]]; let Z88 := ((Z7.length : Nat) : Int); let Z91 := AV.agg [Z83, (I 2), Z81, Z85, Z86]; let Z93 := AV.sl 1004 0 Z41.length; let Z94 := [Z0, Z1, Z2, Z93, Z8, Z10, Z11]; let Z95 := [Z94]; let Z96 := AV.sl 1015 0 Z7.length; let Z97 := [Z0, Z1, Z2, Z93, Z96, Z10, Z11]; let Z100 := AV.own 70 6 Z41; let Z101 := [Z0, Z1, Z2, Z100, Z96, Z10, Z11]; let Z103 := Qas.mk 60 5 [[Z83, (I 3), Z84, Z85, Z86]]; let Z104 := ((Z26.length : Nat) : Int); let Z106 := AV.agg [Z83, (I 3), Z81, Z85, Z86]; let Z108 := Z34.set p2.toNat (Qa0.mk x5.Routine p3.A x5.State x5.Cond x5.Lock l9); let Z109 := Z108.map o70; let Z110 := [[Z0, Z1, Z2, (AV.own 70 6 Z109), Z8, Z10, Z11]]; let Z111 := AV.sl 1004 0 Z109.length; let Z112 := Z12.set 3 (AV.own 70 6 Z109); let Z113 := Z3 ++ (o44 (Qa1.mk Z108 p1.Cells p1.Owner p1.Fault)); let Z114 := Qa1.mk Z108 p1.Cells p1.Owner p1.Fault; let Z115 := [[Z0, Z1, Z2, Z100, Z8, Z10, Z11]]; let Z116 := Z3 ++ (o44 (Qa1.mk Z40 p1.Cells p1.Owner p1.Fault)); let Z117 := Qa1.mk Z40 p1.Cells p1.Owner p1.Fault; let Z118 := AV.sl 1016 0 Z9.length; let Z119 := [Z0, Z1, Z2, Z93, Z8, Z118, Z11]; let Z120 := p1.Owner.set p3.A.toNat p2; let Z121 := Z120.map o3; let Z122 := [Z0, Z1, Z2, Z100, Z8, Z118, Z11]; let Z123 := [[Z0, Z1, Z2, Z100, Z8, (AV.own 3 1 Z121), Z11]]; let Z124 := Qas.mk 60 5 [[Z83, (I 4), Z84, Z85, Z86]]; let Z125 := ((Z9.length : Nat) : Int); let Z126 := Z3 ++ (o44 (Qa1.mk Z40 p1.Cells Z120 p1.Fault)); let Z127 := AV.agg [Z83, (I 4), Z81, Z85, Z86]; let Z128 := Qa1.mk Z40 p1.Cells Z120 p1.Fault; let Z129 := AV.sl 1017 0 Z9.length; let Z130 := [Z0, Z1, Z2, Z93, Z8, Z129, Z11]; let Z131 := p1.Owner.set p3.A.toNat (-1); let Z132 := Z131.map o3; let Z133 := [Z0, Z1, Z2, Z100, Z8, Z129, Z11]; let Z134 := [[Z0, Z1, Z2, Z100, Z8, (AV.own 3 1 Z132), Z11]]; let Z135 := Qas.mk 60 5 [[Z83, (I 5), Z84, Z85, Z86]]; let Z136 := [(I (-1))]; let Z137 := Z3 ++ (o44 (Qa1.mk Z40 p1.Cells Z131 p1.Fault)); let Z138 := AV.agg [Z83, (I 5), Z81, Z85, Z86]; let Z139 := Qa1.mk Z40 p1.Cells Z131 p1.Fault; let Z140 := (I (Z40.length : Int)); let Z141 := AV.sl 1018 0 Z30.length; let Z142 := [Z17, Z44, Z18, Z19, Z20, Z141]; let Z143 := Z41.set p2.toNat Z142; let Z144 := [[Z0, Z1, Z2, (AV.sl 1004 0 Z143.length), Z8, Z10, Z11]]; let Z145 := (fOf (Z40.length : Int)); let Z162 := AV.ptr 0 0 3; let Z163 := ((Z41.length : Nat) : Int); let Z164 := Qas.mk 60 5 [[Z83, (I 6), Z84, Z85, Z86]]; let Z165 := (([Z145].map Qae).drop 0).take ([Z145].map Qae).length; let Z167 := AV.agg [Z83, (I 6), Z140, Z85, Z86]; let Z171 := p3.Code == 15; let Z172 := AV.sl 1006 0 Z26.length; let Z173 := AV.ptr 1006 (Int.toNat 0) 0; let Z174 := AV.ptr 1002 0 2; let Z178 := AV.sl 1024 0 Z9.length; let Z179 := [Z0, Z1, Z2, Z93, Z8, Z178, Z11]; let Z180 := p1.Owner.set p3.B.toNat (-1); let Z181 := Z180.map o3; let Z182 := w64 (Z39 - 1); let Z183 := (Z34.set p2.toNat (Qa0.mk x5.Routine Z182 x5.State x5.Cond x5.Lock l9)).map o70; let Z184 := [Z17, (I Z182), Z18, Z19, Z20, Z36]; let Z185 := (Z34.set p2.toNat (Qa0.mk x5.Routine Z182 3 x5.Cond x5.Lock l9)).map o70; let Z186 := [Z17, (I Z182), (I 3), Z19, Z20, Z36]; let Z187 := (Z34.set p2.toNat (Qa0.mk x5.Routine Z182 3 p3.A x5.Lock l9)).map o70; let Z188 := [Z17, (I Z182), (I 3), Z81, Z20, Z36]; let Z189 := Z34.set p2.toNat (Qa0.mk x5.Routine Z182 3 p3.A p3.B l9); let Z190 := Z189.map o70; let Z191 := AV.own 70 6 Z190; let Z192 := [Z0, Z1, Z2, Z191, Z8, Z178, Z11]; let Z193 := [[Z0, Z1, Z2, Z191, Z8, (AV.own 3 1 Z181), Z11]]; let Z194 := AV.ptr 1001 0 2; let Z195 := I p3.B; let Z196 := Qas.mk 60 5 [[Z83, (I 8), Z84, Z85, Z86]]; let Z197 := Qas.mk 60 5 [[Z83, (I 8), Z81, Z85, Z86]]; let Z198 := AV.ptr 1004 p2.toNat 2; let Z199 := AV.ptr 1004 p2.toNat 3; let Z200 := Z3 ++ (o44 (Qa1.mk Z189 p1.Cells Z180 p1.Fault)); let Z201 := AV.agg [Z83, (I 8), Z81, Z195, Z86]; let Z202 := Qa1.mk Z189 p1.Cells Z180 p1.Fault; let Z203 := Z40.map r70; let Z204 := Qas.mk 60 5 [[Z83, (I 10), Z84, Z85, Z86]]; let Z212 := AV.sl 1025 0 Z30.length; let Z213 := [Z17, Z44, Z18, Z19, Z20, Z212]; let Z214 := Z41.set p2.toNat Z213
 let H1 : List Hn := [hW 0 1001, hW 1 1002, hW 2 1003, hh 6 (.unpack 0 1004 0 3 Z4 70 6 Z5 Z13), hh 11 (.callV [[]] Z14), hh 20 (.unpack 1004 1005 p2.toNat 5 Z15 132 1 Z16 Z23), hh 20 (.row Z22), hO 21 (I Z24), hh 28 (.row Z22), hh 31 (.call [Z25] Z27 [1006]), hh 37 (.row Z22), hh 39 (.fgt 1004 p2.toNat 5 Z22 Z29), hh 39 (.shr 1007 Z30), hh 42 (.sto Z28 Z33), hh 46 (.row Z32), hh 50 (.pack 1004 1007 p2.toNat 5 Z32 Z35), hh 50 (.sto Z37 Z41)]
 let P2 : List Prop := [[Z4][0]? = some Z4, Z4[3]? = some (AV.own 70 6 Z5), 0 < 6, [Z4].set 0 (Z4.set 3 Z6) = Z13, (0 : Int) ≤ p2, p2 < ((Z5.length : Nat) : Int), Qa4 Tryz.prog 206 [(AV.agg ((Qbi p3)))] Z14, Qa3 Z14 = true, Z5[p2.toNat]? = some Z15, Z15[5]? = some (AV.own 132 1 Z16), 0 < 1, Z5.set p2.toNat (Z15.set 5 Z21) = Z23, Z23[p2.toNat]? = some Z22, AV.lit (.int .i64 Z42) = (I Z24), Z23[p2.toNat]? = some Z22, (0 : Int) ≤ Z43, Z43 ≤ Z42, Z42 ≤ Z42, Qa4 Tryz.prog 161 [(AV.ro 1 Z25)] Z27, Qc5 Z27 = true, Frz ((Z16.drop Z43.toNat).take (Xg1 Z42.toNat Z43.toNat)) Z25, Z23[p2.toNat]? = some Z22, Z23[p2.toNat]? = some Z22, Z23.set p2.toNat (Z22.set 5 .dead) = Z29, (0 : Int) ≤ Z43, Z43 ≤ Z42, Z16.take Z43.toNat = Z30, Z16.length = Z16.length, Z29[p2.toNat]? = some Z28, Z29.set p2.toNat (wr Z28 5 [Z31]) = Z33, [Z31].length = 1, 5 + [Z31].length ≤ Z28.length, Z33[p2.toNat]? = some Z32, Z33[p2.toNat]? = some Z32, Z32[5]? = some Z31, Qa2 Z30 = true, Z33.set p2.toNat (Z32.set 5 Z36) = Z35, Z35[p2.toNat]? = some Z37, Z35.set p2.toNat (wr Z37 1 [Z44]) = Z41, [Z44].length = 1, 1 + [Z44].length ≤ Z37.length]
 have AP2 : Qan P2 := ⟨rfl, rfl, (by decide), rfl, (rd0 hx5), (rdL o70 hx5), (Qmt hr6), rfl, (rdM o70 hx5), rfl, (by decide), rfl, (Qdb (rdM o70 hx5)), (Qbw Qae), (Qdb (rdM o70 hx5)), (sl0 hl7), (sl1e Qae hl7), (Int.le_refl _), (Qd0 hr8), (by simp +zetaDelta only [Qc5, Qbl, Qa8 Qer, Bool.and_self]), (frzSe Qc3 Qsj hl7), (Qdb (rdM o70 hx5)), (Qdb (rdM o70 hx5)), (Qgk rfl), (sl1 hl9), (sl2 Qae hl9), (shT Qae hl9), rfl, (Qdb (rdM o70 hx5)), (Qgk rfl), rfl, leB, (Qdb (rdM o70 hx5)), (Qdb (rdM o70 hx5)), rfl, (Qah Qc3), (Qgo o70 (y := Z45) rfl), (rdM o70 (rdS (y := Z45) hx5)), (Qrn o70), rfl, leB, trivial⟩
 rcases itS h with ⟨c10, h⟩ | ⟨c12, h⟩
 ·obtain ⟨l11, hl11, h⟩ := bnS h
  obtain rfl := sj h
  exact (let Z50 := l11.map Qae; let Z51 := AV.sl 1010 0 Z50.length; let Z52 := [Z17, Z44, Z18, Z19, Z20, Z51]; let Z53 := Z41.set p2.toNat Z52; let Z54 := Z40.set p2.toNat (Qa0.mk x5.Routine Z39 x5.State x5.Cond x5.Lock l11); let Z55 := Z54.map o70; let Z56 := [[Z0, Z1, Z2, (AV.own 70 6 Z55), Z8, Z10, Z11]]; let Z60 := Z3 ++ (o44 (Qa1.mk Z54 p1.Cells p1.Owner p1.Fault)); let Z63 := Qa1.mk Z54 p1.Cells p1.Owner p1.Fault; gR hP hn (H1 ++ [hT 55, hh 56 (.unpack 1004 1008 p2.toNat 5 Z46 132 1 Z30 Z49), hh 60 (.row Z48), hW 63 1009, hh 64 (.app 1010 Z50), hh 70 (.row Z48), hh 73 (.sto Z48 Z53), hh 76 (.pack 1004 1010 p2.toNat 5 Z52 Z55), hh 76 (.pack 0 1004 0 3 Z12 Z56)]) [] .raw (P2 ++ [(p3.Code == 1) = true, Z41[p2.toNat]? = some Z46, Z46[5]? = some Z36, 0 < 1, Z41.set p2.toNat (Z46.set 5 Z47) = Z49, Z49[p2.toNat]? = some Z48, Z30.take Z30.length ++ Z57 = Z50, Z57.all (fun r => r.all AV.plain) = true, Z50.length * 8 ≤ 140737488355328, Z50.length ≤ 140737488355328, Z58 = Z58, Z58 = Z58, Z58 = Z58, Z58 = Z58, Z59 = Z59, Z47 = Z47, Z49[p2.toNat]? = some Z48, Z49[p2.toNat]? = some Z48, Z49.set p2.toNat (wr Z48 5 [Z51]) = Z53, [Z51].length = 1, 5 + [Z51].length ≤ Z48.length, Z53[p2.toNat]? = some Z52, Z52[5]? = some Z51, Qa2 Z50 = true, Z53.set p2.toNat (Z52.set 5 (AV.own 132 1 Z50)) = Z55, Z13[0]? = some Z12, Z12[3]? = some (AV.sl 1004 0 Z55.length), Qa2 Z55 = true, Z13.set 0 (Z12.set 3 (AV.own 70 6 Z55)) = Z56, Z56 = [Z60], Qa2 [Z60] = true, Qa5 [Z60] = true, Z61 = Z61, Qa3 Z61 = true]) (Qa6 AP2 ⟨c10, (rdM o70 (rdS (y := Z62) (rdS (y := Z45) hx5))), rfl, (by decide), rfl, (Qdb (rdM o70 (rdS (y := Z62) (rdS (y := Z45) hx5)))), (Ql0 Qae hl11), (plD Qln), (Qnv Qae hl11 (by decide)), (Qo0 Qae hl11), rfl, rfl, rfl, rfl, rfl, rfl, (Qdb (rdM o70 (rdS (y := Z62) (rdS (y := Z45) hx5)))), (Qdb (rdM o70 (rdS (y := Z62) (rdS (y := Z45) hx5)))), (Qgk rfl), rfl, leB, (Qdb (rdM o70 (rdS (y := Z62) (rdS (y := Z45) hx5)))), rfl, (Qah Qc3), (Qgo o70 (y := (Qa0.mk x5.Routine (w64 Z38) x5.State x5.Cond x5.Lock l11)) rfl), rfl, (pkS lnq), (Qah t70), rfl, rfl, (Qhf t44 Z3 rfl Z63), (Qh4 n44 Z3 rfl Z63), rfl, rfl, trivial⟩))
 ·let P3 : List Prop := P2 ++ [(p3.Code == 1) = false]
  have AP3 : Qan P3 := Qa6 AP2 ⟨c12, trivial⟩
  rcases itS h with ⟨c13, h⟩ | ⟨c16, h⟩
  ·obtain ⟨x14, hx14, h⟩ := bnS h
   obtain ⟨l15, hl15, h⟩ := bnS h
   obtain rfl := sj h
   exact (let Z71 := l15.map Qae; let Z72 := AV.sl 1014 0 Z71.length; let Z73 := [Z17, Z44, Z18, Z19, Z20, Z72]; let Z74 := Z41.set p2.toNat Z73; let Z75 := Z40.set p2.toNat (Qa0.mk x5.Routine Z39 x5.State x5.Cond x5.Lock l15); let Z76 := Z75.map o70; let Z77 := AV.own 70 6 Z76; let Z78 := [Z0, Z1, Z2, Z77, Z69, Z10, Z11]; let Z79 := [[Z0, Z1, Z2, Z77, Z8, Z10, Z11]]; let Z89 := (([x14].map Qae).drop 0).take ([x14].map Qae).length; let Z90 := Z3 ++ (o44 (Qa1.mk Z75 p1.Cells p1.Owner p1.Fault)); let Z92 := Qa1.mk Z75 p1.Cells p1.Owner p1.Fault; gR hP hn (H1 ++ [hF 55, hT 58, hh 65 (.unpack 1004 1011 p2.toNat 5 Z46 132 1 Z30 Z66), hh 65 (.eqr 0 [Z68]), hh 65 (.unpack 0 1012 0 4 Z68 132 1 Z7 [Z70]), hh 69 (.row Z65), hh 77 (.row [(FK x14)]), hW 78 1013, hh 79 (.app 1014 Z71), hh 85 (.row Z65), hh 88 (.sto Z65 Z74), hh 91 (.pack 1004 1014 p2.toNat 5 Z73 Z76), hh 91 (.pack 0 1004 0 3 Z70 [Z78]), hh 91 (.pack 0 1012 0 4 Z78 Z79)]) [] .raw (P3 ++ [(p3.Code == 2) = true, Z80 = Z80, Z80 = Z80, Z81 = Z81, Z81 = Z81, Z82 = Z82, [(1002, some Z87)] = [(1002, some Z87)], Z41[p2.toNat]? = some Z46, Z46[5]? = some Z36, 0 < 1, Z41.set p2.toNat (Z46.set 5 Z64) = Z66, Z13 = [Z68], [Z68][0]? = some Z68, Z68[4]? = some Z8, 0 < 1, [Z68].set 0 (Z68.set 4 Z69) = [Z70], Z66[p2.toNat]? = some Z65, (0 : Int) ≤ p3.A, p3.A < Z88, Z7[p3.A.toNat]? = some [(FK x14)], Z30.take Z30.length ++ Z89 = Z71, Z89.all (fun r => r.all AV.plain) = true, Z71.length * 8 ≤ 140737488355328, Z71.length ≤ 140737488355328, Z58 = Z58, Z58 = Z58, Z58 = Z58, Z58 = Z58, Z59 = Z59, Z64 = Z64, Z66[p2.toNat]? = some Z65, Z66[p2.toNat]? = some Z65, Z66.set p2.toNat (wr Z65 5 [Z72]) = Z74, [Z72].length = 1, 5 + [Z72].length ≤ Z65.length, Z74[p2.toNat]? = some Z73, Z73[5]? = some Z72, Qa2 Z71 = true, Z74.set p2.toNat (Z73.set 5 (AV.own 132 1 Z71)) = Z76, [Z70][0]? = some Z70, Z70[3]? = some (AV.sl 1004 0 Z76.length), Qa2 Z76 = true, [Z70].set 0 (Z70.set 3 Z77) = [Z78], [Z78][0]? = some Z78, Z78[4]? = some Z69, Qa2 Z7 = true, [Z78].set 0 (Z78.set 4 Z8) = Z79, Z79 = [Z90], Qa2 [Z90] = true, Qa5 [Z90] = true, Z91 = Z91, Qa3 Z91 = true]) (Qa6 AP3 ⟨c13, rfl, rfl, rfl, rfl, rfl, rfl, (rdM o70 (rdS (y := Z62) (rdS (y := Z45) hx5))), rfl, (by decide), rfl, (congrArg (fun nn => [[Z0, Z1, Z2, (AV.sl 1004 0 nn), Z8, Z10, (I p1.Fault)]]) (show Z5.length = Z66.length from lnq)), rfl, rfl, (by decide), rfl, (Qdb (rdM o70 (rdS (y := Z62) (rdS (y := Z45) hx5)))), (rd0 hx14), (rdL Qae hx14), (rdM Qae hx14), (Ql0 Qae hl15), (plD Qln), (Qnv Qae hl15 (by decide)), (Qo0 Qae hl15), rfl, rfl, rfl, rfl, rfl, rfl, (Qdb (rdM o70 (rdS (y := Z62) (rdS (y := Z45) hx5)))), (Qdb (rdM o70 (rdS (y := Z62) (rdS (y := Z45) hx5)))), (Qgk rfl), rfl, leB, (Qdb (rdM o70 (rdS (y := Z62) (rdS (y := Z45) hx5)))), rfl, (Qah Qc3), (Qgo o70 (y := (Qa0.mk x5.Routine (w64 Z38) x5.State x5.Cond x5.Lock l15)) rfl), rfl, (pkS lnq), (Qah t70), rfl, rfl, rfl, (Qah Qc3), rfl, rfl, (Qhf t44 Z3 rfl Z92), (Qh4 n44 Z3 rfl Z92), rfl, rfl, trivial⟩))
  ·let H4 : List Hn := H1 ++ [hF 55, hF 58]
   let P5 : List Prop := P3 ++ [(p3.Code == 2) = false]
   have AP5 : Qan P5 := Qa6 AP3 ⟨c16, trivial⟩
   rcases itS h with ⟨c17, h⟩ | ⟨c20, h⟩
   ·obtain ⟨x18, hx18, h⟩ := bnS h
    obtain ⟨x19, hx19, h⟩ := bnS h
    obtain rfl := sj h
    exact (let Z98 := p1.Cells.set p3.A.toNat x18; let Z99 := Z98.map Qae; let Z102 := [[Z0, Z1, Z2, Z100, (AV.own 132 1 Z99), Z10, Z11]]; let Z105 := Z3 ++ (o44 (Qa1.mk Z40 Z98 p1.Owner p1.Fault)); let Z107 := Qa1.mk Z40 Z98 p1.Owner p1.Fault; gR hP hn (H4 ++ [hT 61, hh 68 (.eqr 0 Z95), hh 68 (.unpack 0 1015 0 4 Z94 132 1 Z7 [Z97]), hh 76 (.row [(FK x18)]), hh 78 (.sto [(FK x19)] Z99), hh 81 (.pack 0 1004 0 3 Z97 [Z101]), hh 81 (.pack 0 1015 0 4 Z101 Z102)]) [] .raw (P5 ++ [(p3.Code == 3) = true, Z80 = Z80, Z80 = Z80, Z81 = Z81, Z81 = Z81, Z82 = Z82, [(1002, some Z103)] = [(1002, some Z103)], Z13 = Z95, Z95[0]? = some Z94, Z94[4]? = some Z8, 0 < 1, Z95.set 0 (Z94.set 4 Z96) = [Z97], (0 : Int) ≤ 0, 0 < Z104, Z26[(Int.toNat 0)]? = some [(FK x18)], (0 : Int) ≤ p3.A, p3.A < Z88, Z7[p3.A.toNat]? = some [(FK x19)], Z7.set p3.A.toNat (wr [(FK x19)] 0 [(FK x18)]) = Z99, [(FK x18)].length = 1, 0 + [(FK x18)].length ≤ [(FK x19)].length, [Z97][0]? = some Z97, Z97[3]? = some Z93, Qa2 Z41 = true, [Z97].set 0 (Z97.set 3 Z100) = [Z101], [Z101][0]? = some Z101, Z101[4]? = some (AV.sl 1015 0 Z99.length), Qa2 Z99 = true, [Z101].set 0 (Z101.set 4 (AV.own 132 1 Z99)) = Z102, Z102 = [Z105], Qa2 [Z105] = true, Qa5 [Z105] = true, Z106 = Z106, Qa3 Z106 = true]) (Qa6 AP5 ⟨c17, rfl, rfl, rfl, rfl, rfl, rfl, (congrArg (fun nn => [[Z0, Z1, Z2, (AV.sl 1004 0 nn), Z8, Z10, (I p1.Fault)]]) (show Z5.length = Z41.length from lnq)), rfl, rfl, (by decide), rfl, (rd0 hx18), (rdL Qae hx18), (rdM Qae hx18), (rd0 hx19), (rdL Qae hx19), (rdM Qae hx19), (Qy0 Qae), rfl, leB, rfl, rfl, (Qah t70), rfl, rfl, (pkS lnq), (Qah Qc3), rfl, rfl, (Qhf t44 Z3 rfl Z107), (Qh4 n44 Z3 rfl Z107), rfl, rfl, trivial⟩))
   ·let P6 : List Prop := P5 ++ [(p3.Code == 3) = false]
    have AP6 : Qan P6 := Qa6 AP5 ⟨c20, trivial⟩
    rcases itS h with ⟨c21, h⟩ | ⟨c22, h⟩
    ·obtain rfl := sj h
     exact gR hP hn (H4 ++ [hF 61, hT 64, hh 70 (.sto Z46 Z109), hh 73 (.pack 0 1004 0 3 Z12 Z110)]) [] .raw (P6 ++ [(p3.Code == 10) = true, Z41[p2.toNat]? = some Z46, Z41.set p2.toNat (wr Z46 1 [Z81]) = Z109, [Z81].length = 1, 1 + [Z81].length ≤ Z46.length, Z13[0]? = some Z12, Z12[3]? = some Z111, Qa2 Z109 = true, Z13.set 0 Z112 = Z110, Z110 = [Z113], Qa2 [Z113] = true, Qa5 [Z113] = true, Z61 = Z61, Qa3 Z61 = true]) (Qa6 AP6 ⟨c21, (rdM o70 (rdS (y := Z62) (rdS (y := Z45) hx5))), (Qmc o70), rfl, leB, rfl, (pkS lnq), (Qah t70), rfl, rfl, (Qhf t44 Z3 rfl Z114), (Qh4 n44 Z3 rfl Z114), rfl, rfl, trivial⟩)
    ·let H7 : List Hn := H4 ++ [hF 61, hF 64]
     let P8 : List Prop := P6 ++ [(p3.Code == 10) = false]
     have AP8 : Qan P8 := Qa6 AP6 ⟨c22, trivial⟩
     rcases itS h with ⟨c23, h⟩ | ⟨c36, h⟩
     ·obtain ⟨x24, hx24, h⟩ := bnS h
      obtain ⟨r33, hr33, h⟩ := bnS h
      let P9 : List Prop := P8 ++ [(p3.Code == 11) = true, (0 : Int) ≤ 0, 0 < Z104, Z26[(Int.toNat 0)]? = some [(FK x24)], Qa4 Tryz.prog 207 [(FK x24)] (B r33), Qa3 (B r33) = true]
      have AP9 : Qan P9 := Qa6 AP8 ⟨c23, (rd0 hx24), (rdL Qae hx24), (rdM Qae hx24), (Xac hr33), rfl, trivial⟩
      rcases itS h with ⟨c34, h⟩ | ⟨c35, h⟩
      ·obtain rfl := sj h
       exact gR hP hn (H7 ++ [hT 67, hh 70 (.row [(FK x24)]), hh 71 (.callV [] (B r33)), hT 72, hh 78 (.sto Z46 Z109), hh 81 (.pack 0 1004 0 3 Z12 Z110)]) [] .raw (P9 ++ [r33 = true, Z41[p2.toNat]? = some Z46, Z41.set p2.toNat (wr Z46 1 [Z81]) = Z109, [Z81].length = 1, 1 + [Z81].length ≤ Z46.length, Z13[0]? = some Z12, Z12[3]? = some Z111, Qa2 Z109 = true, Z13.set 0 Z112 = Z110, Z110 = [Z113], Qa2 [Z113] = true, Qa5 [Z113] = true, Z61 = Z61, Qa3 Z61 = true]) (Qa6 AP9 ⟨c34, (rdM o70 (rdS (y := Z62) (rdS (y := Z45) hx5))), (Qmc o70), rfl, leB, rfl, (pkS lnq), (Qah t70), rfl, rfl, (Qhf t44 Z3 rfl Z114), (Qh4 n44 Z3 rfl Z114), rfl, rfl, trivial⟩)
      ·obtain rfl := sj h
       exact gR hP hn (H7 ++ [hT 67, hh 70 (.row [(FK x24)]), hh 71 (.callV [] (B r33)), hF 72, hh 75 (.pack 0 1004 0 3 Z12 Z115)]) [] .raw (P9 ++ [r33 = false, Z13[0]? = some Z12, Z12[3]? = some Z93, Qa2 Z41 = true, Z13.set 0 (Z12.set 3 Z100) = Z115, Z115 = [Z116], Qa2 [Z116] = true, Qa5 [Z116] = true, Z61 = Z61, Qa3 Z61 = true]) (Qa6 AP9 ⟨c35, rfl, (pkS lnq), (Qah t70), rfl, rfl, (Qhf t44 Z3 rfl Z117), (Qh4 n44 Z3 rfl Z117), rfl, rfl, trivial⟩)
     ·let P10 : List Prop := P8 ++ [(p3.Code == 11) = false]
      have AP10 : Qan P10 := Qa6 AP8 ⟨c36, trivial⟩
      rcases itS h with ⟨c37, h⟩ | ⟨c39, h⟩
      ·obtain ⟨x38, hx38, h⟩ := bnS h
       obtain rfl := sj h
       exact gR hP hn (H7 ++ [hF 67, hT 70, hh 77 (.eqr 0 Z95), hh 77 (.unpack 0 1016 0 5 Z94 3 1 Z9 [Z119]), hh 85 (.sto [(I x38)] Z121), hh 88 (.pack 0 1004 0 3 Z119 [Z122]), hh 88 (.pack 0 1016 0 5 Z122 Z123)]) [] .raw (P10 ++ [(p3.Code == 12) = true, Z80 = Z80, Z80 = Z80, Z81 = Z81, Z81 = Z81, Z82 = Z82, [(1002, some Z124)] = [(1002, some Z124)], Z13 = Z95, Z95[0]? = some Z94, Z94[5]? = some Z10, 0 < 1, Z95.set 0 (Z94.set 5 Z118) = [Z119], (0 : Int) ≤ p3.A, p3.A < Z125, Z9[p3.A.toNat]? = some [(I x38)], Z9.set p3.A.toNat (wr [(I x38)] 0 [(I p2)]) = Z121, [(I p2)].length = 1, 0 + [(I p2)].length ≤ [(I x38)].length, [Z119][0]? = some Z119, Z119[3]? = some Z93, Qa2 Z41 = true, [Z119].set 0 (Z119.set 3 Z100) = [Z122], [Z122][0]? = some Z122, Z122[5]? = some (AV.sl 1016 0 Z121.length), Qa2 Z121 = true, [Z122].set 0 (Z122.set 5 (AV.own 3 1 Z121)) = Z123, Z123 = [Z126], Qa2 [Z126] = true, Qa5 [Z126] = true, Z127 = Z127, Qa3 Z127 = true]) (Qa6 AP10 ⟨c37, rfl, rfl, rfl, rfl, rfl, rfl, (congrArg (fun nn => [[Z0, Z1, Z2, (AV.sl 1004 0 nn), Z8, Z10, (I p1.Fault)]]) (show Z5.length = Z41.length from lnq)), rfl, rfl, (by decide), rfl, (rd0 hx38), (rdL o3 hx38), (rdM o3 hx38), (Qy0 o3), rfl, leB, rfl, rfl, (Qah t70), rfl, rfl, (pkS lnq), (Qah t3), rfl, rfl, (Qhf t44 Z3 rfl Z128), (Qh4 n44 Z3 rfl Z128), rfl, rfl, trivial⟩)
      ·let P11 : List Prop := P10 ++ [(p3.Code == 12) = false]
       have AP11 : Qan P11 := Qa6 AP10 ⟨c39, trivial⟩
       rcases itS h with ⟨c40, h⟩ | ⟨c42, h⟩
       ·obtain ⟨x41, hx41, h⟩ := bnS h
        obtain rfl := sj h
        exact gR hP hn (H7 ++ [hF 67, hF 70, hT 73, hh 80 (.eqr 0 Z95), hh 80 (.unpack 0 1017 0 5 Z94 3 1 Z9 [Z130]), hh 87 (.sto [(I x41)] Z132), hh 90 (.pack 0 1004 0 3 Z130 [Z133]), hh 90 (.pack 0 1017 0 5 Z133 Z134)]) [] .raw (P11 ++ [(p3.Code == 13) = true, Z80 = Z80, Z80 = Z80, Z81 = Z81, Z81 = Z81, Z82 = Z82, [(1002, some Z135)] = [(1002, some Z135)], Z13 = Z95, Z95[0]? = some Z94, Z94[5]? = some Z10, 0 < 1, Z95.set 0 (Z94.set 5 Z129) = [Z130], (0 : Int) ≤ p3.A, p3.A < Z125, Z9[p3.A.toNat]? = some [(I x41)], Z9.set p3.A.toNat (wr [(I x41)] 0 Z136) = Z132, Z136.length = 1, 0 + Z136.length ≤ [(I x41)].length, [Z130][0]? = some Z130, Z130[3]? = some Z93, Qa2 Z41 = true, [Z130].set 0 (Z130.set 3 Z100) = [Z133], [Z133][0]? = some Z133, Z133[5]? = some (AV.sl 1017 0 Z132.length), Qa2 Z132 = true, [Z133].set 0 (Z133.set 5 (AV.own 3 1 Z132)) = Z134, Z134 = [Z137], Qa2 [Z137] = true, Qa5 [Z137] = true, Z138 = Z138, Qa3 Z138 = true]) (Qa6 AP11 ⟨c40, rfl, rfl, rfl, rfl, rfl, rfl, (congrArg (fun nn => [[Z0, Z1, Z2, (AV.sl 1004 0 nn), Z8, Z10, (I p1.Fault)]]) (show Z5.length = Z41.length from lnq)), rfl, rfl, (by decide), rfl, (rd0 hx41), (rdL o3 hx41), (rdM o3 hx41), (Qy0 o3), rfl, leB, rfl, rfl, (Qah t70), rfl, rfl, (pkS lnq), (Qah t3), rfl, rfl, (Qhf t44 Z3 rfl Z139), (Qh4 n44 Z3 rfl Z139), rfl, rfl, trivial⟩)
       ·let H12 : List Hn := H7 ++ [hF 67, hF 70, hF 73]
        let P13 : List Prop := P11 ++ [(p3.Code == 13) = false]
        have AP13 : Qan P13 := Qa6 AP11 ⟨c42, trivial⟩
        rcases itS h with ⟨c43, h⟩ | ⟨c49, h⟩
        ·obtain ⟨l44, hl44, h⟩ := bnS h
         obtain ⟨r47, hr47, h⟩ := bnS h
         obtain ⟨l48, hl48, h⟩ := bnS h
         obtain rfl := sj h
         exact (let Z146 := l44.map Qae; let Z147 := AV.sl 1020 0 Z146.length; let Z148 := [Z17, Z44, Z18, Z19, Z20, Z147]; let Z149 := Z41.set p2.toNat Z148; let Z150 := AV.sl 1004 0 Z149.length; let Z151 := [[Z0, Z1, Z2, Z150, Z8, Z10, Z11]]; let Z152 := Z40.set p2.toNat (Qa0.mk x5.Routine Z39 x5.State x5.Cond x5.Lock l44); let Z153 := Z152.map o70; let Z154 := AV.agg (o70 r47); let Z155 := r47.Stack.map Qae; let Z156 := AV.sl 1021 0 Z155.length; let Z157 := [(I r47.Routine), (I r47.Pc), (I r47.State), (I r47.Cond), (I r47.Lock), Z156]; let Z158 := Z153 ++ [Z157]; let Z159 := l48.map o70; let Z160 := [Z0, Z1, Z2, (AV.sl 1023 0 Z158.length), Z8, Z10, Z11]; let Z161 := [[Z0, Z1, Z2, (AV.own 70 6 Z159), Z8, Z10, Z11]]; let Z166 := Z3 ++ (o44 (Qa1.mk l48 p1.Cells p1.Owner p1.Fault)); let Z168 := Qa1.mk l48 p1.Cells p1.Owner p1.Fault; gR hP hn (H12 ++ [hT 76, hh 77 (.eqr 0 Z95), hO 81 Z140, hh 86 (.unpack 1004 1018 p2.toNat 5 Z46 132 1 Z30 Z143), hh 86 (.eqr 0 Z144), hh 90 (.row Z142), hO 95 Z140, hh 96 (.cnv (FK Z145)), hW 97 1019, hh 98 (.app 1020 Z146), hh 104 (.row Z142), hh 107 (.sto Z142 Z149), hh 108 (.eqr 0 Z151), hh 108 (.pack 1004 1020 p2.toNat 5 Z148 Z153), hh 115 (.call [] Z154 [1021]), hW 116 1022, hh 117 (.app 1023 Z158), hh 129 (.pack 1023 1021 Z152.length 5 Z157 Z159), hh 134 (.pack 0 1023 0 3 Z160 Z161)]) [] .raw (P13 ++ [(p3.Code == 14) = true, Z13 = Z95, Z162 = Z162, Z162 = Z162, Z162 = Z162, Z162 = Z162, Z162 = Z162, Z162 = Z162, Z93 = Z93, Z93 = Z93, Z140 = Z140, AV.lit (.int .i64 Z163) = Z140, Z140 = Z140, AV.lit (.int .i64 Z163) = Z140, Z82 = Z82, [(1002, some Z164)] = [(1002, some Z164)], Z41[p2.toNat]? = some Z46, Z46[5]? = some Z36, 0 < 1, Z41.set p2.toNat (Z46.set 5 Z141) = Z143, Z95 = Z144, Z143[p2.toNat]? = some Z142, AV.lit (.int .i64 ((Z143.length : Nat) : Int)) = Z140, Qy6 Tryz.prog 3 132 Z140 (FK Z145), Z30.take Z30.length ++ Z165 = Z146, Z165.all (fun r => r.all AV.plain) = true, Z146.length * 8 ≤ 140737488355328, Z146.length ≤ 140737488355328, Z58 = Z58, Z58 = Z58, Z58 = Z58, Z58 = Z58, Z59 = Z59, Z141 = Z141, Z143[p2.toNat]? = some Z142, Z143[p2.toNat]? = some Z142, Z143.set p2.toNat (wr Z142 5 [Z147]) = Z149, [Z147].length = 1, 5 + [Z147].length ≤ Z142.length, Z144 = Z151, Z149[p2.toNat]? = some Z148, Z148[5]? = some Z147, Qa2 Z146 = true, Z149.set p2.toNat (Z148.set 5 (AV.own 132 1 Z146)) = Z153, Qa4 Tryz.prog 178 [Z81] Z154, Qc5 Z154 = true, Z153.take Z149.length ++ [Z157] = Z158, [Z157].all (fun r => r.all AV.plain) = true, Z158.length * 64 ≤ 140737488355328, Z158.length ≤ 140737488355328, Z162 = Z162, Z162 = Z162, Z162 = Z162, Z162 = Z162, Z162 = Z162, Z162 = Z162, Z162 = Z162, Z162 = Z162, Z162 = Z162, Z150 = Z150, Z150 = Z150, Z158[Z152.length]? = some Z157, Z157[5]? = some Z156, Qa2 Z155 = true, Z158.set Z152.length (Z157.set 5 (AV.own 132 1 Z155)) = Z159, [Z160][0]? = some Z160, Z160[3]? = some (AV.sl 1023 0 Z159.length), Qa2 Z159 = true, [Z160].set 0 (Z160.set 3 (AV.own 70 6 Z159)) = Z161, Z161 = [Z166], Qa2 [Z166] = true, Qa5 [Z166] = true, Z167 = Z167, Qa3 Z167 = true]) (Qa6 AP13 ⟨c43, (congrArg (fun nn => [[Z0, Z1, Z2, (AV.sl 1004 0 nn), Z8, Z10, (I p1.Fault)]]) (show Z5.length = Z41.length from lnq)), rfl, rfl, rfl, rfl, rfl, rfl, rfl, rfl, rfl, (Qbw o70), rfl, (Qbw o70), rfl, rfl, (rdM o70 (rdS (y := Z62) (rdS (y := Z45) hx5))), rfl, (by decide), rfl, (congrArg (fun nn => [[Z0, Z1, Z2, (AV.sl 1004 0 nn), Z8, Z10, (I p1.Fault)]]) (show Z41.length = Z143.length from lnq)), (Qdb (rdM o70 (rdS (y := Z62) (rdS (y := Z45) hx5)))), (by simp +zetaDelta only [List.length_set, List.length_map]), (cIF (P := Tryz.prog) ty3 Qpq), (Ql0 Qae hl44), (plD Qln), (Qnv Qae hl44 (by decide)), (Qo0 Qae hl44), rfl, rfl, rfl, rfl, rfl, rfl, (Qdb (rdM o70 (rdS (y := Z62) (rdS (y := Z45) hx5)))), (Qdb (rdM o70 (rdS (y := Z62) (rdS (y := Z45) hx5)))), (Qgk rfl), rfl, leB, (congrArg (fun nn => [[Z0, Z1, Z2, (AV.sl 1004 0 nn), Z8, Z10, (I p1.Fault)]]) (show Z143.length = Z149.length from lnq)), (Qdb (rdM o70 (rdS (y := Z62) (rdS (y := Z45) hx5)))), rfl, (Qah Qc3), (Qgo o70 (y := (Qa0.mk x5.Routine (w64 Z38) x5.State x5.Cond x5.Lock l44)) rfl), (Qca hr47), (by simp +zetaDelta only [Qc5, Qbl, Qa8 Qer, o70, Bool.and_self]), (adT lnq), rfl, (apB o70 hl48 (by decide)), (apC o70 hl48), rfl, rfl, rfl, rfl, rfl, rfl, rfl, rfl, rfl, rfl, rfl, (apG o70), rfl, (Qah Qc3), (apS o70 hl48), rfl, (pkS lnq), (Qah t70), rfl, rfl, (Qhf t44 Z3 rfl Z168), (Qh4 n44 Z3 rfl Z168), rfl, rfl, trivial⟩))
        ·let P14 : List Prop := P13 ++ [(p3.Code == 14) = false]
         have AP14 : Qan P14 := Qa6 AP13 ⟨c49, trivial⟩
         rcases itS h with ⟨c50, h⟩ | ⟨c53, h⟩
         ·obtain ⟨x51, hx51, h⟩ := bnS h
          obtain ⟨r52, hr52, h⟩ := bnS h
          obtain rfl := sj h
          exact (let Z169 := B r52.2; let Z170 := AV.tup [(I r52.1), Z169]; let Z175 := [Z83, (I 7), (I r52.1), Z85, Z86]; let Z176 := Qas.mk 60 5 [Z175]; let Z177 := AV.agg Z175; gR hP hn (H12 ++ [hF 76, hT 79, hh 82 (.eqr 0 Z95), hh 84 (.row [(FK x51)]), hO 89 Z140, hh 90 (.callV [] Z170), hh 98 (.pack 0 1004 0 3 Z94 Z115)]) [] .raw (P14 ++ [Z171 = true, Z13 = Z95, Z172 = Z172, Z173 = Z173, (0 : Int) ≤ 0, 0 < Z104, (FK x51) = (FK x51), Z26[(Int.toNat 0)]? = some [(FK x51)], Z162 = Z162, Z162 = Z162, Z162 = Z162, Z93 = Z93, Z140 = Z140, AV.lit (.int .i64 Z163) = Z140, Z170 = Z170, Qa4 Tryz.prog 208 [(FK x51), Z140] Z170, Qa3 Z170 = true, Z170 = Z170, (I r52.1) = (I r52.1), Z169 = Z169, Z169 = Z169, Z174 = Z174, [(1002, some Z176)] = [(1002, some Z176)], Z95[0]? = some Z94, Z94[3]? = some Z93, Qa2 Z41 = true, Z95.set 0 (Z94.set 3 Z100) = Z115, Z115 = [Z116], Qa2 [Z116] = true, Qa5 [Z116] = true, Z177 = Z177, Qa3 Z177 = true]) (Qa6 AP14 ⟨c50, (congrArg (fun nn => [[Z0, Z1, Z2, (AV.sl 1004 0 nn), Z8, Z10, (I p1.Fault)]]) (show Z5.length = Z41.length from lnq)), rfl, rfl, (rd0 hx51), (rdL Qae hx51), rfl, (rdM Qae hx51), rfl, rfl, rfl, rfl, rfl, (Qbw o70), rfl, (Qny hr52), rfl, rfl, rfl, rfl, rfl, rfl, rfl, rfl, rfl, (Qah t70), rfl, rfl, (Qhf t44 Z3 rfl Z117), (Qh4 n44 Z3 rfl Z117), rfl, rfl, trivial⟩))
         ·rcases itS h with ⟨c54, h⟩ | ⟨c56, h⟩
          ·obtain ⟨x55, hx55, h⟩ := bnS h
           obtain rfl := sj h
           exact gR hP hn (H12 ++ [hF 76, hF 79, hT 82, hh 93 (.eqr 0 Z95), hh 93 (.unpack 0 1024 0 5 Z94 3 1 Z9 [Z179]), hh 100 (.sto [(I x55)] Z181), hh 104 (.row Z46), hh 108 (.sto Z46 Z183), hh 118 (.sto Z184 Z185), hh 121 (.sto Z186 Z187), hh 124 (.sto Z188 Z190), hh 127 (.pack 0 1004 0 3 Z179 [Z192]), hh 127 (.pack 0 1024 0 5 Z192 Z193)]) [] .raw (P14 ++ [Z171 = false, (p3.Code == 16) = true, Z80 = Z80, Z80 = Z80, Z81 = Z81, Z81 = Z81, Z194 = Z194, Z194 = Z194, Z194 = Z194, Z195 = Z195, Z195 = Z195, Z195 = Z195, Z82 = Z82, [(1002, some Z196)] = [(1002, some Z196)], Z174 = Z174, [(1002, some Z197)] = [(1002, some Z197)], Z13 = Z95, Z95[0]? = some Z94, Z94[5]? = some Z10, 0 < 1, Z95.set 0 (Z94.set 5 Z178) = [Z179], (0 : Int) ≤ p3.B, p3.B < Z125, Z9[p3.B.toNat]? = some [(I x55)], Z9.set p3.B.toNat (wr [(I x55)] 0 Z136) = Z181, Z136.length = 1, 0 + Z136.length ≤ [(I x55)].length, Z41[p2.toNat]? = some Z46, Z41[p2.toNat]? = some Z46, Z41.set p2.toNat (wr Z46 1 [(I Z182)]) = Z183, [(I Z182)].length = 1, 1 + [(I Z182)].length ≤ Z46.length, Z58 = Z58, Z58 = Z58, Z58 = Z58, Z58 = Z58, Z58 = Z58, Z58 = Z58, Z80 = Z80, Z80 = Z80, Z81 = Z81, Z81 = Z81, Z194 = Z194, Z194 = Z194, Z194 = Z194, Z195 = Z195, Z195 = Z195, Z195 = Z195, Z58 = Z58, Z198 = Z198, [(1004, some (Qas.mk 70 6 Z185))] = [(1004, some (Qas.mk 70 6 Z185))], Z183[p2.toNat]? = some Z184, Z183.set p2.toNat (wr Z184 2 [(I 3)]) = Z185, [(I 3)].length = 1, 2 + [(I 3)].length ≤ Z184.length, Z58 = Z58, Z199 = Z199, [(1004, some (Qas.mk 70 6 Z187))] = [(1004, some (Qas.mk 70 6 Z187))], Z185[p2.toNat]? = some Z186, Z185.set p2.toNat (wr Z186 3 [Z81]) = Z187, [Z81].length = 1, 3 + [Z81].length ≤ Z186.length, Z187[p2.toNat]? = some Z188, Z187.set p2.toNat (wr Z188 4 [Z195]) = Z190, [Z195].length = 1, 4 + [Z195].length ≤ Z188.length, [Z179][0]? = some Z179, Z179[3]? = some (AV.sl 1004 0 Z190.length), Qa2 Z190 = true, [Z179].set 0 (Z179.set 3 Z191) = [Z192], [Z192][0]? = some Z192, Z192[5]? = some (AV.sl 1024 0 Z181.length), Qa2 Z181 = true, [Z192].set 0 (Z192.set 5 (AV.own 3 1 Z181)) = Z193, Z193 = [Z200], Qa2 [Z200] = true, Qa5 [Z200] = true, Z201 = Z201, Qa3 Z201 = true]) (Qa6 AP14 ⟨c53, c54, rfl, rfl, rfl, rfl, rfl, rfl, rfl, rfl, rfl, rfl, rfl, rfl, rfl, rfl, (congrArg (fun nn => [[Z0, Z1, Z2, (AV.sl 1004 0 nn), Z8, Z10, (I p1.Fault)]]) (show Z5.length = Z41.length from lnq)), rfl, rfl, (by decide), rfl, (rd0 hx55), (rdL o3 hx55), (rdM o3 hx55), (Qy0 o3), rfl, leB, (rdM o70 (rdS (y := Z62) (rdS (y := Z45) hx5))), (rdM o70 (rdS (y := Z62) (rdS (y := Z45) hx5))), (Qmc o70), rfl, leB, rfl, rfl, rfl, rfl, rfl, rfl, rfl, rfl, rfl, rfl, rfl, rfl, rfl, rfl, rfl, rfl, rfl, rfl, rfl, (rdM o70 (rdS (y := (Qa0.mk x5.Routine (w64 ((w64 Z38) - 1)) x5.State x5.Cond x5.Lock l9)) (rdS (y := Z45) hx5))), (Qmc o70), rfl, leB, rfl, rfl, rfl, (rdM o70 (rdS (y := (Qa0.mk x5.Routine (w64 ((w64 Z38) - 1)) 3 x5.Cond x5.Lock l9)) (rdS (y := Z45) hx5))), (Qmc o70), rfl, leB, (rdM o70 (rdS (y := (Qa0.mk x5.Routine (w64 ((w64 Z38) - 1)) 3 p3.A x5.Lock l9)) (rdS (y := Z45) hx5))), (Qmc o70), rfl, leB, rfl, (pkS lnq), (Qah t70), rfl, rfl, (pkS lnq), (Qah t3), rfl, rfl, (Qhf t44 Z3 rfl Z202), (Qh4 n44 Z3 rfl Z202), rfl, rfl, trivial⟩)
          ·let P15 : List Prop := P14 ++ [Z171 = false, (p3.Code == 16) = false]
           have AP15 : Qan P15 := Qa6 AP14 ⟨c53, c56, trivial⟩
           rcases itS h with ⟨c57, h⟩ | ⟨c62, h⟩
           ·obtain ⟨r58, hr58, h⟩ := bnS h
            let Z210 := AV.agg [Z83, (I 10), Z81, (I r58), Z86]
            let H16 : List Hn := H12 ++ [hF 76, hF 79, hF 82, hT 85, hh 95 (.eqr 0 Z95), hh 97 (.callV [Z203, []] (I r58))]
            let P17 : List Prop := P15 ++ [(p3.Code == 17) = true, Z80 = Z80, Z80 = Z80, Z81 = Z81, Z81 = Z81, Z82 = Z82, [(1002, some Z204)] = [(1002, some Z204)], Z13 = Z95, Qa4 Tryz.prog 172 [(AV.ro 6 Z203), (AV.fn 209 [(AV.rop (Qbi p3) 0)])] (I r58), Qa3 (I r58) = true, Frz ((Z41.drop 0).take Z41.length) Z203]
            have AP17 : Qan P17 := Qa6 AP15 ⟨c57, rfl, rfl, rfl, rfl, rfl, rfl, (congrArg (fun nn => [[Z0, Z1, Z2, (AV.sl 1004 0 nn), Z8, Z10, (I p1.Fault)]]) (show Z5.length = Z41.length from lnq)), (Qdv hr58), rfl, (Qgt t70 z70), trivial⟩
            rcases itS h with ⟨c59, h⟩ | ⟨c61, h⟩
            ·obtain ⟨x60, hx60, h⟩ := bnS h
             obtain rfl := sj h
             exact (let Z205 := o70 x60; let Z206 := Z40.set r58.toNat (Qa0.mk x60.Routine x60.Pc 4 x60.Cond x60.Lock x60.Stack); let Z207 := Z206.map o70; let Z208 := [[Z0, Z1, Z2, (AV.own 70 6 Z207), Z8, Z10, Z11]]; let Z209 := Z3 ++ (o44 (Qa1.mk Z206 p1.Cells p1.Owner p1.Fault)); let Z211 := Qa1.mk Z206 p1.Cells p1.Owner p1.Fault; gR hP hn (H16 ++ [hT 103, hh 112 (.sto Z205 Z207), hh 115 (.pack 0 1004 0 3 Z94 Z208)]) [] .raw (P17 ++ [(decide (r58 ≥ 0)) = true, (0 : Int) ≤ r58, r58 < Z163, Z41[r58.toNat]? = some Z205, Z41.set r58.toNat (wr Z205 2 [(I 4)]) = Z207, [(I 4)].length = 1, 2 + [(I 4)].length ≤ Z205.length, Z95[0]? = some Z94, Z94[3]? = some (AV.sl 1004 0 Z207.length), Qa2 Z207 = true, Z95.set 0 (Z94.set 3 (AV.own 70 6 Z207)) = Z208, Z208 = [Z209], Qa2 [Z209] = true, Qa5 [Z209] = true, Z210 = Z210, Qa3 Z210 = true]) (Qa6 AP17 ⟨c59, (rd0 hx60), (rdL o70 hx60), (rdM o70 hx60), (Qrn o70), rfl, leB, rfl, (pkS lnq), (Qah t70), rfl, rfl, (Qhf t44 Z3 rfl Z211), (Qh4 n44 Z3 rfl Z211), rfl, rfl, trivial⟩))
            ·obtain rfl := sj h
             exact gR hP hn (H16 ++ [hF 103, hh 106 (.pack 0 1004 0 3 Z94 Z115)]) [] .raw (P17 ++ [(decide (r58 ≥ 0)) = false, Z95[0]? = some Z94, Z94[3]? = some Z93, Qa2 Z41 = true, Z95.set 0 (Z94.set 3 Z100) = Z115, Z115 = [Z116], Qa2 [Z116] = true, Qa5 [Z116] = true, Z210 = Z210, Qa3 Z210 = true]) (Qa6 AP17 ⟨c61, rfl, rfl, (Qah t70), rfl, rfl, (Qhf t44 Z3 rfl Z117), (Qh4 n44 Z3 rfl Z117), rfl, rfl, trivial⟩)
           ·obtain ⟨x63, hx63, h⟩ := bnS h
            obtain ⟨x64, hx64, h⟩ := bnS h
            obtain ⟨r65, hr65, h⟩ := bnS h
            obtain ⟨l66, hl66, h⟩ := bnS h
            obtain rfl := sj h
            exact (let Z215 := l66.map Qae; let Z216 := AV.sl 1027 0 Z215.length; let Z217 := [Z17, Z44, Z18, Z19, Z20, Z216]; let Z218 := Z41.set p2.toNat Z217; let Z219 := Z40.set p2.toNat (Qa0.mk x5.Routine Z39 x5.State x5.Cond x5.Lock l66); let Z220 := Z219.map o70; let Z221 := [[Z0, Z1, Z2, (AV.own 70 6 Z220), Z8, Z10, Z11]]; let Z222 := (([r65].map Qae).drop 0).take ([r65].map Qae).length; let Z223 := Z3 ++ (o44 (Qa1.mk Z219 p1.Cells p1.Owner p1.Fault)); let Z224 := Qa1.mk Z219 p1.Cells p1.Owner p1.Fault; gR hP hn (H12 ++ [hF 76, hF 79, hF 82, hF 85, hh 86 (.unpack 1004 1025 p2.toNat 5 Z46 132 1 Z30 Z214), hh 90 (.row Z213), hh 95 (.row [(FK x63)]), hh 98 (.row [(FK x64)]), hh 99 (.callV [] (FK r65)), hW 100 1026, hh 101 (.app 1027 Z215), hh 107 (.row Z213), hh 110 (.sto Z213 Z218), hh 113 (.pack 1004 1027 p2.toNat 5 Z217 Z220), hh 113 (.pack 0 1004 0 3 Z12 Z221)]) [] .raw (P15 ++ [(p3.Code == 17) = false, Z41[p2.toNat]? = some Z46, Z46[5]? = some Z36, 0 < 1, Z41.set p2.toNat (Z46.set 5 Z212) = Z214, Z214[p2.toNat]? = some Z213, (0 : Int) ≤ 0, 0 < Z104, Z26[(Int.toNat 0)]? = some [(FK x63)], (0 : Int) ≤ 1, 1 < Z104, Z26[(Int.toNat 1)]? = some [(FK x64)], Qa4 Tryz.prog 210 [(I p3.Code), (FK x63), (FK x64)] (FK r65), Qa3 (FK r65) = true, Z30.take Z30.length ++ Z222 = Z215, Z222.all (fun r => r.all AV.plain) = true, Z215.length * 8 ≤ 140737488355328, Z215.length ≤ 140737488355328, Z58 = Z58, Z58 = Z58, Z58 = Z58, Z58 = Z58, Z59 = Z59, Z212 = Z212, Z214[p2.toNat]? = some Z213, Z214[p2.toNat]? = some Z213, Z214.set p2.toNat (wr Z213 5 [Z216]) = Z218, [Z216].length = 1, 5 + [Z216].length ≤ Z213.length, Z218[p2.toNat]? = some Z217, Z217[5]? = some Z216, Qa2 Z215 = true, Z218.set p2.toNat (Z217.set 5 (AV.own 132 1 Z215)) = Z220, Z13[0]? = some Z12, Z12[3]? = some (AV.sl 1004 0 Z220.length), Qa2 Z220 = true, Z13.set 0 (Z12.set 3 (AV.own 70 6 Z220)) = Z221, Z221 = [Z223], Qa2 [Z223] = true, Qa5 [Z223] = true, Z61 = Z61, Qa3 Z61 = true]) (Qa6 AP15 ⟨c62, (rdM o70 (rdS (y := Z62) (rdS (y := Z45) hx5))), rfl, (by decide), rfl, (Qdb (rdM o70 (rdS (y := Z62) (rdS (y := Z45) hx5)))), (rd0 hx63), (rdL Qae hx63), (rdM Qae hx63), (rd0 hx64), (rdL Qae hx64), (rdM Qae hx64), (Qxf hr65), rfl, (Ql0 Qae hl66), (plD Qln), (Qnv Qae hl66 (by decide)), (Qo0 Qae hl66), rfl, rfl, rfl, rfl, rfl, rfl, (Qdb (rdM o70 (rdS (y := Z62) (rdS (y := Z45) hx5)))), (Qdb (rdM o70 (rdS (y := Z62) (rdS (y := Z45) hx5)))), (Qgk rfl), rfl, leB, (Qdb (rdM o70 (rdS (y := Z62) (rdS (y := Z45) hx5)))), rfl, (Qah Qc3), (Qgo o70 (y := (Qa0.mk x5.Routine (w64 Z38) x5.State x5.Cond x5.Lock l66)) rfl), rfl, (pkS lnq), (Qah t70), rfl, rfl, (Qhf t44 Z3 rfl Z224), (Qh4 n44 Z3 rfl Z224), rfl, rfl, trivial⟩))
noncomputable def Qcz  (p1 : Qa1) (p2 : Int) (p3 : GOp) (x4 : Qa0)  : Option Int :=
 if (p3.Code == 13) = true then
  Option.bind (rd p1.Owner p3.A) fun x11 =>
  if (x11 != p2) = true then
   some 2
  else
   some 0
 else
  if (p3.Code == 16) = true then
   Option.bind (rd p1.Owner p3.B) fun x16 =>
   if (x16 != p2) = true then
    some 2
   else
    some 0
  else
   if (p3.Code == 15) = true then
    Option.bind (Qbu p1 x4) fun r21 =>
    if (!r21.2) = true then
     some 3
    else
     some 0
   else
    if (p3.Code == 14) = true then
     if ((p1.Threads.length : Int) == 5) = true then
      some 4
     else
      some 0
    else
     some 0
noncomputable def Qcn (p1 : Qa1) (p2 : Int) (p3 : GOp) : Option Int :=
 Option.bind (rd p1.Threads p2) fun x4 =>
 Option.bind (Qgh p3) fun r5 =>
 if (decide ((x4.Stack.length : Int) < r5.1)) = true then
  some 1
 else
  if (decide ((w64 ((w64 ((x4.Stack.length : Int) - r5.1)) + r5.2)) > 8)) = true then
   some 1
  else
   Qcz p1 p2 p3 x4
noncomputable def Xep : Code := match Tryz.f165.body with | some c => c | none => .skip
theorem Qim {E : Env} (hP : E.pk = pk0 Tryz.prog) (hn : E.n = 83) (hx : FX E []) {W0 W1 W2 : AV} (p1 : Qa1) (p2 : Int) (p3 : GOp) (x4 : Qa0)   (r : Int) (h : Qcz p1 p2 p3 x4  = some r) : WAt E Xep (FQ (Qes Θ Tryz.f165.results.toList [] [] (I r) E)) [true, true, true, false, true, true] ⟨[(0, (AV.rop ([W0, W1, W2] ++ (r44 p1)) 3)), (1, (I p2)), (5, (AV.ptr 1 0 0)), (7, (AV.ptr 2 0 0))], [(1, some ⟨156, 4, [((Qbi p3))]⟩), (2, some ⟨70, 6, [((r70 x4))]⟩)], [1, 2, JJ]⟩ := by
 unfold Qcz at h
 let Z1 := p3.Code == 15; let Z2 := (p1.Threads.length : Int)
 rcases itS h with ⟨c10, h⟩ | ⟨c14, h⟩
 ·obtain ⟨x11, hx11, h⟩ := bnS h
  let P1 : List Prop := [(p3.Code == 13) = true, (0 : Int) ≤ p3.A, (p1.Owner.map o3)[p3.A.toNat]? = some (o3 x11)]
  have AP1 : Qan P1 := ⟨c10, (rd0 hx11), (rdM o3 hx11), trivial⟩
  rcases itS h with ⟨c12, h⟩ | ⟨c13, h⟩
  ·obtain rfl := sj h
   exact gR hP hn [hT 4, hh 11 (.row (o3 x11)), hT 15] [] .raw (P1 ++ [(x11 != p2) = true, (I 2) = (I 2), Qa3 (I 2) = true]) (Qa6 AP1 ⟨c12, rfl, rfl, trivial⟩)
  ·obtain rfl := sj h
   exact gR hP hn [hT 4, hh 11 (.row (o3 x11)), hF 15] [] .raw (P1 ++ [(x11 != p2) = false, (I 0) = (I 0), Qa3 (I 0) = true]) (Qa6 AP1 ⟨c13, rfl, rfl, trivial⟩)
 ·let P2 : List Prop := [(p3.Code == 13) = false]
  have AP2 : Qan P2 := ⟨c14, trivial⟩
  rcases itS h with ⟨c15, h⟩ | ⟨c19, h⟩
  ·obtain ⟨x16, hx16, h⟩ := bnS h
   let P3 : List Prop := P2 ++ [(p3.Code == 16) = true, (0 : Int) ≤ p3.B, (p1.Owner.map o3)[p3.B.toNat]? = some (o3 x16)]
   have AP3 : Qan P3 := Qa6 AP2 ⟨c15, (rd0 hx16), (rdM o3 hx16), trivial⟩
   rcases itS h with ⟨c17, h⟩ | ⟨c18, h⟩
   ·obtain rfl := sj h
    exact gR hP hn [hF 4, hT 7, hh 14 (.row (o3 x16)), hT 18] [] .raw (P3 ++ [(x16 != p2) = true, (I 2) = (I 2), Qa3 (I 2) = true]) (Qa6 AP3 ⟨c17, rfl, rfl, trivial⟩)
   ·obtain rfl := sj h
    exact gR hP hn [hF 4, hT 7, hh 14 (.row (o3 x16)), hF 18] [] .raw (P3 ++ [(x16 != p2) = false, (I 0) = (I 0), Qa3 (I 0) = true]) (Qa6 AP3 ⟨c18, rfl, rfl, trivial⟩)
  ·let P4 : List Prop := P2 ++ [(p3.Code == 16) = false]
   have AP4 : Qan P4 := Qa6 AP2 ⟨c19, trivial⟩
   rcases itS h with ⟨c20, h⟩ | ⟨c24, h⟩
   ·obtain ⟨r21, hr21, h⟩ := bnS h
    let Z0 := AV.tup [(I r21.1), (B r21.2)]
    let H5 : List Hn := [hF 4, hF 7, hT 10, hh 13 (.callV [[]] Z0)]
    let P6 : List Prop := P4 ++ [Z1 = true, Qa4 Tryz.prog 205 [(AV.rop ([W0, W1, W2] ++ (r44 p1)) 3), (AV.agg ((r70 x4)))] Z0, Qa3 Z0 = true]
    have AP6 : Qan P6 := Qa6 AP4 ⟨c20, (Qgm hr21), rfl, trivial⟩
    rcases itS h with ⟨c22, h⟩ | ⟨c23, h⟩
    ·obtain rfl := sj h
     exact gR hP hn (H5 ++ [hT 21]) [] .raw (P6 ++ [(!r21.2) = true, (I 3) = (I 3), Qa3 (I 3) = true]) (Qa6 AP6 ⟨c22, rfl, rfl, trivial⟩)
    ·obtain rfl := sj h
     exact gR hP hn (H5 ++ [hF 21]) [] .raw (P6 ++ [(!r21.2) = false, (I 0) = (I 0), Qa3 (I 0) = true]) (Qa6 AP6 ⟨c23, rfl, rfl, trivial⟩)
   ·rcases itS h with ⟨c25, h⟩ | ⟨c28, h⟩
    ·let P7 : List Prop := P4 ++ [Z1 = false, (p3.Code == 14) = true, AV.lit (.int .i64 (((p1.Threads.map r70).length : Nat) : Int)) = (I Z2)]
     have AP7 : Qan P7 := Qa6 AP4 ⟨c24, c25, (Qbw r70), trivial⟩
     rcases itS h with ⟨c26, h⟩ | ⟨c27, h⟩
     ·obtain rfl := sj h
      exact gR hP hn [hF 4, hF 7, hF 10, hT 13, hO 18 (I Z2), hT 20] [] .raw (P7 ++ [(Z2 == 5) = true, (I 4) = (I 4), Qa3 (I 4) = true]) (Qa6 AP7 ⟨c26, rfl, rfl, trivial⟩)
     ·obtain rfl := sj h
      exact gR hP hn [hF 4, hF 7, hF 10, hT 13, hO 18 (I Z2), hF 20] [] .raw (P7 ++ [(Z2 == 5) = false, (I 0) = (I 0), Qa3 (I 0) = true]) (Qa6 AP7 ⟨c27, rfl, rfl, trivial⟩)
    ·obtain rfl := sj h
     exact gR hP hn [hF 4, hF 7, hF 10, hF 13] [] .raw (P4 ++ [Z1 = false, (p3.Code == 14) = false, (I 0) = (I 0), Qa3 (I 0) = true]) (Qa6 AP4 ⟨c24, c28, rfl, rfl, trivial⟩)
theorem Qjz {p1 : Qa1} {p2 : Int} {p3 : GOp} {W0 W1 W2 : AV} {r : Int} (h : Qcn p1 p2 p3 = some r) : Qa4 Tryz.prog 165 [(AV.rop ([W0, W1, W2] ++ (r44 p1)) 3), (I p2), (AV.agg ((Qbi p3)))] (I r) := by
 refine gM Tryz.func165 83 Xep fun E hP hn hx => ?_
 unfold Qcn at h
 obtain ⟨x4, hx4, h⟩ := bnS h
 obtain ⟨r5, hr5, h⟩ := bnS h
 let Z0 := AV.tup [(I r5.1), (I r5.2)]; let Z1 := (x4.Stack.length : Int); let Z2 := (((x4.Stack.map Qae).length : Nat) : Int); let Z3 := B (decide (Z1 < r5.1)); let Z4 := decide ((w64 ((w64 (Z1 - r5.1)) + r5.2)) > 8)
 let H1 : List Hn := [hW 0 1001, hh 7 (.row (r70 x4)), hW 9 1002, hh 12 (.callV [[]] Z0), hO 20 (I Z1)]
 let P2 : List Prop := [(0 : Int) ≤ p2, (p1.Threads.map r70)[p2.toNat]? = some (r70 x4), Qa4 Tryz.prog 206 [(AV.agg ((Qbi p3)))] Z0, Qa3 Z0 = true, AV.lit (.int .i64 Z2) = (I Z1)]
 have AP2 : Qan P2 := ⟨(rd0 hx4), (rdM r70 hx4), (Qmt hr5), rfl, (Qbw Qae), trivial⟩
 rcases itS h with ⟨c6, h⟩ | ⟨c7, h⟩
 ·obtain rfl := sj h
  exact gR hP hn (H1 ++ [hO 23 (B true)]) [] .raw (P2 ++ [Z3 = (B true), (I 1) = (I 1), Qa3 (I 1) = true]) (Qa6 AP2 ⟨(Qax c6), rfl, rfl, trivial⟩)
 ·let P3 : List Prop := P2 ++ [Z3 = (B false), AV.lit (.int .i64 Z2) = (I Z1)]
  have AP3 : Qan P3 := Qa6 AP2 ⟨(Qax c7), (Qbw Qae), trivial⟩
  rcases itS h with ⟨c8, h⟩ | ⟨c9, h⟩
  ·obtain rfl := sj h
   exact gR hP hn (H1 ++ [hO 23 (B false), hO 26 (I Z1), hT 33]) [] .raw (P3 ++ [Z4 = true, (I 1) = (I 1), Qa3 (I 1) = true]) (Qa6 AP3 ⟨c8, rfl, rfl, trivial⟩)
  ·exact gT hP hn hx (H1 ++ [hO 23 (B false), hO 26 (I Z1), hF 33]) [(1001, 1), (1002, 2)] [0, 1, 5, 7] [] (P3 ++ [Z4 = false, Qac [(1001, 1), (1002, 2)] [((Qbi p3))], Qac [(1001, 1), (1002, 2)] [((r70 x4))]]) (Qa6 AP3 ⟨c9, (rok rfl), (rok (Qb2 t70 x4)), trivial⟩) (Qim (W0 := W0) (W1 := W1) (W2 := W2) hP hn hx p1 p2 p3 x4  _ h)
end Go.Proofs.YtemmdkcpcjidmaaGreat
