/- Functions as plain data, and that the code comes to them; no condition. -/

import Derived.Test.YtjcaompblpglcaaGreatGC
set_option linter.unusedVariables false
set_option maxRecDepth 100000
namespace Go.Proofs.YtjcaompblpglcaaGreat
open Go Go.T
noncomputable def Xkj : Code := match Tryz.f35.body with | some c => c | none => .skip
noncomputable def Qhg (p1 : Qaf) (p2 : (List Int)) (p3 : Int) : Option (Qcy × Bool) :=
 Option.bind (Qhj p1) fun r4 =>
 if (!r4) = true then
  some ((Qcy.mk 0 [] [] (Qa2.mk [] [] [] 0)), false)
 else
  Option.bind (Qic p2) fun r7 =>
  if (!r7) = true then
   some ((Qcy.mk 0 [] [] (Qa2.mk [] [] [] 0)), false)
  else
   Option.bind (Qdm p3 0 200) fun r10 =>
   if (!r10) = true then
    some ((Qcy.mk 0 [] [] (Qa2.mk [] [] [] 0)), false)
   else
    Option.bind (Qmv p1 p2 p3) fun r13 =>
    some ((Qcy.mk r13.Code r13.Trace r13.Picks (Qa2.mk r13.End.Threads r13.End.Cells r13.End.Owner r13.End.Fault)), true)
theorem Qtu {p1 : Qaf} {p2 : (List Int)} {p3 : Int} {r : (Qcy × Bool)} (h : Qhg p1 p2 p3 = some r) : Qa5 Tryz.prog 35 [(AV.agg ((r34 p1))), (AV.ro 1 (p2.map o3)), (I p3)] (AV.tup [(AV.agg (o70 r.1)), (B r.2)]) := by
 refine gM Tryz.func35 26 Xkj fun E hP hn hx => ?_
 unfold Qhg at h
 obtain ⟨r4, hr4, h⟩ := bnS h
 let Z0 := B true; let Z1 := I 0; let Z2 := B false; let Z3 := AV.ro 1 (p2.map o3)
 let H1 : List Hn := [hW 0 1001, hW 1 1002, hh 4 (.callV [[]] (B r4))]
 let P2 : List Prop := [Qa5 Tryz.prog 41 [(AV.agg ((r34 p1)))] (B r4), Qa4 (B r4) = true]
 have AP2 : Qal P2 := ⟨(Qsw hr4), rfl, trivial⟩
 rcases itS h with ⟨c5, h⟩ | ⟨c6, h⟩
 ·obtain rfl := sj h
  exact gR hP hn (H1 ++ [hO 6 Z0]) [] (.agg [.agg [.raw, .own, .own, .own, .own, .own, .raw], .raw]) (P2 ++ [(B (!r4)) = Z0, Z1 = Z1, Qa4 Z1 = true, Z1 = Z1, Qa4 Z1 = true, Z2 = Z2, Qa4 Z2 = true]) (Qa9 AP2 ⟨(Qb7 c5), rfl, rfl, rfl, rfl, rfl, rfl, trivial⟩)
 ·obtain ⟨r7, hr7, h⟩ := bnS h
  let H3 : List Hn := H1 ++ [hO 6 Z2, hh 8 (.callV [] (B r7))]
  let P4 : List Prop := P2 ++ [(B (!r4)) = Z2, Qa5 Tryz.prog 93 [Z3] (B r7), Qa4 (B r7) = true]
  have AP4 : Qal P4 := Qa9 AP2 ⟨(Qb7 c6), (Qu4 hr7), rfl, trivial⟩
  rcases itS h with ⟨c8, h⟩ | ⟨c9, h⟩
  ·obtain rfl := sj h
   exact gR hP hn (H3 ++ [hO 11 Z0]) [] (.agg [.agg [.raw, .own, .own, .own, .own, .own, .raw], .raw]) (P4 ++ [(B (!r7)) = Z0, Z1 = Z1, Qa4 Z1 = true, Z1 = Z1, Qa4 Z1 = true, Z2 = Z2, Qa4 Z2 = true]) (Qa9 AP4 ⟨(Qb7 c8), rfl, rfl, rfl, rfl, rfl, rfl, trivial⟩)
  ·obtain ⟨r10, hr10, h⟩ := bnS h
   let P5 : List Prop := P4 ++ [(B (!r7)) = Z2, Qa5 Tryz.prog 44 [(I p3), Z1, (I 200)] (B r10), Qa4 (B r10) = true]
   have AP5 : Qal P5 := Qa9 AP4 ⟨(Qb7 c9), (Qdq hr10), rfl, trivial⟩
   rcases itS h with ⟨c11, h⟩ | ⟨c12, h⟩
   ·obtain rfl := sj h
    exact gR hP hn (H3 ++ [hO 11 Z2, hh 13 (.callV [] (B r10)), hT 16]) [] (.agg [.agg [.raw, .own, .own, .own, .own, .own, .raw], .raw]) (P5 ++ [(!r10) = true, Z1 = Z1, Qa4 Z1 = true, Z1 = Z1, Qa4 Z1 = true, Z2 = Z2, Qa4 Z2 = true]) (Qa9 AP5 ⟨c11, rfl, rfl, rfl, rfl, rfl, rfl, trivial⟩)
   ·obtain ⟨r13, hr13, h⟩ := bnS h
    obtain rfl := sj h
    exact (let Z4 := AV.agg (o70 r13); let Z5 := r13.Trace.map o59; let Z6 := r13.Picks.map o3; let Z7 := r13.End.Threads.map Qaa; let Z8 := r13.End.Cells.map Qae; let Z9 := r13.End.Owner.map o3; let Z10 := I r13.End.Fault; gR hP hn (H3 ++ [hO 11 Z2, hh 13 (.callV [] (B r10)), hF 16, hh 20 (.call [[]] Z4 [1003, 1004, 1005, 1006, 1007])]) [] (.agg [.agg [.raw, .own, .own, .own, .own, .own, .raw], .raw]) (P5 ++ [(!r10) = false, Qa5 Tryz.prog 94 [(AV.agg ((r34 p1))), Z3, (I p3)] Z4, Qca Z4 = true, (I r13.Code) = (I r13.Code), Qa4 (I r13.Code) = true, Qa1 (Z5.take Z5.length) = true, Z5.take Z5.length = Z5, Qa3 Z5 = true, Qa1 (Z6.take Z6.length) = true, Z6.take Z6.length = Z6, Qa3 Z6 = true, Qa1 (Z7.take Z7.length) = true, Z7.take Z7.length = Z7, Qa3 Z7 = true, Qa1 (Z8.take Z8.length) = true, Z8.take Z8.length = Z8, Qa3 Z8 = true, Qa1 (Z9.take Z9.length) = true, Z9.take Z9.length = Z9, Qa3 Z9 = true, Z10 = Z10, Qa4 Z10 = true, Z0 = Z0, Qa4 Z0 = true]) (Qa9 AP5 ⟨c12, (Qwx hr13), (by simp +zetaDelta only [Qca, Qbi, Qa7 n3, Qa7 n59, Qa7 Qen, Qa7 Qgn, o70, Bool.and_self]), rfl, rfl, (Qb2 t59), Qb1, (Qa7 n59), (Qb2 t3), Qb1, (Qa7 n3), (Qb2 Qch), Qb1, (Qa7 Qgn), (Qb2 Qbo), Qb1, (Qa7 Qen), (Qb2 t3), Qb1, (Qa7 n3), rfl, rfl, rfl, rfl, trivial⟩))
noncomputable def Xfr : Code := match Tryz.f7.body with | some c => c | none => .skip
noncomputable def Qdf  (r14 : (Qcy × Bool)) (r54 : (Int × (List Qad) × (List Int) × (List Qa0) × (List Nat) × (List Int)))  : Option Bool :=
 Option.bind (Qh1 (Qcy.mk r14.1.Code r54.2.1 r54.2.2.1 (Qa2.mk r54.2.2.2.1 r54.2.2.2.2.1 r54.2.2.2.2.2 r14.1.End.Fault)) 1) fun r76 =>
 if (decide (r76 < 0)) = true then
  some false
 else
  if (r76 != r54.1) = true then
   some false
  else
   some true
theorem Qkk {E : Env} (hP : E.P = Tryz.prog) (hn : E.n = 122) (hx : FX E []) (r14 : (Qcy × Bool)) (r54 : (Int × (List Qad) × (List Int) × (List Qa0) × (List Nat) × (List Int)))   (r : Bool) (h : Qdf r14 r54  = some r) : WAt E Xfr (FQ (Qf3 Θ Tryz.f7.results.toList [] [] (B r) E)) [true, true, true, true, true, true, true, true, true, true, true, true, true, true, true, true, true, true, true, true, true, true, true, false, true, true] ⟨[(12, (AV.ptr 1 0 0)), (15, (I r54.1))], [(1, some ⟨70, 7, [[(I r14.1.Code), (AV.own 59 5 (r54.2.1.map o59)), (AV.own 3 1 (r54.2.2.1.map o3)), (AV.own 179 6 (r54.2.2.2.1.map Qaa)), (AV.own 142 1 (r54.2.2.2.2.1.map Qae)), (AV.own 3 1 (r54.2.2.2.2.2.map o3)), (I r14.1.End.Fault)]]⟩)], [1, JJ]⟩ := by
 unfold Qdf at h
 obtain ⟨r76, hr76, h⟩ := bnS h
 let Z0 := I r14.1.Code; let Z1 := r54.2.1.map o59; let Z2 := r54.2.2.1.map o3; let Z3 := AV.own 3 1 Z2; let Z4 := r54.2.2.2.1.map Qaa; let Z5 := AV.own 179 6 Z4; let Z6 := r54.2.2.2.2.1.map Qae; let Z7 := AV.own 142 1 Z6; let Z8 := r54.2.2.2.2.2.map o3; let Z9 := AV.own 3 1 Z8; let Z10 := I r14.1.End.Fault; let Z11 := [Z0, (AV.own 59 5 Z1), Z3, Z5, Z7, Z9, Z10]; let Z12 := AV.sl 1001 0 Z1.length; let Z13 := [Z0, Z12, Z3, Z5, Z7, Z9, Z10]; let Z14 := AV.sl 1002 0 Z2.length; let Z15 := [Z0, Z12, Z14, Z5, Z7, Z9, Z10]; let Z16 := AV.sl 1003 0 Z4.length; let Z17 := [Z0, Z12, Z14, Z16, Z7, Z9, Z10]; let Z18 := AV.sl 1004 0 Z6.length; let Z19 := [Z0, Z12, Z14, Z16, Z18, Z9, Z10]; let Z20 := AV.sl 1005 0 Z8.length; let Z21 := [[Z0, Z12, Z14, Z16, Z18, Z20, Z10]]; let Z22 := r54.2.2.2.1.map Qb5; let Z23 := decide (r76 < 0); let Z24 := B false
 let H1 : List Hn := [hh 1 (.unpack 1 1001 0 1 Z11 59 5 Z1 [Z13]), hh 1 (.unpack 1 1002 0 2 Z13 3 1 Z2 [Z15]), hh 1 (.unpack 1 1003 0 3 Z15 179 6 Z4 [Z17]), hh 1 (.unpack 1 1004 0 4 Z17 142 1 Z6 [Z19]), hh 1 (.unpack 1 1005 0 5 Z19 3 1 Z8 Z21), hh 3 (.callV [[], Z1, Z2, Z22, Z6, Z8] (I r76))]
 let P2 : List Prop := [[Z11][0]? = some Z11, Z11[1]? = some (AV.own 59 5 Z1), 0 < 5, [Z11].set 0 (Z11.set 1 Z12) = [Z13], [Z13][0]? = some Z13, Z13[2]? = some Z3, 0 < 1, [Z13].set 0 (Z13.set 2 Z14) = [Z15], [Z15][0]? = some Z15, Z15[3]? = some Z5, 0 < 6, [Z15].set 0 (Z15.set 3 Z16) = [Z17], [Z17][0]? = some Z17, Z17[4]? = some Z7, 0 < 1, [Z17].set 0 (Z17.set 4 Z18) = [Z19], [Z19][0]? = some Z19, Z19[5]? = some Z9, 0 < 1, [Z19].set 0 (Z19.set 5 Z20) = Z21, Qa5 Tryz.prog 34 [(AV.agg [Z0, (AV.ro 5 Z1), (AV.ro 1 Z2), (AV.ro 6 Z22), (AV.ro 1 Z6), (AV.ro 1 Z8), Z10]), (I 1)] (I r76), Qa4 (I r76) = true, Frz ((Z1.drop 0).take Z1.length) Z1, Frz ((Z2.drop 0).take Z2.length) Z2, Frz ((Z4.drop 0).take Z4.length) Z22, Frz ((Z6.drop 0).take Z6.length) Z6, Frz ((Z8.drop 0).take Z8.length) Z8]
 have AP2 : Qal P2 := ⟨rfl, rfl, (by decide), rfl, rfl, rfl, (by decide), rfl, rfl, rfl, (by decide), rfl, rfl, rfl, (by decide), rfl, rfl, rfl, (by decide), rfl, (Qo4 hr76), rfl, (Qfi t59 z59), (Qfi t3 z3), (Qfi Qch Qus), (Qfi Qbo Qqh), (Qfi t3 z3), trivial⟩
 rcases itS h with ⟨c77, h⟩ | ⟨c78, h⟩
 ·obtain rfl := sj h
  exact gR hP hn (H1 ++ [hT 7]) [] .raw (P2 ++ [Z23 = true, Z24 = Z24, Qa4 Z24 = true]) (Qa9 AP2 ⟨c77, rfl, rfl, trivial⟩)
 ·rcases itS h with ⟨c79, h⟩ | ⟨c80, h⟩
  ·obtain rfl := sj h
   exact gR hP hn (H1 ++ [hF 7, hT 11]) [] .raw (P2 ++ [Z23 = false, (r76 != r54.1) = true, Z24 = Z24, Qa4 Z24 = true]) (Qa9 AP2 ⟨c78, c79, rfl, rfl, trivial⟩)
  ·obtain rfl := sj h
   exact gR hP hn (H1 ++ [hF 7, hF 11]) [] .raw (P2 ++ [Z23 = false, (r76 != r54.1) = false, (B true) = (B true), Qa4 (B true) = true]) (Qa9 AP2 ⟨c78, c80, rfl, rfl, trivial⟩)
noncomputable def Qdc  (p1 : Qaf) (p2 : (List Int)) (p3 : Int) (r11 : (Qcy × Bool)) (r14 : (Qcy × Bool))  : Option Bool :=
 Option.bind (Qie r14.1.Code r14.1.Trace r14.1.Picks r14.1.End.Threads r14.1.End.Cells r14.1.End.Owner r14.1.End.Fault 1) fun r54 =>
 Option.bind (Qdl r14.1.Trace r54.2.1) fun q55 =>
 Option.bind (Qdl r14.1.Picks r54.2.2.1) fun q56 =>
 Option.bind (Qdl r14.1.End.Threads r54.2.2.2.1) fun q57 =>
 Option.bind (Qdl r14.1.End.Cells r54.2.2.2.2.1) fun q58 =>
 Option.bind (Qdl r14.1.End.Owner r54.2.2.2.2.2) fun q59 =>
 Option.bind (Qh1 (Qcy.mk r14.1.Code r54.2.1 r54.2.2.1 (Qa2.mk r54.2.2.2.1 r54.2.2.2.2.1 r54.2.2.2.2.2 r14.1.End.Fault)) 1) fun r60 =>
 if (decide (r60 < 0)) = true then
  some false
 else
  if (r60 != r54.1) = true then
   some false
  else
   Option.bind (Qfw p1) fun r65 =>
   Option.bind (Qg1 p2) fun r66 =>
   Option.bind (Qgi (Qaf.mk r65.Cells r65.Locks r65.Conds r65.Routines) r66 p3) fun r67 =>
   Option.bind (Qi2 (Qcy.mk r67.1.Code r67.1.Trace r67.1.Picks (Qa2.mk r67.1.End.Threads r67.1.End.Cells r67.1.End.Owner r67.1.End.Fault)) (Qcy.mk r11.1.Code r11.1.Trace r11.1.Picks (Qa2.mk r11.1.End.Threads r11.1.End.Cells r11.1.End.Owner r11.1.End.Fault))) fun r71 =>
   if (!r71) = true then
    some false
   else
    if (!(r67.2 == r11.2)) = true then
     some false
    else
     Qdf r14 r54
theorem Qkp {E : Env} (hP : E.P = Tryz.prog) (hn : E.n = 122) (hx : FX E []) (p1 : Qaf) (p2 : (List Int)) (p3 : Int) (r11 : (Qcy × Bool)) (r14 : (Qcy × Bool))   (r : Bool) (h : Qdc p1 p2 p3 r11 r14  = some r) : WAt E Xfr (FQ (Qf3 Θ Tryz.f7.results.toList [] [] (B r) E)) [true, true, true, true, true, true, true, true, true, true, true, true, true, true, true, false, true, true] ⟨[(1, (AV.ro 1 (p2.map o3))), (2, (I p3)), (3, (AV.ptr 1 0 0)), (8, (AV.ptr 2 0 0)), (9, (B r11.2)), (12, (AV.ptr 3 0 0))], [(1, some ⟨24, 4, [((r24 p1))]⟩), (2, some ⟨70, 7, [[(I r11.1.Code), (AV.own 59 5 (r11.1.Trace.map o59)), (AV.own 3 1 (r11.1.Picks.map o3)), (AV.own 179 6 (r11.1.End.Threads.map Qaa)), (AV.own 142 1 (r11.1.End.Cells.map Qae)), (AV.own 3 1 (r11.1.End.Owner.map o3)), (I r11.1.End.Fault)]]⟩), (3, some ⟨70, 7, [[(I r14.1.Code), (AV.own 59 5 (r14.1.Trace.map o59)), (AV.own 3 1 (r14.1.Picks.map o3)), (AV.own 179 6 (r14.1.End.Threads.map Qaa)), (AV.own 142 1 (r14.1.End.Cells.map Qae)), (AV.own 3 1 (r14.1.End.Owner.map o3)), (I r14.1.End.Fault)]]⟩)], [1, 2, 3, JJ]⟩ := by
 unfold Qdc at h
 obtain ⟨r54, hr54, h⟩ := bnS h
 obtain ⟨q55, hq55, h⟩ := bnS h
 obtain ⟨q56, hq56, h⟩ := bnS h
 obtain ⟨q57, hq57, h⟩ := bnS h
 obtain ⟨q58, hq58, h⟩ := bnS h
 obtain ⟨q59, hq59, h⟩ := bnS h
 obtain ⟨r60, hr60, h⟩ := bnS h
 let Z0 := I r14.1.Code; let Z1 := r14.1.Trace.map o59; let Z2 := r14.1.Picks.map o3; let Z3 := AV.own 3 1 Z2; let Z4 := r14.1.End.Threads.map Qaa; let Z5 := AV.own 179 6 Z4; let Z6 := r14.1.End.Cells.map Qae; let Z7 := AV.own 142 1 Z6; let Z8 := r14.1.End.Owner.map o3; let Z9 := AV.own 3 1 Z8; let Z10 := I r14.1.End.Fault; let Z11 := [Z0, (AV.own 59 5 Z1), Z3, Z5, Z7, Z9, Z10]; let Z12 := AV.sl 1001 0 Z1.length; let Z13 := [Z0, Z12, Z3, Z5, Z7, Z9, Z10]; let Z14 := AV.sl 1002 0 Z2.length; let Z15 := [Z0, Z12, Z14, Z5, Z7, Z9, Z10]; let Z16 := AV.sl 1003 0 Z4.length; let Z17 := [Z0, Z12, Z14, Z16, Z7, Z9, Z10]; let Z18 := AV.sl 1004 0 Z6.length; let Z19 := [Z0, Z12, Z14, Z16, Z18, Z9, Z10]; let Z20 := AV.sl 1005 0 Z8.length; let Z21 := [Z0, Z12, Z14, Z16, Z18, Z20, Z10]; let Z22 := r54.2.1.map o59; let Z23 := r54.2.2.1.map o3; let Z24 := r54.2.2.2.1.map Qaa; let Z25 := r54.2.2.2.2.1.map Qae; let Z26 := r54.2.2.2.2.2.map o3; let Z27 := I r54.1; let Z28 := r54.2.2.2.1.map Qb5; let Z29 := rtf (Qi7 [(0, 1001), (1, 1002), (2, 1003), (3, 1004), (4, 1005)] Z27) []; let Z30 := decide (r60 < 0); let Z31 := B false; let Z37 := I r11.1.Code; let Z38 := r11.1.Trace.map o59; let Z39 := r11.1.Picks.map o3; let Z40 := AV.own 3 1 Z39; let Z41 := r11.1.End.Threads.map Qaa; let Z42 := AV.own 179 6 Z41; let Z43 := r11.1.End.Cells.map Qae; let Z44 := AV.own 142 1 Z43; let Z45 := r11.1.End.Owner.map o3; let Z46 := AV.own 3 1 Z45; let Z47 := I r11.1.End.Fault; let Z48 := [Z37, (AV.own 59 5 Z38), Z40, Z42, Z44, Z46, Z47]; let Z49 := AV.sl 1014 0 Z38.length; let Z50 := [Z37, Z49, Z40, Z42, Z44, Z46, Z47]; let Z51 := AV.sl 1015 0 Z39.length; let Z52 := [Z37, Z49, Z51, Z42, Z44, Z46, Z47]; let Z53 := AV.sl 1016 0 Z41.length; let Z54 := [Z37, Z49, Z51, Z53, Z44, Z46, Z47]; let Z55 := AV.sl 1017 0 Z43.length; let Z56 := [Z37, Z49, Z51, Z53, Z55, Z46, Z47]; let Z57 := AV.sl 1018 0 Z45.length; let Z58 := [[Z37, Z49, Z51, Z53, Z55, Z57, Z47]]; let Z64 := r11.1.End.Threads.map Qb5; let Z67 := AV.own 59 5 Z22; let Z68 := [Z0, Z67, Z14, Z16, Z18, Z20, Z10]; let Z69 := AV.own 3 1 Z23; let Z70 := [Z0, Z67, Z69, Z16, Z18, Z20, Z10]; let Z71 := AV.own 179 6 Z24; let Z72 := [Z0, Z67, Z69, Z71, Z18, Z20, Z10]; let Z73 := AV.own 142 1 Z25; let Z74 := [Z0, Z67, Z69, Z71, Z73, Z20, Z10]; let Z75 := [[Z0, Z67, Z69, Z71, Z73, (AV.own 3 1 Z26), Z10]]
 let H1 : List Hn := [hh 1 (.unpack 3 1001 0 1 Z11 59 5 Z1 [Z13]), hh 1 (.unpack 3 1002 0 2 Z13 3 1 Z2 [Z15]), hh 1 (.unpack 3 1003 0 3 Z15 179 6 Z4 [Z17]), hh 1 (.unpack 3 1004 0 4 Z17 142 1 Z6 [Z19]), hh 1 (.unpack 3 1005 0 5 Z19 3 1 Z8 [Z21]), hh 3 (.callX [1001, 1002, 1003, 1004, 1005] [true, true, true, true, true] [⟨59, 5, Z1⟩, ⟨3, 1, Z2⟩, ⟨179, 6, Z4⟩, ⟨142, 1, Z6⟩, ⟨3, 1, Z8⟩] [⟨59, 5, Z22⟩, ⟨3, 1, Z23⟩, ⟨179, 6, Z24⟩, ⟨142, 1, Z25⟩, ⟨3, 1, Z26⟩] [[]] Z27 [] Z27 []), hh 8 (.callV [[], Z22, Z23, Z28, Z25, Z26] (I r60))]
 let P2 : List Prop := [[Z11][0]? = some Z11, Z11[1]? = some (AV.own 59 5 Z1), 0 < 5, [Z11].set 0 (Z11.set 1 Z12) = [Z13], [Z13][0]? = some Z13, Z13[2]? = some Z3, 0 < 1, [Z13].set 0 (Z13.set 2 Z14) = [Z15], [Z15][0]? = some Z15, Z15[3]? = some Z5, 0 < 6, [Z15].set 0 (Z15.set 3 Z16) = [Z17], [Z17][0]? = some Z17, Z17[4]? = some Z7, 0 < 1, [Z17].set 0 (Z17.set 4 Z18) = [Z19], [Z19][0]? = some Z19, Z19[5]? = some Z9, 0 < 1, [Z19].set 0 (Z19.set 5 Z20) = [Z21], Qco Tryz.prog 33 [⟨59, 5, Z1⟩, ⟨3, 1, Z2⟩, ⟨179, 6, Z4⟩, ⟨142, 1, Z6⟩, ⟨3, 1, Z8⟩] [(AV.agg [Z0, (AV.sl 0 0 Z1.length), (AV.sl 1 0 Z2.length), (AV.sl 2 0 Z4.length), (AV.sl 3 0 Z6.length), (AV.sl 4 0 Z8.length), Z10]), (I 1)] [true, true, true, true, true] [⟨59, 5, Z22⟩, ⟨3, 1, Z23⟩, ⟨179, 6, Z24⟩, ⟨142, 1, Z25⟩, ⟨3, 1, Z26⟩] Z27, (some (Qam.mk 59 5 Z1) = some (Qam.mk 59 5 Z1)) ∧ (some (Qam.mk 3 1 Z2) = some (Qam.mk 3 1 Z2)) ∧ (some (Qam.mk 179 6 Z4) = some (Qam.mk 179 6 Z4)) ∧ (some (Qam.mk 142 1 Z6) = some (Qam.mk 142 1 Z6)) ∧ (some (Qam.mk 3 1 Z8) = some (Qam.mk 3 1 Z8)) ∧ True, (Qa1 Z1 = true ∧ Qa3 Z1 = true) ∧ (Qa1 Z2 = true ∧ Qa3 Z2 = true) ∧ (Qa1 Z4 = true ∧ Qa3 Z4 = true) ∧ (Qa1 Z6 = true ∧ Qa3 Z6 = true) ∧ (Qa1 Z8 = true ∧ Qa3 Z8 = true) ∧ True, (Z22.length = Z1.length) ∧ (Z23.length = Z2.length) ∧ (Z24.length = Z4.length) ∧ (Z25.length = Z6.length) ∧ (Z26.length = Z8.length) ∧ True, Z29.1 = Z27, Z29.2.1 = [], Qa5 Tryz.prog 34 [(AV.agg [Z0, (AV.ro 5 Z22), (AV.ro 1 Z23), (AV.ro 6 Z28), (AV.ro 1 Z25), (AV.ro 1 Z26), Z10]), (I 1)] (I r60), Qa4 (I r60) = true, Frz ((Z22.drop 0).take Z1.length) Z22, Frz ((Z23.drop 0).take Z2.length) Z23, Frz ((Z24.drop 0).take Z4.length) Z28, Frz ((Z25.drop 0).take Z6.length) Z25, Frz ((Z26.drop 0).take Z8.length) Z26]
 have AP2 : Qal P2 := ⟨rfl, rfl, (by decide), rfl, rfl, rfl, (by decide), rfl, rfl, rfl, (by decide), rfl, rfl, rfl, (by decide), rfl, rfl, rfl, (by decide), rfl, (Qu8 hr54), ⟨rfl, rfl, rfl, rfl, rfl, trivial⟩, ⟨⟨Qa8 t59, Qa7 n59⟩, ⟨Qa8 t3, Qa7 n3⟩, ⟨Qa8 Qch, Qa7 Qgn⟩, ⟨Qa8 Qbo, Qa7 Qen⟩, ⟨Qa8 t3, Qa7 n3⟩, trivial⟩, ⟨(Qbj o59 hq55), (Qbj o3 hq56), (Qbj Qaa hq57), (Qbj Qae hq58), (Qbj o3 hq59), trivial⟩, rfl, rfl, (Qo4 hr60), rfl, (Xbw (Qbj o59 hq55).symm t59 z59), (Xbw (Qbj o3 hq56).symm t3 z3), (Xbw (Qbj Qaa hq57).symm Qch Qus), (Xbw (Qbj Qae hq58).symm Qbo Qqh), (Xbw (Qbj o3 hq59).symm t3 z3), trivial⟩
 rcases itS h with ⟨c61, h⟩ | ⟨c62, h⟩
 ·obtain rfl := sj h
  exact gR hP hn (H1 ++ [hT 12]) [] .raw (P2 ++ [Z30 = true, Z31 = Z31, Qa4 Z31 = true]) (Qa9 AP2 ⟨c61, rfl, rfl, trivial⟩)
 ·rcases itS h with ⟨c63, h⟩ | ⟨c64, h⟩
  ·obtain rfl := sj h
   exact gR hP hn (H1 ++ [hF 12, hT 16]) [] .raw (P2 ++ [Z30 = false, (r60 != r54.1) = true, Z31 = Z31, Qa4 Z31 = true]) (Qa9 AP2 ⟨c62, c63, rfl, rfl, trivial⟩)
  ·obtain ⟨r65, hr65, h⟩ := bnS h
   obtain ⟨r66, hr66, h⟩ := bnS h
   obtain ⟨r67, hr67, h⟩ := bnS h
   obtain ⟨r71, hr71, h⟩ := bnS h
   let Z32 := AV.agg (o34 r65); let Z33 := r66.map o3; let Z34 := AV.own 3 1 Z33; let Z35 := r65.Routines.map Qgx; let Z36 := AV.tup [(AV.agg (o70 r67.1)), (B r67.2)]; let Z59 := r67.1.Trace.map o59; let Z60 := r67.1.Picks.map o3; let Z61 := r67.1.End.Threads.map Qb5; let Z62 := r67.1.End.Cells.map Qae; let Z63 := r67.1.End.Owner.map o3; let Z65 := r65.Routines.map Qis; let Z66 := r67.1.End.Threads.map Qaa
   let H3 : List Hn := H1 ++ [hF 12, hF 16, hh 18 (.call [[]] Z32 [1006]), hh 20 (.call [] Z34 [1007]), hh 22 (.call [[], Z35, Z33] Z36 [1008, 1009, 1010, 1011, 1012]), hW 26 1013, hh 30 (.unpack 2 1014 0 1 Z48 59 5 Z38 [Z50]), hh 30 (.unpack 2 1015 0 2 Z50 3 1 Z39 [Z52]), hh 30 (.unpack 2 1016 0 3 Z52 179 6 Z41 [Z54]), hh 30 (.unpack 2 1017 0 4 Z54 142 1 Z43 [Z56]), hh 30 (.unpack 2 1018 0 5 Z56 3 1 Z45 Z58), hh 31 (.callV [[], Z59, Z60, Z61, Z62, Z63, [], Z38, Z39, Z64, Z43, Z45] (B r71))]
   let P4 : List Prop := P2 ++ [Z30 = false, (r60 != r54.1) = false, Qa5 Tryz.prog 15 [(AV.agg ((r24 p1)))] Z32, Qca Z32 = true, Qa5 Tryz.prog 28 [(AV.ro 1 (p2.map o3))] Z34, Qca Z34 = true, Qa5 Tryz.prog 36 [(AV.agg [(I r65.Cells), (I r65.Locks), (I r65.Conds), (AV.ro 1 Z35)]), (AV.ro 1 Z33), (I p3)] Z36, Qca Z36 = true, Frz ((Z65.drop 0).take Z65.length) Z35, Frz ((Z33.drop 0).take Z33.length) Z33, [Z48][0]? = some Z48, Z48[1]? = some (AV.own 59 5 Z38), 0 < 5, [Z48].set 0 (Z48.set 1 Z49) = [Z50], [Z50][0]? = some Z50, Z50[2]? = some Z40, 0 < 1, [Z50].set 0 (Z50.set 2 Z51) = [Z52], [Z52][0]? = some Z52, Z52[3]? = some Z42, 0 < 6, [Z52].set 0 (Z52.set 3 Z53) = [Z54], [Z54][0]? = some Z54, Z54[4]? = some Z44, 0 < 1, [Z54].set 0 (Z54.set 4 Z55) = [Z56], [Z56][0]? = some Z56, Z56[5]? = some Z46, 0 < 1, [Z56].set 0 (Z56.set 5 Z57) = Z58, Qa5 Tryz.prog 30 [(AV.agg [(I r67.1.Code), (AV.ro 5 Z59), (AV.ro 1 Z60), (AV.ro 6 Z61), (AV.ro 1 Z62), (AV.ro 1 Z63), (I r67.1.End.Fault)]), (AV.agg [Z37, (AV.ro 5 Z38), (AV.ro 1 Z39), (AV.ro 6 Z64), (AV.ro 1 Z43), (AV.ro 1 Z45), Z47])] (B r71), Qa4 (B r71) = true, Frz ((Z59.drop 0).take Z59.length) Z59, Frz ((Z60.drop 0).take Z60.length) Z60, Frz ((Z66.drop 0).take Z66.length) Z61, Frz ((Z62.drop 0).take Z62.length) Z62, Frz ((Z63.drop 0).take Z63.length) Z63, Frz ((Z38.drop 0).take Z38.length) Z38, Frz ((Z39.drop 0).take Z39.length) Z39, Frz ((Z41.drop 0).take Z41.length) Z64, Frz ((Z43.drop 0).take Z43.length) Z43, Frz ((Z45.drop 0).take Z45.length) Z45]
   have AP4 : Qal P4 := Qa9 AP2 ⟨c62, c64, (Qix hr65), (by simp +zetaDelta only [Qca, Qbi, Qa7 Xcr, o34, Bool.and_self]), (Qj2 hr66), (by simp +zetaDelta only [Qca, Qbi, Qa7 n3, Bool.and_self]), (Qm0 hr67), (by simp +zetaDelta only [Qca, Qbi, Qa7 n3, Qa7 n59, Qa7 Qen, Qa7 Qgn, o70, Bool.and_self]), (Qfi Qyh Xlj), (Qfi t3 z3), rfl, rfl, (by decide), rfl, rfl, rfl, (by decide), rfl, rfl, rfl, (by decide), rfl, rfl, rfl, (by decide), rfl, rfl, rfl, (by decide), rfl, (Qm7 hr71), rfl, (Qfi t59 z59), (Qfi t3 z3), (Qfi Qch Qus), (Qfi Qbo Qqh), (Qfi t3 z3), (Qfi t59 z59), (Qfi t3 z3), (Qfi Qch Qus), (Qfi Qbo Qqh), (Qfi t3 z3), trivial⟩
   rcases itS h with ⟨c72, h⟩ | ⟨c73, h⟩
   ·obtain rfl := sj h
    exact gR hP hn (H3 ++ [hO 33 (B true)]) [] .raw (P4 ++ [(B (!r71)) = (B true), Z31 = Z31, Qa4 Z31 = true]) (Qa9 AP4 ⟨(Qb7 c72), rfl, rfl, trivial⟩)
   ·rcases itS h with ⟨c74, h⟩ | ⟨c75, h⟩
    ·obtain rfl := sj h
     exact gR hP hn (H3 ++ [hO 33 Z31, hT 38]) [] .raw (P4 ++ [(B (!r71)) = Z31, (!(r67.2 == r11.2)) = true, Z31 = Z31, Qa4 Z31 = true]) (Qa9 AP4 ⟨(Qb7 c73), c74, rfl, rfl, trivial⟩)
    ·exact gT hP hn hx (H3 ++ [hO 33 Z31, hF 38, hh 39 (.pack 3 1001 0 1 Z21 [Z68]), hh 39 (.pack 3 1002 0 2 Z68 [Z70]), hh 39 (.pack 3 1003 0 3 Z70 [Z72]), hh 39 (.pack 3 1004 0 4 Z72 [Z74]), hh 39 (.pack 3 1005 0 5 Z74 Z75)]) [(3, 1)] [12, 15] [] (P4 ++ [(B (!r71)) = Z31, (!(r67.2 == r11.2)) = false, [Z21][0]? = some Z21, Z21[1]? = some (AV.sl 1001 0 Z22.length), Qa1 Z22 = true, [Z21].set 0 (Z21.set 1 Z67) = [Z68], [Z68][0]? = some Z68, Z68[2]? = some (AV.sl 1002 0 Z23.length), Qa1 Z23 = true, [Z68].set 0 (Z68.set 2 Z69) = [Z70], [Z70][0]? = some Z70, Z70[3]? = some (AV.sl 1003 0 Z24.length), Qa1 Z24 = true, [Z70].set 0 (Z70.set 3 Z71) = [Z72], [Z72][0]? = some Z72, Z72[4]? = some (AV.sl 1004 0 Z25.length), Qa1 Z25 = true, [Z72].set 0 (Z72.set 4 Z73) = [Z74], [Z74][0]? = some Z74, Z74[5]? = some (AV.sl 1005 0 Z26.length), Qa1 Z26 = true, [Z74].set 0 (Z74.set 5 (AV.own 3 1 Z26)) = Z75, Qab [(3, 1)] Z75]) (Qa9 AP4 ⟨(Qb7 c73), c75, rfl, (pkS (Qbj o59 hq55).symm), (Qa8 t59), rfl, rfl, (pkS (Qbj o3 hq56).symm), (Qa8 t3), rfl, rfl, (pkS (Qbj Qaa hq57).symm), (Qa8 Qch), rfl, rfl, (pkS (Qbj Qae hq58).symm), (Qa8 Qbo), rfl, rfl, (pkS (Qbj o3 hq59).symm), (Qa8 t3), rfl, (rok (Qay t70 (Qcy.mk r14.1.Code r54.2.1 r54.2.2.1 (Qa2.mk r54.2.2.2.1 r54.2.2.2.2.1 r54.2.2.2.2.2 r14.1.End.Fault)))), trivial⟩) (Qkk hP hn hx r14 r54  _ h)
noncomputable def Qdd  (p1 : Qaf) (p2 : (List Int)) (p3 : Int) (r11 : (Qcy × Bool)) (r12 : Qaf) (r13 : (List Int)) (r14 : (Qcy × Bool))  : Option Bool :=
 Option.bind (Qfw p1) fun r20 =>
 Option.bind (Qjg (Qaf.mk r12.Cells r12.Locks r12.Conds r12.Routines) (Qaf.mk r20.Cells r20.Locks r20.Conds r20.Routines)) fun r21 =>
 if (!r21) = true then
  some false
 else
  Option.bind (Qg1 p2) fun r30 =>
  Option.bind (Qgy r13 r30) fun r31 =>
  if (!r31) = true then
   some false
  else
   Option.bind (Qhe r12.Cells r12.Locks r12.Conds r12.Routines 1) fun r40 =>
   Option.bind (Qdl r12.Routines r40.2) fun q41 =>
   Option.bind (Qf9 r13 r40.1) fun r42 =>
   Option.bind (Qdl r13 r42.2) fun q43 =>
   if (decide (r42.1 < 0)) = true then
    some false
   else
    Option.bind (Qi2 (Qcy.mk r14.1.Code r14.1.Trace r14.1.Picks (Qa2.mk r14.1.End.Threads r14.1.End.Cells r14.1.End.Owner r14.1.End.Fault)) (Qcy.mk r11.1.Code r11.1.Trace r11.1.Picks (Qa2.mk r11.1.End.Threads r11.1.End.Cells r11.1.End.Owner r11.1.End.Fault))) fun r46 =>
    if (!r46) = true then
     some false
    else
     if (!(r14.2 == r11.2)) = true then
      some false
     else
      Qdc p1 p2 p3 r11 r14
theorem Qkj {E : Env} (hP : E.P = Tryz.prog) (hn : E.n = 122) (hx : FX E []) (p1 : Qaf) (p2 : (List Int)) (p3 : Int) (r11 : (Qcy × Bool)) (r12 : Qaf) (r13 : (List Int)) (r14 : (Qcy × Bool))   (r : Bool) (h : Qdd p1 p2 p3 r11 r12 r13 r14  = some r) : WAt E Xfr (FQ (Qf3 Θ Tryz.f7.results.toList [] [] (B r) E)) [true, true, true, true, true, true, true, true, true, false, true, true] ⟨[(1, (AV.ro 1 (p2.map o3))), (2, (I p3)), (3, (AV.ptr 1 0 0)), (8, (AV.ptr 2 0 0)), (9, (B r11.2)), (10, (AV.ptr 3 0 0)), (11, (AV.sl 4 0 (List.length (r13.map o3)))), (12, (AV.ptr 5 0 0)), (13, (B r14.2))], [(1, some ⟨24, 4, [((r24 p1))]⟩), (2, some ⟨70, 7, [[(I r11.1.Code), (AV.own 59 5 (r11.1.Trace.map o59)), (AV.own 3 1 (r11.1.Picks.map o3)), (AV.own 179 6 (r11.1.End.Threads.map Qaa)), (AV.own 142 1 (r11.1.End.Cells.map Qae)), (AV.own 3 1 (r11.1.End.Owner.map o3)), (I r11.1.End.Fault)]]⟩), (3, some ⟨34, 4, [[(I r12.Cells), (I r12.Locks), (I r12.Conds), (AV.own 141 1 (r12.Routines.map Qis))]]⟩), (4, some ⟨3, 1, (r13.map o3)⟩), (5, some ⟨70, 7, [[(I r14.1.Code), (AV.own 59 5 (r14.1.Trace.map o59)), (AV.own 3 1 (r14.1.Picks.map o3)), (AV.own 179 6 (r14.1.End.Threads.map Qaa)), (AV.own 142 1 (r14.1.End.Cells.map Qae)), (AV.own 3 1 (r14.1.End.Owner.map o3)), (I r14.1.End.Fault)]]⟩)], [1, 2, 3, 4, 5, JJ]⟩ := by
 unfold Qdd at h
 obtain ⟨r20, hr20, h⟩ := bnS h
 obtain ⟨r21, hr21, h⟩ := bnS h
 let Z0 := I r12.Cells; let Z1 := I r12.Locks; let Z2 := I r12.Conds; let Z3 := r12.Routines.map Qis; let Z4 := [Z0, Z1, Z2, (AV.own 141 1 Z3)]; let Z5 := AV.sl 1001 0 Z3.length; let Z6 := AV.agg (o34 r20); let Z7 := r12.Routines.map Qgx; let Z8 := r20.Routines.map Qgx; let Z9 := AV.agg [Z0, Z1, Z2, Z5]; let Z10 := r20.Routines.map Qis; let Z11 := B false; let Z14 := r13.map o3; let Z22 := I r14.1.Code; let Z23 := r14.1.Trace.map o59; let Z24 := AV.own 59 5 Z23; let Z25 := r14.1.Picks.map o3; let Z26 := AV.own 3 1 Z25; let Z27 := r14.1.End.Threads.map Qaa; let Z28 := AV.own 179 6 Z27; let Z29 := r14.1.End.Cells.map Qae; let Z30 := AV.own 142 1 Z29; let Z31 := r14.1.End.Owner.map o3; let Z32 := AV.own 3 1 Z31; let Z33 := I r14.1.End.Fault; let Z34 := [Z22, Z24, Z26, Z28, Z30, Z32, Z33]; let Z35 := AV.sl 1004 0 Z23.length; let Z36 := [Z22, Z35, Z26, Z28, Z30, Z32, Z33]; let Z37 := AV.sl 1005 0 Z25.length; let Z38 := [Z22, Z35, Z37, Z28, Z30, Z32, Z33]; let Z39 := AV.sl 1006 0 Z27.length; let Z40 := [Z22, Z35, Z37, Z39, Z30, Z32, Z33]; let Z41 := AV.sl 1007 0 Z29.length; let Z42 := [Z22, Z35, Z37, Z39, Z41, Z32, Z33]; let Z43 := AV.sl 1008 0 Z31.length; let Z44 := [Z22, Z35, Z37, Z39, Z41, Z43, Z33]; let Z45 := I r11.1.Code; let Z46 := r11.1.Trace.map o59; let Z47 := AV.own 59 5 Z46; let Z48 := r11.1.Picks.map o3; let Z49 := AV.own 3 1 Z48; let Z50 := r11.1.End.Threads.map Qaa; let Z51 := AV.own 179 6 Z50; let Z52 := r11.1.End.Cells.map Qae; let Z53 := AV.own 142 1 Z52; let Z54 := r11.1.End.Owner.map o3; let Z55 := AV.own 3 1 Z54; let Z56 := I r11.1.End.Fault; let Z57 := [Z45, Z47, Z49, Z51, Z53, Z55, Z56]; let Z58 := AV.sl 1009 0 Z46.length; let Z59 := [Z45, Z58, Z49, Z51, Z53, Z55, Z56]; let Z60 := AV.sl 1010 0 Z48.length; let Z61 := [Z45, Z58, Z60, Z51, Z53, Z55, Z56]; let Z62 := AV.sl 1011 0 Z50.length; let Z63 := [Z45, Z58, Z60, Z62, Z53, Z55, Z56]; let Z64 := AV.sl 1012 0 Z52.length; let Z65 := [Z45, Z58, Z60, Z62, Z64, Z55, Z56]; let Z66 := AV.sl 1013 0 Z54.length; let Z67 := [Z45, Z58, Z60, Z62, Z64, Z66, Z56]; let Z68 := r14.1.End.Threads.map Qb5; let Z69 := r11.1.End.Threads.map Qb5; let Z70 := [Z45, Z47, Z60, Z62, Z64, Z66, Z56]; let Z71 := [Z45, Z47, Z49, Z62, Z64, Z66, Z56]; let Z72 := [Z45, Z47, Z49, Z51, Z64, Z66, Z56]; let Z73 := [Z45, Z47, Z49, Z51, Z53, Z66, Z56]; let Z74 := [Z22, Z24, Z37, Z39, Z41, Z43, Z33]; let Z75 := [Z22, Z24, Z26, Z39, Z41, Z43, Z33]; let Z76 := [Z22, Z24, Z26, Z28, Z41, Z43, Z33]; let Z77 := [Z22, Z24, Z26, Z28, Z30, Z43, Z33]
 let H1 : List Hn := [hh 0 (.unpack 3 1001 0 3 Z4 141 1 Z3 [[Z0, Z1, Z2, Z5]]), hh 2 (.call [[]] Z6 [1002]), hh 4 (.callV [[], Z7, [], Z8] (B r21))]
 let P2 : List Prop := [[Z4][0]? = some Z4, Z4[3]? = some (AV.own 141 1 Z3), 0 < 1, [Z4].set 0 (Z4.set 3 Z5) = [[Z0, Z1, Z2, Z5]], Qa5 Tryz.prog 15 [(AV.agg ((r24 p1)))] Z6, Qca Z6 = true, Z9 = Z9, Qa5 Tryz.prog 17 [(AV.agg [Z0, Z1, Z2, (AV.ro 1 Z7)]), (AV.agg [(I r20.Cells), (I r20.Locks), (I r20.Conds), (AV.ro 1 Z8)])] (B r21), Qa4 (B r21) = true, Frz ((Z3.drop 0).take Z3.length) Z7, Frz ((Z10.drop 0).take Z10.length) Z8]
 have AP2 : Qal P2 := ⟨rfl, rfl, (by decide), rfl, (Qix hr20), (by simp +zetaDelta only [Qca, Qbi, Qa7 Xcr, o34, Bool.and_self]), rfl, (Qvl hr21), rfl, (Qfi Qyh Xlj), (Qfi Qyh Xlj), trivial⟩
 rcases itS h with ⟨c22, h⟩ | ⟨c23, h⟩
 ·obtain rfl := sj h
  exact gR hP hn (H1 ++ [hT 6]) [] .raw (P2 ++ [(!r21) = true, Z11 = Z11, Qa4 Z11 = true]) (Qa9 AP2 ⟨c22, rfl, rfl, trivial⟩)
 ·obtain ⟨r30, hr30, h⟩ := bnS h
  obtain ⟨r31, hr31, h⟩ := bnS h
  let Z12 := r30.map o3; let Z13 := AV.own 3 1 Z12
  let H3 : List Hn := H1 ++ [hF 6, hh 9 (.call [] Z13 [1003]), hh 10 (.callV [Z14, Z12] (B r31))]
  let P4 : List Prop := P2 ++ [(!r21) = false, Qa5 Tryz.prog 28 [(AV.ro 1 (p2.map o3))] Z13, Qca Z13 = true, Qa5 Tryz.prog 31 [(AV.ro 1 Z14), (AV.ro 1 Z12)] (B r31), Qa4 (B r31) = true, Frz ((Z14.drop 0).take Z14.length) Z14, Frz ((Z12.drop 0).take Z12.length) Z12]
  have AP4 : Qal P4 := Qa9 AP2 ⟨c23, (Qj2 hr30), (by simp +zetaDelta only [Qca, Qbi, Qa7 n3, Bool.and_self]), (Qla hr31), rfl, (Qfi t3 z3), (Qfi t3 z3), trivial⟩
  rcases itS h with ⟨c32, h⟩ | ⟨c33, h⟩
  ·obtain rfl := sj h
   exact gR hP hn (H3 ++ [hT 12]) [] .raw (P4 ++ [(!r31) = true, Z11 = Z11, Qa4 Z11 = true]) (Qa9 AP4 ⟨c32, rfl, rfl, trivial⟩)
  ·obtain ⟨r40, hr40, h⟩ := bnS h
   obtain ⟨q41, hq41, h⟩ := bnS h
   obtain ⟨r42, hr42, h⟩ := bnS h
   obtain ⟨q43, hq43, h⟩ := bnS h
   let Z15 := r40.2.map Qis; let Z16 := I r40.1; let Z17 := r42.2.map o3; let Z18 := I r42.1; let Z19 := rtf (Qi7 [(0, 1001)] Z16) []; let Z20 := rtf (Qi7 [(0, 4)] Z18) []; let Z21 := B (decide (r42.1 < 0))
   let H5 : List Hn := H3 ++ [hF 12, hh 16 (.callX [1001] [true] [⟨141, 1, Z3⟩] [⟨141, 1, Z15⟩] [[]] Z16 [] Z16 []), hh 20 (.callX [4] [true] [⟨3, 1, Z14⟩] [⟨3, 1, Z17⟩] [] Z18 [] Z18 [])]
   let P6 : List Prop := P4 ++ [(!r31) = false, Qco Tryz.prog 24 [⟨141, 1, Z3⟩] [(AV.agg [Z0, Z1, Z2, (AV.sl 0 0 Z3.length)]), (I 1)] [true] [⟨141, 1, Z15⟩] Z16, (some (Qam.mk 141 1 Z3) = some (Qam.mk 141 1 Z3)) ∧ True, (Qa1 Z3 = true ∧ Qa3 Z3 = true) ∧ True, (Z15.length = Z3.length) ∧ True, Z19.1 = Z16, Z19.2.1 = [], Qco Tryz.prog 32 [⟨3, 1, Z14⟩] [(AV.sl 0 0 Z14.length), Z16] [true] [⟨3, 1, Z17⟩] Z18, (some (Qam.mk 3 1 Z14) = some (Qam.mk 3 1 Z14)) ∧ True, (Qa1 Z14 = true ∧ Qa3 Z14 = true) ∧ True, (Z17.length = Z14.length) ∧ True, Z20.1 = Z18, Z20.2.1 = []]
   have AP6 : Qal P6 := Qa9 AP4 ⟨c33, (Qsg hr40), ⟨rfl, trivial⟩, ⟨⟨Qa8 Qyh, Qa7 Xcr⟩, trivial⟩, ⟨(Qbj Qis hq41), trivial⟩, rfl, rfl, (Qk0 hr42), ⟨rfl, trivial⟩, ⟨⟨Qa8 t3, Qa7 n3⟩, trivial⟩, ⟨(Qbj o3 hq43), trivial⟩, rfl, rfl, trivial⟩
   rcases itS h with ⟨c44, h⟩ | ⟨c45, h⟩
   ·obtain rfl := sj h
    exact gR hP hn (H5 ++ [hO 24 (B true)]) [] .raw (P6 ++ [Z21 = (B true), Z11 = Z11, Qa4 Z11 = true]) (Qa9 AP6 ⟨(Qb7 c44), rfl, rfl, trivial⟩)
   ·obtain ⟨r46, hr46, h⟩ := bnS h
    let H7 : List Hn := H5 ++ [hO 24 Z11, hh 25 (.unpack 5 1004 0 1 Z34 59 5 Z23 [Z36]), hh 25 (.unpack 5 1005 0 2 Z36 3 1 Z25 [Z38]), hh 25 (.unpack 5 1006 0 3 Z38 179 6 Z27 [Z40]), hh 25 (.unpack 5 1007 0 4 Z40 142 1 Z29 [Z42]), hh 25 (.unpack 5 1008 0 5 Z42 3 1 Z31 [Z44]), hh 26 (.unpack 2 1009 0 1 Z57 59 5 Z46 [Z59]), hh 26 (.unpack 2 1010 0 2 Z59 3 1 Z48 [Z61]), hh 26 (.unpack 2 1011 0 3 Z61 179 6 Z50 [Z63]), hh 26 (.unpack 2 1012 0 4 Z63 142 1 Z52 [Z65]), hh 26 (.unpack 2 1013 0 5 Z65 3 1 Z54 [Z67]), hh 27 (.callV [[], Z23, Z25, Z68, Z29, Z31, [], Z46, Z48, Z69, Z52, Z54] (B r46))]
    let P8 : List Prop := P6 ++ [Z21 = Z11, [Z34][0]? = some Z34, Z34[1]? = some Z24, 0 < 5, [Z34].set 0 (Z34.set 1 Z35) = [Z36], [Z36][0]? = some Z36, Z36[2]? = some Z26, 0 < 1, [Z36].set 0 (Z36.set 2 Z37) = [Z38], [Z38][0]? = some Z38, Z38[3]? = some Z28, 0 < 6, [Z38].set 0 (Z38.set 3 Z39) = [Z40], [Z40][0]? = some Z40, Z40[4]? = some Z30, 0 < 1, [Z40].set 0 (Z40.set 4 Z41) = [Z42], [Z42][0]? = some Z42, Z42[5]? = some Z32, 0 < 1, [Z42].set 0 (Z42.set 5 Z43) = [Z44], [Z57][0]? = some Z57, Z57[1]? = some Z47, 0 < 5, [Z57].set 0 (Z57.set 1 Z58) = [Z59], [Z59][0]? = some Z59, Z59[2]? = some Z49, 0 < 1, [Z59].set 0 (Z59.set 2 Z60) = [Z61], [Z61][0]? = some Z61, Z61[3]? = some Z51, 0 < 6, [Z61].set 0 (Z61.set 3 Z62) = [Z63], [Z63][0]? = some Z63, Z63[4]? = some Z53, 0 < 1, [Z63].set 0 (Z63.set 4 Z64) = [Z65], [Z65][0]? = some Z65, Z65[5]? = some Z55, 0 < 1, [Z65].set 0 (Z65.set 5 Z66) = [Z67], Qa5 Tryz.prog 30 [(AV.agg [Z22, (AV.ro 5 Z23), (AV.ro 1 Z25), (AV.ro 6 Z68), (AV.ro 1 Z29), (AV.ro 1 Z31), Z33]), (AV.agg [Z45, (AV.ro 5 Z46), (AV.ro 1 Z48), (AV.ro 6 Z69), (AV.ro 1 Z52), (AV.ro 1 Z54), Z56])] (B r46), Qa4 (B r46) = true, Frz ((Z23.drop 0).take Z23.length) Z23, Frz ((Z25.drop 0).take Z25.length) Z25, Frz ((Z27.drop 0).take Z27.length) Z68, Frz ((Z29.drop 0).take Z29.length) Z29, Frz ((Z31.drop 0).take Z31.length) Z31, Frz ((Z46.drop 0).take Z46.length) Z46, Frz ((Z48.drop 0).take Z48.length) Z48, Frz ((Z50.drop 0).take Z50.length) Z69, Frz ((Z52.drop 0).take Z52.length) Z52, Frz ((Z54.drop 0).take Z54.length) Z54]
    have AP8 : Qal P8 := Qa9 AP6 ⟨(Qb7 c45), rfl, rfl, (by decide), rfl, rfl, rfl, (by decide), rfl, rfl, rfl, (by decide), rfl, rfl, rfl, (by decide), rfl, rfl, rfl, (by decide), rfl, rfl, rfl, (by decide), rfl, rfl, rfl, (by decide), rfl, rfl, rfl, (by decide), rfl, rfl, rfl, (by decide), rfl, rfl, rfl, (by decide), rfl, (Qm7 hr46), rfl, (Qfi t59 z59), (Qfi t3 z3), (Qfi Qch Qus), (Qfi Qbo Qqh), (Qfi t3 z3), (Qfi t59 z59), (Qfi t3 z3), (Qfi Qch Qus), (Qfi Qbo Qqh), (Qfi t3 z3), trivial⟩
    rcases itS h with ⟨c47, h⟩ | ⟨c48, h⟩
    ·obtain rfl := sj h
     exact gR hP hn (H7 ++ [hO 30 (B true)]) [] .raw (P8 ++ [(B (!r46)) = (B true), Z11 = Z11, Qa4 Z11 = true]) (Qa9 AP8 ⟨(Qb7 c47), rfl, rfl, trivial⟩)
    ·rcases itS h with ⟨c49, h⟩ | ⟨c50, h⟩
     ·obtain rfl := sj h
      exact gR hP hn (H7 ++ [hO 30 Z11, hT 35]) [] .raw (P8 ++ [(B (!r46)) = Z11, (!(r14.2 == r11.2)) = true, Z11 = Z11, Qa4 Z11 = true]) (Qa9 AP8 ⟨(Qb7 c48), c49, rfl, rfl, trivial⟩)
     ·exact gT hP hn hx (H7 ++ [hO 30 Z11, hF 35, hh 36 (.pack 2 1009 0 1 Z67 [Z70]), hh 36 (.pack 2 1010 0 2 Z70 [Z71]), hh 36 (.pack 2 1011 0 3 Z71 [Z72]), hh 36 (.pack 2 1012 0 4 Z72 [Z73]), hh 36 (.pack 2 1013 0 5 Z73 [Z57]), hh 36 (.pack 5 1004 0 1 Z44 [Z74]), hh 36 (.pack 5 1005 0 2 Z74 [Z75]), hh 36 (.pack 5 1006 0 3 Z75 [Z76]), hh 36 (.pack 5 1007 0 4 Z76 [Z77]), hh 36 (.pack 5 1008 0 5 Z77 [Z34])]) [(1, 1), (2, 2), (5, 3)] [1, 2, 3, 8, 9, 12] [] (P8 ++ [(B (!r46)) = Z11, (!(r14.2 == r11.2)) = false, [Z67][0]? = some Z67, Z67[1]? = some Z58, Qa1 Z46 = true, [Z67].set 0 (Z67.set 1 Z47) = [Z70], [Z70][0]? = some Z70, Z70[2]? = some Z60, Qa1 Z48 = true, [Z70].set 0 (Z70.set 2 Z49) = [Z71], [Z71][0]? = some Z71, Z71[3]? = some Z62, Qa1 Z50 = true, [Z71].set 0 (Z71.set 3 Z51) = [Z72], [Z72][0]? = some Z72, Z72[4]? = some Z64, Qa1 Z52 = true, [Z72].set 0 (Z72.set 4 Z53) = [Z73], [Z73][0]? = some Z73, Z73[5]? = some Z66, Qa1 Z54 = true, [Z73].set 0 (Z73.set 5 Z55) = [Z57], [Z44][0]? = some Z44, Z44[1]? = some Z35, Qa1 Z23 = true, [Z44].set 0 (Z44.set 1 Z24) = [Z74], [Z74][0]? = some Z74, Z74[2]? = some Z37, Qa1 Z25 = true, [Z74].set 0 (Z74.set 2 Z26) = [Z75], [Z75][0]? = some Z75, Z75[3]? = some Z39, Qa1 Z27 = true, [Z75].set 0 (Z75.set 3 Z28) = [Z76], [Z76][0]? = some Z76, Z76[4]? = some Z41, Qa1 Z29 = true, [Z76].set 0 (Z76.set 4 Z30) = [Z77], [Z77][0]? = some Z77, Z77[5]? = some Z43, Qa1 Z31 = true, [Z77].set 0 (Z77.set 5 Z32) = [Z34], Qab [(1, 1), (2, 2), (5, 3)] [((r24 p1))], Qab [(1, 1), (2, 2), (5, 3)] [Z57], Qab [(1, 1), (2, 2), (5, 3)] [Z34]]) (Qa9 AP8 ⟨(Qb7 c48), c50, rfl, rfl, (Qa8 t59), rfl, rfl, rfl, (Qa8 t3), rfl, rfl, rfl, (Qa8 Qch), rfl, rfl, rfl, (Qa8 Qbo), rfl, rfl, rfl, (Qa8 t3), rfl, rfl, rfl, (Qa8 t59), rfl, rfl, rfl, (Qa8 t3), rfl, rfl, rfl, (Qa8 Qch), rfl, rfl, rfl, (Qa8 Qbo), rfl, rfl, rfl, (Qa8 t3), rfl, (rok (Qay t24 p1)), (rok (Qay t70 (Qcy.mk r11.1.Code r11.1.Trace r11.1.Picks (Qa2.mk r11.1.End.Threads r11.1.End.Cells r11.1.End.Owner r11.1.End.Fault)))), (rok (Qay t70 (Qcy.mk r14.1.Code r14.1.Trace r14.1.Picks (Qa2.mk r14.1.End.Threads r14.1.End.Cells r14.1.End.Owner r14.1.End.Fault)))), trivial⟩) (Qkp hP hn hx p1 p2 p3 r11 r14  _ h)
noncomputable def Qd7 (p1 : Qaf) (p2 : (List Int)) (p3 : Int) : Option Bool :=
 if (decide ((p2.length : Int) > 1048576)) = true then
  some true
 else
  Option.bind (Qk3 p1 1048576) fun r6 =>
  if (decide (r6 < 0)) = true then
   some true
  else
   Option.bind (Qfw p1) fun r9 =>
   Option.bind (Qg1 p2) fun r10 =>
   Option.bind (Qhg (Qaf.mk r9.Cells r9.Locks r9.Conds r9.Routines) r10 p3) fun r11 =>
   Option.bind (Qfw p1) fun r12 =>
   Option.bind (Qg1 p2) fun r13 =>
   Option.bind (Qgi (Qaf.mk r12.Cells r12.Locks r12.Conds r12.Routines) r13 p3) fun r14 =>
   Option.bind (Qi2 (Qcy.mk r14.1.Code r14.1.Trace r14.1.Picks (Qa2.mk r14.1.End.Threads r14.1.End.Cells r14.1.End.Owner r14.1.End.Fault)) (Qcy.mk r11.1.Code r11.1.Trace r11.1.Picks (Qa2.mk r11.1.End.Threads r11.1.End.Cells r11.1.End.Owner r11.1.End.Fault))) fun r15 =>
   if (!r15) = true then
    some false
   else
    if (!(r14.2 == r11.2)) = true then
     some false
    else
     Qdd p1 p2 p3 r11 r12 r13 r14
theorem Qlu {p1 : Qaf} {p2 : (List Int)} {p3 : Int} {r : Bool} (h : Qd7 p1 p2 p3 = some r) : Qa5 Tryz.prog 7 [(AV.agg ((r24 p1))), (AV.ro 1 (p2.map o3)), (I p3)] (B r) := by
 refine gM Tryz.func7 122 Xfr fun E hP hn hx => ?_
 unfold Qd7 at h
 let Z0 := (I (p2.length : Int)); let Z1 := (decide ((p2.length : Int) > 1048576)); let Z2 := B true; let Z23 := [(AV.agg ((r24 p1)))]; let Z24 := [(AV.ro 1 (p2.map o3))]; let Z36 := B false
 let H1 : List Hn := [hW 0 1001, hO 3 Z0]
 let P2 : List Prop := [AV.lit (.int .i64 (((p2.map o3).length : Nat) : Int)) = Z0]
 have AP2 : Qal P2 := ⟨(Qcw o3), trivial⟩
 rcases itS h with ⟨c4, h⟩ | ⟨c5, h⟩
 ·obtain rfl := sj h
  exact gR hP hn (H1 ++ [hT 5]) [] .raw (P2 ++ [Z1 = true, Z2 = Z2, Qa4 Z2 = true]) (Qa9 AP2 ⟨c4, rfl, rfl, trivial⟩)
 ·obtain ⟨r6, hr6, h⟩ := bnS h
  let H3 : List Hn := H1 ++ [hF 5, hh 9 (.callV [[]] (I r6))]
  let P4 : List Prop := P2 ++ [Z1 = false, Qa5 Tryz.prog 13 [(AV.agg ((r24 p1))), (I 1048576)] (I r6), Qa4 (I r6) = true]
  have AP4 : Qal P4 := Qa9 AP2 ⟨c5, (Qvi hr6), rfl, trivial⟩
  rcases itS h with ⟨c7, h⟩ | ⟨c8, h⟩
  ·obtain rfl := sj h
   exact gR hP hn (H3 ++ [hT 13]) [] .raw (P4 ++ [(decide (r6 < 0)) = true, Z2 = Z2, Qa4 Z2 = true]) (Qa9 AP4 ⟨c7, rfl, rfl, trivial⟩)
  ·obtain ⟨r9, hr9, h⟩ := bnS h
   obtain ⟨r10, hr10, h⟩ := bnS h
   obtain ⟨r11, hr11, h⟩ := bnS h
   obtain ⟨r12, hr12, h⟩ := bnS h
   obtain ⟨r13, hr13, h⟩ := bnS h
   obtain ⟨r14, hr14, h⟩ := bnS h
   obtain ⟨r15, hr15, h⟩ := bnS h
   let Z3 := AV.agg (o34 r9); let Z4 := r10.map o3; let Z5 := AV.own 3 1 Z4; let Z6 := r9.Routines.map Qgx; let Z7 := AV.tup [(AV.agg (o70 r11.1)), (B r11.2)]; let Z8 := AV.agg (o34 r12); let Z9 := r13.map o3; let Z10 := AV.own 3 1 Z9; let Z11 := r12.Routines.map Qgx; let Z12 := AV.tup [(AV.agg (o70 r14.1)), (B r14.2)]; let Z13 := r14.1.Trace.map o59; let Z14 := r14.1.Picks.map o3; let Z15 := r14.1.End.Threads.map Qb5; let Z16 := r14.1.End.Cells.map Qae; let Z17 := r14.1.End.Owner.map o3; let Z18 := r11.1.Trace.map o59; let Z19 := r11.1.Picks.map o3; let Z20 := r11.1.End.Threads.map Qb5; let Z21 := r11.1.End.Cells.map Qae; let Z22 := r11.1.End.Owner.map o3; let Z25 := r9.Routines.map Qis; let Z26 := I r12.Cells; let Z27 := I r12.Locks; let Z28 := I r12.Conds; let Z29 := r12.Routines.map Qis; let Z30 := I r14.1.Code; let Z31 := I r14.1.End.Fault; let Z32 := I r11.1.Code; let Z33 := I r11.1.End.Fault; let Z34 := r14.1.End.Threads.map Qaa; let Z35 := r11.1.End.Threads.map Qaa; let Z37 := AV.sl 1004 0 Z18.length; let Z38 := AV.sl 1005 0 Z19.length; let Z39 := AV.sl 1006 0 Z35.length; let Z40 := AV.sl 1007 0 Z21.length; let Z41 := AV.sl 1008 0 Z22.length; let Z42 := [Z32, Z37, Z38, Z39, Z40, Z41, Z33]; let Z43 := AV.own 59 5 Z18; let Z44 := [Z32, Z43, Z38, Z39, Z40, Z41, Z33]; let Z45 := AV.own 3 1 Z19; let Z46 := [Z32, Z43, Z45, Z39, Z40, Z41, Z33]; let Z47 := AV.own 179 6 Z35; let Z48 := [Z32, Z43, Z45, Z47, Z40, Z41, Z33]; let Z49 := AV.own 142 1 Z21; let Z50 := [Z32, Z43, Z45, Z47, Z49, Z41, Z33]; let Z51 := [[Z32, Z43, Z45, Z47, Z49, (AV.own 3 1 Z22), Z33]]; let Z52 := AV.sl 1010 0 Z29.length; let Z53 := [Z26, Z27, Z28, Z52]; let Z54 := [[Z26, Z27, Z28, (AV.own 141 1 Z29)]]; let Z55 := AV.sl 1013 0 Z13.length; let Z56 := AV.sl 1014 0 Z14.length; let Z57 := AV.sl 1015 0 Z34.length; let Z58 := AV.sl 1016 0 Z16.length; let Z59 := AV.sl 1017 0 Z17.length; let Z60 := [Z30, Z55, Z56, Z57, Z58, Z59, Z31]; let Z61 := AV.own 59 5 Z13; let Z62 := [Z30, Z61, Z56, Z57, Z58, Z59, Z31]; let Z63 := AV.own 3 1 Z14; let Z64 := [Z30, Z61, Z63, Z57, Z58, Z59, Z31]; let Z65 := AV.own 179 6 Z34; let Z66 := [Z30, Z61, Z63, Z65, Z58, Z59, Z31]; let Z67 := AV.own 142 1 Z16; let Z68 := [Z30, Z61, Z63, Z65, Z67, Z59, Z31]; let Z69 := [[Z30, Z61, Z63, Z65, Z67, (AV.own 3 1 Z17), Z31]]
   let H5 : List Hn := H3 ++ [hF 13, hh 15 (.call [[]] Z3 [1002]), hh 17 (.call [] Z5 [1003]), hh 19 (.call [[], Z6, Z4] Z7 [1004, 1005, 1006, 1007, 1008]), hW 23 1009, hh 27 (.call [[]] Z8 [1010]), hW 28 1011, hh 31 (.call [] Z10 [1012]), hh 36 (.call [[], Z11, Z9] Z12 [1013, 1014, 1015, 1016, 1017]), hW 40 1018, hh 45 (.callV [[], Z13, Z14, Z15, Z16, Z17, [], Z18, Z19, Z20, Z21, Z22] (B r15))]
   let P6 : List Prop := P4 ++ [(decide (r6 < 0)) = false, Qa5 Tryz.prog 15 Z23 Z3, Qca Z3 = true, Qa5 Tryz.prog 28 Z24 Z5, Qca Z5 = true, Qa5 Tryz.prog 35 [(AV.agg [(I r9.Cells), (I r9.Locks), (I r9.Conds), (AV.ro 1 Z6)]), (AV.ro 1 Z4), (I p3)] Z7, Qca Z7 = true, Frz ((Z25.drop 0).take Z25.length) Z6, Frz ((Z4.drop 0).take Z4.length) Z4, Qa5 Tryz.prog 15 Z23 Z8, Qca Z8 = true, Qa5 Tryz.prog 28 Z24 Z10, Qca Z10 = true, Qa5 Tryz.prog 36 [(AV.agg [Z26, Z27, Z28, (AV.ro 1 Z11)]), (AV.ro 1 Z9), (I p3)] Z12, Qca Z12 = true, Frz ((Z29.drop 0).take Z29.length) Z11, Frz ((Z9.drop 0).take Z9.length) Z9, Qa5 Tryz.prog 30 [(AV.agg [Z30, (AV.ro 5 Z13), (AV.ro 1 Z14), (AV.ro 6 Z15), (AV.ro 1 Z16), (AV.ro 1 Z17), Z31]), (AV.agg [Z32, (AV.ro 5 Z18), (AV.ro 1 Z19), (AV.ro 6 Z20), (AV.ro 1 Z21), (AV.ro 1 Z22), Z33])] (B r15), Qa4 (B r15) = true, Frz ((Z13.drop 0).take Z13.length) Z13, Frz ((Z14.drop 0).take Z14.length) Z14, Frz ((Z34.drop 0).take Z34.length) Z15, Frz ((Z16.drop 0).take Z16.length) Z16, Frz ((Z17.drop 0).take Z17.length) Z17, Frz ((Z18.drop 0).take Z18.length) Z18, Frz ((Z19.drop 0).take Z19.length) Z19, Frz ((Z35.drop 0).take Z35.length) Z20, Frz ((Z21.drop 0).take Z21.length) Z21, Frz ((Z22.drop 0).take Z22.length) Z22]
   have AP6 : Qal P6 := Qa9 AP4 ⟨c8, (Qix hr9), (by simp +zetaDelta only [Qca, Qbi, Qa7 Xcr, o34, Bool.and_self]), (Qj2 hr10), (by simp +zetaDelta only [Qca, Qbi, Qa7 n3, Bool.and_self]), (Qtu hr11), (by simp +zetaDelta only [Qca, Qbi, Qa7 n3, Qa7 n59, Qa7 Qen, Qa7 Qgn, o70, Bool.and_self]), (Qfi Qyh Xlj), (Qfi t3 z3), (Qix hr12), (by simp +zetaDelta only [Qca, Qbi, Qa7 Xcr, o34, Bool.and_self]), (Qj2 hr13), (by simp +zetaDelta only [Qca, Qbi, Qa7 n3, Bool.and_self]), (Qm0 hr14), (by simp +zetaDelta only [Qca, Qbi, Qa7 n3, Qa7 n59, Qa7 Qen, Qa7 Qgn, o70, Bool.and_self]), (Qfi Qyh Xlj), (Qfi t3 z3), (Qm7 hr15), rfl, (Qfi t59 z59), (Qfi t3 z3), (Qfi Qch Qus), (Qfi Qbo Qqh), (Qfi t3 z3), (Qfi t59 z59), (Qfi t3 z3), (Qfi Qch Qus), (Qfi Qbo Qqh), (Qfi t3 z3), trivial⟩
   rcases itS h with ⟨c16, h⟩ | ⟨c17, h⟩
   ·obtain rfl := sj h
    exact gR hP hn (H5 ++ [hO 47 Z2]) [] .raw (P6 ++ [(B (!r15)) = Z2, Z36 = Z36, Qa4 Z36 = true]) (Qa9 AP6 ⟨(Qb7 c16), rfl, rfl, trivial⟩)
   ·rcases itS h with ⟨c18, h⟩ | ⟨c19, h⟩
    ·obtain rfl := sj h
     exact gR hP hn (H5 ++ [hO 47 Z36, hT 52]) [] .raw (P6 ++ [(B (!r15)) = Z36, (!(r14.2 == r11.2)) = true, Z36 = Z36, Qa4 Z36 = true]) (Qa9 AP6 ⟨(Qb7 c17), c18, rfl, rfl, trivial⟩)
    ·exact gT hP hn hx (H5 ++ [hO 47 Z36, hF 52, hh 53 (.pack 1009 1004 0 1 Z42 [Z44]), hh 53 (.pack 1009 1005 0 2 Z44 [Z46]), hh 53 (.pack 1009 1006 0 3 Z46 [Z48]), hh 53 (.pack 1009 1007 0 4 Z48 [Z50]), hh 53 (.pack 1009 1008 0 5 Z50 Z51), hh 53 (.pack 1011 1010 0 3 Z53 Z54), hh 53 (.pack 1018 1013 0 1 Z60 [Z62]), hh 53 (.pack 1018 1014 0 2 Z62 [Z64]), hh 53 (.pack 1018 1015 0 3 Z64 [Z66]), hh 53 (.pack 1018 1016 0 4 Z66 [Z68]), hh 53 (.pack 1018 1017 0 5 Z68 Z69)]) [(1001, 1), (1009, 2), (1011, 3), (1012, 4), (1018, 5)] [1, 2, 3, 8, 9, 10, 11, 12, 13] [] (P6 ++ [(B (!r15)) = Z36, (!(r14.2 == r11.2)) = false, [Z42][0]? = some Z42, Z42[1]? = some Z37, Qa1 Z18 = true, [Z42].set 0 (Z42.set 1 Z43) = [Z44], [Z44][0]? = some Z44, Z44[2]? = some Z38, Qa1 Z19 = true, [Z44].set 0 (Z44.set 2 Z45) = [Z46], [Z46][0]? = some Z46, Z46[3]? = some Z39, Qa1 Z35 = true, [Z46].set 0 (Z46.set 3 Z47) = [Z48], [Z48][0]? = some Z48, Z48[4]? = some Z40, Qa1 Z21 = true, [Z48].set 0 (Z48.set 4 Z49) = [Z50], [Z50][0]? = some Z50, Z50[5]? = some Z41, Qa1 Z22 = true, [Z50].set 0 (Z50.set 5 (AV.own 3 1 Z22)) = Z51, [Z53][0]? = some Z53, Z53[3]? = some Z52, Qa1 Z29 = true, [Z53].set 0 (Z53.set 3 (AV.own 141 1 Z29)) = Z54, [Z60][0]? = some Z60, Z60[1]? = some Z55, Qa1 Z13 = true, [Z60].set 0 (Z60.set 1 Z61) = [Z62], [Z62][0]? = some Z62, Z62[2]? = some Z56, Qa1 Z14 = true, [Z62].set 0 (Z62.set 2 Z63) = [Z64], [Z64][0]? = some Z64, Z64[3]? = some Z57, Qa1 Z34 = true, [Z64].set 0 (Z64.set 3 Z65) = [Z66], [Z66][0]? = some Z66, Z66[4]? = some Z58, Qa1 Z16 = true, [Z66].set 0 (Z66.set 4 Z67) = [Z68], [Z68][0]? = some Z68, Z68[5]? = some Z59, Qa1 Z17 = true, [Z68].set 0 (Z68.set 5 (AV.own 3 1 Z17)) = Z69, Qab [(1001, 1), (1009, 2), (1011, 3), (1012, 4), (1018, 5)] [((r24 p1))], Qab [(1001, 1), (1009, 2), (1011, 3), (1012, 4), (1018, 5)] Z51, Qab [(1001, 1), (1009, 2), (1011, 3), (1012, 4), (1018, 5)] Z54, Qab [(1001, 1), (1009, 2), (1011, 3), (1012, 4), (1018, 5)] Z9, Qab [(1001, 1), (1009, 2), (1011, 3), (1012, 4), (1018, 5)] Z69]) (Qa9 AP6 ⟨(Qb7 c17), c19, rfl, rfl, (Qa8 t59), rfl, rfl, rfl, (Qa8 t3), rfl, rfl, rfl, (Qa8 Qch), rfl, rfl, rfl, (Qa8 Qbo), rfl, rfl, rfl, (Qa8 t3), rfl, rfl, rfl, (Qa8 Qyh), rfl, rfl, rfl, (Qa8 t59), rfl, rfl, rfl, (Qa8 t3), rfl, rfl, rfl, (Qa8 Qch), rfl, rfl, rfl, (Qa8 Qbo), rfl, rfl, rfl, (Qa8 t3), rfl, (rok (Qay t24 p1)), (rok (Qay t70 (Qcy.mk r11.1.Code r11.1.Trace r11.1.Picks (Qa2.mk r11.1.End.Threads r11.1.End.Cells r11.1.End.Owner r11.1.End.Fault)))), (rok (Qay t34 (Qaf.mk r12.Cells r12.Locks r12.Conds r12.Routines))), (rok (Qa8 t3)), (rok (Qay t70 (Qcy.mk r14.1.Code r14.1.Trace r14.1.Picks (Qa2.mk r14.1.End.Threads r14.1.End.Cells r14.1.End.Owner r14.1.End.Fault)))), trivial⟩) (Qkj hP hn hx p1 p2 p3 r11 r12 r13 r14  _ h)
end Go.Proofs.YtjcaompblpglcaaGreat
