/- Functions as plain data, and that the code comes to them; no condition. -/

import Derived.Test.YtjcaompblpglcaaGreatGA
set_option linter.unusedVariables false
set_option maxRecDepth 100000
namespace Go.Proofs.YtjcaompblpglcaaGreat
open Go Go.T
noncomputable def Qdm (p1 : Qa2) (p2 : Qaf) (p3 : Int) : Option (Qad × Qa2) :=
 Option.bind (rd p1.Threads p3) fun x4 =>
 Option.bind (Qcb p2 (Qa0.mk x4.Routine x4.Pc x4.State x4.Cond x4.Lock x4.Stack)) fun r5 =>
 if (x4.State == 4) = true then
  Option.bind (rd p1.Owner x4.Lock) fun x7 =>
  Option.bind (Qe2 r5.2) fun r8 =>
  some ((Qad.mk p3 9 x4.Cond x4.Lock x4.Pc), (Qa2.mk (p1.Threads.set (Int.toNat p3) (Qa0.mk x4.Routine (w64 (x4.Pc + r8)) 1 (-1) (-1) x4.Stack)) p1.Cells (p1.Owner.set (Int.toNat x4.Lock) p3) p1.Fault))
 else
  if (!r5.2) = true then
   some ((Qad.mk p3 11 (-1) (-1) x4.Pc), (Qa2.mk (p1.Threads.set (Int.toNat p3) (Qa0.mk x4.Routine x4.Pc 2 x4.Cond x4.Lock x4.Stack)) p1.Cells p1.Owner p1.Fault))
  else
   Option.bind (Qcg (Qa2.mk p1.Threads p1.Cells p1.Owner p1.Fault) p3 r5.1) fun r12 =>
   if (r12 != 0) = true then
    some ((Qad.mk p3 12 r12 (-1) x4.Pc), (Qa2.mk p1.Threads p1.Cells p1.Owner r12))
   else
    Option.bind (Qax (Qa2.mk p1.Threads p1.Cells p1.Owner p1.Fault) p3 r5.1 (Qad.mk p3 1 (-1) (-1) x4.Pc)) fun r15 =>
    some (r15.1, r15.2)
noncomputable def Xal : Code := match Tryz.f77.body with | some c => c | none => .skip
theorem Qkr {p1 : Qa2} {p2 : Qaf} {p3 : Int} {V0 V1 V2 : Value} {r : (Qad × Qa2)} (h : Qdm p1 p2 p3 = some r) : Qcp Tryz.prog 77 [⟨70, 7, [([(AV.lit V0), (AV.lit V1), (AV.lit V2)] ++ (o57 p1))]⟩] [(AV.ptr 0 0 3), (AV.agg ((r34 p2))), (I p3)] [true] [⟨70, 7, [([(AV.lit V0), (AV.lit V1), (AV.lit V2)] ++ (o57 r.2))]⟩] (AV.agg (o59 r.1)) := by
 refine Qew Qui Tryz.func77 rfl (c := Xal) (by kernel_rfl) (Nat.le_of_ble_eq_true rfl) rfl (Nat.le_of_ble_eq_true rfl) rfl (fr := [0]) (frI rfl) ?_
 intro E hP hn hx
 replace hn : E.n = 105 := hn
 unfold Qdm at h
 obtain ⟨x4, hx4, h⟩ := bnS h
 obtain ⟨r5, hr5, h⟩ := bnS h
 let Z0 := AV.lit V0; let Z1 := AV.lit V1; let Z2 := AV.lit V2; let Z3 := [Z0, Z1, Z2]; let Z4 := Z3 ++ (o57 p1); let Z5 := p1.Threads.map Qab; let Z6 := AV.sl 1003 0 Z5.length; let Z7 := AV.own 142 1 (p1.Cells.map Qae); let Z8 := p1.Owner.map o3; let Z9 := AV.own 3 1 Z8; let Z10 := I p1.Fault; let Z11 := [Z0, Z1, Z2, Z6, Z7, Z9, Z10]; let Z12 := Qab x4; let Z13 := I x4.Routine; let Z14 := I x4.Pc; let Z15 := I x4.Cond; let Z16 := I x4.Lock; let Z17 := x4.Stack.map Qae; let Z18 := AV.own 142 1 Z17; let Z19 := [Z13, Z14, (I x4.State), Z15, Z16, Z18]; let Z20 := AV.sl 1005 0 Z17.length; let Z21 := [Z13, Z14, (I x4.State), Z15, Z16, Z20]; let Z22 := Z5.set p3.toNat Z21; let Z23 := B r5.2; let Z24 := AV.tup [(AV.agg (Qb5 r5.1)), Z23]; let Z25 := AV.own 179 6 Z5; let Z26 := AV.agg ((r34 p2)); let Z27 := AV.ptr 1003 p3.toNat 0; let Z28 := AV.agg Z21; let Z29 := AV.agg ((Qb5 r5.1)); let Z30 := AV.tup [Z29, Z23]; let Z31 := [Z26, (AV.agg [Z13, Z14, (I x4.State), Z15, Z16, (AV.ro 1 Z17)])]; let Z32 := (Z17.drop 0).take Z17.length; let Z33 := ([(1006, (Qam.mk 144 4 [[(I 0), (I 0), (I 0), (FK 0)]]))].map sm); let Z34 := Qam.mk 144 4 [((Qb5 r5.1))]; let Z35 := AV.sl 1003 0 Z22.length; let Z36 := [Z0, Z1, Z2, Z35, Z7, Z9, Z10]; let Z37 := AV.sl 1007 0 Z8.length; let Z38 := [Z0, Z1, Z2, Z35, Z7, Z37, Z10]; let Z39 := p1.Owner.set x4.Lock.toNat p3; let Z40 := Z39.map o3; let Z41 := (p1.Threads.set p3.toNat (Qa0.mk x4.Routine x4.Pc 1 x4.Cond x4.Lock x4.Stack)).map Qab; let Z42 := [Z13, Z14, (I 1), Z15, Z16, Z18]; let Z43 := (p1.Threads.set p3.toNat (Qa0.mk x4.Routine x4.Pc 1 (-1) x4.Lock x4.Stack)).map Qab; let Z44 := I (-1); let Z45 := [Z13, Z14, (I 1), Z44, Z16, Z18]; let Z46 := (p1.Threads.set p3.toNat (Qa0.mk x4.Routine x4.Pc 1 (-1) (-1) x4.Stack)).map Qab; let Z47 := [Z13, Z14, (I 1), Z44, Z44, Z18]; let Z53 := x4.State == 4; let Z54 := AV.ptr 1003 p3.toNat 3; let Z55 := AV.ptr 1003 p3.toNat 4; let Z56 := Qam.mk 59 5 [[(I p3), (I 9), Z44, Z44, Z14]]; let Z57 := Qam.mk 59 5 [[(I p3), (I 9), Z15, Z44, Z14]]; let Z58 := Z21.set 5 Z18; let Z61 := AV.agg [(I p3), (I 9), Z15, Z16, Z14]; let Z62 := Qa0.mk x4.Routine x4.Pc 1 (-1) (-1) x4.Stack; let Z64 := p1.Threads.set p3.toNat (Qa0.mk x4.Routine x4.Pc 2 x4.Cond x4.Lock x4.Stack); let Z65 := Z64.map Qab; let Z66 := [[Z0, Z1, Z2, (AV.own 179 6 Z65), Z7, Z9, Z10]]; let Z67 := Z3 ++ (o57 (Qa2.mk Z64 p1.Cells p1.Owner p1.Fault)); let Z68 := AV.agg [(I p3), (I 11), Z44, Z44, Z14]; let Z69 := Qa2.mk Z64 p1.Cells p1.Owner p1.Fault; let Z70 := [Z0, Z1, Z2, Z25, Z7, Z9, Z10]; let Z71 := Z3 ++ (r57 (Qa2.mk p1.Threads p1.Cells p1.Owner p1.Fault)); let Z72 := Qa2.mk p1.Threads p1.Cells p1.Owner p1.Fault; let Z76 := Z3 ++ (o57 (Qa2.mk p1.Threads p1.Cells p1.Owner p1.Fault))
 let H1 : List Hn := [hW 0 1001, hW 1 1002, hh 5 (.unpack 0 1003 0 3 Z4 179 6 Z5 [Z11]), hh 13 (.row Z12), hW 15 1004, hh 17 (.unpack 1003 1005 p3.toNat 5 Z19 142 1 Z17 Z22), hh 20 (.row Z21), hh 21 (.callV [[], [], Z17] Z24), hW 25 1006, hh 31 (.row Z21)]
 let P2 : List Prop := [[Z4][0]? = some Z4, Z4[3]? = some Z25, 0 < 6, [Z4].set 0 (Z4.set 3 Z6) = [Z11], (0 : Int) ≤ p3, p3 < ((Z5.length : Nat) : Int), Z5[p3.toNat]? = some Z12, Z5[p3.toNat]? = some Z19, Z19[5]? = some Z18, 0 < 1, Z5.set p3.toNat (Z19.set 5 Z20) = Z22, Z26 = Z26, Z26 = Z26, Z27 = Z27, Z27 = Z27, Z27 = Z27, Z27 = Z27, Z28 = Z28, Z22[p3.toNat]? = some Z21, Z28 = Z28, Z22[p3.toNat]? = some Z21, Z30 = Z30, Qa6 Tryz.prog 145 Z31 Z24, Qa5 Z24 = true, Frz Z32 Z17, Z30 = Z30, Qa6 Tryz.prog 145 Z31 Z24, Qa5 Z24 = true, Frz Z32 Z17, Z30 = Z30, Z30 = Z30, Z29 = Z29, Z29 = Z29, Z23 = Z23, Z23 = Z23, Z23 = Z23, (AV.ptr 1006 0 0) = (AV.ptr 1006 0 0), Z33 = Z33, [(1006, some Z34)] = [(1006, some Z34)], Z22[p3.toNat]? = some Z21]
 have AP2 : Qak P2 := ⟨rfl, rfl, (by decide), rfl, (rd0 hx4), (rdL Qab hx4), (rdM Qab hx4), (rdM Qab hx4), rfl, (by decide), rfl, rfl, rfl, rfl, rfl, rfl, rfl, rfl, (Qd7 (rdM Qab hx4)), rfl, (Qd7 (rdM Qab hx4)), rfl, (Qik hr5), rfl, (Qgh Qbp Qrw), rfl, (Qik hr5), rfl, (Qgh Qbp Qrw), rfl, rfl, rfl, rfl, rfl, rfl, rfl, rfl, rfl, rfl, (Qd7 (rdM Qab hx4)), trivial⟩
 rcases itS h with ⟨c6, h⟩ | ⟨c9, h⟩
 ·obtain ⟨x7, hx7, h⟩ := bnS h
  obtain ⟨r8, hr8, h⟩ := bnS h
  obtain rfl := sj h
  exact (let Z48 := p1.Threads.set p3.toNat (Qa0.mk x4.Routine (w64 (x4.Pc + r8)) 1 (-1) (-1) x4.Stack); let Z49 := Z48.map Qab; let Z50 := AV.own 179 6 Z49; let Z51 := [Z0, Z1, Z2, Z50, Z7, Z37, Z10]; let Z52 := [[Z0, Z1, Z2, Z50, Z7, (AV.own 3 1 Z40), Z10]]; let Z59 := [(I (w64 (x4.Pc + r8)))]; let Z60 := Z3 ++ (o57 (Qa2.mk Z48 p1.Cells Z39 p1.Fault)); let Z63 := Qa2.mk Z48 p1.Cells Z39 p1.Fault; gR hP hn (H1 ++ [hT 34, hh 38 (.row Z21), hh 42 (.row Z21), hh 49 (.eqr 0 [Z36]), hh 49 (.unpack 0 1007 0 5 Z36 3 1 Z8 [Z38]), hh 56 (.row Z21), hh 59 (.sto [(I x7)] Z40), hh 65 (.pack 1003 1005 p3.toNat 5 Z21 Z5), hh 65 (.sto Z12 Z41), hh 68 (.sto Z42 Z43), hh 71 (.sto Z45 Z46), hh 75 (.row Z47), hh 77 (.callV [] (I r8)), hh 81 (.sto Z47 Z49), hh 84 (.pack 0 1003 0 3 Z38 [Z51]), hh 84 (.pack 0 1007 0 5 Z51 Z52)]) [] .raw (P2 ++ [Z53 = true, Z27 = Z27, Z27 = Z27, Z27 = Z27, Z27 = Z27, Z54 = Z54, Z54 = Z54, Z15 = Z15, Z22[p3.toNat]? = some Z21, Z15 = Z15, Z22[p3.toNat]? = some Z21, Z27 = Z27, Z27 = Z27, Z27 = Z27, Z27 = Z27, Z27 = Z27, Z27 = Z27, Z55 = Z55, Z55 = Z55, Z55 = Z55, Z16 = Z16, Z22[p3.toNat]? = some Z21, Z16 = Z16, Z22[p3.toNat]? = some Z21, Z16 = Z16, Z22[p3.toNat]? = some Z21, (AV.ptr 1004 0 1) = (AV.ptr 1004 0 1), [(1004, some Z56)] = [(1004, some Z56)], (AV.ptr 1004 0 2) = (AV.ptr 1004 0 2), [(1004, some Z57)] = [(1004, some Z57)], [Z11] = [Z36], [Z36][0]? = some Z36, Z36[5]? = some Z9, 0 < 1, [Z36].set 0 (Z36.set 5 Z37) = [Z38], Z22[p3.toNat]? = some Z21, (0 : Int) ≤ x4.Lock, x4.Lock < ((Z8.length : Nat) : Int), Z8[x4.Lock.toNat]? = some [(I x7)], Z8.set x4.Lock.toNat (wr [(I x7)] 0 [(I p3)]) = Z40, [(I p3)].length = 1, 0 + [(I p3)].length ≤ [(I x7)].length, Z22[p3.toNat]? = some Z21, Z21[5]? = some Z20, Qa1 Z17 = true, Z22.set p3.toNat Z58 = Z5, Z5[p3.toNat]? = some Z12, Z5.set p3.toNat (wr Z12 2 [(I 1)]) = Z41, [(I 1)].length = 1, 2 + [(I 1)].length ≤ Z12.length, Z41[p3.toNat]? = some Z42, Z41.set p3.toNat (wr Z42 3 [Z44]) = Z43, [Z44].length = 1, 3 + [Z44].length ≤ Z42.length, Z43[p3.toNat]? = some Z45, Z43.set p3.toNat (wr Z45 4 [Z44]) = Z46, [Z44].length = 1, 4 + [Z44].length ≤ Z45.length, Z46[p3.toNat]? = some Z47, Qa6 Tryz.prog 146 [Z23] (I r8), Qa5 (I r8) = true, Z46[p3.toNat]? = some Z47, Z46.set p3.toNat (wr Z47 1 Z59) = Z49, Z59.length = 1, 1 + Z59.length ≤ Z47.length, [Z38][0]? = some Z38, Z38[3]? = some (AV.sl 1003 0 Z49.length), Qa1 Z49 = true, [Z38].set 0 (Z38.set 3 Z50) = [Z51], [Z51][0]? = some Z51, Z51[5]? = some (AV.sl 1007 0 Z40.length), Qa1 Z40 = true, [Z51].set 0 (Z51.set 5 (AV.own 3 1 Z40)) = Z52, Z52 = [Z60], Qa1 [Z60] = true, Qa4 [Z60] = true, Z61 = Z61, Qa5 Z61 = true]) (Qa8 AP2 ⟨c6, rfl, rfl, rfl, rfl, rfl, rfl, rfl, (Qd7 (rdM Qab hx4)), rfl, (Qd7 (rdM Qab hx4)), rfl, rfl, rfl, rfl, rfl, rfl, rfl, rfl, rfl, rfl, (Qd7 (rdM Qab hx4)), rfl, (Qd7 (rdM Qab hx4)), rfl, (Qd7 (rdM Qab hx4)), rfl, rfl, rfl, rfl, (congrArg (fun nn => [[Z0, Z1, Z2, (AV.sl 1003 0 nn), Z7, Z9, (I p1.Fault)]]) (show Z5.length = Z22.length from lnq)), rfl, rfl, (by decide), rfl, (Qd7 (rdM Qab hx4)), (rd0 hx7), (rdL o3 hx7), (rdM o3 hx7), (Qwk o3), rfl, leB, (Qd7 (rdM Qab hx4)), rfl, (Qa9 Qbp), (Xh4 Qab hx4), (rdM Qab hx4), (Qog Qab), rfl, leB, (rdM Qab (rdS (y := (Qa0.mk x4.Routine x4.Pc 1 x4.Cond x4.Lock x4.Stack)) hx4)), (Qg8 Qab), rfl, leB, (rdM Qab (rdS (y := (Qa0.mk x4.Routine x4.Pc 1 (-1) x4.Lock x4.Stack)) hx4)), (Qg8 Qab), rfl, leB, (rdM Qab (rdS (y := Z62) hx4)), (Qkk hr8), rfl, (rdM Qab (rdS (y := Z62) hx4)), (Qg8 Qab), rfl, leB, rfl, (pkS lnq), (Qa9 Qcq), rfl, rfl, (pkS lnq), (Qa9 t3), rfl, rfl, (Qhh t57 Z3 rfl Z63), (Qgx n57 Z3 rfl Z63), rfl, rfl, trivial⟩))
 ·rcases itS h with ⟨c10, h⟩ | ⟨c11, h⟩
  ·obtain rfl := sj h
   exact gR hP hn (H1 ++ [hF 34, hT 38, hh 44 (.pack 1003 1005 p3.toNat 5 Z21 Z5), hh 44 (.sto Z12 Z65), hh 47 (.pack 0 1003 0 3 Z11 Z66)]) [] .raw (P2 ++ [Z53 = false, (!r5.2) = true, Z22[p3.toNat]? = some Z21, Z21[5]? = some Z20, Qa1 Z17 = true, Z22.set p3.toNat Z58 = Z5, Z5[p3.toNat]? = some Z12, Z5.set p3.toNat (wr Z12 2 [(I 2)]) = Z65, [(I 2)].length = 1, 2 + [(I 2)].length ≤ Z12.length, [Z11][0]? = some Z11, Z11[3]? = some (AV.sl 1003 0 Z65.length), Qa1 Z65 = true, [Z11].set 0 (Z11.set 3 (AV.own 179 6 Z65)) = Z66, Z66 = [Z67], Qa1 [Z67] = true, Qa4 [Z67] = true, Z68 = Z68, Qa5 Z68 = true]) (Qa8 AP2 ⟨c9, c10, (Qd7 (rdM Qab hx4)), rfl, (Qa9 Qbp), (Xh4 Qab hx4), (rdM Qab hx4), (Qog Qab), rfl, leB, rfl, (pkS lnq), (Qa9 Qcq), rfl, rfl, (Qhh t57 Z3 rfl Z69), (Qgx n57 Z3 rfl Z69), rfl, rfl, trivial⟩)
  ·obtain ⟨r12, hr12, h⟩ := bnS h
   let Z73 := Z3 ++ (o57 (Qa2.mk p1.Threads p1.Cells p1.Owner r12)); let Z74 := AV.agg [(I p3), (I 12), (I r12), Z44, Z14]; let Z75 := Qa2.mk p1.Threads p1.Cells p1.Owner r12
   let H3 : List Hn := H1 ++ [hF 34, hF 38, hh 42 (.pack 1003 1005 p3.toNat 5 Z21 Z5), hh 42 (.pack 0 1003 0 3 Z11 [Z70]), hh 42 (.callV [[Z70, Z71], []] (I r12))]
   let P4 : List Prop := P2 ++ [Z53 = false, (!r5.2) = false, Z22[p3.toNat]? = some Z21, Z21[5]? = some Z20, Qa1 Z17 = true, Z22.set p3.toNat Z58 = Z5, [Z11][0]? = some Z11, Z11[3]? = some Z6, Qa1 Z5 = true, [Z11].set 0 (Z11.set 3 Z25) = [Z70], Qa6 Tryz.prog 147 [(AV.rop Z71 3), (I p3), Z29] (I r12), Qa5 (I r12) = true, [Z70][0]? = some Z70, Qch Z70 = true, Qio Z70 = Z71]
   have AP4 : Qak P4 := Qa8 AP2 ⟨c9, c11, (Qd7 (rdM Qab hx4)), rfl, (Qa9 Qbp), (Xh4 Qab hx4), rfl, rfl, (Qa9 Qcq), rfl, (Qjs hr12), rfl, rfl, rfl, (frzBV z57 Z3 rfl Z72), trivial⟩
   rcases itS h with ⟨c13, h⟩ | ⟨c14, h⟩
   ·obtain rfl := sj h
    exact gR hP hn (H3 ++ [hT 46]) [] .raw (P4 ++ [(r12 != 0) = true, [[Z0, Z1, Z2, Z25, Z7, Z9, (I r12)]] = [Z73], Qa1 [Z73] = true, Qa4 [Z73] = true, Z74 = Z74, Qa5 Z74 = true]) (Qa8 AP4 ⟨c13, rfl, (Qhh t57 Z3 rfl Z75), (Qgx n57 Z3 rfl Z75), rfl, rfl, trivial⟩)
   ·obtain ⟨r15, hr15, h⟩ := bnS h
    obtain rfl := sj h
    exact (let Z77 := Z3 ++ (o57 r15.2); let Z78 := AV.agg (o59 r15.1); let Z79 := AV.agg ((o59 r15.1)); let Z80 := rtf (Qi0 [(0, 0)] Z78) []; gR hP hn (H3 ++ [hF 46, hh 51 (.callX [0] [true] [⟨70, 7, [Z76]⟩] [⟨70, 7, [Z77]⟩] [[], []] Z78 [] Z79 [])]) [] .raw (P4 ++ [(r12 != 0) = false, Qcp Tryz.prog 148 [⟨70, 7, [Z76]⟩] [(AV.ptr 0 0 3), (I p3), Z29, (AV.agg [(I p3), (I 1), Z44, Z44, Z14])] [true] [⟨70, 7, [Z77]⟩] Z78, (some (Qam.mk 70 7 [Z70]) = some (Qam.mk 70 7 [Z76])) ∧ True, (Qa1 [Z76] = true ∧ Qa4 [Z76] = true) ∧ True, ([Z77].length = [Z76].length) ∧ True, Z80.1 = Z79, Z80.2.1 = [], [Z77] = [Z77], Qa1 [Z77] = true, Qa4 [Z77] = true, Z79 = Z79, Qa5 Z79 = true]) (Qa8 AP4 ⟨c14, (Qlu hr15), ⟨rfl, trivial⟩, ⟨⟨Qhh t57 Z3 rfl Z72, Qgx n57 Z3 rfl Z72⟩, trivial⟩, ⟨rfl, trivial⟩, rfl, rfl, rfl, (Qhh t57 Z3 rfl r15.2), (Qgx n57 Z3 rfl r15.2), rfl, rfl, trivial⟩))
noncomputable def Xiq : Code := match Tryz.f189.body with | some c => c | none => .skip
noncomputable def Qir (p1 : Qa0) : Option Bool :=
 some (p1.State != 2)
theorem Qs5 {p1 : Qa0} {r : Bool} (h : Qir p1 = some r) : Qa6 Tryz.prog 189 [(AV.agg ((Qb2 p1)))] (B r) := by
 refine gM Tryz.func189 6 Xiq fun E hP hn hx => ?_
 unfold Qir at h
 obtain rfl := sj h
 exact (let Z0 := B (p1.State != 2); gR hP hn [hW 0 1001] [] .raw [Z0 = Z0, Qa5 Z0 = true] ⟨rfl, rfl, trivial⟩)
noncomputable def Qt3 : Code := match Tryz.f182.body with | some c => c | none => .skip
noncomputable def Qag  (p1 : (List Qa0)) : Nat → Int → Option Int
 | 0, _ => none
 | n + 1, v2 =>
 if (decide (v2 < (p1.length : Int))) = true then
  Option.bind (rd p1 v2) fun x4 =>
  Option.bind (Qir x4) fun r5 =>
  if r5 = true then
   some v2
  else
   Qag p1 n (w64 (v2 + 1))
 else
  some (-1)
theorem Qds {E : Env} (hP : E.P = Tryz.prog) (hn : E.n = 19) (hx : FX E []) (p1 : (List Qa0))  : ∀ (n : Nat) (v2 : Int) (r : Int), Qag p1 n v2 = some r → WAt E Qt3 (FQ (Qf0 Θ Tryz.f182.results.toList [] [] (I r) E)) [true, false, true, false] ⟨[(0, (AV.ro 6 (p1.map Qb2))), (1, (AV.fn 189 [])), (7, (I (p1.length : Int))), (8, (I v2))], [], [JJ]⟩ := by
 intro n
 induction n with
 | zero => intro v2 r h; simp only [Qag] at h; cases h
 | succ n ih =>
  intro v2 r h
  simp only [Qag] at h
  let Z0 := (decide (v2 < (p1.length : Int)))
  rcases itS h with ⟨c3, h⟩ | ⟨c8, h⟩
  ·obtain ⟨x4, hx4, h⟩ := bnS h
   obtain ⟨r5, hr5, h⟩ := bnS h
   let P1 : List Prop := [Z0 = true, (0 : Int) ≤ v2, (p1.map Qb2)[v2.toNat]? = some (Qb2 x4), Qa6 Tryz.prog 189 [(AV.agg ((Qb2 x4)))] (B r5), Qa5 (B r5) = true]
   have AP1 : Qak P1 := ⟨c3, (rd0 hx4), (rdM Qb2 hx4), (Qs5 hr5), rfl, trivial⟩
   rcases itS h with ⟨c6, h⟩ | ⟨c7, h⟩
   ·obtain rfl := sj h
    exact gR hP hn [hT 1, hh 7 (.row (Qb2 x4)), hh 9 (.callV [[]] (B r5)), hT 10] [] .raw (P1 ++ [r5 = true, (I v2) = (I v2), Qa5 (I v2) = true]) (Qa8 AP1 ⟨c6, rfl, rfl, trivial⟩)
   ·exact gT hP hn hx [hT 1, hh 7 (.row (Qb2 x4)), hh 9 (.callV [[]] (B r5)), hF 10] [] [0, 1, 7, 8] [] (P1 ++ [r5 = false]) (Qa8 AP1 ⟨c7, trivial⟩) (ih (w64 (v2 + 1)) _ h)
  ·obtain rfl := sj h
   exact gR hP hn [hF 1] [] .raw [Z0 = false, (I (-1)) = (I (-1)), Qa5 (I (-1)) = true] ⟨c8, rfl, rfl, trivial⟩
noncomputable def Qb0 (p1 : (List Qa0)) : Option Int :=
 Qag p1 FU 0
theorem Qed {p1 : (List Qa0)} {r : Int} (h : Qb0 p1 = some r) : Qa6 Tryz.prog 182 [(AV.ro 6 (p1.map Qb2)), (AV.fn 189 [])] (I r) := by
 refine gM Tryz.func182 19 Qt3 fun E hP hn hx => ?_
 unfold Qb0 at h
 exact (let Z0 := (I (p1.length : Int)); gT hP hn hx [hO 2 Z0] [] [0, 1, 7, 8] [] [AV.lit (.int .i64 (((p1.map Qb2).length : Nat) : Int)) = Z0] ⟨(Qd9 Qb2), trivial⟩ (Qds hP hn hx p1 FU 0 _ h))
noncomputable def Qyr : Code := match Tryz.f138.body with | some c => c | none => .skip
noncomputable def Qan (p1 : (List Qa0)) : Option Bool :=
 Option.bind (Qb0 p1) fun r2 =>
 some (decide (r2 ≥ 0))
theorem Qdr {p1 : (List Qa0)} {r : Bool} (h : Qan p1 = some r) : Qa6 Tryz.prog 138 [(AV.ro 6 (p1.map Qb2)), (AV.fn 189 [])] (B r) := by
 refine gM Tryz.func138 9 Qyr fun E hP hn hx => ?_
 unfold Qan at h
 obtain ⟨r2, hr2, h⟩ := bnS h
 obtain rfl := sj h
 exact (let Z0 := B (decide (r2 ≥ 0)); gR hP hn [hh 3 (.callV [] (I r2))] [] .raw [Qa6 Tryz.prog 182 [(AV.ro 6 (p1.map Qb2)), (AV.fn 189 [])] (I r2), Qa5 (I r2) = true, Z0 = Z0, Qa5 Z0 = true] ⟨(Qed hr2), rfl, rfl, rfl, trivial⟩)
noncomputable def Qjw (p1 : Qaf) (p2 : Qa2) (p3 : (List Int)) (p4 : Int) (p5 : Int) : Option Int :=
 if (p2.Fault != 0) = true then
  some 2
 else
  if ((p3.length : Int) == 0) = true then
   Option.bind (Qan p2.Threads) fun r9 =>
   if r9 = true then
    some 3
   else
    some 1
  else
   if (p4 == p5) = true then
    some 4
   else
    some 0
noncomputable def Xi0 : Code := match Tryz.f153.body with | some c => c | none => .skip
theorem Qin {p1 : Qaf} {p2 : Qa2} {p3 : (List Int)} {p4 : Int} {p5 : Int} {W0 W1 W2 : AV} {r : Int} (h : Qjw p1 p2 p3 p4 p5 = some r) : Qa6 Tryz.prog 153 [(AV.agg ((r34 p1))), (AV.rop ([W0, W1, W2] ++ (r57 p2)) 3), (AV.ro 1 (p3.map o3)), (I p4), (I p5)] (I r) := by
 refine gM Tryz.func153 30 Xi0 fun E hP hn hx => ?_
 unfold Qjw at h
 let Z0 := (I (p3.length : Int)); let Z1 := ((p3.length : Int) == 0)
 rcases itS h with ⟨c6, h⟩ | ⟨c7, h⟩
 ·obtain rfl := sj h
  exact gR hP hn [hW 0 1001, hT 8] [] .raw [(p2.Fault != 0) = true, (I 2) = (I 2), Qa5 (I 2) = true] ⟨c6, rfl, rfl, trivial⟩
 ·let H1 : List Hn := [hW 0 1001, hF 8, hO 10 Z0]
  let P2 : List Prop := [(p2.Fault != 0) = false, AV.lit (.int .i64 (((p3.map o3).length : Nat) : Int)) = Z0]
  have AP2 : Qak P2 := ⟨c7, (Qd9 o3), trivial⟩
  rcases itS h with ⟨c8, h⟩ | ⟨c12, h⟩
  ·obtain ⟨r9, hr9, h⟩ := bnS h
   let P3 : List Prop := P2 ++ [Z1 = true, Qa6 Tryz.prog 138 [(AV.ro 6 (p2.Threads.map Qb2)), (AV.fn 189 [])] (B r9), Qa5 (B r9) = true]
   have AP3 : Qak P3 := Qa8 AP2 ⟨c8, (Qdr hr9), rfl, trivial⟩
   rcases itS h with ⟨c10, h⟩ | ⟨c11, h⟩
   ·obtain rfl := sj h
    exact gR hP hn (H1 ++ [hT 13, hh 18 (.callV [] (B r9)), hT 19]) [] .raw (P3 ++ [r9 = true, (I 3) = (I 3), Qa5 (I 3) = true]) (Qa8 AP3 ⟨c10, rfl, rfl, trivial⟩)
   ·obtain rfl := sj h
    exact gR hP hn (H1 ++ [hT 13, hh 18 (.callV [] (B r9)), hF 19]) [] .raw (P3 ++ [r9 = false, (I 1) = (I 1), Qa5 (I 1) = true]) (Qa8 AP3 ⟨c11, rfl, rfl, trivial⟩)
  ·rcases itS h with ⟨c13, h⟩ | ⟨c14, h⟩
   ·obtain rfl := sj h
    exact gR hP hn (H1 ++ [hF 13, hT 18]) [] .raw (P2 ++ [Z1 = false, (p4 == p5) = true, (I 4) = (I 4), Qa5 (I 4) = true]) (Qa8 AP2 ⟨c12, c13, rfl, rfl, trivial⟩)
   ·obtain rfl := sj h
    exact gR hP hn (H1 ++ [hF 13, hF 18]) [] .raw (P2 ++ [Z1 = false, (p4 == p5) = false, (I 0) = (I 0), Qa5 (I 0) = true]) (Qa8 AP2 ⟨c12, c14, rfl, rfl, trivial⟩)
noncomputable def Xcv : Code := match Tryz.f127.body with | some c => c | none => .skip
noncomputable def Qe4  (l4 : (List Int)) : Nat → Qa2 → Qa2 → Int → Option Qa2
 | 0, _, _, _ => none
 | n + 1, a5, a6, v7 =>
 if (decide (v7 < (l4.length : Int))) = true then
  Option.bind (rd a6.Owner v7) fun x9 =>
  Qe4 l4 n a5 (Qa2.mk a6.Threads a6.Cells (a6.Owner.set (Int.toNat v7) (-1)) a6.Fault) (w64 (v7 + 1))
 else
  some (Qa2.mk a6.Threads a6.Cells a6.Owner a6.Fault)
theorem Qsu {E : Env} (hP : E.P = Tryz.prog) (hn : E.n = 26) (hx : FX E []) (l4 : (List Int))  : ∀ (n : Nat) (a5 : Qa2) (a6 : Qa2) (v7 : Int) (r : Qa2), Qe4 l4 n a5 a6 v7 = some r → WAt E Xcv (FQ (Qf0 Θ Tryz.f127.results.toList [] [] (AV.agg (o57 r)) E)) [true, true, false, true, false] ⟨[(2, (AV.ptr 1 0 0)), (3, (AV.ptr 2 0 0)), (16, (I (l4.length : Int))), (17, (I v7))], [(1, some ⟨57, 4, [((o57 a5))]⟩), (2, some ⟨57, 4, [((o57 a6))]⟩)], [1, 2, JJ]⟩ := by
 intro n
 induction n with
 | zero => intro a5 a6 v7 r h; simp only [Qe4] at h; cases h
 | succ n ih =>
  intro a5 a6 v7 r h
  simp only [Qe4] at h
  let Z0 := o57 a6; let Z1 := a6.Owner.map o3; let Z2 := a6.Threads.map Qab; let Z3 := AV.own 179 6 Z2; let Z4 := a6.Cells.map Qae; let Z5 := AV.own 142 1 Z4; let Z6 := AV.sl 1001 0 Z1.length; let Z7 := I a6.Fault; let Z8 := [Z3, Z5, Z6, Z7]; let Z9 := a6.Owner.set v7.toNat (-1); let Z10 := Z9.map o3; let Z11 := [[Z3, Z5, (AV.own 3 1 Z10), Z7]]; let Z12 := (decide (v7 < (l4.length : Int))); let Z13 := AV.own 3 1 Z1; let Z14 := Qa2.mk a6.Threads a6.Cells Z9 a6.Fault; let Z15 := AV.sl 1002 0 Z2.length; let Z16 := [Z15, Z5, Z13, Z7]; let Z17 := AV.sl 1003 0 Z4.length; let Z18 := [Z15, Z17, Z13, Z7]; let Z19 := AV.sl 1004 0 Z1.length; let Z20 := [[Z15, Z17, Z19, Z7]]
  rcases itS h with ⟨c8, h⟩ | ⟨c10, h⟩
  ·obtain ⟨x9, hx9, h⟩ := bnS h
   exact gT hP hn hx [hT 1, hh 5 (.unpack 2 1001 0 2 Z0 3 1 Z1 [Z8]), hh 8 (.sto [(I x9)] Z10), hh 11 (.pack 2 1001 0 2 Z8 Z11)] [(1, 1), (2, 2)] [2, 3, 16, 17] [] [Z12 = true, [Z0][0]? = some Z0, Z0[2]? = some Z13, 0 < 1, [Z0].set 0 (Z0.set 2 Z6) = [Z8], (0 : Int) ≤ v7, v7 < ((Z1.length : Nat) : Int), Z1[v7.toNat]? = some [(I x9)], Z1.set v7.toNat (wr [(I x9)] 0 [(I (-1))]) = Z10, [(I (-1))].length = 1, 0 + [(I (-1))].length ≤ [(I x9)].length, [Z8][0]? = some Z8, Z8[2]? = some (AV.sl 1001 0 Z10.length), Qa1 Z10 = true, [Z8].set 0 (Z8.set 2 (AV.own 3 1 Z10)) = Z11, Qaa [(1, 1), (2, 2)] [((o57 a5))], Qaa [(1, 1), (2, 2)] Z11] ⟨c8, rfl, rfl, (by decide), rfl, (rd0 hx9), (rdL o3 hx9), (rdM o3 hx9), (Qwk o3), rfl, leB, rfl, (pkS lnq), (Qa9 t3), rfl, (rok (Qat t57 a5)), (rok (Qat t57 Z14)), trivial⟩ (ih a5 Z14 (w64 (v7 + 1)) _ h)
  ·obtain rfl := sj h
   exact gR hP hn [hF 1, hh 2 (.unpack 2 1002 0 0 Z0 179 6 Z2 [Z16]), hh 2 (.unpack 2 1003 0 1 Z16 142 1 Z4 [Z18]), hh 2 (.unpack 2 1004 0 2 Z18 3 1 Z1 Z20)] [] (.agg [.own, .own, .own, .raw]) [Z12 = false, [Z0][0]? = some Z0, Z0[0]? = some Z3, 0 < 6, [Z0].set 0 (Z0.set 0 Z15) = [Z16], [Z16][0]? = some Z16, Z16[1]? = some Z5, 0 < 1, [Z16].set 0 (Z16.set 1 Z17) = [Z18], [Z18][0]? = some Z18, Z18[2]? = some Z13, 0 < 1, [Z18].set 0 (Z18.set 2 Z19) = Z20, Qa1 (Z2.take Z2.length) = true, Z2.take Z2.length = Z2, Qa4 Z2 = true, Qa1 (Z4.take Z4.length) = true, Z4.take Z4.length = Z4, Qa4 Z4 = true, Qa1 (Z1.take Z1.length) = true, Z1.take Z1.length = Z1, Qa4 Z1 = true, Z7 = Z7, Qa5 Z7 = true] ⟨c10, rfl, rfl, (by decide), rfl, rfl, rfl, (by decide), rfl, rfl, rfl, (by decide), rfl, (Qb4 Qcq), Qb3, (Qa7 Qgw), (Qb4 Qbp), Qb3, (Qa7 Qey), (Qb4 t3), Qb3, (Qa7 n3), rfl, rfl, trivial⟩
noncomputable def Qj4 (p1 : Qaf) : Option Qa2 :=
 Option.bind (Qfl 0) fun r2 =>
 Option.bind (mk 0 p1.Cells) fun l3 =>
 Option.bind (mk 0 p1.Locks) fun l4 =>
 Qe4 l4 FU (Qa2.mk [] [] [] 0) (Qa2.mk [(Qa0.mk r2.Routine r2.Pc r2.State r2.Cond r2.Lock r2.Stack)] l3 l4 0) 0
theorem Qwu {p1 : Qaf} {r : Qa2} (h : Qj4 p1 = some r) : Qa6 Tryz.prog 127 [(AV.agg ((r34 p1)))] (AV.agg (o57 r)) := by
 refine gM Tryz.func127 26 Xcv fun E hP hn hx => ?_
 unfold Qj4 at h
 obtain ⟨r2, hr2, h⟩ := bnS h
 obtain ⟨l3, hl3, h⟩ := bnS h
 obtain ⟨l4, hl4, h⟩ := bnS h
 exact (let Z0 := AV.agg (Qab r2); let Z1 := l3.map Qae; let Z2 := AV.sl 1005 0 Z1.length; let Z3 := l4.map o3; let Z4 := AV.sl 1006 0 Z3.length; let Z5 := (I (l4.length : Int)); let Z6 := AV.own 179 6 ([].map Qab); let Z7 := [[Z6, nS, nS, (I 0)]]; let Z8 := AV.own 142 1 ([].map Qae); let Z9 := [[Z6, Z8, nS, (I 0)]]; let Z10 := [(I 0)]; let Z11 := [[Z6, Z8, (AV.own 3 1 ([].map o3)), (I 0)]]; let Z12 := r2.Stack.map Qae; let Z13 := AV.sl 1003 0 Z12.length; let Z14 := [(I r2.Routine), (I r2.Pc), (I r2.State), (I r2.Cond), (I r2.Lock), Z13]; let Z15 := [(Qa0.mk r2.Routine r2.Pc r2.State r2.Cond r2.Lock r2.Stack)].map Qab; let Z16 := AV.sl 1004 0 [Z14].length; let Z17 := [Z16, Z2, Z4, (I 0)]; let Z18 := AV.own 179 6 Z15; let Z19 := [Z18, Z2, Z4, (I 0)]; let Z20 := AV.own 142 1 Z1; let Z21 := [Z18, Z20, Z4, (I 0)]; let Z22 := [[Z18, Z20, (AV.own 3 1 Z3), (I 0)]]; let Z23 := AV.agg Z14; let Z24 := ((rtf Z0 [1003]).2.1).map sm; let Z25 := ([(1004, (Qam.mk 179 6 [Z14]))].map sm); let Z26 := AV.ptr 1001 0 0; let Z27 := I p1.Cells; let Z28 := [(1005, (Qam.mk 142 1 Z1))].map sm; let Z29 := ((8 : Nat) : Int); let Z30 := AV.ptr 1001 0 1; let Z31 := I p1.Locks; let Z32 := [(1006, (Qam.mk 3 1 Z3))].map sm; let Z33 := AV.agg Z17; let Z34 := AV.ptr 1007 0 0; let Z35 := ([(1007, (Qam.mk 57 4 [[nS, nS, nS, (I 0)]]))].map sm); let Z36 := Qa2.mk [] [] [] 0; let Z37 := Qa2.mk [(Qa0.mk r2.Routine r2.Pc r2.State r2.Cond r2.Lock r2.Stack)] l3 l4 0; gT hP hn hx [hW 0 1001, hW 1 1002, hh 2 (.call [] Z0 [1003]), hW 3 1004, ⟨6, .nw 1005 Z1, some Z2⟩, ⟨9, .nw 1006 Z3, some Z4⟩, hW 11 1007, hO 15 Z5, hh 17 (.own0 1002 1 [] [nS, nS, (I 0)] 179 6 Z7), hh 17 (.own0 1002 1 [Z6] [nS, (I 0)] 142 1 Z9), hh 17 (.own0 1002 1 [Z6, Z8] Z10 3 1 Z11), hh 17 (.pack 1004 1003 0 5 Z14 Z15), hh 17 (.pack 1007 1004 0 0 Z17 [Z19]), hh 17 (.pack 1007 1005 0 1 Z19 [Z21]), hh 17 (.pack 1007 1006 0 2 Z21 Z22)] [(1002, 1), (1007, 2)] [2, 3, 16, 17] [] [Z23 = Z23, Z24 = Z24, Qa6 Tryz.prog 175 Z10 Z0, Qci Z0 = true, Z23 = Z23, Z24 = Z24, Qa6 Tryz.prog 175 Z10 Z0, Qci Z0 = true, Z23 = Z23, Z24 = Z24, Qa6 Tryz.prog 175 Z10 Z0, Qci Z0 = true, Z23 = Z23, Z24 = Z24, Qa6 Tryz.prog 175 Z10 Z0, Qci Z0 = true, Z23 = Z23, Z24 = Z24, Qa6 Tryz.prog 175 Z10 Z0, Qci Z0 = true, Z23 = Z23, Z24 = Z24, Qa6 Tryz.prog 175 Z10 Z0, Qci Z0 = true, Z23 = Z23, Z24 = Z24, Qa6 Tryz.prog 175 Z10 Z0, Qci Z0 = true, Z23 = Z23, Z24 = Z24, Qa6 Tryz.prog 175 Z10 Z0, Qci Z0 = true, Z16 = Z16, Z25 = Z25, Z16 = Z16, Z25 = Z25, Z16 = Z16, Z25 = Z25, Z16 = Z16, Z25 = Z25, Z16 = Z16, Z25 = Z25, Z16 = Z16, Z25 = Z25, Z16 = Z16, Z25 = Z25, Z16 = Z16, Z25 = Z25, Z26 = Z26, Z26 = Z26, Z26 = Z26, Z26 = Z26, Z26 = Z26, Z26 = Z26, Z26 = Z26, Z26 = Z26, Z26 = Z26, Z26 = Z26, Z26 = Z26, Z26 = Z26, Z27 = Z27, Z27 = Z27, Z27 = Z27, Z27 = Z27, Z27 = Z27, Z27 = Z27, Z27 = Z27, Z27 = Z27, Z27 = Z27, Z27 = Z27, Z27 = Z27, Z27 = Z27, Z2 = Z2, Z28 = Z28, List.replicate p1.Cells.toNat [.lit (.float .f64 0)] = Z1, AV.sl 1005 0 p1.Cells.toNat = Z2, p1.Cells = p1.Cells, (0 : Int) ≤ p1.Cells, p1.Cells * Z29 ≤ 140737488355328, p1.Cells ≤ 140737488355328, Z2 = Z2, Z28 = Z28, List.replicate p1.Cells.toNat [.lit (.float .f64 0)] = Z1, AV.sl 1005 0 p1.Cells.toNat = Z2, p1.Cells = p1.Cells, (0 : Int) ≤ p1.Cells, p1.Cells * Z29 ≤ 140737488355328, p1.Cells ≤ 140737488355328, Z2 = Z2, Z28 = Z28, List.replicate p1.Cells.toNat [.lit (.float .f64 0)] = Z1, AV.sl 1005 0 p1.Cells.toNat = Z2, p1.Cells = p1.Cells, (0 : Int) ≤ p1.Cells, p1.Cells * Z29 ≤ 140737488355328, p1.Cells ≤ 140737488355328, Z2 = Z2, Z28 = Z28, List.replicate p1.Cells.toNat [.lit (.float .f64 0)] = Z1, AV.sl 1005 0 p1.Cells.toNat = Z2, p1.Cells = p1.Cells, (0 : Int) ≤ p1.Cells, p1.Cells * Z29 ≤ 140737488355328, p1.Cells ≤ 140737488355328, Z2 = Z2, Z28 = Z28, List.replicate p1.Cells.toNat [.lit (.float .f64 0)] = Z1, AV.sl 1005 0 p1.Cells.toNat = Z2, p1.Cells = p1.Cells, (0 : Int) ≤ p1.Cells, p1.Cells * Z29 ≤ 140737488355328, p1.Cells ≤ 140737488355328, Z2 = Z2, Z28 = Z28, List.replicate p1.Cells.toNat [.lit (.float .f64 0)] = Z1, AV.sl 1005 0 p1.Cells.toNat = Z2, p1.Cells = p1.Cells, (0 : Int) ≤ p1.Cells, p1.Cells * Z29 ≤ 140737488355328, p1.Cells ≤ 140737488355328, Z2 = Z2, Z28 = Z28, List.replicate p1.Cells.toNat [.lit (.float .f64 0)] = Z1, AV.sl 1005 0 p1.Cells.toNat = Z2, p1.Cells = p1.Cells, (0 : Int) ≤ p1.Cells, p1.Cells * Z29 ≤ 140737488355328, p1.Cells ≤ 140737488355328, Z2 = Z2, Z28 = Z28, List.replicate p1.Cells.toNat [.lit (.float .f64 0)] = Z1, AV.sl 1005 0 p1.Cells.toNat = Z2, p1.Cells = p1.Cells, (0 : Int) ≤ p1.Cells, p1.Cells * Z29 ≤ 140737488355328, p1.Cells ≤ 140737488355328, Z2 = Z2, Z28 = Z28, List.replicate p1.Cells.toNat [.lit (.float .f64 0)] = Z1, AV.sl 1005 0 p1.Cells.toNat = Z2, p1.Cells = p1.Cells, (0 : Int) ≤ p1.Cells, p1.Cells * Z29 ≤ 140737488355328, p1.Cells ≤ 140737488355328, Z2 = Z2, Z28 = Z28, List.replicate p1.Cells.toNat [.lit (.float .f64 0)] = Z1, AV.sl 1005 0 p1.Cells.toNat = Z2, p1.Cells = p1.Cells, (0 : Int) ≤ p1.Cells, p1.Cells * Z29 ≤ 140737488355328, p1.Cells ≤ 140737488355328, Z2 = Z2, Z28 = Z28, List.replicate p1.Cells.toNat [.lit (.float .f64 0)] = Z1, AV.sl 1005 0 p1.Cells.toNat = Z2, p1.Cells = p1.Cells, (0 : Int) ≤ p1.Cells, p1.Cells * Z29 ≤ 140737488355328, p1.Cells ≤ 140737488355328, Z2 = Z2, Z28 = Z28, List.replicate p1.Cells.toNat [.lit (.float .f64 0)] = Z1, AV.sl 1005 0 p1.Cells.toNat = Z2, p1.Cells = p1.Cells, (0 : Int) ≤ p1.Cells, p1.Cells * Z29 ≤ 140737488355328, p1.Cells ≤ 140737488355328, Z30 = Z30, Z30 = Z30, Z30 = Z30, Z30 = Z30, Z30 = Z30, Z30 = Z30, Z30 = Z30, Z30 = Z30, Z30 = Z30, Z30 = Z30, Z30 = Z30, Z30 = Z30, Z31 = Z31, Z31 = Z31, Z31 = Z31, Z31 = Z31, Z31 = Z31, Z31 = Z31, Z31 = Z31, Z31 = Z31, Z31 = Z31, Z31 = Z31, Z31 = Z31, Z31 = Z31, Z4 = Z4, Z32 = Z32, List.replicate p1.Locks.toNat [.lit (.int .i64 0)] = Z3, AV.sl 1006 0 p1.Locks.toNat = Z4, p1.Locks = p1.Locks, (0 : Int) ≤ p1.Locks, p1.Locks * Z29 ≤ 140737488355328, p1.Locks ≤ 140737488355328, Z4 = Z4, Z32 = Z32, List.replicate p1.Locks.toNat [.lit (.int .i64 0)] = Z3, AV.sl 1006 0 p1.Locks.toNat = Z4, p1.Locks = p1.Locks, (0 : Int) ≤ p1.Locks, p1.Locks * Z29 ≤ 140737488355328, p1.Locks ≤ 140737488355328, Z4 = Z4, Z32 = Z32, List.replicate p1.Locks.toNat [.lit (.int .i64 0)] = Z3, AV.sl 1006 0 p1.Locks.toNat = Z4, p1.Locks = p1.Locks, (0 : Int) ≤ p1.Locks, p1.Locks * Z29 ≤ 140737488355328, p1.Locks ≤ 140737488355328, Z4 = Z4, Z32 = Z32, List.replicate p1.Locks.toNat [.lit (.int .i64 0)] = Z3, AV.sl 1006 0 p1.Locks.toNat = Z4, p1.Locks = p1.Locks, (0 : Int) ≤ p1.Locks, p1.Locks * Z29 ≤ 140737488355328, p1.Locks ≤ 140737488355328, Z4 = Z4, Z32 = Z32, List.replicate p1.Locks.toNat [.lit (.int .i64 0)] = Z3, AV.sl 1006 0 p1.Locks.toNat = Z4, p1.Locks = p1.Locks, (0 : Int) ≤ p1.Locks, p1.Locks * Z29 ≤ 140737488355328, p1.Locks ≤ 140737488355328, Z4 = Z4, Z32 = Z32, List.replicate p1.Locks.toNat [.lit (.int .i64 0)] = Z3, AV.sl 1006 0 p1.Locks.toNat = Z4, p1.Locks = p1.Locks, (0 : Int) ≤ p1.Locks, p1.Locks * Z29 ≤ 140737488355328, p1.Locks ≤ 140737488355328, Z4 = Z4, Z32 = Z32, List.replicate p1.Locks.toNat [.lit (.int .i64 0)] = Z3, AV.sl 1006 0 p1.Locks.toNat = Z4, p1.Locks = p1.Locks, (0 : Int) ≤ p1.Locks, p1.Locks * Z29 ≤ 140737488355328, p1.Locks ≤ 140737488355328, Z4 = Z4, Z32 = Z32, List.replicate p1.Locks.toNat [.lit (.int .i64 0)] = Z3, AV.sl 1006 0 p1.Locks.toNat = Z4, p1.Locks = p1.Locks, (0 : Int) ≤ p1.Locks, p1.Locks * Z29 ≤ 140737488355328, p1.Locks ≤ 140737488355328, Z4 = Z4, Z32 = Z32, List.replicate p1.Locks.toNat [.lit (.int .i64 0)] = Z3, AV.sl 1006 0 p1.Locks.toNat = Z4, p1.Locks = p1.Locks, (0 : Int) ≤ p1.Locks, p1.Locks * Z29 ≤ 140737488355328, p1.Locks ≤ 140737488355328, Z4 = Z4, Z32 = Z32, List.replicate p1.Locks.toNat [.lit (.int .i64 0)] = Z3, AV.sl 1006 0 p1.Locks.toNat = Z4, p1.Locks = p1.Locks, (0 : Int) ≤ p1.Locks, p1.Locks * Z29 ≤ 140737488355328, p1.Locks ≤ 140737488355328, Z4 = Z4, Z32 = Z32, List.replicate p1.Locks.toNat [.lit (.int .i64 0)] = Z3, AV.sl 1006 0 p1.Locks.toNat = Z4, p1.Locks = p1.Locks, (0 : Int) ≤ p1.Locks, p1.Locks * Z29 ≤ 140737488355328, p1.Locks ≤ 140737488355328, Z4 = Z4, Z32 = Z32, List.replicate p1.Locks.toNat [.lit (.int .i64 0)] = Z3, AV.sl 1006 0 p1.Locks.toNat = Z4, p1.Locks = p1.Locks, (0 : Int) ≤ p1.Locks, p1.Locks * Z29 ≤ 140737488355328, p1.Locks ≤ 140737488355328, Z33 = Z33, Z33 = Z33, Z34 = Z34, Z35 = Z35, Z34 = Z34, Z35 = Z35, Z34 = Z34, Z35 = Z35, Z34 = Z34, Z35 = Z35, Z34 = Z34, Z35 = Z35, Z34 = Z34, Z35 = Z35, Z34 = Z34, Z35 = Z35, Z34 = Z34, Z35 = Z35, Z34 = Z34, Z35 = Z35, Z34 = Z34, Z35 = Z35, Z34 = Z34, Z35 = Z35, Z34 = Z34, Z35 = Z35, AV.lit (.int .i64 ((Z3.length : Nat) : Int)) = Z5, [[nS, nS, nS, (I 0)]] = List.replicate 1 ([] ++ AV.lit (.slice none 0 0) :: [nS, nS, (I 0)]), List.replicate 1 ([] ++ AV.own 179 6 [] :: [nS, nS, (I 0)]) = Z7, Z7 = List.replicate 1 ([Z6] ++ AV.lit (.slice none 0 0) :: [nS, (I 0)]), List.replicate 1 ([Z6] ++ AV.own 142 1 [] :: [nS, (I 0)]) = Z9, Z9 = List.replicate 1 ([Z6, Z8] ++ AV.lit (.slice none 0 0) :: Z10), List.replicate 1 ([Z6, Z8] ++ AV.own 3 1 [] :: Z10) = Z11, [Z14][0]? = some Z14, Z14[5]? = some Z13, Qa1 Z12 = true, [Z14].set 0 (Z14.set 5 (AV.own 142 1 Z12)) = Z15, [Z17][0]? = some Z17, Z17[0]? = some (AV.sl 1004 0 Z15.length), Qa1 Z15 = true, [Z17].set 0 (Z17.set 0 Z18) = [Z19], [Z19][0]? = some Z19, Z19[1]? = some Z2, Qa1 Z1 = true, [Z19].set 0 (Z19.set 1 Z20) = [Z21], [Z21][0]? = some Z21, Z21[2]? = some Z4, Qa1 Z3 = true, [Z21].set 0 (Z21.set 2 (AV.own 3 1 Z3)) = Z22, Qaa [(1002, 1), (1007, 2)] Z11, Qaa [(1002, 1), (1007, 2)] Z22] ⟨rfl, rfl, (Qc5 hr2), (by simp +zetaDelta only [Qci, Qbl, Qa7 Qey, Qab, Bool.and_self]), rfl, rfl, (Qc5 hr2), (by simp +zetaDelta only [Qci, Qbl, Qa7 Qey, Qab, Bool.and_self]), rfl, rfl, (Qc5 hr2), (by simp +zetaDelta only [Qci, Qbl, Qa7 Qey, Qab, Bool.and_self]), rfl, rfl, (Qc5 hr2), (by simp +zetaDelta only [Qci, Qbl, Qa7 Qey, Qab, Bool.and_self]), rfl, rfl, (Qc5 hr2), (by simp +zetaDelta only [Qci, Qbl, Qa7 Qey, Qab, Bool.and_self]), rfl, rfl, (Qc5 hr2), (by simp +zetaDelta only [Qci, Qbl, Qa7 Qey, Qab, Bool.and_self]), rfl, rfl, (Qc5 hr2), (by simp +zetaDelta only [Qci, Qbl, Qa7 Qey, Qab, Bool.and_self]), rfl, rfl, (Qc5 hr2), (by simp +zetaDelta only [Qci, Qbl, Qa7 Qey, Qab, Bool.and_self]), rfl, rfl, rfl, rfl, rfl, rfl, rfl, rfl, rfl, rfl, rfl, rfl, rfl, rfl, rfl, rfl, rfl, rfl, rfl, rfl, rfl, rfl, rfl, rfl, rfl, rfl, rfl, rfl, rfl, rfl, rfl, rfl, rfl, rfl, rfl, rfl, rfl, rfl, rfl, rfl, rfl, rfl, (mkM Qae hl3), (mkS Qae hl3), rfl, (mk0 hl3), (mkB hl3 (by decide)), (mkC hl3), rfl, rfl, (mkM Qae hl3), (mkS Qae hl3), rfl, (mk0 hl3), (mkB hl3 (by decide)), (mkC hl3), rfl, rfl, (mkM Qae hl3), (mkS Qae hl3), rfl, (mk0 hl3), (mkB hl3 (by decide)), (mkC hl3), rfl, rfl, (mkM Qae hl3), (mkS Qae hl3), rfl, (mk0 hl3), (mkB hl3 (by decide)), (mkC hl3), rfl, rfl, (mkM Qae hl3), (mkS Qae hl3), rfl, (mk0 hl3), (mkB hl3 (by decide)), (mkC hl3), rfl, rfl, (mkM Qae hl3), (mkS Qae hl3), rfl, (mk0 hl3), (mkB hl3 (by decide)), (mkC hl3), rfl, rfl, (mkM Qae hl3), (mkS Qae hl3), rfl, (mk0 hl3), (mkB hl3 (by decide)), (mkC hl3), rfl, rfl, (mkM Qae hl3), (mkS Qae hl3), rfl, (mk0 hl3), (mkB hl3 (by decide)), (mkC hl3), rfl, rfl, (mkM Qae hl3), (mkS Qae hl3), rfl, (mk0 hl3), (mkB hl3 (by decide)), (mkC hl3), rfl, rfl, (mkM Qae hl3), (mkS Qae hl3), rfl, (mk0 hl3), (mkB hl3 (by decide)), (mkC hl3), rfl, rfl, (mkM Qae hl3), (mkS Qae hl3), rfl, (mk0 hl3), (mkB hl3 (by decide)), (mkC hl3), rfl, rfl, (mkM Qae hl3), (mkS Qae hl3), rfl, (mk0 hl3), (mkB hl3 (by decide)), (mkC hl3), rfl, rfl, rfl, rfl, rfl, rfl, rfl, rfl, rfl, rfl, rfl, rfl, rfl, rfl, rfl, rfl, rfl, rfl, rfl, rfl, rfl, rfl, rfl, rfl, rfl, rfl, (mkM o3 hl4), (mkS o3 hl4), rfl, (mk0 hl4), (mkB hl4 (by decide)), (mkC hl4), rfl, rfl, (mkM o3 hl4), (mkS o3 hl4), rfl, (mk0 hl4), (mkB hl4 (by decide)), (mkC hl4), rfl, rfl, (mkM o3 hl4), (mkS o3 hl4), rfl, (mk0 hl4), (mkB hl4 (by decide)), (mkC hl4), rfl, rfl, (mkM o3 hl4), (mkS o3 hl4), rfl, (mk0 hl4), (mkB hl4 (by decide)), (mkC hl4), rfl, rfl, (mkM o3 hl4), (mkS o3 hl4), rfl, (mk0 hl4), (mkB hl4 (by decide)), (mkC hl4), rfl, rfl, (mkM o3 hl4), (mkS o3 hl4), rfl, (mk0 hl4), (mkB hl4 (by decide)), (mkC hl4), rfl, rfl, (mkM o3 hl4), (mkS o3 hl4), rfl, (mk0 hl4), (mkB hl4 (by decide)), (mkC hl4), rfl, rfl, (mkM o3 hl4), (mkS o3 hl4), rfl, (mk0 hl4), (mkB hl4 (by decide)), (mkC hl4), rfl, rfl, (mkM o3 hl4), (mkS o3 hl4), rfl, (mk0 hl4), (mkB hl4 (by decide)), (mkC hl4), rfl, rfl, (mkM o3 hl4), (mkS o3 hl4), rfl, (mk0 hl4), (mkB hl4 (by decide)), (mkC hl4), rfl, rfl, (mkM o3 hl4), (mkS o3 hl4), rfl, (mk0 hl4), (mkB hl4 (by decide)), (mkC hl4), rfl, rfl, (mkM o3 hl4), (mkS o3 hl4), rfl, (mk0 hl4), (mkB hl4 (by decide)), (mkC hl4), rfl, rfl, rfl, rfl, rfl, rfl, rfl, rfl, rfl, rfl, rfl, rfl, rfl, rfl, rfl, rfl, rfl, rfl, rfl, rfl, rfl, rfl, rfl, rfl, rfl, rfl, (Qd9 o3), rfl, rfl, rfl, rfl, rfl, rfl, rfl, rfl, (Qa9 Qbp), rfl, rfl, (pkS lnq), (Qa9 Qcq), rfl, rfl, rfl, (Qa9 Qbp), rfl, rfl, rfl, (Qa9 t3), rfl, (rok (Qat t57 Z36)), (rok (Qat t57 Z37)), trivial⟩ (Qsu hP hn hx l4 FU Z36 Z37 0 _ h))
noncomputable def Xgn : Code := match Tryz.f87.body with | some c => c | none => .skip
noncomputable def Qal  (p2 : Int) (p3 : (List Int)) : Nat → Qaf → Qc1 → Qc1 → Int → Option (Qc1 × Bool)
 | 0, _, _, _, _ => none
 | n + 1, a5, a6, a7, v8 =>
 Option.bind (Qe7 a7.End a5) fun r9 =>
 Option.bind (Qjw a5 a7.End r9 v8 p2) fun r10 =>
 if (r10 != 0) = true then
  Option.bind (Qen (Qa2.mk a7.End.Threads a7.End.Cells a7.End.Owner a7.End.Fault)) fun r12 =>
  some ((Qc1.mk r10 a7.Trace a7.Picks (Qa2.mk r12.Threads r12.Cells r12.Owner r12.Fault)), true)
 else
  Option.bind (Qgg r9 v8 p3) fun r14 =>
  if (decide (r14 < 0)) = true then
   some ((Qc1.mk 0 [] [] (Qa2.mk [] [] [] 0)), false)
  else
   Option.bind (app a7.Picks [r14]) fun l17 =>
   Option.bind (rd r9 r14) fun x18 =>
   Option.bind (Qdm a7.End a5 x18) fun r19 =>
   Option.bind (app a7.Trace [r19.1]) fun l20 =>
   Qal p2 p3 n a5 a6 (Qc1.mk r10 l20 l17 r19.2) (w64 (v8 + 1))
theorem Qho {E : Env} (hP : E.P = Tryz.prog) (hn : E.n = 62) (hx : FX E []) (p2 : Int) (p3 : (List Int))  : ∀ (n : Nat) (a5 : Qaf) (a6 : Qc1) (a7 : Qc1) (v8 : Int) (r : (Qc1 × Bool)), Qal p2 p3 n a5 a6 a7 v8 = some r → WAt E Xgn (FQ (Qf0 Θ Tryz.f87.results.toList [] [] (AV.tup [(AV.agg (o70 r.1)), (B r.2)]) E)) [true, true, true, false] ⟨[(1, (I p2)), (2, (AV.fn 88 [(AV.rop (r51 p3) 0)])), (3, (AV.ptr 1 0 0)), (6, (AV.ptr 2 0 0)), (8, (AV.ptr 3 0 0)), (9, (I v8))], [(1, some ⟨34, 4, [((r34 a5))]⟩), (2, some ⟨70, 7, [((o70 a6))]⟩), (3, some ⟨70, 7, [((o70 a7))]⟩)], [1, 2, 3, JJ]⟩ := by
 have hm : E.P.follows .mixedOrders = true := by rw [hP]; exact Xb3
 have hΘ : TOK E.P Θ := by rw [hP]; exact Qui
 intro n
 induction n with
 | zero => intro a5 a6 a7 v8 r h; simp only [Qal] at h; cases h
 | succ n ih =>
  intro a5 a6 a7 v8 r h
  simp only [Qal] at h
  obtain ⟨r9, hr9, h⟩ := bnS h
  obtain ⟨r10, hr10, h⟩ := bnS h
  let Z0 := o70 a7; let Z1 := r9.map o3; let Z2 := AV.own 3 1 Z1; let Z3 := I r10; let Z4 := (Z1.drop 0).take Z1.length; let Z5 := a7.Trace.map o59; let Z6 := a7.Picks.map o3; let Z7 := AV.own 3 1 Z6; let Z8 := [Z3, (AV.own 59 5 Z5), Z7] ++ (o57 a7.End); let Z9 := AV.sl 1002 0 Z5.length; let Z10 := [Z3, Z9, Z7] ++ (o57 a7.End); let Z11 := AV.sl 1003 0 Z6.length; let Z12 := [Z3, Z9, Z11] ++ (o57 a7.End); let Z13 := a7.End.Threads.map Qab; let Z14 := AV.sl 1004 0 Z13.length; let Z15 := a7.End.Cells.map Qae; let Z16 := a7.End.Owner.map o3; let Z17 := AV.own 3 1 Z16; let Z18 := I a7.End.Fault; let Z19 := [Z3, Z9, Z11, Z14, (AV.own 142 1 Z15), Z17, Z18]; let Z20 := AV.sl 1005 0 Z15.length; let Z21 := [Z3, Z9, Z11, Z14, Z20, Z17, Z18]; let Z22 := AV.sl 1006 0 Z16.length; let Z23 := [[Z3, Z9, Z11, Z14, Z20, Z22, Z18]]; let Z24 := a7.End.Threads.map Qb2
  let H1 : List Hn := [hh 2 (.call [[Z0, (r70 a7)], []] Z2 [1001]), hh 9 (.callV [[], [Z0, (r70 a7)], Z1] Z3)]
  let P2 : List Prop := [Qa6 Tryz.prog 75 [(AV.rop (r70 a7) 3), (AV.agg ((r34 a5)))] Z2, Qci Z2 = true, [Z0][0]? = some Z0, Qch Z0 = true, Qio Z0 = (r70 a7), Qa6 Tryz.prog 153 [(AV.agg ((r34 a5))), (AV.rop (r70 a7) 3), (AV.ro 1 Z1), (I v8), (I p2)] Z3, Qa5 Z3 = true, [Z0][0]? = some Z0, Qch Z0 = true, Qio Z0 = (r70 a7), Frz Z4 Z1]
  have AP2 : Qak P2 := ⟨(Qg2 hr9), (by simp +zetaDelta only [Qci, Qbl, Qa7 n3, Bool.and_self]), rfl, rfl, (z70 a7), (Qin hr10), rfl, rfl, rfl, (z70 a7), (Qgh t3 z3), trivial⟩
  rcases itS h with ⟨c11, h⟩ | ⟨c13, h⟩
  ·obtain ⟨r12, hr12, h⟩ := bnS h
   obtain rfl := sj h
   exact (let Z25 := AV.agg (o57 r12); let Z26 := r12.Threads.map Qab; let Z27 := r12.Cells.map Qae; let Z28 := r12.Owner.map o3; let Z29 := I r12.Fault; gR hP hn (H1 ++ [hT 15, hh 17 (.unpack 3 1002 0 1 Z8 59 5 Z5 [Z10]), hh 17 (.unpack 3 1003 0 2 Z10 3 1 Z6 [Z12]), hh 17 (.unpack 3 1004 0 3 Z12 179 6 Z13 [Z19]), hh 17 (.unpack 3 1005 0 4 Z19 142 1 Z15 [Z21]), hh 17 (.unpack 3 1006 0 5 Z21 3 1 Z16 Z23), hh 18 (.call [[], Z24, Z15, Z16] Z25 [1007, 1008, 1009])]) [] (.agg [.agg [.raw, .own, .own, .own, .own, .own, .raw], .raw]) (P2 ++ [(r10 != 0) = true, [Z8][0]? = some Z8, Z8[1]? = some (AV.own 59 5 Z5), 0 < 5, [Z8].set 0 (Z8.set 1 Z9) = [Z10], [Z10][0]? = some Z10, Z10[2]? = some Z7, 0 < 1, [Z10].set 0 (Z10.set 2 Z11) = [Z12], [Z12][0]? = some Z12, Z12[3]? = some (AV.own 179 6 Z13), 0 < 6, [Z12].set 0 (Z12.set 3 Z14) = [Z19], [Z19][0]? = some Z19, Z19[4]? = some (AV.own 142 1 Z15), 0 < 1, [Z19].set 0 (Z19.set 4 Z20) = [Z21], [Z21][0]? = some Z21, Z21[5]? = some Z17, 0 < 1, [Z21].set 0 (Z21.set 5 Z22) = Z23, Qa6 Tryz.prog 76 [(AV.agg [(AV.ro 6 Z24), (AV.ro 1 Z15), (AV.ro 1 Z16), Z18])] Z25, Qci Z25 = true, Frz ((Z13.drop 0).take Z13.length) Z24, Frz ((Z15.drop 0).take Z15.length) Z15, Frz ((Z16.drop 0).take Z16.length) Z16, Z3 = Z3, Qa5 Z3 = true, Qa1 (Z5.take Z5.length) = true, Z5.take Z5.length = Z5, Qa4 Z5 = true, Qa1 (Z6.take Z6.length) = true, Z6.take Z6.length = Z6, Qa4 Z6 = true, Qa1 (Z26.take Z26.length) = true, Z26.take Z26.length = Z26, Qa4 Z26 = true, Qa1 (Z27.take Z27.length) = true, Z27.take Z27.length = Z27, Qa4 Z27 = true, Qa1 (Z28.take Z28.length) = true, Z28.take Z28.length = Z28, Qa4 Z28 = true, Z29 = Z29, Qa5 Z29 = true, (B true) = (B true), Qa5 (B true) = true]) (Qa8 AP2 ⟨c11, rfl, rfl, (by decide), rfl, rfl, rfl, (by decide), rfl, rfl, rfl, (by decide), rfl, rfl, rfl, (by decide), rfl, rfl, rfl, (by decide), rfl, (Qp1 hr12), (by simp +zetaDelta only [Qci, Qbl, Qa7 n3, Qa7 Qey, Qa7 Qgw, o57, Bool.and_self]), (Qgh Qcq Qx4), (Qgh Qbp Qrw), (Qgh t3 z3), rfl, rfl, (Qb4 t59), Qb3, (Qa7 n59), (Qb4 t3), Qb3, (Qa7 n3), (Qb4 Qcq), Qb3, (Qa7 Qgw), (Qb4 Qbp), Qb3, (Qa7 Qey), (Qb4 t3), Qb3, (Qa7 n3), rfl, rfl, rfl, rfl, trivial⟩))
  ·obtain ⟨r14, hr14, h⟩ := bnS h
   rcases itS h with ⟨c15, h⟩ | ⟨c16, h⟩
   ·obtain rfl := sj h
    exact gR hP hn (H1 ++ [hF 15, hh 19 (.callV [Z1] (I r14)), hT 23]) [] (.agg [.agg [.raw, .own, .own, .own, .own, .own, .raw], .raw]) (P2 ++ [(r10 != 0) = false, Qa6 Tryz.prog 88 [(AV.ro 1 Z1), (I v8), (AV.rop (r51 p3) 0)] (I r14), Qa5 (I r14) = true, Frz Z4 Z1, (decide (r14 < 0)) = true, (I 0) = (I 0), Qa5 (I 0) = true, (I 0) = (I 0), Qa5 (I 0) = true, (B false) = (B false), Qa5 (B false) = true]) (Qa8 AP2 ⟨c13, (Qjy hr14), rfl, (Qgh t3 z3), c15, rfl, rfl, rfl, rfl, rfl, rfl, trivial⟩)
   ·obtain ⟨l17, hl17, h⟩ := bnS h
    obtain ⟨x18, hx18, h⟩ := bnS h
    obtain ⟨r19, hr19, h⟩ := bnS h
    obtain ⟨l20, hl20, h⟩ := bnS h
    exact go_to hΘ hm hx hP hn (hs := [hh 2 (.call [[((o70 a7)), (r70 a7)], []] (AV.own 3 1 (r9.map o3)) [1001]), hh 9 (.callV [[], [((o70 a7)), (r70 a7)], (r9.map o3)] (I r10)), hF 15, hh 19 (.callV [(r9.map o3)] (I r14)), hF 23, hh 25 (.unpack 3 1010 0 2 ([(I r10), (AV.own 59 5 (a7.Trace.map o59)), (AV.own 3 1 (a7.Picks.map o3))] ++ (o57 a7.End)) 3 1 (a7.Picks.map o3) [([(I r10), (AV.own 59 5 (a7.Trace.map o59)), (AV.sl 1010 0 (a7.Picks.map o3).length)] ++ (o57 a7.End))]), hW 27 1011, hh 28 (.app 1012 (l17.map o3)), hh 31 (.unpack 3 1013 0 1 ([(I r10), (AV.own 59 5 (a7.Trace.map o59)), (AV.sl 1012 0 (l17.map o3).length)] ++ (o57 a7.End)) 59 5 (a7.Trace.map o59) [([(I r10), (AV.sl 1013 0 (a7.Trace.map o59).length), (AV.sl 1012 0 (l17.map o3).length)] ++ (o57 a7.End))]), hh 38 (.row [(I x18)]), hh 39 (.callO 3 70 7 [1, 2] ([(I r10), (AV.sl 1013 0 (a7.Trace.map o59).length), (AV.sl 1012 0 (l17.map o3).length)] ++ (o57 a7.End)) ([(I r10), (AV.sl 1013 0 (a7.Trace.map o59).length), (AV.sl 1012 0 (l17.map o3).length)] ++ (o57 r19.2)) [[]] (AV.agg (o59 r19.1)) (AV.agg ((o59 r19.1)))), hW 40 1014, hh 45 (.app 1015 (l20.map o59)), hh 51 (.pack 3 1015 0 1 ([(I r10), (AV.sl 1015 0 (l20.map o59).length), (AV.sl 1012 0 (l17.map o3).length)] ++ (o57 r19.2)) [([(I r10), (AV.own 59 5 (l20.map o59)), (AV.sl 1012 0 (l17.map o3).length)] ++ (o57 r19.2))]), hh 51 (.pack 3 1012 0 2 ([(I r10), (AV.own 59 5 (l20.map o59)), (AV.sl 1012 0 (l17.map o3).length)] ++ (o57 r19.2)) [([(I r10), (AV.own 59 5 (l20.map o59)), (AV.own 3 1 (l17.map o3))] ++ (o57 r19.2))])]) (π := [(1, 1), (2, 2), (3, 3)]) (ts := [1, 2, 3, 6, 8, 9]) (kp := []) (ps := [Qa6 Tryz.prog 75 [(AV.rop (r70 a7) 3), (AV.agg ((r34 a5)))] (AV.own 3 1 (r9.map o3)), Qci (AV.own 3 1 (r9.map o3)) = true, [((o70 a7))][0]? = some ((o70 a7)), Qch ((o70 a7)) = true, Qio ((o70 a7)) = (r70 a7), Qa6 Tryz.prog 153 [(AV.agg ((r34 a5))), (AV.rop (r70 a7) 3), (AV.ro 1 (r9.map o3)), (I v8), (I p2)] (I r10), Qa5 (I r10) = true, [((o70 a7))][0]? = some ((o70 a7)), Qch ((o70 a7)) = true, Qio ((o70 a7)) = (r70 a7), Frz (((r9.map o3).drop 0).take (r9.map o3).length) (r9.map o3), (r10 != 0) = false, Qa6 Tryz.prog 88 [(AV.ro 1 (r9.map o3)), (I v8), (AV.rop (r51 p3) 0)] (I r14), Qa5 (I r14) = true, Frz (((r9.map o3).drop 0).take (r9.map o3).length) (r9.map o3), (decide (r14 < 0)) = false, [([(I r10), (AV.own 59 5 (a7.Trace.map o59)), (AV.own 3 1 (a7.Picks.map o3))] ++ (o57 a7.End))][0]? = some ([(I r10), (AV.own 59 5 (a7.Trace.map o59)), (AV.own 3 1 (a7.Picks.map o3))] ++ (o57 a7.End)), ([(I r10), (AV.own 59 5 (a7.Trace.map o59)), (AV.own 3 1 (a7.Picks.map o3))] ++ (o57 a7.End))[2]? = some (AV.own 3 1 (a7.Picks.map o3)), 0 < 1, [([(I r10), (AV.own 59 5 (a7.Trace.map o59)), (AV.own 3 1 (a7.Picks.map o3))] ++ (o57 a7.End))].set 0 (([(I r10), (AV.own 59 5 (a7.Trace.map o59)), (AV.own 3 1 (a7.Picks.map o3))] ++ (o57 a7.End)).set 2 (AV.sl 1010 0 (a7.Picks.map o3).length)) = [([(I r10), (AV.own 59 5 (a7.Trace.map o59)), (AV.sl 1010 0 (a7.Picks.map o3).length)] ++ (o57 a7.End))], (a7.Picks.map o3).take (a7.Picks.map o3).length ++ ((([r14].map o3).drop 0).take ([r14].map o3).length) = (l17.map o3), ((([r14].map o3).drop 0).take ([r14].map o3).length).all (fun r => r.all AV.plain) = true, (l17.map o3).length * 8 ≤ 140737488355328, (l17.map o3).length ≤ 140737488355328, [([(I r10), (AV.own 59 5 (a7.Trace.map o59)), (AV.sl 1012 0 (l17.map o3).length)] ++ (o57 a7.End))][0]? = some ([(I r10), (AV.own 59 5 (a7.Trace.map o59)), (AV.sl 1012 0 (l17.map o3).length)] ++ (o57 a7.End)), ([(I r10), (AV.own 59 5 (a7.Trace.map o59)), (AV.sl 1012 0 (l17.map o3).length)] ++ (o57 a7.End))[1]? = some (AV.own 59 5 (a7.Trace.map o59)), 0 < 5, [([(I r10), (AV.own 59 5 (a7.Trace.map o59)), (AV.sl 1012 0 (l17.map o3).length)] ++ (o57 a7.End))].set 0 (([(I r10), (AV.own 59 5 (a7.Trace.map o59)), (AV.sl 1012 0 (l17.map o3).length)] ++ (o57 a7.End)).set 1 (AV.sl 1013 0 (a7.Trace.map o59).length)) = [([(I r10), (AV.sl 1013 0 (a7.Trace.map o59).length), (AV.sl 1012 0 (l17.map o3).length)] ++ (o57 a7.End))], (0 : Int) ≤ r14, r14 < (((r9.map o3).length : Nat) : Int), (r9.map o3)[r14.toNat]? = some [(I x18)], ∀ V : Nat → Value, Qcp Tryz.prog 77 [⟨70, 7, [(hid V [1, 2] 0 ([(I r10), (AV.sl 1013 0 (a7.Trace.map o59).length), (AV.sl 1012 0 (l17.map o3).length)] ++ (o57 a7.End)))]⟩] [(AV.ptr 0 0 3), (AV.agg ((r34 a5))), (I x18)] [true] [⟨70, 7, [(hid V [1, 2] 0 ([(I r10), (AV.sl 1013 0 (a7.Trace.map o59).length), (AV.sl 1012 0 (l17.map o3).length)] ++ (o57 r19.2)))]⟩] (AV.agg (o59 r19.1)), some (Qam.mk 70 7 [([(I r10), (AV.sl 1013 0 (a7.Trace.map o59).length), (AV.sl 1012 0 (l17.map o3).length)] ++ (o57 a7.End))]) = some (Qam.mk 70 7 [([(I r10), (AV.sl 1013 0 (a7.Trace.map o59).length), (AV.sl 1012 0 (l17.map o3).length)] ++ (o57 a7.End))]), ([(I r10), (AV.sl 1013 0 (a7.Trace.map o59).length), (AV.sl 1012 0 (l17.map o3).length)] ++ (o57 a7.End)).length = ([(I r10), (AV.sl 1013 0 (a7.Trace.map o59).length), (AV.sl 1012 0 (l17.map o3).length)] ++ (o57 r19.2)).length, ∀ V : Nat → Value, (Qa1 [(hid V [1, 2] 0 ([(I r10), (AV.sl 1013 0 (a7.Trace.map o59).length), (AV.sl 1012 0 (l17.map o3).length)] ++ (o57 a7.End)))] = true ∧ Qa4 [(hid V [1, 2] 0 ([(I r10), (AV.sl 1013 0 (a7.Trace.map o59).length), (AV.sl 1012 0 (l17.map o3).length)] ++ (o57 a7.End)))] = true), (rtf (Qi0 [(0, 3)] (AV.agg (o59 r19.1))) []).1 = (AV.agg ((o59 r19.1))), (rtf (Qi0 [(0, 3)] (AV.agg (o59 r19.1))) []).2.1 = [], (AV.ptr 3 0 1) = (AV.ptr 3 0 1), (AV.ptr 3 0 1) = (AV.ptr 3 0 1), (AV.sl 1013 0 (a7.Trace.map o59).length) = (AV.sl 1013 0 (a7.Trace.map o59).length), (AV.sl 1013 0 (a7.Trace.map o59).length) = (AV.sl 1013 0 (a7.Trace.map o59).length), (a7.Trace.map o59).take (a7.Trace.map o59).length ++ ((([r19.1].map o59).drop 0).take ([r19.1].map o59).length) = (l20.map o59), ((([r19.1].map o59).drop 0).take ([r19.1].map o59).length).all (fun r => r.all AV.plain) = true, (l20.map o59).length * 40 ≤ 140737488355328, (l20.map o59).length ≤ 140737488355328, [([(I r10), (AV.sl 1015 0 (l20.map o59).length), (AV.sl 1012 0 (l17.map o3).length)] ++ (o57 r19.2))][0]? = some ([(I r10), (AV.sl 1015 0 (l20.map o59).length), (AV.sl 1012 0 (l17.map o3).length)] ++ (o57 r19.2)), ([(I r10), (AV.sl 1015 0 (l20.map o59).length), (AV.sl 1012 0 (l17.map o3).length)] ++ (o57 r19.2))[1]? = some (AV.sl 1015 0 (l20.map o59).length), Qa1 (l20.map o59) = true, [([(I r10), (AV.sl 1015 0 (l20.map o59).length), (AV.sl 1012 0 (l17.map o3).length)] ++ (o57 r19.2))].set 0 (([(I r10), (AV.sl 1015 0 (l20.map o59).length), (AV.sl 1012 0 (l17.map o3).length)] ++ (o57 r19.2)).set 1 (AV.own 59 5 (l20.map o59))) = [([(I r10), (AV.own 59 5 (l20.map o59)), (AV.sl 1012 0 (l17.map o3).length)] ++ (o57 r19.2))], [([(I r10), (AV.own 59 5 (l20.map o59)), (AV.sl 1012 0 (l17.map o3).length)] ++ (o57 r19.2))][0]? = some ([(I r10), (AV.own 59 5 (l20.map o59)), (AV.sl 1012 0 (l17.map o3).length)] ++ (o57 r19.2)), ([(I r10), (AV.own 59 5 (l20.map o59)), (AV.sl 1012 0 (l17.map o3).length)] ++ (o57 r19.2))[2]? = some (AV.sl 1012 0 (l17.map o3).length), Qa1 (l17.map o3) = true, [([(I r10), (AV.own 59 5 (l20.map o59)), (AV.sl 1012 0 (l17.map o3).length)] ++ (o57 r19.2))].set 0 (([(I r10), (AV.own 59 5 (l20.map o59)), (AV.sl 1012 0 (l17.map o3).length)] ++ (o57 r19.2)).set 2 (AV.own 3 1 (l17.map o3))) = [([(I r10), (AV.own 59 5 (l20.map o59)), (AV.own 3 1 (l17.map o3))] ++ (o57 r19.2))], Qaa [(1, 1), (2, 2), (3, 3)] [((r34 a5))], Qaa [(1, 1), (2, 2), (3, 3)] [((o70 a6))], Qaa [(1, 1), (2, 2), (3, 3)] [([(I r10), (AV.own 59 5 (l20.map o59)), (AV.own 3 1 (l17.map o3))] ++ (o57 r19.2))]]) (by kernel_rfl) ⟨(Qg2 hr9), (by simp only [Qci, Qbl, Qa7 n3, Bool.and_self]), rfl, rfl, (z70 a7), (Qin hr10), rfl, rfl, rfl, (z70 a7), (Qgh t3 z3), c13, (Qjy hr14), rfl, (Qgh t3 z3), c16, rfl, rfl, (by decide), rfl, (Qkc o3 hl17), (plD pa3), (Qob o3 hl17 (by decide)), (Qo5 o3 hl17), rfl, rfl, (by decide), rfl, (rd0 hx18), (rdL o3 hx18), (rdM o3 hx18), (fun V => cOq (Qkr (V0 := (.int .i64 r10)) (V1 := (V 1)) (V2 := (V 2)) hr19) (by kernel_rfl) (by kernel_rfl)), rfl, rfl, (fun V => ⟨(by kernel_rfl), cNq (Qgx n57 [(AV.lit (.int .i64 r10)), (AV.lit (V 1)), (AV.lit (V 2))] rfl a7.End) (by kernel_rfl)⟩), rfl, rfl, rfl, rfl, rfl, rfl, (Qkc o59 hl20), (plD pa59), (Qob o59 hl20 (by decide)), (Qo5 o59 hl20), rfl, rfl, (Qa9 t59), rfl, rfl, rfl, (Qa9 t3), rfl, (rok (Qat t34 a5)), (rok (Qat t70 a6)), (rok (Qat t70 (Qc1.mk r10 l20 l17 r19.2))), trivial⟩ (ih a5 a6 (Qc1.mk r10 l20 l17 r19.2) (w64 (v8 + 1)) _ h)
noncomputable def Qce (p1 : Qaf) (p2 : Int) (p3 : (List Int)) : Option (Qc1 × Bool) :=
 Option.bind (Qj4 p1) fun r4 =>
 Qal p2 p3 FU p1 (Qc1.mk 0 [] [] (Qa2.mk [] [] [] 0)) (Qc1.mk 0 [] [] (Qa2.mk r4.Threads r4.Cells r4.Owner r4.Fault)) 0
theorem Qil {p1 : Qaf} {p2 : Int} {p3 : (List Int)} {r : (Qc1 × Bool)} (h : Qce p1 p2 p3 = some r) : Qa6 Tryz.prog 87 [(AV.agg ((r34 p1))), (I p2), (AV.fn 88 [(AV.rop (r51 p3) 0)])] (AV.tup [(AV.agg (o70 r.1)), (B r.2)]) := by
 refine gM Tryz.func87 62 Xgn fun E hP hn hx => ?_
 unfold Qce at h
 obtain ⟨r4, hr4, h⟩ := bnS h
 exact (let Z0 := AV.agg (o57 r4); let Z1 := I 0; let Z2 := AV.own 59 5 ([].map o59); let Z3 := [[Z1, Z2, nS, nS, nS, nS, Z1]]; let Z4 := AV.own 3 1 ([].map o3); let Z5 := [[Z1, Z2, Z4, nS, nS, nS, Z1]]; let Z6 := AV.own 179 6 ([].map Qab); let Z7 := [[Z1, Z2, Z4, Z6, nS, nS, Z1]]; let Z8 := [Z1, Z2, Z4, Z6]; let Z9 := AV.own 142 1 ([].map Qae); let Z10 := [[Z1, Z2, Z4, Z6, Z9, nS, Z1]]; let Z11 := [Z1, Z2, Z4, Z6, Z9]; let Z12 := [[Z1, Z2, Z4, Z6, Z9, Z4, Z1]]; let Z13 := AV.sl 1003 0 ([].map o59).length; let Z14 := AV.sl 1004 0 ([].map o3).length; let Z15 := r4.Threads.map Qab; let Z16 := AV.sl 1005 0 Z15.length; let Z17 := r4.Cells.map Qae; let Z18 := AV.sl 1006 0 Z17.length; let Z19 := r4.Owner.map o3; let Z20 := AV.sl 1007 0 Z19.length; let Z21 := I r4.Fault; let Z22 := [Z1, Z13, Z14, Z16, Z18, Z20, Z21]; let Z23 := [Z1, Z2, Z14, Z16, Z18, Z20, Z21]; let Z24 := [Z1, Z2, Z4, Z16, Z18, Z20, Z21]; let Z25 := AV.own 179 6 Z15; let Z26 := [Z1, Z2, Z4, Z25, Z18, Z20, Z21]; let Z27 := AV.own 142 1 Z17; let Z28 := [Z1, Z2, Z4, Z25, Z27, Z20, Z21]; let Z29 := [[Z1, Z2, Z4, Z25, Z27, (AV.own 3 1 Z19), Z21]]; let Z30 := Qc1.mk 0 [] [] (Qa2.mk [] [] [] 0); let Z31 := Qc1.mk 0 [] [] (Qa2.mk r4.Threads r4.Cells r4.Owner r4.Fault); gT hP hn hx [hW 0 1001, hW 1 1002, hW 3 1003, hW 4 1004, hh 6 (.call [[]] Z0 [1005, 1006, 1007]), hW 8 1008, hh 11 (.own0 1002 1 [Z1] [nS, nS, nS, nS, Z1] 59 5 Z3), hh 11 (.own0 1002 1 [Z1, Z2] [nS, nS, nS, Z1] 3 1 Z5), hh 11 (.own0 1002 1 [Z1, Z2, Z4] [nS, nS, Z1] 179 6 Z7), hh 11 (.own0 1002 1 Z8 [nS, Z1] 142 1 Z10), hh 11 (.own0 1002 1 Z11 [Z1] 3 1 Z12), hh 11 (.pack 1008 1003 0 1 Z22 [Z23]), hh 11 (.pack 1008 1004 0 2 Z23 [Z24]), hh 11 (.pack 1008 1005 0 3 Z24 [Z26]), hh 11 (.pack 1008 1006 0 4 Z26 [Z28]), hh 11 (.pack 1008 1007 0 5 Z28 Z29)] [(1001, 1), (1002, 2), (1008, 3)] [1, 2, 3, 6, 8, 9] [] [Qa6 Tryz.prog 127 [(AV.agg ((r34 p1)))] Z0, Qci Z0 = true, [[Z1, nS, nS, nS, nS, nS, Z1]] = List.replicate 1 ([Z1] ++ AV.lit (.slice none 0 0) :: [nS, nS, nS, nS, Z1]), List.replicate 1 ([Z1] ++ AV.own 59 5 [] :: [nS, nS, nS, nS, Z1]) = Z3, Z3 = List.replicate 1 ([Z1, Z2] ++ AV.lit (.slice none 0 0) :: [nS, nS, nS, Z1]), List.replicate 1 ([Z1, Z2] ++ AV.own 3 1 [] :: [nS, nS, nS, Z1]) = Z5, Z5 = List.replicate 1 ([Z1, Z2, Z4] ++ AV.lit (.slice none 0 0) :: [nS, nS, Z1]), List.replicate 1 ([Z1, Z2, Z4] ++ AV.own 179 6 [] :: [nS, nS, Z1]) = Z7, Z7 = List.replicate 1 (Z8 ++ AV.lit (.slice none 0 0) :: [nS, Z1]), List.replicate 1 (Z8 ++ AV.own 142 1 [] :: [nS, Z1]) = Z10, Z10 = List.replicate 1 (Z11 ++ AV.lit (.slice none 0 0) :: [Z1]), List.replicate 1 (Z11 ++ AV.own 3 1 [] :: [Z1]) = Z12, [Z22][0]? = some Z22, Z22[1]? = some Z13, Qa1 ([].map o59) = true, [Z22].set 0 (Z22.set 1 Z2) = [Z23], [Z23][0]? = some Z23, Z23[2]? = some Z14, Qa1 ([].map o3) = true, [Z23].set 0 (Z23.set 2 Z4) = [Z24], [Z24][0]? = some Z24, Z24[3]? = some Z16, Qa1 Z15 = true, [Z24].set 0 (Z24.set 3 Z25) = [Z26], [Z26][0]? = some Z26, Z26[4]? = some Z18, Qa1 Z17 = true, [Z26].set 0 (Z26.set 4 Z27) = [Z28], [Z28][0]? = some Z28, Z28[5]? = some Z20, Qa1 Z19 = true, [Z28].set 0 (Z28.set 5 (AV.own 3 1 Z19)) = Z29, Qaa [(1001, 1), (1002, 2), (1008, 3)] [((r34 p1))], Qaa [(1001, 1), (1002, 2), (1008, 3)] Z12, Qaa [(1001, 1), (1002, 2), (1008, 3)] Z29] ⟨(Qwu hr4), (by simp +zetaDelta only [Qci, Qbl, Qa7 n3, Qa7 Qey, Qa7 Qgw, o57, Bool.and_self]), rfl, rfl, rfl, rfl, rfl, rfl, rfl, rfl, rfl, rfl, rfl, rfl, (Qa9 t59), rfl, rfl, rfl, (Qa9 t3), rfl, rfl, rfl, (Qa9 Qcq), rfl, rfl, rfl, (Qa9 Qbp), rfl, rfl, rfl, (Qa9 t3), rfl, (rok (Qat t34 p1)), (rok (Qat t70 Z30)), (rok (Qat t70 Z31)), trivial⟩ (Qho hP hn hx p2 p3 FU p1 Z30 Z31 0 _ h))
noncomputable def Xgt : Code := match Tryz.f29.body with | some c => c | none => .skip
noncomputable def Qfq   (a8 : Qaf) (a9 : (List Int)) (a10 : Qc1) : Option (Qc1 × Bool) :=
 Option.bind (Qce a8 (a9.length : Int) a9) fun r11 =>
 if (!r11.2) = true then
  some ((Qc1.mk 0 [] [] (Qa2.mk [] [] [] 0)), false)
 else
  if (decide ((r11.1.Trace.length : Int) < (a9.length : Int))) = true then
   some ((Qc1.mk 0 [] [] (Qa2.mk [] [] [] 0)), false)
  else
   some ((Qc1.mk r11.1.Code r11.1.Trace r11.1.Picks (Qa2.mk r11.1.End.Threads r11.1.End.Cells r11.1.End.Owner r11.1.End.Fault)), true)
theorem Qo0 {E : Env} (hP : E.P = Tryz.prog) (hn : E.n = 37) (hx : FX E [])   (a8 : Qaf) (a9 : (List Int)) (a10 : Qc1) (r : (Qc1 × Bool)) (h : Qfq  a8 a9 a10 = some r) : WAt E Xgt (FQ (Qf0 Θ Tryz.f29.results.toList [] [] (AV.tup [(AV.agg (o70 r.1)), (B r.2)]) E)) [true, false, true, true] ⟨[(2, (AV.ptr 1 0 0)), (3, (AV.ptr 2 0 0)), (4, (AV.ptr 3 0 0))], [(1, some ⟨34, 4, [((r34 a8))]⟩), (2, some ⟨51, 1, [[(AV.ro 1 (a9.map o3))]]⟩), (3, some ⟨70, 7, [((o70 a10))]⟩)], [1, 2, 3, JJ]⟩ := by
 unfold Qfq at h
 obtain ⟨r11, hr11, h⟩ := bnS h
 let Z0 := (I (a9.length : Int)); let Z1 := [(AV.ro 1 (a9.map o3))]; let Z2 := AV.tup [(AV.agg (o70 r11.1)), (B r11.2)]; let Z3 := (((a9.map o3).length : Nat) : Int); let Z4 := B false; let Z5 := (r11.1.Trace.length : Int); let Z6 := r11.1.Trace.map o59; let Z7 := (decide (Z5 < (a9.length : Int))); let Z8 := I r11.1.Code; let Z9 := r11.1.Picks.map o3; let Z10 := r11.1.End.Threads.map Qab; let Z11 := r11.1.End.Cells.map Qae; let Z12 := r11.1.End.Owner.map o3; let Z13 := I r11.1.End.Fault
 let H1 : List Hn := [hO 2 Z0, hh 4 (.call [[], [Z1, (r51 a9)]] Z2 [1001, 1002, 1003, 1004, 1005]), hW 8 1006]
 let P2 : List Prop := [AV.lit (.int .i64 Z3) = Z0, Qa6 Tryz.prog 87 [(AV.agg ((r34 a8))), Z0, (AV.fn 88 [(AV.rop (r51 a9) 0)])] Z2, Qci Z2 = true, [Z1][0]? = some Z1, Qch Z1 = true, Qio Z1 = (r51 a9)]
 have AP2 : Qak P2 := ⟨(Qd9 o3), (Qil hr11), (by simp +zetaDelta only [Qci, Qbl, Qa7 n3, Qa7 n59, Qa7 Qey, Qa7 Qgw, o70, Bool.and_self]), rfl, rfl, rfl, trivial⟩
 rcases itS h with ⟨c12, h⟩ | ⟨c13, h⟩
 ·obtain rfl := sj h
  exact gR hP hn (H1 ++ [hO 13 (B true)]) [] (.agg [.agg [.raw, .own, .own, .own, .own, .own, .raw], .raw]) (P2 ++ [(B (!r11.2)) = (B true), (I 0) = (I 0), Qa5 (I 0) = true, (I 0) = (I 0), Qa5 (I 0) = true, Z4 = Z4, Qa5 Z4 = true]) (Qa8 AP2 ⟨(Qb9 c12), rfl, rfl, rfl, rfl, rfl, rfl, trivial⟩)
 ·let H3 : List Hn := H1 ++ [hO 13 Z4, hO 16 (I Z5), hO 18 Z0]
  let P4 : List Prop := P2 ++ [(B (!r11.2)) = Z4, AV.lit (.int .i64 ((Z6.length : Nat) : Int)) = (I Z5), AV.lit (.int .i64 Z3) = Z0]
  have AP4 : Qak P4 := Qa8 AP2 ⟨(Qb9 c13), (Qd9 o59), (Qd9 o3), trivial⟩
  rcases itS h with ⟨c14, h⟩ | ⟨c15, h⟩
  ·obtain rfl := sj h
   exact gR hP hn (H3 ++ [hT 21]) [] (.agg [.agg [.raw, .own, .own, .own, .own, .own, .raw], .raw]) (P4 ++ [Z7 = true, (I 0) = (I 0), Qa5 (I 0) = true, (I 0) = (I 0), Qa5 (I 0) = true, Z4 = Z4, Qa5 Z4 = true]) (Qa8 AP4 ⟨c14, rfl, rfl, rfl, rfl, rfl, rfl, trivial⟩)
  ·obtain rfl := sj h
   exact gR hP hn (H3 ++ [hF 21]) [] (.agg [.agg [.raw, .own, .own, .own, .own, .own, .raw], .raw]) (P4 ++ [Z7 = false, Z8 = Z8, Qa5 Z8 = true, Qa1 (Z6.take Z6.length) = true, Z6.take Z6.length = Z6, Qa4 Z6 = true, Qa1 (Z9.take Z9.length) = true, Z9.take Z9.length = Z9, Qa4 Z9 = true, Qa1 (Z10.take Z10.length) = true, Z10.take Z10.length = Z10, Qa4 Z10 = true, Qa1 (Z11.take Z11.length) = true, Z11.take Z11.length = Z11, Qa4 Z11 = true, Qa1 (Z12.take Z12.length) = true, Z12.take Z12.length = Z12, Qa4 Z12 = true, Z13 = Z13, Qa5 Z13 = true, (B true) = (B true), Qa5 (B true) = true]) (Qa8 AP4 ⟨c15, rfl, rfl, (Qb4 t59), Qb3, (Qa7 n59), (Qb4 t3), Qb3, (Qa7 n3), (Qb4 Qcq), Qb3, (Qa7 Qgw), (Qb4 Qbp), Qb3, (Qa7 Qey), (Qb4 t3), Qb3, (Qa7 n3), rfl, rfl, rfl, rfl, trivial⟩)
noncomputable def Qet (p1 : Qaf) (p2 : (List Int)) : Option (Qc1 × Bool) :=
 Option.bind (Qh9 p1) fun r3 =>
 if (!r3) = true then
  some ((Qc1.mk 0 [] [] (Qa2.mk [] [] [] 0)), false)
 else
  if (decide ((p2.length : Int) > 200)) = true then
   some ((Qc1.mk 0 [] [] (Qa2.mk [] [] [] 0)), false)
  else
   Qfq p1 p2 (Qc1.mk 0 [] [] (Qa2.mk [] [] [] 0))
theorem Qkq {p1 : Qaf} {p2 : (List Int)} {r : (Qc1 × Bool)} (h : Qet p1 p2 = some r) : Qa6 Tryz.prog 29 [(AV.agg ((r34 p1))), (AV.ro 1 (p2.map o3))] (AV.tup [(AV.agg (o70 r.1)), (B r.2)]) := by
 refine gM Tryz.func29 37 Xgt fun E hP hn hx => ?_
 unfold Qet at h
 obtain ⟨r3, hr3, h⟩ := bnS h
 let Z0 := I 0; let Z1 := B false; let Z2 := (I (p2.length : Int)); let Z3 := (decide ((p2.length : Int) > 200)); let Z4 := AV.own 59 5 ([].map o59); let Z5 := [[Z0, Z4, nS, nS, nS, nS, Z0]]; let Z6 := AV.own 3 1 ([].map o3); let Z7 := [[Z0, Z4, Z6, nS, nS, nS, Z0]]; let Z8 := AV.own 179 6 ([].map Qab); let Z9 := [[Z0, Z4, Z6, Z8, nS, nS, Z0]]; let Z10 := [Z0, Z4, Z6, Z8]; let Z11 := AV.own 142 1 ([].map Qae); let Z12 := [[Z0, Z4, Z6, Z8, Z11, nS, Z0]]; let Z13 := [Z0, Z4, Z6, Z8, Z11]; let Z14 := [[Z0, Z4, Z6, Z8, Z11, Z6, Z0]]; let Z15 := Qc1.mk 0 [] [] (Qa2.mk [] [] [] 0)
 let H1 : List Hn := [hW 0 1001, hW 1 1002, hW 2 1003, hh 5 (.callV [[]] (B r3))]
 let P2 : List Prop := [Qa6 Tryz.prog 48 [(AV.agg ((r34 p1)))] (B r3), Qa5 (B r3) = true]
 have AP2 : Qak P2 := ⟨(Qsf hr3), rfl, trivial⟩
 rcases itS h with ⟨c4, h⟩ | ⟨c5, h⟩
 ·obtain rfl := sj h
  exact gR hP hn (H1 ++ [hO 7 (B true)]) [] (.agg [.agg [.raw, .own, .own, .own, .own, .own, .raw], .raw]) (P2 ++ [(B (!r3)) = (B true), Z0 = Z0, Qa5 Z0 = true, Z0 = Z0, Qa5 Z0 = true, Z1 = Z1, Qa5 Z1 = true]) (Qa8 AP2 ⟨(Qb9 c4), rfl, rfl, rfl, rfl, rfl, rfl, trivial⟩)
 ·let P3 : List Prop := P2 ++ [(B (!r3)) = Z1, AV.lit (.int .i64 (((p2.map o3).length : Nat) : Int)) = Z2]
  have AP3 : Qak P3 := Qa8 AP2 ⟨(Qb9 c5), (Qd9 o3), trivial⟩
  rcases itS h with ⟨c6, h⟩ | ⟨c7, h⟩
  ·obtain rfl := sj h
   exact gR hP hn (H1 ++ [hO 7 Z1, hO 9 Z2, hT 12]) [] (.agg [.agg [.raw, .own, .own, .own, .own, .own, .raw], .raw]) (P3 ++ [Z3 = true, Z0 = Z0, Qa5 Z0 = true, Z0 = Z0, Qa5 Z0 = true, Z1 = Z1, Qa5 Z1 = true]) (Qa8 AP3 ⟨c6, rfl, rfl, rfl, rfl, rfl, rfl, trivial⟩)
  ·exact gT hP hn hx (H1 ++ [hO 7 Z1, hO 9 Z2, hF 12, hh 13 (.own0 1003 1 [Z0] [nS, nS, nS, nS, Z0] 59 5 Z5), hh 13 (.own0 1003 1 [Z0, Z4] [nS, nS, nS, Z0] 3 1 Z7), hh 13 (.own0 1003 1 [Z0, Z4, Z6] [nS, nS, Z0] 179 6 Z9), hh 13 (.own0 1003 1 Z10 [nS, Z0] 142 1 Z12), hh 13 (.own0 1003 1 Z13 [Z0] 3 1 Z14)]) [(1001, 1), (1002, 2), (1003, 3)] [2, 3, 4] [] (P3 ++ [Z3 = false, [[Z0, nS, nS, nS, nS, nS, Z0]] = List.replicate 1 ([Z0] ++ AV.lit (.slice none 0 0) :: [nS, nS, nS, nS, Z0]), List.replicate 1 ([Z0] ++ AV.own 59 5 [] :: [nS, nS, nS, nS, Z0]) = Z5, Z5 = List.replicate 1 ([Z0, Z4] ++ AV.lit (.slice none 0 0) :: [nS, nS, nS, Z0]), List.replicate 1 ([Z0, Z4] ++ AV.own 3 1 [] :: [nS, nS, nS, Z0]) = Z7, Z7 = List.replicate 1 ([Z0, Z4, Z6] ++ AV.lit (.slice none 0 0) :: [nS, nS, Z0]), List.replicate 1 ([Z0, Z4, Z6] ++ AV.own 179 6 [] :: [nS, nS, Z0]) = Z9, Z9 = List.replicate 1 (Z10 ++ AV.lit (.slice none 0 0) :: [nS, Z0]), List.replicate 1 (Z10 ++ AV.own 142 1 [] :: [nS, Z0]) = Z12, Z12 = List.replicate 1 (Z13 ++ AV.lit (.slice none 0 0) :: [Z0]), List.replicate 1 (Z13 ++ AV.own 3 1 [] :: [Z0]) = Z14, Qaa [(1001, 1), (1002, 2), (1003, 3)] [((r34 p1))], Qaa [(1001, 1), (1002, 2), (1003, 3)] [[(AV.ro 1 (p2.map o3))]], Qaa [(1001, 1), (1002, 2), (1003, 3)] Z14]) (Qa8 AP3 ⟨c7, rfl, rfl, rfl, rfl, rfl, rfl, rfl, rfl, rfl, rfl, (rok (Qat t34 p1)), (rok (Qat t51 p2)), (rok (Qat t70 Z15)), trivial⟩) (Qo0 hP hn hx p1 p2 Z15 _ h)
noncomputable def Xh0 : Code := match Tryz.f31.body with | some c => c | none => .skip
noncomputable def Qff  (p1 : (List Int)) (p2 : (List Int)) : Nat → Int → Option Bool
 | 0, _ => none
 | n + 1, v5 =>
 if (decide (v5 < (p1.length : Int))) = true then
  Option.bind (rd p1 v5) fun x7 =>
  Option.bind (rd p2 v5) fun x8 =>
  if (x7 != x8) = true then
   some false
  else
   Qff p1 p2 n (w64 (v5 + 1))
 else
  some true
theorem Qrj {E : Env} (hP : E.P = Tryz.prog) (hn : E.n = 26) (hx : FX E []) (p1 : (List Int)) (p2 : (List Int))  : ∀ (n : Nat) (v5 : Int) (r : Bool), Qff p1 p2 n v5 = some r → WAt E Xh0 (FQ (Qf0 Θ Tryz.f31.results.toList [] [] (B r) E)) [true, true, false, true, false] ⟨[(0, (AV.ro 1 (p1.map o3))), (1, (AV.ro 1 (p2.map o3))), (5, (I v5))], [], [JJ]⟩ := by
 intro n
 induction n with
 | zero => intro v5 r h; simp only [Qff] at h; cases h
 | succ n ih =>
  intro v5 r h
  simp only [Qff] at h
  let Z0 := (I (p1.length : Int)); let Z1 := (decide (v5 < (p1.length : Int)))
  let P1 : List Prop := [AV.lit (.int .i64 (((p1.map o3).length : Nat) : Int)) = Z0]
  have AP1 : Qak P1 := ⟨(Qd9 o3), trivial⟩
  rcases itS h with ⟨c6, h⟩ | ⟨c11, h⟩
  ·obtain ⟨x7, hx7, h⟩ := bnS h
   obtain ⟨x8, hx8, h⟩ := bnS h
   let H2 : List Hn := [hO 2 Z0, hT 4, hh 7 (.row (o3 x7)), hh 11 (.row (o3 x8))]
   let P3 : List Prop := P1 ++ [Z1 = true, (0 : Int) ≤ v5, (p1.map o3)[v5.toNat]? = some (o3 x7), (0 : Int) ≤ v5, (p2.map o3)[v5.toNat]? = some (o3 x8)]
   have AP3 : Qak P3 := Qa8 AP1 ⟨c6, (rd0 hx7), (rdM o3 hx7), (rd0 hx8), (rdM o3 hx8), trivial⟩
   rcases itS h with ⟨c9, h⟩ | ⟨c10, h⟩
   ·obtain rfl := sj h
    exact gR hP hn (H2 ++ [hT 14]) [] .raw (P3 ++ [(x7 != x8) = true, (B false) = (B false), Qa5 (B false) = true]) (Qa8 AP3 ⟨c9, rfl, rfl, trivial⟩)
   ·exact gT hP hn hx (H2 ++ [hF 14]) [] [0, 1, 5] [] (P3 ++ [(x7 != x8) = false]) (Qa8 AP3 ⟨c10, trivial⟩) (ih (w64 (v5 + 1)) _ h)
  ·obtain rfl := sj h
   exact gR hP hn [hO 2 Z0, hF 4] [] .raw (P1 ++ [Z1 = false, (B true) = (B true), Qa5 (B true) = true]) (Qa8 AP1 ⟨c11, rfl, rfl, trivial⟩)
noncomputable def Qgv (p1 : (List Int)) (p2 : (List Int)) : Option Bool :=
 if ((p1.length : Int) != (p2.length : Int)) = true then
  some false
 else
  Qff p1 p2 FU 0
theorem Ql4 {p1 : (List Int)} {p2 : (List Int)} {r : Bool} (h : Qgv p1 p2 = some r) : Qa6 Tryz.prog 31 [(AV.ro 1 (p1.map o3)), (AV.ro 1 (p2.map o3))] (B r) := by
 refine gM Tryz.func31 26 Xh0 fun E hP hn hx => ?_
 unfold Qgv at h
 let Z0 := (I (p1.length : Int)); let Z1 := (I (p2.length : Int)); let Z2 := ((p1.length : Int) != (p2.length : Int))
 let P1 : List Prop := [AV.lit (.int .i64 (((p1.map o3).length : Nat) : Int)) = Z0, AV.lit (.int .i64 (((p2.map o3).length : Nat) : Int)) = Z1]
 have AP1 : Qak P1 := ⟨(Qd9 o3), (Qd9 o3), trivial⟩
 rcases itS h with ⟨c3, h⟩ | ⟨c4, h⟩
 ·obtain rfl := sj h
  exact gR hP hn [hO 2 Z0, hO 4 Z1, hT 6] [] .raw (P1 ++ [Z2 = true, (B false) = (B false), Qa5 (B false) = true]) (Qa8 AP1 ⟨c3, rfl, rfl, trivial⟩)
 ·exact gT hP hn hx [hO 2 Z0, hO 4 Z1, hF 6] [] [0, 1, 5] [] (P1 ++ [Z2 = false]) (Qa8 AP1 ⟨c4, trivial⟩) (Qrj hP hn hx p1 p2 FU 0 _ h)
noncomputable def Xbs : Code := match Tryz.f150.body with | some c => c | none => .skip
noncomputable def Qgf  (p1 : Nat) (p2 : Nat)  : Option Bool :=
 if ((Qc0 p1 0) == some .eq) = true then
  if ((Qc0 p2 0) == some .eq) = true then
   some (((Qc0 (fdv 4607182418800017408 p1) 0) == some .gt) == ((Qc0 (fdv 4607182418800017408 p2) 0) == some .gt))
  else
   some ((Qc0 p1 p2) == some .eq)
 else
  some ((Qc0 p1 p2) == some .eq)
theorem Qok {E : Env} (hP : E.P = Tryz.prog) (hn : E.n = 37) (hx : FX E []) (p1 : Nat) (p2 : Nat)   (r : Bool) (h : Qgf p1 p2  = some r) : WAt E Xbs (FQ (Qf0 Θ Tryz.f150.results.toList [] [] (B r) E)) [true, false, true, true] ⟨[(0, (FK p1)), (1, (FK p2))], [], [JJ]⟩ := by
 unfold Qgf at h
 let Z0 := Qc0 p1 0; let Z1 := Qc0 p2 0; let Z2 := fdv 4607182418800017408 p1; let Z3 := Qc0 Z2 0; let Z4 := fdv 4607182418800017408 p2; let Z5 := Qc0 Z4 0; let Z6 := Qc0 p1 p2
 let H1 : List Hn := [hh 1 (.bin (B (Z0 == some .eq)))]
 let P2 : List Prop := [Qfr Tryz.prog .eql 142 (FK p1) (FK 0) (B (Z0 == some .eq))]
 have AP2 : Qak P2 := ⟨Xbm, trivial⟩
 rcases itS h with ⟨c11, h⟩ | ⟨c14, h⟩
 ·let P3 : List Prop := P2 ++ [(B (Z0 == some .eq)) = (B true), Qfr Tryz.prog .eql 142 (FK p2) (FK 0) (B (Z1 == some .eq))]
  have AP3 : Qak P3 := Qa8 AP2 ⟨(Qb9 c11), Xbm, trivial⟩
  rcases itS h with ⟨c12, h⟩ | ⟨c13, h⟩
  ·obtain rfl := sj h
   exact gR hP hn (H1 ++ [hO 2 (B true), hh 4 (.bin (B (Z1 == some .eq))), hT 6, hh 8 (.bin (FK Z2)), hh 9 (.bin (B (Z3 == some .gt))), hh 11 (.bin (FK Z4)), hh 12 (.bin (B (Z5 == some .gt)))]) [] .raw (P3 ++ [(Z1 == some .eq) = true, Qfr Tryz.prog .quo 142 (FK 4607182418800017408) (FK p1) (FK Z2), Qfr Tryz.prog .gtr 142 (FK Z2) (FK 0) (B (Z3 == some .gt)), Qfr Tryz.prog .quo 142 (FK 4607182418800017408) (FK p2) (FK Z4), Qfr Tryz.prog .gtr 142 (FK Z4) (FK 0) (B (Z5 == some .gt)), (B ((Z3 == some .gt) == (Z5 == some .gt))) = (B ((Z3 == some .gt) == (Z5 == some .gt))), Qa5 (B ((Z3 == some .gt) == (Z5 == some .gt))) = true]) (Qa8 AP3 ⟨c12, Xka, fGtr, Xka, fGtr, rfl, rfl, trivial⟩)
  ·obtain rfl := sj h
   exact gR hP hn (H1 ++ [hO 2 (B true), hh 4 (.bin (B (Z1 == some .eq))), hF 6, hh 9 (.bin (B (Z6 == some .eq)))]) [] .raw (P3 ++ [(Z1 == some .eq) = false, Qfr Tryz.prog .eql 142 (FK p1) (FK p2) (B (Z6 == some .eq)), (B (Z6 == some .eq)) = (B (Z6 == some .eq)), Qa5 (B (Z6 == some .eq)) = true]) (Qa8 AP3 ⟨c13, Xbm, rfl, rfl, trivial⟩)
 ·obtain rfl := sj h
  exact gR hP hn (H1 ++ [hO 2 (B false), hh 9 (.bin (B (Z6 == some .eq)))]) [] .raw (P2 ++ [(B (Z0 == some .eq)) = (B false), Qfr Tryz.prog .eql 142 (FK p1) (FK p2) (B (Z6 == some .eq)), (B (Z6 == some .eq)) = (B (Z6 == some .eq)), Qa5 (B (Z6 == some .eq)) = true]) (Qa8 AP2 ⟨(Qb9 c14), Xbm, rfl, rfl, trivial⟩)
noncomputable def Qee (p1 : Nat) (p2 : Nat) : Option Bool :=
 if ((Qc0 p1 p1) != some .eq) = true then
  if ((Qc0 p1 p1) != some .eq) = true then
   some ((Qc0 p2 p2) != some .eq)
  else
   some false
 else
  if ((Qc0 p2 p2) != some .eq) = true then
   if ((Qc0 p1 p1) != some .eq) = true then
    some ((Qc0 p2 p2) != some .eq)
   else
    some false
  else
   Qgf p1 p2
theorem Qlm {p1 : Nat} {p2 : Nat} {r : Bool} (h : Qee p1 p2 = some r) : Qa6 Tryz.prog 150 [(FK p1), (FK p2)] (B r) := by
 refine gM Tryz.func150 37 Xbs fun E hP hn hx => ?_
 unfold Qee at h
 let Z0 := Qc0 p1 p1; let Z1 := B true; let Z2 := Qc0 p2 p2; let Z3 := B false
 let H1 : List Hn := [hh 3 (.bin (B (Z0 != some .eq)))]
 let P2 : List Prop := [Qfr Tryz.prog .neq 142 (FK p1) (FK p1) (B (Z0 != some .eq))]
 have AP2 : Qak P2 := ⟨Xed, trivial⟩
 rcases itS h with ⟨c3, h⟩ | ⟨c6, h⟩
 ·let P3 : List Prop := P2 ++ [(B (Z0 != some .eq)) = Z1, Qfr Tryz.prog .neq 142 (FK p1) (FK p1) (B (Z0 != some .eq))]
  have AP3 : Qak P3 := Qa8 AP2 ⟨(Qb9 c3), Xed, trivial⟩
  rcases itS h with ⟨c4, h⟩ | ⟨c5, h⟩
  ·obtain rfl := sj h
   exact gR hP hn (H1 ++ [hO 4 Z1, hh 12 (.bin (B (Z0 != some .eq))), hO 13 Z1, hh 16 (.bin (B (Z2 != some .eq)))]) [] .raw (P3 ++ [(B (Z0 != some .eq)) = Z1, Qfr Tryz.prog .neq 142 (FK p2) (FK p2) (B (Z2 != some .eq)), (B (Z2 != some .eq)) = (B (Z2 != some .eq)), Qa5 (B (Z2 != some .eq)) = true]) (Qa8 AP3 ⟨(Qb9 c4), Xed, rfl, rfl, trivial⟩)
  ·obtain rfl := sj h
   exact gR hP hn (H1 ++ [hO 4 Z1, hh 12 (.bin (B (Z0 != some .eq))), hO 13 Z3]) [] .raw (P3 ++ [(B (Z0 != some .eq)) = Z3, Z3 = Z3, Qa5 Z3 = true]) (Qa8 AP3 ⟨(Qb9 c5), rfl, rfl, trivial⟩)
 ·let H4 : List Hn := H1 ++ [hO 4 Z3, hh 7 (.bin (B (Z2 != some .eq)))]
  let P5 : List Prop := P2 ++ [(B (Z0 != some .eq)) = Z3, Qfr Tryz.prog .neq 142 (FK p2) (FK p2) (B (Z2 != some .eq))]
  have AP5 : Qak P5 := Qa8 AP2 ⟨(Qb9 c6), Xed, trivial⟩
  rcases itS h with ⟨c7, h⟩ | ⟨c10, h⟩
  ·let P6 : List Prop := P5 ++ [(Z2 != some .eq) = true, Qfr Tryz.prog .neq 142 (FK p1) (FK p1) (B (Z0 != some .eq))]
   have AP6 : Qak P6 := Qa8 AP5 ⟨c7, Xed, trivial⟩
   rcases itS h with ⟨c8, h⟩ | ⟨c9, h⟩
   ·obtain rfl := sj h
    exact gR hP hn (H4 ++ [hT 9, hh 12 (.bin (B (Z0 != some .eq))), hO 13 Z1, hh 16 (.bin (B (Z2 != some .eq)))]) [] .raw (P6 ++ [(B (Z0 != some .eq)) = Z1, Qfr Tryz.prog .neq 142 (FK p2) (FK p2) (B (Z2 != some .eq)), (B (Z2 != some .eq)) = (B (Z2 != some .eq)), Qa5 (B (Z2 != some .eq)) = true]) (Qa8 AP6 ⟨(Qb9 c8), Xed, rfl, rfl, trivial⟩)
   ·obtain rfl := sj h
    exact gR hP hn (H4 ++ [hT 9, hh 12 (.bin (B (Z0 != some .eq))), hO 13 Z3]) [] .raw (P6 ++ [(B (Z0 != some .eq)) = Z3, Z3 = Z3, Qa5 Z3 = true]) (Qa8 AP6 ⟨(Qb9 c9), rfl, rfl, trivial⟩)
  ·exact gT hP hn hx (H4 ++ [hF 9]) [] [0, 1] [] (P5 ++ [(Z2 != some .eq) = false]) (Qa8 AP5 ⟨c10, trivial⟩) (Qok hP hn hx p1 p2  _ h)
noncomputable def Xir : Code := match Tryz.f176.body with | some c => c | none => .skip
noncomputable def Qkm (p1 : GOp) (p2 : GOp) : Option Bool :=
 if (p1.Code != p2.Code) = true then
  some false
 else
  if (p1.A != p2.A) = true then
   some false
  else
   if (p1.B != p2.B) = true then
    some false
   else
    Option.bind (Qee p1.V p2.V) fun r9 =>
    if (!r9) = true then
     some false
    else
     some true
theorem Qyb {p1 : GOp} {p2 : GOp} {r : Bool} (h : Qkm p1 p2 = some r) : Qa6 Tryz.prog 176 [(AV.agg ((Qb5 p1))), (AV.agg ((Qb5 p2)))] (B r) := by
 refine gM Tryz.func176 26 Xir fun E hP hn hx => ?_
 unfold Qkm at h
 let Z0 := p1.Code != p2.Code; let Z1 := B false
 let H1 : List Hn := [hW 0 1001, hW 1 1002]
 rcases itS h with ⟨c3, h⟩ | ⟨c4, h⟩
 ·obtain rfl := sj h
  exact gR hP hn (H1 ++ [hT 8]) [] .raw [Z0 = true, Z1 = Z1, Qa5 Z1 = true] ⟨c3, rfl, rfl, trivial⟩
 ·rcases itS h with ⟨c5, h⟩ | ⟨c6, h⟩
  ·obtain rfl := sj h
   exact gR hP hn (H1 ++ [hF 8, hT 14]) [] .raw [Z0 = false, (p1.A != p2.A) = true, Z1 = Z1, Qa5 Z1 = true] ⟨c4, c5, rfl, rfl, trivial⟩
  ·let P2 : List Prop := [Z0 = false, (p1.A != p2.A) = false]
   have AP2 : Qak P2 := ⟨c4, c6, trivial⟩
   rcases itS h with ⟨c7, h⟩ | ⟨c8, h⟩
   ·obtain rfl := sj h
    exact gR hP hn (H1 ++ [hF 8, hF 14, hT 20]) [] .raw (P2 ++ [(p1.B != p2.B) = true, Z1 = Z1, Qa5 Z1 = true]) (Qa8 AP2 ⟨c7, rfl, rfl, trivial⟩)
   ·obtain ⟨r9, hr9, h⟩ := bnS h
    let P3 : List Prop := P2 ++ [(p1.B != p2.B) = false, Qa6 Tryz.prog 150 [(FK p1.V), (FK p2.V)] (B r9), Qa5 (B r9) = true]
    have AP3 : Qak P3 := Qa8 AP2 ⟨c8, (Qlm hr9), rfl, trivial⟩
    rcases itS h with ⟨c10, h⟩ | ⟨c11, h⟩
    ·obtain rfl := sj h
     exact gR hP hn (H1 ++ [hF 8, hF 14, hF 20, hh 25 (.callV [] (B r9)), hT 27]) [] .raw (P3 ++ [(!r9) = true, Z1 = Z1, Qa5 Z1 = true]) (Qa8 AP3 ⟨c10, rfl, rfl, trivial⟩)
    ·obtain rfl := sj h
     exact gR hP hn (H1 ++ [hF 8, hF 14, hF 20, hh 25 (.callV [] (B r9)), hF 27]) [] .raw (P3 ++ [(!r9) = false, (B true) = (B true), Qa5 (B true) = true]) (Qa8 AP3 ⟨c11, rfl, rfl, trivial⟩)
noncomputable def Xdf : Code := match Tryz.f128.body with | some c => c | none => .skip
noncomputable def Qga  (p1 : (List GOp)) (p2 : (List GOp)) : Nat → Int → Option Bool
 | 0, _ => none
 | n + 1, v5 =>
 if (decide (v5 < (p1.length : Int))) = true then
  Option.bind (rd p1 v5) fun x7 =>
  Option.bind (rd p2 v5) fun x8 =>
  Option.bind (Qkm x7 x8) fun r9 =>
  if (!r9) = true then
   some false
  else
   Qga p1 p2 n (w64 (v5 + 1))
 else
  some true
theorem Qsa {E : Env} (hP : E.P = Tryz.prog) (hn : E.n = 27) (hx : FX E []) (p1 : (List GOp)) (p2 : (List GOp))  : ∀ (n : Nat) (v5 : Int) (r : Bool), Qga p1 p2 n v5 = some r → WAt E Xdf (FQ (Qf0 Θ Tryz.f128.results.toList [] [] (B r) E)) [true, true, false, true, false] ⟨[(0, (AV.ro 4 (p1.map Qb5))), (1, (AV.ro 4 (p2.map Qb5))), (5, (I v5))], [], [JJ]⟩ := by
 intro n
 induction n with
 | zero => intro v5 r h; simp only [Qga] at h; cases h
 | succ n ih =>
  intro v5 r h
  simp only [Qga] at h
  let Z0 := (I (p1.length : Int)); let Z1 := (decide (v5 < (p1.length : Int)))
  let P1 : List Prop := [AV.lit (.int .i64 (((p1.map Qb5).length : Nat) : Int)) = Z0]
  have AP1 : Qak P1 := ⟨(Qd9 Qb5), trivial⟩
  rcases itS h with ⟨c6, h⟩ | ⟨c12, h⟩
  ·obtain ⟨x7, hx7, h⟩ := bnS h
   obtain ⟨x8, hx8, h⟩ := bnS h
   obtain ⟨r9, hr9, h⟩ := bnS h
   let H2 : List Hn := [hO 2 Z0, hT 4, hh 7 (.row (Qb5 x7)), hh 11 (.row (Qb5 x8)), hh 13 (.callV [[], []] (B r9))]
   let P3 : List Prop := P1 ++ [Z1 = true, (0 : Int) ≤ v5, (p1.map Qb5)[v5.toNat]? = some (Qb5 x7), (0 : Int) ≤ v5, (p2.map Qb5)[v5.toNat]? = some (Qb5 x8), Qa6 Tryz.prog 176 [(AV.agg ((Qb5 x7))), (AV.agg ((Qb5 x8)))] (B r9), Qa5 (B r9) = true]
   have AP3 : Qak P3 := Qa8 AP1 ⟨c6, (rd0 hx7), (rdM Qb5 hx7), (rd0 hx8), (rdM Qb5 hx8), (Qyb hr9), rfl, trivial⟩
   rcases itS h with ⟨c10, h⟩ | ⟨c11, h⟩
   ·obtain rfl := sj h
    exact gR hP hn (H2 ++ [hT 15]) [] .raw (P3 ++ [(!r9) = true, (B false) = (B false), Qa5 (B false) = true]) (Qa8 AP3 ⟨c10, rfl, rfl, trivial⟩)
   ·exact gT hP hn hx (H2 ++ [hF 15]) [] [0, 1, 5] [] (P3 ++ [(!r9) = false]) (Qa8 AP3 ⟨c11, trivial⟩) (ih (w64 (v5 + 1)) _ h)
  ·obtain rfl := sj h
   exact gR hP hn [hO 2 Z0, hF 4] [] .raw (P1 ++ [Z1 = false, (B true) = (B true), Qa5 (B true) = true]) (Qa8 AP1 ⟨c12, rfl, rfl, trivial⟩)
noncomputable def Qj7 (p1 : (List GOp)) (p2 : (List GOp)) : Option Bool :=
 if ((p1.length : Int) != (p2.length : Int)) = true then
  some false
 else
  Qga p1 p2 FU 0
theorem Qwt {p1 : (List GOp)} {p2 : (List GOp)} {r : Bool} (h : Qj7 p1 p2 = some r) : Qa6 Tryz.prog 128 [(AV.ro 4 (p1.map Qb5)), (AV.ro 4 (p2.map Qb5))] (B r) := by
 refine gM Tryz.func128 27 Xdf fun E hP hn hx => ?_
 unfold Qj7 at h
 let Z0 := (I (p1.length : Int)); let Z1 := (I (p2.length : Int)); let Z2 := ((p1.length : Int) != (p2.length : Int))
 let P1 : List Prop := [AV.lit (.int .i64 (((p1.map Qb5).length : Nat) : Int)) = Z0, AV.lit (.int .i64 (((p2.map Qb5).length : Nat) : Int)) = Z1]
 have AP1 : Qak P1 := ⟨(Qd9 Qb5), (Qd9 Qb5), trivial⟩
 rcases itS h with ⟨c3, h⟩ | ⟨c4, h⟩
 ·obtain rfl := sj h
  exact gR hP hn [hO 2 Z0, hO 4 Z1, hT 6] [] .raw (P1 ++ [Z2 = true, (B false) = (B false), Qa5 (B false) = true]) (Qa8 AP1 ⟨c3, rfl, rfl, trivial⟩)
 ·exact gT hP hn hx [hO 2 Z0, hO 4 Z1, hF 6] [] [0, 1, 5] [] (P1 ++ [Z2 = false]) (Qa8 AP1 ⟨c4, trivial⟩) (Qsa hP hn hx p1 p2 FU 0 _ h)
noncomputable def Xg3 : Code := match Tryz.f63.body with | some c => c | none => .skip
noncomputable def Qfk  (p1 : (List (List GOp))) (p2 : (List (List GOp))) : Nat → Int → Option Bool
 | 0, _ => none
 | n + 1, v5 =>
 if (decide (v5 < (p1.length : Int))) = true then
  Option.bind (rd p1 v5) fun x7 =>
  Option.bind (rd p2 v5) fun x8 =>
  Option.bind (Qj7 x7 x8) fun r9 =>
  if (!r9) = true then
   some false
  else
   Qfk p1 p2 n (w64 (v5 + 1))
 else
  some true
theorem Qrb {E : Env} (hP : E.P = Tryz.prog) (hn : E.n = 27) (hx : FX E []) (p1 : (List (List GOp))) (p2 : (List (List GOp)))  : ∀ (n : Nat) (v5 : Int) (r : Bool), Qfk p1 p2 n v5 = some r → WAt E Xg3 (FQ (Qf0 Θ Tryz.f63.results.toList [] [] (B r) E)) [true, true, false, true, false] ⟨[(0, (AV.ro 1 (p1.map Qgt))), (1, (AV.ro 1 (p2.map Qgt))), (5, (I v5))], [], [JJ]⟩ := by
 intro n
 induction n with
 | zero => intro v5 r h; simp only [Qfk] at h; cases h
 | succ n ih =>
  intro v5 r h
  simp only [Qfk] at h
  let Z0 := (I (p1.length : Int)); let Z1 := (decide (v5 < (p1.length : Int)))
  let P1 : List Prop := [AV.lit (.int .i64 (((p1.map Qgt).length : Nat) : Int)) = Z0]
  have AP1 : Qak P1 := ⟨(Qd9 Qgt), trivial⟩
  rcases itS h with ⟨c6, h⟩ | ⟨c12, h⟩
  ·obtain ⟨x7, hx7, h⟩ := bnS h
   obtain ⟨x8, hx8, h⟩ := bnS h
   obtain ⟨r9, hr9, h⟩ := bnS h
   let H2 : List Hn := [hO 2 Z0, hT 4, hh 7 (.row (Qgt x7)), hh 11 (.row (Qgt x8)), hh 13 (.callV [] (B r9))]
   let P3 : List Prop := P1 ++ [Z1 = true, (0 : Int) ≤ v5, (p1.map Qgt)[v5.toNat]? = some (Qgt x7), (0 : Int) ≤ v5, (p2.map Qgt)[v5.toNat]? = some (Qgt x8), Qa6 Tryz.prog 128 [(AV.ro 4 (x7.map Qb5)), (AV.ro 4 (x8.map Qb5))] (B r9), Qa5 (B r9) = true]
   have AP3 : Qak P3 := Qa8 AP1 ⟨c6, (rd0 hx7), (rdM Qgt hx7), (rd0 hx8), (rdM Qgt hx8), (Qwt hr9), rfl, trivial⟩
   rcases itS h with ⟨c10, h⟩ | ⟨c11, h⟩
   ·obtain rfl := sj h
    exact gR hP hn (H2 ++ [hT 15]) [] .raw (P3 ++ [(!r9) = true, (B false) = (B false), Qa5 (B false) = true]) (Qa8 AP3 ⟨c10, rfl, rfl, trivial⟩)
   ·exact gT hP hn hx (H2 ++ [hF 15]) [] [0, 1, 5] [] (P3 ++ [(!r9) = false]) (Qa8 AP3 ⟨c11, trivial⟩) (ih (w64 (v5 + 1)) _ h)
  ·obtain rfl := sj h
   exact gR hP hn [hO 2 Z0, hF 4] [] .raw (P1 ++ [Z1 = false, (B true) = (B true), Qa5 (B true) = true]) (Qa8 AP1 ⟨c12, rfl, rfl, trivial⟩)
noncomputable def Qjc (p1 : (List (List GOp))) (p2 : (List (List GOp))) : Option Bool :=
 if ((p1.length : Int) != (p2.length : Int)) = true then
  some false
 else
  Qfk p1 p2 FU 0
theorem Qv2 {p1 : (List (List GOp))} {p2 : (List (List GOp))} {r : Bool} (h : Qjc p1 p2 = some r) : Qa6 Tryz.prog 63 [(AV.ro 1 (p1.map Qgt)), (AV.ro 1 (p2.map Qgt))] (B r) := by
 refine gM Tryz.func63 27 Xg3 fun E hP hn hx => ?_
 unfold Qjc at h
 let Z0 := (I (p1.length : Int)); let Z1 := (I (p2.length : Int)); let Z2 := ((p1.length : Int) != (p2.length : Int))
 let P1 : List Prop := [AV.lit (.int .i64 (((p1.map Qgt).length : Nat) : Int)) = Z0, AV.lit (.int .i64 (((p2.map Qgt).length : Nat) : Int)) = Z1]
 have AP1 : Qak P1 := ⟨(Qd9 Qgt), (Qd9 Qgt), trivial⟩
 rcases itS h with ⟨c3, h⟩ | ⟨c4, h⟩
 ·obtain rfl := sj h
  exact gR hP hn [hO 2 Z0, hO 4 Z1, hT 6] [] .raw (P1 ++ [Z2 = true, (B false) = (B false), Qa5 (B false) = true]) (Qa8 AP1 ⟨c3, rfl, rfl, trivial⟩)
 ·exact gT hP hn hx [hO 2 Z0, hO 4 Z1, hF 6] [] [0, 1, 5] [] (P1 ++ [Z2 = false]) (Qa8 AP1 ⟨c4, trivial⟩) (Qrb hP hn hx p1 p2 FU 0 _ h)
noncomputable def Xkc : Code := match Tryz.f17.body with | some c => c | none => .skip
noncomputable def Qja (p1 : Qaf) (p2 : Qaf) : Option Bool :=
 if (p1.Cells != p2.Cells) = true then
  some false
 else
  if (p1.Locks != p2.Locks) = true then
   some false
  else
   if (p1.Conds != p2.Conds) = true then
    some false
   else
    Option.bind (Qjc p1.Routines p2.Routines) fun r9 =>
    if (!r9) = true then
     some false
    else
     some true
theorem Qw4 {p1 : Qaf} {p2 : Qaf} {r : Bool} (h : Qja p1 p2 = some r) : Qa6 Tryz.prog 17 [(AV.agg ((r34 p1))), (AV.agg ((r34 p2)))] (B r) := by
 refine gM Tryz.func17 26 Xkc fun E hP hn hx => ?_
 unfold Qja at h
 let Z0 := p1.Cells != p2.Cells; let Z1 := B false; let Z2 := p1.Locks != p2.Locks; let Z3 := p1.Conds != p2.Conds
 let H1 : List Hn := [hW 0 1001, hW 1 1002]
 rcases itS h with ⟨c3, h⟩ | ⟨c4, h⟩
 ·obtain rfl := sj h
  exact gR hP hn (H1 ++ [hT 8]) [] .raw [Z0 = true, Z1 = Z1, Qa5 Z1 = true] ⟨c3, rfl, rfl, trivial⟩
 ·rcases itS h with ⟨c5, h⟩ | ⟨c6, h⟩
  ·obtain rfl := sj h
   exact gR hP hn (H1 ++ [hF 8, hT 14]) [] .raw [Z0 = false, Z2 = true, Z1 = Z1, Qa5 Z1 = true] ⟨c4, c5, rfl, rfl, trivial⟩
  ·let P2 : List Prop := [Z0 = false, Z2 = false]
   have AP2 : Qak P2 := ⟨c4, c6, trivial⟩
   rcases itS h with ⟨c7, h⟩ | ⟨c8, h⟩
   ·obtain rfl := sj h
    exact gR hP hn (H1 ++ [hF 8, hF 14, hT 20]) [] .raw (P2 ++ [Z3 = true, Z1 = Z1, Qa5 Z1 = true]) (Qa8 AP2 ⟨c7, rfl, rfl, trivial⟩)
   ·obtain ⟨r9, hr9, h⟩ := bnS h
    let P3 : List Prop := P2 ++ [Z3 = false, Qa6 Tryz.prog 63 [(AV.ro 1 (p1.Routines.map Qgt)), (AV.ro 1 (p2.Routines.map Qgt))] (B r9), Qa5 (B r9) = true]
    have AP3 : Qak P3 := Qa8 AP2 ⟨c8, (Qv2 hr9), rfl, trivial⟩
    rcases itS h with ⟨c10, h⟩ | ⟨c11, h⟩
    ·obtain rfl := sj h
     exact gR hP hn (H1 ++ [hF 8, hF 14, hF 20, hh 25 (.callV [] (B r9)), hT 27]) [] .raw (P3 ++ [(!r9) = true, Z1 = Z1, Qa5 Z1 = true]) (Qa8 AP3 ⟨c10, rfl, rfl, trivial⟩)
    ·obtain rfl := sj h
     exact gR hP hn (H1 ++ [hF 8, hF 14, hF 20, hh 25 (.callV [] (B r9)), hF 27]) [] .raw (P3 ++ [(!r9) = false, (B true) = (B true), Qa5 (B true) = true]) (Qa8 AP3 ⟨c11, rfl, rfl, trivial⟩)
noncomputable def Xjk : Code := match Tryz.f23.body with | some c => c | none => .skip
noncomputable def Qh5 (p1 : Qad) (p2 : Qad) : Option Bool :=
 if (p1.Thread != p2.Thread) = true then
  some false
 else
  if (p1.Kind != p2.Kind) = true then
   some false
  else
   if (p1.Obj != p2.Obj) = true then
    some false
   else
    if (p1.Lock != p2.Lock) = true then
     some false
    else
     if (p1.Pc != p2.Pc) = true then
      some false
     else
      some true
theorem Qtx {p1 : Qad} {p2 : Qad} {r : Bool} (h : Qh5 p1 p2 = some r) : Qa6 Tryz.prog 23 [(AV.agg ((o59 p1))), (AV.agg ((o59 p2)))] (B r) := by
 refine gM Tryz.func23 30 Xjk fun E hP hn hx => ?_
 unfold Qh5 at h
 let Z0 := p1.Thread != p2.Thread; let Z1 := B false; let Z2 := p1.Kind != p2.Kind; let Z3 := p1.Lock != p2.Lock
 let H1 : List Hn := [hW 0 1001, hW 1 1002]
 rcases itS h with ⟨c3, h⟩ | ⟨c4, h⟩
 ·obtain rfl := sj h
  exact gR hP hn (H1 ++ [hT 8]) [] .raw [Z0 = true, Z1 = Z1, Qa5 Z1 = true] ⟨c3, rfl, rfl, trivial⟩
 ·let P2 : List Prop := [Z0 = false]
  have AP2 : Qak P2 := ⟨c4, trivial⟩
  rcases itS h with ⟨c5, h⟩ | ⟨c6, h⟩
  ·obtain rfl := sj h
   exact gR hP hn (H1 ++ [hF 8, hT 14]) [] .raw (P2 ++ [Z2 = true, Z1 = Z1, Qa5 Z1 = true]) (Qa8 AP2 ⟨c5, rfl, rfl, trivial⟩)
  ·rcases itS h with ⟨c7, h⟩ | ⟨c8, h⟩
   ·obtain rfl := sj h
    exact gR hP hn (H1 ++ [hF 8, hF 14, hT 20]) [] .raw (P2 ++ [Z2 = false, (p1.Obj != p2.Obj) = true, Z1 = Z1, Qa5 Z1 = true]) (Qa8 AP2 ⟨c6, c7, rfl, rfl, trivial⟩)
   ·let P3 : List Prop := P2 ++ [Z2 = false, (p1.Obj != p2.Obj) = false]
    have AP3 : Qak P3 := Qa8 AP2 ⟨c6, c8, trivial⟩
    rcases itS h with ⟨c9, h⟩ | ⟨c10, h⟩
    ·obtain rfl := sj h
     exact gR hP hn (H1 ++ [hF 8, hF 14, hF 20, hT 26]) [] .raw (P3 ++ [Z3 = true, Z1 = Z1, Qa5 Z1 = true]) (Qa8 AP3 ⟨c9, rfl, rfl, trivial⟩)
    ·rcases itS h with ⟨c11, h⟩ | ⟨c12, h⟩
     ·obtain rfl := sj h
      exact gR hP hn (H1 ++ [hF 8, hF 14, hF 20, hF 26, hT 32]) [] .raw (P3 ++ [Z3 = false, (p1.Pc != p2.Pc) = true, Z1 = Z1, Qa5 Z1 = true]) (Qa8 AP3 ⟨c10, c11, rfl, rfl, trivial⟩)
     ·obtain rfl := sj h
      exact gR hP hn (H1 ++ [hF 8, hF 14, hF 20, hF 26, hF 32]) [] .raw (P3 ++ [Z3 = false, (p1.Pc != p2.Pc) = false, (B true) = (B true), Qa5 (B true) = true]) (Qa8 AP3 ⟨c10, c12, rfl, rfl, trivial⟩)
noncomputable def Xgk : Code := match Tryz.f90.body with | some c => c | none => .skip
noncomputable def Qe0  (p1 : (List Qad)) (p2 : (List Qad)) : Nat → Int → Option Bool
 | 0, _ => none
 | n + 1, v5 =>
 if (decide (v5 < (p1.length : Int))) = true then
  Option.bind (rd p1 v5) fun x7 =>
  Option.bind (rd p2 v5) fun x8 =>
  Option.bind (Qh5 x7 x8) fun r9 =>
  if (!r9) = true then
   some false
  else
   Qe0 p1 p2 n (w64 (v5 + 1))
 else
  some true
theorem Qpj {E : Env} (hP : E.P = Tryz.prog) (hn : E.n = 27) (hx : FX E []) (p1 : (List Qad)) (p2 : (List Qad))  : ∀ (n : Nat) (v5 : Int) (r : Bool), Qe0 p1 p2 n v5 = some r → WAt E Xgk (FQ (Qf0 Θ Tryz.f90.results.toList [] [] (B r) E)) [true, true, false, true, false] ⟨[(0, (AV.ro 5 (p1.map o59))), (1, (AV.ro 5 (p2.map o59))), (5, (I v5))], [], [JJ]⟩ := by
 intro n
 induction n with
 | zero => intro v5 r h; simp only [Qe0] at h; cases h
 | succ n ih =>
  intro v5 r h
  simp only [Qe0] at h
  let Z0 := (I (p1.length : Int)); let Z1 := (decide (v5 < (p1.length : Int)))
  let P1 : List Prop := [AV.lit (.int .i64 (((p1.map o59).length : Nat) : Int)) = Z0]
  have AP1 : Qak P1 := ⟨(Qd9 o59), trivial⟩
  rcases itS h with ⟨c6, h⟩ | ⟨c12, h⟩
  ·obtain ⟨x7, hx7, h⟩ := bnS h
   obtain ⟨x8, hx8, h⟩ := bnS h
   obtain ⟨r9, hr9, h⟩ := bnS h
   let H2 : List Hn := [hO 2 Z0, hT 4, hh 7 (.row (o59 x7)), hh 11 (.row (o59 x8)), hh 13 (.callV [[], []] (B r9))]
   let P3 : List Prop := P1 ++ [Z1 = true, (0 : Int) ≤ v5, (p1.map o59)[v5.toNat]? = some (o59 x7), (0 : Int) ≤ v5, (p2.map o59)[v5.toNat]? = some (o59 x8), Qa6 Tryz.prog 23 [(AV.agg ((o59 x7))), (AV.agg ((o59 x8)))] (B r9), Qa5 (B r9) = true]
   have AP3 : Qak P3 := Qa8 AP1 ⟨c6, (rd0 hx7), (rdM o59 hx7), (rd0 hx8), (rdM o59 hx8), (Qtx hr9), rfl, trivial⟩
   rcases itS h with ⟨c10, h⟩ | ⟨c11, h⟩
   ·obtain rfl := sj h
    exact gR hP hn (H2 ++ [hT 15]) [] .raw (P3 ++ [(!r9) = true, (B false) = (B false), Qa5 (B false) = true]) (Qa8 AP3 ⟨c10, rfl, rfl, trivial⟩)
   ·exact gT hP hn hx (H2 ++ [hF 15]) [] [0, 1, 5] [] (P3 ++ [(!r9) = false]) (Qa8 AP3 ⟨c11, trivial⟩) (ih (w64 (v5 + 1)) _ h)
  ·obtain rfl := sj h
   exact gR hP hn [hO 2 Z0, hF 4] [] .raw (P1 ++ [Z1 = false, (B true) = (B true), Qa5 (B true) = true]) (Qa8 AP1 ⟨c12, rfl, rfl, trivial⟩)
noncomputable def Qhc (p1 : (List Qad)) (p2 : (List Qad)) : Option Bool :=
 if ((p1.length : Int) != (p2.length : Int)) = true then
  some false
 else
  Qe0 p1 p2 FU 0
theorem Qse {p1 : (List Qad)} {p2 : (List Qad)} {r : Bool} (h : Qhc p1 p2 = some r) : Qa6 Tryz.prog 90 [(AV.ro 5 (p1.map o59)), (AV.ro 5 (p2.map o59))] (B r) := by
 refine gM Tryz.func90 27 Xgk fun E hP hn hx => ?_
 unfold Qhc at h
 let Z0 := (I (p1.length : Int)); let Z1 := (I (p2.length : Int)); let Z2 := ((p1.length : Int) != (p2.length : Int))
 let P1 : List Prop := [AV.lit (.int .i64 (((p1.map o59).length : Nat) : Int)) = Z0, AV.lit (.int .i64 (((p2.map o59).length : Nat) : Int)) = Z1]
 have AP1 : Qak P1 := ⟨(Qd9 o59), (Qd9 o59), trivial⟩
 rcases itS h with ⟨c3, h⟩ | ⟨c4, h⟩
 ·obtain rfl := sj h
  exact gR hP hn [hO 2 Z0, hO 4 Z1, hT 6] [] .raw (P1 ++ [Z2 = true, (B false) = (B false), Qa5 (B false) = true]) (Qa8 AP1 ⟨c3, rfl, rfl, trivial⟩)
 ·exact gT hP hn hx [hO 2 Z0, hO 4 Z1, hF 6] [] [0, 1, 5] [] (P1 ++ [Z2 = false]) (Qa8 AP1 ⟨c4, trivial⟩) (Qpj hP hn hx p1 p2 FU 0 _ h)
noncomputable def Xgr : Code := match Tryz.f79.body with | some c => c | none => .skip
noncomputable def Qd4  (p1 : (List Nat)) (p2 : (List Nat)) : Nat → Int → Option Bool
 | 0, _ => none
 | n + 1, v5 =>
 if (decide (v5 < (p1.length : Int))) = true then
  Option.bind (rd p1 v5) fun x7 =>
  Option.bind (rd p2 v5) fun x8 =>
  Option.bind (Qee x7 x8) fun r9 =>
  if (!r9) = true then
   some false
  else
   Qd4 p1 p2 n (w64 (v5 + 1))
 else
  some true
theorem Qny {E : Env} (hP : E.P = Tryz.prog) (hn : E.n = 27) (hx : FX E []) (p1 : (List Nat)) (p2 : (List Nat))  : ∀ (n : Nat) (v5 : Int) (r : Bool), Qd4 p1 p2 n v5 = some r → WAt E Xgr (FQ (Qf0 Θ Tryz.f79.results.toList [] [] (B r) E)) [true, true, false, true, false] ⟨[(0, (AV.ro 1 (p1.map Qae))), (1, (AV.ro 1 (p2.map Qae))), (5, (I v5))], [], [JJ]⟩ := by
 intro n
 induction n with
 | zero => intro v5 r h; simp only [Qd4] at h; cases h
 | succ n ih =>
  intro v5 r h
  simp only [Qd4] at h
  let Z0 := (I (p1.length : Int)); let Z1 := (decide (v5 < (p1.length : Int)))
  let P1 : List Prop := [AV.lit (.int .i64 (((p1.map Qae).length : Nat) : Int)) = Z0]
  have AP1 : Qak P1 := ⟨(Qd9 Qae), trivial⟩
  rcases itS h with ⟨c6, h⟩ | ⟨c12, h⟩
  ·obtain ⟨x7, hx7, h⟩ := bnS h
   obtain ⟨x8, hx8, h⟩ := bnS h
   obtain ⟨r9, hr9, h⟩ := bnS h
   let H2 : List Hn := [hO 2 Z0, hT 4, hh 7 (.row (Qae x7)), hh 11 (.row (Qae x8)), hh 13 (.callV [] (B r9))]
   let P3 : List Prop := P1 ++ [Z1 = true, (0 : Int) ≤ v5, (p1.map Qae)[v5.toNat]? = some (Qae x7), (0 : Int) ≤ v5, (p2.map Qae)[v5.toNat]? = some (Qae x8), Qa6 Tryz.prog 150 [(FK x7), (FK x8)] (B r9), Qa5 (B r9) = true]
   have AP3 : Qak P3 := Qa8 AP1 ⟨c6, (rd0 hx7), (rdM Qae hx7), (rd0 hx8), (rdM Qae hx8), (Qlm hr9), rfl, trivial⟩
   rcases itS h with ⟨c10, h⟩ | ⟨c11, h⟩
   ·obtain rfl := sj h
    exact gR hP hn (H2 ++ [hT 15]) [] .raw (P3 ++ [(!r9) = true, (B false) = (B false), Qa5 (B false) = true]) (Qa8 AP3 ⟨c10, rfl, rfl, trivial⟩)
   ·exact gT hP hn hx (H2 ++ [hF 15]) [] [0, 1, 5] [] (P3 ++ [(!r9) = false]) (Qa8 AP3 ⟨c11, trivial⟩) (ih (w64 (v5 + 1)) _ h)
  ·obtain rfl := sj h
   exact gR hP hn [hO 2 Z0, hF 4] [] .raw (P1 ++ [Z1 = false, (B true) = (B true), Qa5 (B true) = true]) (Qa8 AP1 ⟨c12, rfl, rfl, trivial⟩)
noncomputable def Qel (p1 : (List Nat)) (p2 : (List Nat)) : Option Bool :=
 if ((p1.length : Int) != (p2.length : Int)) = true then
  some false
 else
  Qd4 p1 p2 FU 0
theorem Qkt {p1 : (List Nat)} {p2 : (List Nat)} {r : Bool} (h : Qel p1 p2 = some r) : Qa6 Tryz.prog 79 [(AV.ro 1 (p1.map Qae)), (AV.ro 1 (p2.map Qae))] (B r) := by
 refine gM Tryz.func79 27 Xgr fun E hP hn hx => ?_
 unfold Qel at h
 let Z0 := (I (p1.length : Int)); let Z1 := (I (p2.length : Int)); let Z2 := ((p1.length : Int) != (p2.length : Int))
 let P1 : List Prop := [AV.lit (.int .i64 (((p1.map Qae).length : Nat) : Int)) = Z0, AV.lit (.int .i64 (((p2.map Qae).length : Nat) : Int)) = Z1]
 have AP1 : Qak P1 := ⟨(Qd9 Qae), (Qd9 Qae), trivial⟩
 rcases itS h with ⟨c3, h⟩ | ⟨c4, h⟩
 ·obtain rfl := sj h
  exact gR hP hn [hO 2 Z0, hO 4 Z1, hT 6] [] .raw (P1 ++ [Z2 = true, (B false) = (B false), Qa5 (B false) = true]) (Qa8 AP1 ⟨c3, rfl, rfl, trivial⟩)
 ·exact gT hP hn hx [hO 2 Z0, hO 4 Z1, hF 6] [] [0, 1, 5] [] (P1 ++ [Z2 = false]) (Qa8 AP1 ⟨c4, trivial⟩) (Qny hP hn hx p1 p2 FU 0 _ h)
noncomputable def Xj6 : Code := match Tryz.f149.body with | some c => c | none => .skip
noncomputable def Qg9 (p1 : Qa0) (p2 : Qa0) : Option Bool :=
 if (p1.Routine != p2.Routine) = true then
  some false
 else
  if (p1.Pc != p2.Pc) = true then
   some false
  else
   if (p1.State != p2.State) = true then
    some false
   else
    if (p1.Cond != p2.Cond) = true then
     some false
    else
     if (p1.Lock != p2.Lock) = true then
      some false
     else
      Option.bind (Qel p1.Stack p2.Stack) fun r13 =>
      if (!r13) = true then
       some false
      else
       some true
theorem Qt2 {p1 : Qa0} {p2 : Qa0} {r : Bool} (h : Qg9 p1 p2 = some r) : Qa6 Tryz.prog 149 [(AV.agg ((Qb2 p1))), (AV.agg ((Qb2 p2)))] (B r) := by
 refine gM Tryz.func149 36 Xj6 fun E hP hn hx => ?_
 unfold Qg9 at h
 let Z0 := p1.Routine != p2.Routine; let Z1 := B false; let Z2 := p1.State != p2.State
 let H1 : List Hn := [hW 0 1001, hW 1 1002]
 rcases itS h with ⟨c3, h⟩ | ⟨c4, h⟩
 ·obtain rfl := sj h
  exact gR hP hn (H1 ++ [hT 8]) [] .raw [Z0 = true, Z1 = Z1, Qa5 Z1 = true] ⟨c3, rfl, rfl, trivial⟩
 ·let P2 : List Prop := [Z0 = false]
  have AP2 : Qak P2 := ⟨c4, trivial⟩
  rcases itS h with ⟨c5, h⟩ | ⟨c6, h⟩
  ·obtain rfl := sj h
   exact gR hP hn (H1 ++ [hF 8, hT 14]) [] .raw (P2 ++ [(p1.Pc != p2.Pc) = true, Z1 = Z1, Qa5 Z1 = true]) (Qa8 AP2 ⟨c5, rfl, rfl, trivial⟩)
  ·let P3 : List Prop := P2 ++ [(p1.Pc != p2.Pc) = false]
   have AP3 : Qak P3 := Qa8 AP2 ⟨c6, trivial⟩
   rcases itS h with ⟨c7, h⟩ | ⟨c8, h⟩
   ·obtain rfl := sj h
    exact gR hP hn (H1 ++ [hF 8, hF 14, hT 20]) [] .raw (P3 ++ [Z2 = true, Z1 = Z1, Qa5 Z1 = true]) (Qa8 AP3 ⟨c7, rfl, rfl, trivial⟩)
   ·rcases itS h with ⟨c9, h⟩ | ⟨c10, h⟩
    ·obtain rfl := sj h
     exact gR hP hn (H1 ++ [hF 8, hF 14, hF 20, hT 26]) [] .raw (P3 ++ [Z2 = false, (p1.Cond != p2.Cond) = true, Z1 = Z1, Qa5 Z1 = true]) (Qa8 AP3 ⟨c8, c9, rfl, rfl, trivial⟩)
    ·let P4 : List Prop := P3 ++ [Z2 = false, (p1.Cond != p2.Cond) = false]
     have AP4 : Qak P4 := Qa8 AP3 ⟨c8, c10, trivial⟩
     rcases itS h with ⟨c11, h⟩ | ⟨c12, h⟩
     ·obtain rfl := sj h
      exact gR hP hn (H1 ++ [hF 8, hF 14, hF 20, hF 26, hT 32]) [] .raw (P4 ++ [(p1.Lock != p2.Lock) = true, Z1 = Z1, Qa5 Z1 = true]) (Qa8 AP4 ⟨c11, rfl, rfl, trivial⟩)
     ·obtain ⟨r13, hr13, h⟩ := bnS h
      let P5 : List Prop := P4 ++ [(p1.Lock != p2.Lock) = false, Qa6 Tryz.prog 79 [(AV.ro 1 (p1.Stack.map Qae)), (AV.ro 1 (p2.Stack.map Qae))] (B r13), Qa5 (B r13) = true]
      have AP5 : Qak P5 := Qa8 AP4 ⟨c12, (Qkt hr13), rfl, trivial⟩
      rcases itS h with ⟨c14, h⟩ | ⟨c15, h⟩
      ·obtain rfl := sj h
       exact gR hP hn (H1 ++ [hF 8, hF 14, hF 20, hF 26, hF 32, hh 37 (.callV [] (B r13)), hT 39]) [] .raw (P5 ++ [(!r13) = true, Z1 = Z1, Qa5 Z1 = true]) (Qa8 AP5 ⟨c14, rfl, rfl, trivial⟩)
      ·obtain rfl := sj h
       exact gR hP hn (H1 ++ [hF 8, hF 14, hF 20, hF 26, hF 32, hh 37 (.callV [] (B r13)), hF 39]) [] .raw (P5 ++ [(!r13) = false, (B true) = (B true), Qa5 (B true) = true]) (Qa8 AP5 ⟨c15, rfl, rfl, trivial⟩)
noncomputable def Xgm : Code := match Tryz.f78.body with | some c => c | none => .skip
noncomputable def Qdj  (p1 : (List Qa0)) (p2 : (List Qa0)) : Nat → Int → Option Bool
 | 0, _ => none
 | n + 1, v5 =>
 if (decide (v5 < (p1.length : Int))) = true then
  Option.bind (rd p1 v5) fun x7 =>
  Option.bind (rd p2 v5) fun x8 =>
  Option.bind (Qg9 x7 x8) fun r9 =>
  if (!r9) = true then
   some false
  else
   Qdj p1 p2 n (w64 (v5 + 1))
 else
  some true
theorem Qoy {E : Env} (hP : E.P = Tryz.prog) (hn : E.n = 27) (hx : FX E []) (p1 : (List Qa0)) (p2 : (List Qa0))  : ∀ (n : Nat) (v5 : Int) (r : Bool), Qdj p1 p2 n v5 = some r → WAt E Xgm (FQ (Qf0 Θ Tryz.f78.results.toList [] [] (B r) E)) [true, true, false, true, false] ⟨[(0, (AV.ro 6 (p1.map Qb2))), (1, (AV.ro 6 (p2.map Qb2))), (5, (I v5))], [], [JJ]⟩ := by
 intro n
 induction n with
 | zero => intro v5 r h; simp only [Qdj] at h; cases h
 | succ n ih =>
  intro v5 r h
  simp only [Qdj] at h
  let Z0 := (I (p1.length : Int)); let Z1 := (decide (v5 < (p1.length : Int)))
  let P1 : List Prop := [AV.lit (.int .i64 (((p1.map Qb2).length : Nat) : Int)) = Z0]
  have AP1 : Qak P1 := ⟨(Qd9 Qb2), trivial⟩
  rcases itS h with ⟨c6, h⟩ | ⟨c12, h⟩
  ·obtain ⟨x7, hx7, h⟩ := bnS h
   obtain ⟨x8, hx8, h⟩ := bnS h
   obtain ⟨r9, hr9, h⟩ := bnS h
   let H2 : List Hn := [hO 2 Z0, hT 4, hh 7 (.row (Qb2 x7)), hh 11 (.row (Qb2 x8)), hh 13 (.callV [[], []] (B r9))]
   let P3 : List Prop := P1 ++ [Z1 = true, (0 : Int) ≤ v5, (p1.map Qb2)[v5.toNat]? = some (Qb2 x7), (0 : Int) ≤ v5, (p2.map Qb2)[v5.toNat]? = some (Qb2 x8), Qa6 Tryz.prog 149 [(AV.agg ((Qb2 x7))), (AV.agg ((Qb2 x8)))] (B r9), Qa5 (B r9) = true]
   have AP3 : Qak P3 := Qa8 AP1 ⟨c6, (rd0 hx7), (rdM Qb2 hx7), (rd0 hx8), (rdM Qb2 hx8), (Qt2 hr9), rfl, trivial⟩
   rcases itS h with ⟨c10, h⟩ | ⟨c11, h⟩
   ·obtain rfl := sj h
    exact gR hP hn (H2 ++ [hT 15]) [] .raw (P3 ++ [(!r9) = true, (B false) = (B false), Qa5 (B false) = true]) (Qa8 AP3 ⟨c10, rfl, rfl, trivial⟩)
   ·exact gT hP hn hx (H2 ++ [hF 15]) [] [0, 1, 5] [] (P3 ++ [(!r9) = false]) (Qa8 AP3 ⟨c11, trivial⟩) (ih (w64 (v5 + 1)) _ h)
  ·obtain rfl := sj h
   exact gR hP hn [hO 2 Z0, hF 4] [] .raw (P1 ++ [Z1 = false, (B true) = (B true), Qa5 (B true) = true]) (Qa8 AP1 ⟨c12, rfl, rfl, trivial⟩)
noncomputable def Qgm (p1 : (List Qa0)) (p2 : (List Qa0)) : Option Bool :=
 if ((p1.length : Int) != (p2.length : Int)) = true then
  some false
 else
  Qdj p1 p2 FU 0
theorem Qrf {p1 : (List Qa0)} {p2 : (List Qa0)} {r : Bool} (h : Qgm p1 p2 = some r) : Qa6 Tryz.prog 78 [(AV.ro 6 (p1.map Qb2)), (AV.ro 6 (p2.map Qb2))] (B r) := by
 refine gM Tryz.func78 27 Xgm fun E hP hn hx => ?_
 unfold Qgm at h
 let Z0 := (I (p1.length : Int)); let Z1 := (I (p2.length : Int)); let Z2 := ((p1.length : Int) != (p2.length : Int))
 let P1 : List Prop := [AV.lit (.int .i64 (((p1.map Qb2).length : Nat) : Int)) = Z0, AV.lit (.int .i64 (((p2.map Qb2).length : Nat) : Int)) = Z1]
 have AP1 : Qak P1 := ⟨(Qd9 Qb2), (Qd9 Qb2), trivial⟩
 rcases itS h with ⟨c3, h⟩ | ⟨c4, h⟩
 ·obtain rfl := sj h
  exact gR hP hn [hO 2 Z0, hO 4 Z1, hT 6] [] .raw (P1 ++ [Z2 = true, (B false) = (B false), Qa5 (B false) = true]) (Qa8 AP1 ⟨c3, rfl, rfl, trivial⟩)
 ·exact gT hP hn hx [hO 2 Z0, hO 4 Z1, hF 6] [] [0, 1, 5] [] (P1 ++ [Z2 = false]) (Qa8 AP1 ⟨c4, trivial⟩) (Qoy hP hn hx p1 p2 FU 0 _ h)
noncomputable def Xk7 : Code := match Tryz.f22.body with | some c => c | none => .skip
noncomputable def Qi9 (p1 : Qa2) (p2 : Qa2) : Option Bool :=
 Option.bind (Qgm p1.Threads p2.Threads) fun r3 =>
 if (!r3) = true then
  some false
 else
  Option.bind (Qel p1.Cells p2.Cells) fun r6 =>
  if (!r6) = true then
   some false
  else
   Option.bind (Qgv p1.Owner p2.Owner) fun r9 =>
   if (!r9) = true then
    some false
   else
    if (p1.Fault != p2.Fault) = true then
     some false
    else
     some true
theorem Qty {p1 : Qa2} {p2 : Qa2} {r : Bool} (h : Qi9 p1 p2 = some r) : Qa6 Tryz.prog 22 [(AV.agg ((r57 p1))), (AV.agg ((r57 p2)))] (B r) := by
 refine gM Tryz.func22 28 Xk7 fun E hP hn hx => ?_
 unfold Qi9 at h
 obtain ⟨r3, hr3, h⟩ := bnS h
 let Z0 := B false; let Z1 := p1.Fault != p2.Fault
 let H1 : List Hn := [hW 0 1001, hW 1 1002, hh 7 (.callV [] (B r3))]
 let P2 : List Prop := [Qa6 Tryz.prog 78 [(AV.ro 6 (p1.Threads.map Qb2)), (AV.ro 6 (p2.Threads.map Qb2))] (B r3), Qa5 (B r3) = true]
 have AP2 : Qak P2 := ⟨(Qrf hr3), rfl, trivial⟩
 rcases itS h with ⟨c4, h⟩ | ⟨c5, h⟩
 ·obtain rfl := sj h
  exact gR hP hn (H1 ++ [hT 9]) [] .raw (P2 ++ [(!r3) = true, Z0 = Z0, Qa5 Z0 = true]) (Qa8 AP2 ⟨c4, rfl, rfl, trivial⟩)
 ·obtain ⟨r6, hr6, h⟩ := bnS h
  let H3 : List Hn := H1 ++ [hF 9, hh 14 (.callV [] (B r6))]
  let P4 : List Prop := P2 ++ [(!r3) = false, Qa6 Tryz.prog 79 [(AV.ro 1 (p1.Cells.map Qae)), (AV.ro 1 (p2.Cells.map Qae))] (B r6), Qa5 (B r6) = true]
  have AP4 : Qak P4 := Qa8 AP2 ⟨c5, (Qkt hr6), rfl, trivial⟩
  rcases itS h with ⟨c7, h⟩ | ⟨c8, h⟩
  ·obtain rfl := sj h
   exact gR hP hn (H3 ++ [hT 16]) [] .raw (P4 ++ [(!r6) = true, Z0 = Z0, Qa5 Z0 = true]) (Qa8 AP4 ⟨c7, rfl, rfl, trivial⟩)
  ·obtain ⟨r9, hr9, h⟩ := bnS h
   let P5 : List Prop := P4 ++ [(!r6) = false, Qa6 Tryz.prog 31 [(AV.ro 1 (p1.Owner.map o3)), (AV.ro 1 (p2.Owner.map o3))] (B r9), Qa5 (B r9) = true]
   have AP5 : Qak P5 := Qa8 AP4 ⟨c8, (Ql4 hr9), rfl, trivial⟩
   rcases itS h with ⟨c10, h⟩ | ⟨c11, h⟩
   ·obtain rfl := sj h
    exact gR hP hn (H3 ++ [hF 16, hh 21 (.callV [] (B r9)), hT 23]) [] .raw (P5 ++ [(!r9) = true, Z0 = Z0, Qa5 Z0 = true]) (Qa8 AP5 ⟨c10, rfl, rfl, trivial⟩)
   ·rcases itS h with ⟨c12, h⟩ | ⟨c13, h⟩
    ·obtain rfl := sj h
     exact gR hP hn (H3 ++ [hF 16, hh 21 (.callV [] (B r9)), hF 23, hT 29]) [] .raw (P5 ++ [(!r9) = false, Z1 = true, Z0 = Z0, Qa5 Z0 = true]) (Qa8 AP5 ⟨c11, c12, rfl, rfl, trivial⟩)
    ·obtain rfl := sj h
     exact gR hP hn (H3 ++ [hF 16, hh 21 (.callV [] (B r9)), hF 23, hF 29]) [] .raw (P5 ++ [(!r9) = false, Z1 = false, (B true) = (B true), Qa5 (B true) = true]) (Qa8 AP5 ⟨c11, c13, rfl, rfl, trivial⟩)
noncomputable def Xlc : Code := match Tryz.f30.body with | some c => c | none => .skip
noncomputable def Qht (p1 : Qc1) (p2 : Qc1) : Option Bool :=
 if (p1.Code != p2.Code) = true then
  some false
 else
  Option.bind (Qhc p1.Trace p2.Trace) fun r5 =>
  if (!r5) = true then
   some false
  else
   Option.bind (Qgv p1.Picks p2.Picks) fun r8 =>
   if (!r8) = true then
    some false
   else
    Option.bind (Qi9 p1.End p2.End) fun r11 =>
    if (!r11) = true then
     some false
    else
     some true
theorem Qn4 {p1 : Qc1} {p2 : Qc1} {r : Bool} (h : Qht p1 p2 = some r) : Qa6 Tryz.prog 30 [(AV.agg ((r70 p1))), (AV.agg ((r70 p2)))] (B r) := by
 refine gM Tryz.func30 28 Xlc fun E hP hn hx => ?_
 unfold Qht at h
 let Z0 := B false
 let H1 : List Hn := [hW 0 1001, hW 1 1002]
 rcases itS h with ⟨c3, h⟩ | ⟨c4, h⟩
 ·obtain rfl := sj h
  exact gR hP hn (H1 ++ [hT 8]) [] .raw [(p1.Code != p2.Code) = true, Z0 = Z0, Qa5 Z0 = true] ⟨c3, rfl, rfl, trivial⟩
 ·obtain ⟨r5, hr5, h⟩ := bnS h
  let H2 : List Hn := H1 ++ [hF 8, hh 13 (.callV [] (B r5))]
  let P3 : List Prop := [(p1.Code != p2.Code) = false, Qa6 Tryz.prog 90 [(AV.ro 5 (p1.Trace.map o59)), (AV.ro 5 (p2.Trace.map o59))] (B r5), Qa5 (B r5) = true]
  have AP3 : Qak P3 := ⟨c4, (Qse hr5), rfl, trivial⟩
  rcases itS h with ⟨c6, h⟩ | ⟨c7, h⟩
  ·obtain rfl := sj h
   exact gR hP hn (H2 ++ [hT 15]) [] .raw (P3 ++ [(!r5) = true, Z0 = Z0, Qa5 Z0 = true]) (Qa8 AP3 ⟨c6, rfl, rfl, trivial⟩)
  ·obtain ⟨r8, hr8, h⟩ := bnS h
   let P4 : List Prop := P3 ++ [(!r5) = false, Qa6 Tryz.prog 31 [(AV.ro 1 (p1.Picks.map o3)), (AV.ro 1 (p2.Picks.map o3))] (B r8), Qa5 (B r8) = true]
   have AP4 : Qak P4 := Qa8 AP3 ⟨c7, (Ql4 hr8), rfl, trivial⟩
   rcases itS h with ⟨c9, h⟩ | ⟨c10, h⟩
   ·obtain rfl := sj h
    exact gR hP hn (H2 ++ [hF 15, hh 20 (.callV [] (B r8)), hT 22]) [] .raw (P4 ++ [(!r8) = true, Z0 = Z0, Qa5 Z0 = true]) (Qa8 AP4 ⟨c9, rfl, rfl, trivial⟩)
   ·obtain ⟨r11, hr11, h⟩ := bnS h
    let H5 : List Hn := H2 ++ [hF 15, hh 20 (.callV [] (B r8)), hF 22, hh 27 (.callV [[], []] (B r11))]
    let P6 : List Prop := P4 ++ [(!r8) = false, Qa6 Tryz.prog 22 [(AV.agg ((r57 p1.End))), (AV.agg ((r57 p2.End)))] (B r11), Qa5 (B r11) = true]
    have AP6 : Qak P6 := Qa8 AP4 ⟨c10, (Qty hr11), rfl, trivial⟩
    rcases itS h with ⟨c12, h⟩ | ⟨c13, h⟩
    ·obtain rfl := sj h
     exact gR hP hn (H5 ++ [hT 29]) [] .raw (P6 ++ [(!r11) = true, Z0 = Z0, Qa5 Z0 = true]) (Qa8 AP6 ⟨c12, rfl, rfl, trivial⟩)
    ·obtain rfl := sj h
     exact gR hP hn (H5 ++ [hF 29]) [] .raw (P6 ++ [(!r11) = false, (B true) = (B true), Qa5 (B true) = true]) (Qa8 AP6 ⟨c13, rfl, rfl, trivial⟩)
noncomputable def Xg7 : Code := match Tryz.f92.body with | some c => c | none => .skip
noncomputable def Qcf  (p1 : (List Qad)) : Nat → Int → Int → Option Int
 | 0, _, _ => none
 | n + 1, v3, v4 =>
 if (decide (v4 < (p1.length : Int))) = true then
  Option.bind (rd p1 v4) fun x6 =>
  if (x6.Thread != v3) = true then
   some (-1)
  else
   if (x6.Kind != (w64 (v3 + 1))) = true then
    some (-1)
   else
    if (x6.Obj != (w64 ((w64 (v3 + 1)) + 1))) = true then
     some (-1)
    else
     if (x6.Lock != (w64 ((w64 ((w64 (v3 + 1)) + 1)) + 1))) = true then
      some (-1)
     else
      if (x6.Pc != (w64 ((w64 ((w64 ((w64 (v3 + 1)) + 1)) + 1)) + 1))) = true then
       some (-1)
      else
       Qcf p1 n (w64 ((w64 ((w64 ((w64 ((w64 (v3 + 1)) + 1)) + 1)) + 1)) + 1)) (w64 (v4 + 1))
 else
  some v3
theorem Qnx {E : Env} (hP : E.P = Tryz.prog) (hn : E.n = 58) (hx : FX E []) (p1 : (List Qad))  : ∀ (n : Nat) (v3 : Int) (v4 : Int) (r : Int), Qcf p1 n v3 v4 = some r → WAt E Xg7 (FQ (Qf0 Θ Tryz.f92.results.toList [] [] (I r) E)) [true, false, true, false] ⟨[(0, (AV.ro 5 (p1.map o59))), (1, (I v3)), (5, (I v4))], [], [JJ]⟩ := by
 intro n
 induction n with
 | zero => intro v3 v4 r h; simp only [Qcf] at h; cases h
 | succ n ih =>
  intro v3 v4 r h
  simp only [Qcf] at h
  let Z0 := (I (p1.length : Int)); let Z1 := p1.map o59; let Z3 := (decide (v4 < (p1.length : Int))); let Z4 := I (-1); let Z6 := w64 ((w64 (v3 + 1)) + 1)
  let H1 : List Hn := [hO 2 Z0]
  let P2 : List Prop := [AV.lit (.int .i64 ((Z1.length : Nat) : Int)) = Z0]
  have AP2 : Qak P2 := ⟨(Qd9 o59), trivial⟩
  rcases itS h with ⟨c5, h⟩ | ⟨c17, h⟩
  ·obtain ⟨x6, hx6, h⟩ := bnS h
   let Z2 := o59 x6; let Z5 := x6.Kind != (w64 (v3 + 1)); let Z7 := x6.Lock != (w64 (Z6 + 1)); let Z8 := x6.Pc != (w64 ((w64 (Z6 + 1)) + 1))
   let H3 : List Hn := H1 ++ [hT 4, hh 7 (.row Z2)]
   let P4 : List Prop := P2 ++ [Z3 = true, (0 : Int) ≤ v4, Z1[v4.toNat]? = some Z2]
   have AP4 : Qak P4 := Qa8 AP2 ⟨c5, (rd0 hx6), (rdM o59 hx6), trivial⟩
   rcases itS h with ⟨c7, h⟩ | ⟨c8, h⟩
   ·obtain rfl := sj h
    exact gR hP hn (H3 ++ [hT 12]) [] .raw (P4 ++ [(x6.Thread != v3) = true, Z4 = Z4, Qa5 Z4 = true]) (Qa8 AP4 ⟨c7, rfl, rfl, trivial⟩)
   ·let H5 : List Hn := H3 ++ [hF 12, hh 18 (.row Z2)]
    let P6 : List Prop := P4 ++ [(x6.Thread != v3) = false, (0 : Int) ≤ v4, Z1[v4.toNat]? = some Z2]
    have AP6 : Qak P6 := Qa8 AP4 ⟨c8, (rd0 hx6), (rdM o59 hx6), trivial⟩
    rcases itS h with ⟨c9, h⟩ | ⟨c10, h⟩
    ·obtain rfl := sj h
     exact gR hP hn (H5 ++ [hT 23]) [] .raw (P6 ++ [Z5 = true, Z4 = Z4, Qa5 Z4 = true]) (Qa8 AP6 ⟨c9, rfl, rfl, trivial⟩)
    ·let H7 : List Hn := H5 ++ [hF 23, hh 29 (.row Z2)]
     let P8 : List Prop := P6 ++ [Z5 = false, (0 : Int) ≤ v4, Z1[v4.toNat]? = some Z2]
     have AP8 : Qak P8 := Qa8 AP6 ⟨c10, (rd0 hx6), (rdM o59 hx6), trivial⟩
     rcases itS h with ⟨c11, h⟩ | ⟨c12, h⟩
     ·obtain rfl := sj h
      exact gR hP hn (H7 ++ [hT 34]) [] .raw (P8 ++ [(x6.Obj != Z6) = true, Z4 = Z4, Qa5 Z4 = true]) (Qa8 AP8 ⟨c11, rfl, rfl, trivial⟩)
     ·let P9 : List Prop := P8 ++ [(x6.Obj != Z6) = false, (0 : Int) ≤ v4, Z1[v4.toNat]? = some Z2]
      have AP9 : Qak P9 := Qa8 AP8 ⟨c12, (rd0 hx6), (rdM o59 hx6), trivial⟩
      rcases itS h with ⟨c13, h⟩ | ⟨c14, h⟩
      ·obtain rfl := sj h
       exact gR hP hn (H7 ++ [hF 34, hh 40 (.row Z2), hT 45]) [] .raw (P9 ++ [Z7 = true, Z4 = Z4, Qa5 Z4 = true]) (Qa8 AP9 ⟨c13, rfl, rfl, trivial⟩)
      ·let P10 : List Prop := P9 ++ [Z7 = false, (0 : Int) ≤ v4, Z1[v4.toNat]? = some Z2]
       have AP10 : Qak P10 := Qa8 AP9 ⟨c14, (rd0 hx6), (rdM o59 hx6), trivial⟩
       rcases itS h with ⟨c15, h⟩ | ⟨c16, h⟩
       ·obtain rfl := sj h
        exact gR hP hn (H7 ++ [hF 34, hh 40 (.row Z2), hF 45, hh 51 (.row Z2), hT 56]) [] .raw (P10 ++ [Z8 = true, Z4 = Z4, Qa5 Z4 = true]) (Qa8 AP10 ⟨c15, rfl, rfl, trivial⟩)
       ·exact gT hP hn hx (H7 ++ [hF 34, hh 40 (.row Z2), hF 45, hh 51 (.row Z2), hF 56]) [] [0, 1, 5] [] (P10 ++ [Z8 = false]) (Qa8 AP10 ⟨c16, trivial⟩) (ih (w64 ((w64 ((w64 ((w64 ((w64 (v3 + 1)) + 1)) + 1)) + 1)) + 1)) (w64 (v4 + 1)) _ h)
  ·obtain rfl := sj h
   exact gR hP hn (H1 ++ [hF 4]) [] .raw (P2 ++ [Z3 = false, (I v3) = (I v3), Qa5 (I v3) = true]) (Qa8 AP2 ⟨c17, rfl, rfl, trivial⟩)
noncomputable def Qfy (p1 : (List Qad)) (p2 : Int) : Option Int :=
 Qcf p1 FU p2 0
theorem Qq8 {p1 : (List Qad)} {p2 : Int} {r : Int} (h : Qfy p1 p2 = some r) : Qa6 Tryz.prog 92 [(AV.ro 5 (p1.map o59)), (I p2)] (I r) := by
 refine gM Tryz.func92 58 Xg7 fun E hP hn hx => ?_
 unfold Qfy at h
 exact gT hP hn hx [] [] [0, 1, 5] [] [] trivial (Qnx hP hn hx p1 FU p2 0 _ h)
noncomputable def Xg1 : Code := match Tryz.f85.body with | some c => c | none => .skip
noncomputable def Qd6  (p1 : (List Int)) : Nat → Int → Int → Option Int
 | 0, _, _ => none
 | n + 1, v3, v4 =>
 if (decide (v4 < (p1.length : Int))) = true then
  Option.bind (rd p1 v4) fun x6 =>
  if (x6 != v3) = true then
   some (-1)
  else
   Qd6 p1 n (w64 (v3 + 1)) (w64 (v4 + 1))
 else
  some v3
theorem Qpc {E : Env} (hP : E.P = Tryz.prog) (hn : E.n = 21) (hx : FX E []) (p1 : (List Int))  : ∀ (n : Nat) (v3 : Int) (v4 : Int) (r : Int), Qd6 p1 n v3 v4 = some r → WAt E Xg1 (FQ (Qf0 Θ Tryz.f85.results.toList [] [] (I r) E)) [true, false, true, false] ⟨[(0, (AV.ro 1 (p1.map o3))), (1, (I v3)), (5, (I v4))], [], [JJ]⟩ := by
 intro n
 induction n with
 | zero => intro v3 v4 r h; simp only [Qd6] at h; cases h
 | succ n ih =>
  intro v3 v4 r h
  simp only [Qd6] at h
  let Z0 := (I (p1.length : Int)); let Z1 := (decide (v4 < (p1.length : Int)))
  let P1 : List Prop := [AV.lit (.int .i64 (((p1.map o3).length : Nat) : Int)) = Z0]
  have AP1 : Qak P1 := ⟨(Qd9 o3), trivial⟩
  rcases itS h with ⟨c5, h⟩ | ⟨c9, h⟩
  ·obtain ⟨x6, hx6, h⟩ := bnS h
   let P2 : List Prop := P1 ++ [Z1 = true, (0 : Int) ≤ v4, (p1.map o3)[v4.toNat]? = some (o3 x6)]
   have AP2 : Qak P2 := Qa8 AP1 ⟨c5, (rd0 hx6), (rdM o3 hx6), trivial⟩
   rcases itS h with ⟨c7, h⟩ | ⟨c8, h⟩
   ·obtain rfl := sj h
    exact gR hP hn [hO 2 Z0, hT 4, hh 7 (.row (o3 x6)), hT 11] [] .raw (P2 ++ [(x6 != v3) = true, (I (-1)) = (I (-1)), Qa5 (I (-1)) = true]) (Qa8 AP2 ⟨c7, rfl, rfl, trivial⟩)
   ·exact gT hP hn hx [hO 2 Z0, hT 4, hh 7 (.row (o3 x6)), hF 11] [] [0, 1, 5] [] (P2 ++ [(x6 != v3) = false]) (Qa8 AP2 ⟨c8, trivial⟩) (ih (w64 (v3 + 1)) (w64 (v4 + 1)) _ h)
  ·obtain rfl := sj h
   exact gR hP hn [hO 2 Z0, hF 4] [] .raw (P1 ++ [Z1 = false, (I v3) = (I v3), Qa5 (I v3) = true]) (Qa8 AP1 ⟨c9, rfl, rfl, trivial⟩)
noncomputable def Qgc (p1 : (List Int)) (p2 : Int) : Option Int :=
 Qd6 p1 FU p2 0
theorem Qn0 {p1 : (List Int)} {p2 : Int} {r : Int} (h : Qgc p1 p2 = some r) : Qa6 Tryz.prog 85 [(AV.ro 1 (p1.map o3)), (I p2)] (I r) := by
 refine gM Tryz.func85 21 Xg1 fun E hP hn hx => ?_
 unfold Qgc at h
 exact gT hP hn hx [] [] [0, 1, 5] [] [] trivial (Qpc hP hn hx p1 FU p2 0 _ h)
noncomputable def Xgb : Code := match Tryz.f84.body with | some c => c | none => .skip
noncomputable def Qbv  (p1 : (List Nat)) : Nat → Int → Int → Option Int
 | 0, _, _ => none
 | n + 1, v3, v4 =>
 if (decide (v4 < (p1.length : Int))) = true then
  Option.bind (rd p1 v4) fun x6 =>
  if ((Qc0 x6 (fOf v3)) != some .eq) = true then
   some (-1)
  else
   Qbv p1 n (w64 (v3 + 1)) (w64 (v4 + 1))
 else
  some v3
theorem Qm6 {E : Env} (hP : E.P = Tryz.prog) (hn : E.n = 22) (hx : FX E []) (p1 : (List Nat))  : ∀ (n : Nat) (v3 : Int) (v4 : Int) (r : Int), Qbv p1 n v3 v4 = some r → WAt E Xgb (FQ (Qf0 Θ Tryz.f84.results.toList [] [] (I r) E)) [true, false, true, false] ⟨[(0, (AV.ro 1 (p1.map Qae))), (1, (I v3)), (5, (I v4))], [], [JJ]⟩ := by
 intro n
 induction n with
 | zero => intro v3 v4 r h; simp only [Qbv] at h; cases h
 | succ n ih =>
  intro v3 v4 r h
  simp only [Qbv] at h
  let Z0 := (I (p1.length : Int)); let Z2 := (decide (v4 < (p1.length : Int)))
  let P1 : List Prop := [AV.lit (.int .i64 (((p1.map Qae).length : Nat) : Int)) = Z0]
  have AP1 : Qak P1 := ⟨(Qd9 Qae), trivial⟩
  rcases itS h with ⟨c5, h⟩ | ⟨c9, h⟩
  ·obtain ⟨x6, hx6, h⟩ := bnS h
   let Z1 := Qc0 x6 (fOf v3)
   let H2 : List Hn := [hO 2 Z0, hT 4, hh 7 (.row (Qae x6)), hh 10 (.cnv (FK (fOf v3))), hh 11 (.bin (B (Z1 != some .eq)))]
   let P3 : List Prop := P1 ++ [Z2 = true, (0 : Int) ≤ v4, (p1.map Qae)[v4.toNat]? = some (Qae x6), Qus Tryz.prog 3 142 (I v3) (FK (fOf v3)), Qfr Tryz.prog .neq 142 (FK x6) (FK (fOf v3)) (B (Z1 != some .eq))]
   have AP3 : Qak P3 := Qa8 AP1 ⟨c5, (rd0 hx6), (rdM Qae hx6), (cIF (P := Tryz.prog) ty3 Qne), Xed, trivial⟩
   rcases itS h with ⟨c7, h⟩ | ⟨c8, h⟩
   ·obtain rfl := sj h
    exact gR hP hn (H2 ++ [hT 12]) [] .raw (P3 ++ [(Z1 != some .eq) = true, (I (-1)) = (I (-1)), Qa5 (I (-1)) = true]) (Qa8 AP3 ⟨c7, rfl, rfl, trivial⟩)
   ·exact gT hP hn hx (H2 ++ [hF 12]) [] [0, 1, 5] [] (P3 ++ [(Z1 != some .eq) = false]) (Qa8 AP3 ⟨c8, trivial⟩) (ih (w64 (v3 + 1)) (w64 (v4 + 1)) _ h)
  ·obtain rfl := sj h
   exact gR hP hn [hO 2 Z0, hF 4] [] .raw (P1 ++ [Z2 = false, (I v3) = (I v3), Qa5 (I v3) = true]) (Qa8 AP1 ⟨c9, rfl, rfl, trivial⟩)
noncomputable def Qcr (p1 : (List Nat)) (p2 : Int) : Option Int :=
 Qbv p1 FU p2 0
theorem Qjn {p1 : (List Nat)} {p2 : Int} {r : Int} (h : Qcr p1 p2 = some r) : Qa6 Tryz.prog 84 [(AV.ro 1 (p1.map Qae)), (I p2)] (I r) := by
 refine gM Tryz.func84 22 Xgb fun E hP hn hx => ?_
 unfold Qcr at h
 exact gT hP hn hx [] [] [0, 1, 5] [] [] trivial (Qm6 hP hn hx p1 FU p2 0 _ h)
noncomputable def Xgg : Code := match Tryz.f83.body with | some c => c | none => .skip
noncomputable def Qc7  (p1 : (List Qa0)) : Nat → Int → Int → Option Int
 | 0, _, _ => none
 | n + 1, v3, v4 =>
 if (decide (v4 < (p1.length : Int))) = true then
  Option.bind (rd p1 v4) fun x6 =>
  if (x6.Routine != v3) = true then
   some (-1)
  else
   if (x6.Pc != (w64 (v3 + 1))) = true then
    some (-1)
   else
    if (x6.State != (w64 ((w64 (v3 + 1)) + 1))) = true then
     some (-1)
    else
     if (x6.Cond != (w64 ((w64 ((w64 (v3 + 1)) + 1)) + 1))) = true then
      some (-1)
     else
      if (x6.Lock != (w64 ((w64 ((w64 ((w64 (v3 + 1)) + 1)) + 1)) + 1))) = true then
       some (-1)
      else
       Option.bind (Qcr x6.Stack (w64 ((w64 ((w64 ((w64 ((w64 (v3 + 1)) + 1)) + 1)) + 1)) + 1))) fun r17 =>
       if (decide (r17 < 0)) = true then
        some (-1)
       else
        Qc7 p1 n r17 (w64 (v4 + 1))
 else
  some v3
theorem Qnc {E : Env} (hP : E.P = Tryz.prog) (hn : E.n = 67) (hx : FX E []) (p1 : (List Qa0))  : ∀ (n : Nat) (v3 : Int) (v4 : Int) (r : Int), Qc7 p1 n v3 v4 = some r → WAt E Xgg (FQ (Qf0 Θ Tryz.f83.results.toList [] [] (I r) E)) [true, false, true, false] ⟨[(0, (AV.ro 6 (p1.map Qb2))), (1, (I v3)), (5, (I v4))], [], [JJ]⟩ := by
 intro n
 induction n with
 | zero => intro v3 v4 r h; simp only [Qc7] at h; cases h
 | succ n ih =>
  intro v3 v4 r h
  simp only [Qc7] at h
  let Z0 := (I (p1.length : Int)); let Z1 := p1.map Qb2; let Z3 := (decide (v4 < (p1.length : Int))); let Z4 := I (-1); let Z6 := w64 ((w64 (v3 + 1)) + 1); let Z8 := w64 ((w64 (Z6 + 1)) + 1)
  let H1 : List Hn := [hO 2 Z0]
  let P2 : List Prop := [AV.lit (.int .i64 ((Z1.length : Nat) : Int)) = Z0]
  have AP2 : Qak P2 := ⟨(Qd9 Qb2), trivial⟩
  rcases itS h with ⟨c5, h⟩ | ⟨c20, h⟩
  ·obtain ⟨x6, hx6, h⟩ := bnS h
   let Z2 := Qb2 x6; let Z5 := x6.Pc != (w64 (v3 + 1)); let Z7 := x6.Cond != (w64 (Z6 + 1))
   let H3 : List Hn := H1 ++ [hT 4, hh 7 (.row Z2)]
   let P4 : List Prop := P2 ++ [Z3 = true, (0 : Int) ≤ v4, Z1[v4.toNat]? = some Z2]
   have AP4 : Qak P4 := Qa8 AP2 ⟨c5, (rd0 hx6), (rdM Qb2 hx6), trivial⟩
   rcases itS h with ⟨c7, h⟩ | ⟨c8, h⟩
   ·obtain rfl := sj h
    exact gR hP hn (H3 ++ [hT 12]) [] .raw (P4 ++ [(x6.Routine != v3) = true, Z4 = Z4, Qa5 Z4 = true]) (Qa8 AP4 ⟨c7, rfl, rfl, trivial⟩)
   ·let H5 : List Hn := H3 ++ [hF 12, hh 18 (.row Z2)]
    let P6 : List Prop := P4 ++ [(x6.Routine != v3) = false, (0 : Int) ≤ v4, Z1[v4.toNat]? = some Z2]
    have AP6 : Qak P6 := Qa8 AP4 ⟨c8, (rd0 hx6), (rdM Qb2 hx6), trivial⟩
    rcases itS h with ⟨c9, h⟩ | ⟨c10, h⟩
    ·obtain rfl := sj h
     exact gR hP hn (H5 ++ [hT 23]) [] .raw (P6 ++ [Z5 = true, Z4 = Z4, Qa5 Z4 = true]) (Qa8 AP6 ⟨c9, rfl, rfl, trivial⟩)
    ·let H7 : List Hn := H5 ++ [hF 23, hh 29 (.row Z2)]
     let P8 : List Prop := P6 ++ [Z5 = false, (0 : Int) ≤ v4, Z1[v4.toNat]? = some Z2]
     have AP8 : Qak P8 := Qa8 AP6 ⟨c10, (rd0 hx6), (rdM Qb2 hx6), trivial⟩
     rcases itS h with ⟨c11, h⟩ | ⟨c12, h⟩
     ·obtain rfl := sj h
      exact gR hP hn (H7 ++ [hT 34]) [] .raw (P8 ++ [(x6.State != Z6) = true, Z4 = Z4, Qa5 Z4 = true]) (Qa8 AP8 ⟨c11, rfl, rfl, trivial⟩)
     ·let H9 : List Hn := H7 ++ [hF 34, hh 40 (.row Z2)]
      let P10 : List Prop := P8 ++ [(x6.State != Z6) = false, (0 : Int) ≤ v4, Z1[v4.toNat]? = some Z2]
      have AP10 : Qak P10 := Qa8 AP8 ⟨c12, (rd0 hx6), (rdM Qb2 hx6), trivial⟩
      rcases itS h with ⟨c13, h⟩ | ⟨c14, h⟩
      ·obtain rfl := sj h
       exact gR hP hn (H9 ++ [hT 45]) [] .raw (P10 ++ [Z7 = true, Z4 = Z4, Qa5 Z4 = true]) (Qa8 AP10 ⟨c13, rfl, rfl, trivial⟩)
      ·let P11 : List Prop := P10 ++ [Z7 = false, (0 : Int) ≤ v4, Z1[v4.toNat]? = some Z2]
       have AP11 : Qak P11 := Qa8 AP10 ⟨c14, (rd0 hx6), (rdM Qb2 hx6), trivial⟩
       rcases itS h with ⟨c15, h⟩ | ⟨c16, h⟩
       ·obtain rfl := sj h
        exact gR hP hn (H9 ++ [hF 45, hh 51 (.row Z2), hT 56]) [] .raw (P11 ++ [(x6.Lock != Z8) = true, Z4 = Z4, Qa5 Z4 = true]) (Qa8 AP11 ⟨c15, rfl, rfl, trivial⟩)
       ·obtain ⟨r17, hr17, h⟩ := bnS h
        let H12 : List Hn := H9 ++ [hF 45, hh 51 (.row Z2), hF 56, hh 62 (.row Z2), hh 66 (.callV [] (I r17))]
        let P13 : List Prop := P11 ++ [(x6.Lock != Z8) = false, (0 : Int) ≤ v4, Z1[v4.toNat]? = some Z2, Qa6 Tryz.prog 84 [(AV.ro 1 (x6.Stack.map Qae)), (I (w64 (Z8 + 1)))] (I r17), Qa5 (I r17) = true]
        have AP13 : Qak P13 := Qa8 AP11 ⟨c16, (rd0 hx6), (rdM Qb2 hx6), (Qjn hr17), rfl, trivial⟩
        rcases itS h with ⟨c18, h⟩ | ⟨c19, h⟩
        ·obtain rfl := sj h
         exact gR hP hn (H12 ++ [hT 70]) [] .raw (P13 ++ [(decide (r17 < 0)) = true, Z4 = Z4, Qa5 Z4 = true]) (Qa8 AP13 ⟨c18, rfl, rfl, trivial⟩)
        ·exact gT hP hn hx (H12 ++ [hF 70]) [] [0, 1, 5] [] (P13 ++ [(decide (r17 < 0)) = false]) (Qa8 AP13 ⟨c19, trivial⟩) (ih r17 (w64 (v4 + 1)) _ h)
  ·obtain rfl := sj h
   exact gR hP hn (H1 ++ [hF 4]) [] .raw (P2 ++ [Z3 = false, (I v3) = (I v3), Qa5 (I v3) = true]) (Qa8 AP2 ⟨c20, rfl, rfl, trivial⟩)
noncomputable def Qfe (p1 : (List Qa0)) (p2 : Int) : Option Int :=
 Qc7 p1 FU p2 0
theorem Qpa {p1 : (List Qa0)} {p2 : Int} {r : Int} (h : Qfe p1 p2 = some r) : Qa6 Tryz.prog 83 [(AV.ro 6 (p1.map Qb2)), (I p2)] (I r) := by
 refine gM Tryz.func83 67 Xgg fun E hP hn hx => ?_
 unfold Qfe at h
 exact gT hP hn hx [] [] [0, 1, 5] [] [] trivial (Qnc hP hn hx p1 FU p2 0 _ h)
noncomputable def Xkz : Code := match Tryz.f26.body with | some c => c | none => .skip
noncomputable def Qgp (p1 : Qa2) (p2 : Int) : Option Int :=
 Option.bind (Qfe p1.Threads p2) fun r3 =>
 if (decide (r3 < 0)) = true then
  some (-1)
 else
  Option.bind (Qcr p1.Cells r3) fun r6 =>
  if (decide (r6 < 0)) = true then
   some (-1)
  else
   Option.bind (Qgc p1.Owner r6) fun r9 =>
   if (decide (r9 < 0)) = true then
    some (-1)
   else
    some r9
theorem Qrn {p1 : Qa2} {p2 : Int} {r : Int} (h : Qgp p1 p2 = some r) : Qa6 Tryz.prog 26 [(AV.agg ((r57 p1))), (I p2)] (I r) := by
 refine gM Tryz.func26 24 Xkz fun E hP hn hx => ?_
 unfold Qgp at h
 obtain ⟨r3, hr3, h⟩ := bnS h
 let Z0 := I (-1)
 let H1 : List Hn := [hW 0 1001, hh 5 (.callV [] (I r3))]
 let P2 : List Prop := [Qa6 Tryz.prog 83 [(AV.ro 6 (p1.Threads.map Qb2)), (I p2)] (I r3), Qa5 (I r3) = true]
 have AP2 : Qak P2 := ⟨(Qpa hr3), rfl, trivial⟩
 rcases itS h with ⟨c4, h⟩ | ⟨c5, h⟩
 ·obtain rfl := sj h
  exact gR hP hn (H1 ++ [hT 9]) [] .raw (P2 ++ [(decide (r3 < 0)) = true, Z0 = Z0, Qa5 Z0 = true]) (Qa8 AP2 ⟨c4, rfl, rfl, trivial⟩)
 ·obtain ⟨r6, hr6, h⟩ := bnS h
  let P3 : List Prop := P2 ++ [(decide (r3 < 0)) = false, Qa6 Tryz.prog 84 [(AV.ro 1 (p1.Cells.map Qae)), (I r3)] (I r6), Qa5 (I r6) = true]
  have AP3 : Qak P3 := Qa8 AP2 ⟨c5, (Qjn hr6), rfl, trivial⟩
  rcases itS h with ⟨c7, h⟩ | ⟨c8, h⟩
  ·obtain rfl := sj h
   exact gR hP hn (H1 ++ [hF 9, hh 13 (.callV [] (I r6)), hT 17]) [] .raw (P3 ++ [(decide (r6 < 0)) = true, Z0 = Z0, Qa5 Z0 = true]) (Qa8 AP3 ⟨c7, rfl, rfl, trivial⟩)
  ·obtain ⟨r9, hr9, h⟩ := bnS h
   let P4 : List Prop := P3 ++ [(decide (r6 < 0)) = false, Qa6 Tryz.prog 85 [(AV.ro 1 (p1.Owner.map o3)), (I r6)] (I r9), Qa5 (I r9) = true]
   have AP4 : Qak P4 := Qa8 AP3 ⟨c8, (Qn0 hr9), rfl, trivial⟩
   rcases itS h with ⟨c10, h⟩ | ⟨c11, h⟩
   ·obtain rfl := sj h
    exact gR hP hn (H1 ++ [hF 9, hh 13 (.callV [] (I r6)), hF 17, hh 21 (.callV [] (I r9)), hT 25]) [] .raw (P4 ++ [(decide (r9 < 0)) = true, Z0 = Z0, Qa5 Z0 = true]) (Qa8 AP4 ⟨c10, rfl, rfl, trivial⟩)
   ·obtain rfl := sj h
    exact gR hP hn (H1 ++ [hF 9, hh 13 (.callV [] (I r6)), hF 17, hh 21 (.callV [] (I r9)), hF 25]) [] .raw (P4 ++ [(decide (r9 < 0)) = false, (I r9) = (I r9), Qa5 (I r9) = true]) (Qa8 AP4 ⟨c11, rfl, rfl, trivial⟩)
noncomputable def Xjy : Code := match Tryz.f34.body with | some c => c | none => .skip
noncomputable def Qh6 (p1 : Qc1) (p2 : Int) : Option Int :=
 Option.bind (Qfy p1.Trace p2) fun r3 =>
 if (decide (r3 < 0)) = true then
  some (-1)
 else
  Option.bind (Qgc p1.Picks r3) fun r6 =>
  if (decide (r6 < 0)) = true then
   some (-1)
  else
   Option.bind (Qgp p1.End r6) fun r9 =>
   if (decide (r9 < 0)) = true then
    some (-1)
   else
    some r9
theorem Qo4 {p1 : Qc1} {p2 : Int} {r : Int} (h : Qh6 p1 p2 = some r) : Qa6 Tryz.prog 34 [(AV.agg ((r70 p1))), (I p2)] (I r) := by
 refine gM Tryz.func34 24 Xjy fun E hP hn hx => ?_
 unfold Qh6 at h
 obtain ⟨r3, hr3, h⟩ := bnS h
 let Z0 := I (-1)
 let H1 : List Hn := [hW 0 1001, hh 5 (.callV [] (I r3))]
 let P2 : List Prop := [Qa6 Tryz.prog 92 [(AV.ro 5 (p1.Trace.map o59)), (I p2)] (I r3), Qa5 (I r3) = true]
 have AP2 : Qak P2 := ⟨(Qq8 hr3), rfl, trivial⟩
 rcases itS h with ⟨c4, h⟩ | ⟨c5, h⟩
 ·obtain rfl := sj h
  exact gR hP hn (H1 ++ [hT 9]) [] .raw (P2 ++ [(decide (r3 < 0)) = true, Z0 = Z0, Qa5 Z0 = true]) (Qa8 AP2 ⟨c4, rfl, rfl, trivial⟩)
 ·obtain ⟨r6, hr6, h⟩ := bnS h
  let P3 : List Prop := P2 ++ [(decide (r3 < 0)) = false, Qa6 Tryz.prog 85 [(AV.ro 1 (p1.Picks.map o3)), (I r3)] (I r6), Qa5 (I r6) = true]
  have AP3 : Qak P3 := Qa8 AP2 ⟨c5, (Qn0 hr6), rfl, trivial⟩
  rcases itS h with ⟨c7, h⟩ | ⟨c8, h⟩
  ·obtain rfl := sj h
   exact gR hP hn (H1 ++ [hF 9, hh 13 (.callV [] (I r6)), hT 17]) [] .raw (P3 ++ [(decide (r6 < 0)) = true, Z0 = Z0, Qa5 Z0 = true]) (Qa8 AP3 ⟨c7, rfl, rfl, trivial⟩)
  ·obtain ⟨r9, hr9, h⟩ := bnS h
   let P4 : List Prop := P3 ++ [(decide (r6 < 0)) = false, Qa6 Tryz.prog 26 [(AV.agg ((r57 p1.End))), (I r6)] (I r9), Qa5 (I r9) = true]
   have AP4 : Qak P4 := Qa8 AP3 ⟨c8, (Qrn hr9), rfl, trivial⟩
   rcases itS h with ⟨c10, h⟩ | ⟨c11, h⟩
   ·obtain rfl := sj h
    exact gR hP hn (H1 ++ [hF 9, hh 13 (.callV [] (I r6)), hF 17, hh 21 (.callV [[]] (I r9)), hT 25]) [] .raw (P4 ++ [(decide (r9 < 0)) = true, Z0 = Z0, Qa5 Z0 = true]) (Qa8 AP4 ⟨c10, rfl, rfl, trivial⟩)
   ·obtain rfl := sj h
    exact gR hP hn (H1 ++ [hF 9, hh 13 (.callV [] (I r6)), hF 17, hh 21 (.callV [[]] (I r9)), hF 25]) [] .raw (P4 ++ [(decide (r9 < 0)) = false, (I r9) = (I r9), Qa5 (I r9) = true]) (Qa8 AP4 ⟨c11, rfl, rfl, trivial⟩)
noncomputable def Xgy : Code := match Tryz.f32.body with | some c => c | none => .skip
noncomputable def Qck   : Nat → (List Int) → Int → Int → Option (Int × (List Int))
 | 0, _, _, _ => none
 | n + 1, a3, v4, v5 =>
 if (decide (v5 < (a3.length : Int))) = true then
  Option.bind (rd a3 v5) fun x7 =>
  Qck n (a3.set (Int.toNat v5) v4) (w64 (v4 + 1)) (w64 (v5 + 1))
 else
  some (v4, a3)
theorem Qpp {E : Env} (hP : E.P = Tryz.prog) (hn : E.n = 19) (hx : ∀ p, p ∈ E.fx → p.1 ∈ ([0] : List Nat))   : ∀ (n : Nat) (a3 : (List Int)) (v4 : Int) (v5 : Int) (r : (Int × (List Int))), Qck  n a3 v4 v5 = some r → WAt E Xgy (FQ (Qf0 Θ Tryz.f32.results.toList [true] [⟨3, 1, (r.2.map o3)⟩] (I r.1) E)) [true, false, true, false] ⟨[(0, (AV.sl 0 0 (List.length (a3.map o3)))), (1, (I v4)), (5, (I v5))], [(0, some ⟨3, 1, (a3.map o3)⟩)], [0, JJ]⟩ := by
 intro n
 induction n with
 | zero => intro a3 v4 v5 r h; simp only [Qck] at h; cases h
 | succ n ih =>
  intro a3 v4 v5 r h
  simp only [Qck] at h
  let Z0 := (I (a3.length : Int)); let Z1 := (a3.set v5.toNat v4).map o3; let Z2 := a3.map o3; let Z3 := ((Z2.length : Nat) : Int); let Z4 := (decide (v5 < (a3.length : Int)))
  rcases itS h with ⟨c6, h⟩ | ⟨c8, h⟩
  ·obtain ⟨x7, hx7, h⟩ := bnS h
   exact gT hP hn hx [hO 2 Z0, hT 4, hh 9 (.sto [(I x7)] Z1), hh 16 (.slen 0 Z1.length)] [(0, 0)] [0, 1, 5] [] [AV.lit (.int .i64 Z3) = Z0, Z4 = true, (0 : Int) ≤ v5, v5 < Z3, Z2[v5.toNat]? = some [(I x7)], Z2.set v5.toNat (wr [(I x7)] 0 [(I v4)]) = Z1, [(I v4)].length = 1, 0 + [(I v4)].length ≤ [(I x7)].length, Z2.length = Z1.length, Qaa [(0, 0)] Z1] ⟨(Qd9 o3), c6, (rd0 hx7), (rdL o3 hx7), (rdM o3 hx7), (Qwk o3), rfl, leB, lnq, (rok (Qa9 t3)), trivial⟩ (ih (a3.set v5.toNat v4) (w64 (v4 + 1)) (w64 (v5 + 1)) _ h)
  ·obtain rfl := sj h
   exact gR hP hn [hO 2 Z0, hF 4] [] .raw [AV.lit (.int .i64 Z3) = Z0, Z4 = false, Z2 = Z2, Qa1 Z2 = true, Qa4 Z2 = true, (I v4) = (I v4), Qa5 (I v4) = true] ⟨(Qd9 o3), c8, rfl, (Qa9 t3), (Qa7 n3), rfl, rfl, trivial⟩
noncomputable def Qf7 (p1 : (List Int)) (p2 : Int) : Option (Int × (List Int)) :=
 Qck FU p1 p2 0
theorem Qju {p1 : (List Int)} {p2 : Int} {r : (Int × (List Int))} (h : Qf7 p1 p2 = some r) : Qcp Tryz.prog 32 [⟨3, 1, (p1.map o3)⟩] [(AV.sl 0 0 (List.length (p1.map o3))), (I p2)] [true] [⟨3, 1, (r.2.map o3)⟩] (I r.1) := by
 refine Qew Qui Tryz.func32 rfl (c := Xgy) (by kernel_rfl) (Nat.le_of_ble_eq_true rfl) rfl (Nat.le_of_ble_eq_true rfl) rfl (fr := [0]) (frI rfl) ?_
 intro E hP hn hx
 replace hn : E.n = 19 := hn
 unfold Qf7 at h
 exact gT hP hn hx [] [(0, 0)] [0, 1, 5] [] [Qaa [(0, 0)] (p1.map o3)] ⟨(rok (Qa9 t3)), trivial⟩ (Qpp hP hn hx FU p1 p2 0 _ h)
noncomputable def Xdd : Code := match Tryz.f151.body with | some c => c | none => .skip
noncomputable def Qcx   : Nat → (List GOp) → Int → Int → Option (Int × (List GOp))
 | 0, _, _, _ => none
 | n + 1, a3, v4, v5 =>
 if (decide (v5 < (a3.length : Int))) = true then
  Option.bind (rd a3 v5) fun x7 =>
  Qcx n (a3.set (Int.toNat v5) (GOp.mk v4 (w64 (v4 + 1)) (w64 ((w64 (v4 + 1)) + 1)) (fOf (w64 ((w64 ((w64 (v4 + 1)) + 1)) + 1))))) (w64 ((w64 ((w64 ((w64 (v4 + 1)) + 1)) + 1)) + 1)) (w64 (v5 + 1))
 else
  some (v4, a3)
theorem Qqo {E : Env} (hP : E.P = Tryz.prog) (hn : E.n = 42) (hx : ∀ p, p ∈ E.fx → p.1 ∈ ([0] : List Nat))   : ∀ (n : Nat) (a3 : (List GOp)) (v4 : Int) (v5 : Int) (r : (Int × (List GOp))), Qcx  n a3 v4 v5 = some r → WAt E Xdd (FQ (Qf0 Θ Tryz.f151.results.toList [true] [⟨144, 4, (r.2.map Qb5)⟩] (I r.1) E)) [true, false, true, false] ⟨[(0, (AV.sl 0 0 (List.length (a3.map Qb5)))), (1, (I v4)), (5, (I v5))], [(0, some ⟨144, 4, (a3.map Qb5)⟩)], [0, JJ]⟩ := by
 intro n
 induction n with
 | zero => intro a3 v4 v5 r h; simp only [Qcx] at h; cases h
 | succ n ih =>
  intro a3 v4 v5 r h
  simp only [Qcx] at h
  let Z0 := (I (a3.length : Int)); let Z4 := w64 (v4 + 1); let Z7 := w64 (Z4 + 1); let Z9 := fOf (w64 (Z7 + 1)); let Z11 := a3.set v5.toNat (GOp.mk v4 Z4 Z7 Z9); let Z12 := Z11.map Qb5; let Z13 := a3.map Qb5; let Z14 := ((Z13.length : Nat) : Int); let Z15 := (decide (v5 < (a3.length : Int)))
  rcases itS h with ⟨c6, h⟩ | ⟨c8, h⟩
  ·obtain ⟨x7, hx7, h⟩ := bnS h
   exact (let Z1 := Qb5 x7; let Z2 := (a3.set v5.toNat (GOp.mk v4 x7.A x7.B x7.V)).map Qb5; let Z3 := [(I v4), (I x7.A), (I x7.B), (FK x7.V)]; let Z5 := (a3.set v5.toNat (GOp.mk v4 Z4 x7.B x7.V)).map Qb5; let Z6 := [(I v4), (I Z4), (I x7.B), (FK x7.V)]; let Z8 := (a3.set v5.toNat (GOp.mk v4 Z4 Z7 x7.V)).map Qb5; let Z10 := [(I v4), (I Z4), (I Z7), (FK x7.V)]; let Z16 := GOp.mk v4 x7.A x7.B x7.V; let Z17 := GOp.mk v4 (w64 (v4 + 1)) x7.B x7.V; let Z18 := GOp.mk v4 (w64 (v4 + 1)) (w64 ((w64 (v4 + 1)) + 1)) x7.V; gT hP hn hx [hO 2 Z0, hT 4, hh 10 (.sto Z1 Z2), hh 14 (.slen 0 Z2.length), hh 19 (.sto Z3 Z5), hh 23 (.slen 0 Z5.length), hh 28 (.sto Z6 Z8), hh 32 (.slen 0 Z8.length), hh 35 (.cnv (FK Z9)), hh 38 (.sto Z10 Z12), hh 45 (.slen 0 Z12.length)] [(0, 0)] [0, 1, 5] [] [AV.lit (.int .i64 Z14) = Z0, Z15 = true, (0 : Int) ≤ v5, v5 < Z14, Z13[v5.toNat]? = some Z1, Z13.set v5.toNat (wr Z1 0 [(I v4)]) = Z2, [(I v4)].length = 1, 0 + [(I v4)].length ≤ Z1.length, Z13.length = Z2.length, (0 : Int) ≤ v5, v5 < ((Z2.length : Nat) : Int), Z2[v5.toNat]? = some Z3, Z2.set v5.toNat (wr Z3 1 [(I Z4)]) = Z5, [(I Z4)].length = 1, 1 + [(I Z4)].length ≤ Z3.length, Z2.length = Z5.length, (0 : Int) ≤ v5, v5 < ((Z5.length : Nat) : Int), Z5[v5.toNat]? = some Z6, Z5.set v5.toNat (wr Z6 2 [(I Z7)]) = Z8, [(I Z7)].length = 1, 2 + [(I Z7)].length ≤ Z6.length, Z5.length = Z8.length, Qus Tryz.prog 3 142 (I (w64 (Z7 + 1))) (FK Z9), (0 : Int) ≤ v5, v5 < ((Z8.length : Nat) : Int), Z8[v5.toNat]? = some Z10, Z8.set v5.toNat (wr Z10 3 [(FK Z9)]) = Z12, [(FK Z9)].length = 1, 3 + [(FK Z9)].length ≤ Z10.length, Z8.length = Z12.length, Qaa [(0, 0)] Z12] ⟨(Qd9 Qb5), c6, (rd0 hx7), (rdL Qb5 hx7), (rdM Qb5 hx7), (Qog Qb5), rfl, leB, lnq, (rd0 hx7), (rdL Qb5 (rdS (y := Z16) hx7)), (rdM Qb5 (rdS (y := Z16) hx7)), (Qg8 Qb5), rfl, leB, lnq, (rd0 hx7), (rdL Qb5 (rdS (y := Z17) hx7)), (rdM Qb5 (rdS (y := Z17) hx7)), (Qg8 Qb5), rfl, leB, lnq, (cIF (P := Tryz.prog) ty3 Qne), (rd0 hx7), (rdL Qb5 (rdS (y := Z18) hx7)), (rdM Qb5 (rdS (y := Z18) hx7)), (Qg8 Qb5), rfl, leB, lnq, (rok (Qa9 Xfs)), trivial⟩ (ih Z11 (w64 ((w64 ((w64 ((w64 (v4 + 1)) + 1)) + 1)) + 1)) (w64 (v5 + 1)) _ h))
  ·obtain rfl := sj h
   exact gR hP hn [hO 2 Z0, hF 4] [] .raw [AV.lit (.int .i64 Z14) = Z0, Z15 = false, Z13 = Z13, Qa1 Z13 = true, Qa4 Z13 = true, (I v4) = (I v4), Qa5 (I v4) = true] ⟨(Qd9 Qb5), c8, rfl, (Qa9 Xfs), (Qa7 Xko), rfl, rfl, trivial⟩
noncomputable def Qh2 (p1 : (List GOp)) (p2 : Int) : Option (Int × (List GOp)) :=
 Qcx FU p1 p2 0
theorem Qtt {p1 : (List GOp)} {p2 : Int} {r : (Int × (List GOp))} (h : Qh2 p1 p2 = some r) : Qcp Tryz.prog 151 [⟨144, 4, (p1.map Qb5)⟩] [(AV.sl 0 0 (List.length (p1.map Qb5))), (I p2)] [true] [⟨144, 4, (r.2.map Qb5)⟩] (I r.1) := by
 refine Qew Qui Tryz.func151 rfl (c := Xdd) (by kernel_rfl) (Nat.le_of_ble_eq_true rfl) rfl (Nat.le_of_ble_eq_true rfl) rfl (fr := [0]) (frI rfl) ?_
 intro E hP hn hx
 replace hn : E.n = 42 := hn
 unfold Qh2 at h
 exact gT hP hn hx [] [(0, 0)] [0, 1, 5] [] [Qaa [(0, 0)] (p1.map Qb5)] ⟨(rok (Qa9 Xfs)), trivial⟩ (Qqo hP hn hx FU p1 p2 0 _ h)
noncomputable def Xg9 : Code := match Tryz.f80.body with | some c => c | none => .skip
noncomputable def Qd5   : Nat → (List (List GOp)) → Int → Int → Option (Int × (List (List GOp)))
 | 0, _, _, _ => none
 | n + 1, a3, v4, v5 =>
 if (decide (v5 < (a3.length : Int))) = true then
  Option.bind (rd a3 v5) fun x7 =>
  Option.bind (Qh2 x7 v4) fun r8 =>
  Option.bind (Qdo x7 r8.2) fun q9 =>
  Qd5 n (a3.set (Int.toNat v5) r8.2) r8.1 (w64 (v5 + 1))
 else
  some (v4, a3)
theorem Qpu {E : Env} (hP : E.P = Tryz.prog) (hn : E.n = 19) (hx : ∀ p, p ∈ E.fx → p.1 ∈ ([0] : List Nat))   : ∀ (n : Nat) (a3 : (List (List GOp))) (v4 : Int) (v5 : Int) (r : (Int × (List (List GOp)))), Qd5  n a3 v4 v5 = some r → WAt E Xg9 (FQ (Qf0 Θ Tryz.f80.results.toList [true] [⟨141, 1, (r.2.map Qim)⟩] (I r.1) E)) [true, false, true, false] ⟨[(0, (AV.sl 0 0 (List.length (a3.map Qim)))), (1, (I v4)), (5, (I v5))], [(0, some ⟨141, 1, (a3.map Qim)⟩)], [0, JJ]⟩ := by
 intro n
 induction n with
 | zero => intro a3 v4 v5 r h; simp only [Qd5] at h; cases h
 | succ n ih =>
  intro a3 v4 v5 r h
  simp only [Qd5] at h
  let Z0 := (I (a3.length : Int)); let Z3 := a3.map Qim; let Z9 := ((Z3.length : Nat) : Int); let Z10 := (decide (v5 < (a3.length : Int)))
  rcases itS h with ⟨c6, h⟩ | ⟨c10, h⟩
  ·obtain ⟨x7, hx7, h⟩ := bnS h
   obtain ⟨r8, hr8, h⟩ := bnS h
   obtain ⟨q9, hq9, h⟩ := bnS h
   exact (let Z1 := x7.map Qb5; let Z2 := [(AV.own 144 4 Z1)]; let Z4 := AV.sl 1001 0 Z1.length; let Z5 := Z3.set v5.toNat [Z4]; let Z6 := r8.2.map Qb5; let Z7 := a3.set v5.toNat r8.2; let Z8 := Z7.map Qim; let Z11 := rtf (Qi0 [(0, 1001)] (I r8.1)) []; gT hP hn hx [hO 2 Z0, hT 4, hh 8 (.unpack 0 1001 v5.toNat 0 Z2 144 4 Z1 Z5), hh 8 (.row [Z4]), hh 10 (.callX [1001] [true] [⟨144, 4, Z1⟩] [⟨144, 4, Z6⟩] [] (I r8.1) [] (I r8.1) []), hh 15 (.pack 0 1001 v5.toNat 0 [Z4] Z8), hh 15 (.slen 0 Z8.length)] [(0, 0)] [0, 1, 5] [] [AV.lit (.int .i64 Z9) = Z0, Z10 = true, (0 : Int) ≤ v5, v5 < Z9, Z3[v5.toNat]? = some Z2, Z2[0]? = some (AV.own 144 4 Z1), 0 < 4, Z3.set v5.toNat (Z2.set 0 Z4) = Z5, Z5[v5.toNat]? = some [Z4], Qcp Tryz.prog 151 [⟨144, 4, Z1⟩] [(AV.sl 0 0 Z1.length), (I v4)] [true] [⟨144, 4, Z6⟩] (I r8.1), (some (Qam.mk 144 4 Z1) = some (Qam.mk 144 4 Z1)) ∧ True, (Qa1 Z1 = true ∧ Qa4 Z1 = true) ∧ True, (Z6.length = Z1.length) ∧ True, Z11.1 = (I r8.1), Z11.2.1 = [], Z5[v5.toNat]? = some [Z4], [Z4][0]? = some (AV.sl 1001 0 Z6.length), Qa1 Z6 = true, Z5.set v5.toNat ([Z4].set 0 (AV.own 144 4 Z6)) = Z8, Z3.length = Z8.length, Qaa [(0, 0)] Z8] ⟨(Qd9 Qim), c6, (rd0 hx7), (rdL Qim hx7), (rdM Qim hx7), rfl, (by decide), rfl, (Qd7 (rdM Qim hx7)), (Qtt hr8), ⟨rfl, trivial⟩, ⟨⟨Qa9 Xfs, Qa7 Xko⟩, trivial⟩, ⟨(Qbg Qb5 hq9), trivial⟩, rfl, rfl, (Qd7 (rdM Qim hx7)), (pkS (Qbg Qb5 hq9).symm), (Qa9 Xfs), (setP Qim), lnq, (rok (Qa9 Qy6)), trivial⟩ (ih Z7 r8.1 (w64 (v5 + 1)) _ h))
  ·obtain rfl := sj h
   exact gR hP hn [hO 2 Z0, hF 4] [] .raw [AV.lit (.int .i64 Z9) = Z0, Z10 = false, Z3 = Z3, Qa1 Z3 = true, Qa4 Z3 = true, (I v4) = (I v4), Qa5 (I v4) = true] ⟨(Qd9 Qim), c10, rfl, (Qa9 Qy6), (Qa7 Xbt), rfl, rfl, trivial⟩
noncomputable def Qha (p1 : (List (List GOp))) (p2 : Int) : Option (Int × (List (List GOp))) :=
 Qd5 FU p1 p2 0
theorem Qsy {p1 : (List (List GOp))} {p2 : Int} {r : (Int × (List (List GOp)))} (h : Qha p1 p2 = some r) : Qcp Tryz.prog 80 [⟨141, 1, (p1.map Qim)⟩] [(AV.sl 0 0 (List.length (p1.map Qim))), (I p2)] [true] [⟨141, 1, (r.2.map Qim)⟩] (I r.1) := by
 refine Qew Qui Tryz.func80 rfl (c := Xg9) (by kernel_rfl) (Nat.le_of_ble_eq_true rfl) rfl (Nat.le_of_ble_eq_true rfl) rfl (fr := [0]) (frI rfl) ?_
 intro E hP hn hx
 replace hn : E.n = 19 := hn
 unfold Qha at h
 exact gT hP hn hx [] [(0, 0)] [0, 1, 5] [] [Qaa [(0, 0)] (p1.map Qim)] ⟨(rok (Qa9 Qy6)), trivial⟩ (Qpu hP hn hx FU p1 p2 0 _ h)
noncomputable def Xkx : Code := match Tryz.f24.body with | some c => c | none => .skip
noncomputable def Qhm (p1 : Int) (p2 : Int) (p3 : Int) (p4 : (List (List GOp))) (p5 : Int) : Option (Int × (List (List GOp))) :=
 Option.bind (Qha p4 p5) fun r6 =>
 Option.bind (Qdo p4 r6.2) fun q7 =>
 some (r6.1, r6.2)
theorem Qs0 {p1 : Int} {p2 : Int} {p3 : Int} {p4 : (List (List GOp))} {p5 : Int} {r : (Int × (List (List GOp)))} (h : Qhm p1 p2 p3 p4 p5 = some r) : Qcp Tryz.prog 24 [⟨141, 1, (p4.map Qim)⟩] [(AV.agg [(I p1), (I p2), (I p3), (AV.sl 0 0 (List.length (p4.map Qim)))]), (I p5)] [true] [⟨141, 1, (r.2.map Qim)⟩] (I r.1) := by
 refine Qew Qui Tryz.func24 rfl (c := Xkx) (by kernel_rfl) (Nat.le_of_ble_eq_true rfl) rfl (Nat.le_of_ble_eq_true rfl) rfl (fr := [0]) (frI rfl) ?_
 intro E hP hn hx
 replace hn : E.n = 10 := hn
 unfold Qhm at h
 obtain ⟨r6, hr6, h⟩ := bnS h
 obtain ⟨q7, hq7, h⟩ := bnS h
 obtain rfl := sj h
 exact (let Z0 := p4.map Qim; let Z1 := r6.2.map Qim; let Z2 := I r6.1; let Z3 := rtf (Qi0 [(0, 0)] Z2) []; gR hP hn [hW 0 1001, hh 5 (.callX [0] [true] [⟨141, 1, Z0⟩] [⟨141, 1, Z1⟩] [] Z2 [] Z2 [])] [] .raw [Qcp Tryz.prog 80 [⟨141, 1, Z0⟩] [(AV.sl 0 0 Z0.length), (I p5)] [true] [⟨141, 1, Z1⟩] Z2, (some (Qam.mk 141 1 Z0) = some (Qam.mk 141 1 Z0)) ∧ True, (Qa1 Z0 = true ∧ Qa4 Z0 = true) ∧ True, (Z1.length = Z0.length) ∧ True, Z3.1 = Z2, Z3.2.1 = [], Z1 = Z1, Qa1 Z1 = true, Qa4 Z1 = true, Z2 = Z2, Qa5 Z2 = true] ⟨(Qsy hr6), ⟨rfl, trivial⟩, ⟨⟨Qa9 Qy6, Qa7 Xbt⟩, trivial⟩, ⟨(Qbg Qim hq7), trivial⟩, rfl, rfl, rfl, (Qa9 Qy6), (Qa7 Xbt), rfl, rfl, trivial⟩)
noncomputable def Xgx : Code := match Tryz.f91.body with | some c => c | none => .skip
noncomputable def Qby   : Nat → (List Qad) → Int → Int → Option (Int × (List Qad))
 | 0, _, _, _ => none
 | n + 1, a3, v4, v5 =>
 if (decide (v5 < (a3.length : Int))) = true then
  Option.bind (rd a3 v5) fun x7 =>
  Qby n (a3.set (Int.toNat v5) (Qad.mk v4 (w64 (v4 + 1)) (w64 ((w64 (v4 + 1)) + 1)) (w64 ((w64 ((w64 (v4 + 1)) + 1)) + 1)) (w64 ((w64 ((w64 ((w64 (v4 + 1)) + 1)) + 1)) + 1)))) (w64 ((w64 ((w64 ((w64 ((w64 (v4 + 1)) + 1)) + 1)) + 1)) + 1)) (w64 (v5 + 1))
 else
  some (v4, a3)
theorem Qo1 {E : Env} (hP : E.P = Tryz.prog) (hn : E.n = 48) (hx : ∀ p, p ∈ E.fx → p.1 ∈ ([0] : List Nat))   : ∀ (n : Nat) (a3 : (List Qad)) (v4 : Int) (v5 : Int) (r : (Int × (List Qad))), Qby  n a3 v4 v5 = some r → WAt E Xgx (FQ (Qf0 Θ Tryz.f91.results.toList [true] [⟨59, 5, (r.2.map o59)⟩] (I r.1) E)) [true, false, true, false] ⟨[(0, (AV.sl 0 0 (List.length (a3.map o59)))), (1, (I v4)), (5, (I v5))], [(0, some ⟨59, 5, (a3.map o59)⟩)], [0, JJ]⟩ := by
 intro n
 induction n with
 | zero => intro a3 v4 v5 r h; simp only [Qby] at h; cases h
 | succ n ih =>
  intro a3 v4 v5 r h
  simp only [Qby] at h
  let Z0 := (I (a3.length : Int)); let Z4 := w64 (v4 + 1); let Z7 := w64 (Z4 + 1); let Z10 := w64 (Z7 + 1); let Z13 := a3.set v5.toNat (Qad.mk v4 Z4 Z7 Z10 (w64 (Z10 + 1))); let Z14 := Z13.map o59; let Z15 := a3.map o59; let Z16 := ((Z15.length : Nat) : Int); let Z17 := (decide (v5 < (a3.length : Int))); let Z18 := [(I (w64 (Z10 + 1)))]
  rcases itS h with ⟨c6, h⟩ | ⟨c8, h⟩
  ·obtain ⟨x7, hx7, h⟩ := bnS h
   exact (let Z1 := o59 x7; let Z2 := (a3.set v5.toNat (Qad.mk v4 x7.Kind x7.Obj x7.Lock x7.Pc)).map o59; let Z3 := [(I v4), (I x7.Kind), (I x7.Obj), (I x7.Lock), (I x7.Pc)]; let Z5 := (a3.set v5.toNat (Qad.mk v4 Z4 x7.Obj x7.Lock x7.Pc)).map o59; let Z6 := [(I v4), (I Z4), (I x7.Obj), (I x7.Lock), (I x7.Pc)]; let Z8 := (a3.set v5.toNat (Qad.mk v4 Z4 Z7 x7.Lock x7.Pc)).map o59; let Z9 := [(I v4), (I Z4), (I Z7), (I x7.Lock), (I x7.Pc)]; let Z11 := (a3.set v5.toNat (Qad.mk v4 Z4 Z7 Z10 x7.Pc)).map o59; let Z12 := [(I v4), (I Z4), (I Z7), (I Z10), (I x7.Pc)]; let Z19 := Qad.mk v4 x7.Kind x7.Obj x7.Lock x7.Pc; let Z20 := Qad.mk v4 (w64 (v4 + 1)) x7.Obj x7.Lock x7.Pc; let Z21 := Qad.mk v4 (w64 (v4 + 1)) (w64 ((w64 (v4 + 1)) + 1)) x7.Lock x7.Pc; let Z22 := Qad.mk v4 (w64 (v4 + 1)) (w64 ((w64 (v4 + 1)) + 1)) (w64 ((w64 ((w64 (v4 + 1)) + 1)) + 1)) x7.Pc; gT hP hn hx [hO 2 Z0, hT 4, hh 10 (.sto Z1 Z2), hh 14 (.slen 0 Z2.length), hh 19 (.sto Z3 Z5), hh 23 (.slen 0 Z5.length), hh 28 (.sto Z6 Z8), hh 32 (.slen 0 Z8.length), hh 37 (.sto Z9 Z11), hh 41 (.slen 0 Z11.length), hh 46 (.sto Z12 Z14), hh 53 (.slen 0 Z14.length)] [(0, 0)] [0, 1, 5] [] [AV.lit (.int .i64 Z16) = Z0, Z17 = true, (0 : Int) ≤ v5, v5 < Z16, Z15[v5.toNat]? = some Z1, Z15.set v5.toNat (wr Z1 0 [(I v4)]) = Z2, [(I v4)].length = 1, 0 + [(I v4)].length ≤ Z1.length, Z15.length = Z2.length, (0 : Int) ≤ v5, v5 < ((Z2.length : Nat) : Int), Z2[v5.toNat]? = some Z3, Z2.set v5.toNat (wr Z3 1 [(I Z4)]) = Z5, [(I Z4)].length = 1, 1 + [(I Z4)].length ≤ Z3.length, Z2.length = Z5.length, (0 : Int) ≤ v5, v5 < ((Z5.length : Nat) : Int), Z5[v5.toNat]? = some Z6, Z5.set v5.toNat (wr Z6 2 [(I Z7)]) = Z8, [(I Z7)].length = 1, 2 + [(I Z7)].length ≤ Z6.length, Z5.length = Z8.length, (0 : Int) ≤ v5, v5 < ((Z8.length : Nat) : Int), Z8[v5.toNat]? = some Z9, Z8.set v5.toNat (wr Z9 3 [(I Z10)]) = Z11, [(I Z10)].length = 1, 3 + [(I Z10)].length ≤ Z9.length, Z8.length = Z11.length, (0 : Int) ≤ v5, v5 < ((Z11.length : Nat) : Int), Z11[v5.toNat]? = some Z12, Z11.set v5.toNat (wr Z12 4 Z18) = Z14, Z18.length = 1, 4 + Z18.length ≤ Z12.length, Z11.length = Z14.length, Qaa [(0, 0)] Z14] ⟨(Qd9 o59), c6, (rd0 hx7), (rdL o59 hx7), (rdM o59 hx7), (Qog o59), rfl, leB, lnq, (rd0 hx7), (rdL o59 (rdS (y := Z19) hx7)), (rdM o59 (rdS (y := Z19) hx7)), (Qg8 o59), rfl, leB, lnq, (rd0 hx7), (rdL o59 (rdS (y := Z20) hx7)), (rdM o59 (rdS (y := Z20) hx7)), (Qg8 o59), rfl, leB, lnq, (rd0 hx7), (rdL o59 (rdS (y := Z21) hx7)), (rdM o59 (rdS (y := Z21) hx7)), (Qg8 o59), rfl, leB, lnq, (rd0 hx7), (rdL o59 (rdS (y := Z22) hx7)), (rdM o59 (rdS (y := Z22) hx7)), (Qg8 o59), rfl, leB, lnq, (rok (Qa9 t59)), trivial⟩ (ih Z13 (w64 ((w64 ((w64 ((w64 ((w64 (v4 + 1)) + 1)) + 1)) + 1)) + 1)) (w64 (v5 + 1)) _ h))
  ·obtain rfl := sj h
   exact gR hP hn [hO 2 Z0, hF 4] [] .raw [AV.lit (.int .i64 Z16) = Z0, Z17 = false, Z15 = Z15, Qa1 Z15 = true, Qa4 Z15 = true, (I v4) = (I v4), Qa5 (I v4) = true] ⟨(Qd9 o59), c8, rfl, (Qa9 t59), (Qa7 n59), rfl, rfl, trivial⟩
noncomputable def Qg1 (p1 : (List Qad)) (p2 : Int) : Option (Int × (List Qad)) :=
 Qby FU p1 p2 0
theorem Qql {p1 : (List Qad)} {p2 : Int} {r : (Int × (List Qad))} (h : Qg1 p1 p2 = some r) : Qcp Tryz.prog 91 [⟨59, 5, (p1.map o59)⟩] [(AV.sl 0 0 (List.length (p1.map o59))), (I p2)] [true] [⟨59, 5, (r.2.map o59)⟩] (I r.1) := by
 refine Qew Qui Tryz.func91 rfl (c := Xgx) (by kernel_rfl) (Nat.le_of_ble_eq_true rfl) rfl (Nat.le_of_ble_eq_true rfl) rfl (fr := [0]) (frI rfl) ?_
 intro E hP hn hx
 replace hn : E.n = 48 := hn
 unfold Qg1 at h
 exact gT hP hn hx [] [(0, 0)] [0, 1, 5] [] [Qaa [(0, 0)] (p1.map o59)] ⟨(rok (Qa9 t59)), trivial⟩ (Qo1 hP hn hx FU p1 p2 0 _ h)
noncomputable def Xgj : Code := match Tryz.f82.body with | some c => c | none => .skip
noncomputable def Qbj   : Nat → (List Nat) → Int → Int → Option (Int × (List Nat))
 | 0, _, _, _ => none
 | n + 1, a3, v4, v5 =>
 if (decide (v5 < (a3.length : Int))) = true then
  Option.bind (rd a3 v5) fun x7 =>
  Qbj n (a3.set (Int.toNat v5) (fOf v4)) (w64 (v4 + 1)) (w64 (v5 + 1))
 else
  some (v4, a3)
theorem Qlo {E : Env} (hP : E.P = Tryz.prog) (hn : E.n = 20) (hx : ∀ p, p ∈ E.fx → p.1 ∈ ([0] : List Nat))   : ∀ (n : Nat) (a3 : (List Nat)) (v4 : Int) (v5 : Int) (r : (Int × (List Nat))), Qbj  n a3 v4 v5 = some r → WAt E Xgj (FQ (Qf0 Θ Tryz.f82.results.toList [true] [⟨142, 1, (r.2.map Qae)⟩] (I r.1) E)) [true, false, true, false] ⟨[(0, (AV.sl 0 0 (List.length (a3.map Qae)))), (1, (I v4)), (5, (I v5))], [(0, some ⟨142, 1, (a3.map Qae)⟩)], [0, JJ]⟩ := by
 intro n
 induction n with
 | zero => intro a3 v4 v5 r h; simp only [Qbj] at h; cases h
 | succ n ih =>
  intro a3 v4 v5 r h
  simp only [Qbj] at h
  let Z0 := (I (a3.length : Int)); let Z1 := fOf v4; let Z2 := (a3.set v5.toNat Z1).map Qae; let Z3 := a3.map Qae; let Z4 := ((Z3.length : Nat) : Int); let Z5 := (decide (v5 < (a3.length : Int))); let Z6 := a3.set v5.toNat (fOf v4)
  rcases itS h with ⟨c6, h⟩ | ⟨c8, h⟩
  ·obtain ⟨x7, hx7, h⟩ := bnS h
   exact gT hP hn hx [hO 2 Z0, hT 4, hh 8 (.cnv (FK Z1)), hh 10 (.sto [(FK x7)] Z2), hh 17 (.slen 0 Z2.length)] [(0, 0)] [0, 1, 5] [] [AV.lit (.int .i64 Z4) = Z0, Z5 = true, Qus Tryz.prog 3 142 (I v4) (FK Z1), (0 : Int) ≤ v5, v5 < Z4, Z3[v5.toNat]? = some [(FK x7)], Z3.set v5.toNat (wr [(FK x7)] 0 [(FK Z1)]) = Z2, [(FK Z1)].length = 1, 0 + [(FK Z1)].length ≤ [(FK x7)].length, Z3.length = Z2.length, Qaa [(0, 0)] Z2] ⟨(Qd9 Qae), c6, (cIF (P := Tryz.prog) ty3 Qne), (rd0 hx7), (rdL Qae hx7), (rdM Qae hx7), (Qwk Qae), rfl, leB, lnq, (rok (Qa9 Qbp)), trivial⟩ (ih Z6 (w64 (v4 + 1)) (w64 (v5 + 1)) _ h)
  ·obtain rfl := sj h
   exact gR hP hn [hO 2 Z0, hF 4] [] .raw [AV.lit (.int .i64 Z4) = Z0, Z5 = false, Z3 = Z3, Qa1 Z3 = true, Qa4 Z3 = true, (I v4) = (I v4), Qa5 (I v4) = true] ⟨(Qd9 Qae), c8, rfl, (Qa9 Qbp), (Qa7 Qey), rfl, rfl, trivial⟩
noncomputable def Qdi (p1 : (List Nat)) (p2 : Int) : Option (Int × (List Nat)) :=
 Qbj FU p1 p2 0
theorem Qj9 {p1 : (List Nat)} {p2 : Int} {r : (Int × (List Nat))} (h : Qdi p1 p2 = some r) : Qcp Tryz.prog 82 [⟨142, 1, (p1.map Qae)⟩] [(AV.sl 0 0 (List.length (p1.map Qae))), (I p2)] [true] [⟨142, 1, (r.2.map Qae)⟩] (I r.1) := by
 refine Qew Qui Tryz.func82 rfl (c := Xgj) (by kernel_rfl) (Nat.le_of_ble_eq_true rfl) rfl (Nat.le_of_ble_eq_true rfl) rfl (fr := [0]) (frI rfl) ?_
 intro E hP hn hx
 replace hn : E.n = 20 := hn
 unfold Qdi at h
 exact gT hP hn hx [] [(0, 0)] [0, 1, 5] [] [Qaa [(0, 0)] (p1.map Qae)] ⟨(rok (Qa9 Qbp)), trivial⟩ (Qlo hP hn hx FU p1 p2 0 _ h)
noncomputable def Xgp : Code := match Tryz.f81.body with | some c => c | none => .skip
noncomputable def Qbm   : Nat → (List Qa0) → Int → Int → Option (Int × (List Qa0))
 | 0, _, _, _ => none
 | n + 1, a3, v4, v5 =>
 if (decide (v5 < (a3.length : Int))) = true then
  Option.bind (rd a3 v5) fun x7 =>
  Option.bind (Qdi x7.Stack (w64 ((w64 ((w64 ((w64 ((w64 (v4 + 1)) + 1)) + 1)) + 1)) + 1))) fun r8 =>
  Option.bind (Qdo x7.Stack r8.2) fun q9 =>
  Qbm n ((a3.set (Int.toNat v5) (Qa0.mk v4 (w64 (v4 + 1)) (w64 ((w64 (v4 + 1)) + 1)) (w64 ((w64 ((w64 (v4 + 1)) + 1)) + 1)) (w64 ((w64 ((w64 ((w64 (v4 + 1)) + 1)) + 1)) + 1)) x7.Stack)).set (Int.toNat v5) (Qa0.mk v4 (w64 (v4 + 1)) (w64 ((w64 (v4 + 1)) + 1)) (w64 ((w64 ((w64 (v4 + 1)) + 1)) + 1)) (w64 ((w64 ((w64 ((w64 (v4 + 1)) + 1)) + 1)) + 1)) r8.2)) r8.1 (w64 (v5 + 1))
 else
  some (v4, a3)
theorem Qmz {E : Env} (hP : E.P = Tryz.prog) (hn : E.n = 55) (hx : ∀ p, p ∈ E.fx → p.1 ∈ ([0] : List Nat))   : ∀ (n : Nat) (a3 : (List Qa0)) (v4 : Int) (v5 : Int) (r : (Int × (List Qa0))), Qbm  n a3 v4 v5 = some r → WAt E Xgp (FQ (Qf0 Θ Tryz.f81.results.toList [true] [⟨179, 6, (r.2.map Qab)⟩] (I r.1) E)) [true, false, true, false] ⟨[(0, (AV.sl 0 0 (List.length (a3.map Qab)))), (1, (I v4)), (5, (I v5))], [(0, some ⟨179, 6, (a3.map Qab)⟩)], [0, JJ]⟩ := by
 intro n
 induction n with
 | zero => intro a3 v4 v5 r h; simp only [Qbm] at h; cases h
 | succ n ih =>
  intro a3 v4 v5 r h
  simp only [Qbm] at h
  let Z0 := (I (a3.length : Int)); let Z3 := I v4; let Z8 := w64 (v4 + 1); let Z11 := w64 (Z8 + 1); let Z14 := w64 (Z11 + 1); let Z17 := w64 (Z14 + 1); let Z27 := a3.map Qab; let Z28 := ((Z27.length : Nat) : Int); let Z29 := (decide (v5 < (a3.length : Int)))
  rcases itS h with ⟨c6, h⟩ | ⟨c10, h⟩
  ·obtain ⟨x7, hx7, h⟩ := bnS h
   obtain ⟨r8, hr8, h⟩ := bnS h
   obtain ⟨q9, hq9, h⟩ := bnS h
   exact (let Z1 := Qab x7; let Z2 := (a3.set v5.toNat (Qa0.mk v4 x7.Pc x7.State x7.Cond x7.Lock x7.Stack)).map Qab; let Z4 := I x7.Lock; let Z5 := x7.Stack.map Qae; let Z6 := AV.own 142 1 Z5; let Z7 := [Z3, (I x7.Pc), (I x7.State), (I x7.Cond), Z4, Z6]; let Z9 := (a3.set v5.toNat (Qa0.mk v4 Z8 x7.State x7.Cond x7.Lock x7.Stack)).map Qab; let Z10 := [Z3, (I Z8), (I x7.State), (I x7.Cond), Z4, Z6]; let Z12 := (a3.set v5.toNat (Qa0.mk v4 Z8 Z11 x7.Cond x7.Lock x7.Stack)).map Qab; let Z13 := [Z3, (I Z8), (I Z11), (I x7.Cond), Z4, Z6]; let Z15 := (a3.set v5.toNat (Qa0.mk v4 Z8 Z11 Z14 x7.Lock x7.Stack)).map Qab; let Z16 := [Z3, (I Z8), (I Z11), (I Z14), Z4, Z6]; let Z18 := a3.set v5.toNat (Qa0.mk v4 Z8 Z11 Z14 Z17 x7.Stack); let Z19 := Z18.map Qab; let Z20 := [Z3, (I Z8), (I Z11), (I Z14), (I Z17), Z6]; let Z21 := AV.sl 1001 0 Z5.length; let Z22 := [Z3, (I Z8), (I Z11), (I Z14), (I Z17), Z21]; let Z23 := Z19.set v5.toNat Z22; let Z24 := r8.2.map Qae; let Z25 := Z18.set v5.toNat (Qa0.mk v4 Z8 Z11 Z14 Z17 r8.2); let Z26 := Z25.map Qab; let Z30 := rtf (Qi0 [(0, 1001)] (I r8.1)) []; let Z31 := Qa0.mk v4 x7.Pc x7.State x7.Cond x7.Lock x7.Stack; let Z32 := Qa0.mk v4 (w64 (v4 + 1)) x7.State x7.Cond x7.Lock x7.Stack; let Z33 := Qa0.mk v4 (w64 (v4 + 1)) (w64 ((w64 (v4 + 1)) + 1)) x7.Cond x7.Lock x7.Stack; let Z34 := Qa0.mk v4 (w64 (v4 + 1)) (w64 ((w64 (v4 + 1)) + 1)) (w64 ((w64 ((w64 (v4 + 1)) + 1)) + 1)) x7.Lock x7.Stack; let Z35 := Qa0.mk v4 (w64 (v4 + 1)) (w64 ((w64 (v4 + 1)) + 1)) (w64 ((w64 ((w64 (v4 + 1)) + 1)) + 1)) (w64 ((w64 ((w64 ((w64 (v4 + 1)) + 1)) + 1)) + 1)) x7.Stack; gT hP hn hx [hO 2 Z0, hT 4, hh 10 (.sto Z1 Z2), hh 14 (.slen 0 Z2.length), hh 19 (.sto Z7 Z9), hh 23 (.slen 0 Z9.length), hh 28 (.sto Z10 Z12), hh 32 (.slen 0 Z12.length), hh 37 (.sto Z13 Z15), hh 41 (.slen 0 Z15.length), hh 46 (.sto Z16 Z19), hh 50 (.slen 0 Z19.length), hh 54 (.unpack 0 1001 v5.toNat 5 Z20 142 1 Z5 Z23), hh 54 (.row Z22), hh 56 (.callX [1001] [true] [⟨142, 1, Z5⟩] [⟨142, 1, Z24⟩] [] (I r8.1) [] (I r8.1) []), hh 61 (.pack 0 1001 v5.toNat 5 Z22 Z26), hh 61 (.slen 0 Z26.length)] [(0, 0)] [0, 1, 5] [] [AV.lit (.int .i64 Z28) = Z0, Z29 = true, (0 : Int) ≤ v5, v5 < Z28, Z27[v5.toNat]? = some Z1, Z27.set v5.toNat (wr Z1 0 [Z3]) = Z2, [Z3].length = 1, 0 + [Z3].length ≤ Z1.length, Z27.length = Z2.length, (0 : Int) ≤ v5, v5 < ((Z2.length : Nat) : Int), Z2[v5.toNat]? = some Z7, Z2.set v5.toNat (wr Z7 1 [(I Z8)]) = Z9, [(I Z8)].length = 1, 1 + [(I Z8)].length ≤ Z7.length, Z2.length = Z9.length, (0 : Int) ≤ v5, v5 < ((Z9.length : Nat) : Int), Z9[v5.toNat]? = some Z10, Z9.set v5.toNat (wr Z10 2 [(I Z11)]) = Z12, [(I Z11)].length = 1, 2 + [(I Z11)].length ≤ Z10.length, Z9.length = Z12.length, (0 : Int) ≤ v5, v5 < ((Z12.length : Nat) : Int), Z12[v5.toNat]? = some Z13, Z12.set v5.toNat (wr Z13 3 [(I Z14)]) = Z15, [(I Z14)].length = 1, 3 + [(I Z14)].length ≤ Z13.length, Z12.length = Z15.length, (0 : Int) ≤ v5, v5 < ((Z15.length : Nat) : Int), Z15[v5.toNat]? = some Z16, Z15.set v5.toNat (wr Z16 4 [(I Z17)]) = Z19, [(I Z17)].length = 1, 4 + [(I Z17)].length ≤ Z16.length, Z15.length = Z19.length, (0 : Int) ≤ v5, v5 < ((Z19.length : Nat) : Int), Z19[v5.toNat]? = some Z20, Z20[5]? = some Z6, 0 < 1, Z19.set v5.toNat (Z20.set 5 Z21) = Z23, Z23[v5.toNat]? = some Z22, Qcp Tryz.prog 82 [⟨142, 1, Z5⟩] [(AV.sl 0 0 Z5.length), (I (w64 (Z17 + 1)))] [true] [⟨142, 1, Z24⟩] (I r8.1), (some (Qam.mk 142 1 Z5) = some (Qam.mk 142 1 Z5)) ∧ True, (Qa1 Z5 = true ∧ Qa4 Z5 = true) ∧ True, (Z24.length = Z5.length) ∧ True, Z30.1 = (I r8.1), Z30.2.1 = [], Z23[v5.toNat]? = some Z22, Z22[5]? = some (AV.sl 1001 0 Z24.length), Qa1 Z24 = true, Z23.set v5.toNat (Z22.set 5 (AV.own 142 1 Z24)) = Z26, Z19.length = Z26.length, Qaa [(0, 0)] Z26] ⟨(Qd9 Qab), c6, (rd0 hx7), (rdL Qab hx7), (rdM Qab hx7), (Qog Qab), rfl, leB, lnq, (rd0 hx7), (rdL Qab (rdS (y := Z31) hx7)), (rdM Qab (rdS (y := Z31) hx7)), (Qg8 Qab), rfl, leB, lnq, (rd0 hx7), (rdL Qab (rdS (y := Z32) hx7)), (rdM Qab (rdS (y := Z32) hx7)), (Qg8 Qab), rfl, leB, lnq, (rd0 hx7), (rdL Qab (rdS (y := Z33) hx7)), (rdM Qab (rdS (y := Z33) hx7)), (Qg8 Qab), rfl, leB, lnq, (rd0 hx7), (rdL Qab (rdS (y := Z34) hx7)), (rdM Qab (rdS (y := Z34) hx7)), (Qg8 Qab), rfl, leB, lnq, (rd0 hx7), (rdL Qab (rdS (y := Z35) hx7)), (rdM Qab (rdS (y := Z35) hx7)), rfl, (by decide), rfl, (Qd7 (rdM Qab (rdS (y := Z35) hx7))), (Qj9 hr8), ⟨rfl, trivial⟩, ⟨⟨Qa9 Qbp, Qa7 Qey⟩, trivial⟩, ⟨(Qbg Qae hq9), trivial⟩, rfl, rfl, (Qd7 (rdM Qab (rdS (y := Z35) hx7))), (pkS (Qbg Qae hq9).symm), (Qa9 Qbp), (Qgl Qab (y := (Qa0.mk v4 (w64 (v4 + 1)) (w64 ((w64 (v4 + 1)) + 1)) (w64 ((w64 ((w64 (v4 + 1)) + 1)) + 1)) (w64 ((w64 ((w64 ((w64 (v4 + 1)) + 1)) + 1)) + 1)) r8.2)) rfl), lnq, (rok (Qa9 Qcq)), trivial⟩ (ih Z25 r8.1 (w64 (v5 + 1)) _ h))
  ·obtain rfl := sj h
   exact gR hP hn [hO 2 Z0, hF 4] [] .raw [AV.lit (.int .i64 Z28) = Z0, Z29 = false, Z27 = Z27, Qa1 Z27 = true, Qa4 Z27 = true, Z3 = Z3, Qa5 Z3 = true] ⟨(Qd9 Qab), c10, rfl, (Qa9 Qcq), (Qa7 Qgw), rfl, rfl, trivial⟩
noncomputable def Qfc (p1 : (List Qa0)) (p2 : Int) : Option (Int × (List Qa0)) :=
 Qbm FU p1 p2 0
theorem Qpi {p1 : (List Qa0)} {p2 : Int} {r : (Int × (List Qa0))} (h : Qfc p1 p2 = some r) : Qcp Tryz.prog 81 [⟨179, 6, (p1.map Qab)⟩] [(AV.sl 0 0 (List.length (p1.map Qab))), (I p2)] [true] [⟨179, 6, (r.2.map Qab)⟩] (I r.1) := by
 refine Qew Qui Tryz.func81 rfl (c := Xgp) (by kernel_rfl) (Nat.le_of_ble_eq_true rfl) rfl (Nat.le_of_ble_eq_true rfl) rfl (fr := [0]) (frI rfl) ?_
 intro E hP hn hx
 replace hn : E.n = 55 := hn
 unfold Qfc at h
 exact gT hP hn hx [] [(0, 0)] [0, 1, 5] [] [Qaa [(0, 0)] (p1.map Qab)] ⟨(rok (Qa9 Qcq)), trivial⟩ (Qmz hP hn hx FU p1 p2 0 _ h)
noncomputable def Xkb : Code := match Tryz.f25.body with | some c => c | none => .skip
noncomputable def Qgq (p1 : (List Qa0)) (p2 : (List Nat)) (p3 : (List Int)) (p4 : Int) (p5 : Int) : Option (Int × (List Qa0) × (List Nat) × (List Int)) :=
 Option.bind (Qfc p1 p5) fun r6 =>
 Option.bind (Qdo p1 r6.2) fun q7 =>
 Option.bind (Qdi p2 r6.1) fun r8 =>
 Option.bind (Qdo p2 r8.2) fun q9 =>
 Option.bind (Qf7 p3 r8.1) fun r10 =>
 Option.bind (Qdo p3 r10.2) fun q11 =>
 some (r10.1, r6.2, r8.2, r10.2)
theorem Qrc {p1 : (List Qa0)} {p2 : (List Nat)} {p3 : (List Int)} {p4 : Int} {p5 : Int} {r : (Int × (List Qa0) × (List Nat) × (List Int))} (h : Qgq p1 p2 p3 p4 p5 = some r) : Qcp Tryz.prog 25 [⟨179, 6, (p1.map Qab)⟩, ⟨142, 1, (p2.map Qae)⟩, ⟨3, 1, (p3.map o3)⟩] [(AV.agg [(AV.sl 0 0 (List.length (p1.map Qab))), (AV.sl 1 0 (List.length (p2.map Qae))), (AV.sl 2 0 (List.length (p3.map o3))), (I p4)]), (I p5)] [true, true, true] [⟨179, 6, (r.2.1.map Qab)⟩, ⟨142, 1, (r.2.2.1.map Qae)⟩, ⟨3, 1, (r.2.2.2.map o3)⟩] (I r.1) := by
 refine Qew Qui Tryz.func25 rfl (c := Xkb) (by kernel_rfl) (Nat.le_of_ble_eq_true rfl) rfl (Nat.le_of_ble_eq_true rfl) rfl (fr := [0, 1, 2]) (frI rfl) ?_
 intro E hP hn hx
 replace hn : E.n = 18 := hn
 unfold Qgq at h
 obtain ⟨r6, hr6, h⟩ := bnS h
 obtain ⟨q7, hq7, h⟩ := bnS h
 obtain ⟨r8, hr8, h⟩ := bnS h
 obtain ⟨q9, hq9, h⟩ := bnS h
 obtain ⟨r10, hr10, h⟩ := bnS h
 obtain ⟨q11, hq11, h⟩ := bnS h
 obtain rfl := sj h
 exact (let Z0 := p1.map Qab; let Z1 := r6.2.map Qab; let Z2 := I r6.1; let Z3 := p2.map Qae; let Z4 := r8.2.map Qae; let Z5 := I r8.1; let Z6 := p3.map o3; let Z7 := r10.2.map o3; let Z8 := I r10.1; let Z9 := rtf (Qi0 [(0, 0)] Z2) []; let Z10 := rtf (Qi0 [(0, 1)] Z5) []; let Z11 := rtf (Qi0 [(0, 2)] Z8) []; gR hP hn [hW 0 1001, hh 5 (.callX [0] [true] [⟨179, 6, Z0⟩] [⟨179, 6, Z1⟩] [] Z2 [] Z2 []), hh 10 (.callX [1] [true] [⟨142, 1, Z3⟩] [⟨142, 1, Z4⟩] [] Z5 [] Z5 []), hh 15 (.callX [2] [true] [⟨3, 1, Z6⟩] [⟨3, 1, Z7⟩] [] Z8 [] Z8 [])] [] .raw [Qcp Tryz.prog 81 [⟨179, 6, Z0⟩] [(AV.sl 0 0 Z0.length), (I p5)] [true] [⟨179, 6, Z1⟩] Z2, (some (Qam.mk 179 6 Z0) = some (Qam.mk 179 6 Z0)) ∧ True, (Qa1 Z0 = true ∧ Qa4 Z0 = true) ∧ True, (Z1.length = Z0.length) ∧ True, Z9.1 = Z2, Z9.2.1 = [], Qcp Tryz.prog 82 [⟨142, 1, Z3⟩] [(AV.sl 0 0 Z3.length), Z2] [true] [⟨142, 1, Z4⟩] Z5, (some (Qam.mk 142 1 Z3) = some (Qam.mk 142 1 Z3)) ∧ True, (Qa1 Z3 = true ∧ Qa4 Z3 = true) ∧ True, (Z4.length = Z3.length) ∧ True, Z10.1 = Z5, Z10.2.1 = [], Qcp Tryz.prog 32 [⟨3, 1, Z6⟩] [(AV.sl 0 0 Z6.length), Z5] [true] [⟨3, 1, Z7⟩] Z8, (some (Qam.mk 3 1 Z6) = some (Qam.mk 3 1 Z6)) ∧ True, (Qa1 Z6 = true ∧ Qa4 Z6 = true) ∧ True, (Z7.length = Z6.length) ∧ True, Z11.1 = Z8, Z11.2.1 = [], Z1 = Z1, Qa1 Z1 = true, Qa4 Z1 = true, Z4 = Z4, Qa1 Z4 = true, Qa4 Z4 = true, Z7 = Z7, Qa1 Z7 = true, Qa4 Z7 = true, Z8 = Z8, Qa5 Z8 = true] ⟨(Qpi hr6), ⟨rfl, trivial⟩, ⟨⟨Qa9 Qcq, Qa7 Qgw⟩, trivial⟩, ⟨(Qbg Qab hq7), trivial⟩, rfl, rfl, (Qj9 hr8), ⟨rfl, trivial⟩, ⟨⟨Qa9 Qbp, Qa7 Qey⟩, trivial⟩, ⟨(Qbg Qae hq9), trivial⟩, rfl, rfl, (Qju hr10), ⟨rfl, trivial⟩, ⟨⟨Qa9 t3, Qa7 n3⟩, trivial⟩, ⟨(Qbg o3 hq11), trivial⟩, rfl, rfl, rfl, (Qa9 Qcq), (Qa7 Qgw), rfl, (Qa9 Qbp), (Qa7 Qey), rfl, (Qa9 t3), (Qa7 n3), rfl, rfl, trivial⟩)
noncomputable def Xlh : Code := match Tryz.f33.body with | some c => c | none => .skip
noncomputable def Qii (p1 : Int) (p2 : (List Qad)) (p3 : (List Int)) (p4 : (List Qa0)) (p5 : (List Nat)) (p6 : (List Int)) (p7 : Int) (p8 : Int) : Option (Int × (List Qad) × (List Int) × (List Qa0) × (List Nat) × (List Int)) :=
 Option.bind (Qg1 p2 p8) fun r9 =>
 Option.bind (Qdo p2 r9.2) fun q10 =>
 Option.bind (Qf7 p3 r9.1) fun r11 =>
 Option.bind (Qdo p3 r11.2) fun q12 =>
 Option.bind (Qgq p4 p5 p6 p7 r11.1) fun r13 =>
 Option.bind (Qdo p4 r13.2.1) fun q14 =>
 Option.bind (Qdo p5 r13.2.2.1) fun q15 =>
 Option.bind (Qdo p6 r13.2.2.2) fun q16 =>
 some (r13.1, r9.2, r11.2, r13.2.1, r13.2.2.1, r13.2.2.2)
theorem Qtw {p1 : Int} {p2 : (List Qad)} {p3 : (List Int)} {p4 : (List Qa0)} {p5 : (List Nat)} {p6 : (List Int)} {p7 : Int} {p8 : Int} {r : (Int × (List Qad) × (List Int) × (List Qa0) × (List Nat) × (List Int))} (h : Qii p1 p2 p3 p4 p5 p6 p7 p8 = some r) : Qcp Tryz.prog 33 [⟨59, 5, (p2.map o59)⟩, ⟨3, 1, (p3.map o3)⟩, ⟨179, 6, (p4.map Qab)⟩, ⟨142, 1, (p5.map Qae)⟩, ⟨3, 1, (p6.map o3)⟩] [(AV.agg [(I p1), (AV.sl 0 0 (List.length (p2.map o59))), (AV.sl 1 0 (List.length (p3.map o3))), (AV.sl 2 0 (List.length (p4.map Qab))), (AV.sl 3 0 (List.length (p5.map Qae))), (AV.sl 4 0 (List.length (p6.map o3))), (I p7)]), (I p8)] [true, true, true, true, true] [⟨59, 5, (r.2.1.map o59)⟩, ⟨3, 1, (r.2.2.1.map o3)⟩, ⟨179, 6, (r.2.2.2.1.map Qab)⟩, ⟨142, 1, (r.2.2.2.2.1.map Qae)⟩, ⟨3, 1, (r.2.2.2.2.2.map o3)⟩] (I r.1) := by
 refine Qew Qui Tryz.func33 rfl (c := Xlh) (by kernel_rfl) (Nat.le_of_ble_eq_true rfl) rfl (Nat.le_of_ble_eq_true rfl) rfl (fr := [0, 1, 2, 3, 4]) (frI rfl) ?_
 intro E hP hn hx
 replace hn : E.n = 18 := hn
 unfold Qii at h
 obtain ⟨r9, hr9, h⟩ := bnS h
 obtain ⟨q10, hq10, h⟩ := bnS h
 obtain ⟨r11, hr11, h⟩ := bnS h
 obtain ⟨q12, hq12, h⟩ := bnS h
 obtain ⟨r13, hr13, h⟩ := bnS h
 obtain ⟨q14, hq14, h⟩ := bnS h
 obtain ⟨q15, hq15, h⟩ := bnS h
 obtain ⟨q16, hq16, h⟩ := bnS h
 obtain rfl := sj h
 exact (let Z0 := p2.map o59; let Z1 := r9.2.map o59; let Z2 := I r9.1; let Z3 := p3.map o3; let Z4 := r11.2.map o3; let Z5 := I r11.1; let Z6 := p4.map Qab; let Z7 := p5.map Qae; let Z8 := p6.map o3; let Z9 := r13.2.1.map Qab; let Z10 := r13.2.2.1.map Qae; let Z11 := r13.2.2.2.map o3; let Z12 := I r13.1; let Z13 := rtf (Qi0 [(0, 0)] Z2) []; let Z14 := rtf (Qi0 [(0, 1)] Z5) []; let Z15 := rtf (Qi0 [(0, 2), (1, 3), (2, 4)] Z12) []; gR hP hn [hW 0 1001, hh 5 (.callX [0] [true] [⟨59, 5, Z0⟩] [⟨59, 5, Z1⟩] [] Z2 [] Z2 []), hh 10 (.callX [1] [true] [⟨3, 1, Z3⟩] [⟨3, 1, Z4⟩] [] Z5 [] Z5 []), hh 15 (.callX [2, 3, 4] [true, true, true] [⟨179, 6, Z6⟩, ⟨142, 1, Z7⟩, ⟨3, 1, Z8⟩] [⟨179, 6, Z9⟩, ⟨142, 1, Z10⟩, ⟨3, 1, Z11⟩] [[]] Z12 [] Z12 [])] [] .raw [Qcp Tryz.prog 91 [⟨59, 5, Z0⟩] [(AV.sl 0 0 Z0.length), (I p8)] [true] [⟨59, 5, Z1⟩] Z2, (some (Qam.mk 59 5 Z0) = some (Qam.mk 59 5 Z0)) ∧ True, (Qa1 Z0 = true ∧ Qa4 Z0 = true) ∧ True, (Z1.length = Z0.length) ∧ True, Z13.1 = Z2, Z13.2.1 = [], Qcp Tryz.prog 32 [⟨3, 1, Z3⟩] [(AV.sl 0 0 Z3.length), Z2] [true] [⟨3, 1, Z4⟩] Z5, (some (Qam.mk 3 1 Z3) = some (Qam.mk 3 1 Z3)) ∧ True, (Qa1 Z3 = true ∧ Qa4 Z3 = true) ∧ True, (Z4.length = Z3.length) ∧ True, Z14.1 = Z5, Z14.2.1 = [], Qcp Tryz.prog 25 [⟨179, 6, Z6⟩, ⟨142, 1, Z7⟩, ⟨3, 1, Z8⟩] [(AV.agg [(AV.sl 0 0 Z6.length), (AV.sl 1 0 Z7.length), (AV.sl 2 0 Z8.length), (I p7)]), Z5] [true, true, true] [⟨179, 6, Z9⟩, ⟨142, 1, Z10⟩, ⟨3, 1, Z11⟩] Z12, (some (Qam.mk 179 6 Z6) = some (Qam.mk 179 6 Z6)) ∧ (some (Qam.mk 142 1 Z7) = some (Qam.mk 142 1 Z7)) ∧ (some (Qam.mk 3 1 Z8) = some (Qam.mk 3 1 Z8)) ∧ True, (Qa1 Z6 = true ∧ Qa4 Z6 = true) ∧ (Qa1 Z7 = true ∧ Qa4 Z7 = true) ∧ (Qa1 Z8 = true ∧ Qa4 Z8 = true) ∧ True, (Z9.length = Z6.length) ∧ (Z10.length = Z7.length) ∧ (Z11.length = Z8.length) ∧ True, Z15.1 = Z12, Z15.2.1 = [], Z1 = Z1, Qa1 Z1 = true, Qa4 Z1 = true, Z4 = Z4, Qa1 Z4 = true, Qa4 Z4 = true, Z9 = Z9, Qa1 Z9 = true, Qa4 Z9 = true, Z10 = Z10, Qa1 Z10 = true, Qa4 Z10 = true, Z11 = Z11, Qa1 Z11 = true, Qa4 Z11 = true, Z12 = Z12, Qa5 Z12 = true] ⟨(Qql hr9), ⟨rfl, trivial⟩, ⟨⟨Qa9 t59, Qa7 n59⟩, trivial⟩, ⟨(Qbg o59 hq10), trivial⟩, rfl, rfl, (Qju hr11), ⟨rfl, trivial⟩, ⟨⟨Qa9 t3, Qa7 n3⟩, trivial⟩, ⟨(Qbg o3 hq12), trivial⟩, rfl, rfl, (Qrc hr13), ⟨rfl, rfl, rfl, trivial⟩, ⟨⟨Qa9 Qcq, Qa7 Qgw⟩, ⟨Qa9 Qbp, Qa7 Qey⟩, ⟨Qa9 t3, Qa7 n3⟩, trivial⟩, ⟨(Qbg Qab hq14), (Qbg Qae hq15), (Qbg o3 hq16), trivial⟩, rfl, rfl, rfl, (Qa9 t59), (Qa7 n59), rfl, (Qa9 t3), (Qa7 n3), rfl, (Qa9 Qcq), (Qa7 Qgw), rfl, (Qa9 Qbp), (Qa7 Qey), rfl, (Qa9 t3), (Qa7 n3), rfl, rfl, trivial⟩)
noncomputable def Xi9 : Code := match Tryz.f122.body with | some c => c | none => .skip
noncomputable def Qj3 (p1 : (List GOp)) (p2 : Int) : Option Int :=
 if (decide ((w64 (p2 - (p1.length : Int))) < 0)) = true then
  some (-1)
 else
  some (w64 (p2 - (p1.length : Int)))
theorem Qwq {p1 : (List GOp)} {p2 : Int} {r : Int} (h : Qj3 p1 p2 = some r) : Qa6 Tryz.prog 122 [(AV.ro 4 (p1.map Qtr)), (I p2)] (I r) := by
 refine gM Tryz.func122 12 Xi9 fun E hP hn hx => ?_
 unfold Qj3 at h
 let Z0 := (I (p1.length : Int)); let Z1 := (((p1.map Qtr).length : Nat) : Int); let Z2 := (w64 (p2 - (p1.length : Int)))
 rcases itS h with ⟨c3, h⟩ | ⟨c4, h⟩
 ·obtain rfl := sj h
  exact gR hP hn [hO 3 Z0, hT 8] [] .raw [AV.lit (.int .i64 Z1) = Z0, (decide (Z2 < 0)) = true, (I (-1)) = (I (-1)), Qa5 (I (-1)) = true] ⟨(Qd9 Qtr), c3, rfl, rfl, trivial⟩
 ·obtain rfl := sj h
  exact gR hP hn [hO 3 Z0, hF 8] [] .raw [AV.lit (.int .i64 Z1) = Z0, (decide (Z2 < 0)) = false, (I Z2) = (I Z2), Qa5 (I Z2) = true] ⟨(Qd9 Qtr), c4, rfl, rfl, trivial⟩
noncomputable def Xg5 : Code := match Tryz.f59.body with | some c => c | none => .skip
noncomputable def Qeh  (p1 : (List (List GOp))) : Nat → Int → Int → Option Int
 | 0, _, _ => none
 | n + 1, v5, v6 =>
 if (decide (v6 < (p1.length : Int))) = true then
  Option.bind (rd p1 v6) fun x8 =>
  Option.bind (Qj3 x8 v5) fun r9 =>
  if (decide (r9 < 0)) = true then
   some (-1)
  else
   Qeh p1 n r9 (w64 (v6 + 1))
 else
  some v5
theorem Qri {E : Env} (hP : E.P = Tryz.prog) (hn : E.n = 27) (hx : FX E []) (p1 : (List (List GOp)))  : ∀ (n : Nat) (v5 : Int) (v6 : Int) (r : Int), Qeh p1 n v5 v6 = some r → WAt E Xg5 (FQ (Qf0 Θ Tryz.f59.results.toList [] [] (I r) E)) [true, true, true, false, true, false] ⟨[(0, (AV.ro 1 (p1.map Qqd))), (1, (I v5)), (5, (I v6))], [], [JJ]⟩ := by
 intro n
 induction n with
 | zero => intro v5 v6 r h; simp only [Qeh] at h; cases h
 | succ n ih =>
  intro v5 v6 r h
  simp only [Qeh] at h
  let Z0 := (I (p1.length : Int)); let Z1 := (decide (v6 < (p1.length : Int)))
  let P1 : List Prop := [AV.lit (.int .i64 (((p1.map Qqd).length : Nat) : Int)) = Z0]
  have AP1 : Qak P1 := ⟨(Qd9 Qqd), trivial⟩
  rcases itS h with ⟨c7, h⟩ | ⟨c12, h⟩
  ·obtain ⟨x8, hx8, h⟩ := bnS h
   obtain ⟨r9, hr9, h⟩ := bnS h
   let H2 : List Hn := [hO 2 Z0, hT 4, hh 7 (.row (Qqd x8)), hh 10 (.callV [] (I r9))]
   let P3 : List Prop := P1 ++ [Z1 = true, (0 : Int) ≤ v6, (p1.map Qqd)[v6.toNat]? = some (Qqd x8), Qa6 Tryz.prog 122 [(AV.ro 4 (x8.map Qtr)), (I v5)] (I r9), Qa5 (I r9) = true]
   have AP3 : Qak P3 := Qa8 AP1 ⟨c7, (rd0 hx8), (rdM Qqd hx8), (Qwq hr9), rfl, trivial⟩
   rcases itS h with ⟨c10, h⟩ | ⟨c11, h⟩
   ·obtain rfl := sj h
    exact gR hP hn (H2 ++ [hT 14]) [] .raw (P3 ++ [(decide (r9 < 0)) = true, (I (-1)) = (I (-1)), Qa5 (I (-1)) = true]) (Qa8 AP3 ⟨c10, rfl, rfl, trivial⟩)
   ·exact gT hP hn hx (H2 ++ [hF 14]) [] [0, 1, 5] [] (P3 ++ [(decide (r9 < 0)) = false]) (Qa8 AP3 ⟨c11, trivial⟩) (ih r9 (w64 (v6 + 1)) _ h)
  ·obtain rfl := sj h
   exact gR hP hn [hO 2 Z0, hF 4] [] .raw (P1 ++ [Z1 = false, (I v5) = (I v5), Qa5 (I v5) = true]) (Qa8 AP1 ⟨c12, rfl, rfl, trivial⟩)
noncomputable def Qjm (p1 : (List (List GOp))) (p2 : Int) : Option Int :=
 if (decide ((w64 (p2 - (p1.length : Int))) < 0)) = true then
  some (-1)
 else
  Qeh p1 FU (w64 (p2 - (p1.length : Int))) 0
theorem Qwi {p1 : (List (List GOp))} {p2 : Int} {r : Int} (h : Qjm p1 p2 = some r) : Qa6 Tryz.prog 59 [(AV.ro 1 (p1.map Qqd)), (I p2)] (I r) := by
 refine gM Tryz.func59 27 Xg5 fun E hP hn hx => ?_
 unfold Qjm at h
 let Z0 := (p1.length : Int); let Z1 := (((p1.map Qqd).length : Nat) : Int); let Z2 := decide ((w64 (p2 - Z0)) < 0)
 rcases itS h with ⟨c3, h⟩ | ⟨c4, h⟩
 ·obtain rfl := sj h
  exact gR hP hn [hO 3 (I Z0), hT 8] [] .raw [AV.lit (.int .i64 Z1) = (I Z0), Z2 = true, (I (-1)) = (I (-1)), Qa5 (I (-1)) = true] ⟨(Qd9 Qqd), c3, rfl, rfl, trivial⟩
 ·exact gT hP hn hx [hO 3 (I Z0), hF 8] [] [0, 1, 5] [] [AV.lit (.int .i64 Z1) = (I Z0), Z2 = false] ⟨(Qd9 Qqd), c4, trivial⟩ (Qri hP hn hx p1 FU (w64 (p2 - Z0)) 0 _ h)
noncomputable def Xlf : Code := match Tryz.f13.body with | some c => c | none => .skip
noncomputable def Qjk (p1 : Qaf) (p2 : Int) : Option Int :=
 Option.bind (Qjm p1.Routines p2) fun r3 =>
 if (decide (r3 < 0)) = true then
  some (-1)
 else
  some r3
theorem Qvv {p1 : Qaf} {p2 : Int} {r : Int} (h : Qjk p1 p2 = some r) : Qa6 Tryz.prog 13 [(AV.agg ((r24 p1))), (I p2)] (I r) := by
 refine gM Tryz.func13 12 Xlf fun E hP hn hx => ?_
 unfold Qjk at h
 obtain ⟨r3, hr3, h⟩ := bnS h
 let P1 : List Prop := [Qa6 Tryz.prog 59 [(AV.ro 1 (p1.Routines.map Qqd)), (I p2)] (I r3), Qa5 (I r3) = true]
 have AP1 : Qak P1 := ⟨(Qwi hr3), rfl, trivial⟩
 rcases itS h with ⟨c4, h⟩ | ⟨c5, h⟩
 ·obtain rfl := sj h
  exact gR hP hn [hW 0 1001, hh 5 (.callV [] (I r3)), hT 9] [] .raw (P1 ++ [(decide (r3 < 0)) = true, (I (-1)) = (I (-1)), Qa5 (I (-1)) = true]) (Qa8 AP1 ⟨c4, rfl, rfl, trivial⟩)
 ·obtain rfl := sj h
  exact gR hP hn [hW 0 1001, hh 5 (.callV [] (I r3)), hF 9] [] .raw (P1 ++ [(decide (r3 < 0)) = false, (I r3) = (I r3), Qa5 (I r3) = true]) (Qa8 AP1 ⟨c5, rfl, rfl, trivial⟩)
noncomputable def Xgq : Code := match Tryz.f28.body with | some c => c | none => .skip
noncomputable def Qfj  (p1 : (List Int)) : Nat → (List Int) → Int → Option (List Int)
 | 0, _, _ => none
 | n + 1, a3, v4 =>
 if (decide (v4 < (p1.length : Int))) = true then
  Option.bind (rd p1 v4) fun x6 =>
  Option.bind (rd a3 v4) fun x7 =>
  Qfj p1 n (a3.set (Int.toNat v4) x6) (w64 (v4 + 1))
 else
  some a3
theorem Qrq {E : Env} (hP : E.P = Tryz.prog) (hn : E.n = 22) (hx : FX E []) (p1 : (List Int))  : ∀ (n : Nat) (a3 : (List Int)) (v4 : Int) (r : (List Int)), Qfj p1 n a3 v4 = some r → WAt E Xgq (FQ (Qf0 Θ Tryz.f28.results.toList [] [] (AV.own 3 1 (r.map o3)) E)) [true, true, false, true, false] ⟨[(0, (AV.ro 1 (p1.map o3))), (3, (AV.sl 1 0 (List.length (a3.map o3)))), (4, (I v4))], [(1, some ⟨3, 1, (a3.map o3)⟩)], [1, JJ]⟩ := by
 intro n
 induction n with
 | zero => intro a3 v4 r h; simp only [Qfj] at h; cases h
 | succ n ih =>
  intro a3 v4 r h
  simp only [Qfj] at h
  let Z0 := (I (p1.length : Int)); let Z2 := (((p1.map o3).length : Nat) : Int); let Z3 := (decide (v4 < (p1.length : Int))); let Z4 := a3.map o3
  rcases itS h with ⟨c5, h⟩ | ⟨c8, h⟩
  ·obtain ⟨x6, hx6, h⟩ := bnS h
   obtain ⟨x7, hx7, h⟩ := bnS h
   exact (let Z1 := (a3.set v4.toNat x6).map o3; gT hP hn hx [hO 2 Z0, hT 4, hh 9 (.row (o3 x6)), hh 12 (.sto [(I x7)] Z1), hh 16 (.slen 3 Z1.length)] [(1, 1)] [0, 3, 4] [] [AV.lit (.int .i64 Z2) = Z0, Z3 = true, (0 : Int) ≤ v4, (p1.map o3)[v4.toNat]? = some (o3 x6), (0 : Int) ≤ v4, v4 < ((Z4.length : Nat) : Int), Z4[v4.toNat]? = some [(I x7)], Z4.set v4.toNat (wr [(I x7)] 0 [(I x6)]) = Z1, [(I x6)].length = 1, 0 + [(I x6)].length ≤ [(I x7)].length, Z4.length = Z1.length, Qaa [(1, 1)] Z1] ⟨(Qd9 o3), c5, (rd0 hx6), (rdM o3 hx6), (rd0 hx7), (rdL o3 hx7), (rdM o3 hx7), (Qwk o3), rfl, leB, lnq, (rok (Qa9 t3)), trivial⟩ (ih (a3.set v4.toNat x6) (w64 (v4 + 1)) _ h))
  ·obtain rfl := sj h
   exact gR hP hn [hO 2 Z0, hF 4] [] .own [AV.lit (.int .i64 Z2) = Z0, Z3 = false, Qa1 (Z4.take Z4.length) = true, Z4.take Z4.length = Z4, Qa4 Z4 = true] ⟨(Qd9 o3), c8, (Qb4 t3), Qb3, (Qa7 n3), trivial⟩
noncomputable def Qg0 (p1 : (List Int)) : Option (List Int) :=
 Option.bind (mk 0 (p1.length : Int)) fun l2 =>
 Qfj p1 FU l2 0
theorem Qis {p1 : (List Int)} {r : (List Int)} (h : Qg0 p1 = some r) : Qa6 Tryz.prog 28 [(AV.ro 1 (p1.map o3))] (AV.own 3 1 (r.map o3)) := by
 refine gM Tryz.func28 22 Xgq fun E hP hn hx => ?_
 unfold Qg0 at h
 obtain ⟨l2, hl2, h⟩ := bnS h
 exact (let Z0 := (p1.length : Int); let Z1 := l2.map o3; let Z2 := AV.sl 1001 0 Z1.length; gT hP hn hx [hO 2 (I Z0), ⟨3, .nw 1001 Z1, some Z2⟩] [(1001, 1)] [0, 3, 4] [] [AV.lit (.int .i64 (((p1.map o3).length : Nat) : Int)) = (I Z0), List.replicate Z0.toNat [.lit (.int .i64 0)] = Z1, AV.sl 1001 0 Z0.toNat = Z2, Z0 = Z0, (0 : Int) ≤ Z0, Z0 * ((8 : Nat) : Int) ≤ 140737488355328, Z0 ≤ 140737488355328, Qaa [(1001, 1)] Z1] ⟨(Qd9 o3), (mkM o3 hl2), (mkS o3 hl2), rfl, (mk0 hl2), (mkB hl2 (by decide)), (mkC hl2), (rok (Qa9 t3)), trivial⟩ (Qrq hP hn hx p1 FU l2 0 _ h))
noncomputable def Xho : Code := match Tryz.f169.body with | some c => c | none => .skip
noncomputable def Qn5 (p1 : GOp) : Option GOp :=
 some (GOp.mk p1.Code p1.A p1.B p1.V)
theorem Qyq {p1 : GOp} {r : GOp} (h : Qn5 p1 = some r) : Qa6 Tryz.prog 169 [(AV.agg ((Qtr p1)))] (AV.agg (Qb5 r)) := by
 refine gM Tryz.func169 17 Xho fun E hP hn hx => ?_
 unfold Qn5 at h
 obtain rfl := sj h
 exact (let Z0 := AV.agg [(I p1.Code), (I p1.A), (I p1.B), (FK p1.V)]; gR hP hn [hW 0 1001, hW 1 1002, hW 2 1003] [] .raw [Z0 = Z0, Qa5 Z0 = true] ⟨rfl, rfl, trivial⟩)
noncomputable def Xd5 : Code := match Tryz.f125.body with | some c => c | none => .skip
noncomputable def Qgd  (p1 : (List GOp)) : Nat → (List GOp) → Int → Option (List GOp)
 | 0, _, _ => none
 | n + 1, a3, v4 =>
 if (decide (v4 < (p1.length : Int))) = true then
  Option.bind (rd p1 v4) fun x6 =>
  Option.bind (Qn5 x6) fun r7 =>
  Option.bind (rd a3 v4) fun x8 =>
  Qgd p1 n (a3.set (Int.toNat v4) r7) (w64 (v4 + 1))
 else
  some a3
theorem Qsg {E : Env} (hP : E.P = Tryz.prog) (hn : E.n = 23) (hx : FX E []) (p1 : (List GOp))  : ∀ (n : Nat) (a3 : (List GOp)) (v4 : Int) (r : (List GOp)), Qgd p1 n a3 v4 = some r → WAt E Xd5 (FQ (Qf0 Θ Tryz.f125.results.toList [] [] (AV.own 144 4 (r.map Qb5)) E)) [true, true, false, true, false] ⟨[(0, (AV.ro 4 (p1.map Qtr))), (3, (AV.sl 1 0 (List.length (a3.map Qb5)))), (4, (I v4))], [(1, some ⟨144, 4, (a3.map Qb5)⟩)], [1, JJ]⟩ := by
 intro n
 induction n with
 | zero => intro a3 v4 r h; simp only [Qgd] at h; cases h
 | succ n ih =>
  intro a3 v4 r h
  simp only [Qgd] at h
  let Z0 := (I (p1.length : Int)); let Z4 := (((p1.map Qtr).length : Nat) : Int); let Z5 := (decide (v4 < (p1.length : Int))); let Z6 := a3.map Qb5
  rcases itS h with ⟨c5, h⟩ | ⟨c9, h⟩
  ·obtain ⟨x6, hx6, h⟩ := bnS h
   obtain ⟨r7, hr7, h⟩ := bnS h
   obtain ⟨x8, hx8, h⟩ := bnS h
   exact (let Z1 := AV.agg (Qb5 r7); let Z2 := Qb5 x8; let Z3 := (a3.set v4.toNat r7).map Qb5; gT hP hn hx [hO 2 Z0, hT 4, hh 9 (.row (Qtr x6)), hh 11 (.callV [[]] Z1), hh 13 (.sto Z2 Z3), hh 17 (.slen 3 Z3.length)] [(1, 1)] [0, 3, 4] [] [AV.lit (.int .i64 Z4) = Z0, Z5 = true, (0 : Int) ≤ v4, (p1.map Qtr)[v4.toNat]? = some (Qtr x6), Qa6 Tryz.prog 169 [(AV.agg ((Qtr x6)))] Z1, Qa5 Z1 = true, (0 : Int) ≤ v4, v4 < ((Z6.length : Nat) : Int), Z6[v4.toNat]? = some Z2, Z6.set v4.toNat (wr Z2 0 ((Qb5 r7))) = Z3, ((Qb5 r7)).length = 4, 0 + ((Qb5 r7)).length ≤ Z2.length, Z6.length = Z3.length, Qaa [(1, 1)] Z3] ⟨(Qd9 Qtr), c5, (rd0 hx6), (rdM Qtr hx6), (Qyq hr7), rfl, (rd0 hx8), (rdL Qb5 hx8), (rdM Qb5 hx8), (Qog Qb5), rfl, leB, lnq, (rok (Qa9 Xfs)), trivial⟩ (ih (a3.set v4.toNat r7) (w64 (v4 + 1)) _ h))
  ·obtain rfl := sj h
   exact gR hP hn [hO 2 Z0, hF 4] [] .own [AV.lit (.int .i64 Z4) = Z0, Z5 = false, Qa1 (Z6.take Z6.length) = true, Z6.take Z6.length = Z6, Qa4 Z6 = true] ⟨(Qd9 Qtr), c9, (Qb4 Xfs), Qb3, (Qa7 Xko), trivial⟩
noncomputable def Qj2 (p1 : (List GOp)) : Option (List GOp) :=
 Option.bind (mk (GOp.mk 0 0 0 0) (p1.length : Int)) fun l2 =>
 Qgd p1 FU l2 0
theorem Qxx {p1 : (List GOp)} {r : (List GOp)} (h : Qj2 p1 = some r) : Qa6 Tryz.prog 125 [(AV.ro 4 (p1.map Qtr))] (AV.own 144 4 (r.map Qb5)) := by
 refine gM Tryz.func125 23 Xd5 fun E hP hn hx => ?_
 unfold Qj2 at h
 obtain ⟨l2, hl2, h⟩ := bnS h
 exact (let Z0 := (p1.length : Int); let Z1 := l2.map Qb5; let Z2 := AV.sl 1001 0 Z1.length; gT hP hn hx [hO 2 (I Z0), ⟨3, .nw 1001 Z1, some Z2⟩] [(1001, 1)] [0, 3, 4] [] [AV.lit (.int .i64 (((p1.map Qtr).length : Nat) : Int)) = (I Z0), List.replicate Z0.toNat [.lit (.int .i64 0), .lit (.int .i64 0), .lit (.int .i64 0), .lit (.float .f64 0)] = Z1, AV.sl 1001 0 Z0.toNat = Z2, Z0 = Z0, (0 : Int) ≤ Z0, Z0 * ((32 : Nat) : Int) ≤ 140737488355328, Z0 ≤ 140737488355328, Qaa [(1001, 1)] Z1] ⟨(Qd9 Qtr), (mkM Qb5 hl2), (mkS Qb5 hl2), rfl, (mk0 hl2), (mkB hl2 (by decide)), (mkC hl2), (rok (Qa9 Xfs)), trivial⟩ (Qsg hP hn hx p1 FU l2 0 _ h))
noncomputable def Xgl : Code := match Tryz.f61.body with | some c => c | none => .skip
noncomputable def Qfh  (p1 : (List (List GOp))) : Nat → (List (List GOp)) → Int → Option (List (List GOp))
 | 0, _, _ => none
 | n + 1, a3, v4 =>
 if (decide (v4 < (p1.length : Int))) = true then
  Option.bind (rd p1 v4) fun x6 =>
  Option.bind (Qj2 x6) fun r7 =>
  Option.bind (rd a3 v4) fun x8 =>
  Qfh p1 n (a3.set (Int.toNat v4) r7) (w64 (v4 + 1))
 else
  some a3
theorem Qrk {E : Env} (hP : E.P = Tryz.prog) (hn : E.n = 23) (hx : FX E []) (p1 : (List (List GOp)))  : ∀ (n : Nat) (a3 : (List (List GOp))) (v4 : Int) (r : (List (List GOp))), Qfh p1 n a3 v4 = some r → WAt E Xgl (FQ (Qf0 Θ Tryz.f61.results.toList [] [] (AV.own 141 1 (r.map Qim)) E)) [true, true, false, true, false] ⟨[(0, (AV.ro 1 (p1.map Qqd))), (3, (AV.sl 1 0 (List.length (a3.map Qim)))), (4, (I v4))], [(1, some ⟨141, 1, (a3.map Qim)⟩)], [1, JJ]⟩ := by
 intro n
 induction n with
 | zero => intro a3 v4 r h; simp only [Qfh] at h; cases h
 | succ n ih =>
  intro a3 v4 r h
  simp only [Qfh] at h
  let Z0 := (I (p1.length : Int)); let Z4 := a3.map Qim; let Z8 := (((p1.map Qqd).length : Nat) : Int); let Z9 := (decide (v4 < (p1.length : Int)))
  rcases itS h with ⟨c5, h⟩ | ⟨c9, h⟩
  ·obtain ⟨x6, hx6, h⟩ := bnS h
   obtain ⟨r7, hr7, h⟩ := bnS h
   obtain ⟨x8, hx8, h⟩ := bnS h
   exact (let Z1 := r7.map Qb5; let Z2 := AV.own 144 4 Z1; let Z3 := [(AV.own 144 4 (x8.map Qb5))]; let Z5 := AV.sl 1001 0 Z1.length; let Z6 := Z4.set v4.toNat [Z5]; let Z7 := (a3.set v4.toNat r7).map Qim; gT hP hn hx [hO 2 Z0, hT 4, hh 9 (.row (Qqd x6)), hh 11 (.call [] Z2 [1001]), hh 13 (.sto Z3 Z6), hh 14 (.pack 1 1001 v4.toNat 0 [Z5] Z7), hh 17 (.slen 3 Z7.length)] [(1, 1)] [0, 3, 4] [] [AV.lit (.int .i64 Z8) = Z0, Z9 = true, (0 : Int) ≤ v4, (p1.map Qqd)[v4.toNat]? = some (Qqd x6), Qa6 Tryz.prog 125 [(AV.ro 4 (x6.map Qtr))] Z2, Qci Z2 = true, (0 : Int) ≤ v4, v4 < ((Z4.length : Nat) : Int), Z4[v4.toNat]? = some Z3, Z4.set v4.toNat (wr Z3 0 [Z5]) = Z6, [Z5].length = 1, 0 + [Z5].length ≤ Z3.length, Z6[v4.toNat]? = some [Z5], [Z5][0]? = some Z5, Qa1 Z1 = true, Z6.set v4.toNat ([Z5].set 0 Z2) = Z7, Z4.length = Z7.length, Qaa [(1, 1)] Z7] ⟨(Qd9 Qqd), c5, (rd0 hx6), (rdM Qqd hx6), (Qxx hr7), (by simp +zetaDelta only [Qci, Qbl, Qa7 Xko, Bool.and_self]), (rd0 hx8), (rdL Qim hx8), (rdM Qim hx8), rfl, rfl, leB, (Qd7 (rdM Qim hx8)), rfl, (Qa9 Xfs), (setP Qim), lnq, (rok (Qa9 Qy6)), trivial⟩ (ih (a3.set v4.toNat r7) (w64 (v4 + 1)) _ h))
  ·obtain rfl := sj h
   exact gR hP hn [hO 2 Z0, hF 4] [] .own [AV.lit (.int .i64 Z8) = Z0, Z9 = false, Qa1 (Z4.take Z4.length) = true, Z4.take Z4.length = Z4, Qa4 Z4 = true] ⟨(Qd9 Qqd), c9, (Qb4 Qy6), Qb3, (Qa7 Xbt), trivial⟩
noncomputable def Qjj (p1 : (List (List GOp))) : Option (List (List GOp)) :=
 Option.bind (mk [] (p1.length : Int)) fun l2 =>
 Qfh p1 FU l2 0
theorem Qw6 {p1 : (List (List GOp))} {r : (List (List GOp))} (h : Qjj p1 = some r) : Qa6 Tryz.prog 61 [(AV.ro 1 (p1.map Qqd))] (AV.own 141 1 (r.map Qim)) := by
 refine gM Tryz.func61 23 Xgl fun E hP hn hx => ?_
 unfold Qjj at h
 obtain ⟨l2, hl2, h⟩ := bnS h
 exact (let Z0 := (p1.length : Int); let Z1 := l2.map Qim; let Z2 := AV.sl 1001 0 Z1.length; gT hP hn hx [hO 2 (I Z0), ⟨3, .nw 1001 (List.replicate Z0.toNat [AV.lit (.slice none 0 0)]), some Z2⟩, hh 4 (.own0 1001 Z0.toNat [] [] 144 4 Z1)] [(1001, 1)] [0, 3, 4] [] [AV.lit (.int .i64 (((p1.map Qqd).length : Nat) : Int)) = (I Z0), List.replicate Z0.toNat [.lit (.slice none 0 0)] = (List.replicate Z0.toNat [AV.lit (.slice none 0 0)]), AV.sl 1001 0 Z0.toNat = Z2, Z0 = Z0, (0 : Int) ≤ Z0, Z0 * ((24 : Nat) : Int) ≤ 140737488355328, Z0 ≤ 140737488355328, (List.replicate Z0.toNat [AV.lit (.slice none 0 0)]) = List.replicate Z0.toNat ([] ++ AV.lit (.slice none 0 0) :: []), List.replicate Z0.toNat ([] ++ AV.own 144 4 [] :: []) = Z1, Qaa [(1001, 1)] Z1] ⟨(Qd9 Qqd), rfl, (mkS Qim hl2), rfl, (mk0 hl2), (mkB hl2 (by decide)), (mkC hl2), rfl, (mkM Qim hl2), (rok (Qa9 Qy6)), trivial⟩ (Qrk hP hn hx p1 FU l2 0 _ h))
noncomputable def Xkj : Code := match Tryz.f15.body with | some c => c | none => .skip
noncomputable def Qfs (p1 : Qaf) : Option Qaf :=
 Option.bind (Qjj p1.Routines) fun r2 =>
 some (Qaf.mk p1.Cells p1.Locks p1.Conds r2)
theorem Qix {p1 : Qaf} {r : Qaf} (h : Qfs p1 = some r) : Qa6 Tryz.prog 15 [(AV.agg ((r24 p1)))] (AV.agg (o34 r)) := by
 refine gM Tryz.func15 18 Xkj fun E hP hn hx => ?_
 unfold Qfs at h
 obtain ⟨r2, hr2, h⟩ := bnS h
 obtain rfl := sj h
 exact (let Z0 := r2.map Qim; let Z1 := AV.own 141 1 Z0; gR hP hn [hW 0 1001, hW 1 1002, hW 2 1003, hh 17 (.call [] Z1 [1004])] [] (.agg [.raw, .raw, .raw, .own]) [Qa6 Tryz.prog 61 [(AV.ro 1 (p1.Routines.map Qqd))] Z1, Qci Z1 = true, (I p1.Cells) = (I p1.Cells), Qa5 (I p1.Cells) = true, (I p1.Locks) = (I p1.Locks), Qa5 (I p1.Locks) = true, (I p1.Conds) = (I p1.Conds), Qa5 (I p1.Conds) = true, Qa1 (Z0.take Z0.length) = true, Z0.take Z0.length = Z0, Qa4 Z0 = true] ⟨(Qw6 hr2), (by simp +zetaDelta only [Qci, Qbl, Qa7 Xbt, Bool.and_self]), rfl, rfl, rfl, rfl, rfl, rfl, (Qb4 Qy6), Qb3, (Qa7 Xbt), trivial⟩)
noncomputable def Xju : Code := match Tryz.f44.body with | some c => c | none => .skip
noncomputable def Qes (p1 : Int) (p2 : Int) (p3 : Int) : Option Bool :=
 if (decide (p1 ≥ p2)) = true then
  some (decide (p1 ≤ p3))
 else
  some false
theorem Qf8 {p1 : Int} {p2 : Int} {p3 : Int} {r : Bool} (h : Qes p1 p2 p3 = some r) : Qa6 Tryz.prog 44 [(I p1), (I p2), (I p3)] (B r) := by
 refine gM Tryz.func44 15 Xju fun E hP hn hx => ?_
 unfold Qes at h
 let Z0 := B (decide (p1 ≥ p2)); let Z1 := B (decide (p1 ≤ p3)); let Z2 := B false
 rcases itS h with ⟨c4, h⟩ | ⟨c5, h⟩
 ·obtain rfl := sj h
  exact gR hP hn [hO 4 (B true)] [] .raw [Z0 = (B true), Z1 = Z1, Qa5 Z1 = true] ⟨(Qb9 c4), rfl, rfl, trivial⟩
 ·obtain rfl := sj h
  exact gR hP hn [hO 4 Z2] [] .raw [Z0 = Z2, Z2 = Z2, Qa5 Z2 = true] ⟨(Qb9 c5), rfl, rfl, trivial⟩
noncomputable def Xhb : Code := match Tryz.f207.body with | some c => c | none => .skip
noncomputable def Qdf (p1 : Nat) : Option Bool :=
 if ((Qc0 p1 0) == some .lt) = true then
  some true
 else
  if ((Qc0 p1 0) == some .eq) = true then
   some ((Qc0 (fdv 4607182418800017408 p1) 0) == some .lt)
  else
   some false
theorem Qod {p1 : Nat} {r : Bool} (h : Qdf p1 = some r) : Qa6 Tryz.prog 207 [(FK p1)] (B r) := by
 refine gM Tryz.func207 14 Xhb fun E hP hn hx => ?_
 unfold Qdf at h
 let Z0 := Qc0 p1 0; let Z1 := B true; let Z2 := B false; let Z3 := fdv 4607182418800017408 p1; let Z4 := Qc0 Z3 0
 let H1 : List Hn := [hh 2 (.bin (B (Z0 == some .lt)))]
 let P2 : List Prop := [Qfr Tryz.prog .lss 142 (FK p1) (FK 0) (B (Z0 == some .lt))]
 have AP2 : Qak P2 := ⟨Xgc, trivial⟩
 rcases itS h with ⟨c2, h⟩ | ⟨c3, h⟩
 ·obtain rfl := sj h
  exact gR hP hn (H1 ++ [hO 3 Z1]) [] .raw (P2 ++ [(B (Z0 == some .lt)) = Z1, Z1 = Z1, Qa5 Z1 = true]) (Qa8 AP2 ⟨(Qb9 c2), rfl, rfl, trivial⟩)
 ·let P3 : List Prop := P2 ++ [(B (Z0 == some .lt)) = Z2, Qfr Tryz.prog .eql 142 (FK p1) (FK 0) (B (Z0 == some .eq))]
  have AP3 : Qak P3 := Qa8 AP2 ⟨(Qb9 c3), Xbm, trivial⟩
  rcases itS h with ⟨c4, h⟩ | ⟨c5, h⟩
  ·obtain rfl := sj h
   exact gR hP hn (H1 ++ [hO 3 Z2, hh 5 (.bin (B (Z0 == some .eq))), hO 6 Z1, hh 8 (.bin (FK Z3)), hh 9 (.bin (B (Z4 == some .lt)))]) [] .raw (P3 ++ [(B (Z0 == some .eq)) = Z1, Qfr Tryz.prog .quo 142 (FK 4607182418800017408) (FK p1) (FK Z3), Qfr Tryz.prog .lss 142 (FK Z3) (FK 0) (B (Z4 == some .lt)), (B (Z4 == some .lt)) = (B (Z4 == some .lt)), Qa5 (B (Z4 == some .lt)) = true]) (Qa8 AP3 ⟨(Qb9 c4), Xka, Xgc, rfl, rfl, trivial⟩)
  ·obtain rfl := sj h
   exact gR hP hn (H1 ++ [hO 3 Z2, hh 5 (.bin (B (Z0 == some .eq))), hO 6 Z2]) [] .raw (P3 ++ [(B (Z0 == some .eq)) = Z2, Z2 = Z2, Qa5 Z2 = true]) (Qa8 AP3 ⟨(Qb9 c5), rfl, rfl, trivial⟩)
noncomputable def Xik : Code := match Tryz.f180.body with | some c => c | none => .skip
noncomputable def Qdz (p1 : Nat) : Option Bool :=
 some ((Qc0 p1 p1) != some .eq)
theorem Qe3 {p1 : Nat} {r : Bool} (h : Qdz p1 = some r) : Qa6 Tryz.prog 180 [(FK p1)] (B r) := by
 refine gM Tryz.func180 6 Xik fun E hP hn hx => ?_
 unfold Qdz at h
 obtain rfl := sj h
 exact (let Z0 := Qc0 p1 p1; gR hP hn [hh 3 (.bin (B (Z0 != some .eq)))] [] .raw [Qfr Tryz.prog .neq 142 (FK p1) (FK p1) (B (Z0 != some .eq)), (B (Z0 != some .eq)) = (B (Z0 != some .eq)), Qa5 (B (Z0 != some .eq)) = true] ⟨Xed, rfl, rfl, trivial⟩)
noncomputable def Xda : Code := match Tryz.f191.body with | some c => c | none => .skip
noncomputable def Qer  (p1 : Nat) (p2 : Nat)  : Option Bool :=
 if ((Qc0 p1 p2) == some .eq) = true then
  Option.bind (Qdf p1) fun r18 =>
  Option.bind (Qdf p2) fun r19 =>
  some (r18 == r19)
 else
  some false
theorem Qox {E : Env} (hP : E.P = Tryz.prog) (hn : E.n = 27) (hx : FX E []) (p1 : Nat) (p2 : Nat)   (r : Bool) (h : Qer p1 p2  = some r) : WAt E Xda (FQ (Qf0 Θ Tryz.f191.results.toList [] [] (B r) E)) [true, false, true, true] ⟨[(0, (FK p1)), (1, (FK p2))], [], [JJ]⟩ := by
 unfold Qer at h
 let Z0 := Qc0 p1 p2; let Z2 := B false
 rcases itS h with ⟨c17, h⟩ | ⟨c20, h⟩
 ·obtain ⟨r18, hr18, h⟩ := bnS h
  obtain ⟨r19, hr19, h⟩ := bnS h
  obtain rfl := sj h
  exact (let Z1 := B (r18 == r19); gR hP hn [hh 2 (.bin (B (Z0 == some .eq))), hO 3 (B true), hh 5 (.callV [] (B r18)), hh 7 (.callV [] (B r19))] [] .raw [Qfr Tryz.prog .eql 142 (FK p1) (FK p2) (B (Z0 == some .eq)), (B (Z0 == some .eq)) = (B true), Qa6 Tryz.prog 207 [(FK p1)] (B r18), Qa5 (B r18) = true, Qa6 Tryz.prog 207 [(FK p2)] (B r19), Qa5 (B r19) = true, Z1 = Z1, Qa5 Z1 = true] ⟨Xbm, (Qb9 c17), (Qod hr18), rfl, (Qod hr19), rfl, rfl, rfl, trivial⟩)
 ·obtain rfl := sj h
  exact gR hP hn [hh 2 (.bin (B (Z0 == some .eq))), hO 3 Z2] [] .raw [Qfr Tryz.prog .eql 142 (FK p1) (FK p2) (B (Z0 == some .eq)), (B (Z0 == some .eq)) = Z2, Z2 = Z2, Qa5 Z2 = true] ⟨Xbm, (Qb9 c20), rfl, rfl, trivial⟩
noncomputable def Qct (p1 : Nat) (p2 : Nat) : Option Bool :=
 Option.bind (Qdz p1) fun r3 =>
 if r3 = true then
  Option.bind (Qdz p1) fun r5 =>
  if r5 = true then
   Option.bind (Qdz p2) fun r7 =>
   some r7
  else
   some false
 else
  Option.bind (Qdz p2) fun r10 =>
  if r10 = true then
   Option.bind (Qdz p1) fun r12 =>
   if r12 = true then
    Option.bind (Qdz p2) fun r14 =>
    some r14
   else
    some false
  else
   Qer p1 p2
theorem Qlj {p1 : Nat} {p2 : Nat} {r : Bool} (h : Qct p1 p2 = some r) : Qa6 Tryz.prog 191 [(FK p1), (FK p2)] (B r) := by
 refine gM Tryz.func191 27 Xda fun E hP hn hx => ?_
 unfold Qct at h
 obtain ⟨r3, hr3, h⟩ := bnS h
 let Z0 := B true; let Z1 := B false
 let H1 : List Hn := [hh 2 (.callV [] (B r3))]
 let P2 : List Prop := [Qa6 Tryz.prog 180 [(FK p1)] (B r3), Qa5 (B r3) = true]
 have AP2 : Qak P2 := ⟨(Qe3 hr3), rfl, trivial⟩
 rcases itS h with ⟨c4, h⟩ | ⟨c9, h⟩
 ·obtain ⟨r5, hr5, h⟩ := bnS h
  let P3 : List Prop := P2 ++ [(B r3) = Z0, Qa6 Tryz.prog 180 [(FK p1)] (B r5), Qa5 (B r5) = true]
  have AP3 : Qak P3 := Qa8 AP2 ⟨(Qb9 c4), (Qe3 hr5), rfl, trivial⟩
  rcases itS h with ⟨c6, h⟩ | ⟨c8, h⟩
  ·obtain ⟨r7, hr7, h⟩ := bnS h
   obtain rfl := sj h
   exact gR hP hn (H1 ++ [hO 3 Z0, hh 9 (.callV [] (B r5)), hO 10 Z0, hh 12 (.callV [] (B r7))]) [] .raw (P3 ++ [(B r5) = Z0, Qa6 Tryz.prog 180 [(FK p2)] (B r7), Qa5 (B r7) = true, (B r7) = (B r7), Qa5 (B r7) = true]) (Qa8 AP3 ⟨(Qb9 c6), (Qe3 hr7), rfl, rfl, rfl, trivial⟩)
  ·obtain rfl := sj h
   exact gR hP hn (H1 ++ [hO 3 Z0, hh 9 (.callV [] (B r5)), hO 10 Z1]) [] .raw (P3 ++ [(B r5) = Z1, Z1 = Z1, Qa5 Z1 = true]) (Qa8 AP3 ⟨(Qb9 c8), rfl, rfl, trivial⟩)
 ·obtain ⟨r10, hr10, h⟩ := bnS h
  let H4 : List Hn := H1 ++ [hO 3 Z1, hh 5 (.callV [] (B r10))]
  let P5 : List Prop := P2 ++ [(B r3) = Z1, Qa6 Tryz.prog 180 [(FK p2)] (B r10), Qa5 (B r10) = true]
  have AP5 : Qak P5 := Qa8 AP2 ⟨(Qb9 c9), (Qe3 hr10), rfl, trivial⟩
  rcases itS h with ⟨c11, h⟩ | ⟨c16, h⟩
  ·obtain ⟨r12, hr12, h⟩ := bnS h
   let Z2 := B r12
   rcases itS h with ⟨c13, h⟩ | ⟨c15, h⟩
   ·obtain ⟨r14, hr14, h⟩ := bnS h
    obtain rfl := sj h
    exact gR hP hn (H4 ++ [hT 7, hh 9 (.callV [] Z2), hO 10 Z0, hh 12 (.callV [] (B r14))]) [] .raw (P5 ++ [r10 = true, Qa6 Tryz.prog 180 [(FK p1)] Z2, Qa5 Z2 = true, Z2 = Z0, Qa6 Tryz.prog 180 [(FK p2)] (B r14), Qa5 (B r14) = true, (B r14) = (B r14), Qa5 (B r14) = true]) (Qa8 AP5 ⟨c11, (Qe3 hr12), rfl, (Qb9 c13), (Qe3 hr14), rfl, rfl, rfl, trivial⟩)
   ·obtain rfl := sj h
    exact gR hP hn (H4 ++ [hT 7, hh 9 (.callV [] Z2), hO 10 Z1]) [] .raw (P5 ++ [r10 = true, Qa6 Tryz.prog 180 [(FK p1)] Z2, Qa5 Z2 = true, Z2 = Z1, Z1 = Z1, Qa5 Z1 = true]) (Qa8 AP5 ⟨c11, (Qe3 hr12), rfl, (Qb9 c15), rfl, rfl, trivial⟩)
  ·exact gT hP hn hx (H4 ++ [hF 7]) [] [0, 1] [] (P5 ++ [r10 = false]) (Qa8 AP5 ⟨c16, trivial⟩) (Qox hP hn hx p1 p2  _ h)
noncomputable def Xbw : Code := match Tryz.f190.body with | some c => c | none => .skip
noncomputable def Qbh  (p1 : Int) (v5 : Bool) : Option Str :=
 if v5 = true then
  some [97]
 else
  if (p1 == 16) = true then
   some [97, 98]
  else
   some []
theorem Qcl {E : Env} (hP : E.P = Tryz.prog) (hn : E.n = 17) (hx : FX E []) (p1 : Int)  (v5 : Bool) (r : Str) (h : Qbh p1 v5 = some r) : WAt E Xbw (FQ (Qf0 Θ Tryz.f190.results.toList [] [] (SK r) E)) [true, false, true, false, true, true, true] ⟨[(3, (I p1)), (6, (B v5))], [], [JJ]⟩ := by
 unfold Qbh at h
 rcases itS h with ⟨c6, h⟩ | ⟨c7, h⟩
 ·obtain rfl := sj h
  exact gR hP hn [hT 0] [] .raw [v5 = true, (SK [97]) = (SK [97]), Qa5 (SK [97]) = true] ⟨c6, rfl, rfl, trivial⟩
 ·rcases itS h with ⟨c8, h⟩ | ⟨c9, h⟩
  ·obtain rfl := sj h
   exact gR hP hn [hF 0, hT 3] [] .raw [v5 = false, (p1 == 16) = true, (SK [97, 98]) = (SK [97, 98]), Qa5 (SK [97, 98]) = true] ⟨c7, c8, rfl, rfl, trivial⟩
  ·obtain rfl := sj h
   exact gR hP hn [hF 0, hF 3] [] .raw [v5 = false, (p1 == 16) = false, (SK []) = (SK []), Qa5 (SK []) = true] ⟨c7, c9, rfl, rfl, trivial⟩
noncomputable def Qgu (p1 : Int) : Option Str :=
 if (p1 == 1) = true then
  some [118]
 else
  if (p1 == 2) = true then
   Qbh p1 (p1 == 2)
  else
   if (p1 == 3) = true then
    Qbh p1 (p1 == 3)
   else
    if (p1 == 10) = true then
     Qbh p1 (p1 == 10)
    else
     if (p1 == 11) = true then
      Qbh p1 (p1 == 11)
     else
      if (p1 == 12) = true then
       Qbh p1 (p1 == 12)
      else
       if (p1 == 13) = true then
        Qbh p1 (p1 == 13)
       else
        if (p1 == 14) = true then
         Qbh p1 (p1 == 14)
        else
         Qbh p1 (p1 == 17)
theorem Qvb {p1 : Int} {r : Str} (h : Qgu p1 = some r) : Qa6 Tryz.prog 190 [(I p1)] (SK r) := by
 refine gM Tryz.func190 17 Xbw fun E hP hn hx => ?_
 unfold Qgu at h
 let Z0 := p1 == 11; let Z1 := p1 == 12
 rcases itS h with ⟨c2, h⟩ | ⟨c3, h⟩
 ·obtain rfl := sj h
  exact gR hP hn [hT 4] [] .raw [(p1 == 1) = true, (SK [118]) = (SK [118]), Qa5 (SK [118]) = true] ⟨c2, rfl, rfl, trivial⟩
 ·let P1 : List Prop := [(p1 == 1) = false]
  have AP1 : Qak P1 := ⟨c3, trivial⟩
  rcases itS h with ⟨c4, h⟩ | ⟨c10, h⟩
  ·exact gT hP hn hx [hF 4, hT 7] [] [3, 6] [] (P1 ++ [(p1 == 2) = true]) (Qa8 AP1 ⟨c4, trivial⟩) (Qcl hP hn hx p1 (p1 == 2) _ h)
  ·let P2 : List Prop := P1 ++ [(p1 == 2) = false]
   have AP2 : Qak P2 := Qa8 AP1 ⟨c10, trivial⟩
   rcases itS h with ⟨c11, h⟩ | ⟨c12, h⟩
   ·exact gT hP hn hx [hF 4, hF 7, hT 10] [] [3, 6] [] (P2 ++ [(p1 == 3) = true]) (Qa8 AP2 ⟨c11, trivial⟩) (Qcl hP hn hx p1 (p1 == 3) _ h)
   ·let H3 : List Hn := [hF 4, hF 7, hF 10]
    rcases itS h with ⟨c13, h⟩ | ⟨c14, h⟩
    ·exact gT hP hn hx (H3 ++ [hT 13]) [] [3, 6] [] (P2 ++ [(p1 == 3) = false, (p1 == 10) = true]) (Qa8 AP2 ⟨c12, c13, trivial⟩) (Qcl hP hn hx p1 (p1 == 10) _ h)
    ·let P4 : List Prop := P2 ++ [(p1 == 3) = false, (p1 == 10) = false]
     have AP4 : Qak P4 := Qa8 AP2 ⟨c12, c14, trivial⟩
     rcases itS h with ⟨c15, h⟩ | ⟨c16, h⟩
     ·exact gT hP hn hx (H3 ++ [hF 13, hT 16]) [] [3, 6] [] (P4 ++ [Z0 = true]) (Qa8 AP4 ⟨c15, trivial⟩) (Qcl hP hn hx p1 (p1 == 11) _ h)
     ·rcases itS h with ⟨c17, h⟩ | ⟨c18, h⟩
      ·exact gT hP hn hx (H3 ++ [hF 13, hF 16, hT 19]) [] [3, 6] [] (P4 ++ [Z0 = false, Z1 = true]) (Qa8 AP4 ⟨c16, c17, trivial⟩) (Qcl hP hn hx p1 (p1 == 12) _ h)
      ·rcases itS h with ⟨c19, h⟩ | ⟨c20, h⟩
       ·exact gT hP hn hx (H3 ++ [hF 13, hF 16, hF 19, hT 22]) [] [3, 6] [] (P4 ++ [Z0 = false, Z1 = false, (p1 == 13) = true]) (Qa8 AP4 ⟨c16, c18, c19, trivial⟩) (Qcl hP hn hx p1 (p1 == 13) _ h)
       ·rcases itS h with ⟨c21, h⟩ | ⟨c22, h⟩
        ·exact gT hP hn hx (H3 ++ [hF 13, hF 16, hF 19, hF 22, hT 25]) [] [3, 6] [] (P4 ++ [Z0 = false, Z1 = false, (p1 == 13) = false, (p1 == 14) = true]) (Qa8 AP4 ⟨c16, c18, c20, c21, trivial⟩) (Qcl hP hn hx p1 (p1 == 14) _ h)
        ·exact gT hP hn hx (H3 ++ [hF 13, hF 16, hF 19, hF 22, hF 25]) [] [3, 6] [] (P4 ++ [Z0 = false, Z1 = false, (p1 == 13) = false, (p1 == 14) = false]) (Qa8 AP4 ⟨c16, c18, c20, c22, trivial⟩) (Qcl hP hn hx p1 (p1 == 17) _ h)
end Go.Proofs.YtjcaompblpglcaaGreat
