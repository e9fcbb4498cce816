/- Functions as plain data, and that the code comes to them; no condition. -/

import Derived.Test.YtjcaompblpglcaaGreatGA
set_option linter.unusedVariables false
set_option maxRecDepth 100000
namespace Go.Proofs.YtjcaompblpglcaaGreat
open Go Go.T
noncomputable def Qev (p1 : Qa2) (p2 : Qaf) (p3 : Int) : Option (Qad × Qa2) :=
 Option.bind (rd p1.Threads p3) fun x4 =>
 Option.bind (Qcc p2 (Qa0.mk x4.Routine x4.Pc x4.State x4.Cond x4.Lock x4.Stack)) fun r5 =>
 if (x4.State == 4) = true then
  Option.bind (rd p1.Owner x4.Lock) fun x7 =>
  Option.bind (Qe6 r5.2) fun r8 =>
  some ((Qad.mk p3 9 x4.Cond x4.Lock x4.Pc), (Qa2.mk (p1.Threads.set (Int.toNat p3) (Qa0.mk x4.Routine (w64 (x4.Pc + r8)) 1 (-1) (-1) x4.Stack)) p1.Cells (p1.Owner.set (Int.toNat x4.Lock) p3) p1.Fault))
 else
  if (!r5.2) = true then
   some ((Qad.mk p3 11 (-1) (-1) x4.Pc), (Qa2.mk (p1.Threads.set (Int.toNat p3) (Qa0.mk x4.Routine x4.Pc 2 x4.Cond x4.Lock x4.Stack)) p1.Cells p1.Owner p1.Fault))
  else
   Option.bind (Qcg (Qa2.mk p1.Threads p1.Cells p1.Owner p1.Fault) p3 r5.1) fun r12 =>
   if (r12 != 0) = true then
    some ((Qad.mk p3 12 r12 (-1) x4.Pc), (Qa2.mk p1.Threads p1.Cells p1.Owner r12))
   else
    Option.bind (Qax (Qa2.mk p1.Threads p1.Cells p1.Owner p1.Fault) p3 r5.1 (Qad.mk p3 1 (-1) (-1) x4.Pc)) fun r15 =>
    some (r15.1, r15.2)
noncomputable def Xas : Code := match Tryz.f77.body with | some c => c | none => .skip
theorem Ql0 {p1 : Qa2} {p2 : Qaf} {p3 : Int} {V0 V1 V2 : Value} {r : (Qad × Qa2)} (h : Qev p1 p2 p3 = some r) : Qco Tryz.prog 77 [⟨70, 7, [([(AV.lit V0), (AV.lit V1), (AV.lit V2)] ++ (o57 p1))]⟩] [(AV.ptr 0 0 3), (AV.agg ((r34 p2))), (I p3)] [true] [⟨70, 7, [([(AV.lit V0), (AV.lit V1), (AV.lit V2)] ++ (o57 r.2))]⟩] (AV.agg (o59 r.1)) := by
 refine Qeq Qv7 Tryz.func77 rfl (c := Xas) (by kernel_rfl) (Nat.le_of_ble_eq_true rfl) rfl (Nat.le_of_ble_eq_true rfl) rfl (fr := [0]) (frI rfl) ?_
 intro E hP hn hx
 replace hn : E.n = 105 := hn
 unfold Qev at h
 obtain ⟨x4, hx4, h⟩ := bnS h
 obtain ⟨r5, hr5, h⟩ := bnS h
 let Z0 := AV.lit V0; let Z1 := AV.lit V1; let Z2 := AV.lit V2; let Z3 := [Z0, Z1, Z2]; let Z4 := Z3 ++ (o57 p1); let Z5 := p1.Threads.map Qaa; let Z6 := AV.sl 1003 0 Z5.length; let Z7 := AV.own 142 1 (p1.Cells.map Qae); let Z8 := p1.Owner.map o3; let Z9 := AV.own 3 1 Z8; let Z10 := I p1.Fault; let Z11 := [Z0, Z1, Z2, Z6, Z7, Z9, Z10]; let Z12 := Qaa x4; let Z13 := I x4.Routine; let Z14 := I x4.Pc; let Z15 := I x4.Cond; let Z16 := I x4.Lock; let Z17 := x4.Stack.map Qae; let Z18 := AV.own 142 1 Z17; let Z19 := [Z13, Z14, (I x4.State), Z15, Z16, Z18]; let Z20 := AV.sl 1005 0 Z17.length; let Z21 := [Z13, Z14, (I x4.State), Z15, Z16, Z20]; let Z22 := Z5.set p3.toNat Z21; let Z23 := B r5.2; let Z24 := AV.tup [(AV.agg (Qb6 r5.1)), Z23]; let Z25 := AV.own 179 6 Z5; let Z26 := AV.agg ((r34 p2)); let Z27 := AV.ptr 1003 p3.toNat 0; let Z28 := AV.agg Z21; let Z29 := AV.agg ((Qb6 r5.1)); let Z30 := AV.tup [Z29, Z23]; let Z31 := [Z26, (AV.agg [Z13, Z14, (I x4.State), Z15, Z16, (AV.ro 1 Z17)])]; let Z32 := (Z17.drop 0).take Z17.length; let Z33 := ([(1006, (Qam.mk 144 4 [[(I 0), (I 0), (I 0), (FK 0)]]))].map sm); let Z34 := Qam.mk 144 4 [((Qb6 r5.1))]; let Z35 := AV.sl 1003 0 Z22.length; let Z36 := [Z0, Z1, Z2, Z35, Z7, Z9, Z10]; let Z37 := AV.sl 1007 0 Z8.length; let Z38 := [Z0, Z1, Z2, Z35, Z7, Z37, Z10]; let Z39 := p1.Owner.set x4.Lock.toNat p3; let Z40 := Z39.map o3; let Z41 := (p1.Threads.set p3.toNat (Qa0.mk x4.Routine x4.Pc 1 x4.Cond x4.Lock x4.Stack)).map Qaa; let Z42 := [Z13, Z14, (I 1), Z15, Z16, Z18]; let Z43 := (p1.Threads.set p3.toNat (Qa0.mk x4.Routine x4.Pc 1 (-1) x4.Lock x4.Stack)).map Qaa; let Z44 := I (-1); let Z45 := [Z13, Z14, (I 1), Z44, Z16, Z18]; let Z46 := (p1.Threads.set p3.toNat (Qa0.mk x4.Routine x4.Pc 1 (-1) (-1) x4.Stack)).map Qaa; let Z47 := [Z13, Z14, (I 1), Z44, Z44, Z18]; let Z53 := x4.State == 4; let Z54 := AV.ptr 1003 p3.toNat 3; let Z55 := AV.ptr 1003 p3.toNat 4; let Z56 := Qam.mk 59 5 [[(I p3), (I 9), Z44, Z44, Z14]]; let Z57 := Qam.mk 59 5 [[(I p3), (I 9), Z15, Z44, Z14]]; let Z58 := Z21.set 5 Z18; let Z61 := AV.agg [(I p3), (I 9), Z15, Z16, Z14]; let Z62 := Qa0.mk x4.Routine x4.Pc 1 (-1) (-1) x4.Stack; let Z64 := p1.Threads.set p3.toNat (Qa0.mk x4.Routine x4.Pc 2 x4.Cond x4.Lock x4.Stack); let Z65 := Z64.map Qaa; let Z66 := [[Z0, Z1, Z2, (AV.own 179 6 Z65), Z7, Z9, Z10]]; let Z67 := Z3 ++ (o57 (Qa2.mk Z64 p1.Cells p1.Owner p1.Fault)); let Z68 := AV.agg [(I p3), (I 11), Z44, Z44, Z14]; let Z69 := Qa2.mk Z64 p1.Cells p1.Owner p1.Fault; let Z70 := [Z0, Z1, Z2, Z25, Z7, Z9, Z10]; let Z71 := Z3 ++ (r57 (Qa2.mk p1.Threads p1.Cells p1.Owner p1.Fault)); let Z72 := Qa2.mk p1.Threads p1.Cells p1.Owner p1.Fault; let Z76 := Z3 ++ (o57 (Qa2.mk p1.Threads p1.Cells p1.Owner p1.Fault))
 let H1 : List Hn := [hW 0 1001, hW 1 1002, hh 5 (.unpack 0 1003 0 3 Z4 179 6 Z5 [Z11]), hh 13 (.row Z12), hW 15 1004, hh 17 (.unpack 1003 1005 p3.toNat 5 Z19 142 1 Z17 Z22), hh 20 (.row Z21), hh 21 (.callV [[], [], Z17] Z24), hW 25 1006, hh 31 (.row Z21)]
 let P2 : List Prop := [[Z4][0]? = some Z4, Z4[3]? = some Z25, 0 < 6, [Z4].set 0 (Z4.set 3 Z6) = [Z11], (0 : Int) ≤ p3, p3 < ((Z5.length : Nat) : Int), Z5[p3.toNat]? = some Z12, Z5[p3.toNat]? = some Z19, Z19[5]? = some Z18, 0 < 1, Z5.set p3.toNat (Z19.set 5 Z20) = Z22, Z26 = Z26, Z26 = Z26, Z27 = Z27, Z27 = Z27, Z27 = Z27, Z27 = Z27, Z28 = Z28, Z22[p3.toNat]? = some Z21, Z28 = Z28, Z22[p3.toNat]? = some Z21, Z30 = Z30, Qa5 Tryz.prog 145 Z31 Z24, Qa4 Z24 = true, Frz Z32 Z17, Z30 = Z30, Qa5 Tryz.prog 145 Z31 Z24, Qa4 Z24 = true, Frz Z32 Z17, Z30 = Z30, Z30 = Z30, Z29 = Z29, Z29 = Z29, Z23 = Z23, Z23 = Z23, Z23 = Z23, (AV.ptr 1006 0 0) = (AV.ptr 1006 0 0), Z33 = Z33, [(1006, some Z34)] = [(1006, some Z34)], Z22[p3.toNat]? = some Z21]
 have AP2 : Qal P2 := ⟨rfl, rfl, (by decide), rfl, (rd0 hx4), (rdL Qaa hx4), (rdM Qaa hx4), (rdM Qaa hx4), rfl, (by decide), rfl, rfl, rfl, rfl, rfl, rfl, rfl, rfl, (Qd6 (rdM Qaa hx4)), rfl, (Qd6 (rdM Qaa hx4)), rfl, (Qip hr5), rfl, (Qfi Qbo Qqh), rfl, (Qip hr5), rfl, (Qfi Qbo Qqh), rfl, rfl, rfl, rfl, rfl, rfl, rfl, rfl, rfl, rfl, (Qd6 (rdM Qaa hx4)), trivial⟩
 rcases itS h with ⟨c6, h⟩ | ⟨c9, h⟩
 ·obtain ⟨x7, hx7, h⟩ := bnS h
  obtain ⟨r8, hr8, h⟩ := bnS h
  obtain rfl := sj h
  exact (let Z48 := p1.Threads.set p3.toNat (Qa0.mk x4.Routine (w64 (x4.Pc + r8)) 1 (-1) (-1) x4.Stack); let Z49 := Z48.map Qaa; let Z50 := AV.own 179 6 Z49; let Z51 := [Z0, Z1, Z2, Z50, Z7, Z37, Z10]; let Z52 := [[Z0, Z1, Z2, Z50, Z7, (AV.own 3 1 Z40), Z10]]; let Z59 := [(I (w64 (x4.Pc + r8)))]; let Z60 := Z3 ++ (o57 (Qa2.mk Z48 p1.Cells Z39 p1.Fault)); let Z63 := Qa2.mk Z48 p1.Cells Z39 p1.Fault; gR hP hn (H1 ++ [hT 34, hh 38 (.row Z21), hh 42 (.row Z21), hh 49 (.eqr 0 [Z36]), hh 49 (.unpack 0 1007 0 5 Z36 3 1 Z8 [Z38]), hh 56 (.row Z21), hh 59 (.sto [(I x7)] Z40), hh 65 (.pack 1003 1005 p3.toNat 5 Z21 Z5), hh 65 (.sto Z12 Z41), hh 68 (.sto Z42 Z43), hh 71 (.sto Z45 Z46), hh 75 (.row Z47), hh 77 (.callV [] (I r8)), hh 81 (.sto Z47 Z49), hh 84 (.pack 0 1003 0 3 Z38 [Z51]), hh 84 (.pack 0 1007 0 5 Z51 Z52)]) [] .raw (P2 ++ [Z53 = true, Z27 = Z27, Z27 = Z27, Z27 = Z27, Z27 = Z27, Z54 = Z54, Z54 = Z54, Z15 = Z15, Z22[p3.toNat]? = some Z21, Z15 = Z15, Z22[p3.toNat]? = some Z21, Z27 = Z27, Z27 = Z27, Z27 = Z27, Z27 = Z27, Z27 = Z27, Z27 = Z27, Z55 = Z55, Z55 = Z55, Z55 = Z55, Z16 = Z16, Z22[p3.toNat]? = some Z21, Z16 = Z16, Z22[p3.toNat]? = some Z21, Z16 = Z16, Z22[p3.toNat]? = some Z21, (AV.ptr 1004 0 1) = (AV.ptr 1004 0 1), [(1004, some Z56)] = [(1004, some Z56)], (AV.ptr 1004 0 2) = (AV.ptr 1004 0 2), [(1004, some Z57)] = [(1004, some Z57)], [Z11] = [Z36], [Z36][0]? = some Z36, Z36[5]? = some Z9, 0 < 1, [Z36].set 0 (Z36.set 5 Z37) = [Z38], Z22[p3.toNat]? = some Z21, (0 : Int) ≤ x4.Lock, x4.Lock < ((Z8.length : Nat) : Int), Z8[x4.Lock.toNat]? = some [(I x7)], Z8.set x4.Lock.toNat (wr [(I x7)] 0 [(I p3)]) = Z40, [(I p3)].length = 1, 0 + [(I p3)].length ≤ [(I x7)].length, Z22[p3.toNat]? = some Z21, Z21[5]? = some Z20, Qa1 Z17 = true, Z22.set p3.toNat Z58 = Z5, Z5[p3.toNat]? = some Z12, Z5.set p3.toNat (wr Z12 2 [(I 1)]) = Z41, [(I 1)].length = 1, 2 + [(I 1)].length ≤ Z12.length, Z41[p3.toNat]? = some Z42, Z41.set p3.toNat (wr Z42 3 [Z44]) = Z43, [Z44].length = 1, 3 + [Z44].length ≤ Z42.length, Z43[p3.toNat]? = some Z45, Z43.set p3.toNat (wr Z45 4 [Z44]) = Z46, [Z44].length = 1, 4 + [Z44].length ≤ Z45.length, Z46[p3.toNat]? = some Z47, Qa5 Tryz.prog 146 [Z23] (I r8), Qa4 (I r8) = true, Z46[p3.toNat]? = some Z47, Z46.set p3.toNat (wr Z47 1 Z59) = Z49, Z59.length = 1, 1 + Z59.length ≤ Z47.length, [Z38][0]? = some Z38, Z38[3]? = some (AV.sl 1003 0 Z49.length), Qa1 Z49 = true, [Z38].set 0 (Z38.set 3 Z50) = [Z51], [Z51][0]? = some Z51, Z51[5]? = some (AV.sl 1007 0 Z40.length), Qa1 Z40 = true, [Z51].set 0 (Z51.set 5 (AV.own 3 1 Z40)) = Z52, Z52 = [Z60], Qa1 [Z60] = true, Qa3 [Z60] = true, Z61 = Z61, Qa4 Z61 = true]) (Qa9 AP2 ⟨c6, rfl, rfl, rfl, rfl, rfl, rfl, rfl, (Qd6 (rdM Qaa hx4)), rfl, (Qd6 (rdM Qaa hx4)), rfl, rfl, rfl, rfl, rfl, rfl, rfl, rfl, rfl, rfl, (Qd6 (rdM Qaa hx4)), rfl, (Qd6 (rdM Qaa hx4)), rfl, (Qd6 (rdM Qaa hx4)), rfl, rfl, rfl, rfl, (congrArg (fun nn => [[Z0, Z1, Z2, (AV.sl 1003 0 nn), Z7, Z9, (I p1.Fault)]]) (show Z5.length = Z22.length from lnq)), rfl, rfl, (by decide), rfl, (Qd6 (rdM Qaa hx4)), (rd0 hx7), (rdL o3 hx7), (rdM o3 hx7), (Qwt o3), rfl, leB, (Qd6 (rdM Qaa hx4)), rfl, (Qa8 Qbo), (Xjn Qaa hx4), (rdM Qaa hx4), (Qo1 Qaa), rfl, leB, (rdM Qaa (rdS (y := (Qa0.mk x4.Routine x4.Pc 1 x4.Cond x4.Lock x4.Stack)) hx4)), (Qfv Qaa), rfl, leB, (rdM Qaa (rdS (y := (Qa0.mk x4.Routine x4.Pc 1 (-1) x4.Lock x4.Stack)) hx4)), (Qfv Qaa), rfl, leB, (rdM Qaa (rdS (y := Z62) hx4)), (Qkq hr8), rfl, (rdM Qaa (rdS (y := Z62) hx4)), (Qfv Qaa), rfl, leB, rfl, (pkS lnq), (Qa8 Qch), rfl, rfl, (pkS lnq), (Qa8 t3), rfl, rfl, (Qhk t57 Z3 rfl Z63), (Qh3 n57 Z3 rfl Z63), rfl, rfl, trivial⟩))
 ·rcases itS h with ⟨c10, h⟩ | ⟨c11, h⟩
  ·obtain rfl := sj h
   exact gR hP hn (H1 ++ [hF 34, hT 38, hh 44 (.pack 1003 1005 p3.toNat 5 Z21 Z5), hh 44 (.sto Z12 Z65), hh 47 (.pack 0 1003 0 3 Z11 Z66)]) [] .raw (P2 ++ [Z53 = false, (!r5.2) = true, Z22[p3.toNat]? = some Z21, Z21[5]? = some Z20, Qa1 Z17 = true, Z22.set p3.toNat Z58 = Z5, Z5[p3.toNat]? = some Z12, Z5.set p3.toNat (wr Z12 2 [(I 2)]) = Z65, [(I 2)].length = 1, 2 + [(I 2)].length ≤ Z12.length, [Z11][0]? = some Z11, Z11[3]? = some (AV.sl 1003 0 Z65.length), Qa1 Z65 = true, [Z11].set 0 (Z11.set 3 (AV.own 179 6 Z65)) = Z66, Z66 = [Z67], Qa1 [Z67] = true, Qa3 [Z67] = true, Z68 = Z68, Qa4 Z68 = true]) (Qa9 AP2 ⟨c9, c10, (Qd6 (rdM Qaa hx4)), rfl, (Qa8 Qbo), (Xjn Qaa hx4), (rdM Qaa hx4), (Qo1 Qaa), rfl, leB, rfl, (pkS lnq), (Qa8 Qch), rfl, rfl, (Qhk t57 Z3 rfl Z69), (Qh3 n57 Z3 rfl Z69), rfl, rfl, trivial⟩)
  ·obtain ⟨r12, hr12, h⟩ := bnS h
   let Z73 := Z3 ++ (o57 (Qa2.mk p1.Threads p1.Cells p1.Owner r12)); let Z74 := AV.agg [(I p3), (I 12), (I r12), Z44, Z14]; let Z75 := Qa2.mk p1.Threads p1.Cells p1.Owner r12
   let H3 : List Hn := H1 ++ [hF 34, hF 38, hh 42 (.pack 1003 1005 p3.toNat 5 Z21 Z5), hh 42 (.pack 0 1003 0 3 Z11 [Z70]), hh 42 (.callV [[Z70, Z71], []] (I r12))]
   let P4 : List Prop := P2 ++ [Z53 = false, (!r5.2) = false, Z22[p3.toNat]? = some Z21, Z21[5]? = some Z20, Qa1 Z17 = true, Z22.set p3.toNat Z58 = Z5, [Z11][0]? = some Z11, Z11[3]? = some Z6, Qa1 Z5 = true, [Z11].set 0 (Z11.set 3 Z25) = [Z70], Qa5 Tryz.prog 147 [(AV.rop Z71 3), (I p3), Z29] (I r12), Qa4 (I r12) = true, [Z70][0]? = some Z70, Qcl Z70 = true, Qiu Z70 = Z71]
   have AP4 : Qal P4 := Qa9 AP2 ⟨c9, c11, (Qd6 (rdM Qaa hx4)), rfl, (Qa8 Qbo), (Xjn Qaa hx4), rfl, rfl, (Qa8 Qch), rfl, (Qjx hr12), rfl, rfl, rfl, (frzBV z57 Z3 rfl Z72), trivial⟩
   rcases itS h with ⟨c13, h⟩ | ⟨c14, h⟩
   ·obtain rfl := sj h
    exact gR hP hn (H3 ++ [hT 46]) [] .raw (P4 ++ [(r12 != 0) = true, [[Z0, Z1, Z2, Z25, Z7, Z9, (I r12)]] = [Z73], Qa1 [Z73] = true, Qa3 [Z73] = true, Z74 = Z74, Qa4 Z74 = true]) (Qa9 AP4 ⟨c13, rfl, (Qhk t57 Z3 rfl Z75), (Qh3 n57 Z3 rfl Z75), rfl, rfl, trivial⟩)
   ·obtain ⟨r15, hr15, h⟩ := bnS h
    obtain rfl := sj h
    exact (let Z77 := Z3 ++ (o57 r15.2); let Z78 := AV.agg (o59 r15.1); let Z79 := AV.agg ((o59 r15.1)); let Z80 := rtf (Qi7 [(0, 0)] Z78) []; gR hP hn (H3 ++ [hF 46, hh 51 (.callX [0] [true] [⟨70, 7, [Z76]⟩] [⟨70, 7, [Z77]⟩] [[], []] Z78 [] Z79 [])]) [] .raw (P4 ++ [(r12 != 0) = false, Qco Tryz.prog 148 [⟨70, 7, [Z76]⟩] [(AV.ptr 0 0 3), (I p3), Z29, (AV.agg [(I p3), (I 1), Z44, Z44, Z14])] [true] [⟨70, 7, [Z77]⟩] Z78, (some (Qam.mk 70 7 [Z70]) = some (Qam.mk 70 7 [Z76])) ∧ True, (Qa1 [Z76] = true ∧ Qa3 [Z76] = true) ∧ True, ([Z77].length = [Z76].length) ∧ True, Z80.1 = Z79, Z80.2.1 = [], [Z77] = [Z77], Qa1 [Z77] = true, Qa3 [Z77] = true, Z79 = Z79, Qa4 Z79 = true]) (Qa9 AP4 ⟨c14, (Qlw hr15), ⟨rfl, trivial⟩, ⟨⟨Qhk t57 Z3 rfl Z72, Qh3 n57 Z3 rfl Z72⟩, trivial⟩, ⟨rfl, trivial⟩, rfl, rfl, rfl, (Qhk t57 Z3 rfl r15.2), (Qh3 n57 Z3 rfl r15.2), rfl, rfl, trivial⟩))
noncomputable def Xhw : Code := match Tryz.f189.body with | some c => c | none => .skip
noncomputable def Qj3 (p1 : Qa0) : Option Bool :=
 some (p1.State != 2)
theorem Qsx {p1 : Qa0} {r : Bool} (h : Qj3 p1 = some r) : Qa5 Tryz.prog 189 [(AV.agg ((Qb5 p1)))] (B r) := by
 refine gM Tryz.func189 6 Xhw fun E hP hn hx => ?_
 unfold Qj3 at h
 obtain rfl := sj h
 exact (let Z0 := B (p1.State != 2); gR hP hn [hW 0 1001] [] .raw [Z0 = Z0, Qa4 Z0 = true] ⟨rfl, rfl, trivial⟩)
noncomputable def Qsc : Code := match Tryz.f182.body with | some c => c | none => .skip
noncomputable def Qag  (p1 : (List Qa0)) : Nat → Int → Option Int
 | 0, _ => none
 | n + 1, v2 =>
 if (decide (v2 < (p1.length : Int))) = true then
  Option.bind (rd p1 v2) fun x4 =>
  Option.bind (Qj3 x4) fun r5 =>
  if r5 = true then
   some v2
  else
   Qag p1 n (w64 (v2 + 1))
 else
  some (-1)
theorem Qdu {E : Env} (hP : E.P = Tryz.prog) (hn : E.n = 19) (hx : FX E []) (p1 : (List Qa0))  : ∀ (n : Nat) (v2 : Int) (r : Int), Qag p1 n v2 = some r → WAt E Qsc (FQ (Qf3 Θ Tryz.f182.results.toList [] [] (I r) E)) [true, false, true, false] ⟨[(0, (AV.ro 6 (p1.map Qb5))), (1, (AV.fn 189 [])), (7, (I (p1.length : Int))), (8, (I v2))], [], [JJ]⟩ := by
 intro n
 induction n with
 | zero => intro v2 r h; simp only [Qag] at h; cases h
 | succ n ih =>
  intro v2 r h
  simp only [Qag] at h
  let Z0 := (decide (v2 < (p1.length : Int)))
  rcases itS h with ⟨c3, h⟩ | ⟨c8, h⟩
  ·obtain ⟨x4, hx4, h⟩ := bnS h
   obtain ⟨r5, hr5, h⟩ := bnS h
   let P1 : List Prop := [Z0 = true, (0 : Int) ≤ v2, (p1.map Qb5)[v2.toNat]? = some (Qb5 x4), Qa5 Tryz.prog 189 [(AV.agg ((Qb5 x4)))] (B r5), Qa4 (B r5) = true]
   have AP1 : Qal P1 := ⟨c3, (rd0 hx4), (rdM Qb5 hx4), (Qsx hr5), rfl, trivial⟩
   rcases itS h with ⟨c6, h⟩ | ⟨c7, h⟩
   ·obtain rfl := sj h
    exact gR hP hn [hT 1, hh 7 (.row (Qb5 x4)), hh 9 (.callV [[]] (B r5)), hT 10] [] .raw (P1 ++ [r5 = true, (I v2) = (I v2), Qa4 (I v2) = true]) (Qa9 AP1 ⟨c6, rfl, rfl, trivial⟩)
   ·exact gT hP hn hx [hT 1, hh 7 (.row (Qb5 x4)), hh 9 (.callV [[]] (B r5)), hF 10] [] [0, 1, 7, 8] [] (P1 ++ [r5 = false]) (Qa9 AP1 ⟨c7, trivial⟩) (ih (w64 (v2 + 1)) _ h)
  ·obtain rfl := sj h
   exact gR hP hn [hF 1] [] .raw [Z0 = false, (I (-1)) = (I (-1)), Qa4 (I (-1)) = true] ⟨c8, rfl, rfl, trivial⟩
noncomputable def Qb4 (p1 : (List Qa0)) : Option Int :=
 Qag p1 FU 0
theorem Qek {p1 : (List Qa0)} {r : Int} (h : Qb4 p1 = some r) : Qa5 Tryz.prog 182 [(AV.ro 6 (p1.map Qb5)), (AV.fn 189 [])] (I r) := by
 refine gM Tryz.func182 19 Qsc fun E hP hn hx => ?_
 unfold Qb4 at h
 exact (let Z0 := (I (p1.length : Int)); gT hP hn hx [hO 2 Z0] [] [0, 1, 7, 8] [] [AV.lit (.int .i64 (((p1.map Qb5).length : Nat) : Int)) = Z0] ⟨(Qcw Qb5), trivial⟩ (Qdu hP hn hx p1 FU 0 _ h))
noncomputable def Qym : Code := match Tryz.f138.body with | some c => c | none => .skip
noncomputable def Qan (p1 : (List Qa0)) : Option Bool :=
 Option.bind (Qb4 p1) fun r2 =>
 some (decide (r2 ≥ 0))
theorem Qdv {p1 : (List Qa0)} {r : Bool} (h : Qan p1 = some r) : Qa5 Tryz.prog 138 [(AV.ro 6 (p1.map Qb5)), (AV.fn 189 [])] (B r) := by
 refine gM Tryz.func138 9 Qym fun E hP hn hx => ?_
 unfold Qan at h
 obtain ⟨r2, hr2, h⟩ := bnS h
 obtain rfl := sj h
 exact (let Z0 := B (decide (r2 ≥ 0)); gR hP hn [hh 3 (.callV [] (I r2))] [] .raw [Qa5 Tryz.prog 182 [(AV.ro 6 (p1.map Qb5)), (AV.fn 189 [])] (I r2), Qa4 (I r2) = true, Z0 = Z0, Qa4 Z0 = true] ⟨(Qek hr2), rfl, rfl, rfl, trivial⟩)
noncomputable def Qju (p1 : Qaf) (p2 : Qa2) (p3 : (List Int)) (p4 : Int) (p5 : Int) : Option Int :=
 if (p2.Fault != 0) = true then
  some 2
 else
  if ((p3.length : Int) == 0) = true then
   Option.bind (Qan p2.Threads) fun r9 =>
   if r9 = true then
    some 3
   else
    some 1
  else
   if (p4 == p5) = true then
    some 4
   else
    some 0
noncomputable def Xim : Code := match Tryz.f153.body with | some c => c | none => .skip
theorem Qir {p1 : Qaf} {p2 : Qa2} {p3 : (List Int)} {p4 : Int} {p5 : Int} {W0 W1 W2 : AV} {r : Int} (h : Qju p1 p2 p3 p4 p5 = some r) : Qa5 Tryz.prog 153 [(AV.agg ((r34 p1))), (AV.rop ([W0, W1, W2] ++ (r57 p2)) 3), (AV.ro 1 (p3.map o3)), (I p4), (I p5)] (I r) := by
 refine gM Tryz.func153 30 Xim fun E hP hn hx => ?_
 unfold Qju at h
 let Z0 := (I (p3.length : Int)); let Z1 := ((p3.length : Int) == 0)
 rcases itS h with ⟨c6, h⟩ | ⟨c7, h⟩
 ·obtain rfl := sj h
  exact gR hP hn [hW 0 1001, hT 8] [] .raw [(p2.Fault != 0) = true, (I 2) = (I 2), Qa4 (I 2) = true] ⟨c6, rfl, rfl, trivial⟩
 ·let H1 : List Hn := [hW 0 1001, hF 8, hO 10 Z0]
  let P2 : List Prop := [(p2.Fault != 0) = false, AV.lit (.int .i64 (((p3.map o3).length : Nat) : Int)) = Z0]
  have AP2 : Qal P2 := ⟨c7, (Qcw o3), trivial⟩
  rcases itS h with ⟨c8, h⟩ | ⟨c12, h⟩
  ·obtain ⟨r9, hr9, h⟩ := bnS h
   let P3 : List Prop := P2 ++ [Z1 = true, Qa5 Tryz.prog 138 [(AV.ro 6 (p2.Threads.map Qb5)), (AV.fn 189 [])] (B r9), Qa4 (B r9) = true]
   have AP3 : Qal P3 := Qa9 AP2 ⟨c8, (Qdv hr9), rfl, trivial⟩
   rcases itS h with ⟨c10, h⟩ | ⟨c11, h⟩
   ·obtain rfl := sj h
    exact gR hP hn (H1 ++ [hT 13, hh 18 (.callV [] (B r9)), hT 19]) [] .raw (P3 ++ [r9 = true, (I 3) = (I 3), Qa4 (I 3) = true]) (Qa9 AP3 ⟨c10, rfl, rfl, trivial⟩)
   ·obtain rfl := sj h
    exact gR hP hn (H1 ++ [hT 13, hh 18 (.callV [] (B r9)), hF 19]) [] .raw (P3 ++ [r9 = false, (I 1) = (I 1), Qa4 (I 1) = true]) (Qa9 AP3 ⟨c11, rfl, rfl, trivial⟩)
  ·rcases itS h with ⟨c13, h⟩ | ⟨c14, h⟩
   ·obtain rfl := sj h
    exact gR hP hn (H1 ++ [hF 13, hT 18]) [] .raw (P2 ++ [Z1 = false, (p4 == p5) = true, (I 4) = (I 4), Qa4 (I 4) = true]) (Qa9 AP2 ⟨c12, c13, rfl, rfl, trivial⟩)
   ·obtain rfl := sj h
    exact gR hP hn (H1 ++ [hF 13, hF 18]) [] .raw (P2 ++ [Z1 = false, (p4 == p5) = false, (I 0) = (I 0), Qa4 (I 0) = true]) (Qa9 AP2 ⟨c12, c14, rfl, rfl, trivial⟩)
noncomputable def Xix : Code := match Tryz.f154.body with | some c => c | none => .skip
noncomputable def Qg2 (p1 : (List Int)) (p2 : Int) (p3 : (List Int)) : Option Int :=
 if (decide (p2 ≥ (p3.length : Int))) = true then
  some 0
 else
  Option.bind (rd p3 p2) fun x6 =>
  Option.bind (nz (p1.length : Int)) fun q7 =>
  some (Int.tmod x6 (p1.length : Int))
theorem Qku {p1 : (List Int)} {p2 : Int} {p3 : (List Int)} {r : Int} (h : Qg2 p1 p2 p3 = some r) : Qa5 Tryz.prog 154 [(AV.ro 1 (p1.map o3)), (I p2), (AV.rop (r51 p3) 0)] (I r) := by
 refine gM Tryz.func154 17 Xix fun E hP hn hx => ?_
 unfold Qg2 at h
 let Z0 := (I (p3.length : Int)); let Z1 := (((p3.map o3).length : Nat) : Int); let Z2 := (decide (p2 ≥ (p3.length : Int))); let Z3 := (p1.length : Int)
 rcases itS h with ⟨c4, h⟩ | ⟨c5, h⟩
 ·obtain rfl := sj h
  exact gR hP hn [hO 3 Z0, hT 5] [] .raw [AV.lit (.int .i64 Z1) = Z0, Z2 = true, (I 0) = (I 0), Qa4 (I 0) = true] ⟨(Qcw o3), c4, rfl, rfl, trivial⟩
 ·obtain ⟨x6, hx6, h⟩ := bnS h
  obtain ⟨q7, hq7, h⟩ := bnS h
  obtain rfl := sj h
  exact (let Z4 := I (Int.tmod x6 Z3); gR hP hn [hO 3 Z0, hF 5, hh 8 (.row (o3 x6)), hO 11 (I Z3)] [] .raw [AV.lit (.int .i64 Z1) = Z0, Z2 = false, (0 : Int) ≤ p2, (p3.map o3)[p2.toNat]? = some (o3 x6), AV.lit (.int .i64 (((p1.map o3).length : Nat) : Int)) = (I Z3), Z3 ≠ (0 : Int), Z4 = Z4, Qa4 Z4 = true] ⟨(Qcw o3), c5, (rd0 hx6), (rdM o3 hx6), (Qcw o3), (nzE hq7), rfl, rfl, trivial⟩)
noncomputable def Xdq : Code := match Tryz.f127.body with | some c => c | none => .skip
noncomputable def Qe7  (l4 : (List Int)) : Nat → Qa2 → Qa2 → Int → Option Qa2
 | 0, _, _, _ => none
 | n + 1, a5, a6, v7 =>
 if (decide (v7 < (l4.length : Int))) = true then
  Option.bind (rd a6.Owner v7) fun x9 =>
  Qe7 l4 n a5 (Qa2.mk a6.Threads a6.Cells (a6.Owner.set (Int.toNat v7) (-1)) a6.Fault) (w64 (v7 + 1))
 else
  some (Qa2.mk a6.Threads a6.Cells a6.Owner a6.Fault)
theorem Qsp {E : Env} (hP : E.P = Tryz.prog) (hn : E.n = 26) (hx : FX E []) (l4 : (List Int))  : ∀ (n : Nat) (a5 : Qa2) (a6 : Qa2) (v7 : Int) (r : Qa2), Qe7 l4 n a5 a6 v7 = some r → WAt E Xdq (FQ (Qf3 Θ Tryz.f127.results.toList [] [] (AV.agg (o57 r)) E)) [true, true, false, true, false] ⟨[(2, (AV.ptr 1 0 0)), (3, (AV.ptr 2 0 0)), (16, (I (l4.length : Int))), (17, (I v7))], [(1, some ⟨57, 4, [((o57 a5))]⟩), (2, some ⟨57, 4, [((o57 a6))]⟩)], [1, 2, JJ]⟩ := by
 intro n
 induction n with
 | zero => intro a5 a6 v7 r h; simp only [Qe7] at h; cases h
 | succ n ih =>
  intro a5 a6 v7 r h
  simp only [Qe7] at h
  let Z0 := o57 a6; let Z1 := a6.Owner.map o3; let Z2 := a6.Threads.map Qaa; let Z3 := AV.own 179 6 Z2; let Z4 := a6.Cells.map Qae; let Z5 := AV.own 142 1 Z4; let Z6 := AV.sl 1001 0 Z1.length; let Z7 := I a6.Fault; let Z8 := [Z3, Z5, Z6, Z7]; let Z9 := a6.Owner.set v7.toNat (-1); let Z10 := Z9.map o3; let Z11 := [[Z3, Z5, (AV.own 3 1 Z10), Z7]]; let Z12 := (decide (v7 < (l4.length : Int))); let Z13 := AV.own 3 1 Z1; let Z14 := Qa2.mk a6.Threads a6.Cells Z9 a6.Fault; let Z15 := AV.sl 1002 0 Z2.length; let Z16 := [Z15, Z5, Z13, Z7]; let Z17 := AV.sl 1003 0 Z4.length; let Z18 := [Z15, Z17, Z13, Z7]; let Z19 := AV.sl 1004 0 Z1.length; let Z20 := [[Z15, Z17, Z19, Z7]]
  rcases itS h with ⟨c8, h⟩ | ⟨c10, h⟩
  ·obtain ⟨x9, hx9, h⟩ := bnS h
   exact gT hP hn hx [hT 1, hh 5 (.unpack 2 1001 0 2 Z0 3 1 Z1 [Z8]), hh 8 (.sto [(I x9)] Z10), hh 11 (.pack 2 1001 0 2 Z8 Z11)] [(1, 1), (2, 2)] [2, 3, 16, 17] [] [Z12 = true, [Z0][0]? = some Z0, Z0[2]? = some Z13, 0 < 1, [Z0].set 0 (Z0.set 2 Z6) = [Z8], (0 : Int) ≤ v7, v7 < ((Z1.length : Nat) : Int), Z1[v7.toNat]? = some [(I x9)], Z1.set v7.toNat (wr [(I x9)] 0 [(I (-1))]) = Z10, [(I (-1))].length = 1, 0 + [(I (-1))].length ≤ [(I x9)].length, [Z8][0]? = some Z8, Z8[2]? = some (AV.sl 1001 0 Z10.length), Qa1 Z10 = true, [Z8].set 0 (Z8.set 2 (AV.own 3 1 Z10)) = Z11, Qab [(1, 1), (2, 2)] [((o57 a5))], Qab [(1, 1), (2, 2)] Z11] ⟨c8, rfl, rfl, (by decide), rfl, (rd0 hx9), (rdL o3 hx9), (rdM o3 hx9), (Qwt o3), rfl, leB, rfl, (pkS lnq), (Qa8 t3), rfl, (rok (Qay t57 a5)), (rok (Qay t57 Z14)), trivial⟩ (ih a5 Z14 (w64 (v7 + 1)) _ h)
  ·obtain rfl := sj h
   exact gR hP hn [hF 1, hh 2 (.unpack 2 1002 0 0 Z0 179 6 Z2 [Z16]), hh 2 (.unpack 2 1003 0 1 Z16 142 1 Z4 [Z18]), hh 2 (.unpack 2 1004 0 2 Z18 3 1 Z1 Z20)] [] (.agg [.own, .own, .own, .raw]) [Z12 = false, [Z0][0]? = some Z0, Z0[0]? = some Z3, 0 < 6, [Z0].set 0 (Z0.set 0 Z15) = [Z16], [Z16][0]? = some Z16, Z16[1]? = some Z5, 0 < 1, [Z16].set 0 (Z16.set 1 Z17) = [Z18], [Z18][0]? = some Z18, Z18[2]? = some Z13, 0 < 1, [Z18].set 0 (Z18.set 2 Z19) = Z20, Qa1 (Z2.take Z2.length) = true, Z2.take Z2.length = Z2, Qa3 Z2 = true, Qa1 (Z4.take Z4.length) = true, Z4.take Z4.length = Z4, Qa3 Z4 = true, Qa1 (Z1.take Z1.length) = true, Z1.take Z1.length = Z1, Qa3 Z1 = true, Z7 = Z7, Qa4 Z7 = true] ⟨c10, rfl, rfl, (by decide), rfl, rfl, rfl, (by decide), rfl, rfl, rfl, (by decide), rfl, (Qb2 Qch), Qb1, (Qa7 Qgn), (Qb2 Qbo), Qb1, (Qa7 Qen), (Qb2 t3), Qb1, (Qa7 n3), rfl, rfl, trivial⟩
noncomputable def Qj8 (p1 : Qaf) : Option Qa2 :=
 Option.bind (Qfm 0) fun r2 =>
 Option.bind (mk 0 p1.Cells) fun l3 =>
 Option.bind (mk 0 p1.Locks) fun l4 =>
 Qe7 l4 FU (Qa2.mk [] [] [] 0) (Qa2.mk [(Qa0.mk r2.Routine r2.Pc r2.State r2.Cond r2.Lock r2.Stack)] l3 l4 0) 0
theorem Qy7 {p1 : Qaf} {r : Qa2} (h : Qj8 p1 = some r) : Qa5 Tryz.prog 127 [(AV.agg ((r34 p1)))] (AV.agg (o57 r)) := by
 refine gM Tryz.func127 26 Xdq fun E hP hn hx => ?_
 unfold Qj8 at h
 obtain ⟨r2, hr2, h⟩ := bnS h
 obtain ⟨l3, hl3, h⟩ := bnS h
 obtain ⟨l4, hl4, h⟩ := bnS h
 exact (let Z0 := AV.agg (Qaa r2); let Z1 := l3.map Qae; let Z2 := AV.sl 1005 0 Z1.length; let Z3 := l4.map o3; let Z4 := AV.sl 1006 0 Z3.length; let Z5 := (I (l4.length : Int)); let Z6 := AV.own 179 6 ([].map Qaa); let Z7 := [[Z6, nS, nS, (I 0)]]; let Z8 := AV.own 142 1 ([].map Qae); let Z9 := [[Z6, Z8, nS, (I 0)]]; let Z10 := [(I 0)]; let Z11 := [[Z6, Z8, (AV.own 3 1 ([].map o3)), (I 0)]]; let Z12 := r2.Stack.map Qae; let Z13 := AV.sl 1003 0 Z12.length; let Z14 := [(I r2.Routine), (I r2.Pc), (I r2.State), (I r2.Cond), (I r2.Lock), Z13]; let Z15 := [(Qa0.mk r2.Routine r2.Pc r2.State r2.Cond r2.Lock r2.Stack)].map Qaa; let Z16 := AV.sl 1004 0 [Z14].length; let Z17 := [Z16, Z2, Z4, (I 0)]; let Z18 := AV.own 179 6 Z15; let Z19 := [Z18, Z2, Z4, (I 0)]; let Z20 := AV.own 142 1 Z1; let Z21 := [Z18, Z20, Z4, (I 0)]; let Z22 := [[Z18, Z20, (AV.own 3 1 Z3), (I 0)]]; let Z23 := AV.agg Z14; let Z24 := ((rtf Z0 [1003]).2.1).map sm; let Z25 := ([(1004, (Qam.mk 179 6 [Z14]))].map sm); let Z26 := AV.ptr 1001 0 0; let Z27 := I p1.Cells; let Z28 := [(1005, (Qam.mk 142 1 Z1))].map sm; let Z29 := ((8 : Nat) : Int); let Z30 := AV.ptr 1001 0 1; let Z31 := I p1.Locks; let Z32 := [(1006, (Qam.mk 3 1 Z3))].map sm; let Z33 := AV.agg Z17; let Z34 := AV.ptr 1007 0 0; let Z35 := ([(1007, (Qam.mk 57 4 [[nS, nS, nS, (I 0)]]))].map sm); let Z36 := Qa2.mk [] [] [] 0; let Z37 := Qa2.mk [(Qa0.mk r2.Routine r2.Pc r2.State r2.Cond r2.Lock r2.Stack)] l3 l4 0; gT hP hn hx [hW 0 1001, hW 1 1002, hh 2 (.call [] Z0 [1003]), hW 3 1004, ⟨6, .nw 1005 Z1, some Z2⟩, ⟨9, .nw 1006 Z3, some Z4⟩, hW 11 1007, hO 15 Z5, hh 17 (.own0 1002 1 [] [nS, nS, (I 0)] 179 6 Z7), hh 17 (.own0 1002 1 [Z6] [nS, (I 0)] 142 1 Z9), hh 17 (.own0 1002 1 [Z6, Z8] Z10 3 1 Z11), hh 17 (.pack 1004 1003 0 5 Z14 Z15), hh 17 (.pack 1007 1004 0 0 Z17 [Z19]), hh 17 (.pack 1007 1005 0 1 Z19 [Z21]), hh 17 (.pack 1007 1006 0 2 Z21 Z22)] [(1002, 1), (1007, 2)] [2, 3, 16, 17] [] [Z23 = Z23, Z24 = Z24, Qa5 Tryz.prog 175 Z10 Z0, Qca Z0 = true, Z23 = Z23, Z24 = Z24, Qa5 Tryz.prog 175 Z10 Z0, Qca Z0 = true, Z23 = Z23, Z24 = Z24, Qa5 Tryz.prog 175 Z10 Z0, Qca Z0 = true, Z23 = Z23, Z24 = Z24, Qa5 Tryz.prog 175 Z10 Z0, Qca Z0 = true, Z23 = Z23, Z24 = Z24, Qa5 Tryz.prog 175 Z10 Z0, Qca Z0 = true, Z23 = Z23, Z24 = Z24, Qa5 Tryz.prog 175 Z10 Z0, Qca Z0 = true, Z23 = Z23, Z24 = Z24, Qa5 Tryz.prog 175 Z10 Z0, Qca Z0 = true, Z23 = Z23, Z24 = Z24, Qa5 Tryz.prog 175 Z10 Z0, Qca Z0 = true, Z16 = Z16, Z25 = Z25, Z16 = Z16, Z25 = Z25, Z16 = Z16, Z25 = Z25, Z16 = Z16, Z25 = Z25, Z16 = Z16, Z25 = Z25, Z16 = Z16, Z25 = Z25, Z16 = Z16, Z25 = Z25, Z16 = Z16, Z25 = Z25, Z26 = Z26, Z26 = Z26, Z26 = Z26, Z26 = Z26, Z26 = Z26, Z26 = Z26, Z26 = Z26, Z26 = Z26, Z26 = Z26, Z26 = Z26, Z26 = Z26, Z26 = Z26, Z27 = Z27, Z27 = Z27, Z27 = Z27, Z27 = Z27, Z27 = Z27, Z27 = Z27, Z27 = Z27, Z27 = Z27, Z27 = Z27, Z27 = Z27, Z27 = Z27, Z27 = Z27, Z2 = Z2, Z28 = Z28, List.replicate p1.Cells.toNat [.lit (.float .f64 0)] = Z1, AV.sl 1005 0 p1.Cells.toNat = Z2, p1.Cells = p1.Cells, (0 : Int) ≤ p1.Cells, p1.Cells * Z29 ≤ 140737488355328, p1.Cells ≤ 140737488355328, Z2 = Z2, Z28 = Z28, List.replicate p1.Cells.toNat [.lit (.float .f64 0)] = Z1, AV.sl 1005 0 p1.Cells.toNat = Z2, p1.Cells = p1.Cells, (0 : Int) ≤ p1.Cells, p1.Cells * Z29 ≤ 140737488355328, p1.Cells ≤ 140737488355328, Z2 = Z2, Z28 = Z28, List.replicate p1.Cells.toNat [.lit (.float .f64 0)] = Z1, AV.sl 1005 0 p1.Cells.toNat = Z2, p1.Cells = p1.Cells, (0 : Int) ≤ p1.Cells, p1.Cells * Z29 ≤ 140737488355328, p1.Cells ≤ 140737488355328, Z2 = Z2, Z28 = Z28, List.replicate p1.Cells.toNat [.lit (.float .f64 0)] = Z1, AV.sl 1005 0 p1.Cells.toNat = Z2, p1.Cells = p1.Cells, (0 : Int) ≤ p1.Cells, p1.Cells * Z29 ≤ 140737488355328, p1.Cells ≤ 140737488355328, Z2 = Z2, Z28 = Z28, List.replicate p1.Cells.toNat [.lit (.float .f64 0)] = Z1, AV.sl 1005 0 p1.Cells.toNat = Z2, p1.Cells = p1.Cells, (0 : Int) ≤ p1.Cells, p1.Cells * Z29 ≤ 140737488355328, p1.Cells ≤ 140737488355328, Z2 = Z2, Z28 = Z28, List.replicate p1.Cells.toNat [.lit (.float .f64 0)] = Z1, AV.sl 1005 0 p1.Cells.toNat = Z2, p1.Cells = p1.Cells, (0 : Int) ≤ p1.Cells, p1.Cells * Z29 ≤ 140737488355328, p1.Cells ≤ 140737488355328, Z2 = Z2, Z28 = Z28, List.replicate p1.Cells.toNat [.lit (.float .f64 0)] = Z1, AV.sl 1005 0 p1.Cells.toNat = Z2, p1.Cells = p1.Cells, (0 : Int) ≤ p1.Cells, p1.Cells * Z29 ≤ 140737488355328, p1.Cells ≤ 140737488355328, Z2 = Z2, Z28 = Z28, List.replicate p1.Cells.toNat [.lit (.float .f64 0)] = Z1, AV.sl 1005 0 p1.Cells.toNat = Z2, p1.Cells = p1.Cells, (0 : Int) ≤ p1.Cells, p1.Cells * Z29 ≤ 140737488355328, p1.Cells ≤ 140737488355328, Z2 = Z2, Z28 = Z28, List.replicate p1.Cells.toNat [.lit (.float .f64 0)] = Z1, AV.sl 1005 0 p1.Cells.toNat = Z2, p1.Cells = p1.Cells, (0 : Int) ≤ p1.Cells, p1.Cells * Z29 ≤ 140737488355328, p1.Cells ≤ 140737488355328, Z2 = Z2, Z28 = Z28, List.replicate p1.Cells.toNat [.lit (.float .f64 0)] = Z1, AV.sl 1005 0 p1.Cells.toNat = Z2, p1.Cells = p1.Cells, (0 : Int) ≤ p1.Cells, p1.Cells * Z29 ≤ 140737488355328, p1.Cells ≤ 140737488355328, Z2 = Z2, Z28 = Z28, List.replicate p1.Cells.toNat [.lit (.float .f64 0)] = Z1, AV.sl 1005 0 p1.Cells.toNat = Z2, p1.Cells = p1.Cells, (0 : Int) ≤ p1.Cells, p1.Cells * Z29 ≤ 140737488355328, p1.Cells ≤ 140737488355328, Z2 = Z2, Z28 = Z28, List.replicate p1.Cells.toNat [.lit (.float .f64 0)] = Z1, AV.sl 1005 0 p1.Cells.toNat = Z2, p1.Cells = p1.Cells, (0 : Int) ≤ p1.Cells, p1.Cells * Z29 ≤ 140737488355328, p1.Cells ≤ 140737488355328, Z30 = Z30, Z30 = Z30, Z30 = Z30, Z30 = Z30, Z30 = Z30, Z30 = Z30, Z30 = Z30, Z30 = Z30, Z30 = Z30, Z30 = Z30, Z30 = Z30, Z30 = Z30, Z31 = Z31, Z31 = Z31, Z31 = Z31, Z31 = Z31, Z31 = Z31, Z31 = Z31, Z31 = Z31, Z31 = Z31, Z31 = Z31, Z31 = Z31, Z31 = Z31, Z31 = Z31, Z4 = Z4, Z32 = Z32, List.replicate p1.Locks.toNat [.lit (.int .i64 0)] = Z3, AV.sl 1006 0 p1.Locks.toNat = Z4, p1.Locks = p1.Locks, (0 : Int) ≤ p1.Locks, p1.Locks * Z29 ≤ 140737488355328, p1.Locks ≤ 140737488355328, Z4 = Z4, Z32 = Z32, List.replicate p1.Locks.toNat [.lit (.int .i64 0)] = Z3, AV.sl 1006 0 p1.Locks.toNat = Z4, p1.Locks = p1.Locks, (0 : Int) ≤ p1.Locks, p1.Locks * Z29 ≤ 140737488355328, p1.Locks ≤ 140737488355328, Z4 = Z4, Z32 = Z32, List.replicate p1.Locks.toNat [.lit (.int .i64 0)] = Z3, AV.sl 1006 0 p1.Locks.toNat = Z4, p1.Locks = p1.Locks, (0 : Int) ≤ p1.Locks, p1.Locks * Z29 ≤ 140737488355328, p1.Locks ≤ 140737488355328, Z4 = Z4, Z32 = Z32, List.replicate p1.Locks.toNat [.lit (.int .i64 0)] = Z3, AV.sl 1006 0 p1.Locks.toNat = Z4, p1.Locks = p1.Locks, (0 : Int) ≤ p1.Locks, p1.Locks * Z29 ≤ 140737488355328, p1.Locks ≤ 140737488355328, Z4 = Z4, Z32 = Z32, List.replicate p1.Locks.toNat [.lit (.int .i64 0)] = Z3, AV.sl 1006 0 p1.Locks.toNat = Z4, p1.Locks = p1.Locks, (0 : Int) ≤ p1.Locks, p1.Locks * Z29 ≤ 140737488355328, p1.Locks ≤ 140737488355328, Z4 = Z4, Z32 = Z32, List.replicate p1.Locks.toNat [.lit (.int .i64 0)] = Z3, AV.sl 1006 0 p1.Locks.toNat = Z4, p1.Locks = p1.Locks, (0 : Int) ≤ p1.Locks, p1.Locks * Z29 ≤ 140737488355328, p1.Locks ≤ 140737488355328, Z4 = Z4, Z32 = Z32, List.replicate p1.Locks.toNat [.lit (.int .i64 0)] = Z3, AV.sl 1006 0 p1.Locks.toNat = Z4, p1.Locks = p1.Locks, (0 : Int) ≤ p1.Locks, p1.Locks * Z29 ≤ 140737488355328, p1.Locks ≤ 140737488355328, Z4 = Z4, Z32 = Z32, List.replicate p1.Locks.toNat [.lit (.int .i64 0)] = Z3, AV.sl 1006 0 p1.Locks.toNat = Z4, p1.Locks = p1.Locks, (0 : Int) ≤ p1.Locks, p1.Locks * Z29 ≤ 140737488355328, p1.Locks ≤ 140737488355328, Z4 = Z4, Z32 = Z32, List.replicate p1.Locks.toNat [.lit (.int .i64 0)] = Z3, AV.sl 1006 0 p1.Locks.toNat = Z4, p1.Locks = p1.Locks, (0 : Int) ≤ p1.Locks, p1.Locks * Z29 ≤ 140737488355328, p1.Locks ≤ 140737488355328, Z4 = Z4, Z32 = Z32, List.replicate p1.Locks.toNat [.lit (.int .i64 0)] = Z3, AV.sl 1006 0 p1.Locks.toNat = Z4, p1.Locks = p1.Locks, (0 : Int) ≤ p1.Locks, p1.Locks * Z29 ≤ 140737488355328, p1.Locks ≤ 140737488355328, Z4 = Z4, Z32 = Z32, List.replicate p1.Locks.toNat [.lit (.int .i64 0)] = Z3, AV.sl 1006 0 p1.Locks.toNat = Z4, p1.Locks = p1.Locks, (0 : Int) ≤ p1.Locks, p1.Locks * Z29 ≤ 140737488355328, p1.Locks ≤ 140737488355328, Z4 = Z4, Z32 = Z32, List.replicate p1.Locks.toNat [.lit (.int .i64 0)] = Z3, AV.sl 1006 0 p1.Locks.toNat = Z4, p1.Locks = p1.Locks, (0 : Int) ≤ p1.Locks, p1.Locks * Z29 ≤ 140737488355328, p1.Locks ≤ 140737488355328, Z33 = Z33, Z33 = Z33, Z34 = Z34, Z35 = Z35, Z34 = Z34, Z35 = Z35, Z34 = Z34, Z35 = Z35, Z34 = Z34, Z35 = Z35, Z34 = Z34, Z35 = Z35, Z34 = Z34, Z35 = Z35, Z34 = Z34, Z35 = Z35, Z34 = Z34, Z35 = Z35, Z34 = Z34, Z35 = Z35, Z34 = Z34, Z35 = Z35, Z34 = Z34, Z35 = Z35, Z34 = Z34, Z35 = Z35, AV.lit (.int .i64 ((Z3.length : Nat) : Int)) = Z5, [[nS, nS, nS, (I 0)]] = List.replicate 1 ([] ++ AV.lit (.slice none 0 0) :: [nS, nS, (I 0)]), List.replicate 1 ([] ++ AV.own 179 6 [] :: [nS, nS, (I 0)]) = Z7, Z7 = List.replicate 1 ([Z6] ++ AV.lit (.slice none 0 0) :: [nS, (I 0)]), List.replicate 1 ([Z6] ++ AV.own 142 1 [] :: [nS, (I 0)]) = Z9, Z9 = List.replicate 1 ([Z6, Z8] ++ AV.lit (.slice none 0 0) :: Z10), List.replicate 1 ([Z6, Z8] ++ AV.own 3 1 [] :: Z10) = Z11, [Z14][0]? = some Z14, Z14[5]? = some Z13, Qa1 Z12 = true, [Z14].set 0 (Z14.set 5 (AV.own 142 1 Z12)) = Z15, [Z17][0]? = some Z17, Z17[0]? = some (AV.sl 1004 0 Z15.length), Qa1 Z15 = true, [Z17].set 0 (Z17.set 0 Z18) = [Z19], [Z19][0]? = some Z19, Z19[1]? = some Z2, Qa1 Z1 = true, [Z19].set 0 (Z19.set 1 Z20) = [Z21], [Z21][0]? = some Z21, Z21[2]? = some Z4, Qa1 Z3 = true, [Z21].set 0 (Z21.set 2 (AV.own 3 1 Z3)) = Z22, Qab [(1002, 1), (1007, 2)] Z11, Qab [(1002, 1), (1007, 2)] Z22] ⟨rfl, rfl, (Qc4 hr2), (by simp +zetaDelta only [Qca, Qbi, Qa7 Qen, Qaa, Bool.and_self]), rfl, rfl, (Qc4 hr2), (by simp +zetaDelta only [Qca, Qbi, Qa7 Qen, Qaa, Bool.and_self]), rfl, rfl, (Qc4 hr2), (by simp +zetaDelta only [Qca, Qbi, Qa7 Qen, Qaa, Bool.and_self]), rfl, rfl, (Qc4 hr2), (by simp +zetaDelta only [Qca, Qbi, Qa7 Qen, Qaa, Bool.and_self]), rfl, rfl, (Qc4 hr2), (by simp +zetaDelta only [Qca, Qbi, Qa7 Qen, Qaa, Bool.and_self]), rfl, rfl, (Qc4 hr2), (by simp +zetaDelta only [Qca, Qbi, Qa7 Qen, Qaa, Bool.and_self]), rfl, rfl, (Qc4 hr2), (by simp +zetaDelta only [Qca, Qbi, Qa7 Qen, Qaa, Bool.and_self]), rfl, rfl, (Qc4 hr2), (by simp +zetaDelta only [Qca, Qbi, Qa7 Qen, Qaa, Bool.and_self]), rfl, rfl, rfl, rfl, rfl, rfl, rfl, rfl, rfl, rfl, rfl, rfl, rfl, rfl, rfl, rfl, rfl, rfl, rfl, rfl, rfl, rfl, rfl, rfl, rfl, rfl, rfl, rfl, rfl, rfl, rfl, rfl, rfl, rfl, rfl, rfl, rfl, rfl, rfl, rfl, rfl, rfl, (mkM Qae hl3), (mkS Qae hl3), rfl, (mk0 hl3), (mkB hl3 (by decide)), (mkC hl3), rfl, rfl, (mkM Qae hl3), (mkS Qae hl3), rfl, (mk0 hl3), (mkB hl3 (by decide)), (mkC hl3), rfl, rfl, (mkM Qae hl3), (mkS Qae hl3), rfl, (mk0 hl3), (mkB hl3 (by decide)), (mkC hl3), rfl, rfl, (mkM Qae hl3), (mkS Qae hl3), rfl, (mk0 hl3), (mkB hl3 (by decide)), (mkC hl3), rfl, rfl, (mkM Qae hl3), (mkS Qae hl3), rfl, (mk0 hl3), (mkB hl3 (by decide)), (mkC hl3), rfl, rfl, (mkM Qae hl3), (mkS Qae hl3), rfl, (mk0 hl3), (mkB hl3 (by decide)), (mkC hl3), rfl, rfl, (mkM Qae hl3), (mkS Qae hl3), rfl, (mk0 hl3), (mkB hl3 (by decide)), (mkC hl3), rfl, rfl, (mkM Qae hl3), (mkS Qae hl3), rfl, (mk0 hl3), (mkB hl3 (by decide)), (mkC hl3), rfl, rfl, (mkM Qae hl3), (mkS Qae hl3), rfl, (mk0 hl3), (mkB hl3 (by decide)), (mkC hl3), rfl, rfl, (mkM Qae hl3), (mkS Qae hl3), rfl, (mk0 hl3), (mkB hl3 (by decide)), (mkC hl3), rfl, rfl, (mkM Qae hl3), (mkS Qae hl3), rfl, (mk0 hl3), (mkB hl3 (by decide)), (mkC hl3), rfl, rfl, (mkM Qae hl3), (mkS Qae hl3), rfl, (mk0 hl3), (mkB hl3 (by decide)), (mkC hl3), rfl, rfl, rfl, rfl, rfl, rfl, rfl, rfl, rfl, rfl, rfl, rfl, rfl, rfl, rfl, rfl, rfl, rfl, rfl, rfl, rfl, rfl, rfl, rfl, rfl, rfl, (mkM o3 hl4), (mkS o3 hl4), rfl, (mk0 hl4), (mkB hl4 (by decide)), (mkC hl4), rfl, rfl, (mkM o3 hl4), (mkS o3 hl4), rfl, (mk0 hl4), (mkB hl4 (by decide)), (mkC hl4), rfl, rfl, (mkM o3 hl4), (mkS o3 hl4), rfl, (mk0 hl4), (mkB hl4 (by decide)), (mkC hl4), rfl, rfl, (mkM o3 hl4), (mkS o3 hl4), rfl, (mk0 hl4), (mkB hl4 (by decide)), (mkC hl4), rfl, rfl, (mkM o3 hl4), (mkS o3 hl4), rfl, (mk0 hl4), (mkB hl4 (by decide)), (mkC hl4), rfl, rfl, (mkM o3 hl4), (mkS o3 hl4), rfl, (mk0 hl4), (mkB hl4 (by decide)), (mkC hl4), rfl, rfl, (mkM o3 hl4), (mkS o3 hl4), rfl, (mk0 hl4), (mkB hl4 (by decide)), (mkC hl4), rfl, rfl, (mkM o3 hl4), (mkS o3 hl4), rfl, (mk0 hl4), (mkB hl4 (by decide)), (mkC hl4), rfl, rfl, (mkM o3 hl4), (mkS o3 hl4), rfl, (mk0 hl4), (mkB hl4 (by decide)), (mkC hl4), rfl, rfl, (mkM o3 hl4), (mkS o3 hl4), rfl, (mk0 hl4), (mkB hl4 (by decide)), (mkC hl4), rfl, rfl, (mkM o3 hl4), (mkS o3 hl4), rfl, (mk0 hl4), (mkB hl4 (by decide)), (mkC hl4), rfl, rfl, (mkM o3 hl4), (mkS o3 hl4), rfl, (mk0 hl4), (mkB hl4 (by decide)), (mkC hl4), rfl, rfl, rfl, rfl, rfl, rfl, rfl, rfl, rfl, rfl, rfl, rfl, rfl, rfl, rfl, rfl, rfl, rfl, rfl, rfl, rfl, rfl, rfl, rfl, rfl, rfl, (Qcw o3), rfl, rfl, rfl, rfl, rfl, rfl, rfl, rfl, (Qa8 Qbo), rfl, rfl, (pkS lnq), (Qa8 Qch), rfl, rfl, rfl, (Qa8 Qbo), rfl, rfl, rfl, (Qa8 t3), rfl, (rok (Qay t57 Z36)), (rok (Qay t57 Z37)), trivial⟩ (Qsp hP hn hx l4 FU Z36 Z37 0 _ h))
noncomputable def Qug : Code := match Tryz.f87.body with | some c => c | none => .skip
noncomputable def Qb9  (p2 : Int) (p3 : (List Int)) : Nat → Qaf → Qcy → Qcy → Int → Option (Qcy × Bool)
 | 0, _, _, _, _ => none
 | n + 1, a5, a6, a7, v8 =>
 Option.bind (Qe8 a7.End a5) fun r9 =>
 Option.bind (Qju a5 a7.End r9 v8 p2) fun r10 =>
 if (r10 != 0) = true then
  Option.bind (Qet (Qa2.mk a7.End.Threads a7.End.Cells a7.End.Owner a7.End.Fault)) fun r12 =>
  some ((Qcy.mk r10 a7.Trace a7.Picks (Qa2.mk r12.Threads r12.Cells r12.Owner r12.Fault)), true)
 else
  Option.bind (Qg2 r9 v8 p3) fun r14 =>
  if (decide (r14 < 0)) = true then
   some ((Qcy.mk 0 [] [] (Qa2.mk [] [] [] 0)), false)
  else
   Option.bind (app a7.Picks [r14]) fun l17 =>
   Option.bind (rd r9 r14) fun x18 =>
   Option.bind (Qev a7.End a5 x18) fun r19 =>
   Option.bind (app a7.Trace [r19.1]) fun l20 =>
   Qb9 p2 p3 n a5 a6 (Qcy.mk r10 l20 l17 r19.2) (w64 (v8 + 1))
theorem Qi9 {E : Env} (hP : E.P = Tryz.prog) (hn : E.n = 62) (hx : FX E []) (p2 : Int) (p3 : (List Int))  : ∀ (n : Nat) (a5 : Qaf) (a6 : Qcy) (a7 : Qcy) (v8 : Int) (r : (Qcy × Bool)), Qb9 p2 p3 n a5 a6 a7 v8 = some r → WAt E Qug (FQ (Qf3 Θ Tryz.f87.results.toList [] [] (AV.tup [(AV.agg (o70 r.1)), (B r.2)]) E)) [true, true, true, false] ⟨[(1, (I p2)), (2, (AV.fn 154 [(AV.rop (r51 p3) 0)])), (3, (AV.ptr 1 0 0)), (6, (AV.ptr 2 0 0)), (8, (AV.ptr 3 0 0)), (9, (I v8))], [(1, some ⟨34, 4, [((r34 a5))]⟩), (2, some ⟨70, 7, [((o70 a6))]⟩), (3, some ⟨70, 7, [((o70 a7))]⟩)], [1, 2, 3, JJ]⟩ := by
 have hm : E.P.follows .mixedOrders = true := by rw [hP]; exact Xb5
 have hΘ : TOK E.P Θ := by rw [hP]; exact Qv7
 intro n
 induction n with
 | zero => intro a5 a6 a7 v8 r h; simp only [Qb9] at h; cases h
 | succ n ih =>
  intro a5 a6 a7 v8 r h
  simp only [Qb9] at h
  obtain ⟨r9, hr9, h⟩ := bnS h
  obtain ⟨r10, hr10, h⟩ := bnS h
  let Z0 := o70 a7; let Z1 := r9.map o3; let Z2 := AV.own 3 1 Z1; let Z3 := I r10; let Z4 := (Z1.drop 0).take Z1.length; let Z5 := a7.Trace.map o59; let Z6 := a7.Picks.map o3; let Z7 := AV.own 3 1 Z6; let Z8 := [Z3, (AV.own 59 5 Z5), Z7] ++ (o57 a7.End); let Z9 := AV.sl 1002 0 Z5.length; let Z10 := [Z3, Z9, Z7] ++ (o57 a7.End); let Z11 := AV.sl 1003 0 Z6.length; let Z12 := [Z3, Z9, Z11] ++ (o57 a7.End); let Z13 := a7.End.Threads.map Qaa; let Z14 := AV.sl 1004 0 Z13.length; let Z15 := a7.End.Cells.map Qae; let Z16 := a7.End.Owner.map o3; let Z17 := AV.own 3 1 Z16; let Z18 := I a7.End.Fault; let Z19 := [Z3, Z9, Z11, Z14, (AV.own 142 1 Z15), Z17, Z18]; let Z20 := AV.sl 1005 0 Z15.length; let Z21 := [Z3, Z9, Z11, Z14, Z20, Z17, Z18]; let Z22 := AV.sl 1006 0 Z16.length; let Z23 := [[Z3, Z9, Z11, Z14, Z20, Z22, Z18]]; let Z24 := a7.End.Threads.map Qb5
  let H1 : List Hn := [hh 2 (.call [[Z0, (r70 a7)], []] Z2 [1001]), hh 9 (.callV [[], [Z0, (r70 a7)], Z1] Z3)]
  let P2 : List Prop := [Qa5 Tryz.prog 75 [(AV.rop (r70 a7) 3), (AV.agg ((r34 a5)))] Z2, Qca Z2 = true, [Z0][0]? = some Z0, Qcl Z0 = true, Qiu Z0 = (r70 a7), Qa5 Tryz.prog 153 [(AV.agg ((r34 a5))), (AV.rop (r70 a7) 3), (AV.ro 1 Z1), (I v8), (I p2)] Z3, Qa4 Z3 = true, [Z0][0]? = some Z0, Qcl Z0 = true, Qiu Z0 = (r70 a7), Frz Z4 Z1]
  have AP2 : Qal P2 := ⟨(Qg0 hr9), (by simp +zetaDelta only [Qca, Qbi, Qa7 n3, Bool.and_self]), rfl, rfl, (z70 a7), (Qir hr10), rfl, rfl, rfl, (z70 a7), (Qfi t3 z3), trivial⟩
  rcases itS h with ⟨c11, h⟩ | ⟨c13, h⟩
  ·obtain ⟨r12, hr12, h⟩ := bnS h
   obtain rfl := sj h
   exact (let Z25 := AV.agg (o57 r12); let Z26 := r12.Threads.map Qaa; let Z27 := r12.Cells.map Qae; let Z28 := r12.Owner.map o3; let Z29 := I r12.Fault; gR hP hn (H1 ++ [hT 15, hh 17 (.unpack 3 1002 0 1 Z8 59 5 Z5 [Z10]), hh 17 (.unpack 3 1003 0 2 Z10 3 1 Z6 [Z12]), hh 17 (.unpack 3 1004 0 3 Z12 179 6 Z13 [Z19]), hh 17 (.unpack 3 1005 0 4 Z19 142 1 Z15 [Z21]), hh 17 (.unpack 3 1006 0 5 Z21 3 1 Z16 Z23), hh 18 (.call [[], Z24, Z15, Z16] Z25 [1007, 1008, 1009])]) [] (.agg [.agg [.raw, .own, .own, .own, .own, .own, .raw], .raw]) (P2 ++ [(r10 != 0) = true, [Z8][0]? = some Z8, Z8[1]? = some (AV.own 59 5 Z5), 0 < 5, [Z8].set 0 (Z8.set 1 Z9) = [Z10], [Z10][0]? = some Z10, Z10[2]? = some Z7, 0 < 1, [Z10].set 0 (Z10.set 2 Z11) = [Z12], [Z12][0]? = some Z12, Z12[3]? = some (AV.own 179 6 Z13), 0 < 6, [Z12].set 0 (Z12.set 3 Z14) = [Z19], [Z19][0]? = some Z19, Z19[4]? = some (AV.own 142 1 Z15), 0 < 1, [Z19].set 0 (Z19.set 4 Z20) = [Z21], [Z21][0]? = some Z21, Z21[5]? = some Z17, 0 < 1, [Z21].set 0 (Z21.set 5 Z22) = Z23, Qa5 Tryz.prog 76 [(AV.agg [(AV.ro 6 Z24), (AV.ro 1 Z15), (AV.ro 1 Z16), Z18])] Z25, Qca Z25 = true, Frz ((Z13.drop 0).take Z13.length) Z24, Frz ((Z15.drop 0).take Z15.length) Z15, Frz ((Z16.drop 0).take Z16.length) Z16, Z3 = Z3, Qa4 Z3 = true, Qa1 (Z5.take Z5.length) = true, Z5.take Z5.length = Z5, Qa3 Z5 = true, Qa1 (Z6.take Z6.length) = true, Z6.take Z6.length = Z6, Qa3 Z6 = true, Qa1 (Z26.take Z26.length) = true, Z26.take Z26.length = Z26, Qa3 Z26 = true, Qa1 (Z27.take Z27.length) = true, Z27.take Z27.length = Z27, Qa3 Z27 = true, Qa1 (Z28.take Z28.length) = true, Z28.take Z28.length = Z28, Qa3 Z28 = true, Z29 = Z29, Qa4 Z29 = true, (B true) = (B true), Qa4 (B true) = true]) (Qa9 AP2 ⟨c11, rfl, rfl, (by decide), rfl, rfl, rfl, (by decide), rfl, rfl, rfl, (by decide), rfl, rfl, rfl, (by decide), rfl, rfl, rfl, (by decide), rfl, (Qoy hr12), (by simp +zetaDelta only [Qca, Qbi, Qa7 n3, Qa7 Qen, Qa7 Qgn, o57, Bool.and_self]), (Qfi Qch Qus), (Qfi Qbo Qqh), (Qfi t3 z3), rfl, rfl, (Qb2 t59), Qb1, (Qa7 n59), (Qb2 t3), Qb1, (Qa7 n3), (Qb2 Qch), Qb1, (Qa7 Qgn), (Qb2 Qbo), Qb1, (Qa7 Qen), (Qb2 t3), Qb1, (Qa7 n3), rfl, rfl, rfl, rfl, trivial⟩))
  ·obtain ⟨r14, hr14, h⟩ := bnS h
   rcases itS h with ⟨c15, h⟩ | ⟨c16, h⟩
   ·obtain rfl := sj h
    exact gR hP hn (H1 ++ [hF 15, hh 19 (.callV [Z1] (I r14)), hT 23]) [] (.agg [.agg [.raw, .own, .own, .own, .own, .own, .raw], .raw]) (P2 ++ [(r10 != 0) = false, Qa5 Tryz.prog 154 [(AV.ro 1 Z1), (I v8), (AV.rop (r51 p3) 0)] (I r14), Qa4 (I r14) = true, Frz Z4 Z1, (decide (r14 < 0)) = true, (I 0) = (I 0), Qa4 (I 0) = true, (I 0) = (I 0), Qa4 (I 0) = true, (B false) = (B false), Qa4 (B false) = true]) (Qa9 AP2 ⟨c13, (Qku hr14), rfl, (Qfi t3 z3), c15, rfl, rfl, rfl, rfl, rfl, rfl, trivial⟩)
   ·obtain ⟨l17, hl17, h⟩ := bnS h
    obtain ⟨x18, hx18, h⟩ := bnS h
    obtain ⟨r19, hr19, h⟩ := bnS h
    obtain ⟨l20, hl20, h⟩ := bnS h
    exact go_to hΘ hm hx hP hn (hs := [hh 2 (.call [[((o70 a7)), (r70 a7)], []] (AV.own 3 1 (r9.map o3)) [1001]), hh 9 (.callV [[], [((o70 a7)), (r70 a7)], (r9.map o3)] (I r10)), hF 15, hh 19 (.callV [(r9.map o3)] (I r14)), hF 23, hh 25 (.unpack 3 1010 0 2 ([(I r10), (AV.own 59 5 (a7.Trace.map o59)), (AV.own 3 1 (a7.Picks.map o3))] ++ (o57 a7.End)) 3 1 (a7.Picks.map o3) [([(I r10), (AV.own 59 5 (a7.Trace.map o59)), (AV.sl 1010 0 (a7.Picks.map o3).length)] ++ (o57 a7.End))]), hW 27 1011, hh 28 (.app 1012 (l17.map o3)), hh 31 (.unpack 3 1013 0 1 ([(I r10), (AV.own 59 5 (a7.Trace.map o59)), (AV.sl 1012 0 (l17.map o3).length)] ++ (o57 a7.End)) 59 5 (a7.Trace.map o59) [([(I r10), (AV.sl 1013 0 (a7.Trace.map o59).length), (AV.sl 1012 0 (l17.map o3).length)] ++ (o57 a7.End))]), hh 38 (.row [(I x18)]), hh 39 (.callO 3 70 7 [1, 2] ([(I r10), (AV.sl 1013 0 (a7.Trace.map o59).length), (AV.sl 1012 0 (l17.map o3).length)] ++ (o57 a7.End)) ([(I r10), (AV.sl 1013 0 (a7.Trace.map o59).length), (AV.sl 1012 0 (l17.map o3).length)] ++ (o57 r19.2)) [[]] (AV.agg (o59 r19.1)) (AV.agg ((o59 r19.1)))), hW 40 1014, hh 45 (.app 1015 (l20.map o59)), hh 51 (.pack 3 1015 0 1 ([(I r10), (AV.sl 1015 0 (l20.map o59).length), (AV.sl 1012 0 (l17.map o3).length)] ++ (o57 r19.2)) [([(I r10), (AV.own 59 5 (l20.map o59)), (AV.sl 1012 0 (l17.map o3).length)] ++ (o57 r19.2))]), hh 51 (.pack 3 1012 0 2 ([(I r10), (AV.own 59 5 (l20.map o59)), (AV.sl 1012 0 (l17.map o3).length)] ++ (o57 r19.2)) [([(I r10), (AV.own 59 5 (l20.map o59)), (AV.own 3 1 (l17.map o3))] ++ (o57 r19.2))])]) (π := [(1, 1), (2, 2), (3, 3)]) (ts := [1, 2, 3, 6, 8, 9]) (kp := []) (ps := [Qa5 Tryz.prog 75 [(AV.rop (r70 a7) 3), (AV.agg ((r34 a5)))] (AV.own 3 1 (r9.map o3)), Qca (AV.own 3 1 (r9.map o3)) = true, [((o70 a7))][0]? = some ((o70 a7)), Qcl ((o70 a7)) = true, Qiu ((o70 a7)) = (r70 a7), Qa5 Tryz.prog 153 [(AV.agg ((r34 a5))), (AV.rop (r70 a7) 3), (AV.ro 1 (r9.map o3)), (I v8), (I p2)] (I r10), Qa4 (I r10) = true, [((o70 a7))][0]? = some ((o70 a7)), Qcl ((o70 a7)) = true, Qiu ((o70 a7)) = (r70 a7), Frz (((r9.map o3).drop 0).take (r9.map o3).length) (r9.map o3), (r10 != 0) = false, Qa5 Tryz.prog 154 [(AV.ro 1 (r9.map o3)), (I v8), (AV.rop (r51 p3) 0)] (I r14), Qa4 (I r14) = true, Frz (((r9.map o3).drop 0).take (r9.map o3).length) (r9.map o3), (decide (r14 < 0)) = false, [([(I r10), (AV.own 59 5 (a7.Trace.map o59)), (AV.own 3 1 (a7.Picks.map o3))] ++ (o57 a7.End))][0]? = some ([(I r10), (AV.own 59 5 (a7.Trace.map o59)), (AV.own 3 1 (a7.Picks.map o3))] ++ (o57 a7.End)), ([(I r10), (AV.own 59 5 (a7.Trace.map o59)), (AV.own 3 1 (a7.Picks.map o3))] ++ (o57 a7.End))[2]? = some (AV.own 3 1 (a7.Picks.map o3)), 0 < 1, [([(I r10), (AV.own 59 5 (a7.Trace.map o59)), (AV.own 3 1 (a7.Picks.map o3))] ++ (o57 a7.End))].set 0 (([(I r10), (AV.own 59 5 (a7.Trace.map o59)), (AV.own 3 1 (a7.Picks.map o3))] ++ (o57 a7.End)).set 2 (AV.sl 1010 0 (a7.Picks.map o3).length)) = [([(I r10), (AV.own 59 5 (a7.Trace.map o59)), (AV.sl 1010 0 (a7.Picks.map o3).length)] ++ (o57 a7.End))], (a7.Picks.map o3).take (a7.Picks.map o3).length ++ ((([r14].map o3).drop 0).take ([r14].map o3).length) = (l17.map o3), ((([r14].map o3).drop 0).take ([r14].map o3).length).all (fun r => r.all AV.plain) = true, (l17.map o3).length * 8 ≤ 140737488355328, (l17.map o3).length ≤ 140737488355328, [([(I r10), (AV.own 59 5 (a7.Trace.map o59)), (AV.sl 1012 0 (l17.map o3).length)] ++ (o57 a7.End))][0]? = some ([(I r10), (AV.own 59 5 (a7.Trace.map o59)), (AV.sl 1012 0 (l17.map o3).length)] ++ (o57 a7.End)), ([(I r10), (AV.own 59 5 (a7.Trace.map o59)), (AV.sl 1012 0 (l17.map o3).length)] ++ (o57 a7.End))[1]? = some (AV.own 59 5 (a7.Trace.map o59)), 0 < 5, [([(I r10), (AV.own 59 5 (a7.Trace.map o59)), (AV.sl 1012 0 (l17.map o3).length)] ++ (o57 a7.End))].set 0 (([(I r10), (AV.own 59 5 (a7.Trace.map o59)), (AV.sl 1012 0 (l17.map o3).length)] ++ (o57 a7.End)).set 1 (AV.sl 1013 0 (a7.Trace.map o59).length)) = [([(I r10), (AV.sl 1013 0 (a7.Trace.map o59).length), (AV.sl 1012 0 (l17.map o3).length)] ++ (o57 a7.End))], (0 : Int) ≤ r14, r14 < (((r9.map o3).length : Nat) : Int), (r9.map o3)[r14.toNat]? = some [(I x18)], ∀ V : Nat → Value, Qco Tryz.prog 77 [⟨70, 7, [(hid V [1, 2] 0 ([(I r10), (AV.sl 1013 0 (a7.Trace.map o59).length), (AV.sl 1012 0 (l17.map o3).length)] ++ (o57 a7.End)))]⟩] [(AV.ptr 0 0 3), (AV.agg ((r34 a5))), (I x18)] [true] [⟨70, 7, [(hid V [1, 2] 0 ([(I r10), (AV.sl 1013 0 (a7.Trace.map o59).length), (AV.sl 1012 0 (l17.map o3).length)] ++ (o57 r19.2)))]⟩] (AV.agg (o59 r19.1)), some (Qam.mk 70 7 [([(I r10), (AV.sl 1013 0 (a7.Trace.map o59).length), (AV.sl 1012 0 (l17.map o3).length)] ++ (o57 a7.End))]) = some (Qam.mk 70 7 [([(I r10), (AV.sl 1013 0 (a7.Trace.map o59).length), (AV.sl 1012 0 (l17.map o3).length)] ++ (o57 a7.End))]), ([(I r10), (AV.sl 1013 0 (a7.Trace.map o59).length), (AV.sl 1012 0 (l17.map o3).length)] ++ (o57 a7.End)).length = ([(I r10), (AV.sl 1013 0 (a7.Trace.map o59).length), (AV.sl 1012 0 (l17.map o3).length)] ++ (o57 r19.2)).length, ∀ V : Nat → Value, (Qa1 [(hid V [1, 2] 0 ([(I r10), (AV.sl 1013 0 (a7.Trace.map o59).length), (AV.sl 1012 0 (l17.map o3).length)] ++ (o57 a7.End)))] = true ∧ Qa3 [(hid V [1, 2] 0 ([(I r10), (AV.sl 1013 0 (a7.Trace.map o59).length), (AV.sl 1012 0 (l17.map o3).length)] ++ (o57 a7.End)))] = true), (rtf (Qi7 [(0, 3)] (AV.agg (o59 r19.1))) []).1 = (AV.agg ((o59 r19.1))), (rtf (Qi7 [(0, 3)] (AV.agg (o59 r19.1))) []).2.1 = [], (AV.ptr 3 0 1) = (AV.ptr 3 0 1), (AV.ptr 3 0 1) = (AV.ptr 3 0 1), (AV.sl 1013 0 (a7.Trace.map o59).length) = (AV.sl 1013 0 (a7.Trace.map o59).length), (AV.sl 1013 0 (a7.Trace.map o59).length) = (AV.sl 1013 0 (a7.Trace.map o59).length), (a7.Trace.map o59).take (a7.Trace.map o59).length ++ ((([r19.1].map o59).drop 0).take ([r19.1].map o59).length) = (l20.map o59), ((([r19.1].map o59).drop 0).take ([r19.1].map o59).length).all (fun r => r.all AV.plain) = true, (l20.map o59).length * 40 ≤ 140737488355328, (l20.map o59).length ≤ 140737488355328, [([(I r10), (AV.sl 1015 0 (l20.map o59).length), (AV.sl 1012 0 (l17.map o3).length)] ++ (o57 r19.2))][0]? = some ([(I r10), (AV.sl 1015 0 (l20.map o59).length), (AV.sl 1012 0 (l17.map o3).length)] ++ (o57 r19.2)), ([(I r10), (AV.sl 1015 0 (l20.map o59).length), (AV.sl 1012 0 (l17.map o3).length)] ++ (o57 r19.2))[1]? = some (AV.sl 1015 0 (l20.map o59).length), Qa1 (l20.map o59) = true, [([(I r10), (AV.sl 1015 0 (l20.map o59).length), (AV.sl 1012 0 (l17.map o3).length)] ++ (o57 r19.2))].set 0 (([(I r10), (AV.sl 1015 0 (l20.map o59).length), (AV.sl 1012 0 (l17.map o3).length)] ++ (o57 r19.2)).set 1 (AV.own 59 5 (l20.map o59))) = [([(I r10), (AV.own 59 5 (l20.map o59)), (AV.sl 1012 0 (l17.map o3).length)] ++ (o57 r19.2))], [([(I r10), (AV.own 59 5 (l20.map o59)), (AV.sl 1012 0 (l17.map o3).length)] ++ (o57 r19.2))][0]? = some ([(I r10), (AV.own 59 5 (l20.map o59)), (AV.sl 1012 0 (l17.map o3).length)] ++ (o57 r19.2)), ([(I r10), (AV.own 59 5 (l20.map o59)), (AV.sl 1012 0 (l17.map o3).length)] ++ (o57 r19.2))[2]? = some (AV.sl 1012 0 (l17.map o3).length), Qa1 (l17.map o3) = true, [([(I r10), (AV.own 59 5 (l20.map o59)), (AV.sl 1012 0 (l17.map o3).length)] ++ (o57 r19.2))].set 0 (([(I r10), (AV.own 59 5 (l20.map o59)), (AV.sl 1012 0 (l17.map o3).length)] ++ (o57 r19.2)).set 2 (AV.own 3 1 (l17.map o3))) = [([(I r10), (AV.own 59 5 (l20.map o59)), (AV.own 3 1 (l17.map o3))] ++ (o57 r19.2))], Qab [(1, 1), (2, 2), (3, 3)] [((r34 a5))], Qab [(1, 1), (2, 2), (3, 3)] [((o70 a6))], Qab [(1, 1), (2, 2), (3, 3)] [([(I r10), (AV.own 59 5 (l20.map o59)), (AV.own 3 1 (l17.map o3))] ++ (o57 r19.2))]]) (by kernel_rfl) ⟨(Qg0 hr9), (by simp only [Qca, Qbi, Qa7 n3, Bool.and_self]), rfl, rfl, (z70 a7), (Qir hr10), rfl, rfl, rfl, (z70 a7), (Qfi t3 z3), c13, (Qku hr14), rfl, (Qfi t3 z3), c16, rfl, rfl, (by decide), rfl, (Qkm o3 hl17), (plD pa3), (Qo9 o3 hl17 (by decide)), (Qob o3 hl17), rfl, rfl, (by decide), rfl, (rd0 hx18), (rdL o3 hx18), (rdM o3 hx18), (fun V => cOq (Ql0 (V0 := (.int .i64 r10)) (V1 := (V 1)) (V2 := (V 2)) hr19) (by kernel_rfl) (by kernel_rfl)), rfl, rfl, (fun V => ⟨(by kernel_rfl), cNq (Qh3 n57 [(AV.lit (.int .i64 r10)), (AV.lit (V 1)), (AV.lit (V 2))] rfl a7.End) (by kernel_rfl)⟩), rfl, rfl, rfl, rfl, rfl, rfl, (Qkm o59 hl20), (plD pa59), (Qo9 o59 hl20 (by decide)), (Qob o59 hl20), rfl, rfl, (Qa8 t59), rfl, rfl, rfl, (Qa8 t3), rfl, (rok (Qay t34 a5)), (rok (Qay t70 a6)), (rok (Qay t70 (Qcy.mk r10 l20 l17 r19.2))), trivial⟩ (ih a5 a6 (Qcy.mk r10 l20 l17 r19.2) (w64 (v8 + 1)) _ h)
noncomputable def Qcs (p1 : Qaf) (p2 : Int) (p3 : (List Int)) : Option (Qcy × Bool) :=
 Option.bind (Qj8 p1) fun r4 =>
 Qb9 p2 p3 FU p1 (Qcy.mk 0 [] [] (Qa2.mk [] [] [] 0)) (Qcy.mk 0 [] [] (Qa2.mk r4.Threads r4.Cells r4.Owner r4.Fault)) 0
theorem Qk5 {p1 : Qaf} {p2 : Int} {p3 : (List Int)} {r : (Qcy × Bool)} (h : Qcs p1 p2 p3 = some r) : Qa5 Tryz.prog 87 [(AV.agg ((r34 p1))), (I p2), (AV.fn 154 [(AV.rop (r51 p3) 0)])] (AV.tup [(AV.agg (o70 r.1)), (B r.2)]) := by
 refine gM Tryz.func87 62 Qug fun E hP hn hx => ?_
 unfold Qcs at h
 obtain ⟨r4, hr4, h⟩ := bnS h
 exact (let Z0 := AV.agg (o57 r4); let Z1 := I 0; let Z2 := AV.own 59 5 ([].map o59); let Z3 := [[Z1, Z2, nS, nS, nS, nS, Z1]]; let Z4 := AV.own 3 1 ([].map o3); let Z5 := [[Z1, Z2, Z4, nS, nS, nS, Z1]]; let Z6 := AV.own 179 6 ([].map Qaa); let Z7 := [[Z1, Z2, Z4, Z6, nS, nS, Z1]]; let Z8 := [Z1, Z2, Z4, Z6]; let Z9 := AV.own 142 1 ([].map Qae); let Z10 := [[Z1, Z2, Z4, Z6, Z9, nS, Z1]]; let Z11 := [Z1, Z2, Z4, Z6, Z9]; let Z12 := [[Z1, Z2, Z4, Z6, Z9, Z4, Z1]]; let Z13 := AV.sl 1003 0 ([].map o59).length; let Z14 := AV.sl 1004 0 ([].map o3).length; let Z15 := r4.Threads.map Qaa; let Z16 := AV.sl 1005 0 Z15.length; let Z17 := r4.Cells.map Qae; let Z18 := AV.sl 1006 0 Z17.length; let Z19 := r4.Owner.map o3; let Z20 := AV.sl 1007 0 Z19.length; let Z21 := I r4.Fault; let Z22 := [Z1, Z13, Z14, Z16, Z18, Z20, Z21]; let Z23 := [Z1, Z2, Z14, Z16, Z18, Z20, Z21]; let Z24 := [Z1, Z2, Z4, Z16, Z18, Z20, Z21]; let Z25 := AV.own 179 6 Z15; let Z26 := [Z1, Z2, Z4, Z25, Z18, Z20, Z21]; let Z27 := AV.own 142 1 Z17; let Z28 := [Z1, Z2, Z4, Z25, Z27, Z20, Z21]; let Z29 := [[Z1, Z2, Z4, Z25, Z27, (AV.own 3 1 Z19), Z21]]; let Z30 := Qcy.mk 0 [] [] (Qa2.mk [] [] [] 0); let Z31 := Qcy.mk 0 [] [] (Qa2.mk r4.Threads r4.Cells r4.Owner r4.Fault); gT hP hn hx [hW 0 1001, hW 1 1002, hW 3 1003, hW 4 1004, hh 6 (.call [[]] Z0 [1005, 1006, 1007]), hW 8 1008, hh 11 (.own0 1002 1 [Z1] [nS, nS, nS, nS, Z1] 59 5 Z3), hh 11 (.own0 1002 1 [Z1, Z2] [nS, nS, nS, Z1] 3 1 Z5), hh 11 (.own0 1002 1 [Z1, Z2, Z4] [nS, nS, Z1] 179 6 Z7), hh 11 (.own0 1002 1 Z8 [nS, Z1] 142 1 Z10), hh 11 (.own0 1002 1 Z11 [Z1] 3 1 Z12), hh 11 (.pack 1008 1003 0 1 Z22 [Z23]), hh 11 (.pack 1008 1004 0 2 Z23 [Z24]), hh 11 (.pack 1008 1005 0 3 Z24 [Z26]), hh 11 (.pack 1008 1006 0 4 Z26 [Z28]), hh 11 (.pack 1008 1007 0 5 Z28 Z29)] [(1001, 1), (1002, 2), (1008, 3)] [1, 2, 3, 6, 8, 9] [] [Qa5 Tryz.prog 127 [(AV.agg ((r34 p1)))] Z0, Qca Z0 = true, [[Z1, nS, nS, nS, nS, nS, Z1]] = List.replicate 1 ([Z1] ++ AV.lit (.slice none 0 0) :: [nS, nS, nS, nS, Z1]), List.replicate 1 ([Z1] ++ AV.own 59 5 [] :: [nS, nS, nS, nS, Z1]) = Z3, Z3 = List.replicate 1 ([Z1, Z2] ++ AV.lit (.slice none 0 0) :: [nS, nS, nS, Z1]), List.replicate 1 ([Z1, Z2] ++ AV.own 3 1 [] :: [nS, nS, nS, Z1]) = Z5, Z5 = List.replicate 1 ([Z1, Z2, Z4] ++ AV.lit (.slice none 0 0) :: [nS, nS, Z1]), List.replicate 1 ([Z1, Z2, Z4] ++ AV.own 179 6 [] :: [nS, nS, Z1]) = Z7, Z7 = List.replicate 1 (Z8 ++ AV.lit (.slice none 0 0) :: [nS, Z1]), List.replicate 1 (Z8 ++ AV.own 142 1 [] :: [nS, Z1]) = Z10, Z10 = List.replicate 1 (Z11 ++ AV.lit (.slice none 0 0) :: [Z1]), List.replicate 1 (Z11 ++ AV.own 3 1 [] :: [Z1]) = Z12, [Z22][0]? = some Z22, Z22[1]? = some Z13, Qa1 ([].map o59) = true, [Z22].set 0 (Z22.set 1 Z2) = [Z23], [Z23][0]? = some Z23, Z23[2]? = some Z14, Qa1 ([].map o3) = true, [Z23].set 0 (Z23.set 2 Z4) = [Z24], [Z24][0]? = some Z24, Z24[3]? = some Z16, Qa1 Z15 = true, [Z24].set 0 (Z24.set 3 Z25) = [Z26], [Z26][0]? = some Z26, Z26[4]? = some Z18, Qa1 Z17 = true, [Z26].set 0 (Z26.set 4 Z27) = [Z28], [Z28][0]? = some Z28, Z28[5]? = some Z20, Qa1 Z19 = true, [Z28].set 0 (Z28.set 5 (AV.own 3 1 Z19)) = Z29, Qab [(1001, 1), (1002, 2), (1008, 3)] [((r34 p1))], Qab [(1001, 1), (1002, 2), (1008, 3)] Z12, Qab [(1001, 1), (1002, 2), (1008, 3)] Z29] ⟨(Qy7 hr4), (by simp +zetaDelta only [Qca, Qbi, Qa7 n3, Qa7 Qen, Qa7 Qgn, o57, Bool.and_self]), rfl, rfl, rfl, rfl, rfl, rfl, rfl, rfl, rfl, rfl, rfl, rfl, (Qa8 t59), rfl, rfl, rfl, (Qa8 t3), rfl, rfl, rfl, (Qa8 Qch), rfl, rfl, rfl, (Qa8 Qbo), rfl, rfl, rfl, (Qa8 t3), rfl, (rok (Qay t34 p1)), (rok (Qay t70 Z30)), (rok (Qay t70 Z31)), trivial⟩ (Qi9 hP hn hx p2 p3 FU p1 Z30 Z31 0 _ h))
noncomputable def Xl2 : Code := match Tryz.f95.body with | some c => c | none => .skip
noncomputable def Qj5 (p1 : Qaf) (p2 : (List Int)) (p3 : Int) : Option Qcy :=
 Option.bind (Qcs p1 p3 p2) fun r4 =>
 some (Qcy.mk r4.1.Code r4.1.Trace r4.1.Picks (Qa2.mk r4.1.End.Threads r4.1.End.Cells r4.1.End.Owner r4.1.End.Fault))
theorem Qsb {p1 : Qaf} {p2 : (List Int)} {p3 : Int} {r : Qcy} (h : Qj5 p1 p2 p3 = some r) : Qa5 Tryz.prog 95 [(AV.agg ((r34 p1))), (AV.ro 1 (p2.map o3)), (I p3)] (AV.agg (o70 r)) := by
 refine gM Tryz.func95 17 Xl2 fun E hP hn hx => ?_
 unfold Qj5 at h
 obtain ⟨r4, hr4, h⟩ := bnS h
 obtain rfl := sj h
 exact (let Z0 := [(AV.ro 1 (p2.map o3))]; let Z1 := AV.tup [(AV.agg (o70 r4.1)), (B r4.2)]; let Z2 := I r4.1.Code; let Z3 := r4.1.Trace.map o59; let Z4 := r4.1.Picks.map o3; let Z5 := r4.1.End.Threads.map Qaa; let Z6 := r4.1.End.Cells.map Qae; let Z7 := r4.1.End.Owner.map o3; let Z8 := I r4.1.End.Fault; gR hP hn [hW 0 1001, hW 1 1002, hW 2 1003, hh 6 (.call [[], [Z0, (r51 p2)]] Z1 [1004, 1005, 1006, 1007, 1008]), hW 10 1009] [] (.agg [.raw, .own, .own, .own, .own, .own, .raw]) [Qa5 Tryz.prog 87 [(AV.agg ((r34 p1))), (I p3), (AV.fn 154 [(AV.rop (r51 p2) 0)])] Z1, Qca Z1 = true, [Z0][0]? = some Z0, Qcl Z0 = true, Qiu Z0 = (r51 p2), Z2 = Z2, Qa4 Z2 = true, Qa1 (Z3.take Z3.length) = true, Z3.take Z3.length = Z3, Qa3 Z3 = true, Qa1 (Z4.take Z4.length) = true, Z4.take Z4.length = Z4, Qa3 Z4 = true, Qa1 (Z5.take Z5.length) = true, Z5.take Z5.length = Z5, Qa3 Z5 = true, Qa1 (Z6.take Z6.length) = true, Z6.take Z6.length = Z6, Qa3 Z6 = true, Qa1 (Z7.take Z7.length) = true, Z7.take Z7.length = Z7, Qa3 Z7 = true, Z8 = Z8, Qa4 Z8 = true] ⟨(Qk5 hr4), (by simp +zetaDelta only [Qca, Qbi, Qa7 n3, Qa7 n59, Qa7 Qen, Qa7 Qgn, o70, Bool.and_self]), rfl, rfl, rfl, rfl, rfl, (Qb2 t59), Qb1, (Qa7 n59), (Qb2 t3), Qb1, (Qa7 n3), (Qb2 Qch), Qb1, (Qa7 Qgn), (Qb2 Qbo), Qb1, (Qa7 Qen), (Qb2 t3), Qb1, (Qa7 n3), rfl, rfl, trivial⟩)
noncomputable def Xlx : Code := match Tryz.f36.body with | some c => c | none => .skip
noncomputable def Qgi (p1 : Qaf) (p2 : (List Int)) (p3 : Int) : Option (Qcy × Bool) :=
 Option.bind (Qhc p1) fun r4 =>
 if (!r4) = true then
  some ((Qcy.mk 0 [] [] (Qa2.mk [] [] [] 0)), false)
 else
  Option.bind (Qhi p2 200) fun r7 =>
  if (!r7) = true then
   some ((Qcy.mk 0 [] [] (Qa2.mk [] [] [] 0)), false)
  else
   Option.bind (Qf8 p3 0 200) fun r10 =>
   if (!r10) = true then
    some ((Qcy.mk 0 [] [] (Qa2.mk [] [] [] 0)), false)
   else
    Option.bind (Qj5 p1 p2 p3) fun r13 =>
    some ((Qcy.mk r13.Code r13.Trace r13.Picks (Qa2.mk r13.End.Threads r13.End.Cells r13.End.Owner r13.End.Fault)), true)
theorem Qm0 {p1 : Qaf} {p2 : (List Int)} {p3 : Int} {r : (Qcy × Bool)} (h : Qgi p1 p2 p3 = some r) : Qa5 Tryz.prog 36 [(AV.agg ((r34 p1))), (AV.ro 1 (p2.map o3)), (I p3)] (AV.tup [(AV.agg (o70 r.1)), (B r.2)]) := by
 refine gM Tryz.func36 26 Xlx fun E hP hn hx => ?_
 unfold Qgi at h
 obtain ⟨r4, hr4, h⟩ := bnS h
 let Z0 := B true; let Z1 := I 0; let Z2 := B false; let Z3 := AV.ro 1 (p2.map o3)
 let H1 : List Hn := [hW 0 1001, hW 1 1002, hh 4 (.callV [[]] (B r4))]
 let P2 : List Prop := [Qa5 Tryz.prog 48 [(AV.agg ((r34 p1)))] (B r4), Qa4 (B r4) = true]
 have AP2 : Qal P2 := ⟨(Qss hr4), rfl, trivial⟩
 rcases itS h with ⟨c5, h⟩ | ⟨c6, h⟩
 ·obtain rfl := sj h
  exact gR hP hn (H1 ++ [hO 6 Z0]) [] (.agg [.agg [.raw, .own, .own, .own, .own, .own, .raw], .raw]) (P2 ++ [(B (!r4)) = Z0, Z1 = Z1, Qa4 Z1 = true, Z1 = Z1, Qa4 Z1 = true, Z2 = Z2, Qa4 Z2 = true]) (Qa9 AP2 ⟨(Qb7 c5), rfl, rfl, rfl, rfl, rfl, rfl, trivial⟩)
 ·obtain ⟨r7, hr7, h⟩ := bnS h
  let H3 : List Hn := H1 ++ [hO 6 Z2, hh 8 (.callV [] (B r7))]
  let P4 : List Prop := P2 ++ [(B (!r4)) = Z2, Qa5 Tryz.prog 55 [Z3, (I 200)] (B r7), Qa4 (B r7) = true]
  have AP4 : Qal P4 := Qa9 AP2 ⟨(Qb7 c6), (Qtj hr7), rfl, trivial⟩
  rcases itS h with ⟨c8, h⟩ | ⟨c9, h⟩
  ·obtain rfl := sj h
   exact gR hP hn (H3 ++ [hO 11 Z0]) [] (.agg [.agg [.raw, .own, .own, .own, .own, .own, .raw], .raw]) (P4 ++ [(B (!r7)) = Z0, Z1 = Z1, Qa4 Z1 = true, Z1 = Z1, Qa4 Z1 = true, Z2 = Z2, Qa4 Z2 = true]) (Qa9 AP4 ⟨(Qb7 c8), rfl, rfl, rfl, rfl, rfl, rfl, trivial⟩)
  ·obtain ⟨r10, hr10, h⟩ := bnS h
   let P5 : List Prop := P4 ++ [(B (!r7)) = Z2, Qa5 Tryz.prog 53 [(I p3), Z1, (I 200)] (B r10), Qa4 (B r10) = true]
   have AP5 : Qal P5 := Qa9 AP4 ⟨(Qb7 c9), (Qdn hr10), rfl, trivial⟩
   rcases itS h with ⟨c11, h⟩ | ⟨c12, h⟩
   ·obtain rfl := sj h
    exact gR hP hn (H3 ++ [hO 11 Z2, hh 13 (.callV [] (B r10)), hT 16]) [] (.agg [.agg [.raw, .own, .own, .own, .own, .own, .raw], .raw]) (P5 ++ [(!r10) = true, Z1 = Z1, Qa4 Z1 = true, Z1 = Z1, Qa4 Z1 = true, Z2 = Z2, Qa4 Z2 = true]) (Qa9 AP5 ⟨c11, rfl, rfl, rfl, rfl, rfl, rfl, trivial⟩)
   ·obtain ⟨r13, hr13, h⟩ := bnS h
    obtain rfl := sj h
    exact (let Z4 := AV.agg (o70 r13); let Z5 := r13.Trace.map o59; let Z6 := r13.Picks.map o3; let Z7 := r13.End.Threads.map Qaa; let Z8 := r13.End.Cells.map Qae; let Z9 := r13.End.Owner.map o3; let Z10 := I r13.End.Fault; gR hP hn (H3 ++ [hO 11 Z2, hh 13 (.callV [] (B r10)), hF 16, hh 20 (.call [[]] Z4 [1003, 1004, 1005, 1006, 1007])]) [] (.agg [.agg [.raw, .own, .own, .own, .own, .own, .raw], .raw]) (P5 ++ [(!r10) = false, Qa5 Tryz.prog 95 [(AV.agg ((r34 p1))), Z3, (I p3)] Z4, Qca Z4 = true, (I r13.Code) = (I r13.Code), Qa4 (I r13.Code) = true, Qa1 (Z5.take Z5.length) = true, Z5.take Z5.length = Z5, Qa3 Z5 = true, Qa1 (Z6.take Z6.length) = true, Z6.take Z6.length = Z6, Qa3 Z6 = true, Qa1 (Z7.take Z7.length) = true, Z7.take Z7.length = Z7, Qa3 Z7 = true, Qa1 (Z8.take Z8.length) = true, Z8.take Z8.length = Z8, Qa3 Z8 = true, Qa1 (Z9.take Z9.length) = true, Z9.take Z9.length = Z9, Qa3 Z9 = true, Z10 = Z10, Qa4 Z10 = true, Z0 = Z0, Qa4 Z0 = true]) (Qa9 AP5 ⟨c12, (Qsb hr13), (by simp +zetaDelta only [Qca, Qbi, Qa7 n3, Qa7 n59, Qa7 Qen, Qa7 Qgn, o70, Bool.and_self]), rfl, rfl, (Qb2 t59), Qb1, (Qa7 n59), (Qb2 t3), Qb1, (Qa7 n3), (Qb2 Qch), Qb1, (Qa7 Qgn), (Qb2 Qbo), Qb1, (Qa7 Qen), (Qb2 t3), Qb1, (Qa7 n3), rfl, rfl, rfl, rfl, trivial⟩))
noncomputable def Xha : Code := match Tryz.f31.body with | some c => c | none => .skip
noncomputable def Qfo  (p1 : (List Int)) (p2 : (List Int)) : Nat → Int → Option Bool
 | 0, _ => none
 | n + 1, v5 =>
 if (decide (v5 < (p1.length : Int))) = true then
  Option.bind (rd p1 v5) fun x7 =>
  Option.bind (rd p2 v5) fun x8 =>
  if (x7 != x8) = true then
   some false
  else
   Qfo p1 p2 n (w64 (v5 + 1))
 else
  some true
theorem Qrf {E : Env} (hP : E.P = Tryz.prog) (hn : E.n = 26) (hx : FX E []) (p1 : (List Int)) (p2 : (List Int))  : ∀ (n : Nat) (v5 : Int) (r : Bool), Qfo p1 p2 n v5 = some r → WAt E Xha (FQ (Qf3 Θ Tryz.f31.results.toList [] [] (B r) E)) [true, true, false, true, false] ⟨[(0, (AV.ro 1 (p1.map o3))), (1, (AV.ro 1 (p2.map o3))), (5, (I v5))], [], [JJ]⟩ := by
 intro n
 induction n with
 | zero => intro v5 r h; simp only [Qfo] at h; cases h
 | succ n ih =>
  intro v5 r h
  simp only [Qfo] at h
  let Z0 := (I (p1.length : Int)); let Z1 := (decide (v5 < (p1.length : Int)))
  let P1 : List Prop := [AV.lit (.int .i64 (((p1.map o3).length : Nat) : Int)) = Z0]
  have AP1 : Qal P1 := ⟨(Qcw o3), trivial⟩
  rcases itS h with ⟨c6, h⟩ | ⟨c11, h⟩
  ·obtain ⟨x7, hx7, h⟩ := bnS h
   obtain ⟨x8, hx8, h⟩ := bnS h
   let H2 : List Hn := [hO 2 Z0, hT 4, hh 7 (.row (o3 x7)), hh 11 (.row (o3 x8))]
   let P3 : List Prop := P1 ++ [Z1 = true, (0 : Int) ≤ v5, (p1.map o3)[v5.toNat]? = some (o3 x7), (0 : Int) ≤ v5, (p2.map o3)[v5.toNat]? = some (o3 x8)]
   have AP3 : Qal P3 := Qa9 AP1 ⟨c6, (rd0 hx7), (rdM o3 hx7), (rd0 hx8), (rdM o3 hx8), trivial⟩
   rcases itS h with ⟨c9, h⟩ | ⟨c10, h⟩
   ·obtain rfl := sj h
    exact gR hP hn (H2 ++ [hT 14]) [] .raw (P3 ++ [(x7 != x8) = true, (B false) = (B false), Qa4 (B false) = true]) (Qa9 AP3 ⟨c9, rfl, rfl, trivial⟩)
   ·exact gT hP hn hx (H2 ++ [hF 14]) [] [0, 1, 5] [] (P3 ++ [(x7 != x8) = false]) (Qa9 AP3 ⟨c10, trivial⟩) (ih (w64 (v5 + 1)) _ h)
  ·obtain rfl := sj h
   exact gR hP hn [hO 2 Z0, hF 4] [] .raw (P1 ++ [Z1 = false, (B true) = (B true), Qa4 (B true) = true]) (Qa9 AP1 ⟨c11, rfl, rfl, trivial⟩)
noncomputable def Qgy (p1 : (List Int)) (p2 : (List Int)) : Option Bool :=
 if ((p1.length : Int) != (p2.length : Int)) = true then
  some false
 else
  Qfo p1 p2 FU 0
theorem Qla {p1 : (List Int)} {p2 : (List Int)} {r : Bool} (h : Qgy p1 p2 = some r) : Qa5 Tryz.prog 31 [(AV.ro 1 (p1.map o3)), (AV.ro 1 (p2.map o3))] (B r) := by
 refine gM Tryz.func31 26 Xha fun E hP hn hx => ?_
 unfold Qgy at h
 let Z0 := (I (p1.length : Int)); let Z1 := (I (p2.length : Int)); let Z2 := ((p1.length : Int) != (p2.length : Int))
 let P1 : List Prop := [AV.lit (.int .i64 (((p1.map o3).length : Nat) : Int)) = Z0, AV.lit (.int .i64 (((p2.map o3).length : Nat) : Int)) = Z1]
 have AP1 : Qal P1 := ⟨(Qcw o3), (Qcw o3), trivial⟩
 rcases itS h with ⟨c3, h⟩ | ⟨c4, h⟩
 ·obtain rfl := sj h
  exact gR hP hn [hO 2 Z0, hO 4 Z1, hT 6] [] .raw (P1 ++ [Z2 = true, (B false) = (B false), Qa4 (B false) = true]) (Qa9 AP1 ⟨c3, rfl, rfl, trivial⟩)
 ·exact gT hP hn hx [hO 2 Z0, hO 4 Z1, hF 6] [] [0, 1, 5] [] (P1 ++ [Z2 = false]) (Qa9 AP1 ⟨c4, trivial⟩) (Qrf hP hn hx p1 p2 FU 0 _ h)
noncomputable def Xef : Code := match Tryz.f150.body with | some c => c | none => .skip
noncomputable def Qgc  (p1 : Nat) (p2 : Nat)  : Option Bool :=
 if ((Qc2 p1 0) == some .eq) = true then
  if ((Qc2 p2 0) == some .eq) = true then
   some (((Qc2 (fdv 4607182418800017408 p1) 0) == some .gt) == ((Qc2 (fdv 4607182418800017408 p2) 0) == some .gt))
  else
   some ((Qc2 p1 p2) == some .eq)
 else
  some ((Qc2 p1 p2) == some .eq)
theorem Qol {E : Env} (hP : E.P = Tryz.prog) (hn : E.n = 37) (hx : FX E []) (p1 : Nat) (p2 : Nat)   (r : Bool) (h : Qgc p1 p2  = some r) : WAt E Xef (FQ (Qf3 Θ Tryz.f150.results.toList [] [] (B r) E)) [true, false, true, true] ⟨[(0, (FK p1)), (1, (FK p2))], [], [JJ]⟩ := by
 unfold Qgc at h
 let Z0 := Qc2 p1 0; let Z1 := Qc2 p2 0; let Z2 := fdv 4607182418800017408 p1; let Z3 := Qc2 Z2 0; let Z4 := fdv 4607182418800017408 p2; let Z5 := Qc2 Z4 0; let Z6 := Qc2 p1 p2
 let H1 : List Hn := [hh 1 (.bin (B (Z0 == some .eq)))]
 let P2 : List Prop := [Qfu Tryz.prog .eql 142 (FK p1) (FK 0) (B (Z0 == some .eq))]
 have AP2 : Qal P2 := ⟨Xd5, trivial⟩
 rcases itS h with ⟨c11, h⟩ | ⟨c14, h⟩
 ·let P3 : List Prop := P2 ++ [(B (Z0 == some .eq)) = (B true), Qfu Tryz.prog .eql 142 (FK p2) (FK 0) (B (Z1 == some .eq))]
  have AP3 : Qal P3 := Qa9 AP2 ⟨(Qb7 c11), Xd5, trivial⟩
  rcases itS h with ⟨c12, h⟩ | ⟨c13, h⟩
  ·obtain rfl := sj h
   exact gR hP hn (H1 ++ [hO 2 (B true), hh 4 (.bin (B (Z1 == some .eq))), hT 6, hh 8 (.bin (FK Z2)), hh 9 (.bin (B (Z3 == some .gt))), hh 11 (.bin (FK Z4)), hh 12 (.bin (B (Z5 == some .gt)))]) [] .raw (P3 ++ [(Z1 == some .eq) = true, Qfu Tryz.prog .quo 142 (FK 4607182418800017408) (FK p1) (FK Z2), Qfu Tryz.prog .gtr 142 (FK Z2) (FK 0) (B (Z3 == some .gt)), Qfu Tryz.prog .quo 142 (FK 4607182418800017408) (FK p2) (FK Z4), Qfu Tryz.prog .gtr 142 (FK Z4) (FK 0) (B (Z5 == some .gt)), (B ((Z3 == some .gt) == (Z5 == some .gt))) = (B ((Z3 == some .gt) == (Z5 == some .gt))), Qa4 (B ((Z3 == some .gt) == (Z5 == some .gt))) = true]) (Qa9 AP3 ⟨c12, Xk1, fGtr, Xk1, fGtr, rfl, rfl, trivial⟩)
  ·obtain rfl := sj h
   exact gR hP hn (H1 ++ [hO 2 (B true), hh 4 (.bin (B (Z1 == some .eq))), hF 6, hh 9 (.bin (B (Z6 == some .eq)))]) [] .raw (P3 ++ [(Z1 == some .eq) = false, Qfu Tryz.prog .eql 142 (FK p1) (FK p2) (B (Z6 == some .eq)), (B (Z6 == some .eq)) = (B (Z6 == some .eq)), Qa4 (B (Z6 == some .eq)) = true]) (Qa9 AP3 ⟨c13, Xd5, rfl, rfl, trivial⟩)
 ·obtain rfl := sj h
  exact gR hP hn (H1 ++ [hO 2 (B false), hh 9 (.bin (B (Z6 == some .eq)))]) [] .raw (P2 ++ [(B (Z0 == some .eq)) = (B false), Qfu Tryz.prog .eql 142 (FK p1) (FK p2) (B (Z6 == some .eq)), (B (Z6 == some .eq)) = (B (Z6 == some .eq)), Qa4 (B (Z6 == some .eq)) = true]) (Qa9 AP2 ⟨(Qb7 c14), Xd5, rfl, rfl, trivial⟩)
noncomputable def Qej (p1 : Nat) (p2 : Nat) : Option Bool :=
 if ((Qc2 p1 p1) != some .eq) = true then
  if ((Qc2 p1 p1) != some .eq) = true then
   some ((Qc2 p2 p2) != some .eq)
  else
   some false
 else
  if ((Qc2 p2 p2) != some .eq) = true then
   if ((Qc2 p1 p1) != some .eq) = true then
    some ((Qc2 p2 p2) != some .eq)
   else
    some false
  else
   Qgc p1 p2
theorem Qlp {p1 : Nat} {p2 : Nat} {r : Bool} (h : Qej p1 p2 = some r) : Qa5 Tryz.prog 150 [(FK p1), (FK p2)] (B r) := by
 refine gM Tryz.func150 37 Xef fun E hP hn hx => ?_
 unfold Qej at h
 let Z0 := Qc2 p1 p1; let Z1 := B true; let Z2 := Qc2 p2 p2; let Z3 := B false
 let H1 : List Hn := [hh 3 (.bin (B (Z0 != some .eq)))]
 let P2 : List Prop := [Qfu Tryz.prog .neq 142 (FK p1) (FK p1) (B (Z0 != some .eq))]
 have AP2 : Qal P2 := ⟨Xem, trivial⟩
 rcases itS h with ⟨c3, h⟩ | ⟨c6, h⟩
 ·let P3 : List Prop := P2 ++ [(B (Z0 != some .eq)) = Z1, Qfu Tryz.prog .neq 142 (FK p1) (FK p1) (B (Z0 != some .eq))]
  have AP3 : Qal P3 := Qa9 AP2 ⟨(Qb7 c3), Xem, trivial⟩
  rcases itS h with ⟨c4, h⟩ | ⟨c5, h⟩
  ·obtain rfl := sj h
   exact gR hP hn (H1 ++ [hO 4 Z1, hh 12 (.bin (B (Z0 != some .eq))), hO 13 Z1, hh 16 (.bin (B (Z2 != some .eq)))]) [] .raw (P3 ++ [(B (Z0 != some .eq)) = Z1, Qfu Tryz.prog .neq 142 (FK p2) (FK p2) (B (Z2 != some .eq)), (B (Z2 != some .eq)) = (B (Z2 != some .eq)), Qa4 (B (Z2 != some .eq)) = true]) (Qa9 AP3 ⟨(Qb7 c4), Xem, rfl, rfl, trivial⟩)
  ·obtain rfl := sj h
   exact gR hP hn (H1 ++ [hO 4 Z1, hh 12 (.bin (B (Z0 != some .eq))), hO 13 Z3]) [] .raw (P3 ++ [(B (Z0 != some .eq)) = Z3, Z3 = Z3, Qa4 Z3 = true]) (Qa9 AP3 ⟨(Qb7 c5), rfl, rfl, trivial⟩)
 ·let H4 : List Hn := H1 ++ [hO 4 Z3, hh 7 (.bin (B (Z2 != some .eq)))]
  let P5 : List Prop := P2 ++ [(B (Z0 != some .eq)) = Z3, Qfu Tryz.prog .neq 142 (FK p2) (FK p2) (B (Z2 != some .eq))]
  have AP5 : Qal P5 := Qa9 AP2 ⟨(Qb7 c6), Xem, trivial⟩
  rcases itS h with ⟨c7, h⟩ | ⟨c10, h⟩
  ·let P6 : List Prop := P5 ++ [(Z2 != some .eq) = true, Qfu Tryz.prog .neq 142 (FK p1) (FK p1) (B (Z0 != some .eq))]
   have AP6 : Qal P6 := Qa9 AP5 ⟨c7, Xem, trivial⟩
   rcases itS h with ⟨c8, h⟩ | ⟨c9, h⟩
   ·obtain rfl := sj h
    exact gR hP hn (H4 ++ [hT 9, hh 12 (.bin (B (Z0 != some .eq))), hO 13 Z1, hh 16 (.bin (B (Z2 != some .eq)))]) [] .raw (P6 ++ [(B (Z0 != some .eq)) = Z1, Qfu Tryz.prog .neq 142 (FK p2) (FK p2) (B (Z2 != some .eq)), (B (Z2 != some .eq)) = (B (Z2 != some .eq)), Qa4 (B (Z2 != some .eq)) = true]) (Qa9 AP6 ⟨(Qb7 c8), Xem, rfl, rfl, trivial⟩)
   ·obtain rfl := sj h
    exact gR hP hn (H4 ++ [hT 9, hh 12 (.bin (B (Z0 != some .eq))), hO 13 Z3]) [] .raw (P6 ++ [(B (Z0 != some .eq)) = Z3, Z3 = Z3, Qa4 Z3 = true]) (Qa9 AP6 ⟨(Qb7 c9), rfl, rfl, trivial⟩)
  ·exact gT hP hn hx (H4 ++ [hF 9]) [] [0, 1] [] (P5 ++ [(Z2 != some .eq) = false]) (Qa9 AP5 ⟨c10, trivial⟩) (Qol hP hn hx p1 p2  _ h)
noncomputable def Xil : Code := match Tryz.f176.body with | some c => c | none => .skip
noncomputable def Qkt (p1 : GOp) (p2 : GOp) : Option Bool :=
 if (p1.Code != p2.Code) = true then
  some false
 else
  if (p1.A != p2.A) = true then
   some false
  else
   if (p1.B != p2.B) = true then
    some false
   else
    Option.bind (Qej p1.V p2.V) fun r9 =>
    if (!r9) = true then
     some false
    else
     some true
theorem Qyv {p1 : GOp} {p2 : GOp} {r : Bool} (h : Qkt p1 p2 = some r) : Qa5 Tryz.prog 176 [(AV.agg ((Qb6 p1))), (AV.agg ((Qb6 p2)))] (B r) := by
 refine gM Tryz.func176 26 Xil fun E hP hn hx => ?_
 unfold Qkt at h
 let Z0 := p1.Code != p2.Code; let Z1 := B false
 let H1 : List Hn := [hW 0 1001, hW 1 1002]
 rcases itS h with ⟨c3, h⟩ | ⟨c4, h⟩
 ·obtain rfl := sj h
  exact gR hP hn (H1 ++ [hT 8]) [] .raw [Z0 = true, Z1 = Z1, Qa4 Z1 = true] ⟨c3, rfl, rfl, trivial⟩
 ·rcases itS h with ⟨c5, h⟩ | ⟨c6, h⟩
  ·obtain rfl := sj h
   exact gR hP hn (H1 ++ [hF 8, hT 14]) [] .raw [Z0 = false, (p1.A != p2.A) = true, Z1 = Z1, Qa4 Z1 = true] ⟨c4, c5, rfl, rfl, trivial⟩
  ·let P2 : List Prop := [Z0 = false, (p1.A != p2.A) = false]
   have AP2 : Qal P2 := ⟨c4, c6, trivial⟩
   rcases itS h with ⟨c7, h⟩ | ⟨c8, h⟩
   ·obtain rfl := sj h
    exact gR hP hn (H1 ++ [hF 8, hF 14, hT 20]) [] .raw (P2 ++ [(p1.B != p2.B) = true, Z1 = Z1, Qa4 Z1 = true]) (Qa9 AP2 ⟨c7, rfl, rfl, trivial⟩)
   ·obtain ⟨r9, hr9, h⟩ := bnS h
    let P3 : List Prop := P2 ++ [(p1.B != p2.B) = false, Qa5 Tryz.prog 150 [(FK p1.V), (FK p2.V)] (B r9), Qa4 (B r9) = true]
    have AP3 : Qal P3 := Qa9 AP2 ⟨c8, (Qlp hr9), rfl, trivial⟩
    rcases itS h with ⟨c10, h⟩ | ⟨c11, h⟩
    ·obtain rfl := sj h
     exact gR hP hn (H1 ++ [hF 8, hF 14, hF 20, hh 25 (.callV [] (B r9)), hT 27]) [] .raw (P3 ++ [(!r9) = true, Z1 = Z1, Qa4 Z1 = true]) (Qa9 AP3 ⟨c10, rfl, rfl, trivial⟩)
    ·obtain rfl := sj h
     exact gR hP hn (H1 ++ [hF 8, hF 14, hF 20, hh 25 (.callV [] (B r9)), hF 27]) [] .raw (P3 ++ [(!r9) = false, (B true) = (B true), Qa4 (B true) = true]) (Qa9 AP3 ⟨c11, rfl, rfl, trivial⟩)
noncomputable def Xcj : Code := match Tryz.f128.body with | some c => c | none => .skip
noncomputable def Qgg  (p1 : (List GOp)) (p2 : (List GOp)) : Nat → Int → Option Bool
 | 0, _ => none
 | n + 1, v5 =>
 if (decide (v5 < (p1.length : Int))) = true then
  Option.bind (rd p1 v5) fun x7 =>
  Option.bind (rd p2 v5) fun x8 =>
  Option.bind (Qkt x7 x8) fun r9 =>
  if (!r9) = true then
   some false
  else
   Qgg p1 p2 n (w64 (v5 + 1))
 else
  some true
theorem Qsj {E : Env} (hP : E.P = Tryz.prog) (hn : E.n = 27) (hx : FX E []) (p1 : (List GOp)) (p2 : (List GOp))  : ∀ (n : Nat) (v5 : Int) (r : Bool), Qgg p1 p2 n v5 = some r → WAt E Xcj (FQ (Qf3 Θ Tryz.f128.results.toList [] [] (B r) E)) [true, true, false, true, false] ⟨[(0, (AV.ro 4 (p1.map Qb6))), (1, (AV.ro 4 (p2.map Qb6))), (5, (I v5))], [], [JJ]⟩ := by
 intro n
 induction n with
 | zero => intro v5 r h; simp only [Qgg] at h; cases h
 | succ n ih =>
  intro v5 r h
  simp only [Qgg] at h
  let Z0 := (I (p1.length : Int)); let Z1 := (decide (v5 < (p1.length : Int)))
  let P1 : List Prop := [AV.lit (.int .i64 (((p1.map Qb6).length : Nat) : Int)) = Z0]
  have AP1 : Qal P1 := ⟨(Qcw Qb6), trivial⟩
  rcases itS h with ⟨c6, h⟩ | ⟨c12, h⟩
  ·obtain ⟨x7, hx7, h⟩ := bnS h
   obtain ⟨x8, hx8, h⟩ := bnS h
   obtain ⟨r9, hr9, h⟩ := bnS h
   let H2 : List Hn := [hO 2 Z0, hT 4, hh 7 (.row (Qb6 x7)), hh 11 (.row (Qb6 x8)), hh 13 (.callV [[], []] (B r9))]
   let P3 : List Prop := P1 ++ [Z1 = true, (0 : Int) ≤ v5, (p1.map Qb6)[v5.toNat]? = some (Qb6 x7), (0 : Int) ≤ v5, (p2.map Qb6)[v5.toNat]? = some (Qb6 x8), Qa5 Tryz.prog 176 [(AV.agg ((Qb6 x7))), (AV.agg ((Qb6 x8)))] (B r9), Qa4 (B r9) = true]
   have AP3 : Qal P3 := Qa9 AP1 ⟨c6, (rd0 hx7), (rdM Qb6 hx7), (rd0 hx8), (rdM Qb6 hx8), (Qyv hr9), rfl, trivial⟩
   rcases itS h with ⟨c10, h⟩ | ⟨c11, h⟩
   ·obtain rfl := sj h
    exact gR hP hn (H2 ++ [hT 15]) [] .raw (P3 ++ [(!r9) = true, (B false) = (B false), Qa4 (B false) = true]) (Qa9 AP3 ⟨c10, rfl, rfl, trivial⟩)
   ·exact gT hP hn hx (H2 ++ [hF 15]) [] [0, 1, 5] [] (P3 ++ [(!r9) = false]) (Qa9 AP3 ⟨c11, trivial⟩) (ih (w64 (v5 + 1)) _ h)
  ·obtain rfl := sj h
   exact gR hP hn [hO 2 Z0, hF 4] [] .raw (P1 ++ [Z1 = false, (B true) = (B true), Qa4 (B true) = true]) (Qa9 AP1 ⟨c12, rfl, rfl, trivial⟩)
noncomputable def Qjc (p1 : (List GOp)) (p2 : (List GOp)) : Option Bool :=
 if ((p1.length : Int) != (p2.length : Int)) = true then
  some false
 else
  Qgg p1 p2 FU 0
theorem Qxy {p1 : (List GOp)} {p2 : (List GOp)} {r : Bool} (h : Qjc p1 p2 = some r) : Qa5 Tryz.prog 128 [(AV.ro 4 (p1.map Qb6)), (AV.ro 4 (p2.map Qb6))] (B r) := by
 refine gM Tryz.func128 27 Xcj fun E hP hn hx => ?_
 unfold Qjc at h
 let Z0 := (I (p1.length : Int)); let Z1 := (I (p2.length : Int)); let Z2 := ((p1.length : Int) != (p2.length : Int))
 let P1 : List Prop := [AV.lit (.int .i64 (((p1.map Qb6).length : Nat) : Int)) = Z0, AV.lit (.int .i64 (((p2.map Qb6).length : Nat) : Int)) = Z1]
 have AP1 : Qal P1 := ⟨(Qcw Qb6), (Qcw Qb6), trivial⟩
 rcases itS h with ⟨c3, h⟩ | ⟨c4, h⟩
 ·obtain rfl := sj h
  exact gR hP hn [hO 2 Z0, hO 4 Z1, hT 6] [] .raw (P1 ++ [Z2 = true, (B false) = (B false), Qa4 (B false) = true]) (Qa9 AP1 ⟨c3, rfl, rfl, trivial⟩)
 ·exact gT hP hn hx [hO 2 Z0, hO 4 Z1, hF 6] [] [0, 1, 5] [] (P1 ++ [Z2 = false]) (Qa9 AP1 ⟨c4, trivial⟩) (Qsj hP hn hx p1 p2 FU 0 _ h)
noncomputable def Xgu : Code := match Tryz.f63.body with | some c => c | none => .skip
noncomputable def Qfl  (p1 : (List (List GOp))) (p2 : (List (List GOp))) : Nat → Int → Option Bool
 | 0, _ => none
 | n + 1, v5 =>
 if (decide (v5 < (p1.length : Int))) = true then
  Option.bind (rd p1 v5) fun x7 =>
  Option.bind (rd p2 v5) fun x8 =>
  Option.bind (Qjc x7 x8) fun r9 =>
  if (!r9) = true then
   some false
  else
   Qfl p1 p2 n (w64 (v5 + 1))
 else
  some true
theorem Qrg {E : Env} (hP : E.P = Tryz.prog) (hn : E.n = 27) (hx : FX E []) (p1 : (List (List GOp))) (p2 : (List (List GOp)))  : ∀ (n : Nat) (v5 : Int) (r : Bool), Qfl p1 p2 n v5 = some r → WAt E Xgu (FQ (Qf3 Θ Tryz.f63.results.toList [] [] (B r) E)) [true, true, false, true, false] ⟨[(0, (AV.ro 1 (p1.map Qgx))), (1, (AV.ro 1 (p2.map Qgx))), (5, (I v5))], [], [JJ]⟩ := by
 intro n
 induction n with
 | zero => intro v5 r h; simp only [Qfl] at h; cases h
 | succ n ih =>
  intro v5 r h
  simp only [Qfl] at h
  let Z0 := (I (p1.length : Int)); let Z1 := (decide (v5 < (p1.length : Int)))
  let P1 : List Prop := [AV.lit (.int .i64 (((p1.map Qgx).length : Nat) : Int)) = Z0]
  have AP1 : Qal P1 := ⟨(Qcw Qgx), trivial⟩
  rcases itS h with ⟨c6, h⟩ | ⟨c12, h⟩
  ·obtain ⟨x7, hx7, h⟩ := bnS h
   obtain ⟨x8, hx8, h⟩ := bnS h
   obtain ⟨r9, hr9, h⟩ := bnS h
   let H2 : List Hn := [hO 2 Z0, hT 4, hh 7 (.row (Qgx x7)), hh 11 (.row (Qgx x8)), hh 13 (.callV [] (B r9))]
   let P3 : List Prop := P1 ++ [Z1 = true, (0 : Int) ≤ v5, (p1.map Qgx)[v5.toNat]? = some (Qgx x7), (0 : Int) ≤ v5, (p2.map Qgx)[v5.toNat]? = some (Qgx x8), Qa5 Tryz.prog 128 [(AV.ro 4 (x7.map Qb6)), (AV.ro 4 (x8.map Qb6))] (B r9), Qa4 (B r9) = true]
   have AP3 : Qal P3 := Qa9 AP1 ⟨c6, (rd0 hx7), (rdM Qgx hx7), (rd0 hx8), (rdM Qgx hx8), (Qxy hr9), rfl, trivial⟩
   rcases itS h with ⟨c10, h⟩ | ⟨c11, h⟩
   ·obtain rfl := sj h
    exact gR hP hn (H2 ++ [hT 15]) [] .raw (P3 ++ [(!r9) = true, (B false) = (B false), Qa4 (B false) = true]) (Qa9 AP3 ⟨c10, rfl, rfl, trivial⟩)
   ·exact gT hP hn hx (H2 ++ [hF 15]) [] [0, 1, 5] [] (P3 ++ [(!r9) = false]) (Qa9 AP3 ⟨c11, trivial⟩) (ih (w64 (v5 + 1)) _ h)
  ·obtain rfl := sj h
   exact gR hP hn [hO 2 Z0, hF 4] [] .raw (P1 ++ [Z1 = false, (B true) = (B true), Qa4 (B true) = true]) (Qa9 AP1 ⟨c12, rfl, rfl, trivial⟩)
noncomputable def Qk1 (p1 : (List (List GOp))) (p2 : (List (List GOp))) : Option Bool :=
 if ((p1.length : Int) != (p2.length : Int)) = true then
  some false
 else
  Qfl p1 p2 FU 0
theorem Qvz {p1 : (List (List GOp))} {p2 : (List (List GOp))} {r : Bool} (h : Qk1 p1 p2 = some r) : Qa5 Tryz.prog 63 [(AV.ro 1 (p1.map Qgx)), (AV.ro 1 (p2.map Qgx))] (B r) := by
 refine gM Tryz.func63 27 Xgu fun E hP hn hx => ?_
 unfold Qk1 at h
 let Z0 := (I (p1.length : Int)); let Z1 := (I (p2.length : Int)); let Z2 := ((p1.length : Int) != (p2.length : Int))
 let P1 : List Prop := [AV.lit (.int .i64 (((p1.map Qgx).length : Nat) : Int)) = Z0, AV.lit (.int .i64 (((p2.map Qgx).length : Nat) : Int)) = Z1]
 have AP1 : Qal P1 := ⟨(Qcw Qgx), (Qcw Qgx), trivial⟩
 rcases itS h with ⟨c3, h⟩ | ⟨c4, h⟩
 ·obtain rfl := sj h
  exact gR hP hn [hO 2 Z0, hO 4 Z1, hT 6] [] .raw (P1 ++ [Z2 = true, (B false) = (B false), Qa4 (B false) = true]) (Qa9 AP1 ⟨c3, rfl, rfl, trivial⟩)
 ·exact gT hP hn hx [hO 2 Z0, hO 4 Z1, hF 6] [] [0, 1, 5] [] (P1 ++ [Z2 = false]) (Qa9 AP1 ⟨c4, trivial⟩) (Qrg hP hn hx p1 p2 FU 0 _ h)
noncomputable def Xls : Code := match Tryz.f17.body with | some c => c | none => .skip
noncomputable def Qjg (p1 : Qaf) (p2 : Qaf) : Option Bool :=
 if (p1.Cells != p2.Cells) = true then
  some false
 else
  if (p1.Locks != p2.Locks) = true then
   some false
  else
   if (p1.Conds != p2.Conds) = true then
    some false
   else
    Option.bind (Qk1 p1.Routines p2.Routines) fun r9 =>
    if (!r9) = true then
     some false
    else
     some true
theorem Qvl {p1 : Qaf} {p2 : Qaf} {r : Bool} (h : Qjg p1 p2 = some r) : Qa5 Tryz.prog 17 [(AV.agg ((r34 p1))), (AV.agg ((r34 p2)))] (B r) := by
 refine gM Tryz.func17 26 Xls fun E hP hn hx => ?_
 unfold Qjg at h
 let Z0 := p1.Cells != p2.Cells; let Z1 := B false; let Z2 := p1.Locks != p2.Locks; let Z3 := p1.Conds != p2.Conds
 let H1 : List Hn := [hW 0 1001, hW 1 1002]
 rcases itS h with ⟨c3, h⟩ | ⟨c4, h⟩
 ·obtain rfl := sj h
  exact gR hP hn (H1 ++ [hT 8]) [] .raw [Z0 = true, Z1 = Z1, Qa4 Z1 = true] ⟨c3, rfl, rfl, trivial⟩
 ·rcases itS h with ⟨c5, h⟩ | ⟨c6, h⟩
  ·obtain rfl := sj h
   exact gR hP hn (H1 ++ [hF 8, hT 14]) [] .raw [Z0 = false, Z2 = true, Z1 = Z1, Qa4 Z1 = true] ⟨c4, c5, rfl, rfl, trivial⟩
  ·let P2 : List Prop := [Z0 = false, Z2 = false]
   have AP2 : Qal P2 := ⟨c4, c6, trivial⟩
   rcases itS h with ⟨c7, h⟩ | ⟨c8, h⟩
   ·obtain rfl := sj h
    exact gR hP hn (H1 ++ [hF 8, hF 14, hT 20]) [] .raw (P2 ++ [Z3 = true, Z1 = Z1, Qa4 Z1 = true]) (Qa9 AP2 ⟨c7, rfl, rfl, trivial⟩)
   ·obtain ⟨r9, hr9, h⟩ := bnS h
    let P3 : List Prop := P2 ++ [Z3 = false, Qa5 Tryz.prog 63 [(AV.ro 1 (p1.Routines.map Qgx)), (AV.ro 1 (p2.Routines.map Qgx))] (B r9), Qa4 (B r9) = true]
    have AP3 : Qal P3 := Qa9 AP2 ⟨c8, (Qvz hr9), rfl, trivial⟩
    rcases itS h with ⟨c10, h⟩ | ⟨c11, h⟩
    ·obtain rfl := sj h
     exact gR hP hn (H1 ++ [hF 8, hF 14, hF 20, hh 25 (.callV [] (B r9)), hT 27]) [] .raw (P3 ++ [(!r9) = true, Z1 = Z1, Qa4 Z1 = true]) (Qa9 AP3 ⟨c10, rfl, rfl, trivial⟩)
    ·obtain rfl := sj h
     exact gR hP hn (H1 ++ [hF 8, hF 14, hF 20, hh 25 (.callV [] (B r9)), hF 27]) [] .raw (P3 ++ [(!r9) = false, (B true) = (B true), Qa4 (B true) = true]) (Qa9 AP3 ⟨c11, rfl, rfl, trivial⟩)
noncomputable def Xle : Code := match Tryz.f23.body with | some c => c | none => .skip
noncomputable def Qh7 (p1 : Qad) (p2 : Qad) : Option Bool :=
 if (p1.Thread != p2.Thread) = true then
  some false
 else
  if (p1.Kind != p2.Kind) = true then
   some false
  else
   if (p1.Obj != p2.Obj) = true then
    some false
   else
    if (p1.Lock != p2.Lock) = true then
     some false
    else
     if (p1.Pc != p2.Pc) = true then
      some false
     else
      some true
theorem Qub {p1 : Qad} {p2 : Qad} {r : Bool} (h : Qh7 p1 p2 = some r) : Qa5 Tryz.prog 23 [(AV.agg ((o59 p1))), (AV.agg ((o59 p2)))] (B r) := by
 refine gM Tryz.func23 30 Xle fun E hP hn hx => ?_
 unfold Qh7 at h
 let Z0 := p1.Thread != p2.Thread; let Z1 := B false; let Z2 := p1.Kind != p2.Kind; let Z3 := p1.Lock != p2.Lock
 let H1 : List Hn := [hW 0 1001, hW 1 1002]
 rcases itS h with ⟨c3, h⟩ | ⟨c4, h⟩
 ·obtain rfl := sj h
  exact gR hP hn (H1 ++ [hT 8]) [] .raw [Z0 = true, Z1 = Z1, Qa4 Z1 = true] ⟨c3, rfl, rfl, trivial⟩
 ·let P2 : List Prop := [Z0 = false]
  have AP2 : Qal P2 := ⟨c4, trivial⟩
  rcases itS h with ⟨c5, h⟩ | ⟨c6, h⟩
  ·obtain rfl := sj h
   exact gR hP hn (H1 ++ [hF 8, hT 14]) [] .raw (P2 ++ [Z2 = true, Z1 = Z1, Qa4 Z1 = true]) (Qa9 AP2 ⟨c5, rfl, rfl, trivial⟩)
  ·rcases itS h with ⟨c7, h⟩ | ⟨c8, h⟩
   ·obtain rfl := sj h
    exact gR hP hn (H1 ++ [hF 8, hF 14, hT 20]) [] .raw (P2 ++ [Z2 = false, (p1.Obj != p2.Obj) = true, Z1 = Z1, Qa4 Z1 = true]) (Qa9 AP2 ⟨c6, c7, rfl, rfl, trivial⟩)
   ·let P3 : List Prop := P2 ++ [Z2 = false, (p1.Obj != p2.Obj) = false]
    have AP3 : Qal P3 := Qa9 AP2 ⟨c6, c8, trivial⟩
    rcases itS h with ⟨c9, h⟩ | ⟨c10, h⟩
    ·obtain rfl := sj h
     exact gR hP hn (H1 ++ [hF 8, hF 14, hF 20, hT 26]) [] .raw (P3 ++ [Z3 = true, Z1 = Z1, Qa4 Z1 = true]) (Qa9 AP3 ⟨c9, rfl, rfl, trivial⟩)
    ·rcases itS h with ⟨c11, h⟩ | ⟨c12, h⟩
     ·obtain rfl := sj h
      exact gR hP hn (H1 ++ [hF 8, hF 14, hF 20, hF 26, hT 32]) [] .raw (P3 ++ [Z3 = false, (p1.Pc != p2.Pc) = true, Z1 = Z1, Qa4 Z1 = true]) (Qa9 AP3 ⟨c10, c11, rfl, rfl, trivial⟩)
     ·obtain rfl := sj h
      exact gR hP hn (H1 ++ [hF 8, hF 14, hF 20, hF 26, hF 32]) [] .raw (P3 ++ [Z3 = false, (p1.Pc != p2.Pc) = false, (B true) = (B true), Qa4 (B true) = true]) (Qa9 AP3 ⟨c10, c12, rfl, rfl, trivial⟩)
noncomputable def Xgq : Code := match Tryz.f90.body with | some c => c | none => .skip
noncomputable def Qe3  (p1 : (List Qad)) (p2 : (List Qad)) : Nat → Int → Option Bool
 | 0, _ => none
 | n + 1, v5 =>
 if (decide (v5 < (p1.length : Int))) = true then
  Option.bind (rd p1 v5) fun x7 =>
  Option.bind (rd p2 v5) fun x8 =>
  Option.bind (Qh7 x7 x8) fun r9 =>
  if (!r9) = true then
   some false
  else
   Qe3 p1 p2 n (w64 (v5 + 1))
 else
  some true
theorem Qpd {E : Env} (hP : E.P = Tryz.prog) (hn : E.n = 27) (hx : FX E []) (p1 : (List Qad)) (p2 : (List Qad))  : ∀ (n : Nat) (v5 : Int) (r : Bool), Qe3 p1 p2 n v5 = some r → WAt E Xgq (FQ (Qf3 Θ Tryz.f90.results.toList [] [] (B r) E)) [true, true, false, true, false] ⟨[(0, (AV.ro 5 (p1.map o59))), (1, (AV.ro 5 (p2.map o59))), (5, (I v5))], [], [JJ]⟩ := by
 intro n
 induction n with
 | zero => intro v5 r h; simp only [Qe3] at h; cases h
 | succ n ih =>
  intro v5 r h
  simp only [Qe3] at h
  let Z0 := (I (p1.length : Int)); let Z1 := (decide (v5 < (p1.length : Int)))
  let P1 : List Prop := [AV.lit (.int .i64 (((p1.map o59).length : Nat) : Int)) = Z0]
  have AP1 : Qal P1 := ⟨(Qcw o59), trivial⟩
  rcases itS h with ⟨c6, h⟩ | ⟨c12, h⟩
  ·obtain ⟨x7, hx7, h⟩ := bnS h
   obtain ⟨x8, hx8, h⟩ := bnS h
   obtain ⟨r9, hr9, h⟩ := bnS h
   let H2 : List Hn := [hO 2 Z0, hT 4, hh 7 (.row (o59 x7)), hh 11 (.row (o59 x8)), hh 13 (.callV [[], []] (B r9))]
   let P3 : List Prop := P1 ++ [Z1 = true, (0 : Int) ≤ v5, (p1.map o59)[v5.toNat]? = some (o59 x7), (0 : Int) ≤ v5, (p2.map o59)[v5.toNat]? = some (o59 x8), Qa5 Tryz.prog 23 [(AV.agg ((o59 x7))), (AV.agg ((o59 x8)))] (B r9), Qa4 (B r9) = true]
   have AP3 : Qal P3 := Qa9 AP1 ⟨c6, (rd0 hx7), (rdM o59 hx7), (rd0 hx8), (rdM o59 hx8), (Qub hr9), rfl, trivial⟩
   rcases itS h with ⟨c10, h⟩ | ⟨c11, h⟩
   ·obtain rfl := sj h
    exact gR hP hn (H2 ++ [hT 15]) [] .raw (P3 ++ [(!r9) = true, (B false) = (B false), Qa4 (B false) = true]) (Qa9 AP3 ⟨c10, rfl, rfl, trivial⟩)
   ·exact gT hP hn hx (H2 ++ [hF 15]) [] [0, 1, 5] [] (P3 ++ [(!r9) = false]) (Qa9 AP3 ⟨c11, trivial⟩) (ih (w64 (v5 + 1)) _ h)
  ·obtain rfl := sj h
   exact gR hP hn [hO 2 Z0, hF 4] [] .raw (P1 ++ [Z1 = false, (B true) = (B true), Qa4 (B true) = true]) (Qa9 AP1 ⟨c12, rfl, rfl, trivial⟩)
noncomputable def Qhh (p1 : (List Qad)) (p2 : (List Qad)) : Option Bool :=
 if ((p1.length : Int) != (p2.length : Int)) = true then
  some false
 else
  Qe3 p1 p2 FU 0
theorem Qta {p1 : (List Qad)} {p2 : (List Qad)} {r : Bool} (h : Qhh p1 p2 = some r) : Qa5 Tryz.prog 90 [(AV.ro 5 (p1.map o59)), (AV.ro 5 (p2.map o59))] (B r) := by
 refine gM Tryz.func90 27 Xgq fun E hP hn hx => ?_
 unfold Qhh at h
 let Z0 := (I (p1.length : Int)); let Z1 := (I (p2.length : Int)); let Z2 := ((p1.length : Int) != (p2.length : Int))
 let P1 : List Prop := [AV.lit (.int .i64 (((p1.map o59).length : Nat) : Int)) = Z0, AV.lit (.int .i64 (((p2.map o59).length : Nat) : Int)) = Z1]
 have AP1 : Qal P1 := ⟨(Qcw o59), (Qcw o59), trivial⟩
 rcases itS h with ⟨c3, h⟩ | ⟨c4, h⟩
 ·obtain rfl := sj h
  exact gR hP hn [hO 2 Z0, hO 4 Z1, hT 6] [] .raw (P1 ++ [Z2 = true, (B false) = (B false), Qa4 (B false) = true]) (Qa9 AP1 ⟨c3, rfl, rfl, trivial⟩)
 ·exact gT hP hn hx [hO 2 Z0, hO 4 Z1, hF 6] [] [0, 1, 5] [] (P1 ++ [Z2 = false]) (Qa9 AP1 ⟨c4, trivial⟩) (Qpd hP hn hx p1 p2 FU 0 _ h)
noncomputable def Xh9 : Code := match Tryz.f79.body with | some c => c | none => .skip
noncomputable def Qcz  (p1 : (List Nat)) (p2 : (List Nat)) : Nat → Int → Option Bool
 | 0, _ => none
 | n + 1, v5 =>
 if (decide (v5 < (p1.length : Int))) = true then
  Option.bind (rd p1 v5) fun x7 =>
  Option.bind (rd p2 v5) fun x8 =>
  Option.bind (Qej x7 x8) fun r9 =>
  if (!r9) = true then
   some false
  else
   Qcz p1 p2 n (w64 (v5 + 1))
 else
  some true
theorem Qna {E : Env} (hP : E.P = Tryz.prog) (hn : E.n = 27) (hx : FX E []) (p1 : (List Nat)) (p2 : (List Nat))  : ∀ (n : Nat) (v5 : Int) (r : Bool), Qcz p1 p2 n v5 = some r → WAt E Xh9 (FQ (Qf3 Θ Tryz.f79.results.toList [] [] (B r) E)) [true, true, false, true, false] ⟨[(0, (AV.ro 1 (p1.map Qae))), (1, (AV.ro 1 (p2.map Qae))), (5, (I v5))], [], [JJ]⟩ := by
 intro n
 induction n with
 | zero => intro v5 r h; simp only [Qcz] at h; cases h
 | succ n ih =>
  intro v5 r h
  simp only [Qcz] at h
  let Z0 := (I (p1.length : Int)); let Z1 := (decide (v5 < (p1.length : Int)))
  let P1 : List Prop := [AV.lit (.int .i64 (((p1.map Qae).length : Nat) : Int)) = Z0]
  have AP1 : Qal P1 := ⟨(Qcw Qae), trivial⟩
  rcases itS h with ⟨c6, h⟩ | ⟨c12, h⟩
  ·obtain ⟨x7, hx7, h⟩ := bnS h
   obtain ⟨x8, hx8, h⟩ := bnS h
   obtain ⟨r9, hr9, h⟩ := bnS h
   let H2 : List Hn := [hO 2 Z0, hT 4, hh 7 (.row (Qae x7)), hh 11 (.row (Qae x8)), hh 13 (.callV [] (B r9))]
   let P3 : List Prop := P1 ++ [Z1 = true, (0 : Int) ≤ v5, (p1.map Qae)[v5.toNat]? = some (Qae x7), (0 : Int) ≤ v5, (p2.map Qae)[v5.toNat]? = some (Qae x8), Qa5 Tryz.prog 150 [(FK x7), (FK x8)] (B r9), Qa4 (B r9) = true]
   have AP3 : Qal P3 := Qa9 AP1 ⟨c6, (rd0 hx7), (rdM Qae hx7), (rd0 hx8), (rdM Qae hx8), (Qlp hr9), rfl, trivial⟩
   rcases itS h with ⟨c10, h⟩ | ⟨c11, h⟩
   ·obtain rfl := sj h
    exact gR hP hn (H2 ++ [hT 15]) [] .raw (P3 ++ [(!r9) = true, (B false) = (B false), Qa4 (B false) = true]) (Qa9 AP3 ⟨c10, rfl, rfl, trivial⟩)
   ·exact gT hP hn hx (H2 ++ [hF 15]) [] [0, 1, 5] [] (P3 ++ [(!r9) = false]) (Qa9 AP3 ⟨c11, trivial⟩) (ih (w64 (v5 + 1)) _ h)
  ·obtain rfl := sj h
   exact gR hP hn [hO 2 Z0, hF 4] [] .raw (P1 ++ [Z1 = false, (B true) = (B true), Qa4 (B true) = true]) (Qa9 AP1 ⟨c12, rfl, rfl, trivial⟩)
noncomputable def Qez (p1 : (List Nat)) (p2 : (List Nat)) : Option Bool :=
 if ((p1.length : Int) != (p2.length : Int)) = true then
  some false
 else
  Qcz p1 p2 FU 0
theorem Qkx {p1 : (List Nat)} {p2 : (List Nat)} {r : Bool} (h : Qez p1 p2 = some r) : Qa5 Tryz.prog 79 [(AV.ro 1 (p1.map Qae)), (AV.ro 1 (p2.map Qae))] (B r) := by
 refine gM Tryz.func79 27 Xh9 fun E hP hn hx => ?_
 unfold Qez at h
 let Z0 := (I (p1.length : Int)); let Z1 := (I (p2.length : Int)); let Z2 := ((p1.length : Int) != (p2.length : Int))
 let P1 : List Prop := [AV.lit (.int .i64 (((p1.map Qae).length : Nat) : Int)) = Z0, AV.lit (.int .i64 (((p2.map Qae).length : Nat) : Int)) = Z1]
 have AP1 : Qal P1 := ⟨(Qcw Qae), (Qcw Qae), trivial⟩
 rcases itS h with ⟨c3, h⟩ | ⟨c4, h⟩
 ·obtain rfl := sj h
  exact gR hP hn [hO 2 Z0, hO 4 Z1, hT 6] [] .raw (P1 ++ [Z2 = true, (B false) = (B false), Qa4 (B false) = true]) (Qa9 AP1 ⟨c3, rfl, rfl, trivial⟩)
 ·exact gT hP hn hx [hO 2 Z0, hO 4 Z1, hF 6] [] [0, 1, 5] [] (P1 ++ [Z2 = false]) (Qa9 AP1 ⟨c4, trivial⟩) (Qna hP hn hx p1 p2 FU 0 _ h)
noncomputable def Xhs : Code := match Tryz.f149.body with | some c => c | none => .skip
noncomputable def Qge (p1 : Qa0) (p2 : Qa0) : Option Bool :=
 if (p1.Routine != p2.Routine) = true then
  some false
 else
  if (p1.Pc != p2.Pc) = true then
   some false
  else
   if (p1.State != p2.State) = true then
    some false
   else
    if (p1.Cond != p2.Cond) = true then
     some false
    else
     if (p1.Lock != p2.Lock) = true then
      some false
     else
      Option.bind (Qez p1.Stack p2.Stack) fun r13 =>
      if (!r13) = true then
       some false
      else
       some true
theorem Qs8 {p1 : Qa0} {p2 : Qa0} {r : Bool} (h : Qge p1 p2 = some r) : Qa5 Tryz.prog 149 [(AV.agg ((Qb5 p1))), (AV.agg ((Qb5 p2)))] (B r) := by
 refine gM Tryz.func149 36 Xhs fun E hP hn hx => ?_
 unfold Qge at h
 let Z0 := p1.Routine != p2.Routine; let Z1 := B false; let Z2 := p1.State != p2.State
 let H1 : List Hn := [hW 0 1001, hW 1 1002]
 rcases itS h with ⟨c3, h⟩ | ⟨c4, h⟩
 ·obtain rfl := sj h
  exact gR hP hn (H1 ++ [hT 8]) [] .raw [Z0 = true, Z1 = Z1, Qa4 Z1 = true] ⟨c3, rfl, rfl, trivial⟩
 ·let P2 : List Prop := [Z0 = false]
  have AP2 : Qal P2 := ⟨c4, trivial⟩
  rcases itS h with ⟨c5, h⟩ | ⟨c6, h⟩
  ·obtain rfl := sj h
   exact gR hP hn (H1 ++ [hF 8, hT 14]) [] .raw (P2 ++ [(p1.Pc != p2.Pc) = true, Z1 = Z1, Qa4 Z1 = true]) (Qa9 AP2 ⟨c5, rfl, rfl, trivial⟩)
  ·let P3 : List Prop := P2 ++ [(p1.Pc != p2.Pc) = false]
   have AP3 : Qal P3 := Qa9 AP2 ⟨c6, trivial⟩
   rcases itS h with ⟨c7, h⟩ | ⟨c8, h⟩
   ·obtain rfl := sj h
    exact gR hP hn (H1 ++ [hF 8, hF 14, hT 20]) [] .raw (P3 ++ [Z2 = true, Z1 = Z1, Qa4 Z1 = true]) (Qa9 AP3 ⟨c7, rfl, rfl, trivial⟩)
   ·rcases itS h with ⟨c9, h⟩ | ⟨c10, h⟩
    ·obtain rfl := sj h
     exact gR hP hn (H1 ++ [hF 8, hF 14, hF 20, hT 26]) [] .raw (P3 ++ [Z2 = false, (p1.Cond != p2.Cond) = true, Z1 = Z1, Qa4 Z1 = true]) (Qa9 AP3 ⟨c8, c9, rfl, rfl, trivial⟩)
    ·let P4 : List Prop := P3 ++ [Z2 = false, (p1.Cond != p2.Cond) = false]
     have AP4 : Qal P4 := Qa9 AP3 ⟨c8, c10, trivial⟩
     rcases itS h with ⟨c11, h⟩ | ⟨c12, h⟩
     ·obtain rfl := sj h
      exact gR hP hn (H1 ++ [hF 8, hF 14, hF 20, hF 26, hT 32]) [] .raw (P4 ++ [(p1.Lock != p2.Lock) = true, Z1 = Z1, Qa4 Z1 = true]) (Qa9 AP4 ⟨c11, rfl, rfl, trivial⟩)
     ·obtain ⟨r13, hr13, h⟩ := bnS h
      let P5 : List Prop := P4 ++ [(p1.Lock != p2.Lock) = false, Qa5 Tryz.prog 79 [(AV.ro 1 (p1.Stack.map Qae)), (AV.ro 1 (p2.Stack.map Qae))] (B r13), Qa4 (B r13) = true]
      have AP5 : Qal P5 := Qa9 AP4 ⟨c12, (Qkx hr13), rfl, trivial⟩
      rcases itS h with ⟨c14, h⟩ | ⟨c15, h⟩
      ·obtain rfl := sj h
       exact gR hP hn (H1 ++ [hF 8, hF 14, hF 20, hF 26, hF 32, hh 37 (.callV [] (B r13)), hT 39]) [] .raw (P5 ++ [(!r13) = true, Z1 = Z1, Qa4 Z1 = true]) (Qa9 AP5 ⟨c14, rfl, rfl, trivial⟩)
      ·obtain rfl := sj h
       exact gR hP hn (H1 ++ [hF 8, hF 14, hF 20, hF 26, hF 32, hh 37 (.callV [] (B r13)), hF 39]) [] .raw (P5 ++ [(!r13) = false, (B true) = (B true), Qa4 (B true) = true]) (Qa9 AP5 ⟨c15, rfl, rfl, trivial⟩)
noncomputable def Xgo : Code := match Tryz.f78.body with | some c => c | none => .skip
noncomputable def Qdi  (p1 : (List Qa0)) (p2 : (List Qa0)) : Nat → Int → Option Bool
 | 0, _ => none
 | n + 1, v5 =>
 if (decide (v5 < (p1.length : Int))) = true then
  Option.bind (rd p1 v5) fun x7 =>
  Option.bind (rd p2 v5) fun x8 =>
  Option.bind (Qge x7 x8) fun r9 =>
  if (!r9) = true then
   some false
  else
   Qdi p1 p2 n (w64 (v5 + 1))
 else
  some true
theorem Qoz {E : Env} (hP : E.P = Tryz.prog) (hn : E.n = 27) (hx : FX E []) (p1 : (List Qa0)) (p2 : (List Qa0))  : ∀ (n : Nat) (v5 : Int) (r : Bool), Qdi p1 p2 n v5 = some r → WAt E Xgo (FQ (Qf3 Θ Tryz.f78.results.toList [] [] (B r) E)) [true, true, false, true, false] ⟨[(0, (AV.ro 6 (p1.map Qb5))), (1, (AV.ro 6 (p2.map Qb5))), (5, (I v5))], [], [JJ]⟩ := by
 intro n
 induction n with
 | zero => intro v5 r h; simp only [Qdi] at h; cases h
 | succ n ih =>
  intro v5 r h
  simp only [Qdi] at h
  let Z0 := (I (p1.length : Int)); let Z1 := (decide (v5 < (p1.length : Int)))
  let P1 : List Prop := [AV.lit (.int .i64 (((p1.map Qb5).length : Nat) : Int)) = Z0]
  have AP1 : Qal P1 := ⟨(Qcw Qb5), trivial⟩
  rcases itS h with ⟨c6, h⟩ | ⟨c12, h⟩
  ·obtain ⟨x7, hx7, h⟩ := bnS h
   obtain ⟨x8, hx8, h⟩ := bnS h
   obtain ⟨r9, hr9, h⟩ := bnS h
   let H2 : List Hn := [hO 2 Z0, hT 4, hh 7 (.row (Qb5 x7)), hh 11 (.row (Qb5 x8)), hh 13 (.callV [[], []] (B r9))]
   let P3 : List Prop := P1 ++ [Z1 = true, (0 : Int) ≤ v5, (p1.map Qb5)[v5.toNat]? = some (Qb5 x7), (0 : Int) ≤ v5, (p2.map Qb5)[v5.toNat]? = some (Qb5 x8), Qa5 Tryz.prog 149 [(AV.agg ((Qb5 x7))), (AV.agg ((Qb5 x8)))] (B r9), Qa4 (B r9) = true]
   have AP3 : Qal P3 := Qa9 AP1 ⟨c6, (rd0 hx7), (rdM Qb5 hx7), (rd0 hx8), (rdM Qb5 hx8), (Qs8 hr9), rfl, trivial⟩
   rcases itS h with ⟨c10, h⟩ | ⟨c11, h⟩
   ·obtain rfl := sj h
    exact gR hP hn (H2 ++ [hT 15]) [] .raw (P3 ++ [(!r9) = true, (B false) = (B false), Qa4 (B false) = true]) (Qa9 AP3 ⟨c10, rfl, rfl, trivial⟩)
   ·exact gT hP hn hx (H2 ++ [hF 15]) [] [0, 1, 5] [] (P3 ++ [(!r9) = false]) (Qa9 AP3 ⟨c11, trivial⟩) (ih (w64 (v5 + 1)) _ h)
  ·obtain rfl := sj h
   exact gR hP hn [hO 2 Z0, hF 4] [] .raw (P1 ++ [Z1 = false, (B true) = (B true), Qa4 (B true) = true]) (Qa9 AP1 ⟨c12, rfl, rfl, trivial⟩)
noncomputable def Qgt (p1 : (List Qa0)) (p2 : (List Qa0)) : Option Bool :=
 if ((p1.length : Int) != (p2.length : Int)) = true then
  some false
 else
  Qdi p1 p2 FU 0
theorem Qro {p1 : (List Qa0)} {p2 : (List Qa0)} {r : Bool} (h : Qgt p1 p2 = some r) : Qa5 Tryz.prog 78 [(AV.ro 6 (p1.map Qb5)), (AV.ro 6 (p2.map Qb5))] (B r) := by
 refine gM Tryz.func78 27 Xgo fun E hP hn hx => ?_
 unfold Qgt at h
 let Z0 := (I (p1.length : Int)); let Z1 := (I (p2.length : Int)); let Z2 := ((p1.length : Int) != (p2.length : Int))
 let P1 : List Prop := [AV.lit (.int .i64 (((p1.map Qb5).length : Nat) : Int)) = Z0, AV.lit (.int .i64 (((p2.map Qb5).length : Nat) : Int)) = Z1]
 have AP1 : Qal P1 := ⟨(Qcw Qb5), (Qcw Qb5), trivial⟩
 rcases itS h with ⟨c3, h⟩ | ⟨c4, h⟩
 ·obtain rfl := sj h
  exact gR hP hn [hO 2 Z0, hO 4 Z1, hT 6] [] .raw (P1 ++ [Z2 = true, (B false) = (B false), Qa4 (B false) = true]) (Qa9 AP1 ⟨c3, rfl, rfl, trivial⟩)
 ·exact gT hP hn hx [hO 2 Z0, hO 4 Z1, hF 6] [] [0, 1, 5] [] (P1 ++ [Z2 = false]) (Qa9 AP1 ⟨c4, trivial⟩) (Qoz hP hn hx p1 p2 FU 0 _ h)
noncomputable def Xlp : Code := match Tryz.f22.body with | some c => c | none => .skip
noncomputable def Qid (p1 : Qa2) (p2 : Qa2) : Option Bool :=
 Option.bind (Qgt p1.Threads p2.Threads) fun r3 =>
 if (!r3) = true then
  some false
 else
  Option.bind (Qez p1.Cells p2.Cells) fun r6 =>
  if (!r6) = true then
   some false
  else
   Option.bind (Qgy p1.Owner p2.Owner) fun r9 =>
   if (!r9) = true then
    some false
   else
    if (p1.Fault != p2.Fault) = true then
     some false
    else
     some true
theorem Qu0 {p1 : Qa2} {p2 : Qa2} {r : Bool} (h : Qid p1 p2 = some r) : Qa5 Tryz.prog 22 [(AV.agg ((r57 p1))), (AV.agg ((r57 p2)))] (B r) := by
 refine gM Tryz.func22 28 Xlp fun E hP hn hx => ?_
 unfold Qid at h
 obtain ⟨r3, hr3, h⟩ := bnS h
 let Z0 := B false; let Z1 := p1.Fault != p2.Fault
 let H1 : List Hn := [hW 0 1001, hW 1 1002, hh 7 (.callV [] (B r3))]
 let P2 : List Prop := [Qa5 Tryz.prog 78 [(AV.ro 6 (p1.Threads.map Qb5)), (AV.ro 6 (p2.Threads.map Qb5))] (B r3), Qa4 (B r3) = true]
 have AP2 : Qal P2 := ⟨(Qro hr3), rfl, trivial⟩
 rcases itS h with ⟨c4, h⟩ | ⟨c5, h⟩
 ·obtain rfl := sj h
  exact gR hP hn (H1 ++ [hT 9]) [] .raw (P2 ++ [(!r3) = true, Z0 = Z0, Qa4 Z0 = true]) (Qa9 AP2 ⟨c4, rfl, rfl, trivial⟩)
 ·obtain ⟨r6, hr6, h⟩ := bnS h
  let H3 : List Hn := H1 ++ [hF 9, hh 14 (.callV [] (B r6))]
  let P4 : List Prop := P2 ++ [(!r3) = false, Qa5 Tryz.prog 79 [(AV.ro 1 (p1.Cells.map Qae)), (AV.ro 1 (p2.Cells.map Qae))] (B r6), Qa4 (B r6) = true]
  have AP4 : Qal P4 := Qa9 AP2 ⟨c5, (Qkx hr6), rfl, trivial⟩
  rcases itS h with ⟨c7, h⟩ | ⟨c8, h⟩
  ·obtain rfl := sj h
   exact gR hP hn (H3 ++ [hT 16]) [] .raw (P4 ++ [(!r6) = true, Z0 = Z0, Qa4 Z0 = true]) (Qa9 AP4 ⟨c7, rfl, rfl, trivial⟩)
  ·obtain ⟨r9, hr9, h⟩ := bnS h
   let P5 : List Prop := P4 ++ [(!r6) = false, Qa5 Tryz.prog 31 [(AV.ro 1 (p1.Owner.map o3)), (AV.ro 1 (p2.Owner.map o3))] (B r9), Qa4 (B r9) = true]
   have AP5 : Qal P5 := Qa9 AP4 ⟨c8, (Qla hr9), rfl, trivial⟩
   rcases itS h with ⟨c10, h⟩ | ⟨c11, h⟩
   ·obtain rfl := sj h
    exact gR hP hn (H3 ++ [hF 16, hh 21 (.callV [] (B r9)), hT 23]) [] .raw (P5 ++ [(!r9) = true, Z0 = Z0, Qa4 Z0 = true]) (Qa9 AP5 ⟨c10, rfl, rfl, trivial⟩)
   ·rcases itS h with ⟨c12, h⟩ | ⟨c13, h⟩
    ·obtain rfl := sj h
     exact gR hP hn (H3 ++ [hF 16, hh 21 (.callV [] (B r9)), hF 23, hT 29]) [] .raw (P5 ++ [(!r9) = false, Z1 = true, Z0 = Z0, Qa4 Z0 = true]) (Qa9 AP5 ⟨c11, c12, rfl, rfl, trivial⟩)
    ·obtain rfl := sj h
     exact gR hP hn (H3 ++ [hF 16, hh 21 (.callV [] (B r9)), hF 23, hF 29]) [] .raw (P5 ++ [(!r9) = false, Z1 = false, (B true) = (B true), Qa4 (B true) = true]) (Qa9 AP5 ⟨c11, c13, rfl, rfl, trivial⟩)
noncomputable def Xl1 : Code := match Tryz.f30.body with | some c => c | none => .skip
noncomputable def Qi2 (p1 : Qcy) (p2 : Qcy) : Option Bool :=
 if (p1.Code != p2.Code) = true then
  some false
 else
  Option.bind (Qhh p1.Trace p2.Trace) fun r5 =>
  if (!r5) = true then
   some false
  else
   Option.bind (Qgy p1.Picks p2.Picks) fun r8 =>
   if (!r8) = true then
    some false
   else
    Option.bind (Qid p1.End p2.End) fun r11 =>
    if (!r11) = true then
     some false
    else
     some true
theorem Qm7 {p1 : Qcy} {p2 : Qcy} {r : Bool} (h : Qi2 p1 p2 = some r) : Qa5 Tryz.prog 30 [(AV.agg ((r70 p1))), (AV.agg ((r70 p2)))] (B r) := by
 refine gM Tryz.func30 28 Xl1 fun E hP hn hx => ?_
 unfold Qi2 at h
 let Z0 := B false
 let H1 : List Hn := [hW 0 1001, hW 1 1002]
 rcases itS h with ⟨c3, h⟩ | ⟨c4, h⟩
 ·obtain rfl := sj h
  exact gR hP hn (H1 ++ [hT 8]) [] .raw [(p1.Code != p2.Code) = true, Z0 = Z0, Qa4 Z0 = true] ⟨c3, rfl, rfl, trivial⟩
 ·obtain ⟨r5, hr5, h⟩ := bnS h
  let H2 : List Hn := H1 ++ [hF 8, hh 13 (.callV [] (B r5))]
  let P3 : List Prop := [(p1.Code != p2.Code) = false, Qa5 Tryz.prog 90 [(AV.ro 5 (p1.Trace.map o59)), (AV.ro 5 (p2.Trace.map o59))] (B r5), Qa4 (B r5) = true]
  have AP3 : Qal P3 := ⟨c4, (Qta hr5), rfl, trivial⟩
  rcases itS h with ⟨c6, h⟩ | ⟨c7, h⟩
  ·obtain rfl := sj h
   exact gR hP hn (H2 ++ [hT 15]) [] .raw (P3 ++ [(!r5) = true, Z0 = Z0, Qa4 Z0 = true]) (Qa9 AP3 ⟨c6, rfl, rfl, trivial⟩)
  ·obtain ⟨r8, hr8, h⟩ := bnS h
   let P4 : List Prop := P3 ++ [(!r5) = false, Qa5 Tryz.prog 31 [(AV.ro 1 (p1.Picks.map o3)), (AV.ro 1 (p2.Picks.map o3))] (B r8), Qa4 (B r8) = true]
   have AP4 : Qal P4 := Qa9 AP3 ⟨c7, (Qla hr8), rfl, trivial⟩
   rcases itS h with ⟨c9, h⟩ | ⟨c10, h⟩
   ·obtain rfl := sj h
    exact gR hP hn (H2 ++ [hF 15, hh 20 (.callV [] (B r8)), hT 22]) [] .raw (P4 ++ [(!r8) = true, Z0 = Z0, Qa4 Z0 = true]) (Qa9 AP4 ⟨c9, rfl, rfl, trivial⟩)
   ·obtain ⟨r11, hr11, h⟩ := bnS h
    let H5 : List Hn := H2 ++ [hF 15, hh 20 (.callV [] (B r8)), hF 22, hh 27 (.callV [[], []] (B r11))]
    let P6 : List Prop := P4 ++ [(!r8) = false, Qa5 Tryz.prog 22 [(AV.agg ((r57 p1.End))), (AV.agg ((r57 p2.End)))] (B r11), Qa4 (B r11) = true]
    have AP6 : Qal P6 := Qa9 AP4 ⟨c10, (Qu0 hr11), rfl, trivial⟩
    rcases itS h with ⟨c12, h⟩ | ⟨c13, h⟩
    ·obtain rfl := sj h
     exact gR hP hn (H5 ++ [hT 29]) [] .raw (P6 ++ [(!r11) = true, Z0 = Z0, Qa4 Z0 = true]) (Qa9 AP6 ⟨c12, rfl, rfl, trivial⟩)
    ·obtain rfl := sj h
     exact gR hP hn (H5 ++ [hF 29]) [] .raw (P6 ++ [(!r11) = false, (B true) = (B true), Qa4 (B true) = true]) (Qa9 AP6 ⟨c13, rfl, rfl, trivial⟩)
noncomputable def Xgs : Code := match Tryz.f92.body with | some c => c | none => .skip
noncomputable def Qce  (p1 : (List Qad)) : Nat → Int → Int → Option Int
 | 0, _, _ => none
 | n + 1, v3, v4 =>
 if (decide (v4 < (p1.length : Int))) = true then
  Option.bind (rd p1 v4) fun x6 =>
  if (x6.Thread != v3) = true then
   some (-1)
  else
   if (x6.Kind != (w64 (v3 + 1))) = true then
    some (-1)
   else
    if (x6.Obj != (w64 ((w64 (v3 + 1)) + 1))) = true then
     some (-1)
    else
     if (x6.Lock != (w64 ((w64 ((w64 (v3 + 1)) + 1)) + 1))) = true then
      some (-1)
     else
      if (x6.Pc != (w64 ((w64 ((w64 ((w64 (v3 + 1)) + 1)) + 1)) + 1))) = true then
       some (-1)
      else
       Qce p1 n (w64 ((w64 ((w64 ((w64 ((w64 (v3 + 1)) + 1)) + 1)) + 1)) + 1)) (w64 (v4 + 1))
 else
  some v3
theorem Qnj {E : Env} (hP : E.P = Tryz.prog) (hn : E.n = 58) (hx : FX E []) (p1 : (List Qad))  : ∀ (n : Nat) (v3 : Int) (v4 : Int) (r : Int), Qce p1 n v3 v4 = some r → WAt E Xgs (FQ (Qf3 Θ Tryz.f92.results.toList [] [] (I r) E)) [true, false, true, false] ⟨[(0, (AV.ro 5 (p1.map o59))), (1, (I v3)), (5, (I v4))], [], [JJ]⟩ := by
 intro n
 induction n with
 | zero => intro v3 v4 r h; simp only [Qce] at h; cases h
 | succ n ih =>
  intro v3 v4 r h
  simp only [Qce] at h
  let Z0 := (I (p1.length : Int)); let Z1 := p1.map o59; let Z3 := (decide (v4 < (p1.length : Int))); let Z4 := I (-1); let Z6 := w64 ((w64 (v3 + 1)) + 1)
  let H1 : List Hn := [hO 2 Z0]
  let P2 : List Prop := [AV.lit (.int .i64 ((Z1.length : Nat) : Int)) = Z0]
  have AP2 : Qal P2 := ⟨(Qcw o59), trivial⟩
  rcases itS h with ⟨c5, h⟩ | ⟨c17, h⟩
  ·obtain ⟨x6, hx6, h⟩ := bnS h
   let Z2 := o59 x6; let Z5 := x6.Kind != (w64 (v3 + 1)); let Z7 := x6.Lock != (w64 (Z6 + 1)); let Z8 := x6.Pc != (w64 ((w64 (Z6 + 1)) + 1))
   let H3 : List Hn := H1 ++ [hT 4, hh 7 (.row Z2)]
   let P4 : List Prop := P2 ++ [Z3 = true, (0 : Int) ≤ v4, Z1[v4.toNat]? = some Z2]
   have AP4 : Qal P4 := Qa9 AP2 ⟨c5, (rd0 hx6), (rdM o59 hx6), trivial⟩
   rcases itS h with ⟨c7, h⟩ | ⟨c8, h⟩
   ·obtain rfl := sj h
    exact gR hP hn (H3 ++ [hT 12]) [] .raw (P4 ++ [(x6.Thread != v3) = true, Z4 = Z4, Qa4 Z4 = true]) (Qa9 AP4 ⟨c7, rfl, rfl, trivial⟩)
   ·let H5 : List Hn := H3 ++ [hF 12, hh 18 (.row Z2)]
    let P6 : List Prop := P4 ++ [(x6.Thread != v3) = false, (0 : Int) ≤ v4, Z1[v4.toNat]? = some Z2]
    have AP6 : Qal P6 := Qa9 AP4 ⟨c8, (rd0 hx6), (rdM o59 hx6), trivial⟩
    rcases itS h with ⟨c9, h⟩ | ⟨c10, h⟩
    ·obtain rfl := sj h
     exact gR hP hn (H5 ++ [hT 23]) [] .raw (P6 ++ [Z5 = true, Z4 = Z4, Qa4 Z4 = true]) (Qa9 AP6 ⟨c9, rfl, rfl, trivial⟩)
    ·let H7 : List Hn := H5 ++ [hF 23, hh 29 (.row Z2)]
     let P8 : List Prop := P6 ++ [Z5 = false, (0 : Int) ≤ v4, Z1[v4.toNat]? = some Z2]
     have AP8 : Qal P8 := Qa9 AP6 ⟨c10, (rd0 hx6), (rdM o59 hx6), trivial⟩
     rcases itS h with ⟨c11, h⟩ | ⟨c12, h⟩
     ·obtain rfl := sj h
      exact gR hP hn (H7 ++ [hT 34]) [] .raw (P8 ++ [(x6.Obj != Z6) = true, Z4 = Z4, Qa4 Z4 = true]) (Qa9 AP8 ⟨c11, rfl, rfl, trivial⟩)
     ·let P9 : List Prop := P8 ++ [(x6.Obj != Z6) = false, (0 : Int) ≤ v4, Z1[v4.toNat]? = some Z2]
      have AP9 : Qal P9 := Qa9 AP8 ⟨c12, (rd0 hx6), (rdM o59 hx6), trivial⟩
      rcases itS h with ⟨c13, h⟩ | ⟨c14, h⟩
      ·obtain rfl := sj h
       exact gR hP hn (H7 ++ [hF 34, hh 40 (.row Z2), hT 45]) [] .raw (P9 ++ [Z7 = true, Z4 = Z4, Qa4 Z4 = true]) (Qa9 AP9 ⟨c13, rfl, rfl, trivial⟩)
      ·let P10 : List Prop := P9 ++ [Z7 = false, (0 : Int) ≤ v4, Z1[v4.toNat]? = some Z2]
       have AP10 : Qal P10 := Qa9 AP9 ⟨c14, (rd0 hx6), (rdM o59 hx6), trivial⟩
       rcases itS h with ⟨c15, h⟩ | ⟨c16, h⟩
       ·obtain rfl := sj h
        exact gR hP hn (H7 ++ [hF 34, hh 40 (.row Z2), hF 45, hh 51 (.row Z2), hT 56]) [] .raw (P10 ++ [Z8 = true, Z4 = Z4, Qa4 Z4 = true]) (Qa9 AP10 ⟨c15, rfl, rfl, trivial⟩)
       ·exact gT hP hn hx (H7 ++ [hF 34, hh 40 (.row Z2), hF 45, hh 51 (.row Z2), hF 56]) [] [0, 1, 5] [] (P10 ++ [Z8 = false]) (Qa9 AP10 ⟨c16, trivial⟩) (ih (w64 ((w64 ((w64 ((w64 ((w64 (v3 + 1)) + 1)) + 1)) + 1)) + 1)) (w64 (v4 + 1)) _ h)
  ·obtain rfl := sj h
   exact gR hP hn (H1 ++ [hF 4]) [] .raw (P2 ++ [Z3 = false, (I v3) = (I v3), Qa4 (I v3) = true]) (Qa9 AP2 ⟨c17, rfl, rfl, trivial⟩)
noncomputable def Qfz (p1 : (List Qad)) (p2 : Int) : Option Int :=
 Qce p1 FU p2 0
theorem Qqo {p1 : (List Qad)} {p2 : Int} {r : Int} (h : Qfz p1 p2 = some r) : Qa5 Tryz.prog 92 [(AV.ro 5 (p1.map o59)), (I p2)] (I r) := by
 refine gM Tryz.func92 58 Xgs fun E hP hn hx => ?_
 unfold Qfz at h
 exact gT hP hn hx [] [] [0, 1, 5] [] [] trivial (Qnj hP hn hx p1 FU p2 0 _ h)
noncomputable def Xgm : Code := match Tryz.f85.body with | some c => c | none => .skip
noncomputable def Qd4  (p1 : (List Int)) : Nat → Int → Int → Option Int
 | 0, _, _ => none
 | n + 1, v3, v4 =>
 if (decide (v4 < (p1.length : Int))) = true then
  Option.bind (rd p1 v4) fun x6 =>
  if (x6 != v3) = true then
   some (-1)
  else
   Qd4 p1 n (w64 (v3 + 1)) (w64 (v4 + 1))
 else
  some v3
theorem Qpk {E : Env} (hP : E.P = Tryz.prog) (hn : E.n = 21) (hx : FX E []) (p1 : (List Int))  : ∀ (n : Nat) (v3 : Int) (v4 : Int) (r : Int), Qd4 p1 n v3 v4 = some r → WAt E Xgm (FQ (Qf3 Θ Tryz.f85.results.toList [] [] (I r) E)) [true, false, true, false] ⟨[(0, (AV.ro 1 (p1.map o3))), (1, (I v3)), (5, (I v4))], [], [JJ]⟩ := by
 intro n
 induction n with
 | zero => intro v3 v4 r h; simp only [Qd4] at h; cases h
 | succ n ih =>
  intro v3 v4 r h
  simp only [Qd4] at h
  let Z0 := (I (p1.length : Int)); let Z1 := (decide (v4 < (p1.length : Int)))
  let P1 : List Prop := [AV.lit (.int .i64 (((p1.map o3).length : Nat) : Int)) = Z0]
  have AP1 : Qal P1 := ⟨(Qcw o3), trivial⟩
  rcases itS h with ⟨c5, h⟩ | ⟨c9, h⟩
  ·obtain ⟨x6, hx6, h⟩ := bnS h
   let P2 : List Prop := P1 ++ [Z1 = true, (0 : Int) ≤ v4, (p1.map o3)[v4.toNat]? = some (o3 x6)]
   have AP2 : Qal P2 := Qa9 AP1 ⟨c5, (rd0 hx6), (rdM o3 hx6), trivial⟩
   rcases itS h with ⟨c7, h⟩ | ⟨c8, h⟩
   ·obtain rfl := sj h
    exact gR hP hn [hO 2 Z0, hT 4, hh 7 (.row (o3 x6)), hT 11] [] .raw (P2 ++ [(x6 != v3) = true, (I (-1)) = (I (-1)), Qa4 (I (-1)) = true]) (Qa9 AP2 ⟨c7, rfl, rfl, trivial⟩)
   ·exact gT hP hn hx [hO 2 Z0, hT 4, hh 7 (.row (o3 x6)), hF 11] [] [0, 1, 5] [] (P2 ++ [(x6 != v3) = false]) (Qa9 AP2 ⟨c8, trivial⟩) (ih (w64 (v3 + 1)) (w64 (v4 + 1)) _ h)
  ·obtain rfl := sj h
   exact gR hP hn [hO 2 Z0, hF 4] [] .raw (P1 ++ [Z1 = false, (I v3) = (I v3), Qa4 (I v3) = true]) (Qa9 AP1 ⟨c9, rfl, rfl, trivial⟩)
noncomputable def Qgk (p1 : (List Int)) (p2 : Int) : Option Int :=
 Qd4 p1 FU p2 0
theorem Qmb {p1 : (List Int)} {p2 : Int} {r : Int} (h : Qgk p1 p2 = some r) : Qa5 Tryz.prog 85 [(AV.ro 1 (p1.map o3)), (I p2)] (I r) := by
 refine gM Tryz.func85 21 Xgm fun E hP hn hx => ?_
 unfold Qgk at h
 exact gT hP hn hx [] [] [0, 1, 5] [] [] trivial (Qpk hP hn hx p1 FU p2 0 _ h)
noncomputable def Xh1 : Code := match Tryz.f84.body with | some c => c | none => .skip
noncomputable def Qbw  (p1 : (List Nat)) : Nat → Int → Int → Option Int
 | 0, _, _ => none
 | n + 1, v3, v4 =>
 if (decide (v4 < (p1.length : Int))) = true then
  Option.bind (rd p1 v4) fun x6 =>
  if ((Qc2 x6 (fOf v3)) != some .eq) = true then
   some (-1)
  else
   Qbw p1 n (w64 (v3 + 1)) (w64 (v4 + 1))
 else
  some v3
theorem Qlx {E : Env} (hP : E.P = Tryz.prog) (hn : E.n = 22) (hx : FX E []) (p1 : (List Nat))  : ∀ (n : Nat) (v3 : Int) (v4 : Int) (r : Int), Qbw p1 n v3 v4 = some r → WAt E Xh1 (FQ (Qf3 Θ Tryz.f84.results.toList [] [] (I r) E)) [true, false, true, false] ⟨[(0, (AV.ro 1 (p1.map Qae))), (1, (I v3)), (5, (I v4))], [], [JJ]⟩ := by
 intro n
 induction n with
 | zero => intro v3 v4 r h; simp only [Qbw] at h; cases h
 | succ n ih =>
  intro v3 v4 r h
  simp only [Qbw] at h
  let Z0 := (I (p1.length : Int)); let Z2 := (decide (v4 < (p1.length : Int)))
  let P1 : List Prop := [AV.lit (.int .i64 (((p1.map Qae).length : Nat) : Int)) = Z0]
  have AP1 : Qal P1 := ⟨(Qcw Qae), trivial⟩
  rcases itS h with ⟨c5, h⟩ | ⟨c9, h⟩
  ·obtain ⟨x6, hx6, h⟩ := bnS h
   let Z1 := Qc2 x6 (fOf v3)
   let H2 : List Hn := [hO 2 Z0, hT 4, hh 7 (.row (Qae x6)), hh 10 (.cnv (FK (fOf v3))), hh 11 (.bin (B (Z1 != some .eq)))]
   let P3 : List Prop := P1 ++ [Z2 = true, (0 : Int) ≤ v4, (p1.map Qae)[v4.toNat]? = some (Qae x6), Qv8 Tryz.prog 3 142 (I v3) (FK (fOf v3)), Qfu Tryz.prog .neq 142 (FK x6) (FK (fOf v3)) (B (Z1 != some .eq))]
   have AP3 : Qal P3 := Qa9 AP1 ⟨c5, (rd0 hx6), (rdM Qae hx6), (cIF (P := Tryz.prog) ty3 Qma), Xem, trivial⟩
   rcases itS h with ⟨c7, h⟩ | ⟨c8, h⟩
   ·obtain rfl := sj h
    exact gR hP hn (H2 ++ [hT 12]) [] .raw (P3 ++ [(Z1 != some .eq) = true, (I (-1)) = (I (-1)), Qa4 (I (-1)) = true]) (Qa9 AP3 ⟨c7, rfl, rfl, trivial⟩)
   ·exact gT hP hn hx (H2 ++ [hF 12]) [] [0, 1, 5] [] (P3 ++ [(Z1 != some .eq) = false]) (Qa9 AP3 ⟨c8, trivial⟩) (ih (w64 (v3 + 1)) (w64 (v4 + 1)) _ h)
  ·obtain rfl := sj h
   exact gR hP hn [hO 2 Z0, hF 4] [] .raw (P1 ++ [Z2 = false, (I v3) = (I v3), Qa4 (I v3) = true]) (Qa9 AP1 ⟨c9, rfl, rfl, trivial⟩)
noncomputable def Qcq (p1 : (List Nat)) (p2 : Int) : Option Int :=
 Qbw p1 FU p2 0
theorem Qjy {p1 : (List Nat)} {p2 : Int} {r : Int} (h : Qcq p1 p2 = some r) : Qa5 Tryz.prog 84 [(AV.ro 1 (p1.map Qae)), (I p2)] (I r) := by
 refine gM Tryz.func84 22 Xh1 fun E hP hn hx => ?_
 unfold Qcq at h
 exact gT hP hn hx [] [] [0, 1, 5] [] [] trivial (Qlx hP hn hx p1 FU p2 0 _ h)
noncomputable def Xh6 : Code := match Tryz.f83.body with | some c => c | none => .skip
noncomputable def Qc8  (p1 : (List Qa0)) : Nat → Int → Int → Option Int
 | 0, _, _ => none
 | n + 1, v3, v4 =>
 if (decide (v4 < (p1.length : Int))) = true then
  Option.bind (rd p1 v4) fun x6 =>
  if (x6.Routine != v3) = true then
   some (-1)
  else
   if (x6.Pc != (w64 (v3 + 1))) = true then
    some (-1)
   else
    if (x6.State != (w64 ((w64 (v3 + 1)) + 1))) = true then
     some (-1)
    else
     if (x6.Cond != (w64 ((w64 ((w64 (v3 + 1)) + 1)) + 1))) = true then
      some (-1)
     else
      if (x6.Lock != (w64 ((w64 ((w64 ((w64 (v3 + 1)) + 1)) + 1)) + 1))) = true then
       some (-1)
      else
       Option.bind (Qcq x6.Stack (w64 ((w64 ((w64 ((w64 ((w64 (v3 + 1)) + 1)) + 1)) + 1)) + 1))) fun r17 =>
       if (decide (r17 < 0)) = true then
        some (-1)
       else
        Qc8 p1 n r17 (w64 (v4 + 1))
 else
  some v3
theorem Qmo {E : Env} (hP : E.P = Tryz.prog) (hn : E.n = 67) (hx : FX E []) (p1 : (List Qa0))  : ∀ (n : Nat) (v3 : Int) (v4 : Int) (r : Int), Qc8 p1 n v3 v4 = some r → WAt E Xh6 (FQ (Qf3 Θ Tryz.f83.results.toList [] [] (I r) E)) [true, false, true, false] ⟨[(0, (AV.ro 6 (p1.map Qb5))), (1, (I v3)), (5, (I v4))], [], [JJ]⟩ := by
 intro n
 induction n with
 | zero => intro v3 v4 r h; simp only [Qc8] at h; cases h
 | succ n ih =>
  intro v3 v4 r h
  simp only [Qc8] at h
  let Z0 := (I (p1.length : Int)); let Z1 := p1.map Qb5; let Z3 := (decide (v4 < (p1.length : Int))); let Z4 := I (-1); let Z6 := w64 ((w64 (v3 + 1)) + 1); let Z8 := w64 ((w64 (Z6 + 1)) + 1)
  let H1 : List Hn := [hO 2 Z0]
  let P2 : List Prop := [AV.lit (.int .i64 ((Z1.length : Nat) : Int)) = Z0]
  have AP2 : Qal P2 := ⟨(Qcw Qb5), trivial⟩
  rcases itS h with ⟨c5, h⟩ | ⟨c20, h⟩
  ·obtain ⟨x6, hx6, h⟩ := bnS h
   let Z2 := Qb5 x6; let Z5 := x6.Pc != (w64 (v3 + 1)); let Z7 := x6.Cond != (w64 (Z6 + 1))
   let H3 : List Hn := H1 ++ [hT 4, hh 7 (.row Z2)]
   let P4 : List Prop := P2 ++ [Z3 = true, (0 : Int) ≤ v4, Z1[v4.toNat]? = some Z2]
   have AP4 : Qal P4 := Qa9 AP2 ⟨c5, (rd0 hx6), (rdM Qb5 hx6), trivial⟩
   rcases itS h with ⟨c7, h⟩ | ⟨c8, h⟩
   ·obtain rfl := sj h
    exact gR hP hn (H3 ++ [hT 12]) [] .raw (P4 ++ [(x6.Routine != v3) = true, Z4 = Z4, Qa4 Z4 = true]) (Qa9 AP4 ⟨c7, rfl, rfl, trivial⟩)
   ·let H5 : List Hn := H3 ++ [hF 12, hh 18 (.row Z2)]
    let P6 : List Prop := P4 ++ [(x6.Routine != v3) = false, (0 : Int) ≤ v4, Z1[v4.toNat]? = some Z2]
    have AP6 : Qal P6 := Qa9 AP4 ⟨c8, (rd0 hx6), (rdM Qb5 hx6), trivial⟩
    rcases itS h with ⟨c9, h⟩ | ⟨c10, h⟩
    ·obtain rfl := sj h
     exact gR hP hn (H5 ++ [hT 23]) [] .raw (P6 ++ [Z5 = true, Z4 = Z4, Qa4 Z4 = true]) (Qa9 AP6 ⟨c9, rfl, rfl, trivial⟩)
    ·let H7 : List Hn := H5 ++ [hF 23, hh 29 (.row Z2)]
     let P8 : List Prop := P6 ++ [Z5 = false, (0 : Int) ≤ v4, Z1[v4.toNat]? = some Z2]
     have AP8 : Qal P8 := Qa9 AP6 ⟨c10, (rd0 hx6), (rdM Qb5 hx6), trivial⟩
     rcases itS h with ⟨c11, h⟩ | ⟨c12, h⟩
     ·obtain rfl := sj h
      exact gR hP hn (H7 ++ [hT 34]) [] .raw (P8 ++ [(x6.State != Z6) = true, Z4 = Z4, Qa4 Z4 = true]) (Qa9 AP8 ⟨c11, rfl, rfl, trivial⟩)
     ·let H9 : List Hn := H7 ++ [hF 34, hh 40 (.row Z2)]
      let P10 : List Prop := P8 ++ [(x6.State != Z6) = false, (0 : Int) ≤ v4, Z1[v4.toNat]? = some Z2]
      have AP10 : Qal P10 := Qa9 AP8 ⟨c12, (rd0 hx6), (rdM Qb5 hx6), trivial⟩
      rcases itS h with ⟨c13, h⟩ | ⟨c14, h⟩
      ·obtain rfl := sj h
       exact gR hP hn (H9 ++ [hT 45]) [] .raw (P10 ++ [Z7 = true, Z4 = Z4, Qa4 Z4 = true]) (Qa9 AP10 ⟨c13, rfl, rfl, trivial⟩)
      ·let P11 : List Prop := P10 ++ [Z7 = false, (0 : Int) ≤ v4, Z1[v4.toNat]? = some Z2]
       have AP11 : Qal P11 := Qa9 AP10 ⟨c14, (rd0 hx6), (rdM Qb5 hx6), trivial⟩
       rcases itS h with ⟨c15, h⟩ | ⟨c16, h⟩
       ·obtain rfl := sj h
        exact gR hP hn (H9 ++ [hF 45, hh 51 (.row Z2), hT 56]) [] .raw (P11 ++ [(x6.Lock != Z8) = true, Z4 = Z4, Qa4 Z4 = true]) (Qa9 AP11 ⟨c15, rfl, rfl, trivial⟩)
       ·obtain ⟨r17, hr17, h⟩ := bnS h
        let H12 : List Hn := H9 ++ [hF 45, hh 51 (.row Z2), hF 56, hh 62 (.row Z2), hh 66 (.callV [] (I r17))]
        let P13 : List Prop := P11 ++ [(x6.Lock != Z8) = false, (0 : Int) ≤ v4, Z1[v4.toNat]? = some Z2, Qa5 Tryz.prog 84 [(AV.ro 1 (x6.Stack.map Qae)), (I (w64 (Z8 + 1)))] (I r17), Qa4 (I r17) = true]
        have AP13 : Qal P13 := Qa9 AP11 ⟨c16, (rd0 hx6), (rdM Qb5 hx6), (Qjy hr17), rfl, trivial⟩
        rcases itS h with ⟨c18, h⟩ | ⟨c19, h⟩
        ·obtain rfl := sj h
         exact gR hP hn (H12 ++ [hT 70]) [] .raw (P13 ++ [(decide (r17 < 0)) = true, Z4 = Z4, Qa4 Z4 = true]) (Qa9 AP13 ⟨c18, rfl, rfl, trivial⟩)
        ·exact gT hP hn hx (H12 ++ [hF 70]) [] [0, 1, 5] [] (P13 ++ [(decide (r17 < 0)) = false]) (Qa9 AP13 ⟨c19, trivial⟩) (ih r17 (w64 (v4 + 1)) _ h)
  ·obtain rfl := sj h
   exact gR hP hn (H1 ++ [hF 4]) [] .raw (P2 ++ [Z3 = false, (I v3) = (I v3), Qa4 (I v3) = true]) (Qa9 AP2 ⟨c20, rfl, rfl, trivial⟩)
noncomputable def Qfh (p1 : (List Qa0)) (p2 : Int) : Option Int :=
 Qc8 p1 FU p2 0
theorem Qpi {p1 : (List Qa0)} {p2 : Int} {r : Int} (h : Qfh p1 p2 = some r) : Qa5 Tryz.prog 83 [(AV.ro 6 (p1.map Qb5)), (I p2)] (I r) := by
 refine gM Tryz.func83 67 Xh6 fun E hP hn hx => ?_
 unfold Qfh at h
 exact gT hP hn hx [] [] [0, 1, 5] [] [] trivial (Qmo hP hn hx p1 FU p2 0 _ h)
noncomputable def Xli : Code := match Tryz.f26.body with | some c => c | none => .skip
noncomputable def Qgs (p1 : Qa2) (p2 : Int) : Option Int :=
 Option.bind (Qfh p1.Threads p2) fun r3 =>
 if (decide (r3 < 0)) = true then
  some (-1)
 else
  Option.bind (Qcq p1.Cells r3) fun r6 =>
  if (decide (r6 < 0)) = true then
   some (-1)
  else
   Option.bind (Qgk p1.Owner r6) fun r9 =>
   if (decide (r9 < 0)) = true then
    some (-1)
   else
    some r9
theorem Qre {p1 : Qa2} {p2 : Int} {r : Int} (h : Qgs p1 p2 = some r) : Qa5 Tryz.prog 26 [(AV.agg ((r57 p1))), (I p2)] (I r) := by
 refine gM Tryz.func26 24 Xli fun E hP hn hx => ?_
 unfold Qgs at h
 obtain ⟨r3, hr3, h⟩ := bnS h
 let Z0 := I (-1)
 let H1 : List Hn := [hW 0 1001, hh 5 (.callV [] (I r3))]
 let P2 : List Prop := [Qa5 Tryz.prog 83 [(AV.ro 6 (p1.Threads.map Qb5)), (I p2)] (I r3), Qa4 (I r3) = true]
 have AP2 : Qal P2 := ⟨(Qpi hr3), rfl, trivial⟩
 rcases itS h with ⟨c4, h⟩ | ⟨c5, h⟩
 ·obtain rfl := sj h
  exact gR hP hn (H1 ++ [hT 9]) [] .raw (P2 ++ [(decide (r3 < 0)) = true, Z0 = Z0, Qa4 Z0 = true]) (Qa9 AP2 ⟨c4, rfl, rfl, trivial⟩)
 ·obtain ⟨r6, hr6, h⟩ := bnS h
  let P3 : List Prop := P2 ++ [(decide (r3 < 0)) = false, Qa5 Tryz.prog 84 [(AV.ro 1 (p1.Cells.map Qae)), (I r3)] (I r6), Qa4 (I r6) = true]
  have AP3 : Qal P3 := Qa9 AP2 ⟨c5, (Qjy hr6), rfl, trivial⟩
  rcases itS h with ⟨c7, h⟩ | ⟨c8, h⟩
  ·obtain rfl := sj h
   exact gR hP hn (H1 ++ [hF 9, hh 13 (.callV [] (I r6)), hT 17]) [] .raw (P3 ++ [(decide (r6 < 0)) = true, Z0 = Z0, Qa4 Z0 = true]) (Qa9 AP3 ⟨c7, rfl, rfl, trivial⟩)
  ·obtain ⟨r9, hr9, h⟩ := bnS h
   let P4 : List Prop := P3 ++ [(decide (r6 < 0)) = false, Qa5 Tryz.prog 85 [(AV.ro 1 (p1.Owner.map o3)), (I r6)] (I r9), Qa4 (I r9) = true]
   have AP4 : Qal P4 := Qa9 AP3 ⟨c8, (Qmb hr9), rfl, trivial⟩
   rcases itS h with ⟨c10, h⟩ | ⟨c11, h⟩
   ·obtain rfl := sj h
    exact gR hP hn (H1 ++ [hF 9, hh 13 (.callV [] (I r6)), hF 17, hh 21 (.callV [] (I r9)), hT 25]) [] .raw (P4 ++ [(decide (r9 < 0)) = true, Z0 = Z0, Qa4 Z0 = true]) (Qa9 AP4 ⟨c10, rfl, rfl, trivial⟩)
   ·obtain rfl := sj h
    exact gR hP hn (H1 ++ [hF 9, hh 13 (.callV [] (I r6)), hF 17, hh 21 (.callV [] (I r9)), hF 25]) [] .raw (P4 ++ [(decide (r9 < 0)) = false, (I r9) = (I r9), Qa4 (I r9) = true]) (Qa9 AP4 ⟨c11, rfl, rfl, trivial⟩)
noncomputable def Xlk : Code := match Tryz.f34.body with | some c => c | none => .skip
noncomputable def Qh1 (p1 : Qcy) (p2 : Int) : Option Int :=
 Option.bind (Qfz p1.Trace p2) fun r3 =>
 if (decide (r3 < 0)) = true then
  some (-1)
 else
  Option.bind (Qgk p1.Picks r3) fun r6 =>
  if (decide (r6 < 0)) = true then
   some (-1)
  else
   Option.bind (Qgs p1.End r6) fun r9 =>
   if (decide (r9 < 0)) = true then
    some (-1)
   else
    some r9
theorem Qo4 {p1 : Qcy} {p2 : Int} {r : Int} (h : Qh1 p1 p2 = some r) : Qa5 Tryz.prog 34 [(AV.agg ((r70 p1))), (I p2)] (I r) := by
 refine gM Tryz.func34 24 Xlk fun E hP hn hx => ?_
 unfold Qh1 at h
 obtain ⟨r3, hr3, h⟩ := bnS h
 let Z0 := I (-1)
 let H1 : List Hn := [hW 0 1001, hh 5 (.callV [] (I r3))]
 let P2 : List Prop := [Qa5 Tryz.prog 92 [(AV.ro 5 (p1.Trace.map o59)), (I p2)] (I r3), Qa4 (I r3) = true]
 have AP2 : Qal P2 := ⟨(Qqo hr3), rfl, trivial⟩
 rcases itS h with ⟨c4, h⟩ | ⟨c5, h⟩
 ·obtain rfl := sj h
  exact gR hP hn (H1 ++ [hT 9]) [] .raw (P2 ++ [(decide (r3 < 0)) = true, Z0 = Z0, Qa4 Z0 = true]) (Qa9 AP2 ⟨c4, rfl, rfl, trivial⟩)
 ·obtain ⟨r6, hr6, h⟩ := bnS h
  let P3 : List Prop := P2 ++ [(decide (r3 < 0)) = false, Qa5 Tryz.prog 85 [(AV.ro 1 (p1.Picks.map o3)), (I r3)] (I r6), Qa4 (I r6) = true]
  have AP3 : Qal P3 := Qa9 AP2 ⟨c5, (Qmb hr6), rfl, trivial⟩
  rcases itS h with ⟨c7, h⟩ | ⟨c8, h⟩
  ·obtain rfl := sj h
   exact gR hP hn (H1 ++ [hF 9, hh 13 (.callV [] (I r6)), hT 17]) [] .raw (P3 ++ [(decide (r6 < 0)) = true, Z0 = Z0, Qa4 Z0 = true]) (Qa9 AP3 ⟨c7, rfl, rfl, trivial⟩)
  ·obtain ⟨r9, hr9, h⟩ := bnS h
   let P4 : List Prop := P3 ++ [(decide (r6 < 0)) = false, Qa5 Tryz.prog 26 [(AV.agg ((r57 p1.End))), (I r6)] (I r9), Qa4 (I r9) = true]
   have AP4 : Qal P4 := Qa9 AP3 ⟨c8, (Qre hr9), rfl, trivial⟩
   rcases itS h with ⟨c10, h⟩ | ⟨c11, h⟩
   ·obtain rfl := sj h
    exact gR hP hn (H1 ++ [hF 9, hh 13 (.callV [] (I r6)), hF 17, hh 21 (.callV [[]] (I r9)), hT 25]) [] .raw (P4 ++ [(decide (r9 < 0)) = true, Z0 = Z0, Qa4 Z0 = true]) (Qa9 AP4 ⟨c10, rfl, rfl, trivial⟩)
   ·obtain rfl := sj h
    exact gR hP hn (H1 ++ [hF 9, hh 13 (.callV [] (I r6)), hF 17, hh 21 (.callV [[]] (I r9)), hF 25]) [] .raw (P4 ++ [(decide (r9 < 0)) = false, (I r9) = (I r9), Qa4 (I r9) = true]) (Qa9 AP4 ⟨c11, rfl, rfl, trivial⟩)
noncomputable def Xgj : Code := match Tryz.f32.body with | some c => c | none => .skip
noncomputable def Qcj   : Nat → (List Int) → Int → Int → Option (Int × (List Int))
 | 0, _, _, _ => none
 | n + 1, a3, v4, v5 =>
 if (decide (v5 < (a3.length : Int))) = true then
  Option.bind (rd a3 v5) fun x7 =>
  Qcj n (a3.set (Int.toNat v5) v4) (w64 (v4 + 1)) (w64 (v5 + 1))
 else
  some (v4, a3)
theorem Qpn {E : Env} (hP : E.P = Tryz.prog) (hn : E.n = 19) (hx : ∀ p, p ∈ E.fx → p.1 ∈ ([0] : List Nat))   : ∀ (n : Nat) (a3 : (List Int)) (v4 : Int) (v5 : Int) (r : (Int × (List Int))), Qcj  n a3 v4 v5 = some r → WAt E Xgj (FQ (Qf3 Θ Tryz.f32.results.toList [true] [⟨3, 1, (r.2.map o3)⟩] (I r.1) E)) [true, false, true, false] ⟨[(0, (AV.sl 0 0 (List.length (a3.map o3)))), (1, (I v4)), (5, (I v5))], [(0, some ⟨3, 1, (a3.map o3)⟩)], [0, JJ]⟩ := by
 intro n
 induction n with
 | zero => intro a3 v4 v5 r h; simp only [Qcj] at h; cases h
 | succ n ih =>
  intro a3 v4 v5 r h
  simp only [Qcj] at h
  let Z0 := (I (a3.length : Int)); let Z1 := (a3.set v5.toNat v4).map o3; let Z2 := a3.map o3; let Z3 := ((Z2.length : Nat) : Int); let Z4 := (decide (v5 < (a3.length : Int)))
  rcases itS h with ⟨c6, h⟩ | ⟨c8, h⟩
  ·obtain ⟨x7, hx7, h⟩ := bnS h
   exact gT hP hn hx [hO 2 Z0, hT 4, hh 9 (.sto [(I x7)] Z1), hh 16 (.slen 0 Z1.length)] [(0, 0)] [0, 1, 5] [] [AV.lit (.int .i64 Z3) = Z0, Z4 = true, (0 : Int) ≤ v5, v5 < Z3, Z2[v5.toNat]? = some [(I x7)], Z2.set v5.toNat (wr [(I x7)] 0 [(I v4)]) = Z1, [(I v4)].length = 1, 0 + [(I v4)].length ≤ [(I x7)].length, Z2.length = Z1.length, Qab [(0, 0)] Z1] ⟨(Qcw o3), c6, (rd0 hx7), (rdL o3 hx7), (rdM o3 hx7), (Qwt o3), rfl, leB, lnq, (rok (Qa8 t3)), trivial⟩ (ih (a3.set v5.toNat v4) (w64 (v4 + 1)) (w64 (v5 + 1)) _ h)
  ·obtain rfl := sj h
   exact gR hP hn [hO 2 Z0, hF 4] [] .raw [AV.lit (.int .i64 Z3) = Z0, Z4 = false, Z2 = Z2, Qa1 Z2 = true, Qa3 Z2 = true, (I v4) = (I v4), Qa4 (I v4) = true] ⟨(Qcw o3), c8, rfl, (Qa8 t3), (Qa7 n3), rfl, rfl, trivial⟩
noncomputable def Qf9 (p1 : (List Int)) (p2 : Int) : Option (Int × (List Int)) :=
 Qcj FU p1 p2 0
theorem Qk0 {p1 : (List Int)} {p2 : Int} {r : (Int × (List Int))} (h : Qf9 p1 p2 = some r) : Qco Tryz.prog 32 [⟨3, 1, (p1.map o3)⟩] [(AV.sl 0 0 (List.length (p1.map o3))), (I p2)] [true] [⟨3, 1, (r.2.map o3)⟩] (I r.1) := by
 refine Qeq Qv7 Tryz.func32 rfl (c := Xgj) (by kernel_rfl) (Nat.le_of_ble_eq_true rfl) rfl (Nat.le_of_ble_eq_true rfl) rfl (fr := [0]) (frI rfl) ?_
 intro E hP hn hx
 replace hn : E.n = 19 := hn
 unfold Qf9 at h
 exact gT hP hn hx [] [(0, 0)] [0, 1, 5] [] [Qab [(0, 0)] (p1.map o3)] ⟨(rok (Qa8 t3)), trivial⟩ (Qpn hP hn hx FU p1 p2 0 _ h)
noncomputable def Xcq : Code := match Tryz.f151.body with | some c => c | none => .skip
noncomputable def Qcu   : Nat → (List GOp) → Int → Int → Option (Int × (List GOp))
 | 0, _, _, _ => none
 | n + 1, a3, v4, v5 =>
 if (decide (v5 < (a3.length : Int))) = true then
  Option.bind (rd a3 v5) fun x7 =>
  Qcu n (a3.set (Int.toNat v5) (GOp.mk v4 (w64 (v4 + 1)) (w64 ((w64 (v4 + 1)) + 1)) (fOf (w64 ((w64 ((w64 (v4 + 1)) + 1)) + 1))))) (w64 ((w64 ((w64 ((w64 (v4 + 1)) + 1)) + 1)) + 1)) (w64 (v5 + 1))
 else
  some (v4, a3)
theorem Qqf {E : Env} (hP : E.P = Tryz.prog) (hn : E.n = 42) (hx : ∀ p, p ∈ E.fx → p.1 ∈ ([0] : List Nat))   : ∀ (n : Nat) (a3 : (List GOp)) (v4 : Int) (v5 : Int) (r : (Int × (List GOp))), Qcu  n a3 v4 v5 = some r → WAt E Xcq (FQ (Qf3 Θ Tryz.f151.results.toList [true] [⟨144, 4, (r.2.map Qb6)⟩] (I r.1) E)) [true, false, true, false] ⟨[(0, (AV.sl 0 0 (List.length (a3.map Qb6)))), (1, (I v4)), (5, (I v5))], [(0, some ⟨144, 4, (a3.map Qb6)⟩)], [0, JJ]⟩ := by
 intro n
 induction n with
 | zero => intro a3 v4 v5 r h; simp only [Qcu] at h; cases h
 | succ n ih =>
  intro a3 v4 v5 r h
  simp only [Qcu] at h
  let Z0 := (I (a3.length : Int)); let Z4 := w64 (v4 + 1); let Z7 := w64 (Z4 + 1); let Z9 := fOf (w64 (Z7 + 1)); let Z11 := a3.set v5.toNat (GOp.mk v4 Z4 Z7 Z9); let Z12 := Z11.map Qb6; let Z13 := a3.map Qb6; let Z14 := ((Z13.length : Nat) : Int); let Z15 := (decide (v5 < (a3.length : Int)))
  rcases itS h with ⟨c6, h⟩ | ⟨c8, h⟩
  ·obtain ⟨x7, hx7, h⟩ := bnS h
   exact (let Z1 := Qb6 x7; let Z2 := (a3.set v5.toNat (GOp.mk v4 x7.A x7.B x7.V)).map Qb6; let Z3 := [(I v4), (I x7.A), (I x7.B), (FK x7.V)]; let Z5 := (a3.set v5.toNat (GOp.mk v4 Z4 x7.B x7.V)).map Qb6; let Z6 := [(I v4), (I Z4), (I x7.B), (FK x7.V)]; let Z8 := (a3.set v5.toNat (GOp.mk v4 Z4 Z7 x7.V)).map Qb6; let Z10 := [(I v4), (I Z4), (I Z7), (FK x7.V)]; let Z16 := GOp.mk v4 x7.A x7.B x7.V; let Z17 := GOp.mk v4 (w64 (v4 + 1)) x7.B x7.V; let Z18 := GOp.mk v4 (w64 (v4 + 1)) (w64 ((w64 (v4 + 1)) + 1)) x7.V; gT hP hn hx [hO 2 Z0, hT 4, hh 10 (.sto Z1 Z2), hh 14 (.slen 0 Z2.length), hh 19 (.sto Z3 Z5), hh 23 (.slen 0 Z5.length), hh 28 (.sto Z6 Z8), hh 32 (.slen 0 Z8.length), hh 35 (.cnv (FK Z9)), hh 38 (.sto Z10 Z12), hh 45 (.slen 0 Z12.length)] [(0, 0)] [0, 1, 5] [] [AV.lit (.int .i64 Z14) = Z0, Z15 = true, (0 : Int) ≤ v5, v5 < Z14, Z13[v5.toNat]? = some Z1, Z13.set v5.toNat (wr Z1 0 [(I v4)]) = Z2, [(I v4)].length = 1, 0 + [(I v4)].length ≤ Z1.length, Z13.length = Z2.length, (0 : Int) ≤ v5, v5 < ((Z2.length : Nat) : Int), Z2[v5.toNat]? = some Z3, Z2.set v5.toNat (wr Z3 1 [(I Z4)]) = Z5, [(I Z4)].length = 1, 1 + [(I Z4)].length ≤ Z3.length, Z2.length = Z5.length, (0 : Int) ≤ v5, v5 < ((Z5.length : Nat) : Int), Z5[v5.toNat]? = some Z6, Z5.set v5.toNat (wr Z6 2 [(I Z7)]) = Z8, [(I Z7)].length = 1, 2 + [(I Z7)].length ≤ Z6.length, Z5.length = Z8.length, Qv8 Tryz.prog 3 142 (I (w64 (Z7 + 1))) (FK Z9), (0 : Int) ≤ v5, v5 < ((Z8.length : Nat) : Int), Z8[v5.toNat]? = some Z10, Z8.set v5.toNat (wr Z10 3 [(FK Z9)]) = Z12, [(FK Z9)].length = 1, 3 + [(FK Z9)].length ≤ Z10.length, Z8.length = Z12.length, Qab [(0, 0)] Z12] ⟨(Qcw Qb6), c6, (rd0 hx7), (rdL Qb6 hx7), (rdM Qb6 hx7), (Qo1 Qb6), rfl, leB, lnq, (rd0 hx7), (rdL Qb6 (rdS (y := Z16) hx7)), (rdM Qb6 (rdS (y := Z16) hx7)), (Qfv Qb6), rfl, leB, lnq, (rd0 hx7), (rdL Qb6 (rdS (y := Z17) hx7)), (rdM Qb6 (rdS (y := Z17) hx7)), (Qfv Qb6), rfl, leB, lnq, (cIF (P := Tryz.prog) ty3 Qma), (rd0 hx7), (rdL Qb6 (rdS (y := Z18) hx7)), (rdM Qb6 (rdS (y := Z18) hx7)), (Qfv Qb6), rfl, leB, lnq, (rok (Qa8 Xg5)), trivial⟩ (ih Z11 (w64 ((w64 ((w64 ((w64 (v4 + 1)) + 1)) + 1)) + 1)) (w64 (v5 + 1)) _ h))
  ·obtain rfl := sj h
   exact gR hP hn [hO 2 Z0, hF 4] [] .raw [AV.lit (.int .i64 Z14) = Z0, Z15 = false, Z13 = Z13, Qa1 Z13 = true, Qa3 Z13 = true, (I v4) = (I v4), Qa4 (I v4) = true] ⟨(Qcw Qb6), c8, rfl, (Qa8 Xg5), (Qa7 Xk7), rfl, rfl, trivial⟩
noncomputable def Qh5 (p1 : (List GOp)) (p2 : Int) : Option (Int × (List GOp)) :=
 Qcu FU p1 p2 0
theorem Quc {p1 : (List GOp)} {p2 : Int} {r : (Int × (List GOp))} (h : Qh5 p1 p2 = some r) : Qco Tryz.prog 151 [⟨144, 4, (p1.map Qb6)⟩] [(AV.sl 0 0 (List.length (p1.map Qb6))), (I p2)] [true] [⟨144, 4, (r.2.map Qb6)⟩] (I r.1) := by
 refine Qeq Qv7 Tryz.func151 rfl (c := Xcq) (by kernel_rfl) (Nat.le_of_ble_eq_true rfl) rfl (Nat.le_of_ble_eq_true rfl) rfl (fr := [0]) (frI rfl) ?_
 intro E hP hn hx
 replace hn : E.n = 42 := hn
 unfold Qh5 at h
 exact gT hP hn hx [] [(0, 0)] [0, 1, 5] [] [Qab [(0, 0)] (p1.map Qb6)] ⟨(rok (Qa8 Xg5)), trivial⟩ (Qqf hP hn hx FU p1 p2 0 _ h)
noncomputable def Xh4 : Code := match Tryz.f80.body with | some c => c | none => .skip
noncomputable def Qd3   : Nat → (List (List GOp)) → Int → Int → Option (Int × (List (List GOp)))
 | 0, _, _, _ => none
 | n + 1, a3, v4, v5 =>
 if (decide (v5 < (a3.length : Int))) = true then
  Option.bind (rd a3 v5) fun x7 =>
  Option.bind (Qh5 x7 v4) fun r8 =>
  Option.bind (Qdl x7 r8.2) fun q9 =>
  Qd3 n (a3.set (Int.toNat v5) r8.2) r8.1 (w64 (v5 + 1))
 else
  some (v4, a3)
theorem Qps {E : Env} (hP : E.P = Tryz.prog) (hn : E.n = 19) (hx : ∀ p, p ∈ E.fx → p.1 ∈ ([0] : List Nat))   : ∀ (n : Nat) (a3 : (List (List GOp))) (v4 : Int) (v5 : Int) (r : (Int × (List (List GOp)))), Qd3  n a3 v4 v5 = some r → WAt E Xh4 (FQ (Qf3 Θ Tryz.f80.results.toList [true] [⟨141, 1, (r.2.map Qis)⟩] (I r.1) E)) [true, false, true, false] ⟨[(0, (AV.sl 0 0 (List.length (a3.map Qis)))), (1, (I v4)), (5, (I v5))], [(0, some ⟨141, 1, (a3.map Qis)⟩)], [0, JJ]⟩ := by
 intro n
 induction n with
 | zero => intro a3 v4 v5 r h; simp only [Qd3] at h; cases h
 | succ n ih =>
  intro a3 v4 v5 r h
  simp only [Qd3] at h
  let Z0 := (I (a3.length : Int)); let Z3 := a3.map Qis; let Z9 := ((Z3.length : Nat) : Int); let Z10 := (decide (v5 < (a3.length : Int)))
  rcases itS h with ⟨c6, h⟩ | ⟨c10, h⟩
  ·obtain ⟨x7, hx7, h⟩ := bnS h
   obtain ⟨r8, hr8, h⟩ := bnS h
   obtain ⟨q9, hq9, h⟩ := bnS h
   exact (let Z1 := x7.map Qb6; let Z2 := [(AV.own 144 4 Z1)]; let Z4 := AV.sl 1001 0 Z1.length; let Z5 := Z3.set v5.toNat [Z4]; let Z6 := r8.2.map Qb6; let Z7 := a3.set v5.toNat r8.2; let Z8 := Z7.map Qis; let Z11 := rtf (Qi7 [(0, 1001)] (I r8.1)) []; gT hP hn hx [hO 2 Z0, hT 4, hh 8 (.unpack 0 1001 v5.toNat 0 Z2 144 4 Z1 Z5), hh 8 (.row [Z4]), hh 10 (.callX [1001] [true] [⟨144, 4, Z1⟩] [⟨144, 4, Z6⟩] [] (I r8.1) [] (I r8.1) []), hh 15 (.pack 0 1001 v5.toNat 0 [Z4] Z8), hh 15 (.slen 0 Z8.length)] [(0, 0)] [0, 1, 5] [] [AV.lit (.int .i64 Z9) = Z0, Z10 = true, (0 : Int) ≤ v5, v5 < Z9, Z3[v5.toNat]? = some Z2, Z2[0]? = some (AV.own 144 4 Z1), 0 < 4, Z3.set v5.toNat (Z2.set 0 Z4) = Z5, Z5[v5.toNat]? = some [Z4], Qco Tryz.prog 151 [⟨144, 4, Z1⟩] [(AV.sl 0 0 Z1.length), (I v4)] [true] [⟨144, 4, Z6⟩] (I r8.1), (some (Qam.mk 144 4 Z1) = some (Qam.mk 144 4 Z1)) ∧ True, (Qa1 Z1 = true ∧ Qa3 Z1 = true) ∧ True, (Z6.length = Z1.length) ∧ True, Z11.1 = (I r8.1), Z11.2.1 = [], Z5[v5.toNat]? = some [Z4], [Z4][0]? = some (AV.sl 1001 0 Z6.length), Qa1 Z6 = true, Z5.set v5.toNat ([Z4].set 0 (AV.own 144 4 Z6)) = Z8, Z3.length = Z8.length, Qab [(0, 0)] Z8] ⟨(Qcw Qis), c6, (rd0 hx7), (rdL Qis hx7), (rdM Qis hx7), rfl, (by decide), rfl, (Qd6 (rdM Qis hx7)), (Quc hr8), ⟨rfl, trivial⟩, ⟨⟨Qa8 Xg5, Qa7 Xk7⟩, trivial⟩, ⟨(Qbj Qb6 hq9), trivial⟩, rfl, rfl, (Qd6 (rdM Qis hx7)), (pkS (Qbj Qb6 hq9).symm), (Qa8 Xg5), (setP Qis), lnq, (rok (Qa8 Qyh)), trivial⟩ (ih Z7 r8.1 (w64 (v5 + 1)) _ h))
  ·obtain rfl := sj h
   exact gR hP hn [hO 2 Z0, hF 4] [] .raw [AV.lit (.int .i64 Z9) = Z0, Z10 = false, Z3 = Z3, Qa1 Z3 = true, Qa3 Z3 = true, (I v4) = (I v4), Qa4 (I v4) = true] ⟨(Qcw Qis), c10, rfl, (Qa8 Qyh), (Qa7 Xcr), rfl, rfl, trivial⟩
noncomputable def Qhm (p1 : (List (List GOp))) (p2 : Int) : Option (Int × (List (List GOp))) :=
 Qd3 FU p1 p2 0
theorem Qs4 {p1 : (List (List GOp))} {p2 : Int} {r : (Int × (List (List GOp)))} (h : Qhm p1 p2 = some r) : Qco Tryz.prog 80 [⟨141, 1, (p1.map Qis)⟩] [(AV.sl 0 0 (List.length (p1.map Qis))), (I p2)] [true] [⟨141, 1, (r.2.map Qis)⟩] (I r.1) := by
 refine Qeq Qv7 Tryz.func80 rfl (c := Xh4) (by kernel_rfl) (Nat.le_of_ble_eq_true rfl) rfl (Nat.le_of_ble_eq_true rfl) rfl (fr := [0]) (frI rfl) ?_
 intro E hP hn hx
 replace hn : E.n = 19 := hn
 unfold Qhm at h
 exact gT hP hn hx [] [(0, 0)] [0, 1, 5] [] [Qab [(0, 0)] (p1.map Qis)] ⟨(rok (Qa8 Qyh)), trivial⟩ (Qps hP hn hx FU p1 p2 0 _ h)
noncomputable def Xjy : Code := match Tryz.f24.body with | some c => c | none => .skip
noncomputable def Qhe (p1 : Int) (p2 : Int) (p3 : Int) (p4 : (List (List GOp))) (p5 : Int) : Option (Int × (List (List GOp))) :=
 Option.bind (Qhm p4 p5) fun r6 =>
 Option.bind (Qdl p4 r6.2) fun q7 =>
 some (r6.1, r6.2)
theorem Qsg {p1 : Int} {p2 : Int} {p3 : Int} {p4 : (List (List GOp))} {p5 : Int} {r : (Int × (List (List GOp)))} (h : Qhe p1 p2 p3 p4 p5 = some r) : Qco Tryz.prog 24 [⟨141, 1, (p4.map Qis)⟩] [(AV.agg [(I p1), (I p2), (I p3), (AV.sl 0 0 (List.length (p4.map Qis)))]), (I p5)] [true] [⟨141, 1, (r.2.map Qis)⟩] (I r.1) := by
 refine Qeq Qv7 Tryz.func24 rfl (c := Xjy) (by kernel_rfl) (Nat.le_of_ble_eq_true rfl) rfl (Nat.le_of_ble_eq_true rfl) rfl (fr := [0]) (frI rfl) ?_
 intro E hP hn hx
 replace hn : E.n = 10 := hn
 unfold Qhe at h
 obtain ⟨r6, hr6, h⟩ := bnS h
 obtain ⟨q7, hq7, h⟩ := bnS h
 obtain rfl := sj h
 exact (let Z0 := p4.map Qis; let Z1 := r6.2.map Qis; let Z2 := I r6.1; let Z3 := rtf (Qi7 [(0, 0)] Z2) []; gR hP hn [hW 0 1001, hh 5 (.callX [0] [true] [⟨141, 1, Z0⟩] [⟨141, 1, Z1⟩] [] Z2 [] Z2 [])] [] .raw [Qco Tryz.prog 80 [⟨141, 1, Z0⟩] [(AV.sl 0 0 Z0.length), (I p5)] [true] [⟨141, 1, Z1⟩] Z2, (some (Qam.mk 141 1 Z0) = some (Qam.mk 141 1 Z0)) ∧ True, (Qa1 Z0 = true ∧ Qa3 Z0 = true) ∧ True, (Z1.length = Z0.length) ∧ True, Z3.1 = Z2, Z3.2.1 = [], Z1 = Z1, Qa1 Z1 = true, Qa3 Z1 = true, Z2 = Z2, Qa4 Z2 = true] ⟨(Qs4 hr6), ⟨rfl, trivial⟩, ⟨⟨Qa8 Qyh, Qa7 Xcr⟩, trivial⟩, ⟨(Qbj Qis hq7), trivial⟩, rfl, rfl, rfl, (Qa8 Qyh), (Qa7 Xcr), rfl, rfl, trivial⟩)
noncomputable def Xgf : Code := match Tryz.f91.body with | some c => c | none => .skip
noncomputable def Qc0   : Nat → (List Qad) → Int → Int → Option (Int × (List Qad))
 | 0, _, _, _ => none
 | n + 1, a3, v4, v5 =>
 if (decide (v5 < (a3.length : Int))) = true then
  Option.bind (rd a3 v5) fun x7 =>
  Qc0 n (a3.set (Int.toNat v5) (Qad.mk v4 (w64 (v4 + 1)) (w64 ((w64 (v4 + 1)) + 1)) (w64 ((w64 ((w64 (v4 + 1)) + 1)) + 1)) (w64 ((w64 ((w64 ((w64 (v4 + 1)) + 1)) + 1)) + 1)))) (w64 ((w64 ((w64 ((w64 ((w64 (v4 + 1)) + 1)) + 1)) + 1)) + 1)) (w64 (v5 + 1))
 else
  some (v4, a3)
theorem Qn8 {E : Env} (hP : E.P = Tryz.prog) (hn : E.n = 48) (hx : ∀ p, p ∈ E.fx → p.1 ∈ ([0] : List Nat))   : ∀ (n : Nat) (a3 : (List Qad)) (v4 : Int) (v5 : Int) (r : (Int × (List Qad))), Qc0  n a3 v4 v5 = some r → WAt E Xgf (FQ (Qf3 Θ Tryz.f91.results.toList [true] [⟨59, 5, (r.2.map o59)⟩] (I r.1) E)) [true, false, true, false] ⟨[(0, (AV.sl 0 0 (List.length (a3.map o59)))), (1, (I v4)), (5, (I v5))], [(0, some ⟨59, 5, (a3.map o59)⟩)], [0, JJ]⟩ := by
 intro n
 induction n with
 | zero => intro a3 v4 v5 r h; simp only [Qc0] at h; cases h
 | succ n ih =>
  intro a3 v4 v5 r h
  simp only [Qc0] at h
  let Z0 := (I (a3.length : Int)); let Z4 := w64 (v4 + 1); let Z7 := w64 (Z4 + 1); let Z10 := w64 (Z7 + 1); let Z13 := a3.set v5.toNat (Qad.mk v4 Z4 Z7 Z10 (w64 (Z10 + 1))); let Z14 := Z13.map o59; let Z15 := a3.map o59; let Z16 := ((Z15.length : Nat) : Int); let Z17 := (decide (v5 < (a3.length : Int))); let Z18 := [(I (w64 (Z10 + 1)))]
  rcases itS h with ⟨c6, h⟩ | ⟨c8, h⟩
  ·obtain ⟨x7, hx7, h⟩ := bnS h
   exact (let Z1 := o59 x7; let Z2 := (a3.set v5.toNat (Qad.mk v4 x7.Kind x7.Obj x7.Lock x7.Pc)).map o59; let Z3 := [(I v4), (I x7.Kind), (I x7.Obj), (I x7.Lock), (I x7.Pc)]; let Z5 := (a3.set v5.toNat (Qad.mk v4 Z4 x7.Obj x7.Lock x7.Pc)).map o59; let Z6 := [(I v4), (I Z4), (I x7.Obj), (I x7.Lock), (I x7.Pc)]; let Z8 := (a3.set v5.toNat (Qad.mk v4 Z4 Z7 x7.Lock x7.Pc)).map o59; let Z9 := [(I v4), (I Z4), (I Z7), (I x7.Lock), (I x7.Pc)]; let Z11 := (a3.set v5.toNat (Qad.mk v4 Z4 Z7 Z10 x7.Pc)).map o59; let Z12 := [(I v4), (I Z4), (I Z7), (I Z10), (I x7.Pc)]; let Z19 := Qad.mk v4 x7.Kind x7.Obj x7.Lock x7.Pc; let Z20 := Qad.mk v4 (w64 (v4 + 1)) x7.Obj x7.Lock x7.Pc; let Z21 := Qad.mk v4 (w64 (v4 + 1)) (w64 ((w64 (v4 + 1)) + 1)) x7.Lock x7.Pc; let Z22 := Qad.mk v4 (w64 (v4 + 1)) (w64 ((w64 (v4 + 1)) + 1)) (w64 ((w64 ((w64 (v4 + 1)) + 1)) + 1)) x7.Pc; gT hP hn hx [hO 2 Z0, hT 4, hh 10 (.sto Z1 Z2), hh 14 (.slen 0 Z2.length), hh 19 (.sto Z3 Z5), hh 23 (.slen 0 Z5.length), hh 28 (.sto Z6 Z8), hh 32 (.slen 0 Z8.length), hh 37 (.sto Z9 Z11), hh 41 (.slen 0 Z11.length), hh 46 (.sto Z12 Z14), hh 53 (.slen 0 Z14.length)] [(0, 0)] [0, 1, 5] [] [AV.lit (.int .i64 Z16) = Z0, Z17 = true, (0 : Int) ≤ v5, v5 < Z16, Z15[v5.toNat]? = some Z1, Z15.set v5.toNat (wr Z1 0 [(I v4)]) = Z2, [(I v4)].length = 1, 0 + [(I v4)].length ≤ Z1.length, Z15.length = Z2.length, (0 : Int) ≤ v5, v5 < ((Z2.length : Nat) : Int), Z2[v5.toNat]? = some Z3, Z2.set v5.toNat (wr Z3 1 [(I Z4)]) = Z5, [(I Z4)].length = 1, 1 + [(I Z4)].length ≤ Z3.length, Z2.length = Z5.length, (0 : Int) ≤ v5, v5 < ((Z5.length : Nat) : Int), Z5[v5.toNat]? = some Z6, Z5.set v5.toNat (wr Z6 2 [(I Z7)]) = Z8, [(I Z7)].length = 1, 2 + [(I Z7)].length ≤ Z6.length, Z5.length = Z8.length, (0 : Int) ≤ v5, v5 < ((Z8.length : Nat) : Int), Z8[v5.toNat]? = some Z9, Z8.set v5.toNat (wr Z9 3 [(I Z10)]) = Z11, [(I Z10)].length = 1, 3 + [(I Z10)].length ≤ Z9.length, Z8.length = Z11.length, (0 : Int) ≤ v5, v5 < ((Z11.length : Nat) : Int), Z11[v5.toNat]? = some Z12, Z11.set v5.toNat (wr Z12 4 Z18) = Z14, Z18.length = 1, 4 + Z18.length ≤ Z12.length, Z11.length = Z14.length, Qab [(0, 0)] Z14] ⟨(Qcw o59), c6, (rd0 hx7), (rdL o59 hx7), (rdM o59 hx7), (Qo1 o59), rfl, leB, lnq, (rd0 hx7), (rdL o59 (rdS (y := Z19) hx7)), (rdM o59 (rdS (y := Z19) hx7)), (Qfv o59), rfl, leB, lnq, (rd0 hx7), (rdL o59 (rdS (y := Z20) hx7)), (rdM o59 (rdS (y := Z20) hx7)), (Qfv o59), rfl, leB, lnq, (rd0 hx7), (rdL o59 (rdS (y := Z21) hx7)), (rdM o59 (rdS (y := Z21) hx7)), (Qfv o59), rfl, leB, lnq, (rd0 hx7), (rdL o59 (rdS (y := Z22) hx7)), (rdM o59 (rdS (y := Z22) hx7)), (Qfv o59), rfl, leB, lnq, (rok (Qa8 t59)), trivial⟩ (ih Z13 (w64 ((w64 ((w64 ((w64 ((w64 (v4 + 1)) + 1)) + 1)) + 1)) + 1)) (w64 (v5 + 1)) _ h))
  ·obtain rfl := sj h
   exact gR hP hn [hO 2 Z0, hF 4] [] .raw [AV.lit (.int .i64 Z16) = Z0, Z17 = false, Z15 = Z15, Qa1 Z15 = true, Qa3 Z15 = true, (I v4) = (I v4), Qa4 (I v4) = true] ⟨(Qcw o59), c8, rfl, (Qa8 t59), (Qa7 n59), rfl, rfl, trivial⟩
noncomputable def Qg7 (p1 : (List Qad)) (p2 : Int) : Option (Int × (List Qad)) :=
 Qc0 FU p1 p2 0
theorem Qqp {p1 : (List Qad)} {p2 : Int} {r : (Int × (List Qad))} (h : Qg7 p1 p2 = some r) : Qco Tryz.prog 91 [⟨59, 5, (p1.map o59)⟩] [(AV.sl 0 0 (List.length (p1.map o59))), (I p2)] [true] [⟨59, 5, (r.2.map o59)⟩] (I r.1) := by
 refine Qeq Qv7 Tryz.func91 rfl (c := Xgf) (by kernel_rfl) (Nat.le_of_ble_eq_true rfl) rfl (Nat.le_of_ble_eq_true rfl) rfl (fr := [0]) (frI rfl) ?_
 intro E hP hn hx
 replace hn : E.n = 48 := hn
 unfold Qg7 at h
 exact gT hP hn hx [] [(0, 0)] [0, 1, 5] [] [Qab [(0, 0)] (p1.map o59)] ⟨(rok (Qa8 t59)), trivial⟩ (Qn8 hP hn hx FU p1 p2 0 _ h)
noncomputable def Xgx : Code := match Tryz.f82.body with | some c => c | none => .skip
noncomputable def Qbm   : Nat → (List Nat) → Int → Int → Option (Int × (List Nat))
 | 0, _, _, _ => none
 | n + 1, a3, v4, v5 =>
 if (decide (v5 < (a3.length : Int))) = true then
  Option.bind (rd a3 v5) fun x7 =>
  Qbm n (a3.set (Int.toNat v5) (fOf v4)) (w64 (v4 + 1)) (w64 (v5 + 1))
 else
  some (v4, a3)
theorem Qlv {E : Env} (hP : E.P = Tryz.prog) (hn : E.n = 20) (hx : ∀ p, p ∈ E.fx → p.1 ∈ ([0] : List Nat))   : ∀ (n : Nat) (a3 : (List Nat)) (v4 : Int) (v5 : Int) (r : (Int × (List Nat))), Qbm  n a3 v4 v5 = some r → WAt E Xgx (FQ (Qf3 Θ Tryz.f82.results.toList [true] [⟨142, 1, (r.2.map Qae)⟩] (I r.1) E)) [true, false, true, false] ⟨[(0, (AV.sl 0 0 (List.length (a3.map Qae)))), (1, (I v4)), (5, (I v5))], [(0, some ⟨142, 1, (a3.map Qae)⟩)], [0, JJ]⟩ := by
 intro n
 induction n with
 | zero => intro a3 v4 v5 r h; simp only [Qbm] at h; cases h
 | succ n ih =>
  intro a3 v4 v5 r h
  simp only [Qbm] at h
  let Z0 := (I (a3.length : Int)); let Z1 := fOf v4; let Z2 := (a3.set v5.toNat Z1).map Qae; let Z3 := a3.map Qae; let Z4 := ((Z3.length : Nat) : Int); let Z5 := (decide (v5 < (a3.length : Int))); let Z6 := a3.set v5.toNat (fOf v4)
  rcases itS h with ⟨c6, h⟩ | ⟨c8, h⟩
  ·obtain ⟨x7, hx7, h⟩ := bnS h
   exact gT hP hn hx [hO 2 Z0, hT 4, hh 8 (.cnv (FK Z1)), hh 10 (.sto [(FK x7)] Z2), hh 17 (.slen 0 Z2.length)] [(0, 0)] [0, 1, 5] [] [AV.lit (.int .i64 Z4) = Z0, Z5 = true, Qv8 Tryz.prog 3 142 (I v4) (FK Z1), (0 : Int) ≤ v5, v5 < Z4, Z3[v5.toNat]? = some [(FK x7)], Z3.set v5.toNat (wr [(FK x7)] 0 [(FK Z1)]) = Z2, [(FK Z1)].length = 1, 0 + [(FK Z1)].length ≤ [(FK x7)].length, Z3.length = Z2.length, Qab [(0, 0)] Z2] ⟨(Qcw Qae), c6, (cIF (P := Tryz.prog) ty3 Qma), (rd0 hx7), (rdL Qae hx7), (rdM Qae hx7), (Qwt Qae), rfl, leB, lnq, (rok (Qa8 Qbo)), trivial⟩ (ih Z6 (w64 (v4 + 1)) (w64 (v5 + 1)) _ h)
  ·obtain rfl := sj h
   exact gR hP hn [hO 2 Z0, hF 4] [] .raw [AV.lit (.int .i64 Z4) = Z0, Z5 = false, Z3 = Z3, Qa1 Z3 = true, Qa3 Z3 = true, (I v4) = (I v4), Qa4 (I v4) = true] ⟨(Qcw Qae), c8, rfl, (Qa8 Qbo), (Qa7 Qen), rfl, rfl, trivial⟩
noncomputable def Qdj (p1 : (List Nat)) (p2 : Int) : Option (Int × (List Nat)) :=
 Qbm FU p1 p2 0
theorem Qjm {p1 : (List Nat)} {p2 : Int} {r : (Int × (List Nat))} (h : Qdj p1 p2 = some r) : Qco Tryz.prog 82 [⟨142, 1, (p1.map Qae)⟩] [(AV.sl 0 0 (List.length (p1.map Qae))), (I p2)] [true] [⟨142, 1, (r.2.map Qae)⟩] (I r.1) := by
 refine Qeq Qv7 Tryz.func82 rfl (c := Xgx) (by kernel_rfl) (Nat.le_of_ble_eq_true rfl) rfl (Nat.le_of_ble_eq_true rfl) rfl (fr := [0]) (frI rfl) ?_
 intro E hP hn hx
 replace hn : E.n = 20 := hn
 unfold Qdj at h
 exact gT hP hn hx [] [(0, 0)] [0, 1, 5] [] [Qab [(0, 0)] (p1.map Qae)] ⟨(rok (Qa8 Qbo)), trivial⟩ (Qlv hP hn hx FU p1 p2 0 _ h)
noncomputable def Xgd : Code := match Tryz.f81.body with | some c => c | none => .skip
noncomputable def Qbp   : Nat → (List Qa0) → Int → Int → Option (Int × (List Qa0))
 | 0, _, _, _ => none
 | n + 1, a3, v4, v5 =>
 if (decide (v5 < (a3.length : Int))) = true then
  Option.bind (rd a3 v5) fun x7 =>
  Option.bind (Qdj x7.Stack (w64 ((w64 ((w64 ((w64 ((w64 (v4 + 1)) + 1)) + 1)) + 1)) + 1))) fun r8 =>
  Option.bind (Qdl x7.Stack r8.2) fun q9 =>
  Qbp n ((a3.set (Int.toNat v5) (Qa0.mk v4 (w64 (v4 + 1)) (w64 ((w64 (v4 + 1)) + 1)) (w64 ((w64 ((w64 (v4 + 1)) + 1)) + 1)) (w64 ((w64 ((w64 ((w64 (v4 + 1)) + 1)) + 1)) + 1)) x7.Stack)).set (Int.toNat v5) (Qa0.mk v4 (w64 (v4 + 1)) (w64 ((w64 (v4 + 1)) + 1)) (w64 ((w64 ((w64 (v4 + 1)) + 1)) + 1)) (w64 ((w64 ((w64 ((w64 (v4 + 1)) + 1)) + 1)) + 1)) r8.2)) r8.1 (w64 (v5 + 1))
 else
  some (v4, a3)
theorem Qmk {E : Env} (hP : E.P = Tryz.prog) (hn : E.n = 55) (hx : ∀ p, p ∈ E.fx → p.1 ∈ ([0] : List Nat))   : ∀ (n : Nat) (a3 : (List Qa0)) (v4 : Int) (v5 : Int) (r : (Int × (List Qa0))), Qbp  n a3 v4 v5 = some r → WAt E Xgd (FQ (Qf3 Θ Tryz.f81.results.toList [true] [⟨179, 6, (r.2.map Qaa)⟩] (I r.1) E)) [true, false, true, false] ⟨[(0, (AV.sl 0 0 (List.length (a3.map Qaa)))), (1, (I v4)), (5, (I v5))], [(0, some ⟨179, 6, (a3.map Qaa)⟩)], [0, JJ]⟩ := by
 intro n
 induction n with
 | zero => intro a3 v4 v5 r h; simp only [Qbp] at h; cases h
 | succ n ih =>
  intro a3 v4 v5 r h
  simp only [Qbp] at h
  let Z0 := (I (a3.length : Int)); let Z3 := I v4; let Z8 := w64 (v4 + 1); let Z11 := w64 (Z8 + 1); let Z14 := w64 (Z11 + 1); let Z17 := w64 (Z14 + 1); let Z27 := a3.map Qaa; let Z28 := ((Z27.length : Nat) : Int); let Z29 := (decide (v5 < (a3.length : Int)))
  rcases itS h with ⟨c6, h⟩ | ⟨c10, h⟩
  ·obtain ⟨x7, hx7, h⟩ := bnS h
   obtain ⟨r8, hr8, h⟩ := bnS h
   obtain ⟨q9, hq9, h⟩ := bnS h
   exact (let Z1 := Qaa x7; let Z2 := (a3.set v5.toNat (Qa0.mk v4 x7.Pc x7.State x7.Cond x7.Lock x7.Stack)).map Qaa; let Z4 := I x7.Lock; let Z5 := x7.Stack.map Qae; let Z6 := AV.own 142 1 Z5; let Z7 := [Z3, (I x7.Pc), (I x7.State), (I x7.Cond), Z4, Z6]; let Z9 := (a3.set v5.toNat (Qa0.mk v4 Z8 x7.State x7.Cond x7.Lock x7.Stack)).map Qaa; let Z10 := [Z3, (I Z8), (I x7.State), (I x7.Cond), Z4, Z6]; let Z12 := (a3.set v5.toNat (Qa0.mk v4 Z8 Z11 x7.Cond x7.Lock x7.Stack)).map Qaa; let Z13 := [Z3, (I Z8), (I Z11), (I x7.Cond), Z4, Z6]; let Z15 := (a3.set v5.toNat (Qa0.mk v4 Z8 Z11 Z14 x7.Lock x7.Stack)).map Qaa; let Z16 := [Z3, (I Z8), (I Z11), (I Z14), Z4, Z6]; let Z18 := a3.set v5.toNat (Qa0.mk v4 Z8 Z11 Z14 Z17 x7.Stack); let Z19 := Z18.map Qaa; let Z20 := [Z3, (I Z8), (I Z11), (I Z14), (I Z17), Z6]; let Z21 := AV.sl 1001 0 Z5.length; let Z22 := [Z3, (I Z8), (I Z11), (I Z14), (I Z17), Z21]; let Z23 := Z19.set v5.toNat Z22; let Z24 := r8.2.map Qae; let Z25 := Z18.set v5.toNat (Qa0.mk v4 Z8 Z11 Z14 Z17 r8.2); let Z26 := Z25.map Qaa; let Z30 := rtf (Qi7 [(0, 1001)] (I r8.1)) []; let Z31 := Qa0.mk v4 x7.Pc x7.State x7.Cond x7.Lock x7.Stack; let Z32 := Qa0.mk v4 (w64 (v4 + 1)) x7.State x7.Cond x7.Lock x7.Stack; let Z33 := Qa0.mk v4 (w64 (v4 + 1)) (w64 ((w64 (v4 + 1)) + 1)) x7.Cond x7.Lock x7.Stack; let Z34 := Qa0.mk v4 (w64 (v4 + 1)) (w64 ((w64 (v4 + 1)) + 1)) (w64 ((w64 ((w64 (v4 + 1)) + 1)) + 1)) x7.Lock x7.Stack; let Z35 := Qa0.mk v4 (w64 (v4 + 1)) (w64 ((w64 (v4 + 1)) + 1)) (w64 ((w64 ((w64 (v4 + 1)) + 1)) + 1)) (w64 ((w64 ((w64 ((w64 (v4 + 1)) + 1)) + 1)) + 1)) x7.Stack; gT hP hn hx [hO 2 Z0, hT 4, hh 10 (.sto Z1 Z2), hh 14 (.slen 0 Z2.length), hh 19 (.sto Z7 Z9), hh 23 (.slen 0 Z9.length), hh 28 (.sto Z10 Z12), hh 32 (.slen 0 Z12.length), hh 37 (.sto Z13 Z15), hh 41 (.slen 0 Z15.length), hh 46 (.sto Z16 Z19), hh 50 (.slen 0 Z19.length), hh 54 (.unpack 0 1001 v5.toNat 5 Z20 142 1 Z5 Z23), hh 54 (.row Z22), hh 56 (.callX [1001] [true] [⟨142, 1, Z5⟩] [⟨142, 1, Z24⟩] [] (I r8.1) [] (I r8.1) []), hh 61 (.pack 0 1001 v5.toNat 5 Z22 Z26), hh 61 (.slen 0 Z26.length)] [(0, 0)] [0, 1, 5] [] [AV.lit (.int .i64 Z28) = Z0, Z29 = true, (0 : Int) ≤ v5, v5 < Z28, Z27[v5.toNat]? = some Z1, Z27.set v5.toNat (wr Z1 0 [Z3]) = Z2, [Z3].length = 1, 0 + [Z3].length ≤ Z1.length, Z27.length = Z2.length, (0 : Int) ≤ v5, v5 < ((Z2.length : Nat) : Int), Z2[v5.toNat]? = some Z7, Z2.set v5.toNat (wr Z7 1 [(I Z8)]) = Z9, [(I Z8)].length = 1, 1 + [(I Z8)].length ≤ Z7.length, Z2.length = Z9.length, (0 : Int) ≤ v5, v5 < ((Z9.length : Nat) : Int), Z9[v5.toNat]? = some Z10, Z9.set v5.toNat (wr Z10 2 [(I Z11)]) = Z12, [(I Z11)].length = 1, 2 + [(I Z11)].length ≤ Z10.length, Z9.length = Z12.length, (0 : Int) ≤ v5, v5 < ((Z12.length : Nat) : Int), Z12[v5.toNat]? = some Z13, Z12.set v5.toNat (wr Z13 3 [(I Z14)]) = Z15, [(I Z14)].length = 1, 3 + [(I Z14)].length ≤ Z13.length, Z12.length = Z15.length, (0 : Int) ≤ v5, v5 < ((Z15.length : Nat) : Int), Z15[v5.toNat]? = some Z16, Z15.set v5.toNat (wr Z16 4 [(I Z17)]) = Z19, [(I Z17)].length = 1, 4 + [(I Z17)].length ≤ Z16.length, Z15.length = Z19.length, (0 : Int) ≤ v5, v5 < ((Z19.length : Nat) : Int), Z19[v5.toNat]? = some Z20, Z20[5]? = some Z6, 0 < 1, Z19.set v5.toNat (Z20.set 5 Z21) = Z23, Z23[v5.toNat]? = some Z22, Qco Tryz.prog 82 [⟨142, 1, Z5⟩] [(AV.sl 0 0 Z5.length), (I (w64 (Z17 + 1)))] [true] [⟨142, 1, Z24⟩] (I r8.1), (some (Qam.mk 142 1 Z5) = some (Qam.mk 142 1 Z5)) ∧ True, (Qa1 Z5 = true ∧ Qa3 Z5 = true) ∧ True, (Z24.length = Z5.length) ∧ True, Z30.1 = (I r8.1), Z30.2.1 = [], Z23[v5.toNat]? = some Z22, Z22[5]? = some (AV.sl 1001 0 Z24.length), Qa1 Z24 = true, Z23.set v5.toNat (Z22.set 5 (AV.own 142 1 Z24)) = Z26, Z19.length = Z26.length, Qab [(0, 0)] Z26] ⟨(Qcw Qaa), c6, (rd0 hx7), (rdL Qaa hx7), (rdM Qaa hx7), (Qo1 Qaa), rfl, leB, lnq, (rd0 hx7), (rdL Qaa (rdS (y := Z31) hx7)), (rdM Qaa (rdS (y := Z31) hx7)), (Qfv Qaa), rfl, leB, lnq, (rd0 hx7), (rdL Qaa (rdS (y := Z32) hx7)), (rdM Qaa (rdS (y := Z32) hx7)), (Qfv Qaa), rfl, leB, lnq, (rd0 hx7), (rdL Qaa (rdS (y := Z33) hx7)), (rdM Qaa (rdS (y := Z33) hx7)), (Qfv Qaa), rfl, leB, lnq, (rd0 hx7), (rdL Qaa (rdS (y := Z34) hx7)), (rdM Qaa (rdS (y := Z34) hx7)), (Qfv Qaa), rfl, leB, lnq, (rd0 hx7), (rdL Qaa (rdS (y := Z35) hx7)), (rdM Qaa (rdS (y := Z35) hx7)), rfl, (by decide), rfl, (Qd6 (rdM Qaa (rdS (y := Z35) hx7))), (Qjm hr8), ⟨rfl, trivial⟩, ⟨⟨Qa8 Qbo, Qa7 Qen⟩, trivial⟩, ⟨(Qbj Qae hq9), trivial⟩, rfl, rfl, (Qd6 (rdM Qaa (rdS (y := Z35) hx7))), (pkS (Qbj Qae hq9).symm), (Qa8 Qbo), (Qgo Qaa (y := (Qa0.mk v4 (w64 (v4 + 1)) (w64 ((w64 (v4 + 1)) + 1)) (w64 ((w64 ((w64 (v4 + 1)) + 1)) + 1)) (w64 ((w64 ((w64 ((w64 (v4 + 1)) + 1)) + 1)) + 1)) r8.2)) rfl), lnq, (rok (Qa8 Qch)), trivial⟩ (ih Z25 r8.1 (w64 (v5 + 1)) _ h))
  ·obtain rfl := sj h
   exact gR hP hn [hO 2 Z0, hF 4] [] .raw [AV.lit (.int .i64 Z28) = Z0, Z29 = false, Z27 = Z27, Qa1 Z27 = true, Qa3 Z27 = true, Z3 = Z3, Qa4 Z3 = true] ⟨(Qcw Qaa), c10, rfl, (Qa8 Qch), (Qa7 Qgn), rfl, rfl, trivial⟩
noncomputable def Qfj (p1 : (List Qa0)) (p2 : Int) : Option (Int × (List Qa0)) :=
 Qbp FU p1 p2 0
theorem Qpb {p1 : (List Qa0)} {p2 : Int} {r : (Int × (List Qa0))} (h : Qfj p1 p2 = some r) : Qco Tryz.prog 81 [⟨179, 6, (p1.map Qaa)⟩] [(AV.sl 0 0 (List.length (p1.map Qaa))), (I p2)] [true] [⟨179, 6, (r.2.map Qaa)⟩] (I r.1) := by
 refine Qeq Qv7 Tryz.func81 rfl (c := Xgd) (by kernel_rfl) (Nat.le_of_ble_eq_true rfl) rfl (Nat.le_of_ble_eq_true rfl) rfl (fr := [0]) (frI rfl) ?_
 intro E hP hn hx
 replace hn : E.n = 55 := hn
 unfold Qfj at h
 exact gT hP hn hx [] [(0, 0)] [0, 1, 5] [] [Qab [(0, 0)] (p1.map Qaa)] ⟨(rok (Qa8 Qch)), trivial⟩ (Qmk hP hn hx FU p1 p2 0 _ h)
noncomputable def Xk9 : Code := match Tryz.f25.body with | some c => c | none => .skip
noncomputable def Qgr (p1 : (List Qa0)) (p2 : (List Nat)) (p3 : (List Int)) (p4 : Int) (p5 : Int) : Option (Int × (List Qa0) × (List Nat) × (List Int)) :=
 Option.bind (Qfj p1 p5) fun r6 =>
 Option.bind (Qdl p1 r6.2) fun q7 =>
 Option.bind (Qdj p2 r6.1) fun r8 =>
 Option.bind (Qdl p2 r8.2) fun q9 =>
 Option.bind (Qf9 p3 r8.1) fun r10 =>
 Option.bind (Qdl p3 r10.2) fun q11 =>
 some (r10.1, r6.2, r8.2, r10.2)
theorem Qrt {p1 : (List Qa0)} {p2 : (List Nat)} {p3 : (List Int)} {p4 : Int} {p5 : Int} {r : (Int × (List Qa0) × (List Nat) × (List Int))} (h : Qgr p1 p2 p3 p4 p5 = some r) : Qco Tryz.prog 25 [⟨179, 6, (p1.map Qaa)⟩, ⟨142, 1, (p2.map Qae)⟩, ⟨3, 1, (p3.map o3)⟩] [(AV.agg [(AV.sl 0 0 (List.length (p1.map Qaa))), (AV.sl 1 0 (List.length (p2.map Qae))), (AV.sl 2 0 (List.length (p3.map o3))), (I p4)]), (I p5)] [true, true, true] [⟨179, 6, (r.2.1.map Qaa)⟩, ⟨142, 1, (r.2.2.1.map Qae)⟩, ⟨3, 1, (r.2.2.2.map o3)⟩] (I r.1) := by
 refine Qeq Qv7 Tryz.func25 rfl (c := Xk9) (by kernel_rfl) (Nat.le_of_ble_eq_true rfl) rfl (Nat.le_of_ble_eq_true rfl) rfl (fr := [0, 1, 2]) (frI rfl) ?_
 intro E hP hn hx
 replace hn : E.n = 18 := hn
 unfold Qgr at h
 obtain ⟨r6, hr6, h⟩ := bnS h
 obtain ⟨q7, hq7, h⟩ := bnS h
 obtain ⟨r8, hr8, h⟩ := bnS h
 obtain ⟨q9, hq9, h⟩ := bnS h
 obtain ⟨r10, hr10, h⟩ := bnS h
 obtain ⟨q11, hq11, h⟩ := bnS h
 obtain rfl := sj h
 exact (let Z0 := p1.map Qaa; let Z1 := r6.2.map Qaa; let Z2 := I r6.1; let Z3 := p2.map Qae; let Z4 := r8.2.map Qae; let Z5 := I r8.1; let Z6 := p3.map o3; let Z7 := r10.2.map o3; let Z8 := I r10.1; let Z9 := rtf (Qi7 [(0, 0)] Z2) []; let Z10 := rtf (Qi7 [(0, 1)] Z5) []; let Z11 := rtf (Qi7 [(0, 2)] Z8) []; gR hP hn [hW 0 1001, hh 5 (.callX [0] [true] [⟨179, 6, Z0⟩] [⟨179, 6, Z1⟩] [] Z2 [] Z2 []), hh 10 (.callX [1] [true] [⟨142, 1, Z3⟩] [⟨142, 1, Z4⟩] [] Z5 [] Z5 []), hh 15 (.callX [2] [true] [⟨3, 1, Z6⟩] [⟨3, 1, Z7⟩] [] Z8 [] Z8 [])] [] .raw [Qco Tryz.prog 81 [⟨179, 6, Z0⟩] [(AV.sl 0 0 Z0.length), (I p5)] [true] [⟨179, 6, Z1⟩] Z2, (some (Qam.mk 179 6 Z0) = some (Qam.mk 179 6 Z0)) ∧ True, (Qa1 Z0 = true ∧ Qa3 Z0 = true) ∧ True, (Z1.length = Z0.length) ∧ True, Z9.1 = Z2, Z9.2.1 = [], Qco Tryz.prog 82 [⟨142, 1, Z3⟩] [(AV.sl 0 0 Z3.length), Z2] [true] [⟨142, 1, Z4⟩] Z5, (some (Qam.mk 142 1 Z3) = some (Qam.mk 142 1 Z3)) ∧ True, (Qa1 Z3 = true ∧ Qa3 Z3 = true) ∧ True, (Z4.length = Z3.length) ∧ True, Z10.1 = Z5, Z10.2.1 = [], Qco Tryz.prog 32 [⟨3, 1, Z6⟩] [(AV.sl 0 0 Z6.length), Z5] [true] [⟨3, 1, Z7⟩] Z8, (some (Qam.mk 3 1 Z6) = some (Qam.mk 3 1 Z6)) ∧ True, (Qa1 Z6 = true ∧ Qa3 Z6 = true) ∧ True, (Z7.length = Z6.length) ∧ True, Z11.1 = Z8, Z11.2.1 = [], Z1 = Z1, Qa1 Z1 = true, Qa3 Z1 = true, Z4 = Z4, Qa1 Z4 = true, Qa3 Z4 = true, Z7 = Z7, Qa1 Z7 = true, Qa3 Z7 = true, Z8 = Z8, Qa4 Z8 = true] ⟨(Qpb hr6), ⟨rfl, trivial⟩, ⟨⟨Qa8 Qch, Qa7 Qgn⟩, trivial⟩, ⟨(Qbj Qaa hq7), trivial⟩, rfl, rfl, (Qjm hr8), ⟨rfl, trivial⟩, ⟨⟨Qa8 Qbo, Qa7 Qen⟩, trivial⟩, ⟨(Qbj Qae hq9), trivial⟩, rfl, rfl, (Qk0 hr10), ⟨rfl, trivial⟩, ⟨⟨Qa8 t3, Qa7 n3⟩, trivial⟩, ⟨(Qbj o3 hq11), trivial⟩, rfl, rfl, rfl, (Qa8 Qch), (Qa7 Qgn), rfl, (Qa8 Qbo), (Qa7 Qen), rfl, (Qa8 t3), (Qa7 n3), rfl, rfl, trivial⟩)
noncomputable def Xl5 : Code := match Tryz.f33.body with | some c => c | none => .skip
noncomputable def Qie (p1 : Int) (p2 : (List Qad)) (p3 : (List Int)) (p4 : (List Qa0)) (p5 : (List Nat)) (p6 : (List Int)) (p7 : Int) (p8 : Int) : Option (Int × (List Qad) × (List Int) × (List Qa0) × (List Nat) × (List Int)) :=
 Option.bind (Qg7 p2 p8) fun r9 =>
 Option.bind (Qdl p2 r9.2) fun q10 =>
 Option.bind (Qf9 p3 r9.1) fun r11 =>
 Option.bind (Qdl p3 r11.2) fun q12 =>
 Option.bind (Qgr p4 p5 p6 p7 r11.1) fun r13 =>
 Option.bind (Qdl p4 r13.2.1) fun q14 =>
 Option.bind (Qdl p5 r13.2.2.1) fun q15 =>
 Option.bind (Qdl p6 r13.2.2.2) fun q16 =>
 some (r13.1, r9.2, r11.2, r13.2.1, r13.2.2.1, r13.2.2.2)
theorem Qu8 {p1 : Int} {p2 : (List Qad)} {p3 : (List Int)} {p4 : (List Qa0)} {p5 : (List Nat)} {p6 : (List Int)} {p7 : Int} {p8 : Int} {r : (Int × (List Qad) × (List Int) × (List Qa0) × (List Nat) × (List Int))} (h : Qie p1 p2 p3 p4 p5 p6 p7 p8 = some r) : Qco Tryz.prog 33 [⟨59, 5, (p2.map o59)⟩, ⟨3, 1, (p3.map o3)⟩, ⟨179, 6, (p4.map Qaa)⟩, ⟨142, 1, (p5.map Qae)⟩, ⟨3, 1, (p6.map o3)⟩] [(AV.agg [(I p1), (AV.sl 0 0 (List.length (p2.map o59))), (AV.sl 1 0 (List.length (p3.map o3))), (AV.sl 2 0 (List.length (p4.map Qaa))), (AV.sl 3 0 (List.length (p5.map Qae))), (AV.sl 4 0 (List.length (p6.map o3))), (I p7)]), (I p8)] [true, true, true, true, true] [⟨59, 5, (r.2.1.map o59)⟩, ⟨3, 1, (r.2.2.1.map o3)⟩, ⟨179, 6, (r.2.2.2.1.map Qaa)⟩, ⟨142, 1, (r.2.2.2.2.1.map Qae)⟩, ⟨3, 1, (r.2.2.2.2.2.map o3)⟩] (I r.1) := by
 refine Qeq Qv7 Tryz.func33 rfl (c := Xl5) (by kernel_rfl) (Nat.le_of_ble_eq_true rfl) rfl (Nat.le_of_ble_eq_true rfl) rfl (fr := [0, 1, 2, 3, 4]) (frI rfl) ?_
 intro E hP hn hx
 replace hn : E.n = 18 := hn
 unfold Qie at h
 obtain ⟨r9, hr9, h⟩ := bnS h
 obtain ⟨q10, hq10, h⟩ := bnS h
 obtain ⟨r11, hr11, h⟩ := bnS h
 obtain ⟨q12, hq12, h⟩ := bnS h
 obtain ⟨r13, hr13, h⟩ := bnS h
 obtain ⟨q14, hq14, h⟩ := bnS h
 obtain ⟨q15, hq15, h⟩ := bnS h
 obtain ⟨q16, hq16, h⟩ := bnS h
 obtain rfl := sj h
 exact (let Z0 := p2.map o59; let Z1 := r9.2.map o59; let Z2 := I r9.1; let Z3 := p3.map o3; let Z4 := r11.2.map o3; let Z5 := I r11.1; let Z6 := p4.map Qaa; let Z7 := p5.map Qae; let Z8 := p6.map o3; let Z9 := r13.2.1.map Qaa; let Z10 := r13.2.2.1.map Qae; let Z11 := r13.2.2.2.map o3; let Z12 := I r13.1; let Z13 := rtf (Qi7 [(0, 0)] Z2) []; let Z14 := rtf (Qi7 [(0, 1)] Z5) []; let Z15 := rtf (Qi7 [(0, 2), (1, 3), (2, 4)] Z12) []; gR hP hn [hW 0 1001, hh 5 (.callX [0] [true] [⟨59, 5, Z0⟩] [⟨59, 5, Z1⟩] [] Z2 [] Z2 []), hh 10 (.callX [1] [true] [⟨3, 1, Z3⟩] [⟨3, 1, Z4⟩] [] Z5 [] Z5 []), hh 15 (.callX [2, 3, 4] [true, true, true] [⟨179, 6, Z6⟩, ⟨142, 1, Z7⟩, ⟨3, 1, Z8⟩] [⟨179, 6, Z9⟩, ⟨142, 1, Z10⟩, ⟨3, 1, Z11⟩] [[]] Z12 [] Z12 [])] [] .raw [Qco Tryz.prog 91 [⟨59, 5, Z0⟩] [(AV.sl 0 0 Z0.length), (I p8)] [true] [⟨59, 5, Z1⟩] Z2, (some (Qam.mk 59 5 Z0) = some (Qam.mk 59 5 Z0)) ∧ True, (Qa1 Z0 = true ∧ Qa3 Z0 = true) ∧ True, (Z1.length = Z0.length) ∧ True, Z13.1 = Z2, Z13.2.1 = [], Qco Tryz.prog 32 [⟨3, 1, Z3⟩] [(AV.sl 0 0 Z3.length), Z2] [true] [⟨3, 1, Z4⟩] Z5, (some (Qam.mk 3 1 Z3) = some (Qam.mk 3 1 Z3)) ∧ True, (Qa1 Z3 = true ∧ Qa3 Z3 = true) ∧ True, (Z4.length = Z3.length) ∧ True, Z14.1 = Z5, Z14.2.1 = [], Qco Tryz.prog 25 [⟨179, 6, Z6⟩, ⟨142, 1, Z7⟩, ⟨3, 1, Z8⟩] [(AV.agg [(AV.sl 0 0 Z6.length), (AV.sl 1 0 Z7.length), (AV.sl 2 0 Z8.length), (I p7)]), Z5] [true, true, true] [⟨179, 6, Z9⟩, ⟨142, 1, Z10⟩, ⟨3, 1, Z11⟩] Z12, (some (Qam.mk 179 6 Z6) = some (Qam.mk 179 6 Z6)) ∧ (some (Qam.mk 142 1 Z7) = some (Qam.mk 142 1 Z7)) ∧ (some (Qam.mk 3 1 Z8) = some (Qam.mk 3 1 Z8)) ∧ True, (Qa1 Z6 = true ∧ Qa3 Z6 = true) ∧ (Qa1 Z7 = true ∧ Qa3 Z7 = true) ∧ (Qa1 Z8 = true ∧ Qa3 Z8 = true) ∧ True, (Z9.length = Z6.length) ∧ (Z10.length = Z7.length) ∧ (Z11.length = Z8.length) ∧ True, Z15.1 = Z12, Z15.2.1 = [], Z1 = Z1, Qa1 Z1 = true, Qa3 Z1 = true, Z4 = Z4, Qa1 Z4 = true, Qa3 Z4 = true, Z9 = Z9, Qa1 Z9 = true, Qa3 Z9 = true, Z10 = Z10, Qa1 Z10 = true, Qa3 Z10 = true, Z11 = Z11, Qa1 Z11 = true, Qa3 Z11 = true, Z12 = Z12, Qa4 Z12 = true] ⟨(Qqp hr9), ⟨rfl, trivial⟩, ⟨⟨Qa8 t59, Qa7 n59⟩, trivial⟩, ⟨(Qbj o59 hq10), trivial⟩, rfl, rfl, (Qk0 hr11), ⟨rfl, trivial⟩, ⟨⟨Qa8 t3, Qa7 n3⟩, trivial⟩, ⟨(Qbj o3 hq12), trivial⟩, rfl, rfl, (Qrt hr13), ⟨rfl, rfl, rfl, trivial⟩, ⟨⟨Qa8 Qch, Qa7 Qgn⟩, ⟨Qa8 Qbo, Qa7 Qen⟩, ⟨Qa8 t3, Qa7 n3⟩, trivial⟩, ⟨(Qbj Qaa hq14), (Qbj Qae hq15), (Qbj o3 hq16), trivial⟩, rfl, rfl, rfl, (Qa8 t59), (Qa7 n59), rfl, (Qa8 t3), (Qa7 n3), rfl, (Qa8 Qch), (Qa7 Qgn), rfl, (Qa8 Qbo), (Qa7 Qen), rfl, (Qa8 t3), (Qa7 n3), rfl, rfl, trivial⟩)
noncomputable def Xiz : Code := match Tryz.f122.body with | some c => c | none => .skip
noncomputable def Qja (p1 : (List GOp)) (p2 : Int) : Option Int :=
 if (decide ((w64 (p2 - (p1.length : Int))) < 0)) = true then
  some (-1)
 else
  some (w64 (p2 - (p1.length : Int)))
theorem Qxu {p1 : (List GOp)} {p2 : Int} {r : Int} (h : Qja p1 p2 = some r) : Qa5 Tryz.prog 122 [(AV.ro 4 (p1.map Qty)), (I p2)] (I r) := by
 refine gM Tryz.func122 12 Xiz fun E hP hn hx => ?_
 unfold Qja at h
 let Z0 := (I (p1.length : Int)); let Z1 := (((p1.map Qty).length : Nat) : Int); let Z2 := (w64 (p2 - (p1.length : Int)))
 rcases itS h with ⟨c3, h⟩ | ⟨c4, h⟩
 ·obtain rfl := sj h
  exact gR hP hn [hO 3 Z0, hT 8] [] .raw [AV.lit (.int .i64 Z1) = Z0, (decide (Z2 < 0)) = true, (I (-1)) = (I (-1)), Qa4 (I (-1)) = true] ⟨(Qcw Qty), c3, rfl, rfl, trivial⟩
 ·obtain rfl := sj h
  exact gR hP hn [hO 3 Z0, hF 8] [] .raw [AV.lit (.int .i64 Z1) = Z0, (decide (Z2 < 0)) = false, (I Z2) = (I Z2), Qa4 (I Z2) = true] ⟨(Qcw Qty), c4, rfl, rfl, trivial⟩
noncomputable def Xgt : Code := match Tryz.f59.body with | some c => c | none => .skip
noncomputable def Qel  (p1 : (List (List GOp))) : Nat → Int → Int → Option Int
 | 0, _, _ => none
 | n + 1, v5, v6 =>
 if (decide (v6 < (p1.length : Int))) = true then
  Option.bind (rd p1 v6) fun x8 =>
  Option.bind (Qja x8 v5) fun r9 =>
  if (decide (r9 < 0)) = true then
   some (-1)
  else
   Qel p1 n r9 (w64 (v6 + 1))
 else
  some v5
theorem Qrn {E : Env} (hP : E.P = Tryz.prog) (hn : E.n = 27) (hx : FX E []) (p1 : (List (List GOp)))  : ∀ (n : Nat) (v5 : Int) (v6 : Int) (r : Int), Qel p1 n v5 v6 = some r → WAt E Xgt (FQ (Qf3 Θ Tryz.f59.results.toList [] [] (I r) E)) [true, true, true, false, true, false] ⟨[(0, (AV.ro 1 (p1.map Qqw))), (1, (I v5)), (5, (I v6))], [], [JJ]⟩ := by
 intro n
 induction n with
 | zero => intro v5 v6 r h; simp only [Qel] at h; cases h
 | succ n ih =>
  intro v5 v6 r h
  simp only [Qel] at h
  let Z0 := (I (p1.length : Int)); let Z1 := (decide (v6 < (p1.length : Int)))
  let P1 : List Prop := [AV.lit (.int .i64 (((p1.map Qqw).length : Nat) : Int)) = Z0]
  have AP1 : Qal P1 := ⟨(Qcw Qqw), trivial⟩
  rcases itS h with ⟨c7, h⟩ | ⟨c12, h⟩
  ·obtain ⟨x8, hx8, h⟩ := bnS h
   obtain ⟨r9, hr9, h⟩ := bnS h
   let H2 : List Hn := [hO 2 Z0, hT 4, hh 7 (.row (Qqw x8)), hh 10 (.callV [] (I r9))]
   let P3 : List Prop := P1 ++ [Z1 = true, (0 : Int) ≤ v6, (p1.map Qqw)[v6.toNat]? = some (Qqw x8), Qa5 Tryz.prog 122 [(AV.ro 4 (x8.map Qty)), (I v5)] (I r9), Qa4 (I r9) = true]
   have AP3 : Qal P3 := Qa9 AP1 ⟨c7, (rd0 hx8), (rdM Qqw hx8), (Qxu hr9), rfl, trivial⟩
   rcases itS h with ⟨c10, h⟩ | ⟨c11, h⟩
   ·obtain rfl := sj h
    exact gR hP hn (H2 ++ [hT 14]) [] .raw (P3 ++ [(decide (r9 < 0)) = true, (I (-1)) = (I (-1)), Qa4 (I (-1)) = true]) (Qa9 AP3 ⟨c10, rfl, rfl, trivial⟩)
   ·exact gT hP hn hx (H2 ++ [hF 14]) [] [0, 1, 5] [] (P3 ++ [(decide (r9 < 0)) = false]) (Qa9 AP3 ⟨c11, trivial⟩) (ih r9 (w64 (v6 + 1)) _ h)
  ·obtain rfl := sj h
   exact gR hP hn [hO 2 Z0, hF 4] [] .raw (P1 ++ [Z1 = false, (I v5) = (I v5), Qa4 (I v5) = true]) (Qa9 AP1 ⟨c12, rfl, rfl, trivial⟩)
noncomputable def Qjl (p1 : (List (List GOp))) (p2 : Int) : Option Int :=
 if (decide ((w64 (p2 - (p1.length : Int))) < 0)) = true then
  some (-1)
 else
  Qel p1 FU (w64 (p2 - (p1.length : Int))) 0
theorem Qvs {p1 : (List (List GOp))} {p2 : Int} {r : Int} (h : Qjl p1 p2 = some r) : Qa5 Tryz.prog 59 [(AV.ro 1 (p1.map Qqw)), (I p2)] (I r) := by
 refine gM Tryz.func59 27 Xgt fun E hP hn hx => ?_
 unfold Qjl at h
 let Z0 := (p1.length : Int); let Z1 := (((p1.map Qqw).length : Nat) : Int); let Z2 := decide ((w64 (p2 - Z0)) < 0)
 rcases itS h with ⟨c3, h⟩ | ⟨c4, h⟩
 ·obtain rfl := sj h
  exact gR hP hn [hO 3 (I Z0), hT 8] [] .raw [AV.lit (.int .i64 Z1) = (I Z0), Z2 = true, (I (-1)) = (I (-1)), Qa4 (I (-1)) = true] ⟨(Qcw Qqw), c3, rfl, rfl, trivial⟩
 ·exact gT hP hn hx [hO 3 (I Z0), hF 8] [] [0, 1, 5] [] [AV.lit (.int .i64 Z1) = (I Z0), Z2 = false] ⟨(Qcw Qqw), c4, trivial⟩ (Qrn hP hn hx p1 FU (w64 (p2 - Z0)) 0 _ h)
noncomputable def Xkf : Code := match Tryz.f13.body with | some c => c | none => .skip
noncomputable def Qk3 (p1 : Qaf) (p2 : Int) : Option Int :=
 Option.bind (Qjl p1.Routines p2) fun r3 =>
 if (decide (r3 < 0)) = true then
  some (-1)
 else
  some r3
theorem Qvi {p1 : Qaf} {p2 : Int} {r : Int} (h : Qk3 p1 p2 = some r) : Qa5 Tryz.prog 13 [(AV.agg ((r24 p1))), (I p2)] (I r) := by
 refine gM Tryz.func13 12 Xkf fun E hP hn hx => ?_
 unfold Qk3 at h
 obtain ⟨r3, hr3, h⟩ := bnS h
 let P1 : List Prop := [Qa5 Tryz.prog 59 [(AV.ro 1 (p1.Routines.map Qqw)), (I p2)] (I r3), Qa4 (I r3) = true]
 have AP1 : Qal P1 := ⟨(Qvs hr3), rfl, trivial⟩
 rcases itS h with ⟨c4, h⟩ | ⟨c5, h⟩
 ·obtain rfl := sj h
  exact gR hP hn [hW 0 1001, hh 5 (.callV [] (I r3)), hT 9] [] .raw (P1 ++ [(decide (r3 < 0)) = true, (I (-1)) = (I (-1)), Qa4 (I (-1)) = true]) (Qa9 AP1 ⟨c4, rfl, rfl, trivial⟩)
 ·obtain rfl := sj h
  exact gR hP hn [hW 0 1001, hh 5 (.callV [] (I r3)), hF 9] [] .raw (P1 ++ [(decide (r3 < 0)) = false, (I r3) = (I r3), Qa4 (I r3) = true]) (Qa9 AP1 ⟨c5, rfl, rfl, trivial⟩)
noncomputable def Xgr : Code := match Tryz.f28.body with | some c => c | none => .skip
noncomputable def Qfk  (p1 : (List Int)) : Nat → (List Int) → Int → Option (List Int)
 | 0, _, _ => none
 | n + 1, a3, v4 =>
 if (decide (v4 < (p1.length : Int))) = true then
  Option.bind (rd p1 v4) fun x6 =>
  Option.bind (rd a3 v4) fun x7 =>
  Qfk p1 n (a3.set (Int.toNat v4) x6) (w64 (v4 + 1))
 else
  some a3
theorem Qri {E : Env} (hP : E.P = Tryz.prog) (hn : E.n = 22) (hx : FX E []) (p1 : (List Int))  : ∀ (n : Nat) (a3 : (List Int)) (v4 : Int) (r : (List Int)), Qfk p1 n a3 v4 = some r → WAt E Xgr (FQ (Qf3 Θ Tryz.f28.results.toList [] [] (AV.own 3 1 (r.map o3)) E)) [true, true, false, true, false] ⟨[(0, (AV.ro 1 (p1.map o3))), (3, (AV.sl 1 0 (List.length (a3.map o3)))), (4, (I v4))], [(1, some ⟨3, 1, (a3.map o3)⟩)], [1, JJ]⟩ := by
 intro n
 induction n with
 | zero => intro a3 v4 r h; simp only [Qfk] at h; cases h
 | succ n ih =>
  intro a3 v4 r h
  simp only [Qfk] at h
  let Z0 := (I (p1.length : Int)); let Z2 := (((p1.map o3).length : Nat) : Int); let Z3 := (decide (v4 < (p1.length : Int))); let Z4 := a3.map o3
  rcases itS h with ⟨c5, h⟩ | ⟨c8, h⟩
  ·obtain ⟨x6, hx6, h⟩ := bnS h
   obtain ⟨x7, hx7, h⟩ := bnS h
   exact (let Z1 := (a3.set v4.toNat x6).map o3; gT hP hn hx [hO 2 Z0, hT 4, hh 9 (.row (o3 x6)), hh 12 (.sto [(I x7)] Z1), hh 16 (.slen 3 Z1.length)] [(1, 1)] [0, 3, 4] [] [AV.lit (.int .i64 Z2) = Z0, Z3 = true, (0 : Int) ≤ v4, (p1.map o3)[v4.toNat]? = some (o3 x6), (0 : Int) ≤ v4, v4 < ((Z4.length : Nat) : Int), Z4[v4.toNat]? = some [(I x7)], Z4.set v4.toNat (wr [(I x7)] 0 [(I x6)]) = Z1, [(I x6)].length = 1, 0 + [(I x6)].length ≤ [(I x7)].length, Z4.length = Z1.length, Qab [(1, 1)] Z1] ⟨(Qcw o3), c5, (rd0 hx6), (rdM o3 hx6), (rd0 hx7), (rdL o3 hx7), (rdM o3 hx7), (Qwt o3), rfl, leB, lnq, (rok (Qa8 t3)), trivial⟩ (ih (a3.set v4.toNat x6) (w64 (v4 + 1)) _ h))
  ·obtain rfl := sj h
   exact gR hP hn [hO 2 Z0, hF 4] [] .own [AV.lit (.int .i64 Z2) = Z0, Z3 = false, Qa1 (Z4.take Z4.length) = true, Z4.take Z4.length = Z4, Qa3 Z4 = true] ⟨(Qcw o3), c8, (Qb2 t3), Qb1, (Qa7 n3), trivial⟩
noncomputable def Qg1 (p1 : (List Int)) : Option (List Int) :=
 Option.bind (mk 0 (p1.length : Int)) fun l2 =>
 Qfk p1 FU l2 0
theorem Qj2 {p1 : (List Int)} {r : (List Int)} (h : Qg1 p1 = some r) : Qa5 Tryz.prog 28 [(AV.ro 1 (p1.map o3))] (AV.own 3 1 (r.map o3)) := by
 refine gM Tryz.func28 22 Xgr fun E hP hn hx => ?_
 unfold Qg1 at h
 obtain ⟨l2, hl2, h⟩ := bnS h
 exact (let Z0 := (p1.length : Int); let Z1 := l2.map o3; let Z2 := AV.sl 1001 0 Z1.length; gT hP hn hx [hO 2 (I Z0), ⟨3, .nw 1001 Z1, some Z2⟩] [(1001, 1)] [0, 3, 4] [] [AV.lit (.int .i64 (((p1.map o3).length : Nat) : Int)) = (I Z0), List.replicate Z0.toNat [.lit (.int .i64 0)] = Z1, AV.sl 1001 0 Z0.toNat = Z2, Z0 = Z0, (0 : Int) ≤ Z0, Z0 * ((8 : Nat) : Int) ≤ 140737488355328, Z0 ≤ 140737488355328, Qab [(1001, 1)] Z1] ⟨(Qcw o3), (mkM o3 hl2), (mkS o3 hl2), rfl, (mk0 hl2), (mkB hl2 (by decide)), (mkC hl2), (rok (Qa8 t3)), trivial⟩ (Qri hP hn hx p1 FU l2 0 _ h))
noncomputable def Xip : Code := match Tryz.f169.body with | some c => c | none => .skip
noncomputable def Qm9 (p1 : GOp) : Option GOp :=
 some (GOp.mk p1.Code p1.A p1.B p1.V)
theorem Qyt {p1 : GOp} {r : GOp} (h : Qm9 p1 = some r) : Qa5 Tryz.prog 169 [(AV.agg ((Qty p1)))] (AV.agg (Qb6 r)) := by
 refine gM Tryz.func169 17 Xip fun E hP hn hx => ?_
 unfold Qm9 at h
 obtain rfl := sj h
 exact (let Z0 := AV.agg [(I p1.Code), (I p1.A), (I p1.B), (FK p1.V)]; gR hP hn [hW 0 1001, hW 1 1002, hW 2 1003] [] .raw [Z0 = Z0, Qa4 Z0 = true] ⟨rfl, rfl, trivial⟩)
noncomputable def Xdu : Code := match Tryz.f125.body with | some c => c | none => .skip
noncomputable def Qgf  (p1 : (List GOp)) : Nat → (List GOp) → Int → Option (List GOp)
 | 0, _, _ => none
 | n + 1, a3, v4 =>
 if (decide (v4 < (p1.length : Int))) = true then
  Option.bind (rd p1 v4) fun x6 =>
  Option.bind (Qm9 x6) fun r7 =>
  Option.bind (rd a3 v4) fun x8 =>
  Qgf p1 n (a3.set (Int.toNat v4) r7) (w64 (v4 + 1))
 else
  some a3
theorem Qts {E : Env} (hP : E.P = Tryz.prog) (hn : E.n = 23) (hx : FX E []) (p1 : (List GOp))  : ∀ (n : Nat) (a3 : (List GOp)) (v4 : Int) (r : (List GOp)), Qgf p1 n a3 v4 = some r → WAt E Xdu (FQ (Qf3 Θ Tryz.f125.results.toList [] [] (AV.own 144 4 (r.map Qb6)) E)) [true, true, false, true, false] ⟨[(0, (AV.ro 4 (p1.map Qty))), (3, (AV.sl 1 0 (List.length (a3.map Qb6)))), (4, (I v4))], [(1, some ⟨144, 4, (a3.map Qb6)⟩)], [1, JJ]⟩ := by
 intro n
 induction n with
 | zero => intro a3 v4 r h; simp only [Qgf] at h; cases h
 | succ n ih =>
  intro a3 v4 r h
  simp only [Qgf] at h
  let Z0 := (I (p1.length : Int)); let Z4 := (((p1.map Qty).length : Nat) : Int); let Z5 := (decide (v4 < (p1.length : Int))); let Z6 := a3.map Qb6
  rcases itS h with ⟨c5, h⟩ | ⟨c9, h⟩
  ·obtain ⟨x6, hx6, h⟩ := bnS h
   obtain ⟨r7, hr7, h⟩ := bnS h
   obtain ⟨x8, hx8, h⟩ := bnS h
   exact (let Z1 := AV.agg (Qb6 r7); let Z2 := Qb6 x8; let Z3 := (a3.set v4.toNat r7).map Qb6; gT hP hn hx [hO 2 Z0, hT 4, hh 9 (.row (Qty x6)), hh 11 (.callV [[]] Z1), hh 13 (.sto Z2 Z3), hh 17 (.slen 3 Z3.length)] [(1, 1)] [0, 3, 4] [] [AV.lit (.int .i64 Z4) = Z0, Z5 = true, (0 : Int) ≤ v4, (p1.map Qty)[v4.toNat]? = some (Qty x6), Qa5 Tryz.prog 169 [(AV.agg ((Qty x6)))] Z1, Qa4 Z1 = true, (0 : Int) ≤ v4, v4 < ((Z6.length : Nat) : Int), Z6[v4.toNat]? = some Z2, Z6.set v4.toNat (wr Z2 0 ((Qb6 r7))) = Z3, ((Qb6 r7)).length = 4, 0 + ((Qb6 r7)).length ≤ Z2.length, Z6.length = Z3.length, Qab [(1, 1)] Z3] ⟨(Qcw Qty), c5, (rd0 hx6), (rdM Qty hx6), (Qyt hr7), rfl, (rd0 hx8), (rdL Qb6 hx8), (rdM Qb6 hx8), (Qo1 Qb6), rfl, leB, lnq, (rok (Qa8 Xg5)), trivial⟩ (ih (a3.set v4.toNat r7) (w64 (v4 + 1)) _ h))
  ·obtain rfl := sj h
   exact gR hP hn [hO 2 Z0, hF 4] [] .own [AV.lit (.int .i64 Z4) = Z0, Z5 = false, Qa1 (Z6.take Z6.length) = true, Z6.take Z6.length = Z6, Qa3 Z6 = true] ⟨(Qcw Qty), c9, (Qb2 Xg5), Qb1, (Qa7 Xk7), trivial⟩
noncomputable def Qj6 (p1 : (List GOp)) : Option (List GOp) :=
 Option.bind (mk (GOp.mk 0 0 0 0) (p1.length : Int)) fun l2 =>
 Qgf p1 FU l2 0
theorem Qxs {p1 : (List GOp)} {r : (List GOp)} (h : Qj6 p1 = some r) : Qa5 Tryz.prog 125 [(AV.ro 4 (p1.map Qty))] (AV.own 144 4 (r.map Qb6)) := by
 refine gM Tryz.func125 23 Xdu fun E hP hn hx => ?_
 unfold Qj6 at h
 obtain ⟨l2, hl2, h⟩ := bnS h
 exact (let Z0 := (p1.length : Int); let Z1 := l2.map Qb6; let Z2 := AV.sl 1001 0 Z1.length; gT hP hn hx [hO 2 (I Z0), ⟨3, .nw 1001 Z1, some Z2⟩] [(1001, 1)] [0, 3, 4] [] [AV.lit (.int .i64 (((p1.map Qty).length : Nat) : Int)) = (I Z0), List.replicate Z0.toNat [.lit (.int .i64 0), .lit (.int .i64 0), .lit (.int .i64 0), .lit (.float .f64 0)] = Z1, AV.sl 1001 0 Z0.toNat = Z2, Z0 = Z0, (0 : Int) ≤ Z0, Z0 * ((32 : Nat) : Int) ≤ 140737488355328, Z0 ≤ 140737488355328, Qab [(1001, 1)] Z1] ⟨(Qcw Qty), (mkM Qb6 hl2), (mkS Qb6 hl2), rfl, (mk0 hl2), (mkB hl2 (by decide)), (mkC hl2), (rok (Qa8 Xg5)), trivial⟩ (Qts hP hn hx p1 FU l2 0 _ h))
noncomputable def Xgz : Code := match Tryz.f61.body with | some c => c | none => .skip
noncomputable def Qfq  (p1 : (List (List GOp))) : Nat → (List (List GOp)) → Int → Option (List (List GOp))
 | 0, _, _ => none
 | n + 1, a3, v4 =>
 if (decide (v4 < (p1.length : Int))) = true then
  Option.bind (rd p1 v4) fun x6 =>
  Option.bind (Qj6 x6) fun r7 =>
  Option.bind (rd a3 v4) fun x8 =>
  Qfq p1 n (a3.set (Int.toNat v4) r7) (w64 (v4 + 1))
 else
  some a3
theorem Qrh {E : Env} (hP : E.P = Tryz.prog) (hn : E.n = 23) (hx : FX E []) (p1 : (List (List GOp)))  : ∀ (n : Nat) (a3 : (List (List GOp))) (v4 : Int) (r : (List (List GOp))), Qfq p1 n a3 v4 = some r → WAt E Xgz (FQ (Qf3 Θ Tryz.f61.results.toList [] [] (AV.own 141 1 (r.map Qis)) E)) [true, true, false, true, false] ⟨[(0, (AV.ro 1 (p1.map Qqw))), (3, (AV.sl 1 0 (List.length (a3.map Qis)))), (4, (I v4))], [(1, some ⟨141, 1, (a3.map Qis)⟩)], [1, JJ]⟩ := by
 intro n
 induction n with
 | zero => intro a3 v4 r h; simp only [Qfq] at h; cases h
 | succ n ih =>
  intro a3 v4 r h
  simp only [Qfq] at h
  let Z0 := (I (p1.length : Int)); let Z4 := a3.map Qis; let Z8 := (((p1.map Qqw).length : Nat) : Int); let Z9 := (decide (v4 < (p1.length : Int)))
  rcases itS h with ⟨c5, h⟩ | ⟨c9, h⟩
  ·obtain ⟨x6, hx6, h⟩ := bnS h
   obtain ⟨r7, hr7, h⟩ := bnS h
   obtain ⟨x8, hx8, h⟩ := bnS h
   exact (let Z1 := r7.map Qb6; let Z2 := AV.own 144 4 Z1; let Z3 := [(AV.own 144 4 (x8.map Qb6))]; let Z5 := AV.sl 1001 0 Z1.length; let Z6 := Z4.set v4.toNat [Z5]; let Z7 := (a3.set v4.toNat r7).map Qis; gT hP hn hx [hO 2 Z0, hT 4, hh 9 (.row (Qqw x6)), hh 11 (.call [] Z2 [1001]), hh 13 (.sto Z3 Z6), hh 14 (.pack 1 1001 v4.toNat 0 [Z5] Z7), hh 17 (.slen 3 Z7.length)] [(1, 1)] [0, 3, 4] [] [AV.lit (.int .i64 Z8) = Z0, Z9 = true, (0 : Int) ≤ v4, (p1.map Qqw)[v4.toNat]? = some (Qqw x6), Qa5 Tryz.prog 125 [(AV.ro 4 (x6.map Qty))] Z2, Qca Z2 = true, (0 : Int) ≤ v4, v4 < ((Z4.length : Nat) : Int), Z4[v4.toNat]? = some Z3, Z4.set v4.toNat (wr Z3 0 [Z5]) = Z6, [Z5].length = 1, 0 + [Z5].length ≤ Z3.length, Z6[v4.toNat]? = some [Z5], [Z5][0]? = some Z5, Qa1 Z1 = true, Z6.set v4.toNat ([Z5].set 0 Z2) = Z7, Z4.length = Z7.length, Qab [(1, 1)] Z7] ⟨(Qcw Qqw), c5, (rd0 hx6), (rdM Qqw hx6), (Qxs hr7), (by simp +zetaDelta only [Qca, Qbi, Qa7 Xk7, Bool.and_self]), (rd0 hx8), (rdL Qis hx8), (rdM Qis hx8), rfl, rfl, leB, (Qd6 (rdM Qis hx8)), rfl, (Qa8 Xg5), (setP Qis), lnq, (rok (Qa8 Qyh)), trivial⟩ (ih (a3.set v4.toNat r7) (w64 (v4 + 1)) _ h))
  ·obtain rfl := sj h
   exact gR hP hn [hO 2 Z0, hF 4] [] .own [AV.lit (.int .i64 Z8) = Z0, Z9 = false, Qa1 (Z4.take Z4.length) = true, Z4.take Z4.length = Z4, Qa3 Z4 = true] ⟨(Qcw Qqw), c9, (Qb2 Qyh), Qb1, (Qa7 Xcr), trivial⟩
noncomputable def Qk2 (p1 : (List (List GOp))) : Option (List (List GOp)) :=
 Option.bind (mk [] (p1.length : Int)) fun l2 =>
 Qfq p1 FU l2 0
theorem Qvw {p1 : (List (List GOp))} {r : (List (List GOp))} (h : Qk2 p1 = some r) : Qa5 Tryz.prog 61 [(AV.ro 1 (p1.map Qqw))] (AV.own 141 1 (r.map Qis)) := by
 refine gM Tryz.func61 23 Xgz fun E hP hn hx => ?_
 unfold Qk2 at h
 obtain ⟨l2, hl2, h⟩ := bnS h
 exact (let Z0 := (p1.length : Int); let Z1 := l2.map Qis; let Z2 := AV.sl 1001 0 Z1.length; gT hP hn hx [hO 2 (I Z0), ⟨3, .nw 1001 (List.replicate Z0.toNat [AV.lit (.slice none 0 0)]), some Z2⟩, hh 4 (.own0 1001 Z0.toNat [] [] 144 4 Z1)] [(1001, 1)] [0, 3, 4] [] [AV.lit (.int .i64 (((p1.map Qqw).length : Nat) : Int)) = (I Z0), List.replicate Z0.toNat [.lit (.slice none 0 0)] = (List.replicate Z0.toNat [AV.lit (.slice none 0 0)]), AV.sl 1001 0 Z0.toNat = Z2, Z0 = Z0, (0 : Int) ≤ Z0, Z0 * ((24 : Nat) : Int) ≤ 140737488355328, Z0 ≤ 140737488355328, (List.replicate Z0.toNat [AV.lit (.slice none 0 0)]) = List.replicate Z0.toNat ([] ++ AV.lit (.slice none 0 0) :: []), List.replicate Z0.toNat ([] ++ AV.own 144 4 [] :: []) = Z1, Qab [(1001, 1)] Z1] ⟨(Qcw Qqw), rfl, (mkS Qis hl2), rfl, (mk0 hl2), (mkB hl2 (by decide)), (mkC hl2), rfl, (mkM Qis hl2), (rok (Qa8 Qyh)), trivial⟩ (Qrh hP hn hx p1 FU l2 0 _ h))
noncomputable def Xk4 : Code := match Tryz.f15.body with | some c => c | none => .skip
noncomputable def Qfw (p1 : Qaf) : Option Qaf :=
 Option.bind (Qk2 p1.Routines) fun r2 =>
 some (Qaf.mk p1.Cells p1.Locks p1.Conds r2)
theorem Qix {p1 : Qaf} {r : Qaf} (h : Qfw p1 = some r) : Qa5 Tryz.prog 15 [(AV.agg ((r24 p1)))] (AV.agg (o34 r)) := by
 refine gM Tryz.func15 18 Xk4 fun E hP hn hx => ?_
 unfold Qfw at h
 obtain ⟨r2, hr2, h⟩ := bnS h
 obtain rfl := sj h
 exact (let Z0 := r2.map Qis; let Z1 := AV.own 141 1 Z0; gR hP hn [hW 0 1001, hW 1 1002, hW 2 1003, hh 17 (.call [] Z1 [1004])] [] (.agg [.raw, .raw, .raw, .own]) [Qa5 Tryz.prog 61 [(AV.ro 1 (p1.Routines.map Qqw))] Z1, Qca Z1 = true, (I p1.Cells) = (I p1.Cells), Qa4 (I p1.Cells) = true, (I p1.Locks) = (I p1.Locks), Qa4 (I p1.Locks) = true, (I p1.Conds) = (I p1.Conds), Qa4 (I p1.Conds) = true, Qa1 (Z0.take Z0.length) = true, Z0.take Z0.length = Z0, Qa3 Z0 = true] ⟨(Qvw hr2), (by simp +zetaDelta only [Qca, Qbi, Qa7 Xcr, Bool.and_self]), rfl, rfl, rfl, rfl, rfl, rfl, (Qb2 Qyh), Qb1, (Qa7 Xcr), trivial⟩)
noncomputable def Xky : Code := match Tryz.f44.body with | some c => c | none => .skip
noncomputable def Qdm (p1 : Int) (p2 : Int) (p3 : Int) : Option Bool :=
 if (decide (p1 ≥ p2)) = true then
  some (decide (p1 ≤ p3))
 else
  some false
theorem Qdq {p1 : Int} {p2 : Int} {p3 : Int} {r : Bool} (h : Qdm p1 p2 p3 = some r) : Qa5 Tryz.prog 44 [(I p1), (I p2), (I p3)] (B r) := by
 refine gM Tryz.func44 15 Xky fun E hP hn hx => ?_
 unfold Qdm at h
 let Z0 := B (decide (p1 ≥ p2)); let Z1 := B (decide (p1 ≤ p3)); let Z2 := B false
 rcases itS h with ⟨c4, h⟩ | ⟨c5, h⟩
 ·obtain rfl := sj h
  exact gR hP hn [hO 4 (B true)] [] .raw [Z0 = (B true), Z1 = Z1, Qa4 Z1 = true] ⟨(Qb7 c4), rfl, rfl, trivial⟩
 ·obtain rfl := sj h
  exact gR hP hn [hO 4 Z2] [] .raw [Z0 = Z2, Z2 = Z2, Qa4 Z2 = true] ⟨(Qb7 c5), rfl, rfl, trivial⟩
noncomputable def Xj9 : Code := match Tryz.f207.body with | some c => c | none => .skip
noncomputable def Qdh (p1 : Nat) : Option Bool :=
 if ((Qc2 p1 0) == some .lt) = true then
  some true
 else
  if ((Qc2 p1 0) == some .eq) = true then
   some ((Qc2 (fdv 4607182418800017408 p1) 0) == some .lt)
  else
   some false
theorem Qo6 {p1 : Nat} {r : Bool} (h : Qdh p1 = some r) : Qa5 Tryz.prog 207 [(FK p1)] (B r) := by
 refine gM Tryz.func207 14 Xj9 fun E hP hn hx => ?_
 unfold Qdh at h
 let Z0 := Qc2 p1 0; let Z1 := B true; let Z2 := B false; let Z3 := fdv 4607182418800017408 p1; let Z4 := Qc2 Z3 0
 let H1 : List Hn := [hh 2 (.bin (B (Z0 == some .lt)))]
 let P2 : List Prop := [Qfu Tryz.prog .lss 142 (FK p1) (FK 0) (B (Z0 == some .lt))]
 have AP2 : Qal P2 := ⟨Xgi, trivial⟩
 rcases itS h with ⟨c2, h⟩ | ⟨c3, h⟩
 ·obtain rfl := sj h
  exact gR hP hn (H1 ++ [hO 3 Z1]) [] .raw (P2 ++ [(B (Z0 == some .lt)) = Z1, Z1 = Z1, Qa4 Z1 = true]) (Qa9 AP2 ⟨(Qb7 c2), rfl, rfl, trivial⟩)
 ·let P3 : List Prop := P2 ++ [(B (Z0 == some .lt)) = Z2, Qfu Tryz.prog .eql 142 (FK p1) (FK 0) (B (Z0 == some .eq))]
  have AP3 : Qal P3 := Qa9 AP2 ⟨(Qb7 c3), Xd5, trivial⟩
  rcases itS h with ⟨c4, h⟩ | ⟨c5, h⟩
  ·obtain rfl := sj h
   exact gR hP hn (H1 ++ [hO 3 Z2, hh 5 (.bin (B (Z0 == some .eq))), hO 6 Z1, hh 8 (.bin (FK Z3)), hh 9 (.bin (B (Z4 == some .lt)))]) [] .raw (P3 ++ [(B (Z0 == some .eq)) = Z1, Qfu Tryz.prog .quo 142 (FK 4607182418800017408) (FK p1) (FK Z3), Qfu Tryz.prog .lss 142 (FK Z3) (FK 0) (B (Z4 == some .lt)), (B (Z4 == some .lt)) = (B (Z4 == some .lt)), Qa4 (B (Z4 == some .lt)) = true]) (Qa9 AP3 ⟨(Qb7 c4), Xk1, Xgi, rfl, rfl, trivial⟩)
  ·obtain rfl := sj h
   exact gR hP hn (H1 ++ [hO 3 Z2, hh 5 (.bin (B (Z0 == some .eq))), hO 6 Z2]) [] .raw (P3 ++ [(B (Z0 == some .eq)) = Z2, Z2 = Z2, Qa4 Z2 = true]) (Qa9 AP3 ⟨(Qb7 c5), rfl, rfl, trivial⟩)
noncomputable def Xif : Code := match Tryz.f180.body with | some c => c | none => .skip
noncomputable def Qe1 (p1 : Nat) : Option Bool :=
 some ((Qc2 p1 p1) != some .eq)
theorem Qeb {p1 : Nat} {r : Bool} (h : Qe1 p1 = some r) : Qa5 Tryz.prog 180 [(FK p1)] (B r) := by
 refine gM Tryz.func180 6 Xif fun E hP hn hx => ?_
 unfold Qe1 at h
 obtain rfl := sj h
 exact (let Z0 := Qc2 p1 p1; gR hP hn [hh 3 (.bin (B (Z0 != some .eq)))] [] .raw [Qfu Tryz.prog .neq 142 (FK p1) (FK p1) (B (Z0 != some .eq)), (B (Z0 != some .eq)) = (B (Z0 != some .eq)), Qa4 (B (Z0 != some .eq)) = true] ⟨Xem, rfl, rfl, trivial⟩)
noncomputable def Xda : Code := match Tryz.f191.body with | some c => c | none => .skip
noncomputable def Qey  (p1 : Nat) (p2 : Nat)  : Option Bool :=
 if ((Qc2 p1 p2) == some .eq) = true then
  Option.bind (Qdh p1) fun r18 =>
  Option.bind (Qdh p2) fun r19 =>
  some (r18 == r19)
 else
  some false
theorem Qp2 {E : Env} (hP : E.P = Tryz.prog) (hn : E.n = 27) (hx : FX E []) (p1 : Nat) (p2 : Nat)   (r : Bool) (h : Qey p1 p2  = some r) : WAt E Xda (FQ (Qf3 Θ Tryz.f191.results.toList [] [] (B r) E)) [true, false, true, true] ⟨[(0, (FK p1)), (1, (FK p2))], [], [JJ]⟩ := by
 unfold Qey at h
 let Z0 := Qc2 p1 p2; let Z2 := B false
 rcases itS h with ⟨c17, h⟩ | ⟨c20, h⟩
 ·obtain ⟨r18, hr18, h⟩ := bnS h
  obtain ⟨r19, hr19, h⟩ := bnS h
  obtain rfl := sj h
  exact (let Z1 := B (r18 == r19); gR hP hn [hh 2 (.bin (B (Z0 == some .eq))), hO 3 (B true), hh 5 (.callV [] (B r18)), hh 7 (.callV [] (B r19))] [] .raw [Qfu Tryz.prog .eql 142 (FK p1) (FK p2) (B (Z0 == some .eq)), (B (Z0 == some .eq)) = (B true), Qa5 Tryz.prog 207 [(FK p1)] (B r18), Qa4 (B r18) = true, Qa5 Tryz.prog 207 [(FK p2)] (B r19), Qa4 (B r19) = true, Z1 = Z1, Qa4 Z1 = true] ⟨Xd5, (Qb7 c17), (Qo6 hr18), rfl, (Qo6 hr19), rfl, rfl, rfl, trivial⟩)
 ·obtain rfl := sj h
  exact gR hP hn [hh 2 (.bin (B (Z0 == some .eq))), hO 3 Z2] [] .raw [Qfu Tryz.prog .eql 142 (FK p1) (FK p2) (B (Z0 == some .eq)), (B (Z0 == some .eq)) = Z2, Z2 = Z2, Qa4 Z2 = true] ⟨Xd5, (Qb7 c20), rfl, rfl, trivial⟩
noncomputable def Qcr (p1 : Nat) (p2 : Nat) : Option Bool :=
 Option.bind (Qe1 p1) fun r3 =>
 if r3 = true then
  Option.bind (Qe1 p1) fun r5 =>
  if r5 = true then
   Option.bind (Qe1 p2) fun r7 =>
   some r7
  else
   some false
 else
  Option.bind (Qe1 p2) fun r10 =>
  if r10 = true then
   Option.bind (Qe1 p1) fun r12 =>
   if r12 = true then
    Option.bind (Qe1 p2) fun r14 =>
    some r14
   else
    some false
  else
   Qey p1 p2
theorem Qlq {p1 : Nat} {p2 : Nat} {r : Bool} (h : Qcr p1 p2 = some r) : Qa5 Tryz.prog 191 [(FK p1), (FK p2)] (B r) := by
 refine gM Tryz.func191 27 Xda fun E hP hn hx => ?_
 unfold Qcr at h
 obtain ⟨r3, hr3, h⟩ := bnS h
 let Z0 := B true; let Z1 := B false
 let H1 : List Hn := [hh 2 (.callV [] (B r3))]
 let P2 : List Prop := [Qa5 Tryz.prog 180 [(FK p1)] (B r3), Qa4 (B r3) = true]
 have AP2 : Qal P2 := ⟨(Qeb hr3), rfl, trivial⟩
 rcases itS h with ⟨c4, h⟩ | ⟨c9, h⟩
 ·obtain ⟨r5, hr5, h⟩ := bnS h
  let P3 : List Prop := P2 ++ [(B r3) = Z0, Qa5 Tryz.prog 180 [(FK p1)] (B r5), Qa4 (B r5) = true]
  have AP3 : Qal P3 := Qa9 AP2 ⟨(Qb7 c4), (Qeb hr5), rfl, trivial⟩
  rcases itS h with ⟨c6, h⟩ | ⟨c8, h⟩
  ·obtain ⟨r7, hr7, h⟩ := bnS h
   obtain rfl := sj h
   exact gR hP hn (H1 ++ [hO 3 Z0, hh 9 (.callV [] (B r5)), hO 10 Z0, hh 12 (.callV [] (B r7))]) [] .raw (P3 ++ [(B r5) = Z0, Qa5 Tryz.prog 180 [(FK p2)] (B r7), Qa4 (B r7) = true, (B r7) = (B r7), Qa4 (B r7) = true]) (Qa9 AP3 ⟨(Qb7 c6), (Qeb hr7), rfl, rfl, rfl, trivial⟩)
  ·obtain rfl := sj h
   exact gR hP hn (H1 ++ [hO 3 Z0, hh 9 (.callV [] (B r5)), hO 10 Z1]) [] .raw (P3 ++ [(B r5) = Z1, Z1 = Z1, Qa4 Z1 = true]) (Qa9 AP3 ⟨(Qb7 c8), rfl, rfl, trivial⟩)
 ·obtain ⟨r10, hr10, h⟩ := bnS h
  let H4 : List Hn := H1 ++ [hO 3 Z1, hh 5 (.callV [] (B r10))]
  let P5 : List Prop := P2 ++ [(B r3) = Z1, Qa5 Tryz.prog 180 [(FK p2)] (B r10), Qa4 (B r10) = true]
  have AP5 : Qal P5 := Qa9 AP2 ⟨(Qb7 c9), (Qeb hr10), rfl, trivial⟩
  rcases itS h with ⟨c11, h⟩ | ⟨c16, h⟩
  ·obtain ⟨r12, hr12, h⟩ := bnS h
   let Z2 := B r12
   rcases itS h with ⟨c13, h⟩ | ⟨c15, h⟩
   ·obtain ⟨r14, hr14, h⟩ := bnS h
    obtain rfl := sj h
    exact gR hP hn (H4 ++ [hT 7, hh 9 (.callV [] Z2), hO 10 Z0, hh 12 (.callV [] (B r14))]) [] .raw (P5 ++ [r10 = true, Qa5 Tryz.prog 180 [(FK p1)] Z2, Qa4 Z2 = true, Z2 = Z0, Qa5 Tryz.prog 180 [(FK p2)] (B r14), Qa4 (B r14) = true, (B r14) = (B r14), Qa4 (B r14) = true]) (Qa9 AP5 ⟨c11, (Qeb hr12), rfl, (Qb7 c13), (Qeb hr14), rfl, rfl, rfl, trivial⟩)
   ·obtain rfl := sj h
    exact gR hP hn (H4 ++ [hT 7, hh 9 (.callV [] Z2), hO 10 Z1]) [] .raw (P5 ++ [r10 = true, Qa5 Tryz.prog 180 [(FK p1)] Z2, Qa4 Z2 = true, Z2 = Z1, Z1 = Z1, Qa4 Z1 = true]) (Qa9 AP5 ⟨c11, (Qeb hr12), rfl, (Qb7 c15), rfl, rfl, trivial⟩)
  ·exact gT hP hn hx (H4 ++ [hF 7]) [] [0, 1] [] (P5 ++ [r10 = false]) (Qa9 AP5 ⟨c16, trivial⟩) (Qp2 hP hn hx p1 p2  _ h)
noncomputable def Xck : Code := match Tryz.f190.body with | some c => c | none => .skip
noncomputable def Qbl  (p1 : Int) (v5 : Bool) : Option Str :=
 if v5 = true then
  some [97]
 else
  if (p1 == 16) = true then
   some [97, 98]
  else
   some []
theorem Qci {E : Env} (hP : E.P = Tryz.prog) (hn : E.n = 17) (hx : FX E []) (p1 : Int)  (v5 : Bool) (r : Str) (h : Qbl p1 v5 = some r) : WAt E Xck (FQ (Qf3 Θ Tryz.f190.results.toList [] [] (SK r) E)) [true, false, true, false, true, true, true] ⟨[(3, (I p1)), (6, (B v5))], [], [JJ]⟩ := by
 unfold Qbl at h
 rcases itS h with ⟨c6, h⟩ | ⟨c7, h⟩
 ·obtain rfl := sj h
  exact gR hP hn [hT 0] [] .raw [v5 = true, (SK [97]) = (SK [97]), Qa4 (SK [97]) = true] ⟨c6, rfl, rfl, trivial⟩
 ·rcases itS h with ⟨c8, h⟩ | ⟨c9, h⟩
  ·obtain rfl := sj h
   exact gR hP hn [hF 0, hT 3] [] .raw [v5 = false, (p1 == 16) = true, (SK [97, 98]) = (SK [97, 98]), Qa4 (SK [97, 98]) = true] ⟨c7, c8, rfl, rfl, trivial⟩
  ·obtain rfl := sj h
   exact gR hP hn [hF 0, hF 3] [] .raw [v5 = false, (p1 == 16) = false, (SK []) = (SK []), Qa4 (SK []) = true] ⟨c7, c9, rfl, rfl, trivial⟩
noncomputable def Qgw (p1 : Int) : Option Str :=
 if (p1 == 1) = true then
  some [118]
 else
  if (p1 == 2) = true then
   Qbl p1 (p1 == 2)
  else
   if (p1 == 3) = true then
    Qbl p1 (p1 == 3)
   else
    if (p1 == 10) = true then
     Qbl p1 (p1 == 10)
    else
     if (p1 == 11) = true then
      Qbl p1 (p1 == 11)
     else
      if (p1 == 12) = true then
       Qbl p1 (p1 == 12)
      else
       if (p1 == 13) = true then
        Qbl p1 (p1 == 13)
       else
        if (p1 == 14) = true then
         Qbl p1 (p1 == 14)
        else
         Qbl p1 (p1 == 17)
theorem Qvc {p1 : Int} {r : Str} (h : Qgw p1 = some r) : Qa5 Tryz.prog 190 [(I p1)] (SK r) := by
 refine gM Tryz.func190 17 Xck fun E hP hn hx => ?_
 unfold Qgw at h
 let Z0 := p1 == 11; let Z1 := p1 == 12
 rcases itS h with ⟨c2, h⟩ | ⟨c3, h⟩
 ·obtain rfl := sj h
  exact gR hP hn [hT 4] [] .raw [(p1 == 1) = true, (SK [118]) = (SK [118]), Qa4 (SK [118]) = true] ⟨c2, rfl, rfl, trivial⟩
 ·let P1 : List Prop := [(p1 == 1) = false]
  have AP1 : Qal P1 := ⟨c3, trivial⟩
  rcases itS h with ⟨c4, h⟩ | ⟨c10, h⟩
  ·exact gT hP hn hx [hF 4, hT 7] [] [3, 6] [] (P1 ++ [(p1 == 2) = true]) (Qa9 AP1 ⟨c4, trivial⟩) (Qci hP hn hx p1 (p1 == 2) _ h)
  ·let P2 : List Prop := P1 ++ [(p1 == 2) = false]
   have AP2 : Qal P2 := Qa9 AP1 ⟨c10, trivial⟩
   rcases itS h with ⟨c11, h⟩ | ⟨c12, h⟩
   ·exact gT hP hn hx [hF 4, hF 7, hT 10] [] [3, 6] [] (P2 ++ [(p1 == 3) = true]) (Qa9 AP2 ⟨c11, trivial⟩) (Qci hP hn hx p1 (p1 == 3) _ h)
   ·let H3 : List Hn := [hF 4, hF 7, hF 10]
    rcases itS h with ⟨c13, h⟩ | ⟨c14, h⟩
    ·exact gT hP hn hx (H3 ++ [hT 13]) [] [3, 6] [] (P2 ++ [(p1 == 3) = false, (p1 == 10) = true]) (Qa9 AP2 ⟨c12, c13, trivial⟩) (Qci hP hn hx p1 (p1 == 10) _ h)
    ·let P4 : List Prop := P2 ++ [(p1 == 3) = false, (p1 == 10) = false]
     have AP4 : Qal P4 := Qa9 AP2 ⟨c12, c14, trivial⟩
     rcases itS h with ⟨c15, h⟩ | ⟨c16, h⟩
     ·exact gT hP hn hx (H3 ++ [hF 13, hT 16]) [] [3, 6] [] (P4 ++ [Z0 = true]) (Qa9 AP4 ⟨c15, trivial⟩) (Qci hP hn hx p1 (p1 == 11) _ h)
     ·rcases itS h with ⟨c17, h⟩ | ⟨c18, h⟩
      ·exact gT hP hn hx (H3 ++ [hF 13, hF 16, hT 19]) [] [3, 6] [] (P4 ++ [Z0 = false, Z1 = true]) (Qa9 AP4 ⟨c16, c17, trivial⟩) (Qci hP hn hx p1 (p1 == 12) _ h)
      ·rcases itS h with ⟨c19, h⟩ | ⟨c20, h⟩
       ·exact gT hP hn hx (H3 ++ [hF 13, hF 16, hF 19, hT 22]) [] [3, 6] [] (P4 ++ [Z0 = false, Z1 = false, (p1 == 13) = true]) (Qa9 AP4 ⟨c16, c18, c19, trivial⟩) (Qci hP hn hx p1 (p1 == 13) _ h)
       ·rcases itS h with ⟨c21, h⟩ | ⟨c22, h⟩
        ·exact gT hP hn hx (H3 ++ [hF 13, hF 16, hF 19, hF 22, hT 25]) [] [3, 6] [] (P4 ++ [Z0 = false, Z1 = false, (p1 == 13) = false, (p1 == 14) = true]) (Qa9 AP4 ⟨c16, c18, c20, c21, trivial⟩) (Qci hP hn hx p1 (p1 == 14) _ h)
        ·exact gT hP hn hx (H3 ++ [hF 13, hF 16, hF 19, hF 22, hF 25]) [] [3, 6] [] (P4 ++ [Z0 = false, Z1 = false, (p1 == 13) = false, (p1 == 14) = false]) (Qa9 AP4 ⟨c16, c18, c20, c22, trivial⟩) (Qci hP hn hx p1 (p1 == 17) _ h)
end Go.Proofs.YtjcaompblpglcaaGreat
