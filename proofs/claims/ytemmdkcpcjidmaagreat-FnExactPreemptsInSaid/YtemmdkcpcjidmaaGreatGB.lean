/- Functions as plain data, and that the code comes to them; no condition. -/

import Derived.Test.YtemmdkcpcjidmaaGreatGA
set_option linter.unusedVariables false
set_option maxRecDepth 100000
namespace Go.Proofs.YtemmdkcpcjidmaaGreat
open Go Go.T
noncomputable def Xdf:Code:=match Tryz.f91.body with | some c=>c | none=>.skip
noncomputable def Qbv (p1:Qa1) (p2:Qaf) (p3:Int) : Option (Qaa×Qa1):=
 Option.bind (rd p1.Threads p3) fun x4 =>
 Option.bind (Qcv p2 (Qa0.mk x4.Routine x4.Pc x4.State x4.Cond x4.Lock x4.Stack)) fun r5 =>
 if (x4.State == 4)=true then
  Option.bind (rd p1.Owner x4.Lock) fun x7 =>
  Option.bind (Qcr r5.2) fun r8 =>
  some ((Qaa.mk p3 9 x4.Cond x4.Lock x4.Pc),(Qa1.mk (p1.Threads.set (Int.toNat p3) (Qa0.mk x4.Routine (w64 (x4.Pc+r8)) 1 (-1) (-1) x4.Stack)) p1.Cells (p1.Owner.set (Int.toNat x4.Lock) p3) p1.Fault))
 else
  if (!r5.2)=true then
   some ((Qaa.mk p3 11 (-1) (-1) x4.Pc),(Qa1.mk (p1.Threads.set (Int.toNat p3) (Qa0.mk x4.Routine x4.Pc 2 x4.Cond x4.Lock x4.Stack)) p1.Cells p1.Owner p1.Fault))
  else
   Option.bind (Qc0 (Qa1.mk p1.Threads p1.Cells p1.Owner p1.Fault) p3 r5.1) fun r12 =>
   if (r12 != 0)=true then
    some ((Qaa.mk p3 12 r12 (-1) x4.Pc),(Qa1.mk p1.Threads p1.Cells p1.Owner r12))
   else
    Option.bind (Qaw (Qa1.mk p1.Threads p1.Cells p1.Owner p1.Fault) p3 r5.1 (Qaa.mk p3 1 (-1) (-1) x4.Pc)) fun r15 =>
    some (r15.1,r15.2)
theorem Qsr {p1:Qa1} {p2:Qaf} {p3:Int} {r:(Qaa×Qa1)} (h:Qbv p1 p2 p3=some r) : Qo1 Tryz.prog 91 [⟨44,4,[(o44 p1)]⟩] [(AV.ptr 0 0 0),(AV.agg ((r39 p2))),(I p3)] [true] [⟨44,4,[(o44 r.2)]⟩] (AV.agg (o60 r.1)):=by
 refine Qlv Xbu Tryz.func91 rfl (c:=Xdf) (by kernel_rfl) (Nat.le_of_ble_eq_true rfl) rfl (Nat.le_of_ble_eq_true rfl) rfl (fr:=[0]) (frI rfl) ?_
 intro E hP hn hx
 replace hn:E.n=105:=hn
 unfold Qbv at h
 obtain ⟨x4,hx4,h⟩:=bnS h
 obtain ⟨r5,hr5,h⟩:=bnS h
 let Z0:=o44 p1;let Z1:=p1.Threads.map o70;let Z2:=AV.sl 1003 0 Z1.length;let Z3:=AV.own 132 1 (p1.Cells.map Qae);let Z4:=p1.Owner.map o3;let Z5:=AV.own 3 1 Z4;let Z6:=I p1.Fault;let Z7:=[Z2,Z3,Z5,Z6];let Z8:=o70 x4;let Z9:=I x4.Routine;let Z10:=I x4.Pc;let Z11:=I x4.Cond;let Z12:=I x4.Lock;let Z13:=x4.Stack.map Qae;let Z14:=AV.own 132 1 Z13;let Z15:=[Z9,Z10,(I x4.State),Z11,Z12,Z14];let Z16:=AV.sl 1005 0 Z13.length;let Z17:=[Z9,Z10,(I x4.State),Z11,Z12,Z16];let Z18:=Z1.set p3.toNat Z17;let Z19:=B r5.2;let Z20:=AV.tup [(AV.agg (Qbj r5.1)),Z19];let Z21:=AV.own 70 6 Z1;let Z22:=AV.agg ((r39 p2));let Z23:=AV.ptr 1003 p3.toNat 0;let Z24:=AV.agg Z17;let Z25:=AV.agg ((Qbj r5.1));let Z26:=AV.tup [Z25,Z19];let Z27:=[Z22,(AV.agg [Z9,Z10,(I x4.State),Z11,Z12,(AV.ro 1 Z13)])];let Z28:=(Z13.drop 0).take Z13.length;let Z29:=([(1006,(Qas.mk 156 4 [[(I 0),(I 0),(I 0),(FK 0)]]))].map sm);let Z30:=Qas.mk 156 4 [((Qbj r5.1))];let Z31:=AV.sl 1003 0 Z18.length;let Z32:=[Z31,Z3,Z5,Z6];let Z33:=AV.sl 1007 0 Z4.length;let Z34:=[Z31,Z3,Z33,Z6];let Z35:=p1.Owner.set x4.Lock.toNat p3;let Z36:=Z35.map o3;let Z37:=(p1.Threads.set p3.toNat (Qa0.mk x4.Routine x4.Pc 1 x4.Cond x4.Lock x4.Stack)).map o70;let Z38:=[Z9,Z10,(I 1),Z11,Z12,Z14];let Z39:=(p1.Threads.set p3.toNat (Qa0.mk x4.Routine x4.Pc 1 (-1) x4.Lock x4.Stack)).map o70;let Z40:=I (-1);let Z41:=[Z9,Z10,(I 1),Z40,Z12,Z14];let Z42:=(p1.Threads.set p3.toNat (Qa0.mk x4.Routine x4.Pc 1 (-1) (-1) x4.Stack)).map o70;let Z43:=[Z9,Z10,(I 1),Z40,Z40,Z14];let Z49:=x4.State == 4;let Z50:=AV.ptr 1003 p3.toNat 3;let Z51:=AV.ptr 1003 p3.toNat 4;let Z52:=Qas.mk 60 5 [[(I p3),(I 9),Z40,Z40,Z10]];let Z53:=Qas.mk 60 5 [[(I p3),(I 9),Z11,Z40,Z10]];let Z54:=Z17.set 5 Z14;let Z57:=AV.agg [(I p3),(I 9),Z11,Z12,Z10];let Z58:=Qa0.mk x4.Routine x4.Pc 1 (-1) (-1) x4.Stack;let Z60:=p1.Threads.set p3.toNat (Qa0.mk x4.Routine x4.Pc 2 x4.Cond x4.Lock x4.Stack);let Z61:=Z60.map o70;let Z62:=[[(AV.own 70 6 Z61),Z3,Z5,Z6]];let Z63:=o44 (Qa1.mk Z60 p1.Cells p1.Owner p1.Fault);let Z64:=AV.agg [(I p3),(I 11),Z40,Z40,Z10];let Z65:=Qa1.mk Z60 p1.Cells p1.Owner p1.Fault;let Z66:=[Z21,Z3,Z5,Z6];let Z67:=r44 (Qa1.mk p1.Threads p1.Cells p1.Owner p1.Fault);let Z68:=Qa1.mk p1.Threads p1.Cells p1.Owner p1.Fault;let Z72:=o44 (Qa1.mk p1.Threads p1.Cells p1.Owner p1.Fault)
 let H1:List Hn:=[hW 0 1001,hW 1 1002,hh 5 (.unpack 0 1003 0 0 Z0 70 6 Z1 [Z7]),hh 13 (.row Z8),hW 15 1004,hh 17 (.unpack 1003 1005 p3.toNat 5 Z15 132 1 Z13 Z18),hh 20 (.row Z17),hh 21 (.callV [[],[],Z13] Z20),hW 25 1006,hh 31 (.row Z17)]
 let P2:List Prop:=[[Z0][0]? = some Z0,Z0[0]? = some Z21,0<6,[Z0].set 0 (Z0.set 0 Z2)=[Z7],(0:Int)≤p3,p3<((Z1.length:Nat) : Int),Z1[p3.toNat]? = some Z8,Z1[p3.toNat]? = some Z15,Z15[5]? = some Z14,0<1,Z1.set p3.toNat (Z15.set 5 Z16)=Z18,Z22=Z22,Z22=Z22,Z23=Z23,Z23=Z23,Z23=Z23,Z23=Z23,Z24=Z24,Z18[p3.toNat]? = some Z17,Z24=Z24,Z18[p3.toNat]? = some Z17,Z26=Z26,Qa4 Tryz.prog 164 Z27 Z20,Qa3 Z20=true,Frz Z28 Z13,Z26=Z26,Qa4 Tryz.prog 164 Z27 Z20,Qa3 Z20=true,Frz Z28 Z13,Z26=Z26,Z26=Z26,Z25=Z25,Z25=Z25,Z19=Z19,Z19=Z19,Z19=Z19,(AV.ptr 1006 0 0)=(AV.ptr 1006 0 0),Z29=Z29,[(1006,some Z30)]=[(1006,some Z30)],Z18[p3.toNat]? = some Z17]
 have AP2:Qam P2:=⟨rfl,rfl,(by decide),rfl,(rd0 hx4),(rdL o70 hx4),(rdM o70 hx4),(rdM o70 hx4),rfl,(by decide),rfl,rfl,rfl,rfl,rfl,rfl,rfl,rfl,(Qcc (rdM o70 hx4)),rfl,(Qcc (rdM o70 hx4)),rfl,(Qe9 hr5),rfl,(Qfx Qbs Qqn),rfl,(Qe9 hr5),rfl,(Qfx Qbs Qqn),rfl,rfl,rfl,rfl,rfl,rfl,rfl,rfl,rfl,rfl,(Qcc (rdM o70 hx4)),trivial⟩
 rcases itS h with ⟨c6,h⟩ | ⟨c9,h⟩
 ·obtain ⟨x7,hx7,h⟩:=bnS h
  obtain ⟨r8,hr8,h⟩:=bnS h
  obtain rfl:=sj h
  exact (let Z44:=p1.Threads.set p3.toNat (Qa0.mk x4.Routine (w64 (x4.Pc+r8)) 1 (-1) (-1) x4.Stack);let Z45:=Z44.map o70;let Z46:=AV.own 70 6 Z45;let Z47:=[Z46,Z3,Z33,Z6];let Z48:=[[Z46,Z3,(AV.own 3 1 Z36),Z6]];let Z55:=[(I (w64 (x4.Pc+r8)))];let Z56:=o44 (Qa1.mk Z44 p1.Cells Z35 p1.Fault);let Z59:=Qa1.mk Z44 p1.Cells Z35 p1.Fault;gR hP hn (H1++[hT 34,hh 38 (.row Z17),hh 42 (.row Z17),hh 49 (.eqr 0 [Z32]),hh 49 (.unpack 0 1007 0 2 Z32 3 1 Z4 [Z34]),hh 56 (.row Z17),hh 59 (.sto [(I x7)] Z36),hh 65 (.pack 1003 1005 p3.toNat 5 Z17 Z1),hh 65 (.sto Z8 Z37),hh 68 (.sto Z38 Z39),hh 71 (.sto Z41 Z42),hh 75 (.row Z43),hh 77 (.callV [] (I r8)),hh 81 (.sto Z43 Z45),hh 84 (.pack 0 1003 0 0 Z34 [Z47]),hh 84 (.pack 0 1007 0 2 Z47 Z48)]) [] .raw (P2++[Z49=true,Z23=Z23,Z23=Z23,Z23=Z23,Z23=Z23,Z50=Z50,Z50=Z50,Z11=Z11,Z18[p3.toNat]? = some Z17,Z11=Z11,Z18[p3.toNat]? = some Z17,Z23=Z23,Z23=Z23,Z23=Z23,Z23=Z23,Z23=Z23,Z23=Z23,Z51=Z51,Z51=Z51,Z51=Z51,Z12=Z12,Z18[p3.toNat]? = some Z17,Z12=Z12,Z18[p3.toNat]? = some Z17,Z12=Z12,Z18[p3.toNat]? = some Z17,(AV.ptr 1004 0 1)=(AV.ptr 1004 0 1),[(1004,some Z52)]=[(1004,some Z52)],(AV.ptr 1004 0 2)=(AV.ptr 1004 0 2),[(1004,some Z53)]=[(1004,some Z53)],[Z7]=[Z32],[Z32][0]? = some Z32,Z32[2]? = some Z5,0<1,[Z32].set 0 (Z32.set 2 Z33)=[Z34],Z18[p3.toNat]? = some Z17,(0:Int)≤x4.Lock,x4.Lock<((Z4.length:Nat) : Int),Z4[x4.Lock.toNat]? = some [(I x7)],Z4.set x4.Lock.toNat (wr [(I x7)] 0 [(I p3)])=Z36,[(I p3)].length=1,0 + [(I p3)].length≤[(I x7)].length,Z18[p3.toNat]? = some Z17,Z17[5]? = some Z16,Qa2 Z13=true,Z18.set p3.toNat Z54=Z1,Z1[p3.toNat]? = some Z8,Z1.set p3.toNat (wr Z8 2 [(I 1)])=Z37,[(I 1)].length=1,2 + [(I 1)].length≤Z8.length,Z37[p3.toNat]? = some Z38,Z37.set p3.toNat (wr Z38 3 [Z40])=Z39,[Z40].length=1,3 + [Z40].length≤Z38.length,Z39[p3.toNat]? = some Z41,Z39.set p3.toNat (wr Z41 4 [Z40])=Z42,[Z40].length=1,4 + [Z40].length≤Z41.length,Z42[p3.toNat]? = some Z43,Qa4 Tryz.prog 157 [Z19] (I r8),Qa3 (I r8)=true,Z42[p3.toNat]? = some Z43,Z42.set p3.toNat (wr Z43 1 Z55)=Z45,Z55.length=1,1+Z55.length≤Z43.length,[Z34][0]? = some Z34,Z34[0]? = some (AV.sl 1003 0 Z45.length),Qa2 Z45=true,[Z34].set 0 (Z34.set 0 Z46)=[Z47],[Z47][0]? = some Z47,Z47[2]? = some (AV.sl 1007 0 Z36.length),Qa2 Z36=true,[Z47].set 0 (Z47.set 2 (AV.own 3 1 Z36))=Z48,Z48=[Z56],Qa2 [Z56]=true,Qa6 [Z56]=true,Z57=Z57,Qa3 Z57=true]) (Qa7 AP2 ⟨c6,rfl,rfl,rfl,rfl,rfl,rfl,rfl,(Qcc (rdM o70 hx4)),rfl,(Qcc (rdM o70 hx4)),rfl,rfl,rfl,rfl,rfl,rfl,rfl,rfl,rfl,rfl,(Qcc (rdM o70 hx4)),rfl,(Qcc (rdM o70 hx4)),rfl,(Qcc (rdM o70 hx4)),rfl,rfl,rfl,rfl,(congrArg (fun nn=>[[(AV.sl 1003 0 nn),Z3,Z5,(I p1.Fault)]]) (show Z1.length=Z18.length from lnq)),rfl,rfl,(by decide),rfl,(Qcc (rdM o70 hx4)),(rd0 hx7),(rdL o3 hx7),(rdM o3 hx7),(Qw5 o3),rfl,leB,(Qcc (rdM o70 hx4)),rfl,(Qab Qbs),(Xds o70 hx4),(rdM o70 hx4),(Qn5 o70),rfl,leB,(rdM o70 (rdS (y:=(Qa0.mk x4.Routine x4.Pc 1 x4.Cond x4.Lock x4.Stack)) hx4)),(Qhf o70),rfl,leB,(rdM o70 (rdS (y:=(Qa0.mk x4.Routine x4.Pc 1 (-1) x4.Lock x4.Stack)) hx4)),(Qhf o70),rfl,leB,(rdM o70 (rdS (y:=Z58) hx4)),(Qg8 hr8),rfl,(rdM o70 (rdS (y:=Z58) hx4)),(Qhf o70),rfl,leB,rfl,(pkS lnq),(Qab t70),rfl,rfl,(pkS lnq),(Qab t3),rfl,rfl,(Qai t44 Z59),(Qlt n44 Z59),rfl,rfl,trivial⟩))
 ·rcases itS h with ⟨c10,h⟩ | ⟨c11,h⟩
  ·obtain rfl:=sj h
   exact gR hP hn (H1++[hF 34,hT 38,hh 44 (.pack 1003 1005 p3.toNat 5 Z17 Z1),hh 44 (.sto Z8 Z61),hh 47 (.pack 0 1003 0 0 Z7 Z62)]) [] .raw (P2++[Z49=false,(!r5.2)=true,Z18[p3.toNat]? = some Z17,Z17[5]? = some Z16,Qa2 Z13=true,Z18.set p3.toNat Z54=Z1,Z1[p3.toNat]? = some Z8,Z1.set p3.toNat (wr Z8 2 [(I 2)])=Z61,[(I 2)].length=1,2 + [(I 2)].length≤Z8.length,[Z7][0]? = some Z7,Z7[0]? = some (AV.sl 1003 0 Z61.length),Qa2 Z61=true,[Z7].set 0 (Z7.set 0 (AV.own 70 6 Z61))=Z62,Z62=[Z63],Qa2 [Z63]=true,Qa6 [Z63]=true,Z64=Z64,Qa3 Z64=true]) (Qa7 AP2 ⟨c9,c10,(Qcc (rdM o70 hx4)),rfl,(Qab Qbs),(Xds o70 hx4),(rdM o70 hx4),(Qn5 o70),rfl,leB,rfl,(pkS lnq),(Qab t70),rfl,rfl,(Qai t44 Z65),(Qlt n44 Z65),rfl,rfl,trivial⟩)
  ·obtain ⟨r12,hr12,h⟩:=bnS h
   let Z69:=o44 (Qa1.mk p1.Threads p1.Cells p1.Owner r12);let Z70:=AV.agg [(I p3),(I 12),(I r12),Z40,Z10];let Z71:=Qa1.mk p1.Threads p1.Cells p1.Owner r12
   let H3:List Hn:=H1++[hF 34,hF 38,hh 42 (.pack 1003 1005 p3.toNat 5 Z17 Z1),hh 42 (.pack 0 1003 0 0 Z7 [Z66]),hh 42 (.callV [[Z66,Z67],[]] (I r12))]
   let P4:List Prop:=P2++[Z49=false,(!r5.2)=false,Z18[p3.toNat]? = some Z17,Z17[5]? = some Z16,Qa2 Z13=true,Z18.set p3.toNat Z54=Z1,[Z7][0]? = some Z7,Z7[0]? = some Z2,Qa2 Z1=true,[Z7].set 0 (Z7.set 0 Z21)=[Z66],Qa4 Tryz.prog 165 [(AV.rop Z67 0),(I p3),Z25] (I r12),Qa3 (I r12)=true,[Z66][0]? = some Z66,Qcy Z66=true,Qjr Z66=Z67]
   have AP4:Qam P4:=Qa7 AP2 ⟨c9,c11,(Qcc (rdM o70 hx4)),rfl,(Qab Qbs),(Xds o70 hx4),rfl,rfl,(Qab t70),rfl,(Qpt hr12),rfl,rfl,rfl,(z44 Z68),trivial⟩
   rcases itS h with ⟨c13,h⟩ | ⟨c14,h⟩
   ·obtain rfl:=sj h
    exact gR hP hn (H3++[hT 46]) [] .raw (P4++[(r12 != 0)=true,[[Z21,Z3,Z5,(I r12)]]=[Z69],Qa2 [Z69]=true,Qa6 [Z69]=true,Z70=Z70,Qa3 Z70=true]) (Qa7 AP4 ⟨c13,rfl,(Qai t44 Z71),(Qlt n44 Z71),rfl,rfl,trivial⟩)
   ·obtain ⟨r15,hr15,h⟩:=bnS h
    obtain rfl:=sj h
    exact (let Z73:=o44 r15.2;let Z74:=AV.agg (o60 r15.1);let Z75:=AV.agg ((o60 r15.1));let Z76:=rtf (Ql3 [(0,0)] Z74) [];gR hP hn (H3++[hF 46,hh 51 (.callX [0] [true] [⟨44,4,[Z72]⟩] [⟨44,4,[Z73]⟩] [[],[]] Z74 [] Z75 [])]) [] .raw (P4++[(r12 != 0)=false,Qlq (pk0 Tryz.prog) 166 [⟨44,4,[Z72]⟩] [(AV.ptr 0 0 0),(I p3),Z25,(AV.agg [(I p3),(I 1),Z40,Z40,Z10])] [true] [⟨44,4,[Z73]⟩] Z74,(some (Qas.mk 44 4 [Z66])=some (Qas.mk 44 4 [Z72]))∧True,(Qa2 [Z72]=true∧Qa6 [Z72]=true)∧True,([Z73].length=[Z72].length)∧True,Z76.1=Z75,Z76.2.1=[],[(Z73)]=[Z73],Qa2 [Z73]=true,Qa6 [Z73]=true,Z75=Z75,Qa3 Z75=true]) (Qa7 AP4 ⟨c14,(mK (Qu6 hr15)),⟨rfl,trivial⟩,⟨⟨Qai t44 Z68,Qlt n44 Z68⟩,trivial⟩,⟨rfl,trivial⟩,rfl,rfl,rfl,(Qai t44 r15.2),(Qlt n44 r15.2),rfl,rfl,trivial⟩))
noncomputable def Xou:Code:=match Tryz.f91.body with | some c=>c | none=>.skip
theorem Qm6 {p1:Qa1} {p2:Qaf} {p3:Int} {V0 V1 V2:Value} {r:(Qaa×Qa1)} (h:Qbv p1 p2 p3=some r) : Qo1 Tryz.prog 91 [⟨46,7,[([(AV.lit V0),(AV.lit V1),(AV.lit V2)]++(o44 p1))]⟩] [(AV.ptr 0 0 3),(AV.agg ((r39 p2))),(I p3)] [true] [⟨46,7,[([(AV.lit V0),(AV.lit V1),(AV.lit V2)]++(o44 r.2))]⟩] (AV.agg (o60 r.1)):=by
 refine Qlv Xbu Tryz.func91 rfl (c:=Xou) (by kernel_rfl) (Nat.le_of_ble_eq_true rfl) rfl (Nat.le_of_ble_eq_true rfl) rfl (fr:=[0]) (frI rfl) ?_
 intro E hP hn hx
 replace hn:E.n=105:=hn
 unfold Qbv at h
 obtain ⟨x4,hx4,h⟩:=bnS h
 obtain ⟨r5,hr5,h⟩:=bnS h
 let Z0:=AV.lit V0;let Z1:=AV.lit V1;let Z2:=AV.lit V2;let Z3:=[Z0,Z1,Z2];let Z4:=Z3++(o44 p1);let Z5:=p1.Threads.map o70;let Z6:=AV.sl 1003 0 Z5.length;let Z7:=AV.own 132 1 (p1.Cells.map Qae);let Z8:=p1.Owner.map o3;let Z9:=AV.own 3 1 Z8;let Z10:=I p1.Fault;let Z11:=[Z0,Z1,Z2,Z6,Z7,Z9,Z10];let Z12:=o70 x4;let Z13:=I x4.Routine;let Z14:=I x4.Pc;let Z15:=I x4.Cond;let Z16:=I x4.Lock;let Z17:=x4.Stack.map Qae;let Z18:=AV.own 132 1 Z17;let Z19:=[Z13,Z14,(I x4.State),Z15,Z16,Z18];let Z20:=AV.sl 1005 0 Z17.length;let Z21:=[Z13,Z14,(I x4.State),Z15,Z16,Z20];let Z22:=Z5.set p3.toNat Z21;let Z23:=B r5.2;let Z24:=AV.tup [(AV.agg (Qbj r5.1)),Z23];let Z25:=AV.own 70 6 Z5;let Z26:=AV.agg ((r39 p2));let Z27:=AV.ptr 1003 p3.toNat 0;let Z28:=AV.agg Z21;let Z29:=AV.agg ((Qbj r5.1));let Z30:=AV.tup [Z29,Z23];let Z31:=[Z26,(AV.agg [Z13,Z14,(I x4.State),Z15,Z16,(AV.ro 1 Z17)])];let Z32:=(Z17.drop 0).take Z17.length;let Z33:=([(1006,(Qas.mk 156 4 [[(I 0),(I 0),(I 0),(FK 0)]]))].map sm);let Z34:=Qas.mk 156 4 [((Qbj r5.1))];let Z35:=AV.sl 1003 0 Z22.length;let Z36:=[Z0,Z1,Z2,Z35,Z7,Z9,Z10];let Z37:=AV.sl 1007 0 Z8.length;let Z38:=[Z0,Z1,Z2,Z35,Z7,Z37,Z10];let Z39:=p1.Owner.set x4.Lock.toNat p3;let Z40:=Z39.map o3;let Z41:=(p1.Threads.set p3.toNat (Qa0.mk x4.Routine x4.Pc 1 x4.Cond x4.Lock x4.Stack)).map o70;let Z42:=[Z13,Z14,(I 1),Z15,Z16,Z18];let Z43:=(p1.Threads.set p3.toNat (Qa0.mk x4.Routine x4.Pc 1 (-1) x4.Lock x4.Stack)).map o70;let Z44:=I (-1);let Z45:=[Z13,Z14,(I 1),Z44,Z16,Z18];let Z46:=(p1.Threads.set p3.toNat (Qa0.mk x4.Routine x4.Pc 1 (-1) (-1) x4.Stack)).map o70;let Z47:=[Z13,Z14,(I 1),Z44,Z44,Z18];let Z53:=x4.State == 4;let Z54:=AV.ptr 1003 p3.toNat 3;let Z55:=AV.ptr 1003 p3.toNat 4;let Z56:=Qas.mk 60 5 [[(I p3),(I 9),Z44,Z44,Z14]];let Z57:=Qas.mk 60 5 [[(I p3),(I 9),Z15,Z44,Z14]];let Z58:=Z21.set 5 Z18;let Z61:=AV.agg [(I p3),(I 9),Z15,Z16,Z14];let Z62:=Qa0.mk x4.Routine x4.Pc 1 (-1) (-1) x4.Stack;let Z64:=p1.Threads.set p3.toNat (Qa0.mk x4.Routine x4.Pc 2 x4.Cond x4.Lock x4.Stack);let Z65:=Z64.map o70;let Z66:=[[Z0,Z1,Z2,(AV.own 70 6 Z65),Z7,Z9,Z10]];let Z67:=Z3++(o44 (Qa1.mk Z64 p1.Cells p1.Owner p1.Fault));let Z68:=AV.agg [(I p3),(I 11),Z44,Z44,Z14];let Z69:=Qa1.mk Z64 p1.Cells p1.Owner p1.Fault;let Z70:=[Z0,Z1,Z2,Z25,Z7,Z9,Z10];let Z71:=Z3++(r44 (Qa1.mk p1.Threads p1.Cells p1.Owner p1.Fault));let Z72:=Qa1.mk p1.Threads p1.Cells p1.Owner p1.Fault;let Z76:=Z3++(o44 (Qa1.mk p1.Threads p1.Cells p1.Owner p1.Fault))
 let H1:List Hn:=[hW 0 1001,hW 1 1002,hh 5 (.unpack 0 1003 0 3 Z4 70 6 Z5 [Z11]),hh 13 (.row Z12),hW 15 1004,hh 17 (.unpack 1003 1005 p3.toNat 5 Z19 132 1 Z17 Z22),hh 20 (.row Z21),hh 21 (.callV [[],[],Z17] Z24),hW 25 1006,hh 31 (.row Z21)]
 let P2:List Prop:=[[Z4][0]? = some Z4,Z4[3]? = some Z25,0<6,[Z4].set 0 (Z4.set 3 Z6)=[Z11],(0:Int)≤p3,p3<((Z5.length:Nat) : Int),Z5[p3.toNat]? = some Z12,Z5[p3.toNat]? = some Z19,Z19[5]? = some Z18,0<1,Z5.set p3.toNat (Z19.set 5 Z20)=Z22,Z26=Z26,Z26=Z26,Z27=Z27,Z27=Z27,Z27=Z27,Z27=Z27,Z28=Z28,Z22[p3.toNat]? = some Z21,Z28=Z28,Z22[p3.toNat]? = some Z21,Z30=Z30,Qa4 Tryz.prog 164 Z31 Z24,Qa3 Z24=true,Frz Z32 Z17,Z30=Z30,Qa4 Tryz.prog 164 Z31 Z24,Qa3 Z24=true,Frz Z32 Z17,Z30=Z30,Z30=Z30,Z29=Z29,Z29=Z29,Z23=Z23,Z23=Z23,Z23=Z23,(AV.ptr 1006 0 0)=(AV.ptr 1006 0 0),Z33=Z33,[(1006,some Z34)]=[(1006,some Z34)],Z22[p3.toNat]? = some Z21]
 have AP2:Qam P2:=⟨rfl,rfl,(by decide),rfl,(rd0 hx4),(rdL o70 hx4),(rdM o70 hx4),(rdM o70 hx4),rfl,(by decide),rfl,rfl,rfl,rfl,rfl,rfl,rfl,rfl,(Qcc (rdM o70 hx4)),rfl,(Qcc (rdM o70 hx4)),rfl,(Qe9 hr5),rfl,(Qfx Qbs Qqn),rfl,(Qe9 hr5),rfl,(Qfx Qbs Qqn),rfl,rfl,rfl,rfl,rfl,rfl,rfl,rfl,rfl,rfl,(Qcc (rdM o70 hx4)),trivial⟩
 rcases itS h with ⟨c6,h⟩ | ⟨c9,h⟩
 ·obtain ⟨x7,hx7,h⟩:=bnS h
  obtain ⟨r8,hr8,h⟩:=bnS h
  obtain rfl:=sj h
  exact (let Z48:=p1.Threads.set p3.toNat (Qa0.mk x4.Routine (w64 (x4.Pc+r8)) 1 (-1) (-1) x4.Stack);let Z49:=Z48.map o70;let Z50:=AV.own 70 6 Z49;let Z51:=[Z0,Z1,Z2,Z50,Z7,Z37,Z10];let Z52:=[[Z0,Z1,Z2,Z50,Z7,(AV.own 3 1 Z40),Z10]];let Z59:=[(I (w64 (x4.Pc+r8)))];let Z60:=Z3++(o44 (Qa1.mk Z48 p1.Cells Z39 p1.Fault));let Z63:=Qa1.mk Z48 p1.Cells Z39 p1.Fault;gR hP hn (H1++[hT 34,hh 38 (.row Z21),hh 42 (.row Z21),hh 49 (.eqr 0 [Z36]),hh 49 (.unpack 0 1007 0 5 Z36 3 1 Z8 [Z38]),hh 56 (.row Z21),hh 59 (.sto [(I x7)] Z40),hh 65 (.pack 1003 1005 p3.toNat 5 Z21 Z5),hh 65 (.sto Z12 Z41),hh 68 (.sto Z42 Z43),hh 71 (.sto Z45 Z46),hh 75 (.row Z47),hh 77 (.callV [] (I r8)),hh 81 (.sto Z47 Z49),hh 84 (.pack 0 1003 0 3 Z38 [Z51]),hh 84 (.pack 0 1007 0 5 Z51 Z52)]) [] .raw (P2++[Z53=true,Z27=Z27,Z27=Z27,Z27=Z27,Z27=Z27,Z54=Z54,Z54=Z54,Z15=Z15,Z22[p3.toNat]? = some Z21,Z15=Z15,Z22[p3.toNat]? = some Z21,Z27=Z27,Z27=Z27,Z27=Z27,Z27=Z27,Z27=Z27,Z27=Z27,Z55=Z55,Z55=Z55,Z55=Z55,Z16=Z16,Z22[p3.toNat]? = some Z21,Z16=Z16,Z22[p3.toNat]? = some Z21,Z16=Z16,Z22[p3.toNat]? = some Z21,(AV.ptr 1004 0 1)=(AV.ptr 1004 0 1),[(1004,some Z56)]=[(1004,some Z56)],(AV.ptr 1004 0 2)=(AV.ptr 1004 0 2),[(1004,some Z57)]=[(1004,some Z57)],[Z11]=[Z36],[Z36][0]? = some Z36,Z36[5]? = some Z9,0<1,[Z36].set 0 (Z36.set 5 Z37)=[Z38],Z22[p3.toNat]? = some Z21,(0:Int)≤x4.Lock,x4.Lock<((Z8.length:Nat) : Int),Z8[x4.Lock.toNat]? = some [(I x7)],Z8.set x4.Lock.toNat (wr [(I x7)] 0 [(I p3)])=Z40,[(I p3)].length=1,0 + [(I p3)].length≤[(I x7)].length,Z22[p3.toNat]? = some Z21,Z21[5]? = some Z20,Qa2 Z17=true,Z22.set p3.toNat Z58=Z5,Z5[p3.toNat]? = some Z12,Z5.set p3.toNat (wr Z12 2 [(I 1)])=Z41,[(I 1)].length=1,2 + [(I 1)].length≤Z12.length,Z41[p3.toNat]? = some Z42,Z41.set p3.toNat (wr Z42 3 [Z44])=Z43,[Z44].length=1,3 + [Z44].length≤Z42.length,Z43[p3.toNat]? = some Z45,Z43.set p3.toNat (wr Z45 4 [Z44])=Z46,[Z44].length=1,4 + [Z44].length≤Z45.length,Z46[p3.toNat]? = some Z47,Qa4 Tryz.prog 157 [Z23] (I r8),Qa3 (I r8)=true,Z46[p3.toNat]? = some Z47,Z46.set p3.toNat (wr Z47 1 Z59)=Z49,Z59.length=1,1+Z59.length≤Z47.length,[Z38][0]? = some Z38,Z38[3]? = some (AV.sl 1003 0 Z49.length),Qa2 Z49=true,[Z38].set 0 (Z38.set 3 Z50)=[Z51],[Z51][0]? = some Z51,Z51[5]? = some (AV.sl 1007 0 Z40.length),Qa2 Z40=true,[Z51].set 0 (Z51.set 5 (AV.own 3 1 Z40))=Z52,Z52=[Z60],Qa2 [Z60]=true,Qa6 [Z60]=true,Z61=Z61,Qa3 Z61=true]) (Qa7 AP2 ⟨c6,rfl,rfl,rfl,rfl,rfl,rfl,rfl,(Qcc (rdM o70 hx4)),rfl,(Qcc (rdM o70 hx4)),rfl,rfl,rfl,rfl,rfl,rfl,rfl,rfl,rfl,rfl,(Qcc (rdM o70 hx4)),rfl,(Qcc (rdM o70 hx4)),rfl,(Qcc (rdM o70 hx4)),rfl,rfl,rfl,rfl,(congrArg (fun nn=>[[Z0,Z1,Z2,(AV.sl 1003 0 nn),Z7,Z9,(I p1.Fault)]]) (show Z5.length=Z22.length from lnq)),rfl,rfl,(by decide),rfl,(Qcc (rdM o70 hx4)),(rd0 hx7),(rdL o3 hx7),(rdM o3 hx7),(Qw5 o3),rfl,leB,(Qcc (rdM o70 hx4)),rfl,(Qab Qbs),(Xds o70 hx4),(rdM o70 hx4),(Qn5 o70),rfl,leB,(rdM o70 (rdS (y:=(Qa0.mk x4.Routine x4.Pc 1 x4.Cond x4.Lock x4.Stack)) hx4)),(Qhf o70),rfl,leB,(rdM o70 (rdS (y:=(Qa0.mk x4.Routine x4.Pc 1 (-1) x4.Lock x4.Stack)) hx4)),(Qhf o70),rfl,leB,(rdM o70 (rdS (y:=Z62) hx4)),(Qg8 hr8),rfl,(rdM o70 (rdS (y:=Z62) hx4)),(Qhf o70),rfl,leB,rfl,(pkS lnq),(Qab t70),rfl,rfl,(pkS lnq),(Qab t3),rfl,rfl,(Qhy t44 Z3 rfl Z63),(Qhl n44 Z3 rfl Z63),rfl,rfl,trivial⟩))
 ·rcases itS h with ⟨c10,h⟩ | ⟨c11,h⟩
  ·obtain rfl:=sj h
   exact gR hP hn (H1++[hF 34,hT 38,hh 44 (.pack 1003 1005 p3.toNat 5 Z21 Z5),hh 44 (.sto Z12 Z65),hh 47 (.pack 0 1003 0 3 Z11 Z66)]) [] .raw (P2++[Z53=false,(!r5.2)=true,Z22[p3.toNat]? = some Z21,Z21[5]? = some Z20,Qa2 Z17=true,Z22.set p3.toNat Z58=Z5,Z5[p3.toNat]? = some Z12,Z5.set p3.toNat (wr Z12 2 [(I 2)])=Z65,[(I 2)].length=1,2 + [(I 2)].length≤Z12.length,[Z11][0]? = some Z11,Z11[3]? = some (AV.sl 1003 0 Z65.length),Qa2 Z65=true,[Z11].set 0 (Z11.set 3 (AV.own 70 6 Z65))=Z66,Z66=[Z67],Qa2 [Z67]=true,Qa6 [Z67]=true,Z68=Z68,Qa3 Z68=true]) (Qa7 AP2 ⟨c9,c10,(Qcc (rdM o70 hx4)),rfl,(Qab Qbs),(Xds o70 hx4),(rdM o70 hx4),(Qn5 o70),rfl,leB,rfl,(pkS lnq),(Qab t70),rfl,rfl,(Qhy t44 Z3 rfl Z69),(Qhl n44 Z3 rfl Z69),rfl,rfl,trivial⟩)
  ·obtain ⟨r12,hr12,h⟩:=bnS h
   let Z73:=Z3++(o44 (Qa1.mk p1.Threads p1.Cells p1.Owner r12));let Z74:=AV.agg [(I p3),(I 12),(I r12),Z44,Z14];let Z75:=Qa1.mk p1.Threads p1.Cells p1.Owner r12
   let H3:List Hn:=H1++[hF 34,hF 38,hh 42 (.pack 1003 1005 p3.toNat 5 Z21 Z5),hh 42 (.pack 0 1003 0 3 Z11 [Z70]),hh 42 (.callV [[Z70,Z71],[]] (I r12))]
   let P4:List Prop:=P2++[Z53=false,(!r5.2)=false,Z22[p3.toNat]? = some Z21,Z21[5]? = some Z20,Qa2 Z17=true,Z22.set p3.toNat Z58=Z5,[Z11][0]? = some Z11,Z11[3]? = some Z6,Qa2 Z5=true,[Z11].set 0 (Z11.set 3 Z25)=[Z70],Qa4 Tryz.prog 165 [(AV.rop Z71 3),(I p3),Z29] (I r12),Qa3 (I r12)=true,[Z70][0]? = some Z70,Qcy Z70=true,Qjr Z70=Z71]
   have AP4:Qam P4:=Qa7 AP2 ⟨c9,c11,(Qcc (rdM o70 hx4)),rfl,(Qab Qbs),(Xds o70 hx4),rfl,rfl,(Qab t70),rfl,(Qkl hr12),rfl,rfl,rfl,(frzBV z44 Z3 rfl Z72),trivial⟩
   rcases itS h with ⟨c13,h⟩ | ⟨c14,h⟩
   ·obtain rfl:=sj h
    exact gR hP hn (H3++[hT 46]) [] .raw (P4++[(r12 != 0)=true,[[Z0,Z1,Z2,Z25,Z7,Z9,(I r12)]]=[Z73],Qa2 [Z73]=true,Qa6 [Z73]=true,Z74=Z74,Qa3 Z74=true]) (Qa7 AP4 ⟨c13,rfl,(Qhy t44 Z3 rfl Z75),(Qhl n44 Z3 rfl Z75),rfl,rfl,trivial⟩)
   ·obtain ⟨r15,hr15,h⟩:=bnS h
    obtain rfl:=sj h
    exact (let Z77:=Z3++(o44 r15.2);let Z78:=AV.agg (o60 r15.1);let Z79:=AV.agg ((o60 r15.1));let Z80:=rtf (Ql3 [(0,0)] Z78) [];gR hP hn (H3++[hF 46,hh 51 (.callX [0] [true] [⟨46,7,[Z76]⟩] [⟨46,7,[Z77]⟩] [[],[]] Z78 [] Z79 [])]) [] .raw (P4++[(r12 != 0)=false,Qlq (pk0 Tryz.prog) 166 [⟨46,7,[Z76]⟩] [(AV.ptr 0 0 3),(I p3),Z29,(AV.agg [(I p3),(I 1),Z44,Z44,Z14])] [true] [⟨46,7,[Z77]⟩] Z78,(some (Qas.mk 46 7 [Z70])=some (Qas.mk 46 7 [Z76]))∧True,(Qa2 [Z76]=true∧Qa6 [Z76]=true)∧True,([Z77].length=[Z76].length)∧True,Z80.1=Z79,Z80.2.1=[],[Z77]=[Z77],Qa2 [Z77]=true,Qa6 [Z77]=true,Z79=Z79,Qa3 Z79=true]) (Qa7 AP4 ⟨c14,(mK (Qnf hr15)),⟨rfl,trivial⟩,⟨⟨Qhy t44 Z3 rfl Z72,Qhl n44 Z3 rfl Z72⟩,trivial⟩,⟨rfl,trivial⟩,rfl,rfl,rfl,(Qhy t44 Z3 rfl r15.2),(Qhl n44 Z3 rfl r15.2),rfl,rfl,trivial⟩))
noncomputable def Xl3:Code:=match Tryz.f216.body with | some c=>c | none=>.skip
noncomputable def Qk1 (p1:Qa0) : Option Bool:=
 some (p1.State != 2)
theorem Quh {p1:Qa0} {r:Bool} (h:Qk1 p1=some r) : Qa4 Tryz.prog 216 [(AV.agg ((r70 p1)))] (B r):=by
 refine gM Tryz.func216 6 Xl3 fun E hP hn hx=>?_
 unfold Qk1 at h
 obtain rfl:=sj h
 exact (let Z0:=B (p1.State != 2);gR hP hn [hW 0 1001] [] .raw [Z0=Z0,Qa3 Z0=true] ⟨rfl,rfl,trivial⟩)
noncomputable def Xfj:Code:=match Tryz.f172.body with | some c=>c | none=>.skip
noncomputable def Qaj  (p1:(List Qa0)) : Nat→Int→Option Int
 | 0,_=>none
 | n+1,v2 =>
 if (decide (v2<(p1.length:Int)))=true then
  Option.bind (rd p1 v2) fun x4 =>
  Option.bind (Qk1 x4) fun r5 =>
  if r5=true then
   some v2
  else
   Qaj p1 n (w64 (v2+1))
 else
  some (-1)
theorem Qe5 {E:Env} (hP:E.pk=pk0 Tryz.prog) (hn:E.n=19) (hx:FX E []) (p1:(List Qa0))  : ∀ (n:Nat) (v2:Int) (r:Int),Qaj p1 n v2=some r→WAt E Xfj (FQ (Qdj Θ Tryz.f172.results.toList [] [] (I r) E)) [true,false,true,false] ⟨[(0,(AV.ro 6 (p1.map r70))),(1,(AV.fn 216 [])),(7,(I (p1.length:Int))),(8,(I v2))],[],[JJ]⟩:=by
 intro n
 induction n with
 | zero=>intro v2 r h;simp only [Qaj] at h;cases h
 | succ n ih =>
  intro v2 r h
  simp only [Qaj] at h
  let Z0:=(decide (v2<(p1.length:Int)))
  rcases itS h with ⟨c3,h⟩ | ⟨c8,h⟩
  ·obtain ⟨x4,hx4,h⟩:=bnS h
   obtain ⟨r5,hr5,h⟩:=bnS h
   let P1:List Prop:=[Z0=true,(0:Int)≤v2,(p1.map r70)[v2.toNat]? = some (r70 x4),Qa4 Tryz.prog 216 [(AV.agg ((r70 x4)))] (B r5),Qa3 (B r5)=true]
   have AP1:Qam P1:=⟨c3,(rd0 hx4),(rdM r70 hx4),(Quh hr5),rfl,trivial⟩
   rcases itS h with ⟨c6,h⟩ | ⟨c7,h⟩
   ·obtain rfl:=sj h
    exact gR hP hn [hT 1,hh 7 (.row (r70 x4)),hh 9 (.callV [[]] (B r5)),hT 10] [] .raw (P1++[r5=true,(I v2)=(I v2),Qa3 (I v2)=true]) (Qa7 AP1 ⟨c6,rfl,rfl,trivial⟩)
   ·exact gT hP hn hx [hT 1,hh 7 (.row (r70 x4)),hh 9 (.callV [[]] (B r5)),hF 10] [] [0,1,7,8] [] (P1++[r5=false]) (Qa7 AP1 ⟨c7,trivial⟩) (ih (w64 (v2+1)) _ h)
  ·obtain rfl:=sj h
   exact gR hP hn [hF 1] [] .raw [Z0=false,(I (-1))=(I (-1)),Qa3 (I (-1))=true] ⟨c8,rfl,rfl,trivial⟩
noncomputable def Qb8 (p1:(List Qa0)) : Option Int:=
 Qaj p1 FU 0
theorem Qey {p1:(List Qa0)} {r:Int} (h:Qb8 p1=some r) : Qa4 Tryz.prog 172 [(AV.ro 6 (p1.map r70)),(AV.fn 216 [])] (I r):=by
 refine gM Tryz.func172 19 Xfj fun E hP hn hx=>?_
 unfold Qb8 at h
 exact (let Z0:=(I (p1.length:Int));gT hP hn hx [hO 2 Z0] [] [0,1,7,8] [] [AV.lit (.int .i64 (((p1.map r70).length:Nat) : Int))=Z0] ⟨(Qby r70),trivial⟩ (Qe5 hP hn hx p1 FU 0 _ h))
noncomputable def Xpe:Code:=match Tryz.f96.body with | some c=>c | none=>.skip
noncomputable def Qax (p1:(List Qa0)) : Option Bool:=
 Option.bind (Qb8 p1) fun r2 =>
 some (decide (r2 ≥ 0))
theorem Qe6 {p1:(List Qa0)} {r:Bool} (h:Qax p1=some r) : Qa4 Tryz.prog 96 [(AV.ro 6 (p1.map r70)),(AV.fn 216 [])] (B r):=by
 refine gM Tryz.func96 9 Xpe fun E hP hn hx=>?_
 unfold Qax at h
 obtain ⟨r2,hr2,h⟩:=bnS h
 obtain rfl:=sj h
 exact (let Z0:=B (decide (r2 ≥ 0));gR hP hn [hh 3 (.callV [] (I r2))] [] .raw [Qa4 Tryz.prog 172 [(AV.ro 6 (p1.map r70)),(AV.fn 216 [])] (I r2),Qa3 (I r2)=true,Z0=Z0,Qa3 Z0=true] ⟨(Qey hr2),rfl,rfl,rfl,trivial⟩)
noncomputable def Qkg (p1:Qaf) (p2:Qa1) (p3:(List Int)) (p4:Int) (p5:Int) : Option Int:=
 if (p2.Fault != 0)=true then
  some 2
 else
  if ((p3.length:Int) == 0)=true then
   Option.bind (Qax p2.Threads) fun r9 =>
   if r9=true then
    some 3
   else
    some 1
  else
   if (p4 == p5)=true then
    some 4
   else
    some 0
noncomputable def Xkm:Code:=match Tryz.f184.body with | some c=>c | none=>.skip
theorem Qju {p1:Qaf} {p2:Qa1} {p3:(List Int)} {p4:Int} {p5:Int} {W0 W1 W2:AV} {r:Int} (h:Qkg p1 p2 p3 p4 p5=some r) : Qa4 Tryz.prog 184 [(AV.agg ((r39 p1))),(AV.rop ([W0,W1,W2]++(r44 p2)) 3),(AV.ro 1 (p3.map o3)),(I p4),(I p5)] (I r):=by
 refine gM Tryz.func184 30 Xkm fun E hP hn hx=>?_
 unfold Qkg at h
 let Z0:=(I (p3.length:Int));let Z1:=((p3.length:Int) == 0)
 rcases itS h with ⟨c6,h⟩ | ⟨c7,h⟩
 ·obtain rfl:=sj h
  exact gR hP hn [hW 0 1001,hT 8] [] .raw [(p2.Fault != 0)=true,(I 2)=(I 2),Qa3 (I 2)=true] ⟨c6,rfl,rfl,trivial⟩
 ·let H1:List Hn:=[hW 0 1001,hF 8,hO 10 Z0]
  let P2:List Prop:=[(p2.Fault != 0)=false,AV.lit (.int .i64 (((p3.map o3).length:Nat) : Int))=Z0]
  have AP2:Qam P2:=⟨c7,(Qby o3),trivial⟩
  rcases itS h with ⟨c8,h⟩ | ⟨c12,h⟩
  ·obtain ⟨r9,hr9,h⟩:=bnS h
   let P3:List Prop:=P2++[Z1=true,Qa4 Tryz.prog 96 [(AV.ro 6 (p2.Threads.map r70)),(AV.fn 216 [])] (B r9),Qa3 (B r9)=true]
   have AP3:Qam P3:=Qa7 AP2 ⟨c8,(Qe6 hr9),rfl,trivial⟩
   rcases itS h with ⟨c10,h⟩ | ⟨c11,h⟩
   ·obtain rfl:=sj h
    exact gR hP hn (H1++[hT 13,hh 18 (.callV [] (B r9)),hT 19]) [] .raw (P3++[r9=true,(I 3)=(I 3),Qa3 (I 3)=true]) (Qa7 AP3 ⟨c10,rfl,rfl,trivial⟩)
   ·obtain rfl:=sj h
    exact gR hP hn (H1++[hT 13,hh 18 (.callV [] (B r9)),hF 19]) [] .raw (P3++[r9=false,(I 1)=(I 1),Qa3 (I 1)=true]) (Qa7 AP3 ⟨c11,rfl,rfl,trivial⟩)
  ·rcases itS h with ⟨c13,h⟩ | ⟨c14,h⟩
   ·obtain rfl:=sj h
    exact gR hP hn (H1++[hF 13,hT 18]) [] .raw (P2++[Z1=false,(p4 == p5)=true,(I 4)=(I 4),Qa3 (I 4)=true]) (Qa7 AP2 ⟨c12,c13,rfl,rfl,trivial⟩)
   ·obtain rfl:=sj h
    exact gR hP hn (H1++[hF 13,hF 18]) [] .raw (P2++[Z1=false,(p4 == p5)=false,(I 0)=(I 0),Qa3 (I 0)=true]) (Qa7 AP2 ⟨c12,c14,rfl,rfl,trivial⟩)
noncomputable def Xlg:Code:=match Tryz.f152.body with | some c=>c | none=>.skip
noncomputable def Qgt (p1:(List Int)) (p2:Int) (p3:(List Int)) : Option Int:=
 if (decide (p2 ≥ (p3.length:Int)))=true then
  some 0
 else
  Option.bind (rd p3 p2) fun x6 =>
  Option.bind (nz (p1.length:Int)) fun q7 =>
  some (Int.tmod x6 (p1.length:Int))
theorem Qlr {p1:(List Int)} {p2:Int} {p3:(List Int)} {r:Int} (h:Qgt p1 p2 p3=some r) : Qa4 Tryz.prog 152 [(AV.ro 1 (p1.map o3)),(I p2),(AV.rop (r26 p3) 0)] (I r):=by
 refine gM Tryz.func152 17 Xlg fun E hP hn hx=>?_
 unfold Qgt at h
 let Z0:=(I (p3.length:Int));let Z1:=(((p3.map o3).length:Nat) : Int);let Z2:=(decide (p2 ≥ (p3.length:Int)));let Z3:=(p1.length:Int)
 rcases itS h with ⟨c4,h⟩ | ⟨c5,h⟩
 ·obtain rfl:=sj h
  exact gR hP hn [hO 3 Z0,hT 5] [] .raw [AV.lit (.int .i64 Z1)=Z0,Z2=true,(I 0)=(I 0),Qa3 (I 0)=true] ⟨(Qby o3),c4,rfl,rfl,trivial⟩
 ·obtain ⟨x6,hx6,h⟩:=bnS h
  obtain ⟨q7,hq7,h⟩:=bnS h
  obtain rfl:=sj h
  exact (let Z4:=I (Int.tmod x6 Z3);gR hP hn [hO 3 Z0,hF 5,hh 8 (.row (o3 x6)),hO 11 (I Z3)] [] .raw [AV.lit (.int .i64 Z1)=Z0,Z2=false,(0:Int)≤p2,(p3.map o3)[p2.toNat]? = some (o3 x6),AV.lit (.int .i64 (((p1.map o3).length:Nat) : Int))=(I Z3),Z3≠(0:Int),Z4=Z4,Qa3 Z4=true] ⟨(Qby o3),c5,(rd0 hx6),(rdM o3 hx6),(Qby o3),(nzE hq7),rfl,rfl,trivial⟩)
noncomputable def Xfc:Code:=match Tryz.f108.body with | some c=>c | none=>.skip
noncomputable def Qem  (l4:(List Int)) : Nat→Qa1→Qa1→Int→Option Qa1
 | 0,_,_,_=>none
 | n+1,a5,a6,v7 =>
 if (decide (v7<(l4.length:Int)))=true then
  Option.bind (rd a6.Owner v7) fun x9 =>
  Qem l4 n a5 (Qa1.mk a6.Threads a6.Cells (a6.Owner.set (Int.toNat v7) (-1)) a6.Fault) (w64 (v7+1))
 else
  some (Qa1.mk a6.Threads a6.Cells a6.Owner a6.Fault)
theorem Qvl {E:Env} (hP:E.pk=pk0 Tryz.prog) (hn:E.n=26) (hx:FX E []) (l4:(List Int))  : ∀ (n:Nat) (a5:Qa1) (a6:Qa1) (v7:Int) (r:Qa1),Qem l4 n a5 a6 v7=some r→WAt E Xfc (FQ (Qdj Θ Tryz.f108.results.toList [] [] (AV.agg (o44 r)) E)) [true,true,false,true,false] ⟨[(2,(AV.ptr 1 0 0)),(3,(AV.ptr 2 0 0)),(16,(I (l4.length:Int))),(17,(I v7))],[(1,some ⟨44,4,[((o44 a5))]⟩),(2,some ⟨44,4,[((o44 a6))]⟩)],[1,2,JJ]⟩:=by
 intro n
 induction n with
 | zero=>intro a5 a6 v7 r h;simp only [Qem] at h;cases h
 | succ n ih =>
  intro a5 a6 v7 r h
  simp only [Qem] at h
  let Z0:=o44 a6;let Z1:=a6.Owner.map o3;let Z2:=a6.Threads.map o70;let Z3:=AV.own 70 6 Z2;let Z4:=a6.Cells.map Qae;let Z5:=AV.own 132 1 Z4;let Z6:=AV.sl 1001 0 Z1.length;let Z7:=I a6.Fault;let Z8:=[Z3,Z5,Z6,Z7];let Z9:=a6.Owner.set v7.toNat (-1);let Z10:=Z9.map o3;let Z11:=[[Z3,Z5,(AV.own 3 1 Z10),Z7]];let Z12:=(decide (v7<(l4.length:Int)));let Z13:=AV.own 3 1 Z1;let Z14:=Qa1.mk a6.Threads a6.Cells Z9 a6.Fault;let Z15:=AV.sl 1002 0 Z2.length;let Z16:=[Z15,Z5,Z13,Z7];let Z17:=AV.sl 1003 0 Z4.length;let Z18:=[Z15,Z17,Z13,Z7];let Z19:=AV.sl 1004 0 Z1.length;let Z20:=[[Z15,Z17,Z19,Z7]]
  rcases itS h with ⟨c8,h⟩ | ⟨c10,h⟩
  ·obtain ⟨x9,hx9,h⟩:=bnS h
   exact gT hP hn hx [hT 1,hh 5 (.unpack 2 1001 0 2 Z0 3 1 Z1 [Z8]),hh 8 (.sto [(I x9)] Z10),hh 11 (.pack 2 1001 0 2 Z8 Z11)] [(1,1),(2,2)] [2,3,16,17] [] [Z12=true,[Z0][0]? = some Z0,Z0[2]? = some Z13,0<1,[Z0].set 0 (Z0.set 2 Z6)=[Z8],(0:Int)≤v7,v7<((Z1.length:Nat) : Int),Z1[v7.toNat]? = some [(I x9)],Z1.set v7.toNat (wr [(I x9)] 0 [(I (-1))])=Z10,[(I (-1))].length=1,0 + [(I (-1))].length≤[(I x9)].length,[Z8][0]? = some Z8,Z8[2]? = some (AV.sl 1001 0 Z10.length),Qa2 Z10=true,[Z8].set 0 (Z8.set 2 (AV.own 3 1 Z10))=Z11,Qa8 [(1,1),(2,2)] [((o44 a5))],Qa8 [(1,1),(2,2)] Z11] ⟨c8,rfl,rfl,(by decide),rfl,(rd0 hx9),(rdL o3 hx9),(rdM o3 hx9),(Qw5 o3),rfl,leB,rfl,(pkS lnq),(Qab t3),rfl,(rok (Qai t44 a5)),(rok (Qai t44 Z14)),trivial⟩ (ih a5 Z14 (w64 (v7+1)) _ h)
  ·obtain rfl:=sj h
   exact gR hP hn [hF 1,hh 2 (.unpack 2 1002 0 0 Z0 70 6 Z2 [Z16]),hh 2 (.unpack 2 1003 0 1 Z16 132 1 Z4 [Z18]),hh 2 (.unpack 2 1004 0 2 Z18 3 1 Z1 Z20)] [] (.agg [.own,.own,.own,.raw]) [Z12=false,[Z0][0]? = some Z0,Z0[0]? = some Z3,0<6,[Z0].set 0 (Z0.set 0 Z15)=[Z16],[Z16][0]? = some Z16,Z16[1]? = some Z5,0<1,[Z16].set 0 (Z16.set 1 Z17)=[Z18],[Z18][0]? = some Z18,Z18[2]? = some Z13,0<1,[Z18].set 0 (Z18.set 2 Z19)=Z20,Qa2 (Z2.take Z2.length)=true,Z2.take Z2.length=Z2,Qa6 Z2=true,Qa2 (Z4.take Z4.length)=true,Z4.take Z4.length=Z4,Qa6 Z4=true,Qa2 (Z1.take Z1.length)=true,Z1.take Z1.length=Z1,Qa6 Z1=true,Z7=Z7,Qa3 Z7=true] ⟨c10,rfl,rfl,(by decide),rfl,rfl,rfl,(by decide),rfl,rfl,rfl,(by decide),rfl,(Qb7 t70),Qb6,(Qa9 n70),(Qb7 Qbs),Qb6,(Qa9 Qe7),(Qb7 t3),Qb6,(Qa9 n3),rfl,rfl,trivial⟩
noncomputable def Qg5 (p1:Qaf) : Option Qa1:=
 Option.bind (Qg4 0) fun r2 =>
 Option.bind (mk 0 p1.Cells) fun l3 =>
 Option.bind (mk 0 p1.Locks) fun l4 =>
 Qem l4 FU (Qa1.mk [] [] [] 0) (Qa1.mk [(Qa0.mk r2.Routine r2.Pc r2.State r2.Cond r2.Lock r2.Stack)] l3 l4 0) 0
theorem Qst {p1:Qaf} {r:Qa1} (h:Qg5 p1=some r) : Qa4 Tryz.prog 108 [(AV.agg ((r39 p1)))] (AV.agg (o44 r)):=by
 refine gM Tryz.func108 26 Xfc fun E hP hn hx=>?_
 unfold Qg5 at h
 obtain ⟨r2,hr2,h⟩:=bnS h
 obtain ⟨l3,hl3,h⟩:=bnS h
 obtain ⟨l4,hl4,h⟩:=bnS h
 exact (let Z0:=AV.agg (o70 r2);let Z1:=l3.map Qae;let Z2:=AV.sl 1005 0 Z1.length;let Z3:=l4.map o3;let Z4:=AV.sl 1006 0 Z3.length;let Z5:=(I (l4.length:Int));let Z6:=AV.own 70 6 ([].map o70);let Z7:=[[Z6,nS,nS,(I 0)]];let Z8:=AV.own 132 1 ([].map Qae);let Z9:=[[Z6,Z8,nS,(I 0)]];let Z10:=[(I 0)];let Z11:=[[Z6,Z8,(AV.own 3 1 ([].map o3)),(I 0)]];let Z12:=r2.Stack.map Qae;let Z13:=AV.sl 1003 0 Z12.length;let Z14:=[(I r2.Routine),(I r2.Pc),(I r2.State),(I r2.Cond),(I r2.Lock),Z13];let Z15:=[(Qa0.mk r2.Routine r2.Pc r2.State r2.Cond r2.Lock r2.Stack)].map o70;let Z16:=AV.sl 1004 0 [Z14].length;let Z17:=[Z16,Z2,Z4,(I 0)];let Z18:=AV.own 70 6 Z15;let Z19:=[Z18,Z2,Z4,(I 0)];let Z20:=AV.own 132 1 Z1;let Z21:=[Z18,Z20,Z4,(I 0)];let Z22:=[[Z18,Z20,(AV.own 3 1 Z3),(I 0)]];let Z23:=AV.agg Z14;let Z24:=((rtf Z0 [1003]).2.1).map sm;let Z25:=([(1004,(Qas.mk 70 6 [Z14]))].map sm);let Z26:=AV.ptr 1001 0 0;let Z27:=I p1.Cells;let Z28:=[(1005,(Qas.mk 132 1 Z1))].map sm;let Z29:=((8:Nat) : Int);let Z30:=AV.ptr 1001 0 1;let Z31:=I p1.Locks;let Z32:=[(1006,(Qas.mk 3 1 Z3))].map sm;let Z33:=AV.agg Z17;let Z34:=AV.ptr 1007 0 0;let Z35:=([(1007,(Qas.mk 44 4 [[nS,nS,nS,(I 0)]]))].map sm);let Z36:=Qa1.mk [] [] [] 0;let Z37:=Qa1.mk [(Qa0.mk r2.Routine r2.Pc r2.State r2.Cond r2.Lock r2.Stack)] l3 l4 0;gT hP hn hx [hW 0 1001,hW 1 1002,hh 2 (.call [] Z0 [1003]),hW 3 1004,⟨6,.nw 1005 Z1,some Z2⟩,⟨9,.nw 1006 Z3,some Z4⟩,hW 11 1007,hO 15 Z5,hh 17 (.own0 1002 1 [] [nS,nS,(I 0)] 70 6 Z7),hh 17 (.own0 1002 1 [Z6] [nS,(I 0)] 132 1 Z9),hh 17 (.own0 1002 1 [Z6,Z8] Z10 3 1 Z11),hh 17 (.pack 1004 1003 0 5 Z14 Z15),hh 17 (.pack 1007 1004 0 0 Z17 [Z19]),hh 17 (.pack 1007 1005 0 1 Z19 [Z21]),hh 17 (.pack 1007 1006 0 2 Z21 Z22)] [(1002,1),(1007,2)] [2,3,16,17] [] [Z23=Z23,Z24=Z24,Qa4 Tryz.prog 178 Z10 Z0,Qc2 Z0=true,Z23=Z23,Z24=Z24,Qa4 Tryz.prog 178 Z10 Z0,Qc2 Z0=true,Z23=Z23,Z24=Z24,Qa4 Tryz.prog 178 Z10 Z0,Qc2 Z0=true,Z23=Z23,Z24=Z24,Qa4 Tryz.prog 178 Z10 Z0,Qc2 Z0=true,Z23=Z23,Z24=Z24,Qa4 Tryz.prog 178 Z10 Z0,Qc2 Z0=true,Z23=Z23,Z24=Z24,Qa4 Tryz.prog 178 Z10 Z0,Qc2 Z0=true,Z23=Z23,Z24=Z24,Qa4 Tryz.prog 178 Z10 Z0,Qc2 Z0=true,Z23=Z23,Z24=Z24,Qa4 Tryz.prog 178 Z10 Z0,Qc2 Z0=true,Z16=Z16,Z25=Z25,Z16=Z16,Z25=Z25,Z16=Z16,Z25=Z25,Z16=Z16,Z25=Z25,Z16=Z16,Z25=Z25,Z16=Z16,Z25=Z25,Z16=Z16,Z25=Z25,Z16=Z16,Z25=Z25,Z26=Z26,Z26=Z26,Z26=Z26,Z26=Z26,Z26=Z26,Z26=Z26,Z26=Z26,Z26=Z26,Z26=Z26,Z26=Z26,Z26=Z26,Z26=Z26,Z27=Z27,Z27=Z27,Z27=Z27,Z27=Z27,Z27=Z27,Z27=Z27,Z27=Z27,Z27=Z27,Z27=Z27,Z27=Z27,Z27=Z27,Z27=Z27,Z2=Z2,Z28=Z28,List.replicate p1.Cells.toNat [.lit (.float .f64 0)]=Z1,AV.sl 1005 0 p1.Cells.toNat=Z2,p1.Cells=p1.Cells,(0:Int)≤p1.Cells,p1.Cells * Z29≤140737488355328,p1.Cells≤140737488355328,Z2=Z2,Z28=Z28,List.replicate p1.Cells.toNat [.lit (.float .f64 0)]=Z1,AV.sl 1005 0 p1.Cells.toNat=Z2,p1.Cells=p1.Cells,(0:Int)≤p1.Cells,p1.Cells * Z29≤140737488355328,p1.Cells≤140737488355328,Z2=Z2,Z28=Z28,List.replicate p1.Cells.toNat [.lit (.float .f64 0)]=Z1,AV.sl 1005 0 p1.Cells.toNat=Z2,p1.Cells=p1.Cells,(0:Int)≤p1.Cells,p1.Cells * Z29≤140737488355328,p1.Cells≤140737488355328,Z2=Z2,Z28=Z28,List.replicate p1.Cells.toNat [.lit (.float .f64 0)]=Z1,AV.sl 1005 0 p1.Cells.toNat=Z2,p1.Cells=p1.Cells,(0:Int)≤p1.Cells,p1.Cells * Z29≤140737488355328,p1.Cells≤140737488355328,Z2=Z2,Z28=Z28,List.replicate p1.Cells.toNat [.lit (.float .f64 0)]=Z1,AV.sl 1005 0 p1.Cells.toNat=Z2,p1.Cells=p1.Cells,(0:Int)≤p1.Cells,p1.Cells * Z29≤140737488355328,p1.Cells≤140737488355328,Z2=Z2,Z28=Z28,List.replicate p1.Cells.toNat [.lit (.float .f64 0)]=Z1,AV.sl 1005 0 p1.Cells.toNat=Z2,p1.Cells=p1.Cells,(0:Int)≤p1.Cells,p1.Cells * Z29≤140737488355328,p1.Cells≤140737488355328,Z2=Z2,Z28=Z28,List.replicate p1.Cells.toNat [.lit (.float .f64 0)]=Z1,AV.sl 1005 0 p1.Cells.toNat=Z2,p1.Cells=p1.Cells,(0:Int)≤p1.Cells,p1.Cells * Z29≤140737488355328,p1.Cells≤140737488355328,Z2=Z2,Z28=Z28,List.replicate p1.Cells.toNat [.lit (.float .f64 0)]=Z1,AV.sl 1005 0 p1.Cells.toNat=Z2,p1.Cells=p1.Cells,(0:Int)≤p1.Cells,p1.Cells * Z29≤140737488355328,p1.Cells≤140737488355328,Z2=Z2,Z28=Z28,List.replicate p1.Cells.toNat [.lit (.float .f64 0)]=Z1,AV.sl 1005 0 p1.Cells.toNat=Z2,p1.Cells=p1.Cells,(0:Int)≤p1.Cells,p1.Cells * Z29≤140737488355328,p1.Cells≤140737488355328,Z2=Z2,Z28=Z28,List.replicate p1.Cells.toNat [.lit (.float .f64 0)]=Z1,AV.sl 1005 0 p1.Cells.toNat=Z2,p1.Cells=p1.Cells,(0:Int)≤p1.Cells,p1.Cells * Z29≤140737488355328,p1.Cells≤140737488355328,Z2=Z2,Z28=Z28,List.replicate p1.Cells.toNat [.lit (.float .f64 0)]=Z1,AV.sl 1005 0 p1.Cells.toNat=Z2,p1.Cells=p1.Cells,(0:Int)≤p1.Cells,p1.Cells * Z29≤140737488355328,p1.Cells≤140737488355328,Z2=Z2,Z28=Z28,List.replicate p1.Cells.toNat [.lit (.float .f64 0)]=Z1,AV.sl 1005 0 p1.Cells.toNat=Z2,p1.Cells=p1.Cells,(0:Int)≤p1.Cells,p1.Cells * Z29≤140737488355328,p1.Cells≤140737488355328,Z30=Z30,Z30=Z30,Z30=Z30,Z30=Z30,Z30=Z30,Z30=Z30,Z30=Z30,Z30=Z30,Z30=Z30,Z30=Z30,Z30=Z30,Z30=Z30,Z31=Z31,Z31=Z31,Z31=Z31,Z31=Z31,Z31=Z31,Z31=Z31,Z31=Z31,Z31=Z31,Z31=Z31,Z31=Z31,Z31=Z31,Z31=Z31,Z4=Z4,Z32=Z32,List.replicate p1.Locks.toNat [.lit (.int .i64 0)]=Z3,AV.sl 1006 0 p1.Locks.toNat=Z4,p1.Locks=p1.Locks,(0:Int)≤p1.Locks,p1.Locks * Z29≤140737488355328,p1.Locks≤140737488355328,Z4=Z4,Z32=Z32,List.replicate p1.Locks.toNat [.lit (.int .i64 0)]=Z3,AV.sl 1006 0 p1.Locks.toNat=Z4,p1.Locks=p1.Locks,(0:Int)≤p1.Locks,p1.Locks * Z29≤140737488355328,p1.Locks≤140737488355328,Z4=Z4,Z32=Z32,List.replicate p1.Locks.toNat [.lit (.int .i64 0)]=Z3,AV.sl 1006 0 p1.Locks.toNat=Z4,p1.Locks=p1.Locks,(0:Int)≤p1.Locks,p1.Locks * Z29≤140737488355328,p1.Locks≤140737488355328,Z4=Z4,Z32=Z32,List.replicate p1.Locks.toNat [.lit (.int .i64 0)]=Z3,AV.sl 1006 0 p1.Locks.toNat=Z4,p1.Locks=p1.Locks,(0:Int)≤p1.Locks,p1.Locks * Z29≤140737488355328,p1.Locks≤140737488355328,Z4=Z4,Z32=Z32,List.replicate p1.Locks.toNat [.lit (.int .i64 0)]=Z3,AV.sl 1006 0 p1.Locks.toNat=Z4,p1.Locks=p1.Locks,(0:Int)≤p1.Locks,p1.Locks * Z29≤140737488355328,p1.Locks≤140737488355328,Z4=Z4,Z32=Z32,List.replicate p1.Locks.toNat [.lit (.int .i64 0)]=Z3,AV.sl 1006 0 p1.Locks.toNat=Z4,p1.Locks=p1.Locks,(0:Int)≤p1.Locks,p1.Locks * Z29≤140737488355328,p1.Locks≤140737488355328,Z4=Z4,Z32=Z32,List.replicate p1.Locks.toNat [.lit (.int .i64 0)]=Z3,AV.sl 1006 0 p1.Locks.toNat=Z4,p1.Locks=p1.Locks,(0:Int)≤p1.Locks,p1.Locks * Z29≤140737488355328,p1.Locks≤140737488355328,Z4=Z4,Z32=Z32,List.replicate p1.Locks.toNat [.lit (.int .i64 0)]=Z3,AV.sl 1006 0 p1.Locks.toNat=Z4,p1.Locks=p1.Locks,(0:Int)≤p1.Locks,p1.Locks * Z29≤140737488355328,p1.Locks≤140737488355328,Z4=Z4,Z32=Z32,List.replicate p1.Locks.toNat [.lit (.int .i64 0)]=Z3,AV.sl 1006 0 p1.Locks.toNat=Z4,p1.Locks=p1.Locks,(0:Int)≤p1.Locks,p1.Locks * Z29≤140737488355328,p1.Locks≤140737488355328,Z4=Z4,Z32=Z32,List.replicate p1.Locks.toNat [.lit (.int .i64 0)]=Z3,AV.sl 1006 0 p1.Locks.toNat=Z4,p1.Locks=p1.Locks,(0:Int)≤p1.Locks,p1.Locks * Z29≤140737488355328,p1.Locks≤140737488355328,Z4=Z4,Z32=Z32,List.replicate p1.Locks.toNat [.lit (.int .i64 0)]=Z3,AV.sl 1006 0 p1.Locks.toNat=Z4,p1.Locks=p1.Locks,(0:Int)≤p1.Locks,p1.Locks * Z29≤140737488355328,p1.Locks≤140737488355328,Z4=Z4,Z32=Z32,List.replicate p1.Locks.toNat [.lit (.int .i64 0)]=Z3,AV.sl 1006 0 p1.Locks.toNat=Z4,p1.Locks=p1.Locks,(0:Int)≤p1.Locks,p1.Locks * Z29≤140737488355328,p1.Locks≤140737488355328,Z33=Z33,Z33=Z33,Z34=Z34,Z35=Z35,Z34=Z34,Z35=Z35,Z34=Z34,Z35=Z35,Z34=Z34,Z35=Z35,Z34=Z34,Z35=Z35,Z34=Z34,Z35=Z35,Z34=Z34,Z35=Z35,Z34=Z34,Z35=Z35,Z34=Z34,Z35=Z35,Z34=Z34,Z35=Z35,Z34=Z34,Z35=Z35,Z34=Z34,Z35=Z35,AV.lit (.int .i64 ((Z3.length:Nat) : Int))=Z5,[[nS,nS,nS,(I 0)]]=List.replicate 1 ([]++AV.lit (.slice none 0 0) :: [nS,nS,(I 0)]),List.replicate 1 ([]++AV.own 70 6 [] :: [nS,nS,(I 0)])=Z7,Z7=List.replicate 1 ([Z6]++AV.lit (.slice none 0 0) :: [nS,(I 0)]),List.replicate 1 ([Z6]++AV.own 132 1 [] :: [nS,(I 0)])=Z9,Z9=List.replicate 1 ([Z6,Z8]++AV.lit (.slice none 0 0) :: Z10),List.replicate 1 ([Z6,Z8]++AV.own 3 1 [] :: Z10)=Z11,[Z14][0]? = some Z14,Z14[5]? = some Z13,Qa2 Z12=true,[Z14].set 0 (Z14.set 5 (AV.own 132 1 Z12))=Z15,[Z17][0]? = some Z17,Z17[0]? = some (AV.sl 1004 0 Z15.length),Qa2 Z15=true,[Z17].set 0 (Z17.set 0 Z18)=[Z19],[Z19][0]? = some Z19,Z19[1]? = some Z2,Qa2 Z1=true,[Z19].set 0 (Z19.set 1 Z20)=[Z21],[Z21][0]? = some Z21,Z21[2]? = some Z4,Qa2 Z3=true,[Z21].set 0 (Z21.set 2 (AV.own 3 1 Z3))=Z22,Qa8 [(1002,1),(1007,2)] Z11,Qa8 [(1002,1),(1007,2)] Z22] ⟨rfl,rfl,(Qc7 hr2),(by simp +zetaDelta only [Qc2,Qbm,Qa9 Qe7,o70,Bool.and_self]),rfl,rfl,(Qc7 hr2),(by simp +zetaDelta only [Qc2,Qbm,Qa9 Qe7,o70,Bool.and_self]),rfl,rfl,(Qc7 hr2),(by simp +zetaDelta only [Qc2,Qbm,Qa9 Qe7,o70,Bool.and_self]),rfl,rfl,(Qc7 hr2),(by simp +zetaDelta only [Qc2,Qbm,Qa9 Qe7,o70,Bool.and_self]),rfl,rfl,(Qc7 hr2),(by simp +zetaDelta only [Qc2,Qbm,Qa9 Qe7,o70,Bool.and_self]),rfl,rfl,(Qc7 hr2),(by simp +zetaDelta only [Qc2,Qbm,Qa9 Qe7,o70,Bool.and_self]),rfl,rfl,(Qc7 hr2),(by simp +zetaDelta only [Qc2,Qbm,Qa9 Qe7,o70,Bool.and_self]),rfl,rfl,(Qc7 hr2),(by simp +zetaDelta only [Qc2,Qbm,Qa9 Qe7,o70,Bool.and_self]),rfl,rfl,rfl,rfl,rfl,rfl,rfl,rfl,rfl,rfl,rfl,rfl,rfl,rfl,rfl,rfl,rfl,rfl,rfl,rfl,rfl,rfl,rfl,rfl,rfl,rfl,rfl,rfl,rfl,rfl,rfl,rfl,rfl,rfl,rfl,rfl,rfl,rfl,rfl,rfl,rfl,rfl,(mkM Qae hl3),(mkS Qae hl3),rfl,(mk0 hl3),(mkB hl3 (by decide)),(mkC hl3),rfl,rfl,(mkM Qae hl3),(mkS Qae hl3),rfl,(mk0 hl3),(mkB hl3 (by decide)),(mkC hl3),rfl,rfl,(mkM Qae hl3),(mkS Qae hl3),rfl,(mk0 hl3),(mkB hl3 (by decide)),(mkC hl3),rfl,rfl,(mkM Qae hl3),(mkS Qae hl3),rfl,(mk0 hl3),(mkB hl3 (by decide)),(mkC hl3),rfl,rfl,(mkM Qae hl3),(mkS Qae hl3),rfl,(mk0 hl3),(mkB hl3 (by decide)),(mkC hl3),rfl,rfl,(mkM Qae hl3),(mkS Qae hl3),rfl,(mk0 hl3),(mkB hl3 (by decide)),(mkC hl3),rfl,rfl,(mkM Qae hl3),(mkS Qae hl3),rfl,(mk0 hl3),(mkB hl3 (by decide)),(mkC hl3),rfl,rfl,(mkM Qae hl3),(mkS Qae hl3),rfl,(mk0 hl3),(mkB hl3 (by decide)),(mkC hl3),rfl,rfl,(mkM Qae hl3),(mkS Qae hl3),rfl,(mk0 hl3),(mkB hl3 (by decide)),(mkC hl3),rfl,rfl,(mkM Qae hl3),(mkS Qae hl3),rfl,(mk0 hl3),(mkB hl3 (by decide)),(mkC hl3),rfl,rfl,(mkM Qae hl3),(mkS Qae hl3),rfl,(mk0 hl3),(mkB hl3 (by decide)),(mkC hl3),rfl,rfl,(mkM Qae hl3),(mkS Qae hl3),rfl,(mk0 hl3),(mkB hl3 (by decide)),(mkC hl3),rfl,rfl,rfl,rfl,rfl,rfl,rfl,rfl,rfl,rfl,rfl,rfl,rfl,rfl,rfl,rfl,rfl,rfl,rfl,rfl,rfl,rfl,rfl,rfl,rfl,rfl,(mkM o3 hl4),(mkS o3 hl4),rfl,(mk0 hl4),(mkB hl4 (by decide)),(mkC hl4),rfl,rfl,(mkM o3 hl4),(mkS o3 hl4),rfl,(mk0 hl4),(mkB hl4 (by decide)),(mkC hl4),rfl,rfl,(mkM o3 hl4),(mkS o3 hl4),rfl,(mk0 hl4),(mkB hl4 (by decide)),(mkC hl4),rfl,rfl,(mkM o3 hl4),(mkS o3 hl4),rfl,(mk0 hl4),(mkB hl4 (by decide)),(mkC hl4),rfl,rfl,(mkM o3 hl4),(mkS o3 hl4),rfl,(mk0 hl4),(mkB hl4 (by decide)),(mkC hl4),rfl,rfl,(mkM o3 hl4),(mkS o3 hl4),rfl,(mk0 hl4),(mkB hl4 (by decide)),(mkC hl4),rfl,rfl,(mkM o3 hl4),(mkS o3 hl4),rfl,(mk0 hl4),(mkB hl4 (by decide)),(mkC hl4),rfl,rfl,(mkM o3 hl4),(mkS o3 hl4),rfl,(mk0 hl4),(mkB hl4 (by decide)),(mkC hl4),rfl,rfl,(mkM o3 hl4),(mkS o3 hl4),rfl,(mk0 hl4),(mkB hl4 (by decide)),(mkC hl4),rfl,rfl,(mkM o3 hl4),(mkS o3 hl4),rfl,(mk0 hl4),(mkB hl4 (by decide)),(mkC hl4),rfl,rfl,(mkM o3 hl4),(mkS o3 hl4),rfl,(mk0 hl4),(mkB hl4 (by decide)),(mkC hl4),rfl,rfl,(mkM o3 hl4),(mkS o3 hl4),rfl,(mk0 hl4),(mkB hl4 (by decide)),(mkC hl4),rfl,rfl,rfl,rfl,rfl,rfl,rfl,rfl,rfl,rfl,rfl,rfl,rfl,rfl,rfl,rfl,rfl,rfl,rfl,rfl,rfl,rfl,rfl,rfl,rfl,rfl,(Qby o3),rfl,rfl,rfl,rfl,rfl,rfl,rfl,rfl,(Qab Qbs),rfl,rfl,(pkS lnq),(Qab t70),rfl,rfl,rfl,(Qab Qbs),rfl,rfl,rfl,(Qab t3),rfl,(rok (Qai t44 Z36)),(rok (Qai t44 Z37)),trivial⟩ (Qvl hP hn hx l4 FU Z36 Z37 0 _ h))
noncomputable def Xey:Code:=match Tryz.f121.body with | some c=>c | none=>.skip
noncomputable def Qbc  (p2:Int) (p3:(List Int)) : Nat→Qaf→Qbi→Qbi→Int→Option (Qbi×Bool)
 | 0,_,_,_,_=>none
 | n+1,a5,a6,a7,v8 =>
 Option.bind (Qbz a7.End a5) fun r9 =>
 Option.bind (Qkg a5 a7.End r9 v8 p2) fun r10 =>
 if (r10 != 0)=true then
  Option.bind (Qfe (Qa1.mk a7.End.Threads a7.End.Cells a7.End.Owner a7.End.Fault)) fun r12 =>
  some ((Qbi.mk r10 a7.Trace a7.Picks (Qa1.mk r12.Threads r12.Cells r12.Owner r12.Fault)),true)
 else
  Option.bind (Qgt r9 v8 p3) fun r14 =>
  if (decide (r14<0))=true then
   some ((Qbi.mk 0 [] [] (Qa1.mk [] [] [] 0)),false)
  else
   Option.bind (app a7.Picks [r14]) fun l17 =>
   Option.bind (rd r9 r14) fun x18 =>
   Option.bind (Qbv a7.End a5 x18) fun r19 =>
   Option.bind (app a7.Trace [r19.1]) fun l20 =>
   Qbc p2 p3 n a5 a6 (Qbi.mk r10 l20 l17 r19.2) (w64 (v8+1))
theorem Qjd {E:Env} (hP:E.pk=pk0 Tryz.prog) (hn:E.n=62) (hx:FX E []) (p2:Int) (p3:(List Int))  : ∀ (n:Nat) (a5:Qaf) (a6:Qbi) (a7:Qbi) (v8:Int) (r:(Qbi×Bool)),Qbc p2 p3 n a5 a6 a7 v8=some r→WAt E Xey (FQ (Qdj Θ Tryz.f121.results.toList [] [] (AV.tup [(AV.agg (o46 r.1)),(B r.2)]) E)) [true,true,true,false] ⟨[(1,(I p2)),(2,(AV.fn 152 [(AV.rop (r26 p3) 0)])),(3,(AV.ptr 1 0 0)),(6,(AV.ptr 2 0 0)),(8,(AV.ptr 3 0 0)),(9,(I v8))],[(1,some ⟨39,4,[((r39 a5))]⟩),(2,some ⟨46,7,[((o46 a6))]⟩),(3,some ⟨46,7,[((o46 a7))]⟩)],[1,2,3,JJ]⟩:=by
 have hm:E.P.follows .mixedOrders=true:=by rw [pkP hP];exact Xe2
 have hΘ:TOK E.P Θ:=by rw [pkP hP];exact Xbu
 intro n
 induction n with
 | zero=>intro a5 a6 a7 v8 r h;simp only [Qbc] at h;cases h
 | succ n ih =>
  intro a5 a6 a7 v8 r h
  simp only [Qbc] at h
  obtain ⟨r9,hr9,h⟩:=bnS h
  obtain ⟨r10,hr10,h⟩:=bnS h
  let Z0:=o46 a7;let Z1:=r9.map o3;let Z2:=AV.own 3 1 Z1;let Z3:=I r10;let Z4:=(Z1.drop 0).take Z1.length;let Z5:=a7.Trace.map o60;let Z6:=a7.Picks.map o3;let Z7:=AV.own 3 1 Z6;let Z8:=[Z3,(AV.own 60 5 Z5),Z7]++(o44 a7.End);let Z9:=AV.sl 1002 0 Z5.length;let Z10:=[Z3,Z9,Z7]++(o44 a7.End);let Z11:=AV.sl 1003 0 Z6.length;let Z12:=[Z3,Z9,Z11]++(o44 a7.End);let Z13:=a7.End.Threads.map o70;let Z14:=AV.sl 1004 0 Z13.length;let Z15:=a7.End.Cells.map Qae;let Z16:=a7.End.Owner.map o3;let Z17:=AV.own 3 1 Z16;let Z18:=I a7.End.Fault;let Z19:=[Z3,Z9,Z11,Z14,(AV.own 132 1 Z15),Z17,Z18];let Z20:=AV.sl 1005 0 Z15.length;let Z21:=[Z3,Z9,Z11,Z14,Z20,Z17,Z18];let Z22:=AV.sl 1006 0 Z16.length;let Z23:=[[Z3,Z9,Z11,Z14,Z20,Z22,Z18]];let Z24:=a7.End.Threads.map r70
  let H1:List Hn:=[hh 2 (.call [[Z0,(r46 a7)],[]] Z2 [1001]),hh 9 (.callV [[],[Z0,(r46 a7)],Z1] Z3)]
  let P2:List Prop:=[Qa4 Tryz.prog 89 [(AV.rop (r46 a7) 3),(AV.agg ((r39 a5)))] Z2,Qc2 Z2=true,[Z0][0]? = some Z0,Qcy Z0=true,Qjr Z0=(r46 a7),Qa4 Tryz.prog 184 [(AV.agg ((r39 a5))),(AV.rop (r46 a7) 3),(AV.ro 1 Z1),(I v8),(I p2)] Z3,Qa3 Z3=true,[Z0][0]? = some Z0,Qcy Z0=true,Qjr Z0=(r46 a7),Frz Z4 Z1]
  have AP2:Qam P2:=⟨(Qgp hr9),(by simp +zetaDelta only [Qc2,Qbm,Qa9 n3,Bool.and_self]),rfl,rfl,(z46 a7),(Qju hr10),rfl,rfl,rfl,(z46 a7),(Qfx t3 z3),trivial⟩
  rcases itS h with ⟨c11,h⟩ | ⟨c13,h⟩
  ·obtain ⟨r12,hr12,h⟩:=bnS h
   obtain rfl:=sj h
   exact (let Z25:=AV.agg (o44 r12);let Z26:=r12.Threads.map o70;let Z27:=r12.Cells.map Qae;let Z28:=r12.Owner.map o3;let Z29:=I r12.Fault;gR hP hn (H1++[hT 15,hh 17 (.unpack 3 1002 0 1 Z8 60 5 Z5 [Z10]),hh 17 (.unpack 3 1003 0 2 Z10 3 1 Z6 [Z12]),hh 17 (.unpack 3 1004 0 3 Z12 70 6 Z13 [Z19]),hh 17 (.unpack 3 1005 0 4 Z19 132 1 Z15 [Z21]),hh 17 (.unpack 3 1006 0 5 Z21 3 1 Z16 Z23),hh 18 (.call [[],Z24,Z15,Z16] Z25 [1007,1008,1009])]) [] (.agg [.agg [.raw,.own,.own,.own,.own,.own,.raw],.raw]) (P2++[(r10 != 0)=true,[Z8][0]? = some Z8,Z8[1]? = some (AV.own 60 5 Z5),0<5,[Z8].set 0 (Z8.set 1 Z9)=[Z10],[Z10][0]? = some Z10,Z10[2]? = some Z7,0<1,[Z10].set 0 (Z10.set 2 Z11)=[Z12],[Z12][0]? = some Z12,Z12[3]? = some (AV.own 70 6 Z13),0<6,[Z12].set 0 (Z12.set 3 Z14)=[Z19],[Z19][0]? = some Z19,Z19[4]? = some (AV.own 132 1 Z15),0<1,[Z19].set 0 (Z19.set 4 Z20)=[Z21],[Z21][0]? = some Z21,Z21[5]? = some Z17,0<1,[Z21].set 0 (Z21.set 5 Z22)=Z23,Qa4 Tryz.prog 90 [(AV.agg [(AV.ro 6 Z24),(AV.ro 1 Z15),(AV.ro 1 Z16),Z18])] Z25,Qc2 Z25=true,Frz ((Z13.drop 0).take Z13.length) Z24,Frz ((Z15.drop 0).take Z15.length) Z15,Frz ((Z16.drop 0).take Z16.length) Z16,Z3=Z3,Qa3 Z3=true,Qa2 (Z5.take Z5.length)=true,Z5.take Z5.length=Z5,Qa6 Z5=true,Qa2 (Z6.take Z6.length)=true,Z6.take Z6.length=Z6,Qa6 Z6=true,Qa2 (Z26.take Z26.length)=true,Z26.take Z26.length=Z26,Qa6 Z26=true,Qa2 (Z27.take Z27.length)=true,Z27.take Z27.length=Z27,Qa6 Z27=true,Qa2 (Z28.take Z28.length)=true,Z28.take Z28.length=Z28,Qa6 Z28=true,Z29=Z29,Qa3 Z29=true,(B true)=(B true),Qa3 (B true)=true]) (Qa7 AP2 ⟨c11,rfl,rfl,(by decide),rfl,rfl,rfl,(by decide),rfl,rfl,rfl,(by decide),rfl,rfl,rfl,(by decide),rfl,rfl,rfl,(by decide),rfl,(Qqa hr12),(by simp +zetaDelta only [Qc2,Qbm,Qa9 n3,Qa9 n70,Qa9 Qe7,o44,Bool.and_self]),(Qfx t70 z70),(Qfx Qbs Qqn),(Qfx t3 z3),rfl,rfl,(Qb7 t60),Qb6,(Qa9 n60),(Qb7 t3),Qb6,(Qa9 n3),(Qb7 t70),Qb6,(Qa9 n70),(Qb7 Qbs),Qb6,(Qa9 Qe7),(Qb7 t3),Qb6,(Qa9 n3),rfl,rfl,rfl,rfl,trivial⟩))
  ·obtain ⟨r14,hr14,h⟩:=bnS h
   rcases itS h with ⟨c15,h⟩ | ⟨c16,h⟩
   ·obtain rfl:=sj h
    exact gR hP hn (H1++[hF 15,hh 19 (.callV [Z1] (I r14)),hT 23]) [] (.agg [.agg [.raw,.own,.own,.own,.own,.own,.raw],.raw]) (P2++[(r10 != 0)=false,Qa4 Tryz.prog 152 [(AV.ro 1 Z1),(I v8),(AV.rop (r26 p3) 0)] (I r14),Qa3 (I r14)=true,Frz Z4 Z1,(decide (r14<0))=true,(I 0)=(I 0),Qa3 (I 0)=true,(I 0)=(I 0),Qa3 (I 0)=true,(B false)=(B false),Qa3 (B false)=true]) (Qa7 AP2 ⟨c13,(Qlr hr14),rfl,(Qfx t3 z3),c15,rfl,rfl,rfl,rfl,rfl,rfl,trivial⟩)
   ·obtain ⟨l17,hl17,h⟩:=bnS h
    obtain ⟨x18,hx18,h⟩:=bnS h
    obtain ⟨r19,hr19,h⟩:=bnS h
    obtain ⟨l20,hl20,h⟩:=bnS h
    exact go_to hΘ hm hx hP hn (hs:=[hh 2 (.call [[((o46 a7)),(r46 a7)],[]] (AV.own 3 1 (r9.map o3)) [1001]),hh 9 (.callV [[],[((o46 a7)),(r46 a7)],(r9.map o3)] (I r10)),hF 15,hh 19 (.callV [(r9.map o3)] (I r14)),hF 23,hh 25 (.unpack 3 1010 0 2 ([(I r10),(AV.own 60 5 (a7.Trace.map o60)),(AV.own 3 1 (a7.Picks.map o3))]++(o44 a7.End)) 3 1 (a7.Picks.map o3) [([(I r10),(AV.own 60 5 (a7.Trace.map o60)),(AV.sl 1010 0 (a7.Picks.map o3).length)]++(o44 a7.End))]),hW 27 1011,hh 28 (.app 1012 (l17.map o3)),hh 31 (.unpack 3 1013 0 1 ([(I r10),(AV.own 60 5 (a7.Trace.map o60)),(AV.sl 1012 0 (l17.map o3).length)]++(o44 a7.End)) 60 5 (a7.Trace.map o60) [([(I r10),(AV.sl 1013 0 (a7.Trace.map o60).length),(AV.sl 1012 0 (l17.map o3).length)]++(o44 a7.End))]),hh 38 (.row [(I x18)]),hh 39 (.callO 3 46 7 [1,2] ([(I r10),(AV.sl 1013 0 (a7.Trace.map o60).length),(AV.sl 1012 0 (l17.map o3).length)]++(o44 a7.End)) ([(I r10),(AV.sl 1013 0 (a7.Trace.map o60).length),(AV.sl 1012 0 (l17.map o3).length)]++(o44 r19.2)) [[]] (AV.agg (o60 r19.1)) (AV.agg ((o60 r19.1)))),hW 40 1014,hh 45 (.app 1015 (l20.map o60)),hh 51 (.pack 3 1015 0 1 ([(I r10),(AV.sl 1015 0 (l20.map o60).length),(AV.sl 1012 0 (l17.map o3).length)]++(o44 r19.2)) [([(I r10),(AV.own 60 5 (l20.map o60)),(AV.sl 1012 0 (l17.map o3).length)]++(o44 r19.2))]),hh 51 (.pack 3 1012 0 2 ([(I r10),(AV.own 60 5 (l20.map o60)),(AV.sl 1012 0 (l17.map o3).length)]++(o44 r19.2)) [([(I r10),(AV.own 60 5 (l20.map o60)),(AV.own 3 1 (l17.map o3))]++(o44 r19.2))])]) (π:=[(1,1),(2,2),(3,3)]) (ts:=[1,2,3,6,8,9]) (kp:=[]) (ps:=[Qa4 Tryz.prog 89 [(AV.rop (r46 a7) 3),(AV.agg ((r39 a5)))] (AV.own 3 1 (r9.map o3)),Qc2 (AV.own 3 1 (r9.map o3))=true,[((o46 a7))][0]? = some ((o46 a7)),Qcy ((o46 a7))=true,Qjr ((o46 a7))=(r46 a7),Qa4 Tryz.prog 184 [(AV.agg ((r39 a5))),(AV.rop (r46 a7) 3),(AV.ro 1 (r9.map o3)),(I v8),(I p2)] (I r10),Qa3 (I r10)=true,[((o46 a7))][0]? = some ((o46 a7)),Qcy ((o46 a7))=true,Qjr ((o46 a7))=(r46 a7),Frz (((r9.map o3).drop 0).take (r9.map o3).length) (r9.map o3),(r10 != 0)=false,Qa4 Tryz.prog 152 [(AV.ro 1 (r9.map o3)),(I v8),(AV.rop (r26 p3) 0)] (I r14),Qa3 (I r14)=true,Frz (((r9.map o3).drop 0).take (r9.map o3).length) (r9.map o3),(decide (r14<0))=false,[([(I r10),(AV.own 60 5 (a7.Trace.map o60)),(AV.own 3 1 (a7.Picks.map o3))]++(o44 a7.End))][0]? = some ([(I r10),(AV.own 60 5 (a7.Trace.map o60)),(AV.own 3 1 (a7.Picks.map o3))]++(o44 a7.End)),([(I r10),(AV.own 60 5 (a7.Trace.map o60)),(AV.own 3 1 (a7.Picks.map o3))]++(o44 a7.End))[2]? = some (AV.own 3 1 (a7.Picks.map o3)),0<1,[([(I r10),(AV.own 60 5 (a7.Trace.map o60)),(AV.own 3 1 (a7.Picks.map o3))]++(o44 a7.End))].set 0 (([(I r10),(AV.own 60 5 (a7.Trace.map o60)),(AV.own 3 1 (a7.Picks.map o3))]++(o44 a7.End)).set 2 (AV.sl 1010 0 (a7.Picks.map o3).length))=[([(I r10),(AV.own 60 5 (a7.Trace.map o60)),(AV.sl 1010 0 (a7.Picks.map o3).length)]++(o44 a7.End))],(a7.Picks.map o3).take (a7.Picks.map o3).length++((([r14].map o3).drop 0).take ([r14].map o3).length)=(l17.map o3),((([r14].map o3).drop 0).take ([r14].map o3).length).all (fun r=>r.all AV.plain)=true,(l17.map o3).length * 8≤140737488355328,(l17.map o3).length≤140737488355328,[([(I r10),(AV.own 60 5 (a7.Trace.map o60)),(AV.sl 1012 0 (l17.map o3).length)]++(o44 a7.End))][0]? = some ([(I r10),(AV.own 60 5 (a7.Trace.map o60)),(AV.sl 1012 0 (l17.map o3).length)]++(o44 a7.End)),([(I r10),(AV.own 60 5 (a7.Trace.map o60)),(AV.sl 1012 0 (l17.map o3).length)]++(o44 a7.End))[1]? = some (AV.own 60 5 (a7.Trace.map o60)),0<5,[([(I r10),(AV.own 60 5 (a7.Trace.map o60)),(AV.sl 1012 0 (l17.map o3).length)]++(o44 a7.End))].set 0 (([(I r10),(AV.own 60 5 (a7.Trace.map o60)),(AV.sl 1012 0 (l17.map o3).length)]++(o44 a7.End)).set 1 (AV.sl 1013 0 (a7.Trace.map o60).length))=[([(I r10),(AV.sl 1013 0 (a7.Trace.map o60).length),(AV.sl 1012 0 (l17.map o3).length)]++(o44 a7.End))],(0:Int)≤r14,r14<(((r9.map o3).length:Nat) : Int),(r9.map o3)[r14.toNat]? = some [(I x18)],∀ V:Nat→Value,Qlq (pk0 Tryz.prog) 91 [⟨46,7,[(hid V [1,2] 0 ([(I r10),(AV.sl 1013 0 (a7.Trace.map o60).length),(AV.sl 1012 0 (l17.map o3).length)]++(o44 a7.End)))]⟩] [(AV.ptr 0 0 3),(AV.agg ((r39 a5))),(I x18)] [true] [⟨46,7,[(hid V [1,2] 0 ([(I r10),(AV.sl 1013 0 (a7.Trace.map o60).length),(AV.sl 1012 0 (l17.map o3).length)]++(o44 r19.2)))]⟩] (AV.agg (o60 r19.1)),some (Qas.mk 46 7 [([(I r10),(AV.sl 1013 0 (a7.Trace.map o60).length),(AV.sl 1012 0 (l17.map o3).length)]++(o44 a7.End))])=some (Qas.mk 46 7 [([(I r10),(AV.sl 1013 0 (a7.Trace.map o60).length),(AV.sl 1012 0 (l17.map o3).length)]++(o44 a7.End))]),([(I r10),(AV.sl 1013 0 (a7.Trace.map o60).length),(AV.sl 1012 0 (l17.map o3).length)]++(o44 a7.End)).length=([(I r10),(AV.sl 1013 0 (a7.Trace.map o60).length),(AV.sl 1012 0 (l17.map o3).length)]++(o44 r19.2)).length,∀ V:Nat→Value,(Qa2 [(hid V [1,2] 0 ([(I r10),(AV.sl 1013 0 (a7.Trace.map o60).length),(AV.sl 1012 0 (l17.map o3).length)]++(o44 a7.End)))]=true∧Qa6 [(hid V [1,2] 0 ([(I r10),(AV.sl 1013 0 (a7.Trace.map o60).length),(AV.sl 1012 0 (l17.map o3).length)]++(o44 a7.End)))]=true),(rtf (Ql3 [(0,3)] (AV.agg (o60 r19.1))) []).1=(AV.agg ((o60 r19.1))),(rtf (Ql3 [(0,3)] (AV.agg (o60 r19.1))) []).2.1=[],(AV.ptr 3 0 1)=(AV.ptr 3 0 1),(AV.ptr 3 0 1)=(AV.ptr 3 0 1),(AV.sl 1013 0 (a7.Trace.map o60).length)=(AV.sl 1013 0 (a7.Trace.map o60).length),(AV.sl 1013 0 (a7.Trace.map o60).length)=(AV.sl 1013 0 (a7.Trace.map o60).length),(a7.Trace.map o60).take (a7.Trace.map o60).length++((([r19.1].map o60).drop 0).take ([r19.1].map o60).length)=(l20.map o60),((([r19.1].map o60).drop 0).take ([r19.1].map o60).length).all (fun r=>r.all AV.plain)=true,(l20.map o60).length * 40≤140737488355328,(l20.map o60).length≤140737488355328,[([(I r10),(AV.sl 1015 0 (l20.map o60).length),(AV.sl 1012 0 (l17.map o3).length)]++(o44 r19.2))][0]? = some ([(I r10),(AV.sl 1015 0 (l20.map o60).length),(AV.sl 1012 0 (l17.map o3).length)]++(o44 r19.2)),([(I r10),(AV.sl 1015 0 (l20.map o60).length),(AV.sl 1012 0 (l17.map o3).length)]++(o44 r19.2))[1]? = some (AV.sl 1015 0 (l20.map o60).length),Qa2 (l20.map o60)=true,[([(I r10),(AV.sl 1015 0 (l20.map o60).length),(AV.sl 1012 0 (l17.map o3).length)]++(o44 r19.2))].set 0 (([(I r10),(AV.sl 1015 0 (l20.map o60).length),(AV.sl 1012 0 (l17.map o3).length)]++(o44 r19.2)).set 1 (AV.own 60 5 (l20.map o60)))=[([(I r10),(AV.own 60 5 (l20.map o60)),(AV.sl 1012 0 (l17.map o3).length)]++(o44 r19.2))],[([(I r10),(AV.own 60 5 (l20.map o60)),(AV.sl 1012 0 (l17.map o3).length)]++(o44 r19.2))][0]? = some ([(I r10),(AV.own 60 5 (l20.map o60)),(AV.sl 1012 0 (l17.map o3).length)]++(o44 r19.2)),([(I r10),(AV.own 60 5 (l20.map o60)),(AV.sl 1012 0 (l17.map o3).length)]++(o44 r19.2))[2]? = some (AV.sl 1012 0 (l17.map o3).length),Qa2 (l17.map o3)=true,[([(I r10),(AV.own 60 5 (l20.map o60)),(AV.sl 1012 0 (l17.map o3).length)]++(o44 r19.2))].set 0 (([(I r10),(AV.own 60 5 (l20.map o60)),(AV.sl 1012 0 (l17.map o3).length)]++(o44 r19.2)).set 2 (AV.own 3 1 (l17.map o3)))=[([(I r10),(AV.own 60 5 (l20.map o60)),(AV.own 3 1 (l17.map o3))]++(o44 r19.2))],Qa8 [(1,1),(2,2),(3,3)] [((r39 a5))],Qa8 [(1,1),(2,2),(3,3)] [((o46 a6))],Qa8 [(1,1),(2,2),(3,3)] [([(I r10),(AV.own 60 5 (l20.map o60)),(AV.own 3 1 (l17.map o3))]++(o44 r19.2))]]) (by kernel_rfl) ⟨(Qgp hr9),(by simp only [Qc2,Qbm,Qa9 n3,Bool.and_self]),rfl,rfl,(z46 a7),(Qju hr10),rfl,rfl,rfl,(z46 a7),(Qfx t3 z3),c13,(Qlr hr14),rfl,(Qfx t3 z3),c16,rfl,rfl,(by decide),rfl,(Qix o3 hl17),(plD pa3),(Qn2 o3 hl17 (by decide)),(Qn1 o3 hl17),rfl,rfl,(by decide),rfl,(rd0 hx18),(rdL o3 hx18),(rdM o3 hx18),(fun V=>mK (cOq (Qm6 (V0:=(.int .i64 r10)) (V1:=(V 1)) (V2:=(V 2)) hr19) (by kernel_rfl) (by kernel_rfl))),rfl,rfl,(fun V=>⟨(by kernel_rfl),cNq (Qhl n44 [(AV.lit (.int .i64 r10)),(AV.lit (V 1)),(AV.lit (V 2))] rfl a7.End) (by kernel_rfl)⟩),rfl,rfl,rfl,rfl,rfl,rfl,(Qix o60 hl20),(plD pa60),(Qn2 o60 hl20 (by decide)),(Qn1 o60 hl20),rfl,rfl,(Qab t60),rfl,rfl,rfl,(Qab t3),rfl,(rok (Qai t39 a5)),(rok (Qai t46 a6)),(rok (Qai t46 (Qbi.mk r10 l20 l17 r19.2))),trivial⟩ (ih a5 a6 (Qbi.mk r10 l20 l17 r19.2) (w64 (v8+1)) _ h)
noncomputable def Qdc (p1:Qaf) (p2:Int) (p3:(List Int)) : Option (Qbi×Bool):=
 Option.bind (Qg5 p1) fun r4 =>
 Qbc p2 p3 FU p1 (Qbi.mk 0 [] [] (Qa1.mk [] [] [] 0)) (Qbi.mk 0 [] [] (Qa1.mk r4.Threads r4.Cells r4.Owner r4.Fault)) 0
theorem Qki {p1:Qaf} {p2:Int} {p3:(List Int)} {r:(Qbi×Bool)} (h:Qdc p1 p2 p3=some r) : Qa4 Tryz.prog 121 [(AV.agg ((r39 p1))),(I p2),(AV.fn 152 [(AV.rop (r26 p3) 0)])] (AV.tup [(AV.agg (o46 r.1)),(B r.2)]):=by
 refine gM Tryz.func121 62 Xey fun E hP hn hx=>?_
 unfold Qdc at h
 obtain ⟨r4,hr4,h⟩:=bnS h
 exact (let Z0:=AV.agg (o44 r4);let Z1:=I 0;let Z2:=AV.own 60 5 ([].map o60);let Z3:=[[Z1,Z2,nS,nS,nS,nS,Z1]];let Z4:=AV.own 3 1 ([].map o3);let Z5:=[[Z1,Z2,Z4,nS,nS,nS,Z1]];let Z6:=AV.own 70 6 ([].map o70);let Z7:=[[Z1,Z2,Z4,Z6,nS,nS,Z1]];let Z8:=[Z1,Z2,Z4,Z6];let Z9:=AV.own 132 1 ([].map Qae);let Z10:=[[Z1,Z2,Z4,Z6,Z9,nS,Z1]];let Z11:=[Z1,Z2,Z4,Z6,Z9];let Z12:=[[Z1,Z2,Z4,Z6,Z9,Z4,Z1]];let Z13:=AV.sl 1003 0 ([].map o60).length;let Z14:=AV.sl 1004 0 ([].map o3).length;let Z15:=r4.Threads.map o70;let Z16:=AV.sl 1005 0 Z15.length;let Z17:=r4.Cells.map Qae;let Z18:=AV.sl 1006 0 Z17.length;let Z19:=r4.Owner.map o3;let Z20:=AV.sl 1007 0 Z19.length;let Z21:=I r4.Fault;let Z22:=[Z1,Z13,Z14,Z16,Z18,Z20,Z21];let Z23:=[Z1,Z2,Z14,Z16,Z18,Z20,Z21];let Z24:=[Z1,Z2,Z4,Z16,Z18,Z20,Z21];let Z25:=AV.own 70 6 Z15;let Z26:=[Z1,Z2,Z4,Z25,Z18,Z20,Z21];let Z27:=AV.own 132 1 Z17;let Z28:=[Z1,Z2,Z4,Z25,Z27,Z20,Z21];let Z29:=[[Z1,Z2,Z4,Z25,Z27,(AV.own 3 1 Z19),Z21]];let Z30:=Qbi.mk 0 [] [] (Qa1.mk [] [] [] 0);let Z31:=Qbi.mk 0 [] [] (Qa1.mk r4.Threads r4.Cells r4.Owner r4.Fault);gT hP hn hx [hW 0 1001,hW 1 1002,hW 3 1003,hW 4 1004,hh 6 (.call [[]] Z0 [1005,1006,1007]),hW 8 1008,hh 11 (.own0 1002 1 [Z1] [nS,nS,nS,nS,Z1] 60 5 Z3),hh 11 (.own0 1002 1 [Z1,Z2] [nS,nS,nS,Z1] 3 1 Z5),hh 11 (.own0 1002 1 [Z1,Z2,Z4] [nS,nS,Z1] 70 6 Z7),hh 11 (.own0 1002 1 Z8 [nS,Z1] 132 1 Z10),hh 11 (.own0 1002 1 Z11 [Z1] 3 1 Z12),hh 11 (.pack 1008 1003 0 1 Z22 [Z23]),hh 11 (.pack 1008 1004 0 2 Z23 [Z24]),hh 11 (.pack 1008 1005 0 3 Z24 [Z26]),hh 11 (.pack 1008 1006 0 4 Z26 [Z28]),hh 11 (.pack 1008 1007 0 5 Z28 Z29)] [(1001,1),(1002,2),(1008,3)] [1,2,3,6,8,9] [] [Qa4 Tryz.prog 108 [(AV.agg ((r39 p1)))] Z0,Qc2 Z0=true,[[Z1,nS,nS,nS,nS,nS,Z1]]=List.replicate 1 ([Z1]++AV.lit (.slice none 0 0) :: [nS,nS,nS,nS,Z1]),List.replicate 1 ([Z1]++AV.own 60 5 [] :: [nS,nS,nS,nS,Z1])=Z3,Z3=List.replicate 1 ([Z1,Z2]++AV.lit (.slice none 0 0) :: [nS,nS,nS,Z1]),List.replicate 1 ([Z1,Z2]++AV.own 3 1 [] :: [nS,nS,nS,Z1])=Z5,Z5=List.replicate 1 ([Z1,Z2,Z4]++AV.lit (.slice none 0 0) :: [nS,nS,Z1]),List.replicate 1 ([Z1,Z2,Z4]++AV.own 70 6 [] :: [nS,nS,Z1])=Z7,Z7=List.replicate 1 (Z8++AV.lit (.slice none 0 0) :: [nS,Z1]),List.replicate 1 (Z8++AV.own 132 1 [] :: [nS,Z1])=Z10,Z10=List.replicate 1 (Z11++AV.lit (.slice none 0 0) :: [Z1]),List.replicate 1 (Z11++AV.own 3 1 [] :: [Z1])=Z12,[Z22][0]? = some Z22,Z22[1]? = some Z13,Qa2 ([].map o60)=true,[Z22].set 0 (Z22.set 1 Z2)=[Z23],[Z23][0]? = some Z23,Z23[2]? = some Z14,Qa2 ([].map o3)=true,[Z23].set 0 (Z23.set 2 Z4)=[Z24],[Z24][0]? = some Z24,Z24[3]? = some Z16,Qa2 Z15=true,[Z24].set 0 (Z24.set 3 Z25)=[Z26],[Z26][0]? = some Z26,Z26[4]? = some Z18,Qa2 Z17=true,[Z26].set 0 (Z26.set 4 Z27)=[Z28],[Z28][0]? = some Z28,Z28[5]? = some Z20,Qa2 Z19=true,[Z28].set 0 (Z28.set 5 (AV.own 3 1 Z19))=Z29,Qa8 [(1001,1),(1002,2),(1008,3)] [((r39 p1))],Qa8 [(1001,1),(1002,2),(1008,3)] Z12,Qa8 [(1001,1),(1002,2),(1008,3)] Z29] ⟨(Qst hr4),(by simp +zetaDelta only [Qc2,Qbm,Qa9 n3,Qa9 n70,Qa9 Qe7,o44,Bool.and_self]),rfl,rfl,rfl,rfl,rfl,rfl,rfl,rfl,rfl,rfl,rfl,rfl,(Qab t60),rfl,rfl,rfl,(Qab t3),rfl,rfl,rfl,(Qab t70),rfl,rfl,rfl,(Qab Qbs),rfl,rfl,rfl,(Qab t3),rfl,(rok (Qai t39 p1)),(rok (Qai t46 Z30)),(rok (Qai t46 Z31)),trivial⟩ (Qjd hP hn hx p2 p3 FU p1 Z30 Z31 0 _ h))
noncomputable def Xog:Code:=match Tryz.f72.body with | some c=>c | none=>.skip
noncomputable def Qgu (p1:Qaf) (p2:(List Int)) (p3:Int) : Option Qbi:=
 Option.bind (Qdc p1 p3 p2) fun r4 =>
 some (Qbi.mk r4.1.Code r4.1.Trace r4.1.Picks (Qa1.mk r4.1.End.Threads r4.1.End.Cells r4.1.End.Owner r4.1.End.Fault))
theorem Qvy {p1:Qaf} {p2:(List Int)} {p3:Int} {r:Qbi} (h:Qgu p1 p2 p3=some r) : Qa4 Tryz.prog 72 [(AV.agg ((r39 p1))),(AV.ro 1 (p2.map o3)),(I p3)] (AV.agg (o46 r)):=by
 refine gM Tryz.func72 17 Xog fun E hP hn hx=>?_
 unfold Qgu at h
 obtain ⟨r4,hr4,h⟩:=bnS h
 obtain rfl:=sj h
 exact (let Z0:=[(AV.ro 1 (p2.map o3))];let Z1:=AV.tup [(AV.agg (o46 r4.1)),(B r4.2)];let Z2:=I r4.1.Code;let Z3:=r4.1.Trace.map o60;let Z4:=r4.1.Picks.map o3;let Z5:=r4.1.End.Threads.map o70;let Z6:=r4.1.End.Cells.map Qae;let Z7:=r4.1.End.Owner.map o3;let Z8:=I r4.1.End.Fault;gR hP hn [hW 0 1001,hW 1 1002,hW 2 1003,hh 6 (.call [[],[Z0,(r26 p2)]] Z1 [1004,1005,1006,1007,1008]),hW 10 1009] [] (.agg [.raw,.own,.own,.own,.own,.own,.raw]) [Qa4 Tryz.prog 121 [(AV.agg ((r39 p1))),(I p3),(AV.fn 152 [(AV.rop (r26 p2) 0)])] Z1,Qc2 Z1=true,[Z0][0]? = some Z0,Qcy Z0=true,Qjr Z0=(r26 p2),Z2=Z2,Qa3 Z2=true,Qa2 (Z3.take Z3.length)=true,Z3.take Z3.length=Z3,Qa6 Z3=true,Qa2 (Z4.take Z4.length)=true,Z4.take Z4.length=Z4,Qa6 Z4=true,Qa2 (Z5.take Z5.length)=true,Z5.take Z5.length=Z5,Qa6 Z5=true,Qa2 (Z6.take Z6.length)=true,Z6.take Z6.length=Z6,Qa6 Z6=true,Qa2 (Z7.take Z7.length)=true,Z7.take Z7.length=Z7,Qa6 Z7=true,Z8=Z8,Qa3 Z8=true] ⟨(Qki hr4),(by simp +zetaDelta only [Qc2,Qbm,Qa9 n3,Qa9 n60,Qa9 n70,Qa9 Qe7,o46,Bool.and_self]),rfl,rfl,rfl,rfl,rfl,(Qb7 t60),Qb6,(Qa9 n60),(Qb7 t3),Qb6,(Qa9 n3),(Qb7 t70),Qb6,(Qa9 n70),(Qb7 Qbs),Qb6,(Qa9 Qe7),(Qb7 t3),Qb6,(Qa9 n3),rfl,rfl,trivial⟩)
noncomputable def Xh2:Code:=match Tryz.f111.body with | some c=>c | none=>.skip
noncomputable def Qac  (p1:(List Nat)) (p2:(List Nat)) : Nat→Int→Option Bool
 | 0,_=>none
 | n+1,v5 =>
 if (decide (v5<(p1.length:Int)))=true then
  Option.bind (rd p1 v5) fun x7 =>
  Option.bind (rd p2 v5) fun x8 =>
  Option.bind (Qdf x7 x8) fun r9 =>
  if (!r9)=true then
   some false
  else
   Qac p1 p2 n (w64 (v5+1))
 else
  some true
theorem Qcq {E:Env} (hP:E.pk=pk0 Tryz.prog) (hn:E.n=32) (hx:FX E []) (p1:(List Nat)) (p2:(List Nat))  : ∀ (n:Nat) (v5:Int) (r:Bool),Qac p1 p2 n v5=some r→WAt E Xh2 (FQ (Qdj Θ Tryz.f111.results.toList [] [] (B r) E)) [true,true,false,true,false] ⟨[(1,(AV.ro 1 (p2.map Qae))),(2,(AV.fn 112 [])),(15,(AV.ro 1 (p1.map Qae))),(16,(I (p1.length:Int))),(17,(I v5))],[],[JJ]⟩:=by
 intro n
 induction n with
 | zero=>intro v5 r h;simp only [Qac] at h;cases h
 | succ n ih =>
  intro v5 r h
  simp only [Qac] at h
  let Z0:=(decide (v5<(p1.length:Int)))
  rcases itS h with ⟨c6,h⟩ | ⟨c12,h⟩
  ·obtain ⟨x7,hx7,h⟩:=bnS h
   obtain ⟨x8,hx8,h⟩:=bnS h
   obtain ⟨r9,hr9,h⟩:=bnS h
   let H1:List Hn:=[hT 1,hh 3 (.row (Qae x7)),hh 9 (.row (Qae x8)),hh 15 (.callV [] (B r9))]
   let P2:List Prop:=[Z0=true,(0:Int)≤v5,(p1.map Qae)[v5.toNat]? = some (Qae x7),(0:Int)≤v5,(p2.map Qae)[v5.toNat]? = some (Qae x8),Qa4 Tryz.prog 112 [(FK x7),(FK x8)] (B r9),Qa3 (B r9)=true]
   have AP2:Qam P2:=⟨c6,(rd0 hx7),(rdM Qae hx7),(rd0 hx8),(rdM Qae hx8),(Qg7 hr9),rfl,trivial⟩
   rcases itS h with ⟨c10,h⟩ | ⟨c11,h⟩
   ·obtain rfl:=sj h
    exact gR hP hn (H1++[hT 17]) [] .raw (P2++[(!r9)=true,(B false)=(B false),Qa3 (B false)=true]) (Qa7 AP2 ⟨c10,rfl,rfl,trivial⟩)
   ·exact gT hP hn hx (H1++[hF 17]) [] [1,2,15,16,17] [] (P2++[(!r9)=false]) (Qa7 AP2 ⟨c11,trivial⟩) (ih (w64 (v5+1)) _ h)
  ·obtain rfl:=sj h
   exact gR hP hn [hF 1] [] .raw [Z0=false,(B true)=(B true),Qa3 (B true)=true] ⟨c12,rfl,rfl,trivial⟩
noncomputable def Qah (p1:(List Nat)) (p2:(List Nat)) : Option Bool:=
 if ((p1.length:Int) != (p2.length:Int))=true then
  some false
 else
  Qac p1 p2 FU 0
theorem Qbk {p1:(List Nat)} {p2:(List Nat)} {r:Bool} (h:Qah p1 p2=some r) : Qa4 Tryz.prog 111 [(AV.ro 1 (p1.map Qae)),(AV.ro 1 (p2.map Qae)),(AV.fn 112 [])] (B r):=by
 refine gM Tryz.func111 32 Xh2 fun E hP hn hx=>?_
 unfold Qah at h
 let Z0:=(((p1.map Qae).length:Nat) : Int);let Z1:=(I (p1.length:Int));let Z2:=(I (p2.length:Int));let Z3:=((p1.length:Int) != (p2.length:Int))
 let P1:List Prop:=[AV.lit (.int .i64 Z0)=Z1,AV.lit (.int .i64 (((p2.map Qae).length:Nat) : Int))=Z2]
 have AP1:Qam P1:=⟨(Qby Qae),(Qby Qae),trivial⟩
 rcases itS h with ⟨c3,h⟩ | ⟨c4,h⟩
 ·obtain rfl:=sj h
  exact gR hP hn [hO 2 Z1,hO 4 Z2,hT 6] [] .raw (P1++[Z3=true,(B false)=(B false),Qa3 (B false)=true]) (Qa7 AP1 ⟨c3,rfl,rfl,trivial⟩)
 ·exact gT hP hn hx [hO 2 Z1,hO 4 Z2,hF 6,hO 8 Z1] [] [1,2,15,16,17] [] (P1++[Z3=false,AV.lit (.int .i64 Z0)=Z1]) (Qa7 AP1 ⟨c4,(Qby Qae),trivial⟩) (Qcq hP hn hx p1 p2 FU 0 _ h)
noncomputable def Xl0:Code:=match Tryz.f114.body with | some c=>c | none=>.skip
noncomputable def Qe8 (p1:Qa0) (p2:Qa0) : Option Bool:=
 if (p1.Routine == p2.Routine)=true then
  if (p1.Pc == p2.Pc)=true then
   if (p1.State == p2.State)=true then
    if (p1.Cond == p2.Cond)=true then
     if (p1.Lock == p2.Lock)=true then
      Option.bind (Qah p1.Stack p2.Stack) fun r8 =>
      some r8
     else
      some false
    else
     some false
   else
    some false
  else
   some false
 else
  some false
theorem Qr9 {p1:Qa0} {p2:Qa0} {r:Bool} (h:Qe8 p1 p2=some r) : Qa4 Tryz.prog 114 [(AV.agg ((r70 p1))),(AV.agg ((r70 p2)))] (B r):=by
 refine gM Tryz.func114 45 Xl0 fun E hP hn hx=>?_
 unfold Qe8 at h
 let Z0:=B (p1.Routine == p2.Routine);let Z1:=B true;let Z2:=B (p1.State == p2.State);let Z3:=B (p1.Cond == p2.Cond);let Z4:=B (p1.Lock == p2.Lock);let Z5:=B false
 let H1:List Hn:=[hW 0 1001,hW 1 1002]
 rcases itS h with ⟨c3,h⟩ | ⟨c13,h⟩
 ·let P2:List Prop:=[Z0=Z1]
  have AP2:Qam P2:=⟨(Qau c3),trivial⟩
  rcases itS h with ⟨c4,h⟩ | ⟨c12,h⟩
  ·let H3:List Hn:=H1++[hO 8 Z1,hO 15 Z1]
   let P4:List Prop:=P2++[(B (p1.Pc == p2.Pc))=Z1]
   have AP4:Qam P4:=Qa7 AP2 ⟨(Qau c4),trivial⟩
   rcases itS h with ⟨c5,h⟩ | ⟨c11,h⟩
   ·rcases itS h with ⟨c6,h⟩ | ⟨c10,h⟩
    ·rcases itS h with ⟨c7,h⟩ | ⟨c9,h⟩
     ·obtain ⟨r8,hr8,h⟩:=bnS h
      obtain rfl:=sj h
      exact gR hP hn (H3++[hO 22 Z1,hO 29 Z1,hO 36 Z1,hh 41 (.callV [] (B r8))]) [] .raw (P4++[Z2=Z1,Z3=Z1,Z4=Z1,Qa4 Tryz.prog 111 [(AV.ro 1 (p1.Stack.map Qae)),(AV.ro 1 (p2.Stack.map Qae)),(AV.fn 112 [])] (B r8),Qa3 (B r8)=true,(B r8)=(B r8),Qa3 (B r8)=true]) (Qa7 AP4 ⟨(Qau c5),(Qau c6),(Qau c7),(Qbk hr8),rfl,rfl,rfl,trivial⟩)
     ·obtain rfl:=sj h
      exact gR hP hn (H3++[hO 22 Z1,hO 29 Z1,hO 36 Z5]) [] .raw (P4++[Z2=Z1,Z3=Z1,Z4=Z5,Z5=Z5,Qa3 Z5=true]) (Qa7 AP4 ⟨(Qau c5),(Qau c6),(Qau c9),rfl,rfl,trivial⟩)
    ·obtain rfl:=sj h
     exact gR hP hn (H3++[hO 22 Z1,hO 29 Z5]) [] .raw (P4++[Z2=Z1,Z3=Z5,Z5=Z5,Qa3 Z5=true]) (Qa7 AP4 ⟨(Qau c5),(Qau c10),rfl,rfl,trivial⟩)
   ·obtain rfl:=sj h
    exact gR hP hn (H3++[hO 22 Z5]) [] .raw (P4++[Z2=Z5,Z5=Z5,Qa3 Z5=true]) (Qa7 AP4 ⟨(Qau c11),rfl,rfl,trivial⟩)
  ·obtain rfl:=sj h
   exact gR hP hn (H1++[hO 8 Z1,hO 15 Z5]) [] .raw (P2++[(B (p1.Pc == p2.Pc))=Z5,Z5=Z5,Qa3 Z5=true]) (Qa7 AP2 ⟨(Qau c12),rfl,rfl,trivial⟩)
 ·obtain rfl:=sj h
  exact gR hP hn (H1++[hO 8 Z5]) [] .raw [Z0=Z5,Z5=Z5,Qa3 Z5=true] ⟨(Qau c13),rfl,rfl,trivial⟩
noncomputable def Xh0:Code:=match Tryz.f113.body with | some c=>c | none=>.skip
noncomputable def Qad  (p1:(List Qa0)) (p2:(List Qa0)) : Nat→Int→Option Bool
 | 0,_=>none
 | n+1,v5 =>
 if (decide (v5<(p1.length:Int)))=true then
  Option.bind (rd p1 v5) fun x7 =>
  Option.bind (rd p2 v5) fun x8 =>
  Option.bind (Qe8 x7 x8) fun r9 =>
  if (!r9)=true then
   some false
  else
   Qad p1 p2 n (w64 (v5+1))
 else
  some true
theorem Qcn {E:Env} (hP:E.pk=pk0 Tryz.prog) (hn:E.n=32) (hx:FX E []) (p1:(List Qa0)) (p2:(List Qa0))  : ∀ (n:Nat) (v5:Int) (r:Bool),Qad p1 p2 n v5=some r→WAt E Xh0 (FQ (Qdj Θ Tryz.f113.results.toList [] [] (B r) E)) [true,true,false,true,false] ⟨[(1,(AV.ro 6 (p2.map r70))),(2,(AV.fn 114 [])),(15,(AV.ro 6 (p1.map r70))),(16,(I (p1.length:Int))),(17,(I v5))],[],[JJ]⟩:=by
 intro n
 induction n with
 | zero=>intro v5 r h;simp only [Qad] at h;cases h
 | succ n ih =>
  intro v5 r h
  simp only [Qad] at h
  let Z0:=(decide (v5<(p1.length:Int)))
  rcases itS h with ⟨c6,h⟩ | ⟨c12,h⟩
  ·obtain ⟨x7,hx7,h⟩:=bnS h
   obtain ⟨x8,hx8,h⟩:=bnS h
   obtain ⟨r9,hr9,h⟩:=bnS h
   let H1:List Hn:=[hT 1,hh 3 (.row (r70 x7)),hW 5 1001,hh 10 (.row (r70 x8)),hW 12 1002,hh 17 (.callV [[],[]] (B r9))]
   let P2:List Prop:=[Z0=true,(0:Int)≤v5,(p1.map r70)[v5.toNat]? = some (r70 x7),(0:Int)≤v5,(p2.map r70)[v5.toNat]? = some (r70 x8),Qa4 Tryz.prog 114 [(AV.agg ((r70 x7))),(AV.agg ((r70 x8)))] (B r9),Qa3 (B r9)=true]
   have AP2:Qam P2:=⟨c6,(rd0 hx7),(rdM r70 hx7),(rd0 hx8),(rdM r70 hx8),(Qr9 hr9),rfl,trivial⟩
   rcases itS h with ⟨c10,h⟩ | ⟨c11,h⟩
   ·obtain rfl:=sj h
    exact gR hP hn (H1++[hT 19]) [] .raw (P2++[(!r9)=true,(B false)=(B false),Qa3 (B false)=true]) (Qa7 AP2 ⟨c10,rfl,rfl,trivial⟩)
   ·exact gT hP hn hx (H1++[hF 19]) [] [1,2,15,16,17] [] (P2++[(!r9)=false]) (Qa7 AP2 ⟨c11,trivial⟩) (ih (w64 (v5+1)) _ h)
  ·obtain rfl:=sj h
   exact gR hP hn [hF 1] [] .raw [Z0=false,(B true)=(B true),Qa3 (B true)=true] ⟨c12,rfl,rfl,trivial⟩
noncomputable def Qak (p1:(List Qa0)) (p2:(List Qa0)) : Option Bool:=
 if ((p1.length:Int) != (p2.length:Int))=true then
  some false
 else
  Qad p1 p2 FU 0
theorem Qcu {p1:(List Qa0)} {p2:(List Qa0)} {r:Bool} (h:Qak p1 p2=some r) : Qa4 Tryz.prog 113 [(AV.ro 6 (p1.map r70)),(AV.ro 6 (p2.map r70)),(AV.fn 114 [])] (B r):=by
 refine gM Tryz.func113 32 Xh0 fun E hP hn hx=>?_
 unfold Qak at h
 let Z0:=(((p1.map r70).length:Nat) : Int);let Z1:=(I (p1.length:Int));let Z2:=(I (p2.length:Int));let Z3:=((p1.length:Int) != (p2.length:Int))
 let P1:List Prop:=[AV.lit (.int .i64 Z0)=Z1,AV.lit (.int .i64 (((p2.map r70).length:Nat) : Int))=Z2]
 have AP1:Qam P1:=⟨(Qby r70),(Qby r70),trivial⟩
 rcases itS h with ⟨c3,h⟩ | ⟨c4,h⟩
 ·obtain rfl:=sj h
  exact gR hP hn [hO 2 Z1,hO 4 Z2,hT 6] [] .raw (P1++[Z3=true,(B false)=(B false),Qa3 (B false)=true]) (Qa7 AP1 ⟨c3,rfl,rfl,trivial⟩)
 ·exact gT hP hn hx [hO 2 Z1,hO 4 Z2,hF 6,hO 8 Z1] [] [1,2,15,16,17] [] (P1++[Z3=false,AV.lit (.int .i64 Z0)=Z1]) (Qa7 AP1 ⟨c4,(Qby r70),trivial⟩) (Qcn hP hn hx p1 p2 FU 0 _ h)
noncomputable def Xgw:Code:=match Tryz.f110.body with | some c=>c | none=>.skip
noncomputable def Qbr  (p1:(List Int)) (p2:(List Int)) : Nat→Int→Option Bool
 | 0,_=>none
 | n+1,v5 =>
 if (decide (v5<(p1.length:Int)))=true then
  Option.bind (rd p1 v5) fun x7 =>
  Option.bind (rd p2 v5) fun x8 =>
  if (x7 != x8)=true then
   some false
  else
   Qbr p1 p2 n (w64 (v5+1))
 else
  some true
theorem Qlk {E:Env} (hP:E.pk=pk0 Tryz.prog) (hn:E.n=26) (hx:FX E []) (p1:(List Int)) (p2:(List Int))  : ∀ (n:Nat) (v5:Int) (r:Bool),Qbr p1 p2 n v5=some r→WAt E Xgw (FQ (Qdj Θ Tryz.f110.results.toList [] [] (B r) E)) [true,true,false,true,false] ⟨[(0,(AV.ro 1 (p1.map o3))),(1,(AV.ro 1 (p2.map o3))),(12,(I (p1.length:Int))),(13,(I v5))],[],[JJ]⟩:=by
 intro n
 induction n with
 | zero=>intro v5 r h;simp only [Qbr] at h;cases h
 | succ n ih =>
  intro v5 r h
  simp only [Qbr] at h
  let Z0:=(decide (v5<(p1.length:Int)))
  rcases itS h with ⟨c6,h⟩ | ⟨c11,h⟩
  ·obtain ⟨x7,hx7,h⟩:=bnS h
   obtain ⟨x8,hx8,h⟩:=bnS h
   let P1:List Prop:=[Z0=true,(0:Int)≤v5,(p1.map o3)[v5.toNat]? = some (o3 x7),(0:Int)≤v5,(p2.map o3)[v5.toNat]? = some (o3 x8)]
   have AP1:Qam P1:=⟨c6,(rd0 hx7),(rdM o3 hx7),(rd0 hx8),(rdM o3 hx8),trivial⟩
   rcases itS h with ⟨c9,h⟩ | ⟨c10,h⟩
   ·obtain rfl:=sj h
    exact gR hP hn [hT 1,hh 6 (.row (o3 x7)),hh 10 (.row (o3 x8)),hT 13] [] .raw (P1++[(x7 != x8)=true,(B false)=(B false),Qa3 (B false)=true]) (Qa7 AP1 ⟨c9,rfl,rfl,trivial⟩)
   ·exact gT hP hn hx [hT 1,hh 6 (.row (o3 x7)),hh 10 (.row (o3 x8)),hF 13] [] [0,1,12,13] [] (P1++[(x7 != x8)=false]) (Qa7 AP1 ⟨c10,trivial⟩) (ih (w64 (v5+1)) _ h)
  ·obtain rfl:=sj h
   exact gR hP hn [hF 1] [] .raw [Z0=false,(B true)=(B true),Qa3 (B true)=true] ⟨c11,rfl,rfl,trivial⟩
noncomputable def Qd1 (p1:(List Int)) (p2:(List Int)) : Option Bool:=
 if ((p1.length:Int) != (p2.length:Int))=true then
  some false
 else
  Qbr p1 p2 FU 0
theorem Qif {p1:(List Int)} {p2:(List Int)} {r:Bool} (h:Qd1 p1 p2=some r) : Qa4 Tryz.prog 110 [(AV.ro 1 (p1.map o3)),(AV.ro 1 (p2.map o3))] (B r):=by
 refine gM Tryz.func110 26 Xgw fun E hP hn hx=>?_
 unfold Qd1 at h
 let Z0:=(((p1.map o3).length:Nat) : Int);let Z1:=(I (p1.length:Int));let Z2:=(I (p2.length:Int));let Z3:=((p1.length:Int) != (p2.length:Int))
 let P1:List Prop:=[AV.lit (.int .i64 Z0)=Z1,AV.lit (.int .i64 (((p2.map o3).length:Nat) : Int))=Z2]
 have AP1:Qam P1:=⟨(Qby o3),(Qby o3),trivial⟩
 rcases itS h with ⟨c3,h⟩ | ⟨c4,h⟩
 ·obtain rfl:=sj h
  exact gR hP hn [hO 2 Z1,hO 4 Z2,hT 6] [] .raw (P1++[Z3=true,(B false)=(B false),Qa3 (B false)=true]) (Qa7 AP1 ⟨c3,rfl,rfl,trivial⟩)
 ·exact gT hP hn hx [hO 2 Z1,hO 4 Z2,hF 6,hO 8 Z1] [] [0,1,12,13] [] (P1++[Z3=false,AV.lit (.int .i64 Z0)=Z1]) (Qa7 AP1 ⟨c4,(Qby o3),trivial⟩) (Qlk hP hn hx p1 p2 FU 0 _ h)
noncomputable def Xnm:Code:=match Tryz.f37.body with | some c=>c | none=>.skip
noncomputable def Qhb (p1:Qa1) (p2:Qa1) : Option Bool:=
 if (p1.Fault == p2.Fault)=true then
  Option.bind (Qd1 p1.Owner p2.Owner) fun r4 =>
  if r4=true then
   Option.bind (Qah p1.Cells p2.Cells) fun r6 =>
   if r6=true then
    Option.bind (Qak p1.Threads p2.Threads) fun r8 =>
    some r8
   else
    some false
  else
   some false
 else
  some false
theorem Qtu {p1:Qa1} {p2:Qa1} {r:Bool} (h:Qhb p1 p2=some r) : Qa4 Tryz.prog 37 [(AV.agg ((r44 p1))),(AV.agg ((r44 p2)))] (B r):=by
 refine gM Tryz.func37 31 Xnm fun E hP hn hx=>?_
 unfold Qhb at h
 let Z0:=B true;let Z1:=B (p1.Fault == p2.Fault);let Z2:=B false
 rcases itS h with ⟨c3,h⟩ | ⟨c11,h⟩
 ·obtain ⟨r4,hr4,h⟩:=bnS h
  let H1:List Hn:=[hW 0 1001,hW 1 1002,hO 8 Z0,hh 13 (.callV [] (B r4))]
  let P2:List Prop:=[Z1=Z0,Qa4 Tryz.prog 110 [(AV.ro 1 (p1.Owner.map o3)),(AV.ro 1 (p2.Owner.map o3))] (B r4),Qa3 (B r4)=true]
  have AP2:Qam P2:=⟨(Qau c3),(Qif hr4),rfl,trivial⟩
  rcases itS h with ⟨c5,h⟩ | ⟨c10,h⟩
  ·obtain ⟨r6,hr6,h⟩:=bnS h
   let P3:List Prop:=P2++[(B r4)=Z0,Qa4 Tryz.prog 111 [(AV.ro 1 (p1.Cells.map Qae)),(AV.ro 1 (p2.Cells.map Qae)),(AV.fn 112 [])] (B r6),Qa3 (B r6)=true]
   have AP3:Qam P3:=Qa7 AP2 ⟨(Qau c5),(Qbk hr6),rfl,trivial⟩
   rcases itS h with ⟨c7,h⟩ | ⟨c9,h⟩
   ·obtain ⟨r8,hr8,h⟩:=bnS h
    obtain rfl:=sj h
    exact gR hP hn (H1++[hO 15 Z0,hh 20 (.callV [] (B r6)),hO 22 Z0,hh 27 (.callV [] (B r8))]) [] .raw (P3++[(B r6)=Z0,Qa4 Tryz.prog 113 [(AV.ro 6 (p1.Threads.map r70)),(AV.ro 6 (p2.Threads.map r70)),(AV.fn 114 [])] (B r8),Qa3 (B r8)=true,(B r8)=(B r8),Qa3 (B r8)=true]) (Qa7 AP3 ⟨(Qau c7),(Qcu hr8),rfl,rfl,rfl,trivial⟩)
   ·obtain rfl:=sj h
    exact gR hP hn (H1++[hO 15 Z0,hh 20 (.callV [] (B r6)),hO 22 Z2]) [] .raw (P3++[(B r6)=Z2,Z2=Z2,Qa3 Z2=true]) (Qa7 AP3 ⟨(Qau c9),rfl,rfl,trivial⟩)
  ·obtain rfl:=sj h
   exact gR hP hn (H1++[hO 15 Z2]) [] .raw (P2++[(B r4)=Z2,Z2=Z2,Qa3 Z2=true]) (Qa7 AP2 ⟨(Qau c10),rfl,rfl,trivial⟩)
 ·obtain rfl:=sj h
  exact gR hP hn [hW 0 1001,hW 1 1002,hO 8 Z2] [] .raw [Z1=Z2,Z2=Z2,Qa3 Z2=true] ⟨(Qau c11),rfl,rfl,trivial⟩
noncomputable def Xfq:Code:=match Tryz.f134.body with | some c=>c | none=>.skip
noncomputable def Qbe  (p1:(List Qaa)) (p2:(List Qaa)) : Nat→Int→Option Bool
 | 0,_=>none
 | n+1,v5 =>
 if (decide (v5<(p1.length:Int)))=true then
  Option.bind (rd p1 v5) fun x7 =>
  Option.bind (rd p2 v5) fun x8 =>
  if (!(decide (x7=x8)))=true then
   some false
  else
   Qbe p1 p2 n (w64 (v5+1))
 else
  some true
theorem Qjs {E:Env} (hP:E.pk=pk0 Tryz.prog) (hn:E.n=26) (hx:FX E []) (p1:(List Qaa)) (p2:(List Qaa))  : ∀ (n:Nat) (v5:Int) (r:Bool),Qbe p1 p2 n v5=some r→WAt E Xfq (FQ (Qdj Θ Tryz.f134.results.toList [] [] (B r) E)) [true,true,false,true,false] ⟨[(0,(AV.ro 5 (p1.map o60))),(1,(AV.ro 5 (p2.map o60))),(12,(I (p1.length:Int))),(13,(I v5))],[],[JJ]⟩:=by
 intro n
 induction n with
 | zero=>intro v5 r h;simp only [Qbe] at h;cases h
 | succ n ih =>
  intro v5 r h
  simp only [Qbe] at h
  let Z1:=(decide (v5<(p1.length:Int)))
  rcases itS h with ⟨c6,h⟩ | ⟨c11,h⟩
  ·obtain ⟨x7,hx7,h⟩:=bnS h
   obtain ⟨x8,hx8,h⟩:=bnS h
   let Z0:=decide (x7=x8)
   let H1:List Hn:=[hT 1,hh 6 (.row (o60 x7)),hh 10 (.row (o60 x8)),hh 12 (.bin (B (!Z0)))]
   let P2:List Prop:=[Z1=true,(0:Int)≤v5,(p1.map o60)[v5.toNat]? = some (o60 x7),(0:Int)≤v5,(p2.map o60)[v5.toNat]? = some (o60 x8),Qgd Tryz.prog .neq 60 (AV.agg ((o60 x7))) (AV.agg ((o60 x8))) (B (!Z0))]
   have AP2:Qam P2:=⟨c6,(rd0 hx7),(rdM o60 hx7),(rd0 hx8),(rdM o60 hx8),(Xpr _ _),trivial⟩
   rcases itS h with ⟨c9,h⟩ | ⟨c10,h⟩
   ·obtain rfl:=sj h
    exact gR hP hn (H1++[hT 13]) [] .raw (P2++[(!Z0)=true,(B false)=(B false),Qa3 (B false)=true]) (Qa7 AP2 ⟨c9,rfl,rfl,trivial⟩)
   ·exact gT hP hn hx (H1++[hF 13]) [] [0,1,12,13] [] (P2++[(!Z0)=false]) (Qa7 AP2 ⟨c10,trivial⟩) (ih (w64 (v5+1)) _ h)
  ·obtain rfl:=sj h
   exact gR hP hn [hF 1] [] .raw [Z1=false,(B true)=(B true),Qa3 (B true)=true] ⟨c11,rfl,rfl,trivial⟩
noncomputable def Qcs (p1:(List Qaa)) (p2:(List Qaa)) : Option Bool:=
 if ((p1.length:Int) != (p2.length:Int))=true then
  some false
 else
  Qbe p1 p2 FU 0
theorem Ql7 {p1:(List Qaa)} {p2:(List Qaa)} {r:Bool} (h:Qcs p1 p2=some r) : Qa4 Tryz.prog 134 [(AV.ro 5 (p1.map o60)),(AV.ro 5 (p2.map o60))] (B r):=by
 refine gM Tryz.func134 26 Xfq fun E hP hn hx=>?_
 unfold Qcs at h
 let Z0:=(((p1.map o60).length:Nat) : Int);let Z1:=(I (p1.length:Int));let Z2:=(I (p2.length:Int));let Z3:=((p1.length:Int) != (p2.length:Int))
 let P1:List Prop:=[AV.lit (.int .i64 Z0)=Z1,AV.lit (.int .i64 (((p2.map o60).length:Nat) : Int))=Z2]
 have AP1:Qam P1:=⟨(Qby o60),(Qby o60),trivial⟩
 rcases itS h with ⟨c3,h⟩ | ⟨c4,h⟩
 ·obtain rfl:=sj h
  exact gR hP hn [hO 2 Z1,hO 4 Z2,hT 6] [] .raw (P1++[Z3=true,(B false)=(B false),Qa3 (B false)=true]) (Qa7 AP1 ⟨c3,rfl,rfl,trivial⟩)
 ·exact gT hP hn hx [hO 2 Z1,hO 4 Z2,hF 6,hO 8 Z1] [] [0,1,12,13] [] (P1++[Z3=false,AV.lit (.int .i64 Z0)=Z1]) (Qa7 AP1 ⟨c4,(Qby o60),trivial⟩) (Qjs hP hn hx p1 p2 FU 0 _ h)
noncomputable def Xp3:Code:=match Tryz.f71.body with | some c=>c | none=>.skip
noncomputable def Qj9 (p1:Qbi) (p2:Qbi) : Option Bool:=
 if (p1.Code == p2.Code)=true then
  Option.bind (Qcs p1.Trace p2.Trace) fun r4 =>
  if r4=true then
   Option.bind (Qd1 p1.Picks p2.Picks) fun r6 =>
   if r6=true then
    Option.bind (Qhb p1.End p2.End) fun r8 =>
    some r8
   else
    some false
  else
   some false
 else
  some false
theorem Qwg {p1:Qbi} {p2:Qbi} {r:Bool} (h:Qj9 p1 p2=some r) : Qa4 Tryz.prog 71 [(AV.agg ((r46 p1))),(AV.agg ((r46 p2)))] (B r):=by
 refine gM Tryz.func71 31 Xp3 fun E hP hn hx=>?_
 unfold Qj9 at h
 let Z0:=B true;let Z1:=B (p1.Code == p2.Code);let Z2:=B false
 rcases itS h with ⟨c3,h⟩ | ⟨c11,h⟩
 ·obtain ⟨r4,hr4,h⟩:=bnS h
  let H1:List Hn:=[hW 0 1001,hW 1 1002,hO 8 Z0,hh 13 (.callV [] (B r4))]
  let P2:List Prop:=[Z1=Z0,Qa4 Tryz.prog 134 [(AV.ro 5 (p1.Trace.map o60)),(AV.ro 5 (p2.Trace.map o60))] (B r4),Qa3 (B r4)=true]
  have AP2:Qam P2:=⟨(Qau c3),(Ql7 hr4),rfl,trivial⟩
  rcases itS h with ⟨c5,h⟩ | ⟨c10,h⟩
  ·obtain ⟨r6,hr6,h⟩:=bnS h
   let P3:List Prop:=P2++[(B r4)=Z0,Qa4 Tryz.prog 110 [(AV.ro 1 (p1.Picks.map o3)),(AV.ro 1 (p2.Picks.map o3))] (B r6),Qa3 (B r6)=true]
   have AP3:Qam P3:=Qa7 AP2 ⟨(Qau c5),(Qif hr6),rfl,trivial⟩
   rcases itS h with ⟨c7,h⟩ | ⟨c9,h⟩
   ·obtain ⟨r8,hr8,h⟩:=bnS h
    obtain rfl:=sj h
    exact gR hP hn (H1++[hO 15 Z0,hh 20 (.callV [] (B r6)),hO 22 Z0,hh 27 (.callV [[],[]] (B r8))]) [] .raw (P3++[(B r6)=Z0,Qa4 Tryz.prog 37 [(AV.agg ((r44 p1.End))),(AV.agg ((r44 p2.End)))] (B r8),Qa3 (B r8)=true,(B r8)=(B r8),Qa3 (B r8)=true]) (Qa7 AP3 ⟨(Qau c7),(Qtu hr8),rfl,rfl,rfl,trivial⟩)
   ·obtain rfl:=sj h
    exact gR hP hn (H1++[hO 15 Z0,hh 20 (.callV [] (B r6)),hO 22 Z2]) [] .raw (P3++[(B r6)=Z2,Z2=Z2,Qa3 Z2=true]) (Qa7 AP3 ⟨(Qau c9),rfl,rfl,trivial⟩)
  ·obtain rfl:=sj h
   exact gR hP hn (H1++[hO 15 Z2]) [] .raw (P2++[(B r4)=Z2,Z2=Z2,Qa3 Z2=true]) (Qa7 AP2 ⟨(Qau c10),rfl,rfl,trivial⟩)
 ·obtain rfl:=sj h
  exact gR hP hn [hW 0 1001,hW 1 1002,hO 8 Z2] [] .raw [Z1=Z2,Z2=Z2,Qa3 Z2=true] ⟨(Qau c11),rfl,rfl,trivial⟩
noncomputable def Xjv:Code:=match Tryz.f14.body with | some c=>c | none=>.skip
noncomputable def Qi1  (p1:Qaf) (p2:Qbi)  : Option (Bool×Bool):=
 Option.bind (Qgu p1 p2.Picks (p2.Picks.length:Int)) fun r11 =>
 Option.bind (Qj9 (Qbi.mk r11.Code r11.Trace r11.Picks (Qa1.mk r11.End.Threads r11.End.Cells r11.End.Owner r11.End.Fault)) p2) fun r12 =>
 some (r12,true)
theorem Quf {E:Env} (hP:E.pk=pk0 Tryz.prog) (hn:E.n=30) (hx:FX E []) (p1:Qaf) (p2:Qbi)   (r:(Bool×Bool)) (h:Qi1 p1 p2  = some r) : WAt E Xjv (FQ (Qdj Θ Tryz.f14.results.toList [] [] (AV.tup [(B r.1),(B r.2)]) E)) [true,false,true,true] ⟨[(2,(AV.ptr 1 0 0)),(3,(AV.ptr 2 0 0))],[(1,some ⟨39,4,[((r39 p1))]⟩),(2,some ⟨46,7,[((r46 p2))]⟩)],[1,2,JJ]⟩:=by
 unfold Qi1 at h
 obtain ⟨r11,hr11,h⟩:=bnS h
 obtain ⟨r12,hr12,h⟩:=bnS h
 obtain rfl:=sj h
 exact (let Z0:=(I (p2.Picks.length:Int));let Z1:=AV.agg (o46 r11);let Z2:=r11.Trace.map o60;let Z3:=r11.Picks.map o3;let Z4:=r11.End.Threads.map r70;let Z5:=r11.End.Cells.map Qae;let Z6:=r11.End.Owner.map o3;let Z7:=AV.agg ((r46 p2));let Z8:=r11.End.Threads.map o70;gR hP hn [hO 5 Z0,hh 6 (.call [[]] Z1 [1001,1002,1003,1004,1005]),hh 9 (.callV [[],Z2,Z3,Z4,Z5,Z6,[]] (B r12))] [] (.agg [.raw,.raw]) [AV.lit (.int .i64 (((p2.Picks.map o3).length:Nat) : Int))=Z0,Qa4 Tryz.prog 72 [(AV.agg ((r39 p1))),(AV.ro 1 (p2.Picks.map o3)),Z0] Z1,Qc2 Z1=true,Z7=Z7,Qa4 Tryz.prog 71 [(AV.agg [(I r11.Code),(AV.ro 5 Z2),(AV.ro 1 Z3),(AV.ro 6 Z4),(AV.ro 1 Z5),(AV.ro 1 Z6),(I r11.End.Fault)]),Z7] (B r12),Qa3 (B r12)=true,Frz ((Z2.drop 0).take Z2.length) Z2,Frz ((Z3.drop 0).take Z3.length) Z3,Frz ((Z8.drop 0).take Z8.length) Z4,Frz ((Z5.drop 0).take Z5.length) Z5,Frz ((Z6.drop 0).take Z6.length) Z6,(B r12)=(B r12),Qa3 (B r12)=true,(B true)=(B true),Qa3 (B true)=true] ⟨(Qby o3),(Qvy hr11),(by simp +zetaDelta only [Qc2,Qbm,Qa9 n3,Qa9 n60,Qa9 n70,Qa9 Qe7,o46,Bool.and_self]),rfl,(Qwg hr12),rfl,(Qfx t60 z60),(Qfx t3 z3),(Qfx t70 z70),(Qfx Qbs Qqn),(Qfx t3 z3),rfl,rfl,rfl,rfl,trivial⟩)
noncomputable def Qly (p1:Qaf) (p2:Qbi) : Option (Bool×Bool):=
 Option.bind (Qft p1) fun r3 =>
 if (!r3)=true then
  some (false,false)
 else
  if (decide ((p2.Trace.length:Int) > 200))=true then
   some (false,false)
  else
   Option.bind (Qic p2.Picks 200) fun r8 =>
   if (!r8)=true then
    some (false,false)
   else
    Qi1 p1 p2
theorem Qzv {p1:Qaf} {p2:Qbi} {r:(Bool×Bool)} (h:Qly p1 p2=some r) : Qa4 Tryz.prog 14 [(AV.agg ((r39 p1))),(AV.agg ((r46 p2)))] (AV.tup [(B r.1),(B r.2)]):=by
 refine gM Tryz.func14 30 Xjv fun E hP hn hx=>?_
 unfold Qly at h
 obtain ⟨r3,hr3,h⟩:=bnS h
 let Z0:=B false;let Z1:=(p2.Trace.length:Int);let Z2:=B (decide (Z1 > 200))
 let H1:List Hn:=[hW 0 1001,hW 1 1002,hh 5 (.callV [[]] (B r3))]
 let P2:List Prop:=[Qa4 Tryz.prog 69 [(AV.agg ((r39 p1)))] (B r3),Qa3 (B r3)=true]
 have AP2:Qam P2:=⟨(Que hr3),rfl,trivial⟩
 rcases itS h with ⟨c4,h⟩ | ⟨c5,h⟩
 ·obtain rfl:=sj h
  exact gR hP hn (H1++[hO 7 (B true)]) [] (.agg [.raw,.raw]) (P2++[(B (!r3))=(B true),Z0=Z0,Qa3 Z0=true,Z0=Z0,Qa3 Z0=true]) (Qa7 AP2 ⟨(Qau c4),rfl,rfl,rfl,rfl,trivial⟩)
 ·let H3:List Hn:=H1++[hO 7 Z0,hO 10 (I Z1)]
  let P4:List Prop:=P2++[(B (!r3))=Z0,AV.lit (.int .i64 (((p2.Trace.map o60).length:Nat) : Int))=(I Z1)]
  have AP4:Qam P4:=Qa7 AP2 ⟨(Qau c5),(Qby o60),trivial⟩
  rcases itS h with ⟨c6,h⟩ | ⟨c7,h⟩
  ·obtain rfl:=sj h
   exact gR hP hn (H3++[hO 13 (B true)]) [] (.agg [.raw,.raw]) (P4++[Z2=(B true),Z0=Z0,Qa3 Z0=true,Z0=Z0,Qa3 Z0=true]) (Qa7 AP4 ⟨(Qau c6),rfl,rfl,rfl,rfl,trivial⟩)
  ·obtain ⟨r8,hr8,h⟩:=bnS h
   let P5:List Prop:=P4++[Z2=Z0,Qa4 Tryz.prog 70 [(AV.ro 1 (p2.Picks.map o3)),(I 200)] (B r8),Qa3 (B r8)=true]
   have AP5:Qam P5:=Qa7 AP4 ⟨(Qau c7),(Qw4 hr8),rfl,trivial⟩
   rcases itS h with ⟨c9,h⟩ | ⟨c10,h⟩
   ·obtain rfl:=sj h
    exact gR hP hn (H3++[hO 13 Z0,hh 16 (.callV [] (B r8)),hT 19]) [] (.agg [.raw,.raw]) (P5++[(!r8)=true,Z0=Z0,Qa3 Z0=true,Z0=Z0,Qa3 Z0=true]) (Qa7 AP5 ⟨c9,rfl,rfl,rfl,rfl,trivial⟩)
   ·exact gT hP hn hx (H3++[hO 13 Z0,hh 16 (.callV [] (B r8)),hF 19]) [(1001,1),(1002,2)] [2,3] [] (P5++[(!r8)=false,Qa8 [(1001,1),(1002,2)] [((r39 p1))],Qa8 [(1001,1),(1002,2)] [((r46 p2))]]) (Qa7 AP5 ⟨c10,(rok (Qai t39 p1)),(rok (Qai t46 p2)),trivial⟩) (Quf hP hn hx p1 p2  _ h)
noncomputable def Xpv:Code:=match Tryz.f79.body with | some c=>c | none=>.skip
noncomputable def Qmf (p1:Qaf) (p2:Qbi) : Option Bool:=
 Option.bind (Qly p1 p2) fun r3 =>
 if r3.1=true then
  some r3.2
 else
  some false
theorem Qz7 {p1:Qaf} {p2:Qbi} {r:Bool} (h:Qmf p1 p2=some r) : Qa4 Tryz.prog 79 [(AV.agg ((r39 p1))),(AV.agg ((r46 p2)))] (B r):=by
 refine gM Tryz.func79 17 Xpv fun E hP hn hx=>?_
 unfold Qmf at h
 obtain ⟨r3,hr3,h⟩:=bnS h
 let Z0:=AV.tup [(B r3.1),(B r3.2)];let Z1:=B false
 let H1:List Hn:=[hW 0 1001,hW 1 1002,hh 5 (.callV [[],[]] Z0)]
 let P2:List Prop:=[Qa4 Tryz.prog 14 [(AV.agg ((r39 p1))),(AV.agg ((r46 p2)))] Z0,Qa3 Z0=true]
 have AP2:Qam P2:=⟨(Qzv hr3),rfl,trivial⟩
 rcases itS h with ⟨c4,h⟩ | ⟨c5,h⟩
 ·obtain rfl:=sj h
  exact gR hP hn (H1++[hO 12 (B true)]) [] .raw (P2++[(B r3.1)=(B true),(B r3.2)=(B r3.2),Qa3 (B r3.2)=true]) (Qa7 AP2 ⟨(Qau c4),rfl,rfl,trivial⟩)
 ·obtain rfl:=sj h
  exact gR hP hn (H1++[hO 12 Z1]) [] .raw (P2++[(B r3.1)=Z1,Z1=Z1,Qa3 Z1=true]) (Qa7 AP2 ⟨(Qau c5),rfl,rfl,trivial⟩)
noncomputable def Xer:Code:=match Tryz.f123.body with | some c=>c | none=>.skip
noncomputable def Qbn  (p1:(List Int)) (p2:Int) : Nat→Int→Option Int
 | 0,_=>none
 | n+1,v3 =>
 if (decide (v3<(p1.length:Int)))=true then
  Option.bind (rd p1 v3) fun x5 =>
  if (p2 == x5)=true then
   some v3
  else
   Qbn p1 p2 n (w64 (v3+1))
 else
  some (-1)
theorem Qll {E:Env} (hP:E.pk=pk0 Tryz.prog) (hn:E.n=19) (hx:FX E []) (p1:(List Int)) (p2:Int)  : ∀ (n:Nat) (v3:Int) (r:Int),Qbn p1 p2 n v3=some r→WAt E Xer (FQ (Qdj Θ Tryz.f123.results.toList [] [] (I r) E)) [true,false,true,false] ⟨[(0,(AV.ro 1 (p1.map o3))),(1,(I p2)),(7,(I (p1.length:Int))),(8,(I v3))],[],[JJ]⟩:=by
 intro n
 induction n with
 | zero=>intro v3 r h;simp only [Qbn] at h;cases h
 | succ n ih =>
  intro v3 r h
  simp only [Qbn] at h
  let Z0:=(decide (v3<(p1.length:Int)))
  rcases itS h with ⟨c4,h⟩ | ⟨c8,h⟩
  ·obtain ⟨x5,hx5,h⟩:=bnS h
   let P1:List Prop:=[Z0=true,(0:Int)≤v3,(p1.map o3)[v3.toNat]? = some (o3 x5)]
   have AP1:Qam P1:=⟨c4,(rd0 hx5),(rdM o3 hx5),trivial⟩
   rcases itS h with ⟨c6,h⟩ | ⟨c7,h⟩
   ·obtain rfl:=sj h
    exact gR hP hn [hT 1,hh 7 (.row (o3 x5)),hT 10] [] .raw (P1++[(p2 == x5)=true,(I v3)=(I v3),Qa3 (I v3)=true]) (Qa7 AP1 ⟨c6,rfl,rfl,trivial⟩)
   ·exact gT hP hn hx [hT 1,hh 7 (.row (o3 x5)),hF 10] [] [0,1,7,8] [] (P1++[(p2 == x5)=false]) (Qa7 AP1 ⟨c7,trivial⟩) (ih (w64 (v3+1)) _ h)
  ·obtain rfl:=sj h
   exact gR hP hn [hF 1] [] .raw [Z0=false,(I (-1))=(I (-1)),Qa3 (I (-1))=true] ⟨c8,rfl,rfl,trivial⟩
noncomputable def Qf4 (p1:(List Int)) (p2:Int) : Option Int:=
 Qbn p1 p2 FU 0
theorem Qnz {p1:(List Int)} {p2:Int} {r:Int} (h:Qf4 p1 p2=some r) : Qa4 Tryz.prog 123 [(AV.ro 1 (p1.map o3)),(I p2)] (I r):=by
 refine gM Tryz.func123 19 Xer fun E hP hn hx=>?_
 unfold Qf4 at h
 exact (let Z0:=(I (p1.length:Int));gT hP hn hx [hO 2 Z0] [] [0,1,7,8] [] [AV.lit (.int .i64 (((p1.map o3).length:Nat) : Int))=Z0] ⟨(Qby o3),trivial⟩ (Qll hP hn hx p1 p2 FU 0 _ h))
noncomputable def Xo2:Code:=match Tryz.f88.body with | some c=>c | none=>.skip
noncomputable def Qd0 (p1:(List Int)) (p2:Int) : Option Bool:=
 Option.bind (Qf4 p1 p2) fun r3 =>
 some (decide (r3 ≥ 0))
theorem Qlo {p1:(List Int)} {p2:Int} {r:Bool} (h:Qd0 p1 p2=some r) : Qa4 Tryz.prog 88 [(AV.ro 1 (p1.map o3)),(I p2)] (B r):=by
 refine gM Tryz.func88 9 Xo2 fun E hP hn hx=>?_
 unfold Qd0 at h
 obtain ⟨r3,hr3,h⟩:=bnS h
 obtain rfl:=sj h
 exact (let Z0:=B (decide (r3 ≥ 0));gR hP hn [hh 3 (.callV [] (I r3))] [] .raw [Qa4 Tryz.prog 123 [(AV.ro 1 (p1.map o3)),(I p2)] (I r3),Qa3 (I r3)=true,Z0=Z0,Qa3 Z0=true] ⟨(Qnz hr3),rfl,rfl,rfl,trivial⟩)
noncomputable def Xcd:Code:=match Tryz.f83.body with | some c=>c | none=>.skip
noncomputable def Qdo (K0:Qaf→Qbi→Int→Qa1→Int→Option Int) (p2:Qbi) (a4:Qaf) (a5:Qbi) (a7:Qa1) (v8:Int) (x10:Qaa) (v17:Int) : Option Int:=
 Option.bind (Qbv a7 a4 x10.Thread) fun r18 =>
 K0 a4 a5 v17 r18.2 (w64 (v8+1))
theorem Qi4 {E:Env} (hP:E.pk=pk0 Tryz.prog) (hn:E.n=48) (hx:FX E []) (p2:Qbi) (a4:Qaf) (a5:Qbi) (a7:Qa1) (v8:Int) (x10:Qaa) {K0:Qaf→Qbi→Int→Qa1→Int→Option Int} (hK0 : ∀ (a4:Qaf) (a5:Qbi) (v6:Int) (a7:Qa1) (v8:Int) (r:Int),K0 a4 a5 v6 a7 v8=some r→WAt E Xcd (FQ (Qdj Θ Tryz.f83.results.toList [] [] (I r) E)) [true,true,false,true,false] ⟨[(2,(AV.ptr 1 0 0)),(3,(AV.ptr 2 0 0)),(5,(I v6)),(6,(AV.ptr 3 0 0)),(13,(AV.ro 5 (p2.Trace.map o60))),(14,(I (p2.Trace.length:Int))),(15,(I v8))],[(1,some ⟨39,4,[((r39 a4))]⟩),(2,some ⟨46,7,[((r46 a5))]⟩),(3,some ⟨44,4,[((o44 a7))]⟩)],[1,2,3,JJ]⟩) (v17:Int) (r:Int) (h:Qdo K0 p2 a4 a5 a7 v8 x10 v17=some r) : WAt E Xcd (FQ (Qdj Θ Tryz.f83.results.toList [] [] (I r) E)) [true,true,false,true,false,false,true,true,false,false,true,true] ⟨[(2,(AV.ptr 1 0 0)),(3,(AV.ptr 2 0 0)),(5,(I v17)),(6,(AV.ptr 3 0 0)),(8,(AV.ptr 4 0 0)),(13,(AV.ro 5 (p2.Trace.map o60))),(14,(I (p2.Trace.length:Int))),(15,(I v8))],[(1,some ⟨39,4,[((r39 a4))]⟩),(2,some ⟨46,7,[((r46 a5))]⟩),(3,some ⟨44,4,[((o44 a7))]⟩),(4,some ⟨60,5,[((o60 x10))]⟩)],[1,2,3,4,JJ]⟩:=by
 unfold Qdo at h
 obtain ⟨r18,hr18,h⟩:=bnS h
 exact (let Z0:=o44 a7;let Z1:=o44 r18.2;let Z2:=AV.agg (o60 r18.1);let Z3:=AV.agg ((o60 r18.1));let Z4:=rtf (Ql3 [(0,3)] Z2) [];gT hP hn hx [hh 3 (.callX [3] [true] [⟨44,4,[Z0]⟩] [⟨44,4,[Z1]⟩] [[]] Z2 [] Z3 [])] [(1,1),(2,2),(3,3)] [2,3,5,6,13,14,15] [] [Qlq (pk0 Tryz.prog) 91 [⟨44,4,[Z0]⟩] [(AV.ptr 0 0 0),(AV.agg ((r39 a4))),(I x10.Thread)] [true] [⟨44,4,[Z1]⟩] Z2,(some (Qas.mk 44 4 [(Z0)])=some (Qas.mk 44 4 [Z0]))∧True,(Qa2 [Z0]=true∧Qa6 [Z0]=true)∧True,([Z1].length=[Z0].length)∧True,Z4.1=Z3,Z4.2.1=[],Qa8 [(1,1),(2,2),(3,3)] [((r39 a4))],Qa8 [(1,1),(2,2),(3,3)] [((r46 a5))],Qa8 [(1,1),(2,2),(3,3)] [(Z1)]] ⟨(mK (Qsr hr18)),⟨rfl,trivial⟩,⟨⟨Qai t44 a7,Qlt n44 a7⟩,trivial⟩,⟨rfl,trivial⟩,rfl,rfl,(rok (Qai t39 a4)),(rok (Qai t46 a5)),(rok (Qai t44 r18.2)),trivial⟩ (hK0 a4 a5 v17 r18.2 (w64 (v8+1)) _ h))
noncomputable def Qbt  (p2:Qbi) : Nat→Qaf→Qbi→Int→Qa1→Int→Option Int
 | 0,_,_,_,_,_=>none
 | n+1,a4,a5,v6,a7,v8 =>
 if (decide (v8<(p2.Trace.length:Int)))=true then
  Option.bind (rd p2.Trace v8) fun x10 =>
  if (decide (v8 > 0))=true then
   Option.bind (rd a5.Trace (w64 (v8 - 1))) fun x12 =>
   if (x12.Thread != x10.Thread)=true then
    Option.bind (Qbz a7 a4) fun r14 =>
    Option.bind (Qd0 r14 x12.Thread) fun r15 =>
    Option.bind (Qcr r15) fun r16 =>
    Qdo (Qbt p2 n) p2 a4 a5 a7 v8 x10 (w64 (v6+r16))
   else
    Option.bind (Qcr false) fun r20 =>
    Qdo (Qbt p2 n) p2 a4 a5 a7 v8 x10 (w64 (v6+r20))
  else
   Qdo (Qbt p2 n) p2 a4 a5 a7 v8 x10 v6
 else
  some v6
theorem Qrm {E:Env} (hP:E.pk=pk0 Tryz.prog) (hn:E.n=48) (hx:FX E []) (p2:Qbi)  : ∀ (n:Nat) (a4:Qaf) (a5:Qbi) (v6:Int) (a7:Qa1) (v8:Int) (r:Int),Qbt p2 n a4 a5 v6 a7 v8=some r→WAt E Xcd (FQ (Qdj Θ Tryz.f83.results.toList [] [] (I r) E)) [true,true,false,true,false] ⟨[(2,(AV.ptr 1 0 0)),(3,(AV.ptr 2 0 0)),(5,(I v6)),(6,(AV.ptr 3 0 0)),(13,(AV.ro 5 (p2.Trace.map o60))),(14,(I (p2.Trace.length:Int))),(15,(I v8))],[(1,some ⟨39,4,[((r39 a4))]⟩),(2,some ⟨46,7,[((r46 a5))]⟩),(3,some ⟨44,4,[((o44 a7))]⟩)],[1,2,3,JJ]⟩:=by
 intro n
 induction n with
 | zero=>intro a4 a5 v6 a7 v8 r h;simp only [Qbt] at h;cases h
 | succ n ih =>
  intro a4 a5 v6 a7 v8 r h
  simp only [Qbt] at h
  let Z0:=(decide (v8<(p2.Trace.length:Int)));let Z1:=o44 a7;let Z5:=r39 a4
  rcases itS h with ⟨c9,h⟩ | ⟨c22,h⟩
  ·obtain ⟨x10,hx10,h⟩:=bnS h
   let H1:List Hn:=[hT 1,hh 3 (.row (o60 x10)),hW 5 1001]
   let P2:List Prop:=[Z0=true,(0:Int)≤v8,(p2.Trace.map o60)[v8.toNat]? = some (o60 x10)]
   have AP2:Qam P2:=⟨c9,(rd0 hx10),(rdM o60 hx10),trivial⟩
   rcases itS h with ⟨c11,h⟩ | ⟨c21,h⟩
   ·obtain ⟨x12,hx12,h⟩:=bnS h
    let Z4:=B (x12.Thread != x10.Thread)
    let P3:List Prop:=P2++[(decide (v8 > 0))=true,(0:Int)≤(w64 (v8 - 1)),(a5.Trace.map o60)[(w64 (v8 - 1)).toNat]? = some (o60 x12)]
    have AP3:Qam P3:=Qa7 AP2 ⟨c11,(rd0 hx12),(rdM o60 hx12),trivial⟩
    rcases itS h with ⟨c13,h⟩ | ⟨c19,h⟩
    ·obtain ⟨r14,hr14,h⟩:=bnS h
     obtain ⟨r15,hr15,h⟩:=bnS h
     obtain ⟨r16,hr16,h⟩:=bnS h
     exact (let Z2:=r14.map o3;let Z3:=AV.own 3 1 Z2;gT hP hn hx (H1++[hT 10,hh 15 (.row (o60 x12)),hO 24 (B true),hh 26 (.call [[Z1,(r44 a7)],[]] Z3 [1002]),hh 28 (.callV [Z2] (B r15)),hh 30 (.callV [] (I r16))]) [(1,1),(2,2),(3,3),(1001,4)] [2,3,5,6,8,13,14,15] [] (P3++[Z4=(B true),Qa4 Tryz.prog 89 [(AV.rop (r44 a7) 0),(AV.agg Z5)] Z3,Qc2 Z3=true,[Z1][0]? = some Z1,Qcy Z1=true,Qjr Z1=(r44 a7),Qa4 Tryz.prog 88 [(AV.ro 1 Z2),(I x12.Thread)] (B r15),Qa3 (B r15)=true,Frz ((Z2.drop 0).take Z2.length) Z2,Qa4 Tryz.prog 157 [(B r15)] (I r16),Qa3 (I r16)=true,Qa8 [(1,1),(2,2),(3,3),(1001,4)] [Z5],Qa8 [(1,1),(2,2),(3,3),(1001,4)] [((r46 a5))],Qa8 [(1,1),(2,2),(3,3),(1001,4)] [Z1],Qa8 [(1,1),(2,2),(3,3),(1001,4)] [((o60 x10))]]) (Qa7 AP3 ⟨(Qau c13),(Qpr hr14),(by simp +zetaDelta only [Qc2,Qbm,Qa9 n3,Bool.and_self]),rfl,rfl,(z44 a7),(Qlo hr15),rfl,(Qfx t3 z3),(Qg8 hr16),rfl,(rok (Qai t39 a4)),(rok (Qai t46 a5)),(rok (Qai t44 a7)),(rok rfl),trivial⟩) (Qi4 hP hn hx p2 a4 a5 a7 v8 x10 ih (w64 (v6+r16)) _ h))
    ·obtain ⟨r20,hr20,h⟩:=bnS h
     exact gT hP hn hx (H1++[hT 10,hh 15 (.row (o60 x12)),hO 24 (B false),hh 30 (.callV [] (I r20))]) [(1,1),(2,2),(3,3),(1001,4)] [2,3,5,6,8,13,14,15] [] (P3++[Z4=(B false),Qa4 Tryz.prog 157 [(B false)] (I r20),Qa3 (I r20)=true,Qa8 [(1,1),(2,2),(3,3),(1001,4)] [Z5],Qa8 [(1,1),(2,2),(3,3),(1001,4)] [((r46 a5))],Qa8 [(1,1),(2,2),(3,3),(1001,4)] [Z1],Qa8 [(1,1),(2,2),(3,3),(1001,4)] [((o60 x10))]]) (Qa7 AP3 ⟨(Qau c19),(Qg8 hr20),rfl,(rok (Qai t39 a4)),(rok (Qai t46 a5)),(rok (Qai t44 a7)),(rok rfl),trivial⟩) (Qi4 hP hn hx p2 a4 a5 a7 v8 x10 ih (w64 (v6+r20)) _ h)
   ·exact gT hP hn hx (H1++[hF 10]) [(1,1),(2,2),(3,3),(1001,4)] [2,3,5,6,8,13,14,15] [] (P2++[(decide (v8 > 0))=false,Qa8 [(1,1),(2,2),(3,3),(1001,4)] [Z5],Qa8 [(1,1),(2,2),(3,3),(1001,4)] [((r46 a5))],Qa8 [(1,1),(2,2),(3,3),(1001,4)] [Z1],Qa8 [(1,1),(2,2),(3,3),(1001,4)] [((o60 x10))]]) (Qa7 AP2 ⟨c21,(rok (Qai t39 a4)),(rok (Qai t46 a5)),(rok (Qai t44 a7)),(rok rfl),trivial⟩) (Qi4 hP hn hx p2 a4 a5 a7 v8 x10 ih v6 _ h)
  ·obtain rfl:=sj h
   exact gR hP hn [hF 1] [] .raw [Z0=false,(I v6)=(I v6),Qa3 (I v6)=true] ⟨c22,rfl,rfl,trivial⟩
noncomputable def Qk6 (p1:Qaf) (p2:Qbi) : Option Int:=
 Option.bind (Qg5 p1) fun r3 =>
 Qbt p2 FU p1 p2 0 (Qa1.mk r3.Threads r3.Cells r3.Owner r3.Fault) 0
theorem Qvz {p1:Qaf} {p2:Qbi} {r:Int} (h:Qk6 p1 p2=some r) : Qa4 Tryz.prog 83 [(AV.agg ((r39 p1))),(AV.agg ((r46 p2)))] (I r):=by
 refine gM Tryz.func83 48 Xcd fun E hP hn hx=>?_
 unfold Qk6 at h
 obtain ⟨r3,hr3,h⟩:=bnS h
 exact (let Z0:=AV.agg (o44 r3);let Z1:=(I (p2.Trace.length:Int));let Z2:=r3.Threads.map o70;let Z3:=AV.sl 1003 0 Z2.length;let Z4:=r3.Cells.map Qae;let Z5:=AV.sl 1004 0 Z4.length;let Z6:=r3.Owner.map o3;let Z7:=AV.sl 1005 0 Z6.length;let Z8:=I r3.Fault;let Z9:=[Z3,Z5,Z7,Z8];let Z10:=AV.own 70 6 Z2;let Z11:=[Z10,Z5,Z7,Z8];let Z12:=AV.own 132 1 Z4;let Z13:=[Z10,Z12,Z7,Z8];let Z14:=[[Z10,Z12,(AV.own 3 1 Z6),Z8]];let Z15:=Qa1.mk r3.Threads r3.Cells r3.Owner r3.Fault;gT hP hn hx [hW 0 1001,hW 1 1002,hh 4 (.call [[]] Z0 [1003,1004,1005]),hW 5 1006,hO 10 Z1,hh 12 (.pack 1006 1003 0 0 Z9 [Z11]),hh 12 (.pack 1006 1004 0 1 Z11 [Z13]),hh 12 (.pack 1006 1005 0 2 Z13 Z14)] [(1001,1),(1002,2),(1006,3)] [2,3,5,6,13,14,15] [] [Qa4 Tryz.prog 108 [(AV.agg ((r39 p1)))] Z0,Qc2 Z0=true,AV.lit (.int .i64 (((p2.Trace.map o60).length:Nat) : Int))=Z1,[Z9][0]? = some Z9,Z9[0]? = some Z3,Qa2 Z2=true,[Z9].set 0 (Z9.set 0 Z10)=[Z11],[Z11][0]? = some Z11,Z11[1]? = some Z5,Qa2 Z4=true,[Z11].set 0 (Z11.set 1 Z12)=[Z13],[Z13][0]? = some Z13,Z13[2]? = some Z7,Qa2 Z6=true,[Z13].set 0 (Z13.set 2 (AV.own 3 1 Z6))=Z14,Qa8 [(1001,1),(1002,2),(1006,3)] [((r39 p1))],Qa8 [(1001,1),(1002,2),(1006,3)] [((r46 p2))],Qa8 [(1001,1),(1002,2),(1006,3)] Z14] ⟨(Qst hr3),(by simp +zetaDelta only [Qc2,Qbm,Qa9 n3,Qa9 n70,Qa9 Qe7,o44,Bool.and_self]),(Qby o60),rfl,rfl,(Qab t70),rfl,rfl,rfl,(Qab Qbs),rfl,rfl,rfl,(Qab t3),rfl,(rok (Qai t39 p1)),(rok (Qai t46 p2)),(rok (Qai t44 Z15)),trivial⟩ (Qrm hP hn hx p2 FU p1 p2 0 Z15 0 _ h))
noncomputable def Xpt:Code:=match Tryz.f20.body with | some c=>c | none=>.skip
noncomputable def Qgs (p1:Qaf) (p2:Qbi) : Option (Int×Bool):=
 Option.bind (Qmf p1 p2) fun r3 =>
 if (!r3)=true then
  some (0,false)
 else
  Option.bind (Qk6 p1 p2) fun r6 =>
  some (r6,true)
theorem Qs3 {p1:Qaf} {p2:Qbi} {r:(Int×Bool)} (h:Qgs p1 p2=some r) : Qa4 Tryz.prog 20 [(AV.agg ((r39 p1))),(AV.agg ((r46 p2)))] (AV.tup [(I r.1),(B r.2)]):=by
 refine gM Tryz.func20 13 Xpt fun E hP hn hx=>?_
 unfold Qgs at h
 obtain ⟨r3,hr3,h⟩:=bnS h
 let Z0:=[(AV.agg ((r39 p1))),(AV.agg ((r46 p2)))]
 let P1:List Prop:=[Qa4 Tryz.prog 79 Z0 (B r3),Qa3 (B r3)=true]
 have AP1:Qam P1:=⟨(Qz7 hr3),rfl,trivial⟩
 rcases itS h with ⟨c4,h⟩ | ⟨c5,h⟩
 ·obtain rfl:=sj h
  exact gR hP hn [hW 0 1001,hW 1 1002,hh 6 (.callV [[],[]] (B r3)),hT 8] [] (.agg [.raw,.raw]) (P1++[(!r3)=true,(I 0)=(I 0),Qa3 (I 0)=true,(B false)=(B false),Qa3 (B false)=true]) (Qa7 AP1 ⟨c4,rfl,rfl,rfl,rfl,trivial⟩)
 ·obtain ⟨r6,hr6,h⟩:=bnS h
  obtain rfl:=sj h
  exact gR hP hn [hW 0 1001,hW 1 1002,hh 6 (.callV [[],[]] (B r3)),hF 8,hh 11 (.callV [[],[]] (I r6))] [] (.agg [.raw,.raw]) (P1++[(!r3)=false,Qa4 Tryz.prog 83 Z0 (I r6),Qa3 (I r6)=true,(I r6)=(I r6),Qa3 (I r6)=true,(B true)=(B true),Qa3 (B true)=true]) (Qa7 AP1 ⟨c5,(Qvz hr6),rfl,rfl,rfl,rfl,rfl,trivial⟩)
noncomputable def Xez:Code:=match Tryz.f204.body with | some c=>c | none=>.skip
noncomputable def Qgx  (p1:Nat) (p2:Nat)  : Option Bool:=
 if ((Qci p1 0) == some .eq)=true then
  if ((Qci p2 0) == some .eq)=true then
   some (((Qci (fdv 4607182418800017408 p1) 0) == some .gt) == ((Qci (fdv 4607182418800017408 p2) 0) == some .gt))
  else
   some ((Qci p1 p2) == some .eq)
 else
  some ((Qci p1 p2) == some .eq)
theorem Qqp {E:Env} (hP:E.pk=pk0 Tryz.prog) (hn:E.n=37) (hx:FX E []) (p1:Nat) (p2:Nat)   (r:Bool) (h:Qgx p1 p2  = some r) : WAt E Xez (FQ (Qdj Θ Tryz.f204.results.toList [] [] (B r) E)) [true,false,true,true] ⟨[(0,(FK p1)),(1,(FK p2))],[],[JJ]⟩:=by
 unfold Qgx at h
 let Z0:=Qci p1 0;let Z1:=Qci p2 0;let Z2:=fdv 4607182418800017408 p1;let Z3:=Qci Z2 0;let Z4:=fdv 4607182418800017408 p2;let Z5:=Qci Z4 0;let Z6:=Qci p1 p2
 let H1:List Hn:=[hh 1 (.bin (B (Z0 == some .eq)))]
 let P2:List Prop:=[Qgd Tryz.prog .eql 132 (FK p1) (FK 0) (B (Z0 == some .eq))]
 have AP2:Qam P2:=⟨Xfi,trivial⟩
 rcases itS h with ⟨c11,h⟩ | ⟨c14,h⟩
 ·let P3:List Prop:=P2++[(B (Z0 == some .eq))=(B true),Qgd Tryz.prog .eql 132 (FK p2) (FK 0) (B (Z1 == some .eq))]
  have AP3:Qam P3:=Qa7 AP2 ⟨(Qau c11),Xfi,trivial⟩
  rcases itS h with ⟨c12,h⟩ | ⟨c13,h⟩
  ·obtain rfl:=sj h
   exact gR hP hn (H1++[hO 2 (B true),hh 4 (.bin (B (Z1 == some .eq))),hT 6,hh 8 (.bin (FK Z2)),hh 9 (.bin (B (Z3 == some .gt))),hh 11 (.bin (FK Z4)),hh 12 (.bin (B (Z5 == some .gt)))]) [] .raw (P3++[(Z1 == some .eq)=true,Qgd Tryz.prog .quo 132 (FK 4607182418800017408) (FK p1) (FK Z2),Qgd Tryz.prog .gtr 132 (FK Z2) (FK 0) (B (Z3 == some .gt)),Qgd Tryz.prog .quo 132 (FK 4607182418800017408) (FK p2) (FK Z4),Qgd Tryz.prog .gtr 132 (FK Z4) (FK 0) (B (Z5 == some .gt)),(B ((Z3 == some .gt) == (Z5 == some .gt)))=(B ((Z3 == some .gt) == (Z5 == some .gt))),Qa3 (B ((Z3 == some .gt) == (Z5 == some .gt)))=true]) (Qa7 AP3 ⟨c12,Xo7,fGtr,Xo7,fGtr,rfl,rfl,trivial⟩)
  ·obtain rfl:=sj h
   exact gR hP hn (H1++[hO 2 (B true),hh 4 (.bin (B (Z1 == some .eq))),hF 6,hh 9 (.bin (B (Z6 == some .eq)))]) [] .raw (P3++[(Z1 == some .eq)=false,Qgd Tryz.prog .eql 132 (FK p1) (FK p2) (B (Z6 == some .eq)),(B (Z6 == some .eq))=(B (Z6 == some .eq)),Qa3 (B (Z6 == some .eq))=true]) (Qa7 AP3 ⟨c13,Xfi,rfl,rfl,trivial⟩)
 ·obtain rfl:=sj h
  exact gR hP hn (H1++[hO 2 (B false),hh 9 (.bin (B (Z6 == some .eq)))]) [] .raw (P2++[(B (Z0 == some .eq))=(B false),Qgd Tryz.prog .eql 132 (FK p1) (FK p2) (B (Z6 == some .eq)),(B (Z6 == some .eq))=(B (Z6 == some .eq)),Qa3 (B (Z6 == some .eq))=true]) (Qa7 AP2 ⟨(Qau c14),Xfi,rfl,rfl,trivial⟩)
noncomputable def Qew (p1:Nat) (p2:Nat) : Option Bool:=
 if ((Qci p1 p1) != some .eq)=true then
  if ((Qci p1 p1) != some .eq)=true then
   some ((Qci p2 p2) != some .eq)
  else
   some false
 else
  if ((Qci p2 p2) != some .eq)=true then
   if ((Qci p1 p1) != some .eq)=true then
    some ((Qci p2 p2) != some .eq)
   else
    some false
  else
   Qgx p1 p2
theorem Qn9 {p1:Nat} {p2:Nat} {r:Bool} (h:Qew p1 p2=some r) : Qa4 Tryz.prog 204 [(FK p1),(FK p2)] (B r):=by
 refine gM Tryz.func204 37 Xez fun E hP hn hx=>?_
 unfold Qew at h
 let Z0:=Qci p1 p1;let Z1:=B true;let Z2:=Qci p2 p2;let Z3:=B false
 let H1:List Hn:=[hh 3 (.bin (B (Z0 != some .eq)))]
 let P2:List Prop:=[Qgd Tryz.prog .neq 132 (FK p1) (FK p1) (B (Z0 != some .eq))]
 have AP2:Qam P2:=⟨Xio,trivial⟩
 rcases itS h with ⟨c3,h⟩ | ⟨c6,h⟩
 ·let P3:List Prop:=P2++[(B (Z0 != some .eq))=Z1,Qgd Tryz.prog .neq 132 (FK p1) (FK p1) (B (Z0 != some .eq))]
  have AP3:Qam P3:=Qa7 AP2 ⟨(Qau c3),Xio,trivial⟩
  rcases itS h with ⟨c4,h⟩ | ⟨c5,h⟩
  ·obtain rfl:=sj h
   exact gR hP hn (H1++[hO 4 Z1,hh 12 (.bin (B (Z0 != some .eq))),hO 13 Z1,hh 16 (.bin (B (Z2 != some .eq)))]) [] .raw (P3++[(B (Z0 != some .eq))=Z1,Qgd Tryz.prog .neq 132 (FK p2) (FK p2) (B (Z2 != some .eq)),(B (Z2 != some .eq))=(B (Z2 != some .eq)),Qa3 (B (Z2 != some .eq))=true]) (Qa7 AP3 ⟨(Qau c4),Xio,rfl,rfl,trivial⟩)
  ·obtain rfl:=sj h
   exact gR hP hn (H1++[hO 4 Z1,hh 12 (.bin (B (Z0 != some .eq))),hO 13 Z3]) [] .raw (P3++[(B (Z0 != some .eq))=Z3,Z3=Z3,Qa3 Z3=true]) (Qa7 AP3 ⟨(Qau c5),rfl,rfl,trivial⟩)
 ·let H4:List Hn:=H1++[hO 4 Z3,hh 7 (.bin (B (Z2 != some .eq)))]
  let P5:List Prop:=P2++[(B (Z0 != some .eq))=Z3,Qgd Tryz.prog .neq 132 (FK p2) (FK p2) (B (Z2 != some .eq))]
  have AP5:Qam P5:=Qa7 AP2 ⟨(Qau c6),Xio,trivial⟩
  rcases itS h with ⟨c7,h⟩ | ⟨c10,h⟩
  ·let P6:List Prop:=P5++[(Z2 != some .eq)=true,Qgd Tryz.prog .neq 132 (FK p1) (FK p1) (B (Z0 != some .eq))]
   have AP6:Qam P6:=Qa7 AP5 ⟨c7,Xio,trivial⟩
   rcases itS h with ⟨c8,h⟩ | ⟨c9,h⟩
   ·obtain rfl:=sj h
    exact gR hP hn (H4++[hT 9,hh 12 (.bin (B (Z0 != some .eq))),hO 13 Z1,hh 16 (.bin (B (Z2 != some .eq)))]) [] .raw (P6++[(B (Z0 != some .eq))=Z1,Qgd Tryz.prog .neq 132 (FK p2) (FK p2) (B (Z2 != some .eq)),(B (Z2 != some .eq))=(B (Z2 != some .eq)),Qa3 (B (Z2 != some .eq))=true]) (Qa7 AP6 ⟨(Qau c8),Xio,rfl,rfl,trivial⟩)
   ·obtain rfl:=sj h
    exact gR hP hn (H4++[hT 9,hh 12 (.bin (B (Z0 != some .eq))),hO 13 Z3]) [] .raw (P6++[(B (Z0 != some .eq))=Z3,Z3=Z3,Qa3 Z3=true]) (Qa7 AP6 ⟨(Qau c9),rfl,rfl,trivial⟩)
  ·exact gT hP hn hx (H4++[hF 9]) [] [0,1] [] (P5++[(Z2 != some .eq)=false]) (Qa7 AP5 ⟨c10,trivial⟩) (Qqp hP hn hx p1 p2  _ h)
noncomputable def Xmz:Code:=match Tryz.f202.body with | some c=>c | none=>.skip
noncomputable def Qm2 (p1:GOp) (p2:GOp) : Option Bool:=
 if (p1.Code != p2.Code)=true then
  some false
 else
  if (p1.A != p2.A)=true then
   some false
  else
   if (p1.B != p2.B)=true then
    some false
   else
    Option.bind (Qew p1.V p2.V) fun r9 =>
    if (!r9)=true then
     some false
    else
     some true
theorem Xb7 {p1:GOp} {p2:GOp} {r:Bool} (h:Qm2 p1 p2=some r) : Qa4 Tryz.prog 202 [(AV.agg ((Qbj p1))),(AV.agg ((Qbj p2)))] (B r):=by
 refine gM Tryz.func202 26 Xmz fun E hP hn hx=>?_
 unfold Qm2 at h
 let Z0:=p1.Code != p2.Code;let Z1:=B false
 let H1:List Hn:=[hW 0 1001,hW 1 1002]
 rcases itS h with ⟨c3,h⟩ | ⟨c4,h⟩
 ·obtain rfl:=sj h
  exact gR hP hn (H1++[hT 8]) [] .raw [Z0=true,Z1=Z1,Qa3 Z1=true] ⟨c3,rfl,rfl,trivial⟩
 ·rcases itS h with ⟨c5,h⟩ | ⟨c6,h⟩
  ·obtain rfl:=sj h
   exact gR hP hn (H1++[hF 8,hT 14]) [] .raw [Z0=false,(p1.A != p2.A)=true,Z1=Z1,Qa3 Z1=true] ⟨c4,c5,rfl,rfl,trivial⟩
  ·let P2:List Prop:=[Z0=false,(p1.A != p2.A)=false]
   have AP2:Qam P2:=⟨c4,c6,trivial⟩
   rcases itS h with ⟨c7,h⟩ | ⟨c8,h⟩
   ·obtain rfl:=sj h
    exact gR hP hn (H1++[hF 8,hF 14,hT 20]) [] .raw (P2++[(p1.B != p2.B)=true,Z1=Z1,Qa3 Z1=true]) (Qa7 AP2 ⟨c7,rfl,rfl,trivial⟩)
   ·obtain ⟨r9,hr9,h⟩:=bnS h
    let P3:List Prop:=P2++[(p1.B != p2.B)=false,Qa4 Tryz.prog 204 [(FK p1.V),(FK p2.V)] (B r9),Qa3 (B r9)=true]
    have AP3:Qam P3:=Qa7 AP2 ⟨c8,(Qn9 hr9),rfl,trivial⟩
    rcases itS h with ⟨c10,h⟩ | ⟨c11,h⟩
    ·obtain rfl:=sj h
     exact gR hP hn (H1++[hF 8,hF 14,hF 20,hh 25 (.callV [] (B r9)),hT 27]) [] .raw (P3++[(!r9)=true,Z1=Z1,Qa3 Z1=true]) (Qa7 AP3 ⟨c10,rfl,rfl,trivial⟩)
    ·obtain rfl:=sj h
     exact gR hP hn (H1++[hF 8,hF 14,hF 20,hh 25 (.callV [] (B r9)),hF 27]) [] .raw (P3++[(!r9)=false,(B true)=(B true),Qa3 (B true)=true]) (Qa7 AP3 ⟨c11,rfl,rfl,trivial⟩)
noncomputable def Xg5:Code:=match Tryz.f153.body with | some c=>c | none=>.skip
noncomputable def Qh3  (p1:(List GOp)) (p2:(List GOp)) : Nat→Int→Option Bool
 | 0,_=>none
 | n+1,v5 =>
 if (decide (v5<(p1.length:Int)))=true then
  Option.bind (rd p1 v5) fun x7 =>
  Option.bind (rd p2 v5) fun x8 =>
  Option.bind (Qm2 x7 x8) fun r9 =>
  if (!r9)=true then
   some false
  else
   Qh3 p1 p2 n (w64 (v5+1))
 else
  some true
theorem Quo {E:Env} (hP:E.pk=pk0 Tryz.prog) (hn:E.n=27) (hx:FX E []) (p1:(List GOp)) (p2:(List GOp))  : ∀ (n:Nat) (v5:Int) (r:Bool),Qh3 p1 p2 n v5=some r→WAt E Xg5 (FQ (Qdj Θ Tryz.f153.results.toList [] [] (B r) E)) [true,true,false,true,false] ⟨[(0,(AV.ro 4 (p1.map Qbj))),(1,(AV.ro 4 (p2.map Qbj))),(5,(I v5))],[],[JJ]⟩:=by
 intro n
 induction n with
 | zero=>intro v5 r h;simp only [Qh3] at h;cases h
 | succ n ih =>
  intro v5 r h
  simp only [Qh3] at h
  let Z0:=(I (p1.length:Int));let Z1:=(decide (v5<(p1.length:Int)))
  let P1:List Prop:=[AV.lit (.int .i64 (((p1.map Qbj).length:Nat) : Int))=Z0]
  have AP1:Qam P1:=⟨(Qby Qbj),trivial⟩
  rcases itS h with ⟨c6,h⟩ | ⟨c12,h⟩
  ·obtain ⟨x7,hx7,h⟩:=bnS h
   obtain ⟨x8,hx8,h⟩:=bnS h
   obtain ⟨r9,hr9,h⟩:=bnS h
   let H2:List Hn:=[hO 2 Z0,hT 4,hh 7 (.row (Qbj x7)),hh 11 (.row (Qbj x8)),hh 13 (.callV [[],[]] (B r9))]
   let P3:List Prop:=P1++[Z1=true,(0:Int)≤v5,(p1.map Qbj)[v5.toNat]? = some (Qbj x7),(0:Int)≤v5,(p2.map Qbj)[v5.toNat]? = some (Qbj x8),Qa4 Tryz.prog 202 [(AV.agg ((Qbj x7))),(AV.agg ((Qbj x8)))] (B r9),Qa3 (B r9)=true]
   have AP3:Qam P3:=Qa7 AP1 ⟨c6,(rd0 hx7),(rdM Qbj hx7),(rd0 hx8),(rdM Qbj hx8),(Xb7 hr9),rfl,trivial⟩
   rcases itS h with ⟨c10,h⟩ | ⟨c11,h⟩
   ·obtain rfl:=sj h
    exact gR hP hn (H2++[hT 15]) [] .raw (P3++[(!r9)=true,(B false)=(B false),Qa3 (B false)=true]) (Qa7 AP3 ⟨c10,rfl,rfl,trivial⟩)
   ·exact gT hP hn hx (H2++[hF 15]) [] [0,1,5] [] (P3++[(!r9)=false]) (Qa7 AP3 ⟨c11,trivial⟩) (ih (w64 (v5+1)) _ h)
  ·obtain rfl:=sj h
   exact gR hP hn [hO 2 Z0,hF 4] [] .raw (P1++[Z1=false,(B true)=(B true),Qa3 (B true)=true]) (Qa7 AP1 ⟨c12,rfl,rfl,trivial⟩)
noncomputable def Qkd (p1:(List GOp)) (p2:(List GOp)) : Option Bool:=
 if ((p1.length:Int) != (p2.length:Int))=true then
  some false
 else
  Qh3 p1 p2 FU 0
theorem Qzj {p1:(List GOp)} {p2:(List GOp)} {r:Bool} (h:Qkd p1 p2=some r) : Qa4 Tryz.prog 153 [(AV.ro 4 (p1.map Qbj)),(AV.ro 4 (p2.map Qbj))] (B r):=by
 refine gM Tryz.func153 27 Xg5 fun E hP hn hx=>?_
 unfold Qkd at h
 let Z0:=(I (p1.length:Int));let Z1:=(I (p2.length:Int));let Z2:=((p1.length:Int) != (p2.length:Int))
 let P1:List Prop:=[AV.lit (.int .i64 (((p1.map Qbj).length:Nat) : Int))=Z0,AV.lit (.int .i64 (((p2.map Qbj).length:Nat) : Int))=Z1]
 have AP1:Qam P1:=⟨(Qby Qbj),(Qby Qbj),trivial⟩
 rcases itS h with ⟨c3,h⟩ | ⟨c4,h⟩
 ·obtain rfl:=sj h
  exact gR hP hn [hO 2 Z0,hO 4 Z1,hT 6] [] .raw (P1++[Z2=true,(B false)=(B false),Qa3 (B false)=true]) (Qa7 AP1 ⟨c3,rfl,rfl,trivial⟩)
 ·exact gT hP hn hx [hO 2 Z0,hO 4 Z1,hF 6] [] [0,1,5] [] (P1++[Z2=false]) (Qa7 AP1 ⟨c4,trivial⟩) (Quo hP hn hx p1 p2 FU 0 _ h)
noncomputable def Xka:Code:=match Tryz.f73.body with | some c=>c | none=>.skip
noncomputable def Qg9  (p1:(List (List GOp))) (p2:(List (List GOp))) : Nat→Int→Option Bool
 | 0,_=>none
 | n+1,v5 =>
 if (decide (v5<(p1.length:Int)))=true then
  Option.bind (rd p1 v5) fun x7 =>
  Option.bind (rd p2 v5) fun x8 =>
  Option.bind (Qkd x7 x8) fun r9 =>
  if (!r9)=true then
   some false
  else
   Qg9 p1 p2 n (w64 (v5+1))
 else
  some true
theorem Qtr {E:Env} (hP:E.pk=pk0 Tryz.prog) (hn:E.n=27) (hx:FX E []) (p1:(List (List GOp))) (p2:(List (List GOp)))  : ∀ (n:Nat) (v5:Int) (r:Bool),Qg9 p1 p2 n v5=some r→WAt E Xka (FQ (Qdj Θ Tryz.f73.results.toList [] [] (B r) E)) [true,true,false,true,false] ⟨[(0,(AV.ro 1 (p1.map Qho))),(1,(AV.ro 1 (p2.map Qho))),(5,(I v5))],[],[JJ]⟩:=by
 intro n
 induction n with
 | zero=>intro v5 r h;simp only [Qg9] at h;cases h
 | succ n ih =>
  intro v5 r h
  simp only [Qg9] at h
  let Z0:=(I (p1.length:Int));let Z1:=(decide (v5<(p1.length:Int)))
  let P1:List Prop:=[AV.lit (.int .i64 (((p1.map Qho).length:Nat) : Int))=Z0]
  have AP1:Qam P1:=⟨(Qby Qho),trivial⟩
  rcases itS h with ⟨c6,h⟩ | ⟨c12,h⟩
  ·obtain ⟨x7,hx7,h⟩:=bnS h
   obtain ⟨x8,hx8,h⟩:=bnS h
   obtain ⟨r9,hr9,h⟩:=bnS h
   let H2:List Hn:=[hO 2 Z0,hT 4,hh 7 (.row (Qho x7)),hh 11 (.row (Qho x8)),hh 13 (.callV [] (B r9))]
   let P3:List Prop:=P1++[Z1=true,(0:Int)≤v5,(p1.map Qho)[v5.toNat]? = some (Qho x7),(0:Int)≤v5,(p2.map Qho)[v5.toNat]? = some (Qho x8),Qa4 Tryz.prog 153 [(AV.ro 4 (x7.map Qbj)),(AV.ro 4 (x8.map Qbj))] (B r9),Qa3 (B r9)=true]
   have AP3:Qam P3:=Qa7 AP1 ⟨c6,(rd0 hx7),(rdM Qho hx7),(rd0 hx8),(rdM Qho hx8),(Qzj hr9),rfl,trivial⟩
   rcases itS h with ⟨c10,h⟩ | ⟨c11,h⟩
   ·obtain rfl:=sj h
    exact gR hP hn (H2++[hT 15]) [] .raw (P3++[(!r9)=true,(B false)=(B false),Qa3 (B false)=true]) (Qa7 AP3 ⟨c10,rfl,rfl,trivial⟩)
   ·exact gT hP hn hx (H2++[hF 15]) [] [0,1,5] [] (P3++[(!r9)=false]) (Qa7 AP3 ⟨c11,trivial⟩) (ih (w64 (v5+1)) _ h)
  ·obtain rfl:=sj h
   exact gR hP hn [hO 2 Z0,hF 4] [] .raw (P1++[Z1=false,(B true)=(B true),Qa3 (B true)=true]) (Qa7 AP1 ⟨c12,rfl,rfl,trivial⟩)
noncomputable def Qkt (p1:(List (List GOp))) (p2:(List (List GOp))) : Option Bool:=
 if ((p1.length:Int) != (p2.length:Int))=true then
  some false
 else
  Qg9 p1 p2 FU 0
theorem Qyd {p1:(List (List GOp))} {p2:(List (List GOp))} {r:Bool} (h:Qkt p1 p2=some r) : Qa4 Tryz.prog 73 [(AV.ro 1 (p1.map Qho)),(AV.ro 1 (p2.map Qho))] (B r):=by
 refine gM Tryz.func73 27 Xka fun E hP hn hx=>?_
 unfold Qkt at h
 let Z0:=(I (p1.length:Int));let Z1:=(I (p2.length:Int));let Z2:=((p1.length:Int) != (p2.length:Int))
 let P1:List Prop:=[AV.lit (.int .i64 (((p1.map Qho).length:Nat) : Int))=Z0,AV.lit (.int .i64 (((p2.map Qho).length:Nat) : Int))=Z1]
 have AP1:Qam P1:=⟨(Qby Qho),(Qby Qho),trivial⟩
 rcases itS h with ⟨c3,h⟩ | ⟨c4,h⟩
 ·obtain rfl:=sj h
  exact gR hP hn [hO 2 Z0,hO 4 Z1,hT 6] [] .raw (P1++[Z2=true,(B false)=(B false),Qa3 (B false)=true]) (Qa7 AP1 ⟨c3,rfl,rfl,trivial⟩)
 ·exact gT hP hn hx [hO 2 Z0,hO 4 Z1,hF 6] [] [0,1,5] [] (P1++[Z2=false]) (Qa7 AP1 ⟨c4,trivial⟩) (Qtr hP hn hx p1 p2 FU 0 _ h)
noncomputable def Xo4:Code:=match Tryz.f15.body with | some c=>c | none=>.skip
noncomputable def Qkj (p1:Qaf) (p2:Qaf) : Option Bool:=
 if (p1.Cells != p2.Cells)=true then
  some false
 else
  if (p1.Locks != p2.Locks)=true then
   some false
  else
   if (p1.Conds != p2.Conds)=true then
    some false
   else
    Option.bind (Qkt p1.Routines p2.Routines) fun r9 =>
    if (!r9)=true then
     some false
    else
     some true
theorem Qye {p1:Qaf} {p2:Qaf} {r:Bool} (h:Qkj p1 p2=some r) : Qa4 Tryz.prog 15 [(AV.agg ((r39 p1))),(AV.agg ((r39 p2)))] (B r):=by
 refine gM Tryz.func15 26 Xo4 fun E hP hn hx=>?_
 unfold Qkj at h
 let Z0:=p1.Cells != p2.Cells;let Z1:=B false;let Z2:=p1.Locks != p2.Locks;let Z3:=p1.Conds != p2.Conds
 let H1:List Hn:=[hW 0 1001,hW 1 1002]
 rcases itS h with ⟨c3,h⟩ | ⟨c4,h⟩
 ·obtain rfl:=sj h
  exact gR hP hn (H1++[hT 8]) [] .raw [Z0=true,Z1=Z1,Qa3 Z1=true] ⟨c3,rfl,rfl,trivial⟩
 ·rcases itS h with ⟨c5,h⟩ | ⟨c6,h⟩
  ·obtain rfl:=sj h
   exact gR hP hn (H1++[hF 8,hT 14]) [] .raw [Z0=false,Z2=true,Z1=Z1,Qa3 Z1=true] ⟨c4,c5,rfl,rfl,trivial⟩
  ·let P2:List Prop:=[Z0=false,Z2=false]
   have AP2:Qam P2:=⟨c4,c6,trivial⟩
   rcases itS h with ⟨c7,h⟩ | ⟨c8,h⟩
   ·obtain rfl:=sj h
    exact gR hP hn (H1++[hF 8,hF 14,hT 20]) [] .raw (P2++[Z3=true,Z1=Z1,Qa3 Z1=true]) (Qa7 AP2 ⟨c7,rfl,rfl,trivial⟩)
   ·obtain ⟨r9,hr9,h⟩:=bnS h
    let P3:List Prop:=P2++[Z3=false,Qa4 Tryz.prog 73 [(AV.ro 1 (p1.Routines.map Qho)),(AV.ro 1 (p2.Routines.map Qho))] (B r9),Qa3 (B r9)=true]
    have AP3:Qam P3:=Qa7 AP2 ⟨c8,(Qyd hr9),rfl,trivial⟩
    rcases itS h with ⟨c10,h⟩ | ⟨c11,h⟩
    ·obtain rfl:=sj h
     exact gR hP hn (H1++[hF 8,hF 14,hF 20,hh 25 (.callV [] (B r9)),hT 27]) [] .raw (P3++[(!r9)=true,Z1=Z1,Qa3 Z1=true]) (Qa7 AP3 ⟨c10,rfl,rfl,trivial⟩)
    ·obtain rfl:=sj h
     exact gR hP hn (H1++[hF 8,hF 14,hF 20,hh 25 (.callV [] (B r9)),hF 27]) [] .raw (P3++[(!r9)=false,(B true)=(B true),Qa3 (B true)=true]) (Qa7 AP3 ⟨c11,rfl,rfl,trivial⟩)
noncomputable def Xkp:Code:=match Tryz.f154.body with | some c=>c | none=>.skip
noncomputable def Qhn (p1:Qaa) (p2:Qaa) : Option Bool:=
 if (p1.Thread != p2.Thread)=true then
  some false
 else
  if (p1.Kind != p2.Kind)=true then
   some false
  else
   if (p1.Obj != p2.Obj)=true then
    some false
   else
    if (p1.Lock != p2.Lock)=true then
     some false
    else
     if (p1.Pc != p2.Pc)=true then
      some false
     else
      some true
theorem Qwf {p1:Qaa} {p2:Qaa} {r:Bool} (h:Qhn p1 p2=some r) : Qa4 Tryz.prog 154 [(AV.agg ((o60 p1))),(AV.agg ((o60 p2)))] (B r):=by
 refine gM Tryz.func154 30 Xkp fun E hP hn hx=>?_
 unfold Qhn at h
 let Z0:=p1.Thread != p2.Thread;let Z1:=B false;let Z2:=p1.Kind != p2.Kind;let Z3:=p1.Lock != p2.Lock
 let H1:List Hn:=[hW 0 1001,hW 1 1002]
 rcases itS h with ⟨c3,h⟩ | ⟨c4,h⟩
 ·obtain rfl:=sj h
  exact gR hP hn (H1++[hT 8]) [] .raw [Z0=true,Z1=Z1,Qa3 Z1=true] ⟨c3,rfl,rfl,trivial⟩
 ·let P2:List Prop:=[Z0=false]
  have AP2:Qam P2:=⟨c4,trivial⟩
  rcases itS h with ⟨c5,h⟩ | ⟨c6,h⟩
  ·obtain rfl:=sj h
   exact gR hP hn (H1++[hF 8,hT 14]) [] .raw (P2++[Z2=true,Z1=Z1,Qa3 Z1=true]) (Qa7 AP2 ⟨c5,rfl,rfl,trivial⟩)
  ·rcases itS h with ⟨c7,h⟩ | ⟨c8,h⟩
   ·obtain rfl:=sj h
    exact gR hP hn (H1++[hF 8,hF 14,hT 20]) [] .raw (P2++[Z2=false,(p1.Obj != p2.Obj)=true,Z1=Z1,Qa3 Z1=true]) (Qa7 AP2 ⟨c6,c7,rfl,rfl,trivial⟩)
   ·let P3:List Prop:=P2++[Z2=false,(p1.Obj != p2.Obj)=false]
    have AP3:Qam P3:=Qa7 AP2 ⟨c6,c8,trivial⟩
    rcases itS h with ⟨c9,h⟩ | ⟨c10,h⟩
    ·obtain rfl:=sj h
     exact gR hP hn (H1++[hF 8,hF 14,hF 20,hT 26]) [] .raw (P3++[Z3=true,Z1=Z1,Qa3 Z1=true]) (Qa7 AP3 ⟨c9,rfl,rfl,trivial⟩)
    ·rcases itS h with ⟨c11,h⟩ | ⟨c12,h⟩
     ·obtain rfl:=sj h
      exact gR hP hn (H1++[hF 8,hF 14,hF 20,hF 26,hT 32]) [] .raw (P3++[Z3=false,(p1.Pc != p2.Pc)=true,Z1=Z1,Qa3 Z1=true]) (Qa7 AP3 ⟨c10,c11,rfl,rfl,trivial⟩)
     ·obtain rfl:=sj h
      exact gR hP hn (H1++[hF 8,hF 14,hF 20,hF 26,hF 32]) [] .raw (P3++[Z3=false,(p1.Pc != p2.Pc)=false,(B true)=(B true),Qa3 (B true)=true]) (Qa7 AP3 ⟨c10,c12,rfl,rfl,trivial⟩)
noncomputable def Xju:Code:=match Tryz.f74.body with | some c=>c | none=>.skip
noncomputable def Qeb  (p1:(List Qaa)) (p2:(List Qaa)) : Nat→Int→Option Bool
 | 0,_=>none
 | n+1,v5 =>
 if (decide (v5<(p1.length:Int)))=true then
  Option.bind (rd p1 v5) fun x7 =>
  Option.bind (rd p2 v5) fun x8 =>
  Option.bind (Qhn x7 x8) fun r9 =>
  if (!r9)=true then
   some false
  else
   Qeb p1 p2 n (w64 (v5+1))
 else
  some true
theorem Qrn {E:Env} (hP:E.pk=pk0 Tryz.prog) (hn:E.n=27) (hx:FX E []) (p1:(List Qaa)) (p2:(List Qaa))  : ∀ (n:Nat) (v5:Int) (r:Bool),Qeb p1 p2 n v5=some r→WAt E Xju (FQ (Qdj Θ Tryz.f74.results.toList [] [] (B r) E)) [true,true,false,true,false] ⟨[(0,(AV.ro 5 (p1.map o60))),(1,(AV.ro 5 (p2.map o60))),(5,(I v5))],[],[JJ]⟩:=by
 intro n
 induction n with
 | zero=>intro v5 r h;simp only [Qeb] at h;cases h
 | succ n ih =>
  intro v5 r h
  simp only [Qeb] at h
  let Z0:=(I (p1.length:Int));let Z1:=(decide (v5<(p1.length:Int)))
  let P1:List Prop:=[AV.lit (.int .i64 (((p1.map o60).length:Nat) : Int))=Z0]
  have AP1:Qam P1:=⟨(Qby o60),trivial⟩
  rcases itS h with ⟨c6,h⟩ | ⟨c12,h⟩
  ·obtain ⟨x7,hx7,h⟩:=bnS h
   obtain ⟨x8,hx8,h⟩:=bnS h
   obtain ⟨r9,hr9,h⟩:=bnS h
   let H2:List Hn:=[hO 2 Z0,hT 4,hh 7 (.row (o60 x7)),hh 11 (.row (o60 x8)),hh 13 (.callV [[],[]] (B r9))]
   let P3:List Prop:=P1++[Z1=true,(0:Int)≤v5,(p1.map o60)[v5.toNat]? = some (o60 x7),(0:Int)≤v5,(p2.map o60)[v5.toNat]? = some (o60 x8),Qa4 Tryz.prog 154 [(AV.agg ((o60 x7))),(AV.agg ((o60 x8)))] (B r9),Qa3 (B r9)=true]
   have AP3:Qam P3:=Qa7 AP1 ⟨c6,(rd0 hx7),(rdM o60 hx7),(rd0 hx8),(rdM o60 hx8),(Qwf hr9),rfl,trivial⟩
   rcases itS h with ⟨c10,h⟩ | ⟨c11,h⟩
   ·obtain rfl:=sj h
    exact gR hP hn (H2++[hT 15]) [] .raw (P3++[(!r9)=true,(B false)=(B false),Qa3 (B false)=true]) (Qa7 AP3 ⟨c10,rfl,rfl,trivial⟩)
   ·exact gT hP hn hx (H2++[hF 15]) [] [0,1,5] [] (P3++[(!r9)=false]) (Qa7 AP3 ⟨c11,trivial⟩) (ih (w64 (v5+1)) _ h)
  ·obtain rfl:=sj h
   exact gR hP hn [hO 2 Z0,hF 4] [] .raw (P1++[Z1=false,(B true)=(B true),Qa3 (B true)=true]) (Qa7 AP1 ⟨c12,rfl,rfl,trivial⟩)
noncomputable def Qi9 (p1:(List Qaa)) (p2:(List Qaa)) : Option Bool:=
 if ((p1.length:Int) != (p2.length:Int))=true then
  some false
 else
  Qeb p1 p2 FU 0
theorem Quy {p1:(List Qaa)} {p2:(List Qaa)} {r:Bool} (h:Qi9 p1 p2=some r) : Qa4 Tryz.prog 74 [(AV.ro 5 (p1.map o60)),(AV.ro 5 (p2.map o60))] (B r):=by
 refine gM Tryz.func74 27 Xju fun E hP hn hx=>?_
 unfold Qi9 at h
 let Z0:=(I (p1.length:Int));let Z1:=(I (p2.length:Int));let Z2:=((p1.length:Int) != (p2.length:Int))
 let P1:List Prop:=[AV.lit (.int .i64 (((p1.map o60).length:Nat) : Int))=Z0,AV.lit (.int .i64 (((p2.map o60).length:Nat) : Int))=Z1]
 have AP1:Qam P1:=⟨(Qby o60),(Qby o60),trivial⟩
 rcases itS h with ⟨c3,h⟩ | ⟨c4,h⟩
 ·obtain rfl:=sj h
  exact gR hP hn [hO 2 Z0,hO 4 Z1,hT 6] [] .raw (P1++[Z2=true,(B false)=(B false),Qa3 (B false)=true]) (Qa7 AP1 ⟨c3,rfl,rfl,trivial⟩)
 ·exact gT hP hn hx [hO 2 Z0,hO 4 Z1,hF 6] [] [0,1,5] [] (P1++[Z2=false]) (Qa7 AP1 ⟨c4,trivial⟩) (Qrn hP hn hx p1 p2 FU 0 _ h)
noncomputable def Xkj:Code:=match Tryz.f75.body with | some c=>c | none=>.skip
noncomputable def Qg2  (p1:(List Int)) (p2:(List Int)) : Nat→Int→Option Bool
 | 0,_=>none
 | n+1,v5 =>
 if (decide (v5<(p1.length:Int)))=true then
  Option.bind (rd p1 v5) fun x7 =>
  Option.bind (rd p2 v5) fun x8 =>
  if (x7 != x8)=true then
   some false
  else
   Qg2 p1 p2 n (w64 (v5+1))
 else
  some true
theorem Qtt {E:Env} (hP:E.pk=pk0 Tryz.prog) (hn:E.n=26) (hx:FX E []) (p1:(List Int)) (p2:(List Int))  : ∀ (n:Nat) (v5:Int) (r:Bool),Qg2 p1 p2 n v5=some r→WAt E Xkj (FQ (Qdj Θ Tryz.f75.results.toList [] [] (B r) E)) [true,true,false,true,false] ⟨[(0,(AV.ro 1 (p1.map o3))),(1,(AV.ro 1 (p2.map o3))),(5,(I v5))],[],[JJ]⟩:=by
 intro n
 induction n with
 | zero=>intro v5 r h;simp only [Qg2] at h;cases h
 | succ n ih =>
  intro v5 r h
  simp only [Qg2] at h
  let Z0:=(I (p1.length:Int));let Z1:=(decide (v5<(p1.length:Int)))
  let P1:List Prop:=[AV.lit (.int .i64 (((p1.map o3).length:Nat) : Int))=Z0]
  have AP1:Qam P1:=⟨(Qby o3),trivial⟩
  rcases itS h with ⟨c6,h⟩ | ⟨c11,h⟩
  ·obtain ⟨x7,hx7,h⟩:=bnS h
   obtain ⟨x8,hx8,h⟩:=bnS h
   let H2:List Hn:=[hO 2 Z0,hT 4,hh 7 (.row (o3 x7)),hh 11 (.row (o3 x8))]
   let P3:List Prop:=P1++[Z1=true,(0:Int)≤v5,(p1.map o3)[v5.toNat]? = some (o3 x7),(0:Int)≤v5,(p2.map o3)[v5.toNat]? = some (o3 x8)]
   have AP3:Qam P3:=Qa7 AP1 ⟨c6,(rd0 hx7),(rdM o3 hx7),(rd0 hx8),(rdM o3 hx8),trivial⟩
   rcases itS h with ⟨c9,h⟩ | ⟨c10,h⟩
   ·obtain rfl:=sj h
    exact gR hP hn (H2++[hT 14]) [] .raw (P3++[(x7 != x8)=true,(B false)=(B false),Qa3 (B false)=true]) (Qa7 AP3 ⟨c9,rfl,rfl,trivial⟩)
   ·exact gT hP hn hx (H2++[hF 14]) [] [0,1,5] [] (P3++[(x7 != x8)=false]) (Qa7 AP3 ⟨c10,trivial⟩) (ih (w64 (v5+1)) _ h)
  ·obtain rfl:=sj h
   exact gR hP hn [hO 2 Z0,hF 4] [] .raw (P1++[Z1=false,(B true)=(B true),Qa3 (B true)=true]) (Qa7 AP1 ⟨c11,rfl,rfl,trivial⟩)
noncomputable def Qio (p1:(List Int)) (p2:(List Int)) : Option Bool:=
 if ((p1.length:Int) != (p2.length:Int))=true then
  some false
 else
  Qg2 p1 p2 FU 0
theorem Qrq {p1:(List Int)} {p2:(List Int)} {r:Bool} (h:Qio p1 p2=some r) : Qa4 Tryz.prog 75 [(AV.ro 1 (p1.map o3)),(AV.ro 1 (p2.map o3))] (B r):=by
 refine gM Tryz.func75 26 Xkj fun E hP hn hx=>?_
 unfold Qio at h
 let Z0:=(I (p1.length:Int));let Z1:=(I (p2.length:Int));let Z2:=((p1.length:Int) != (p2.length:Int))
 let P1:List Prop:=[AV.lit (.int .i64 (((p1.map o3).length:Nat) : Int))=Z0,AV.lit (.int .i64 (((p2.map o3).length:Nat) : Int))=Z1]
 have AP1:Qam P1:=⟨(Qby o3),(Qby o3),trivial⟩
 rcases itS h with ⟨c3,h⟩ | ⟨c4,h⟩
 ·obtain rfl:=sj h
  exact gR hP hn [hO 2 Z0,hO 4 Z1,hT 6] [] .raw (P1++[Z2=true,(B false)=(B false),Qa3 (B false)=true]) (Qa7 AP1 ⟨c3,rfl,rfl,trivial⟩)
 ·exact gT hP hn hx [hO 2 Z0,hO 4 Z1,hF 6] [] [0,1,5] [] (P1++[Z2=false]) (Qa7 AP1 ⟨c4,trivial⟩) (Qtt hP hn hx p1 p2 FU 0 _ h)
noncomputable def Xht:Code:=match Tryz.f156.body with | some c=>c | none=>.skip
noncomputable def Qdk  (p1:(List Nat)) (p2:(List Nat)) : Nat→Int→Option Bool
 | 0,_=>none
 | n+1,v5 =>
 if (decide (v5<(p1.length:Int)))=true then
  Option.bind (rd p1 v5) fun x7 =>
  Option.bind (rd p2 v5) fun x8 =>
  Option.bind (Qew x7 x8) fun r9 =>
  if (!r9)=true then
   some false
  else
   Qdk p1 p2 n (w64 (v5+1))
 else
  some true
theorem Qpp {E:Env} (hP:E.pk=pk0 Tryz.prog) (hn:E.n=27) (hx:FX E []) (p1:(List Nat)) (p2:(List Nat))  : ∀ (n:Nat) (v5:Int) (r:Bool),Qdk p1 p2 n v5=some r→WAt E Xht (FQ (Qdj Θ Tryz.f156.results.toList [] [] (B r) E)) [true,true,false,true,false] ⟨[(0,(AV.ro 1 (p1.map Qae))),(1,(AV.ro 1 (p2.map Qae))),(5,(I v5))],[],[JJ]⟩:=by
 intro n
 induction n with
 | zero=>intro v5 r h;simp only [Qdk] at h;cases h
 | succ n ih =>
  intro v5 r h
  simp only [Qdk] at h
  let Z0:=(I (p1.length:Int));let Z1:=(decide (v5<(p1.length:Int)))
  let P1:List Prop:=[AV.lit (.int .i64 (((p1.map Qae).length:Nat) : Int))=Z0]
  have AP1:Qam P1:=⟨(Qby Qae),trivial⟩
  rcases itS h with ⟨c6,h⟩ | ⟨c12,h⟩
  ·obtain ⟨x7,hx7,h⟩:=bnS h
   obtain ⟨x8,hx8,h⟩:=bnS h
   obtain ⟨r9,hr9,h⟩:=bnS h
   let H2:List Hn:=[hO 2 Z0,hT 4,hh 7 (.row (Qae x7)),hh 11 (.row (Qae x8)),hh 13 (.callV [] (B r9))]
   let P3:List Prop:=P1++[Z1=true,(0:Int)≤v5,(p1.map Qae)[v5.toNat]? = some (Qae x7),(0:Int)≤v5,(p2.map Qae)[v5.toNat]? = some (Qae x8),Qa4 Tryz.prog 204 [(FK x7),(FK x8)] (B r9),Qa3 (B r9)=true]
   have AP3:Qam P3:=Qa7 AP1 ⟨c6,(rd0 hx7),(rdM Qae hx7),(rd0 hx8),(rdM Qae hx8),(Qn9 hr9),rfl,trivial⟩
   rcases itS h with ⟨c10,h⟩ | ⟨c11,h⟩
   ·obtain rfl:=sj h
    exact gR hP hn (H2++[hT 15]) [] .raw (P3++[(!r9)=true,(B false)=(B false),Qa3 (B false)=true]) (Qa7 AP3 ⟨c10,rfl,rfl,trivial⟩)
   ·exact gT hP hn hx (H2++[hF 15]) [] [0,1,5] [] (P3++[(!r9)=false]) (Qa7 AP3 ⟨c11,trivial⟩) (ih (w64 (v5+1)) _ h)
  ·obtain rfl:=sj h
   exact gR hP hn [hO 2 Z0,hF 4] [] .raw (P1++[Z1=false,(B true)=(B true),Qa3 (B true)=true]) (Qa7 AP1 ⟨c12,rfl,rfl,trivial⟩)
noncomputable def Qf7 (p1:(List Nat)) (p2:(List Nat)) : Option Bool:=
 if ((p1.length:Int) != (p2.length:Int))=true then
  some false
 else
  Qdk p1 p2 FU 0
theorem Qm3 {p1:(List Nat)} {p2:(List Nat)} {r:Bool} (h:Qf7 p1 p2=some r) : Qa4 Tryz.prog 156 [(AV.ro 1 (p1.map Qae)),(AV.ro 1 (p2.map Qae))] (B r):=by
 refine gM Tryz.func156 27 Xht fun E hP hn hx=>?_
 unfold Qf7 at h
 let Z0:=(I (p1.length:Int));let Z1:=(I (p2.length:Int));let Z2:=((p1.length:Int) != (p2.length:Int))
 let P1:List Prop:=[AV.lit (.int .i64 (((p1.map Qae).length:Nat) : Int))=Z0,AV.lit (.int .i64 (((p2.map Qae).length:Nat) : Int))=Z1]
 have AP1:Qam P1:=⟨(Qby Qae),(Qby Qae),trivial⟩
 rcases itS h with ⟨c3,h⟩ | ⟨c4,h⟩
 ·obtain rfl:=sj h
  exact gR hP hn [hO 2 Z0,hO 4 Z1,hT 6] [] .raw (P1++[Z2=true,(B false)=(B false),Qa3 (B false)=true]) (Qa7 AP1 ⟨c3,rfl,rfl,trivial⟩)
 ·exact gT hP hn hx [hO 2 Z0,hO 4 Z1,hF 6] [] [0,1,5] [] (P1++[Z2=false]) (Qa7 AP1 ⟨c4,trivial⟩) (Qpp hP hn hx p1 p2 FU 0 _ h)
noncomputable def Xlj:Code:=match Tryz.f203.body with | some c=>c | none=>.skip
noncomputable def Qh1 (p1:Qa0) (p2:Qa0) : Option Bool:=
 if (p1.Routine != p2.Routine)=true then
  some false
 else
  if (p1.Pc != p2.Pc)=true then
   some false
  else
   if (p1.State != p2.State)=true then
    some false
   else
    if (p1.Cond != p2.Cond)=true then
     some false
    else
     if (p1.Lock != p2.Lock)=true then
      some false
     else
      Option.bind (Qf7 p1.Stack p2.Stack) fun r13 =>
      if (!r13)=true then
       some false
      else
       some true
theorem Qv8 {p1:Qa0} {p2:Qa0} {r:Bool} (h:Qh1 p1 p2=some r) : Qa4 Tryz.prog 203 [(AV.agg ((r70 p1))),(AV.agg ((r70 p2)))] (B r):=by
 refine gM Tryz.func203 36 Xlj fun E hP hn hx=>?_
 unfold Qh1 at h
 let Z0:=p1.Routine != p2.Routine;let Z1:=B false;let Z2:=p1.State != p2.State
 let H1:List Hn:=[hW 0 1001,hW 1 1002]
 rcases itS h with ⟨c3,h⟩ | ⟨c4,h⟩
 ·obtain rfl:=sj h
  exact gR hP hn (H1++[hT 8]) [] .raw [Z0=true,Z1=Z1,Qa3 Z1=true] ⟨c3,rfl,rfl,trivial⟩
 ·let P2:List Prop:=[Z0=false]
  have AP2:Qam P2:=⟨c4,trivial⟩
  rcases itS h with ⟨c5,h⟩ | ⟨c6,h⟩
  ·obtain rfl:=sj h
   exact gR hP hn (H1++[hF 8,hT 14]) [] .raw (P2++[(p1.Pc != p2.Pc)=true,Z1=Z1,Qa3 Z1=true]) (Qa7 AP2 ⟨c5,rfl,rfl,trivial⟩)
  ·let P3:List Prop:=P2++[(p1.Pc != p2.Pc)=false]
   have AP3:Qam P3:=Qa7 AP2 ⟨c6,trivial⟩
   rcases itS h with ⟨c7,h⟩ | ⟨c8,h⟩
   ·obtain rfl:=sj h
    exact gR hP hn (H1++[hF 8,hF 14,hT 20]) [] .raw (P3++[Z2=true,Z1=Z1,Qa3 Z1=true]) (Qa7 AP3 ⟨c7,rfl,rfl,trivial⟩)
   ·rcases itS h with ⟨c9,h⟩ | ⟨c10,h⟩
    ·obtain rfl:=sj h
     exact gR hP hn (H1++[hF 8,hF 14,hF 20,hT 26]) [] .raw (P3++[Z2=false,(p1.Cond != p2.Cond)=true,Z1=Z1,Qa3 Z1=true]) (Qa7 AP3 ⟨c8,c9,rfl,rfl,trivial⟩)
    ·let P4:List Prop:=P3++[Z2=false,(p1.Cond != p2.Cond)=false]
     have AP4:Qam P4:=Qa7 AP3 ⟨c8,c10,trivial⟩
     rcases itS h with ⟨c11,h⟩ | ⟨c12,h⟩
     ·obtain rfl:=sj h
      exact gR hP hn (H1++[hF 8,hF 14,hF 20,hF 26,hT 32]) [] .raw (P4++[(p1.Lock != p2.Lock)=true,Z1=Z1,Qa3 Z1=true]) (Qa7 AP4 ⟨c11,rfl,rfl,trivial⟩)
     ·obtain ⟨r13,hr13,h⟩:=bnS h
      let P5:List Prop:=P4++[(p1.Lock != p2.Lock)=false,Qa4 Tryz.prog 156 [(AV.ro 1 (p1.Stack.map Qae)),(AV.ro 1 (p2.Stack.map Qae))] (B r13),Qa3 (B r13)=true]
      have AP5:Qam P5:=Qa7 AP4 ⟨c12,(Qm3 hr13),rfl,trivial⟩
      rcases itS h with ⟨c14,h⟩ | ⟨c15,h⟩
      ·obtain rfl:=sj h
       exact gR hP hn (H1++[hF 8,hF 14,hF 20,hF 26,hF 32,hh 37 (.callV [] (B r13)),hT 39]) [] .raw (P5++[(!r13)=true,Z1=Z1,Qa3 Z1=true]) (Qa7 AP5 ⟨c14,rfl,rfl,trivial⟩)
      ·obtain rfl:=sj h
       exact gR hP hn (H1++[hF 8,hF 14,hF 20,hF 26,hF 32,hh 37 (.callV [] (B r13)),hF 39]) [] .raw (P5++[(!r13)=false,(B true)=(B true),Qa3 (B true)=true]) (Qa7 AP5 ⟨c15,rfl,rfl,trivial⟩)
noncomputable def Xfa:Code:=match Tryz.f155.body with | some c=>c | none=>.skip
noncomputable def Qdy  (p1:(List Qa0)) (p2:(List Qa0)) : Nat→Int→Option Bool
 | 0,_=>none
 | n+1,v5 =>
 if (decide (v5<(p1.length:Int)))=true then
  Option.bind (rd p1 v5) fun x7 =>
  Option.bind (rd p2 v5) fun x8 =>
  Option.bind (Qh1 x7 x8) fun r9 =>
  if (!r9)=true then
   some false
  else
   Qdy p1 p2 n (w64 (v5+1))
 else
  some true
theorem Qql {E:Env} (hP:E.pk=pk0 Tryz.prog) (hn:E.n=27) (hx:FX E []) (p1:(List Qa0)) (p2:(List Qa0))  : ∀ (n:Nat) (v5:Int) (r:Bool),Qdy p1 p2 n v5=some r→WAt E Xfa (FQ (Qdj Θ Tryz.f155.results.toList [] [] (B r) E)) [true,true,false,true,false] ⟨[(0,(AV.ro 6 (p1.map r70))),(1,(AV.ro 6 (p2.map r70))),(5,(I v5))],[],[JJ]⟩:=by
 intro n
 induction n with
 | zero=>intro v5 r h;simp only [Qdy] at h;cases h
 | succ n ih =>
  intro v5 r h
  simp only [Qdy] at h
  let Z0:=(I (p1.length:Int));let Z1:=(decide (v5<(p1.length:Int)))
  let P1:List Prop:=[AV.lit (.int .i64 (((p1.map r70).length:Nat) : Int))=Z0]
  have AP1:Qam P1:=⟨(Qby r70),trivial⟩
  rcases itS h with ⟨c6,h⟩ | ⟨c12,h⟩
  ·obtain ⟨x7,hx7,h⟩:=bnS h
   obtain ⟨x8,hx8,h⟩:=bnS h
   obtain ⟨r9,hr9,h⟩:=bnS h
   let H2:List Hn:=[hO 2 Z0,hT 4,hh 7 (.row (r70 x7)),hh 11 (.row (r70 x8)),hh 13 (.callV [[],[]] (B r9))]
   let P3:List Prop:=P1++[Z1=true,(0:Int)≤v5,(p1.map r70)[v5.toNat]? = some (r70 x7),(0:Int)≤v5,(p2.map r70)[v5.toNat]? = some (r70 x8),Qa4 Tryz.prog 203 [(AV.agg ((r70 x7))),(AV.agg ((r70 x8)))] (B r9),Qa3 (B r9)=true]
   have AP3:Qam P3:=Qa7 AP1 ⟨c6,(rd0 hx7),(rdM r70 hx7),(rd0 hx8),(rdM r70 hx8),(Qv8 hr9),rfl,trivial⟩
   rcases itS h with ⟨c10,h⟩ | ⟨c11,h⟩
   ·obtain rfl:=sj h
    exact gR hP hn (H2++[hT 15]) [] .raw (P3++[(!r9)=true,(B false)=(B false),Qa3 (B false)=true]) (Qa7 AP3 ⟨c10,rfl,rfl,trivial⟩)
   ·exact gT hP hn hx (H2++[hF 15]) [] [0,1,5] [] (P3++[(!r9)=false]) (Qa7 AP3 ⟨c11,trivial⟩) (ih (w64 (v5+1)) _ h)
  ·obtain rfl:=sj h
   exact gR hP hn [hO 2 Z0,hF 4] [] .raw (P1++[Z1=false,(B true)=(B true),Qa3 (B true)=true]) (Qa7 AP1 ⟨c12,rfl,rfl,trivial⟩)
noncomputable def Qhe (p1:(List Qa0)) (p2:(List Qa0)) : Option Bool:=
 if ((p1.length:Int) != (p2.length:Int))=true then
  some false
 else
  Qdy p1 p2 FU 0
theorem Qtj {p1:(List Qa0)} {p2:(List Qa0)} {r:Bool} (h:Qhe p1 p2=some r) : Qa4 Tryz.prog 155 [(AV.ro 6 (p1.map r70)),(AV.ro 6 (p2.map r70))] (B r):=by
 refine gM Tryz.func155 27 Xfa fun E hP hn hx=>?_
 unfold Qhe at h
 let Z0:=(I (p1.length:Int));let Z1:=(I (p2.length:Int));let Z2:=((p1.length:Int) != (p2.length:Int))
 let P1:List Prop:=[AV.lit (.int .i64 (((p1.map r70).length:Nat) : Int))=Z0,AV.lit (.int .i64 (((p2.map r70).length:Nat) : Int))=Z1]
 have AP1:Qam P1:=⟨(Qby r70),(Qby r70),trivial⟩
 rcases itS h with ⟨c3,h⟩ | ⟨c4,h⟩
 ·obtain rfl:=sj h
  exact gR hP hn [hO 2 Z0,hO 4 Z1,hT 6] [] .raw (P1++[Z2=true,(B false)=(B false),Qa3 (B false)=true]) (Qa7 AP1 ⟨c3,rfl,rfl,trivial⟩)
 ·exact gT hP hn hx [hO 2 Z0,hO 4 Z1,hF 6] [] [0,1,5] [] (P1++[Z2=false]) (Qa7 AP1 ⟨c4,trivial⟩) (Qql hP hn hx p1 p2 FU 0 _ h)
noncomputable def Xnj:Code:=match Tryz.f76.body with | some c=>c | none=>.skip
noncomputable def Qj5 (p1:Qa1) (p2:Qa1) : Option Bool:=
 Option.bind (Qhe p1.Threads p2.Threads) fun r3 =>
 if (!r3)=true then
  some false
 else
  Option.bind (Qf7 p1.Cells p2.Cells) fun r6 =>
  if (!r6)=true then
   some false
  else
   Option.bind (Qio p1.Owner p2.Owner) fun r9 =>
   if (!r9)=true then
    some false
   else
    if (p1.Fault != p2.Fault)=true then
     some false
    else
     some true
theorem Qwl {p1:Qa1} {p2:Qa1} {r:Bool} (h:Qj5 p1 p2=some r) : Qa4 Tryz.prog 76 [(AV.agg ((r44 p1))),(AV.agg ((r44 p2)))] (B r):=by
 refine gM Tryz.func76 28 Xnj fun E hP hn hx=>?_
 unfold Qj5 at h
 obtain ⟨r3,hr3,h⟩:=bnS h
 let Z0:=B false;let Z1:=p1.Fault != p2.Fault
 let H1:List Hn:=[hW 0 1001,hW 1 1002,hh 7 (.callV [] (B r3))]
 let P2:List Prop:=[Qa4 Tryz.prog 155 [(AV.ro 6 (p1.Threads.map r70)),(AV.ro 6 (p2.Threads.map r70))] (B r3),Qa3 (B r3)=true]
 have AP2:Qam P2:=⟨(Qtj hr3),rfl,trivial⟩
 rcases itS h with ⟨c4,h⟩ | ⟨c5,h⟩
 ·obtain rfl:=sj h
  exact gR hP hn (H1++[hT 9]) [] .raw (P2++[(!r3)=true,Z0=Z0,Qa3 Z0=true]) (Qa7 AP2 ⟨c4,rfl,rfl,trivial⟩)
 ·obtain ⟨r6,hr6,h⟩:=bnS h
  let H3:List Hn:=H1++[hF 9,hh 14 (.callV [] (B r6))]
  let P4:List Prop:=P2++[(!r3)=false,Qa4 Tryz.prog 156 [(AV.ro 1 (p1.Cells.map Qae)),(AV.ro 1 (p2.Cells.map Qae))] (B r6),Qa3 (B r6)=true]
  have AP4:Qam P4:=Qa7 AP2 ⟨c5,(Qm3 hr6),rfl,trivial⟩
  rcases itS h with ⟨c7,h⟩ | ⟨c8,h⟩
  ·obtain rfl:=sj h
   exact gR hP hn (H3++[hT 16]) [] .raw (P4++[(!r6)=true,Z0=Z0,Qa3 Z0=true]) (Qa7 AP4 ⟨c7,rfl,rfl,trivial⟩)
  ·obtain ⟨r9,hr9,h⟩:=bnS h
   let P5:List Prop:=P4++[(!r6)=false,Qa4 Tryz.prog 75 [(AV.ro 1 (p1.Owner.map o3)),(AV.ro 1 (p2.Owner.map o3))] (B r9),Qa3 (B r9)=true]
   have AP5:Qam P5:=Qa7 AP4 ⟨c8,(Qrq hr9),rfl,trivial⟩
   rcases itS h with ⟨c10,h⟩ | ⟨c11,h⟩
   ·obtain rfl:=sj h
    exact gR hP hn (H3++[hF 16,hh 21 (.callV [] (B r9)),hT 23]) [] .raw (P5++[(!r9)=true,Z0=Z0,Qa3 Z0=true]) (Qa7 AP5 ⟨c10,rfl,rfl,trivial⟩)
   ·rcases itS h with ⟨c12,h⟩ | ⟨c13,h⟩
    ·obtain rfl:=sj h
     exact gR hP hn (H3++[hF 16,hh 21 (.callV [] (B r9)),hF 23,hT 29]) [] .raw (P5++[(!r9)=false,Z1=true,Z0=Z0,Qa3 Z0=true]) (Qa7 AP5 ⟨c11,c12,rfl,rfl,trivial⟩)
    ·obtain rfl:=sj h
     exact gR hP hn (H3++[hF 16,hh 21 (.callV [] (B r9)),hF 23,hF 29]) [] .raw (P5++[(!r9)=false,Z1=false,(B true)=(B true),Qa3 (B true)=true]) (Qa7 AP5 ⟨c11,c13,rfl,rfl,trivial⟩)
noncomputable def Xos:Code:=match Tryz.f16.body with | some c=>c | none=>.skip
noncomputable def Qlu (p1:Qbi) (p2:Qbi) : Option Bool:=
 if (p1.Code != p2.Code)=true then
  some false
 else
  Option.bind (Qi9 p1.Trace p2.Trace) fun r5 =>
  if (!r5)=true then
   some false
  else
   Option.bind (Qio p1.Picks p2.Picks) fun r8 =>
   if (!r8)=true then
    some false
   else
    Option.bind (Qj5 p1.End p2.End) fun r11 =>
    if (!r11)=true then
     some false
    else
     some true
theorem Xa3 {p1:Qbi} {p2:Qbi} {r:Bool} (h:Qlu p1 p2=some r) : Qa4 Tryz.prog 16 [(AV.agg ((r46 p1))),(AV.agg ((r46 p2)))] (B r):=by
 refine gM Tryz.func16 28 Xos fun E hP hn hx=>?_
 unfold Qlu at h
 let Z0:=B false
 let H1:List Hn:=[hW 0 1001,hW 1 1002]
 rcases itS h with ⟨c3,h⟩ | ⟨c4,h⟩
 ·obtain rfl:=sj h
  exact gR hP hn (H1++[hT 8]) [] .raw [(p1.Code != p2.Code)=true,Z0=Z0,Qa3 Z0=true] ⟨c3,rfl,rfl,trivial⟩
 ·obtain ⟨r5,hr5,h⟩:=bnS h
  let H2:List Hn:=H1++[hF 8,hh 13 (.callV [] (B r5))]
  let P3:List Prop:=[(p1.Code != p2.Code)=false,Qa4 Tryz.prog 74 [(AV.ro 5 (p1.Trace.map o60)),(AV.ro 5 (p2.Trace.map o60))] (B r5),Qa3 (B r5)=true]
  have AP3:Qam P3:=⟨c4,(Quy hr5),rfl,trivial⟩
  rcases itS h with ⟨c6,h⟩ | ⟨c7,h⟩
  ·obtain rfl:=sj h
   exact gR hP hn (H2++[hT 15]) [] .raw (P3++[(!r5)=true,Z0=Z0,Qa3 Z0=true]) (Qa7 AP3 ⟨c6,rfl,rfl,trivial⟩)
  ·obtain ⟨r8,hr8,h⟩:=bnS h
   let P4:List Prop:=P3++[(!r5)=false,Qa4 Tryz.prog 75 [(AV.ro 1 (p1.Picks.map o3)),(AV.ro 1 (p2.Picks.map o3))] (B r8),Qa3 (B r8)=true]
   have AP4:Qam P4:=Qa7 AP3 ⟨c7,(Qrq hr8),rfl,trivial⟩
   rcases itS h with ⟨c9,h⟩ | ⟨c10,h⟩
   ·obtain rfl:=sj h
    exact gR hP hn (H2++[hF 15,hh 20 (.callV [] (B r8)),hT 22]) [] .raw (P4++[(!r8)=true,Z0=Z0,Qa3 Z0=true]) (Qa7 AP4 ⟨c9,rfl,rfl,trivial⟩)
   ·obtain ⟨r11,hr11,h⟩:=bnS h
    let H5:List Hn:=H2++[hF 15,hh 20 (.callV [] (B r8)),hF 22,hh 27 (.callV [[],[]] (B r11))]
    let P6:List Prop:=P4++[(!r8)=false,Qa4 Tryz.prog 76 [(AV.agg ((r44 p1.End))),(AV.agg ((r44 p2.End)))] (B r11),Qa3 (B r11)=true]
    have AP6:Qam P6:=Qa7 AP4 ⟨c10,(Qwl hr11),rfl,trivial⟩
    rcases itS h with ⟨c12,h⟩ | ⟨c13,h⟩
    ·obtain rfl:=sj h
     exact gR hP hn (H5++[hT 29]) [] .raw (P6++[(!r11)=true,Z0=Z0,Qa3 Z0=true]) (Qa7 AP6 ⟨c12,rfl,rfl,trivial⟩)
    ·obtain rfl:=sj h
     exact gR hP hn (H5++[hF 29]) [] .raw (P6++[(!r11)=false,(B true)=(B true),Qa3 (B true)=true]) (Qa7 AP6 ⟨c13,rfl,rfl,trivial⟩)
noncomputable def Xlv:Code:=match Tryz.f138.body with | some c=>c | none=>.skip
noncomputable def Qk7 (p1:(List GOp)) (p2:Int) : Option Int:=
 if (decide ((w64 (p2 - (p1.length:Int)))<0))=true then
  some (-1)
 else
  some (w64 (p2 - (p1.length:Int)))
theorem Xam {p1:(List GOp)} {p2:Int} {r:Int} (h:Qk7 p1 p2=some r) : Qa4 Tryz.prog 138 [(AV.ro 4 (p1.map Qw6)),(I p2)] (I r):=by
 refine gM Tryz.func138 12 Xlv fun E hP hn hx=>?_
 unfold Qk7 at h
 let Z0:=(I (p1.length:Int));let Z1:=(((p1.map Qw6).length:Nat) : Int);let Z2:=(w64 (p2 - (p1.length:Int)))
 rcases itS h with ⟨c3,h⟩ | ⟨c4,h⟩
 ·obtain rfl:=sj h
  exact gR hP hn [hO 3 Z0,hT 8] [] .raw [AV.lit (.int .i64 Z1)=Z0,(decide (Z2<0))=true,(I (-1))=(I (-1)),Qa3 (I (-1))=true] ⟨(Qby Qw6),c3,rfl,rfl,trivial⟩
 ·obtain rfl:=sj h
  exact gR hP hn [hO 3 Z0,hF 8] [] .raw [AV.lit (.int .i64 Z1)=Z0,(decide (Z2<0))=false,(I Z2)=(I Z2),Qa3 (I Z2)=true] ⟨(Qby Qw6),c4,rfl,rfl,trivial⟩
noncomputable def Xkb:Code:=match Tryz.f58.body with | some c=>c | none=>.skip
noncomputable def Qex  (p1:(List (List GOp))) : Nat→Int→Int→Option Int
 | 0,_,_=>none
 | n+1,v5,v6 =>
 if (decide (v6<(p1.length:Int)))=true then
  Option.bind (rd p1 v6) fun x8 =>
  Option.bind (Qk7 x8 v5) fun r9 =>
  if (decide (r9<0))=true then
   some (-1)
  else
   Qex p1 n r9 (w64 (v6+1))
 else
  some v5
theorem Qti {E:Env} (hP:E.pk=pk0 Tryz.prog) (hn:E.n=27) (hx:FX E []) (p1:(List (List GOp)))  : ∀ (n:Nat) (v5:Int) (v6:Int) (r:Int),Qex p1 n v5 v6=some r→WAt E Xkb (FQ (Qdj Θ Tryz.f58.results.toList [] [] (I r) E)) [true,true,true,false,true,false] ⟨[(0,(AV.ro 1 (p1.map Qss))),(1,(I v5)),(5,(I v6))],[],[JJ]⟩:=by
 intro n
 induction n with
 | zero=>intro v5 v6 r h;simp only [Qex] at h;cases h
 | succ n ih =>
  intro v5 v6 r h
  simp only [Qex] at h
  let Z0:=(I (p1.length:Int));let Z1:=(decide (v6<(p1.length:Int)))
  let P1:List Prop:=[AV.lit (.int .i64 (((p1.map Qss).length:Nat) : Int))=Z0]
  have AP1:Qam P1:=⟨(Qby Qss),trivial⟩
  rcases itS h with ⟨c7,h⟩ | ⟨c12,h⟩
  ·obtain ⟨x8,hx8,h⟩:=bnS h
   obtain ⟨r9,hr9,h⟩:=bnS h
   let H2:List Hn:=[hO 2 Z0,hT 4,hh 7 (.row (Qss x8)),hh 10 (.callV [] (I r9))]
   let P3:List Prop:=P1++[Z1=true,(0:Int)≤v6,(p1.map Qss)[v6.toNat]? = some (Qss x8),Qa4 Tryz.prog 138 [(AV.ro 4 (x8.map Qw6)),(I v5)] (I r9),Qa3 (I r9)=true]
   have AP3:Qam P3:=Qa7 AP1 ⟨c7,(rd0 hx8),(rdM Qss hx8),(Xam hr9),rfl,trivial⟩
   rcases itS h with ⟨c10,h⟩ | ⟨c11,h⟩
   ·obtain rfl:=sj h
    exact gR hP hn (H2++[hT 14]) [] .raw (P3++[(decide (r9<0))=true,(I (-1))=(I (-1)),Qa3 (I (-1))=true]) (Qa7 AP3 ⟨c10,rfl,rfl,trivial⟩)
   ·exact gT hP hn hx (H2++[hF 14]) [] [0,1,5] [] (P3++[(decide (r9<0))=false]) (Qa7 AP3 ⟨c11,trivial⟩) (ih r9 (w64 (v6+1)) _ h)
  ·obtain rfl:=sj h
   exact gR hP hn [hO 2 Z0,hF 4] [] .raw (P1++[Z1=false,(I v5)=(I v5),Qa3 (I v5)=true]) (Qa7 AP1 ⟨c12,rfl,rfl,trivial⟩)
noncomputable def Qkk (p1:(List (List GOp))) (p2:Int) : Option Int:=
 if (decide ((w64 (p2 - (p1.length:Int)))<0))=true then
  some (-1)
 else
  Qex p1 FU (w64 (p2 - (p1.length:Int))) 0
theorem Qxu {p1:(List (List GOp))} {p2:Int} {r:Int} (h:Qkk p1 p2=some r) : Qa4 Tryz.prog 58 [(AV.ro 1 (p1.map Qss)),(I p2)] (I r):=by
 refine gM Tryz.func58 27 Xkb fun E hP hn hx=>?_
 unfold Qkk at h
 let Z0:=(p1.length:Int);let Z1:=(((p1.map Qss).length:Nat) : Int);let Z2:=decide ((w64 (p2 - Z0))<0)
 rcases itS h with ⟨c3,h⟩ | ⟨c4,h⟩
 ·obtain rfl:=sj h
  exact gR hP hn [hO 3 (I Z0),hT 8] [] .raw [AV.lit (.int .i64 Z1)=(I Z0),Z2=true,(I (-1))=(I (-1)),Qa3 (I (-1))=true] ⟨(Qby Qss),c3,rfl,rfl,trivial⟩
 ·exact gT hP hn hx [hO 3 (I Z0),hF 8] [] [0,1,5] [] [AV.lit (.int .i64 Z1)=(I Z0),Z2=false] ⟨(Qby Qss),c4,trivial⟩ (Qti hP hn hx p1 FU (w64 (p2 - Z0)) 0 _ h)
noncomputable def body9:Code:=match Tryz.f9.body with | some c=>c | none=>.skip
noncomputable def Qkr (p1:Qaf) (p2:Int) : Option Int:=
 Option.bind (Qkk p1.Routines p2) fun r3 =>
 if (decide (r3<0))=true then
  some (-1)
 else
  some r3
theorem Qyy {p1:Qaf} {p2:Int} {r:Int} (h:Qkr p1 p2=some r) : Qa4 Tryz.prog 9 [(AV.agg ((r24 p1))),(I p2)] (I r):=by
 refine gM Tryz.func9 12 body9 fun E hP hn hx=>?_
 unfold Qkr at h
 obtain ⟨r3,hr3,h⟩:=bnS h
 let P1:List Prop:=[Qa4 Tryz.prog 58 [(AV.ro 1 (p1.Routines.map Qss)),(I p2)] (I r3),Qa3 (I r3)=true]
 have AP1:Qam P1:=⟨(Qxu hr3),rfl,trivial⟩
 rcases itS h with ⟨c4,h⟩ | ⟨c5,h⟩
 ·obtain rfl:=sj h
  exact gR hP hn [hW 0 1001,hh 5 (.callV [] (I r3)),hT 9] [] .raw (P1++[(decide (r3<0))=true,(I (-1))=(I (-1)),Qa3 (I (-1))=true]) (Qa7 AP1 ⟨c4,rfl,rfl,trivial⟩)
 ·obtain rfl:=sj h
  exact gR hP hn [hW 0 1001,hh 5 (.callV [] (I r3)),hF 9] [] .raw (P1++[(decide (r3<0))=false,(I r3)=(I r3),Qa3 (I r3)=true]) (Qa7 AP1 ⟨c5,rfl,rfl,trivial⟩)
noncomputable def Xnn:Code:=match Tryz.f59.body with | some c=>c | none=>.skip
noncomputable def Qib (p1:(List Qaa)) (p2:Int) : Option Int:=
 if (decide ((w64 (p2 - (p1.length:Int)))<0))=true then
  some (-1)
 else
  some (w64 (p2 - (p1.length:Int)))
theorem Qup {p1:(List Qaa)} {p2:Int} {r:Int} (h:Qib p1 p2=some r) : Qa4 Tryz.prog 59 [(AV.ro 5 (p1.map Qvf)),(I p2)] (I r):=by
 refine gM Tryz.func59 12 Xnn fun E hP hn hx=>?_
 unfold Qib at h
 let Z0:=(I (p1.length:Int));let Z1:=(((p1.map Qvf).length:Nat) : Int);let Z2:=(w64 (p2 - (p1.length:Int)))
 rcases itS h with ⟨c3,h⟩ | ⟨c4,h⟩
 ·obtain rfl:=sj h
  exact gR hP hn [hO 3 Z0,hT 8] [] .raw [AV.lit (.int .i64 Z1)=Z0,(decide (Z2<0))=true,(I (-1))=(I (-1)),Qa3 (I (-1))=true] ⟨(Qby Qvf),c3,rfl,rfl,trivial⟩
 ·obtain rfl:=sj h
  exact gR hP hn [hO 3 Z0,hF 8] [] .raw [AV.lit (.int .i64 Z1)=Z0,(decide (Z2<0))=false,(I Z2)=(I Z2),Qa3 (I Z2)=true] ⟨(Qby Qvf),c4,rfl,rfl,trivial⟩
noncomputable def Xnz:Code:=match Tryz.f60.body with | some c=>c | none=>.skip
noncomputable def Qiq (p1:(List Int)) (p2:Int) : Option Int:=
 if (decide ((w64 (p2 - (p1.length:Int)))<0))=true then
  some (-1)
 else
  some (w64 (p2 - (p1.length:Int)))
theorem Qqx {p1:(List Int)} {p2:Int} {r:Int} (h:Qiq p1 p2=some r) : Qa4 Tryz.prog 60 [(AV.ro 1 (p1.map o3)),(I p2)] (I r):=by
 refine gM Tryz.func60 12 Xnz fun E hP hn hx=>?_
 unfold Qiq at h
 let Z0:=(I (p1.length:Int));let Z1:=(((p1.map o3).length:Nat) : Int);let Z2:=(w64 (p2 - (p1.length:Int)))
 rcases itS h with ⟨c3,h⟩ | ⟨c4,h⟩
 ·obtain rfl:=sj h
  exact gR hP hn [hO 3 Z0,hT 8] [] .raw [AV.lit (.int .i64 Z1)=Z0,(decide (Z2<0))=true,(I (-1))=(I (-1)),Qa3 (I (-1))=true] ⟨(Qby o3),c3,rfl,rfl,trivial⟩
 ·obtain rfl:=sj h
  exact gR hP hn [hO 3 Z0,hF 8] [] .raw [AV.lit (.int .i64 Z1)=Z0,(decide (Z2<0))=false,(I Z2)=(I Z2),Qa3 (I Z2)=true] ⟨(Qby o3),c4,rfl,rfl,trivial⟩
noncomputable def Xm8:Code:=match Tryz.f140.body with | some c=>c | none=>.skip
noncomputable def Qf8 (p1:(List Nat)) (p2:Int) : Option Int:=
 if (decide ((w64 (p2 - (p1.length:Int)))<0))=true then
  some (-1)
 else
  some (w64 (p2 - (p1.length:Int)))
theorem Qmb {p1:(List Nat)} {p2:Int} {r:Int} (h:Qf8 p1 p2=some r) : Qa4 Tryz.prog 140 [(AV.ro 1 (p1.map Qae)),(I p2)] (I r):=by
 refine gM Tryz.func140 12 Xm8 fun E hP hn hx=>?_
 unfold Qf8 at h
 let Z0:=(I (p1.length:Int));let Z1:=(((p1.map Qae).length:Nat) : Int);let Z2:=(w64 (p2 - (p1.length:Int)))
 rcases itS h with ⟨c3,h⟩ | ⟨c4,h⟩
 ·obtain rfl:=sj h
  exact gR hP hn [hO 3 Z0,hT 8] [] .raw [AV.lit (.int .i64 Z1)=Z0,(decide (Z2<0))=true,(I (-1))=(I (-1)),Qa3 (I (-1))=true] ⟨(Qby Qae),c3,rfl,rfl,trivial⟩
 ·obtain rfl:=sj h
  exact gR hP hn [hO 3 Z0,hF 8] [] .raw [AV.lit (.int .i64 Z1)=Z0,(decide (Z2<0))=false,(I Z2)=(I Z2),Qa3 (I Z2)=true] ⟨(Qby Qae),c4,rfl,rfl,trivial⟩
noncomputable def Xm7:Code:=match Tryz.f195.body with | some c=>c | none=>.skip
noncomputable def Qgy (p1:Qa0) (p2:Int) : Option Int:=
 Option.bind (Qf8 p1.Stack p2) fun r3 =>
 if (decide (r3<0))=true then
  some (-1)
 else
  some r3
theorem Qud {p1:Qa0} {p2:Int} {r:Int} (h:Qgy p1 p2=some r) : Qa4 Tryz.prog 195 [(AV.agg ((Qpv p1))),(I p2)] (I r):=by
 refine gM Tryz.func195 12 Xm7 fun E hP hn hx=>?_
 unfold Qgy at h
 obtain ⟨r3,hr3,h⟩:=bnS h
 let P1:List Prop:=[Qa4 Tryz.prog 140 [(AV.ro 1 (p1.Stack.map Qae)),(I p2)] (I r3),Qa3 (I r3)=true]
 have AP1:Qam P1:=⟨(Qmb hr3),rfl,trivial⟩
 rcases itS h with ⟨c4,h⟩ | ⟨c5,h⟩
 ·obtain rfl:=sj h
  exact gR hP hn [hW 0 1001,hh 5 (.callV [] (I r3)),hT 9] [] .raw (P1++[(decide (r3<0))=true,(I (-1))=(I (-1)),Qa3 (I (-1))=true]) (Qa7 AP1 ⟨c4,rfl,rfl,trivial⟩)
 ·obtain rfl:=sj h
  exact gR hP hn [hW 0 1001,hh 5 (.callV [] (I r3)),hF 9] [] .raw (P1++[(decide (r3<0))=false,(I r3)=(I r3),Qa3 (I r3)=true]) (Qa7 AP1 ⟨c5,rfl,rfl,trivial⟩)
noncomputable def Xfn:Code:=match Tryz.f139.body with | some c=>c | none=>.skip
noncomputable def Qdb  (p1:(List Qa0)) : Nat→Int→Int→Option Int
 | 0,_,_=>none
 | n+1,v5,v6 =>
 if (decide (v6<(p1.length:Int)))=true then
  Option.bind (rd p1 v6) fun x8 =>
  Option.bind (Qgy x8 v5) fun r9 =>
  if (decide (r9<0))=true then
   some (-1)
  else
   Qdb p1 n r9 (w64 (v6+1))
 else
  some v5
theorem Qqf {E:Env} (hP:E.pk=pk0 Tryz.prog) (hn:E.n=27) (hx:FX E []) (p1:(List Qa0))  : ∀ (n:Nat) (v5:Int) (v6:Int) (r:Int),Qdb p1 n v5 v6=some r→WAt E Xfn (FQ (Qdj Θ Tryz.f139.results.toList [] [] (I r) E)) [true,true,true,false,true,false] ⟨[(0,(AV.ro 6 (p1.map Qpv))),(1,(I v5)),(5,(I v6))],[],[JJ]⟩:=by
 intro n
 induction n with
 | zero=>intro v5 v6 r h;simp only [Qdb] at h;cases h
 | succ n ih =>
  intro v5 v6 r h
  simp only [Qdb] at h
  let Z0:=(I (p1.length:Int));let Z1:=(decide (v6<(p1.length:Int)))
  let P1:List Prop:=[AV.lit (.int .i64 (((p1.map Qpv).length:Nat) : Int))=Z0]
  have AP1:Qam P1:=⟨(Qby Qpv),trivial⟩
  rcases itS h with ⟨c7,h⟩ | ⟨c12,h⟩
  ·obtain ⟨x8,hx8,h⟩:=bnS h
   obtain ⟨r9,hr9,h⟩:=bnS h
   let H2:List Hn:=[hO 2 Z0,hT 4,hh 7 (.row (Qpv x8)),hh 10 (.callV [[]] (I r9))]
   let P3:List Prop:=P1++[Z1=true,(0:Int)≤v6,(p1.map Qpv)[v6.toNat]? = some (Qpv x8),Qa4 Tryz.prog 195 [(AV.agg ((Qpv x8))),(I v5)] (I r9),Qa3 (I r9)=true]
   have AP3:Qam P3:=Qa7 AP1 ⟨c7,(rd0 hx8),(rdM Qpv hx8),(Qud hr9),rfl,trivial⟩
   rcases itS h with ⟨c10,h⟩ | ⟨c11,h⟩
   ·obtain rfl:=sj h
    exact gR hP hn (H2++[hT 14]) [] .raw (P3++[(decide (r9<0))=true,(I (-1))=(I (-1)),Qa3 (I (-1))=true]) (Qa7 AP3 ⟨c10,rfl,rfl,trivial⟩)
   ·exact gT hP hn hx (H2++[hF 14]) [] [0,1,5] [] (P3++[(decide (r9<0))=false]) (Qa7 AP3 ⟨c11,trivial⟩) (ih r9 (w64 (v6+1)) _ h)
  ·obtain rfl:=sj h
   exact gR hP hn [hO 2 Z0,hF 4] [] .raw (P1++[Z1=false,(I v5)=(I v5),Qa3 (I v5)=true]) (Qa7 AP1 ⟨c12,rfl,rfl,trivial⟩)
noncomputable def Qh8 (p1:(List Qa0)) (p2:Int) : Option Int:=
 if (decide ((w64 (p2 - (p1.length:Int)))<0))=true then
  some (-1)
 else
  Qdb p1 FU (w64 (p2 - (p1.length:Int))) 0
theorem Qtn {p1:(List Qa0)} {p2:Int} {r:Int} (h:Qh8 p1 p2=some r) : Qa4 Tryz.prog 139 [(AV.ro 6 (p1.map Qpv)),(I p2)] (I r):=by
 refine gM Tryz.func139 27 Xfn fun E hP hn hx=>?_
 unfold Qh8 at h
 let Z0:=(p1.length:Int);let Z1:=(((p1.map Qpv).length:Nat) : Int);let Z2:=decide ((w64 (p2 - Z0))<0)
 rcases itS h with ⟨c3,h⟩ | ⟨c4,h⟩
 ·obtain rfl:=sj h
  exact gR hP hn [hO 3 (I Z0),hT 8] [] .raw [AV.lit (.int .i64 Z1)=(I Z0),Z2=true,(I (-1))=(I (-1)),Qa3 (I (-1))=true] ⟨(Qby Qpv),c3,rfl,rfl,trivial⟩
 ·exact gT hP hn hx [hO 3 (I Z0),hF 8] [] [0,1,5] [] [AV.lit (.int .i64 Z1)=(I Z0),Z2=false] ⟨(Qby Qpv),c4,trivial⟩ (Qqf hP hn hx p1 FU (w64 (p2 - Z0)) 0 _ h)
noncomputable def Xpg:Code:=match Tryz.f61.body with | some c=>c | none=>.skip
noncomputable def Qj4 (p1:Qa1) (p2:Int) : Option Int:=
 Option.bind (Qh8 p1.Threads p2) fun r3 =>
 if (decide (r3<0))=true then
  some (-1)
 else
  Option.bind (Qf8 p1.Cells r3) fun r6 =>
  if (decide (r6<0))=true then
   some (-1)
  else
   Option.bind (Qiq p1.Owner r6) fun r9 =>
   if (decide (r9<0))=true then
    some (-1)
   else
    some r9
theorem Qwb {p1:Qa1} {p2:Int} {r:Int} (h:Qj4 p1 p2=some r) : Qa4 Tryz.prog 61 [(AV.agg ((r30 p1))),(I p2)] (I r):=by
 refine gM Tryz.func61 24 Xpg fun E hP hn hx=>?_
 unfold Qj4 at h
 obtain ⟨r3,hr3,h⟩:=bnS h
 let Z0:=I (-1)
 let H1:List Hn:=[hW 0 1001,hh 5 (.callV [] (I r3))]
 let P2:List Prop:=[Qa4 Tryz.prog 139 [(AV.ro 6 (p1.Threads.map Qpv)),(I p2)] (I r3),Qa3 (I r3)=true]
 have AP2:Qam P2:=⟨(Qtn hr3),rfl,trivial⟩
 rcases itS h with ⟨c4,h⟩ | ⟨c5,h⟩
 ·obtain rfl:=sj h
  exact gR hP hn (H1++[hT 9]) [] .raw (P2++[(decide (r3<0))=true,Z0=Z0,Qa3 Z0=true]) (Qa7 AP2 ⟨c4,rfl,rfl,trivial⟩)
 ·obtain ⟨r6,hr6,h⟩:=bnS h
  let P3:List Prop:=P2++[(decide (r3<0))=false,Qa4 Tryz.prog 140 [(AV.ro 1 (p1.Cells.map Qae)),(I r3)] (I r6),Qa3 (I r6)=true]
  have AP3:Qam P3:=Qa7 AP2 ⟨c5,(Qmb hr6),rfl,trivial⟩
  rcases itS h with ⟨c7,h⟩ | ⟨c8,h⟩
  ·obtain rfl:=sj h
   exact gR hP hn (H1++[hF 9,hh 13 (.callV [] (I r6)),hT 17]) [] .raw (P3++[(decide (r6<0))=true,Z0=Z0,Qa3 Z0=true]) (Qa7 AP3 ⟨c7,rfl,rfl,trivial⟩)
  ·obtain ⟨r9,hr9,h⟩:=bnS h
   let P4:List Prop:=P3++[(decide (r6<0))=false,Qa4 Tryz.prog 60 [(AV.ro 1 (p1.Owner.map o3)),(I r6)] (I r9),Qa3 (I r9)=true]
   have AP4:Qam P4:=Qa7 AP3 ⟨c8,(Qqx hr9),rfl,trivial⟩
   rcases itS h with ⟨c10,h⟩ | ⟨c11,h⟩
   ·obtain rfl:=sj h
    exact gR hP hn (H1++[hF 9,hh 13 (.callV [] (I r6)),hF 17,hh 21 (.callV [] (I r9)),hT 25]) [] .raw (P4++[(decide (r9<0))=true,Z0=Z0,Qa3 Z0=true]) (Qa7 AP4 ⟨c10,rfl,rfl,trivial⟩)
   ·obtain rfl:=sj h
    exact gR hP hn (H1++[hF 9,hh 13 (.callV [] (I r6)),hF 17,hh 21 (.callV [] (I r9)),hF 25]) [] .raw (P4++[(decide (r9<0))=false,(I r9)=(I r9),Qa3 (I r9)=true]) (Qa7 AP4 ⟨c11,rfl,rfl,trivial⟩)
noncomputable def Xp9:Code:=match Tryz.f10.body with | some c=>c | none=>.skip
noncomputable def Qm7 (p1:Qbi) (p2:Int) : Option Int:=
 Option.bind (Qib p1.Trace p2) fun r3 =>
 if (decide (r3<0))=true then
  some (-1)
 else
  Option.bind (Qiq p1.Picks r3) fun r6 =>
  if (decide (r6<0))=true then
   some (-1)
  else
   Option.bind (Qj4 p1.End r6) fun r9 =>
   if (decide (r9<0))=true then
    some (-1)
   else
    some r9
theorem Xak {p1:Qbi} {p2:Int} {r:Int} (h:Qm7 p1 p2=some r) : Qa4 Tryz.prog 10 [(AV.agg ((r32 p1))),(I p2)] (I r):=by
 refine gM Tryz.func10 24 Xp9 fun E hP hn hx=>?_
 unfold Qm7 at h
 obtain ⟨r3,hr3,h⟩:=bnS h
 let Z0:=I (-1)
 let H1:List Hn:=[hW 0 1001,hh 5 (.callV [] (I r3))]
 let P2:List Prop:=[Qa4 Tryz.prog 59 [(AV.ro 5 (p1.Trace.map Qvf)),(I p2)] (I r3),Qa3 (I r3)=true]
 have AP2:Qam P2:=⟨(Qup hr3),rfl,trivial⟩
 rcases itS h with ⟨c4,h⟩ | ⟨c5,h⟩
 ·obtain rfl:=sj h
  exact gR hP hn (H1++[hT 9]) [] .raw (P2++[(decide (r3<0))=true,Z0=Z0,Qa3 Z0=true]) (Qa7 AP2 ⟨c4,rfl,rfl,trivial⟩)
 ·obtain ⟨r6,hr6,h⟩:=bnS h
  let P3:List Prop:=P2++[(decide (r3<0))=false,Qa4 Tryz.prog 60 [(AV.ro 1 (p1.Picks.map o3)),(I r3)] (I r6),Qa3 (I r6)=true]
  have AP3:Qam P3:=Qa7 AP2 ⟨c5,(Qqx hr6),rfl,trivial⟩
  rcases itS h with ⟨c7,h⟩ | ⟨c8,h⟩
  ·obtain rfl:=sj h
   exact gR hP hn (H1++[hF 9,hh 13 (.callV [] (I r6)),hT 17]) [] .raw (P3++[(decide (r6<0))=true,Z0=Z0,Qa3 Z0=true]) (Qa7 AP3 ⟨c7,rfl,rfl,trivial⟩)
  ·obtain ⟨r9,hr9,h⟩:=bnS h
   let P4:List Prop:=P3++[(decide (r6<0))=false,Qa4 Tryz.prog 61 [(AV.agg ((r30 p1.End))),(I r6)] (I r9),Qa3 (I r9)=true]
   have AP4:Qam P4:=Qa7 AP3 ⟨c8,(Qwb hr9),rfl,trivial⟩
   rcases itS h with ⟨c10,h⟩ | ⟨c11,h⟩
   ·obtain rfl:=sj h
    exact gR hP hn (H1++[hF 9,hh 13 (.callV [] (I r6)),hF 17,hh 21 (.callV [[]] (I r9)),hT 25]) [] .raw (P4++[(decide (r9<0))=true,Z0=Z0,Qa3 Z0=true]) (Qa7 AP4 ⟨c10,rfl,rfl,trivial⟩)
   ·obtain rfl:=sj h
    exact gR hP hn (H1++[hF 9,hh 13 (.callV [] (I r6)),hF 17,hh 21 (.callV [[]] (I r9)),hF 25]) [] .raw (P4++[(decide (r9<0))=false,(I r9)=(I r9),Qa3 (I r9)=true]) (Qa7 AP4 ⟨c11,rfl,rfl,trivial⟩)
noncomputable def Xmy:Code:=match Tryz.f198.body with | some c=>c | none=>.skip
noncomputable def Qp5 (p1:GOp) : Option GOp:=
 some (GOp.mk p1.Code p1.A p1.B p1.V)
theorem Xbt {p1:GOp} {r:GOp} (h:Qp5 p1=some r) : Qa4 Tryz.prog 198 [(AV.agg ((Qw6 p1)))] (AV.agg (Qbj r)):=by
 refine gM Tryz.func198 17 Xmy fun E hP hn hx=>?_
 unfold Qp5 at h
 obtain rfl:=sj h
 exact (let Z0:=AV.agg [(I p1.Code),(I p1.A),(I p1.B),(FK p1.V)];gR hP hn [hW 0 1001,hW 1 1002,hW 2 1003] [] .raw [Z0=Z0,Qa3 Z0=true] ⟨rfl,rfl,trivial⟩)
noncomputable def Xf3:Code:=match Tryz.f144.body with | some c=>c | none=>.skip
noncomputable def Qh2  (p1:(List GOp)) : Nat→(List GOp)→Int→Option (List GOp)
 | 0,_,_=>none
 | n+1,a3,v4 =>
 if (decide (v4<(p1.length:Int)))=true then
  Option.bind (rd p1 v4) fun x6 =>
  Option.bind (Qp5 x6) fun r7 =>
  Option.bind (rd a3 v4) fun x8 =>
  Qh2 p1 n (a3.set (Int.toNat v4) r7) (w64 (v4+1))
 else
  some a3
theorem Qun {E:Env} (hP:E.pk=pk0 Tryz.prog) (hn:E.n=23) (hx:FX E []) (p1:(List GOp))  : ∀ (n:Nat) (a3:(List GOp)) (v4:Int) (r:(List GOp)),Qh2 p1 n a3 v4=some r→WAt E Xf3 (FQ (Qdj Θ Tryz.f144.results.toList [] [] (AV.own 156 4 (r.map Qbj)) E)) [true,true,false,true,false] ⟨[(0,(AV.ro 4 (p1.map Qw6))),(3,(AV.sl 1 0 (List.length (a3.map Qbj)))),(4,(I v4))],[(1,some ⟨156,4,(a3.map Qbj)⟩)],[1,JJ]⟩:=by
 intro n
 induction n with
 | zero=>intro a3 v4 r h;simp only [Qh2] at h;cases h
 | succ n ih =>
  intro a3 v4 r h
  simp only [Qh2] at h
  let Z0:=(I (p1.length:Int));let Z4:=(((p1.map Qw6).length:Nat) : Int);let Z5:=(decide (v4<(p1.length:Int)));let Z6:=a3.map Qbj
  rcases itS h with ⟨c5,h⟩ | ⟨c9,h⟩
  ·obtain ⟨x6,hx6,h⟩:=bnS h
   obtain ⟨r7,hr7,h⟩:=bnS h
   obtain ⟨x8,hx8,h⟩:=bnS h
   exact (let Z1:=AV.agg (Qbj r7);let Z2:=Qbj x8;let Z3:=(a3.set v4.toNat r7).map Qbj;gT hP hn hx [hO 2 Z0,hT 4,hh 9 (.row (Qw6 x6)),hh 11 (.callV [[]] Z1),hh 13 (.sto Z2 Z3),hh 17 (.slen 3 Z3.length)] [(1,1)] [0,3,4] [] [AV.lit (.int .i64 Z4)=Z0,Z5=true,(0:Int)≤v4,(p1.map Qw6)[v4.toNat]? = some (Qw6 x6),Qa4 Tryz.prog 198 [(AV.agg ((Qw6 x6)))] Z1,Qa3 Z1=true,(0:Int)≤v4,v4<((Z6.length:Nat) : Int),Z6[v4.toNat]? = some Z2,Z6.set v4.toNat (wr Z2 0 ((Qbj r7)))=Z3,((Qbj r7)).length=4,0+((Qbj r7)).length≤Z2.length,Z6.length=Z3.length,Qa8 [(1,1)] Z3] ⟨(Qby Qw6),c5,(rd0 hx6),(rdM Qw6 hx6),(Xbt hr7),rfl,(rd0 hx8),(rdL Qbj hx8),(rdM Qbj hx8),(Qn5 Qbj),rfl,leB,lnq,(rok (Qab t156)),trivial⟩ (ih (a3.set v4.toNat r7) (w64 (v4+1)) _ h))
  ·obtain rfl:=sj h
   exact gR hP hn [hO 2 Z0,hF 4] [] .own [AV.lit (.int .i64 Z4)=Z0,Z5=false,Qa2 (Z6.take Z6.length)=true,Z6.take Z6.length=Z6,Qa6 Z6=true] ⟨(Qby Qw6),c9,(Qb7 t156),Qb6,(Qa9 n156),trivial⟩
noncomputable def Qke (p1:(List GOp)) : Option (List GOp):=
 Option.bind (mk (GOp.mk 0 0 0 0) (p1.length:Int)) fun l2 =>
 Qh2 p1 FU l2 0
theorem Qz4 {p1:(List GOp)} {r:(List GOp)} (h:Qke p1=some r) : Qa4 Tryz.prog 144 [(AV.ro 4 (p1.map Qw6))] (AV.own 156 4 (r.map Qbj)):=by
 refine gM Tryz.func144 23 Xf3 fun E hP hn hx=>?_
 unfold Qke at h
 obtain ⟨l2,hl2,h⟩:=bnS h
 exact (let Z0:=(p1.length:Int);let Z1:=l2.map Qbj;let Z2:=AV.sl 1001 0 Z1.length;gT hP hn hx [hO 2 (I Z0),⟨3,.nw 1001 Z1,some Z2⟩] [(1001,1)] [0,3,4] [] [AV.lit (.int .i64 (((p1.map Qw6).length:Nat) : Int))=(I Z0),List.replicate Z0.toNat [.lit (.int .i64 0),.lit (.int .i64 0),.lit (.int .i64 0),.lit (.float .f64 0)]=Z1,AV.sl 1001 0 Z0.toNat=Z2,Z0=Z0,(0:Int)≤Z0,Z0 * ((32:Nat) : Int)≤140737488355328,Z0≤140737488355328,Qa8 [(1001,1)] Z1] ⟨(Qby Qw6),(mkM Qbj hl2),(mkS Qbj hl2),rfl,(mk0 hl2),(mkB hl2 (by decide)),(mkC hl2),(rok (Qab t156)),trivial⟩ (Qun hP hn hx p1 FU l2 0 _ h))
noncomputable def Xkf:Code:=match Tryz.f65.body with | some c=>c | none=>.skip
noncomputable def Qgb  (p1:(List (List GOp))) : Nat→(List (List GOp))→Int→Option (List (List GOp))
 | 0,_,_=>none
 | n+1,a3,v4 =>
 if (decide (v4<(p1.length:Int)))=true then
  Option.bind (rd p1 v4) fun x6 =>
  Option.bind (Qke x6) fun r7 =>
  Option.bind (rd a3 v4) fun x8 =>
  Qgb p1 n (a3.set (Int.toNat v4) r7) (w64 (v4+1))
 else
  some a3
theorem Qtl {E:Env} (hP:E.pk=pk0 Tryz.prog) (hn:E.n=23) (hx:FX E []) (p1:(List (List GOp)))  : ∀ (n:Nat) (a3:(List (List GOp))) (v4:Int) (r:(List (List GOp))),Qgb p1 n a3 v4=some r→WAt E Xkf (FQ (Qdj Θ Tryz.f65.results.toList [] [] (AV.own 154 1 (r.map Qth)) E)) [true,true,false,true,false] ⟨[(0,(AV.ro 1 (p1.map Qss))),(3,(AV.sl 1 0 (List.length (a3.map Qth)))),(4,(I v4))],[(1,some ⟨154,1,(a3.map Qth)⟩)],[1,JJ]⟩:=by
 intro n
 induction n with
 | zero=>intro a3 v4 r h;simp only [Qgb] at h;cases h
 | succ n ih =>
  intro a3 v4 r h
  simp only [Qgb] at h
  let Z0:=(I (p1.length:Int));let Z4:=a3.map Qth;let Z8:=(((p1.map Qss).length:Nat) : Int);let Z9:=(decide (v4<(p1.length:Int)))
  rcases itS h with ⟨c5,h⟩ | ⟨c9,h⟩
  ·obtain ⟨x6,hx6,h⟩:=bnS h
   obtain ⟨r7,hr7,h⟩:=bnS h
   obtain ⟨x8,hx8,h⟩:=bnS h
   exact (let Z1:=r7.map Qbj;let Z2:=AV.own 156 4 Z1;let Z3:=[(AV.own 156 4 (x8.map Qbj))];let Z5:=AV.sl 1001 0 Z1.length;let Z6:=Z4.set v4.toNat [Z5];let Z7:=(a3.set v4.toNat r7).map Qth;gT hP hn hx [hO 2 Z0,hT 4,hh 9 (.row (Qss x6)),hh 11 (.call [] Z2 [1001]),hh 13 (.sto Z3 Z6),hh 14 (.pack 1 1001 v4.toNat 0 [Z5] Z7),hh 17 (.slen 3 Z7.length)] [(1,1)] [0,3,4] [] [AV.lit (.int .i64 Z8)=Z0,Z9=true,(0:Int)≤v4,(p1.map Qss)[v4.toNat]? = some (Qss x6),Qa4 Tryz.prog 144 [(AV.ro 4 (x6.map Qw6))] Z2,Qc2 Z2=true,(0:Int)≤v4,v4<((Z4.length:Nat) : Int),Z4[v4.toNat]? = some Z3,Z4.set v4.toNat (wr Z3 0 [Z5])=Z6,[Z5].length=1,0 + [Z5].length≤Z3.length,Z6[v4.toNat]? = some [Z5],[Z5][0]? = some Z5,Qa2 Z1=true,Z6.set v4.toNat ([Z5].set 0 Z2)=Z7,Z4.length=Z7.length,Qa8 [(1,1)] Z7] ⟨(Qby Qss),c5,(rd0 hx6),(rdM Qss hx6),(Qz4 hr7),(by simp +zetaDelta only [Qc2,Qbm,Qa9 n156,Bool.and_self]),(rd0 hx8),(rdL Qth hx8),(rdM Qth hx8),rfl,rfl,leB,(Qcc (rdM Qth hx8)),rfl,(Qab t156),(setP Qth),lnq,(rok (Qab Xje)),trivial⟩ (ih (a3.set v4.toNat r7) (w64 (v4+1)) _ h))
  ·obtain rfl:=sj h
   exact gR hP hn [hO 2 Z0,hF 4] [] .own [AV.lit (.int .i64 Z8)=Z0,Z9=false,Qa2 (Z4.take Z4.length)=true,Z4.take Z4.length=Z4,Qa6 Z4=true] ⟨(Qby Qss),c9,(Qb7 Xje),Qb6,(Qa9 Xnb),trivial⟩
noncomputable def Qks (p1:(List (List GOp))) : Option (List (List GOp)):=
 Option.bind (mk [] (p1.length:Int)) fun l2 =>
 Qgb p1 FU l2 0
theorem Qxz {p1:(List (List GOp))} {r:(List (List GOp))} (h:Qks p1=some r) : Qa4 Tryz.prog 65 [(AV.ro 1 (p1.map Qss))] (AV.own 154 1 (r.map Qth)):=by
 refine gM Tryz.func65 23 Xkf fun E hP hn hx=>?_
 unfold Qks at h
 obtain ⟨l2,hl2,h⟩:=bnS h
 exact (let Z0:=(p1.length:Int);let Z1:=l2.map Qth;let Z2:=AV.sl 1001 0 Z1.length;gT hP hn hx [hO 2 (I Z0),⟨3,.nw 1001 (List.replicate Z0.toNat [AV.lit (.slice none 0 0)]),some Z2⟩,hh 4 (.own0 1001 Z0.toNat [] [] 156 4 Z1)] [(1001,1)] [0,3,4] [] [AV.lit (.int .i64 (((p1.map Qss).length:Nat) : Int))=(I Z0),List.replicate Z0.toNat [.lit (.slice none 0 0)]=(List.replicate Z0.toNat [AV.lit (.slice none 0 0)]),AV.sl 1001 0 Z0.toNat=Z2,Z0=Z0,(0:Int)≤Z0,Z0 * ((24:Nat) : Int)≤140737488355328,Z0≤140737488355328,(List.replicate Z0.toNat [AV.lit (.slice none 0 0)])=List.replicate Z0.toNat ([]++AV.lit (.slice none 0 0) :: []),List.replicate Z0.toNat ([]++AV.own 156 4 [] :: [])=Z1,Qa8 [(1001,1)] Z1] ⟨(Qby Qss),rfl,(mkS Qth hl2),rfl,(mk0 hl2),(mkB hl2 (by decide)),(mkC hl2),rfl,(mkM Qth hl2),(rok (Qab Xje)),trivial⟩ (Qtl hP hn hx p1 FU l2 0 _ h))
noncomputable def Xnt:Code:=match Tryz.f12.body with | some c=>c | none=>.skip
noncomputable def Qhk (p1:Qaf) : Option Qaf:=
 Option.bind (Qks p1.Routines) fun r2 =>
 some (Qaf.mk p1.Cells p1.Locks p1.Conds r2)
theorem Qmh {p1:Qaf} {r:Qaf} (h:Qhk p1=some r) : Qa4 Tryz.prog 12 [(AV.agg ((r24 p1)))] (AV.agg (o39 r)):=by
 refine gM Tryz.func12 18 Xnt fun E hP hn hx=>?_
 unfold Qhk at h
 obtain ⟨r2,hr2,h⟩:=bnS h
 obtain rfl:=sj h
 exact (let Z0:=r2.map Qth;let Z1:=AV.own 154 1 Z0;gR hP hn [hW 0 1001,hW 1 1002,hW 2 1003,hh 17 (.call [] Z1 [1004])] [] (.agg [.raw,.raw,.raw,.own]) [Qa4 Tryz.prog 65 [(AV.ro 1 (p1.Routines.map Qss))] Z1,Qc2 Z1=true,(I p1.Cells)=(I p1.Cells),Qa3 (I p1.Cells)=true,(I p1.Locks)=(I p1.Locks),Qa3 (I p1.Locks)=true,(I p1.Conds)=(I p1.Conds),Qa3 (I p1.Conds)=true,Qa2 (Z0.take Z0.length)=true,Z0.take Z0.length=Z0,Qa6 Z0=true] ⟨(Qxz hr2),(by simp +zetaDelta only [Qc2,Qbm,Qa9 Xnb,Bool.and_self]),rfl,rfl,rfl,rfl,rfl,rfl,(Qb7 Xje),Qb6,(Qa9 Xnb),trivial⟩)
noncomputable def Xmu:Code:=match Tryz.f145.body with | some c=>c | none=>.skip
noncomputable def Qje (p1:Qaa) : Option Qaa:=
 some (Qaa.mk p1.Thread p1.Kind p1.Obj p1.Lock p1.Pc)
theorem Qwn {p1:Qaa} {r:Qaa} (h:Qje p1=some r) : Qa4 Tryz.prog 145 [(AV.agg ((Qvf p1)))] (AV.agg (o60 r)):=by
 refine gM Tryz.func145 20 Xmu fun E hP hn hx=>?_
 unfold Qje at h
 obtain rfl:=sj h
 exact (let Z0:=AV.agg [(I p1.Thread),(I p1.Kind),(I p1.Obj),(I p1.Lock),(I p1.Pc)];gR hP hn [hW 0 1001,hW 1 1002,hW 2 1003] [] .raw [Z0=Z0,Qa3 Z0=true] ⟨rfl,rfl,trivial⟩)
noncomputable def Xk0:Code:=match Tryz.f66.body with | some c=>c | none=>.skip
noncomputable def Qea  (p1:(List Qaa)) : Nat→(List Qaa)→Int→Option (List Qaa)
 | 0,_,_=>none
 | n+1,a3,v4 =>
 if (decide (v4<(p1.length:Int)))=true then
  Option.bind (rd p1 v4) fun x6 =>
  Option.bind (Qje x6) fun r7 =>
  Option.bind (rd a3 v4) fun x8 =>
  Qea p1 n (a3.set (Int.toNat v4) r7) (w64 (v4+1))
 else
  some a3
theorem Qqs {E:Env} (hP:E.pk=pk0 Tryz.prog) (hn:E.n=23) (hx:FX E []) (p1:(List Qaa))  : ∀ (n:Nat) (a3:(List Qaa)) (v4:Int) (r:(List Qaa)),Qea p1 n a3 v4=some r→WAt E Xk0 (FQ (Qdj Θ Tryz.f66.results.toList [] [] (AV.own 60 5 (r.map o60)) E)) [true,true,false,true,false] ⟨[(0,(AV.ro 5 (p1.map Qvf))),(3,(AV.sl 1 0 (List.length (a3.map o60)))),(4,(I v4))],[(1,some ⟨60,5,(a3.map o60)⟩)],[1,JJ]⟩:=by
 intro n
 induction n with
 | zero=>intro a3 v4 r h;simp only [Qea] at h;cases h
 | succ n ih =>
  intro a3 v4 r h
  simp only [Qea] at h
  let Z0:=(I (p1.length:Int));let Z4:=(((p1.map Qvf).length:Nat) : Int);let Z5:=(decide (v4<(p1.length:Int)));let Z6:=a3.map o60
  rcases itS h with ⟨c5,h⟩ | ⟨c9,h⟩
  ·obtain ⟨x6,hx6,h⟩:=bnS h
   obtain ⟨r7,hr7,h⟩:=bnS h
   obtain ⟨x8,hx8,h⟩:=bnS h
   exact (let Z1:=AV.agg (o60 r7);let Z2:=o60 x8;let Z3:=(a3.set v4.toNat r7).map o60;gT hP hn hx [hO 2 Z0,hT 4,hh 9 (.row (Qvf x6)),hh 11 (.callV [[]] Z1),hh 13 (.sto Z2 Z3),hh 17 (.slen 3 Z3.length)] [(1,1)] [0,3,4] [] [AV.lit (.int .i64 Z4)=Z0,Z5=true,(0:Int)≤v4,(p1.map Qvf)[v4.toNat]? = some (Qvf x6),Qa4 Tryz.prog 145 [(AV.agg ((Qvf x6)))] Z1,Qa3 Z1=true,(0:Int)≤v4,v4<((Z6.length:Nat) : Int),Z6[v4.toNat]? = some Z2,Z6.set v4.toNat (wr Z2 0 ((o60 r7)))=Z3,((o60 r7)).length=5,0+((o60 r7)).length≤Z2.length,Z6.length=Z3.length,Qa8 [(1,1)] Z3] ⟨(Qby Qvf),c5,(rd0 hx6),(rdM Qvf hx6),(Qwn hr7),rfl,(rd0 hx8),(rdL o60 hx8),(rdM o60 hx8),(Qn5 o60),rfl,leB,lnq,(rok (Qab t60)),trivial⟩ (ih (a3.set v4.toNat r7) (w64 (v4+1)) _ h))
  ·obtain rfl:=sj h
   exact gR hP hn [hO 2 Z0,hF 4] [] .own [AV.lit (.int .i64 Z4)=Z0,Z5=false,Qa2 (Z6.take Z6.length)=true,Z6.take Z6.length=Z6,Qa6 Z6=true] ⟨(Qby Qvf),c9,(Qb7 t60),Qb6,(Qa9 n60),trivial⟩
noncomputable def Qi0 (p1:(List Qaa)) : Option (List Qaa):=
 Option.bind (mk (Qaa.mk 0 0 0 0 0) (p1.length:Int)) fun l2 =>
 Qea p1 FU l2 0
theorem Qu5 {p1:(List Qaa)} {r:(List Qaa)} (h:Qi0 p1=some r) : Qa4 Tryz.prog 66 [(AV.ro 5 (p1.map Qvf))] (AV.own 60 5 (r.map o60)):=by
 refine gM Tryz.func66 23 Xk0 fun E hP hn hx=>?_
 unfold Qi0 at h
 obtain ⟨l2,hl2,h⟩:=bnS h
 exact (let Z0:=(p1.length:Int);let Z1:=l2.map o60;let Z2:=AV.sl 1001 0 Z1.length;gT hP hn hx [hO 2 (I Z0),⟨3,.nw 1001 Z1,some Z2⟩] [(1001,1)] [0,3,4] [] [AV.lit (.int .i64 (((p1.map Qvf).length:Nat) : Int))=(I Z0),List.replicate Z0.toNat [.lit (.int .i64 0),.lit (.int .i64 0),.lit (.int .i64 0),.lit (.int .i64 0),.lit (.int .i64 0)]=Z1,AV.sl 1001 0 Z0.toNat=Z2,Z0=Z0,(0:Int)≤Z0,Z0 * ((40:Nat) : Int)≤140737488355328,Z0≤140737488355328,Qa8 [(1001,1)] Z1] ⟨(Qby Qvf),(mkM o60 hl2),(mkS o60 hl2),rfl,(mk0 hl2),(mkB hl2 (by decide)),(mkC hl2),(rok (Qab t60)),trivial⟩ (Qqs hP hn hx p1 FU l2 0 _ h))
noncomputable def Xkh:Code:=match Tryz.f67.body with | some c=>c | none=>.skip
noncomputable def Qga  (p1:(List Int)) : Nat→(List Int)→Int→Option (List Int)
 | 0,_,_=>none
 | n+1,a3,v4 =>
 if (decide (v4<(p1.length:Int)))=true then
  Option.bind (rd p1 v4) fun x6 =>
  Option.bind (rd a3 v4) fun x7 =>
  Qga p1 n (a3.set (Int.toNat v4) x6) (w64 (v4+1))
 else
  some a3
theorem Qts {E:Env} (hP:E.pk=pk0 Tryz.prog) (hn:E.n=22) (hx:FX E []) (p1:(List Int))  : ∀ (n:Nat) (a3:(List Int)) (v4:Int) (r:(List Int)),Qga p1 n a3 v4=some r→WAt E Xkh (FQ (Qdj Θ Tryz.f67.results.toList [] [] (AV.own 3 1 (r.map o3)) E)) [true,true,false,true,false] ⟨[(0,(AV.ro 1 (p1.map o3))),(3,(AV.sl 1 0 (List.length (a3.map o3)))),(4,(I v4))],[(1,some ⟨3,1,(a3.map o3)⟩)],[1,JJ]⟩:=by
 intro n
 induction n with
 | zero=>intro a3 v4 r h;simp only [Qga] at h;cases h
 | succ n ih =>
  intro a3 v4 r h
  simp only [Qga] at h
  let Z0:=(I (p1.length:Int));let Z2:=(((p1.map o3).length:Nat) : Int);let Z3:=(decide (v4<(p1.length:Int)));let Z4:=a3.map o3
  rcases itS h with ⟨c5,h⟩ | ⟨c8,h⟩
  ·obtain ⟨x6,hx6,h⟩:=bnS h
   obtain ⟨x7,hx7,h⟩:=bnS h
   exact (let Z1:=(a3.set v4.toNat x6).map o3;gT hP hn hx [hO 2 Z0,hT 4,hh 9 (.row (o3 x6)),hh 12 (.sto [(I x7)] Z1),hh 16 (.slen 3 Z1.length)] [(1,1)] [0,3,4] [] [AV.lit (.int .i64 Z2)=Z0,Z3=true,(0:Int)≤v4,(p1.map o3)[v4.toNat]? = some (o3 x6),(0:Int)≤v4,v4<((Z4.length:Nat) : Int),Z4[v4.toNat]? = some [(I x7)],Z4.set v4.toNat (wr [(I x7)] 0 [(I x6)])=Z1,[(I x6)].length=1,0 + [(I x6)].length≤[(I x7)].length,Z4.length=Z1.length,Qa8 [(1,1)] Z1] ⟨(Qby o3),c5,(rd0 hx6),(rdM o3 hx6),(rd0 hx7),(rdL o3 hx7),(rdM o3 hx7),(Qw5 o3),rfl,leB,lnq,(rok (Qab t3)),trivial⟩ (ih (a3.set v4.toNat x6) (w64 (v4+1)) _ h))
  ·obtain rfl:=sj h
   exact gR hP hn [hO 2 Z0,hF 4] [] .own [AV.lit (.int .i64 Z2)=Z0,Z3=false,Qa2 (Z4.take Z4.length)=true,Z4.take Z4.length=Z4,Qa6 Z4=true] ⟨(Qby o3),c8,(Qb7 t3),Qb6,(Qa9 n3),trivial⟩
noncomputable def Qin (p1:(List Int)) : Option (List Int):=
 Option.bind (mk 0 (p1.length:Int)) fun l2 =>
 Qga p1 FU l2 0
theorem Qrf {p1:(List Int)} {r:(List Int)} (h:Qin p1=some r) : Qa4 Tryz.prog 67 [(AV.ro 1 (p1.map o3))] (AV.own 3 1 (r.map o3)):=by
 refine gM Tryz.func67 22 Xkh fun E hP hn hx=>?_
 unfold Qin at h
 obtain ⟨l2,hl2,h⟩:=bnS h
 exact (let Z0:=(p1.length:Int);let Z1:=l2.map o3;let Z2:=AV.sl 1001 0 Z1.length;gT hP hn hx [hO 2 (I Z0),⟨3,.nw 1001 Z1,some Z2⟩] [(1001,1)] [0,3,4] [] [AV.lit (.int .i64 (((p1.map o3).length:Nat) : Int))=(I Z0),List.replicate Z0.toNat [.lit (.int .i64 0)]=Z1,AV.sl 1001 0 Z0.toNat=Z2,Z0=Z0,(0:Int)≤Z0,Z0 * ((8:Nat) : Int)≤140737488355328,Z0≤140737488355328,Qa8 [(1001,1)] Z1] ⟨(Qby o3),(mkM o3 hl2),(mkS o3 hl2),rfl,(mk0 hl2),(mkB hl2 (by decide)),(mkC hl2),(rok (Qab t3)),trivial⟩ (Qts hP hn hx p1 FU l2 0 _ h))
noncomputable def Xhi:Code:=match Tryz.f147.body with | some c=>c | none=>.skip
noncomputable def Qdl  (p1:(List Nat)) : Nat→(List Nat)→Int→Option (List Nat)
 | 0,_,_=>none
 | n+1,a3,v4 =>
 if (decide (v4<(p1.length:Int)))=true then
  Option.bind (rd p1 v4) fun x6 =>
  Option.bind (rd a3 v4) fun x7 =>
  Qdl p1 n (a3.set (Int.toNat v4) x6) (w64 (v4+1))
 else
  some a3
theorem Qpo {E:Env} (hP:E.pk=pk0 Tryz.prog) (hn:E.n=22) (hx:FX E []) (p1:(List Nat))  : ∀ (n:Nat) (a3:(List Nat)) (v4:Int) (r:(List Nat)),Qdl p1 n a3 v4=some r→WAt E Xhi (FQ (Qdj Θ Tryz.f147.results.toList [] [] (AV.own 132 1 (r.map Qae)) E)) [true,true,false,true,false] ⟨[(0,(AV.ro 1 (p1.map Qae))),(3,(AV.sl 1 0 (List.length (a3.map Qae)))),(4,(I v4))],[(1,some ⟨132,1,(a3.map Qae)⟩)],[1,JJ]⟩:=by
 intro n
 induction n with
 | zero=>intro a3 v4 r h;simp only [Qdl] at h;cases h
 | succ n ih =>
  intro a3 v4 r h
  simp only [Qdl] at h
  let Z0:=(I (p1.length:Int));let Z2:=(((p1.map Qae).length:Nat) : Int);let Z3:=(decide (v4<(p1.length:Int)));let Z4:=a3.map Qae
  rcases itS h with ⟨c5,h⟩ | ⟨c8,h⟩
  ·obtain ⟨x6,hx6,h⟩:=bnS h
   obtain ⟨x7,hx7,h⟩:=bnS h
   exact (let Z1:=(a3.set v4.toNat x6).map Qae;gT hP hn hx [hO 2 Z0,hT 4,hh 9 (.row (Qae x6)),hh 12 (.sto [(FK x7)] Z1),hh 16 (.slen 3 Z1.length)] [(1,1)] [0,3,4] [] [AV.lit (.int .i64 Z2)=Z0,Z3=true,(0:Int)≤v4,(p1.map Qae)[v4.toNat]? = some (Qae x6),(0:Int)≤v4,v4<((Z4.length:Nat) : Int),Z4[v4.toNat]? = some [(FK x7)],Z4.set v4.toNat (wr [(FK x7)] 0 [(FK x6)])=Z1,[(FK x6)].length=1,0 + [(FK x6)].length≤[(FK x7)].length,Z4.length=Z1.length,Qa8 [(1,1)] Z1] ⟨(Qby Qae),c5,(rd0 hx6),(rdM Qae hx6),(rd0 hx7),(rdL Qae hx7),(rdM Qae hx7),(Qw5 Qae),rfl,leB,lnq,(rok (Qab Qbs)),trivial⟩ (ih (a3.set v4.toNat x6) (w64 (v4+1)) _ h))
  ·obtain rfl:=sj h
   exact gR hP hn [hO 2 Z0,hF 4] [] .own [AV.lit (.int .i64 Z2)=Z0,Z3=false,Qa2 (Z4.take Z4.length)=true,Z4.take Z4.length=Z4,Qa6 Z4=true] ⟨(Qby Qae),c8,(Qb7 Qbs),Qb6,(Qa9 Qe7),trivial⟩
noncomputable def Qf6 (p1:(List Nat)) : Option (List Nat):=
 Option.bind (mk 0 (p1.length:Int)) fun l2 =>
 Qdl p1 FU l2 0
theorem Qm1 {p1:(List Nat)} {r:(List Nat)} (h:Qf6 p1=some r) : Qa4 Tryz.prog 147 [(AV.ro 1 (p1.map Qae))] (AV.own 132 1 (r.map Qae)):=by
 refine gM Tryz.func147 22 Xhi fun E hP hn hx=>?_
 unfold Qf6 at h
 obtain ⟨l2,hl2,h⟩:=bnS h
 exact (let Z0:=(p1.length:Int);let Z1:=l2.map Qae;let Z2:=AV.sl 1001 0 Z1.length;gT hP hn hx [hO 2 (I Z0),⟨3,.nw 1001 Z1,some Z2⟩] [(1001,1)] [0,3,4] [] [AV.lit (.int .i64 (((p1.map Qae).length:Nat) : Int))=(I Z0),List.replicate Z0.toNat [.lit (.float .f64 0)]=Z1,AV.sl 1001 0 Z0.toNat=Z2,Z0=Z0,(0:Int)≤Z0,Z0 * ((8:Nat) : Int)≤140737488355328,Z0≤140737488355328,Qa8 [(1001,1)] Z1] ⟨(Qby Qae),(mkM Qae hl2),(mkS Qae hl2),rfl,(mk0 hl2),(mkB hl2 (by decide)),(mkC hl2),(rok (Qab Qbs)),trivial⟩ (Qpo hP hn hx p1 FU l2 0 _ h))
noncomputable def Xmr:Code:=match Tryz.f199.body with | some c=>c | none=>.skip
noncomputable def Qgz (p1:Qa0) : Option Qa0:=
 Option.bind (Qf6 p1.Stack) fun r2 =>
 some (Qa0.mk p1.Routine p1.Pc p1.State p1.Cond p1.Lock r2)
theorem Qu8 {p1:Qa0} {r:Qa0} (h:Qgz p1=some r) : Qa4 Tryz.prog 199 [(AV.agg ((Qpv p1)))] (AV.agg (o70 r)):=by
 refine gM Tryz.func199 24 Xmr fun E hP hn hx=>?_
 unfold Qgz at h
 obtain ⟨r2,hr2,h⟩:=bnS h
 obtain rfl:=sj h
 exact (let Z0:=r2.map Qae;let Z1:=AV.own 132 1 Z0;let Z2:=I p1.Routine;gR hP hn [hW 0 1001,hW 1 1002,hW 2 1003,hh 25 (.call [] Z1 [1004])] [] (.agg [.raw,.raw,.raw,.raw,.raw,.own]) [Qa4 Tryz.prog 147 [(AV.ro 1 (p1.Stack.map Qae))] Z1,Qc2 Z1=true,Z2=Z2,Qa3 Z2=true,(I p1.Pc)=(I p1.Pc),Qa3 (I p1.Pc)=true,(I p1.State)=(I p1.State),Qa3 (I p1.State)=true,(I p1.Cond)=(I p1.Cond),Qa3 (I p1.Cond)=true,(I p1.Lock)=(I p1.Lock),Qa3 (I p1.Lock)=true,Qa2 (Z0.take Z0.length)=true,Z0.take Z0.length=Z0,Qa6 Z0=true] ⟨(Qm1 hr2),(by simp +zetaDelta only [Qc2,Qbm,Qa9 Qe7,Bool.and_self]),rfl,rfl,rfl,rfl,rfl,rfl,rfl,rfl,rfl,rfl,(Qb7 Qbs),Qb6,(Qa9 Qe7),trivial⟩)
noncomputable def Xgp:Code:=match Tryz.f146.body with | some c=>c | none=>.skip
noncomputable def Qdz  (p1:(List Qa0)) : Nat→(List Qa0)→Int→Option (List Qa0)
 | 0,_,_=>none
 | n+1,a3,v4 =>
 if (decide (v4<(p1.length:Int)))=true then
  Option.bind (rd p1 v4) fun x6 =>
  Option.bind (Qgz x6) fun r7 =>
  Option.bind (rd a3 v4) fun x8 =>
  Qdz p1 n (a3.set (Int.toNat v4) (Qa0.mk r7.Routine r7.Pc r7.State r7.Cond r7.Lock r7.Stack)) (w64 (v4+1))
 else
  some a3
theorem Qq8 {E:Env} (hP:E.pk=pk0 Tryz.prog) (hn:E.n=23) (hx:FX E []) (p1:(List Qa0))  : ∀ (n:Nat) (a3:(List Qa0)) (v4:Int) (r:(List Qa0)),Qdz p1 n a3 v4=some r→WAt E Xgp (FQ (Qdj Θ Tryz.f146.results.toList [] [] (AV.own 70 6 (r.map o70)) E)) [true,true,false,true,false] ⟨[(0,(AV.ro 6 (p1.map Qpv))),(3,(AV.sl 1 0 (List.length (a3.map o70)))),(4,(I v4))],[(1,some ⟨70,6,(a3.map o70)⟩)],[1,JJ]⟩:=by
 intro n
 induction n with
 | zero=>intro a3 v4 r h;simp only [Qdz] at h;cases h
 | succ n ih =>
  intro a3 v4 r h
  simp only [Qdz] at h
  let Z0:=(I (p1.length:Int));let Z3:=a3.map o70;let Z10:=(((p1.map Qpv).length:Nat) : Int);let Z11:=(decide (v4<(p1.length:Int)))
  rcases itS h with ⟨c5,h⟩ | ⟨c9,h⟩
  ·obtain ⟨x6,hx6,h⟩:=bnS h
   obtain ⟨r7,hr7,h⟩:=bnS h
   obtain ⟨x8,hx8,h⟩:=bnS h
   exact (let Z1:=AV.agg (o70 r7);let Z2:=o70 x8;let Z4:=r7.Stack.map Qae;let Z5:=AV.sl 1001 0 Z4.length;let Z6:=[(I r7.Routine),(I r7.Pc),(I r7.State),(I r7.Cond),(I r7.Lock),Z5];let Z7:=Z3.set v4.toNat Z6;let Z8:=a3.set v4.toNat (Qa0.mk r7.Routine r7.Pc r7.State r7.Cond r7.Lock r7.Stack);let Z9:=Z8.map o70;gT hP hn hx [hO 2 Z0,hT 4,hh 9 (.row (Qpv x6)),hh 11 (.call [[]] Z1 [1001]),hh 13 (.sto Z2 Z7),hh 14 (.pack 1 1001 v4.toNat 5 Z6 Z9),hh 17 (.slen 3 Z9.length)] [(1,1)] [0,3,4] [] [AV.lit (.int .i64 Z10)=Z0,Z11=true,(0:Int)≤v4,(p1.map Qpv)[v4.toNat]? = some (Qpv x6),Qa4 Tryz.prog 199 [(AV.agg ((Qpv x6)))] Z1,Qc2 Z1=true,(0:Int)≤v4,v4<((Z3.length:Nat) : Int),Z3[v4.toNat]? = some Z2,Z3.set v4.toNat (wr Z2 0 Z6)=Z7,Z6.length=6,0+Z6.length≤Z2.length,Z7[v4.toNat]? = some Z6,Z6[5]? = some Z5,Qa2 Z4=true,Z7.set v4.toNat (Z6.set 5 (AV.own 132 1 Z4))=Z9,Z3.length=Z9.length,Qa8 [(1,1)] Z9] ⟨(Qby Qpv),c5,(rd0 hx6),(rdM Qpv hx6),(Qu8 hr7),(by simp +zetaDelta only [Qc2,Qbm,Qa9 Qe7,o70,Bool.and_self]),(rd0 hx8),(rdL o70 hx8),(rdM o70 hx8),rfl,rfl,leB,(Qcc (rdM o70 hx8)),rfl,(Qab Qbs),(Qfz o70 (y:=(Qa0.mk r7.Routine r7.Pc r7.State r7.Cond r7.Lock r7.Stack)) rfl),lnq,(rok (Qab t70)),trivial⟩ (ih Z8 (w64 (v4+1)) _ h))
  ·obtain rfl:=sj h
   exact gR hP hn [hO 2 Z0,hF 4] [] .own [AV.lit (.int .i64 Z10)=Z0,Z11=false,Qa2 (Z3.take Z3.length)=true,Z3.take Z3.length=Z3,Qa6 Z3=true] ⟨(Qby Qpv),c9,(Qb7 t70),Qb6,(Qa9 n70),trivial⟩
noncomputable def Qha (p1:(List Qa0)) : Option (List Qa0):=
 Option.bind (mk (Qa0.mk 0 0 0 0 0 []) (p1.length:Int)) fun l2 =>
 Qdz p1 FU l2 0
theorem Qtk {p1:(List Qa0)} {r:(List Qa0)} (h:Qha p1=some r) : Qa4 Tryz.prog 146 [(AV.ro 6 (p1.map Qpv))] (AV.own 70 6 (r.map o70)):=by
 refine gM Tryz.func146 23 Xgp fun E hP hn hx=>?_
 unfold Qha at h
 obtain ⟨l2,hl2,h⟩:=bnS h
 exact (let Z0:=(p1.length:Int);let Z1:=l2.map o70;let Z2:=AV.sl 1001 0 Z1.length;gT hP hn hx [hO 2 (I Z0),⟨3,.nw 1001 (List.replicate Z0.toNat [AV.lit (.int .i64 0),AV.lit (.int .i64 0),AV.lit (.int .i64 0),AV.lit (.int .i64 0),AV.lit (.int .i64 0),AV.lit (.slice none 0 0)]),some Z2⟩,hh 4 (.own0 1001 Z0.toNat [AV.lit (.int .i64 0),AV.lit (.int .i64 0),AV.lit (.int .i64 0),AV.lit (.int .i64 0),AV.lit (.int .i64 0)] [] 132 1 Z1)] [(1001,1)] [0,3,4] [] [AV.lit (.int .i64 (((p1.map Qpv).length:Nat) : Int))=(I Z0),List.replicate Z0.toNat [.lit (.int .i64 0),.lit (.int .i64 0),.lit (.int .i64 0),.lit (.int .i64 0),.lit (.int .i64 0),.lit (.slice none 0 0)]=(List.replicate Z0.toNat [AV.lit (.int .i64 0),AV.lit (.int .i64 0),AV.lit (.int .i64 0),AV.lit (.int .i64 0),AV.lit (.int .i64 0),AV.lit (.slice none 0 0)]),AV.sl 1001 0 Z0.toNat=Z2,Z0=Z0,(0:Int)≤Z0,Z0 * ((64:Nat) : Int)≤140737488355328,Z0≤140737488355328,(List.replicate Z0.toNat [AV.lit (.int .i64 0),AV.lit (.int .i64 0),AV.lit (.int .i64 0),AV.lit (.int .i64 0),AV.lit (.int .i64 0),AV.lit (.slice none 0 0)])=List.replicate Z0.toNat ([AV.lit (.int .i64 0),AV.lit (.int .i64 0),AV.lit (.int .i64 0),AV.lit (.int .i64 0),AV.lit (.int .i64 0)]++AV.lit (.slice none 0 0) :: []),List.replicate Z0.toNat ([AV.lit (.int .i64 0),AV.lit (.int .i64 0),AV.lit (.int .i64 0),AV.lit (.int .i64 0),AV.lit (.int .i64 0)]++AV.own 132 1 [] :: [])=Z1,Qa8 [(1001,1)] Z1] ⟨(Qby Qpv),rfl,(mkS o70 hl2),rfl,(mk0 hl2),(mkB hl2 (by decide)),(mkC hl2),rfl,(mkM o70 hl2),(rok (Qab t70)),trivial⟩ (Qq8 hP hn hx p1 FU l2 0 _ h))
noncomputable def Xo8:Code:=match Tryz.f68.body with | some c=>c | none=>.skip
noncomputable def Qjn (p1:Qa1) : Option Qa1:=
 Option.bind (Qha p1.Threads) fun r2 =>
 Option.bind (Qf6 p1.Cells) fun r3 =>
 Option.bind (Qin p1.Owner) fun r4 =>
 some (Qa1.mk r2 r3 r4 p1.Fault)
theorem Qwm {p1:Qa1} {r:Qa1} (h:Qjn p1=some r) : Qa4 Tryz.prog 68 [(AV.agg ((r30 p1)))] (AV.agg (o44 r)):=by
 refine gM Tryz.func68 20 Xo8 fun E hP hn hx=>?_
 unfold Qjn at h
 obtain ⟨r2,hr2,h⟩:=bnS h
 obtain ⟨r3,hr3,h⟩:=bnS h
 obtain ⟨r4,hr4,h⟩:=bnS h
 obtain rfl:=sj h
 exact (let Z0:=r2.map o70;let Z1:=AV.own 70 6 Z0;let Z2:=r3.map Qae;let Z3:=AV.own 132 1 Z2;let Z4:=r4.map o3;let Z5:=AV.own 3 1 Z4;gR hP hn [hW 0 1001,hW 1 1002,hW 2 1003,hh 5 (.call [] Z1 [1004]),hh 10 (.call [] Z3 [1005]),hh 15 (.call [] Z5 [1006])] [] (.agg [.own,.own,.own,.raw]) [Qa4 Tryz.prog 146 [(AV.ro 6 (p1.Threads.map Qpv))] Z1,Qc2 Z1=true,Qa4 Tryz.prog 147 [(AV.ro 1 (p1.Cells.map Qae))] Z3,Qc2 Z3=true,Qa4 Tryz.prog 67 [(AV.ro 1 (p1.Owner.map o3))] Z5,Qc2 Z5=true,Qa2 (Z0.take Z0.length)=true,Z0.take Z0.length=Z0,Qa6 Z0=true,Qa2 (Z2.take Z2.length)=true,Z2.take Z2.length=Z2,Qa6 Z2=true,Qa2 (Z4.take Z4.length)=true,Z4.take Z4.length=Z4,Qa6 Z4=true,(I p1.Fault)=(I p1.Fault),Qa3 (I p1.Fault)=true] ⟨(Qtk hr2),(by simp +zetaDelta only [Qc2,Qbm,Qa9 n70,Bool.and_self]),(Qm1 hr3),(by simp +zetaDelta only [Qc2,Qbm,Qa9 Qe7,Bool.and_self]),(Qrf hr4),(by simp +zetaDelta only [Qc2,Qbm,Qa9 n3,Bool.and_self]),(Qb7 t70),Qb6,(Qa9 n70),(Qb7 Qbs),Qb6,(Qa9 Qe7),(Qb7 t3),Qb6,(Qa9 n3),rfl,rfl,trivial⟩)
noncomputable def Xnr:Code:=match Tryz.f13.body with | some c=>c | none=>.skip
noncomputable def Qih (p1:Qbi) : Option Qbi:=
 Option.bind (Qi0 p1.Trace) fun r2 =>
 Option.bind (Qin p1.Picks) fun r3 =>
 Option.bind (Qjn p1.End) fun r4 =>
 some (Qbi.mk p1.Code r2 r3 (Qa1.mk r4.Threads r4.Cells r4.Owner r4.Fault))
theorem Qoa {p1:Qbi} {r:Qbi} (h:Qih p1=some r) : Qa4 Tryz.prog 13 [(AV.agg ((r32 p1)))] (AV.agg (o46 r)):=by
 refine gM Tryz.func13 20 Xnr fun E hP hn hx=>?_
 unfold Qih at h
 obtain ⟨r2,hr2,h⟩:=bnS h
 obtain ⟨r3,hr3,h⟩:=bnS h
 obtain ⟨r4,hr4,h⟩:=bnS h
 obtain rfl:=sj h
 exact (let Z0:=r2.map o60;let Z1:=AV.own 60 5 Z0;let Z2:=r3.map o3;let Z3:=AV.own 3 1 Z2;let Z4:=AV.agg (o44 r4);let Z5:=r4.Threads.map o70;let Z6:=r4.Cells.map Qae;let Z7:=r4.Owner.map o3;gR hP hn [hW 0 1001,hW 1 1002,hW 2 1003,hh 9 (.call [] Z1 [1004]),hh 14 (.call [] Z3 [1005]),hh 19 (.call [[]] Z4 [1006,1007,1008])] [] (.agg [.raw,.own,.own,.own,.own,.own,.raw]) [Qa4 Tryz.prog 66 [(AV.ro 5 (p1.Trace.map Qvf))] Z1,Qc2 Z1=true,Qa4 Tryz.prog 67 [(AV.ro 1 (p1.Picks.map o3))] Z3,Qc2 Z3=true,Qa4 Tryz.prog 68 [(AV.agg ((r30 p1.End)))] Z4,Qc2 Z4=true,(I p1.Code)=(I p1.Code),Qa3 (I p1.Code)=true,Qa2 (Z0.take Z0.length)=true,Z0.take Z0.length=Z0,Qa6 Z0=true,Qa2 (Z2.take Z2.length)=true,Z2.take Z2.length=Z2,Qa6 Z2=true,Qa2 (Z5.take Z5.length)=true,Z5.take Z5.length=Z5,Qa6 Z5=true,Qa2 (Z6.take Z6.length)=true,Z6.take Z6.length=Z6,Qa6 Z6=true,Qa2 (Z7.take Z7.length)=true,Z7.take Z7.length=Z7,Qa6 Z7=true,(I r4.Fault)=(I r4.Fault),Qa3 (I r4.Fault)=true] ⟨(Qu5 hr2),(by simp +zetaDelta only [Qc2,Qbm,Qa9 n60,Bool.and_self]),(Qrf hr3),(by simp +zetaDelta only [Qc2,Qbm,Qa9 n3,Bool.and_self]),(Qwm hr4),(by simp +zetaDelta only [Qc2,Qbm,Qa9 n3,Qa9 n70,Qa9 Qe7,o44,Bool.and_self]),rfl,rfl,(Qb7 t60),Qb6,(Qa9 n60),(Qb7 t3),Qb6,(Qa9 n3),(Qb7 t70),Qb6,(Qa9 n70),(Qb7 Qbs),Qb6,(Qa9 Qe7),(Qb7 t3),Qb6,(Qa9 n3),rfl,rfl,trivial⟩)
noncomputable def Xpz:Code:=match Tryz.f77.body with | some c=>c | none=>.skip
noncomputable def Qen (p1:Int) (p2:Int) (p3:Int) : Option Bool:=
 if (decide (p1 ≥ p2))=true then
  some (decide (p1≤p3))
 else
  some false
theorem Qet {p1:Int} {p2:Int} {p3:Int} {r:Bool} (h:Qen p1 p2 p3=some r) : Qa4 Tryz.prog 77 [(I p1),(I p2),(I p3)] (B r):=by
 refine gM Tryz.func77 15 Xpz fun E hP hn hx=>?_
 unfold Qen at h
 let Z0:=B (decide (p1 ≥ p2));let Z1:=B (decide (p1≤p3));let Z2:=B false
 rcases itS h with ⟨c4,h⟩ | ⟨c5,h⟩
 ·obtain rfl:=sj h
  exact gR hP hn [hO 4 (B true)] [] .raw [Z0=(B true),Z1=Z1,Qa3 Z1=true] ⟨(Qau c4),rfl,rfl,trivial⟩
 ·obtain rfl:=sj h
  exact gR hP hn [hO 4 Z2] [] .raw [Z0=Z2,Z2=Z2,Qa3 Z2=true] ⟨(Qau c5),rfl,rfl,trivial⟩
noncomputable def Xna:Code:=match Tryz.f215.body with | some c=>c | none=>.skip
noncomputable def Qdw (p1:Nat) : Option Bool:=
 if ((Qci p1 0) == some .lt)=true then
  some true
 else
  if ((Qci p1 0) == some .eq)=true then
   some ((Qci (fdv 4607182418800017408 p1) 0) == some .lt)
  else
   some false
theorem Qpx {p1:Nat} {r:Bool} (h:Qdw p1=some r) : Qa4 Tryz.prog 215 [(FK p1)] (B r):=by
 refine gM Tryz.func215 14 Xna fun E hP hn hx=>?_
 unfold Qdw at h
 let Z0:=Qci p1 0;let Z1:=B true;let Z2:=B false;let Z3:=fdv 4607182418800017408 p1;let Z4:=Qci Z3 0
 let H1:List Hn:=[hh 2 (.bin (B (Z0 == some .lt)))]
 let P2:List Prop:=[Qgd Tryz.prog .lss 132 (FK p1) (FK 0) (B (Z0 == some .lt))]
 have AP2:Qam P2:=⟨Xk8,trivial⟩
 rcases itS h with ⟨c2,h⟩ | ⟨c3,h⟩
 ·obtain rfl:=sj h
  exact gR hP hn (H1++[hO 3 Z1]) [] .raw (P2++[(B (Z0 == some .lt))=Z1,Z1=Z1,Qa3 Z1=true]) (Qa7 AP2 ⟨(Qau c2),rfl,rfl,trivial⟩)
 ·let P3:List Prop:=P2++[(B (Z0 == some .lt))=Z2,Qgd Tryz.prog .eql 132 (FK p1) (FK 0) (B (Z0 == some .eq))]
  have AP3:Qam P3:=Qa7 AP2 ⟨(Qau c3),Xfi,trivial⟩
  rcases itS h with ⟨c4,h⟩ | ⟨c5,h⟩
  ·obtain rfl:=sj h
   exact gR hP hn (H1++[hO 3 Z2,hh 5 (.bin (B (Z0 == some .eq))),hO 6 Z1,hh 8 (.bin (FK Z3)),hh 9 (.bin (B (Z4 == some .lt)))]) [] .raw (P3++[(B (Z0 == some .eq))=Z1,Qgd Tryz.prog .quo 132 (FK 4607182418800017408) (FK p1) (FK Z3),Qgd Tryz.prog .lss 132 (FK Z3) (FK 0) (B (Z4 == some .lt)),(B (Z4 == some .lt))=(B (Z4 == some .lt)),Qa3 (B (Z4 == some .lt))=true]) (Qa7 AP3 ⟨(Qau c4),Xo7,Xk8,rfl,rfl,trivial⟩)
  ·obtain rfl:=sj h
   exact gR hP hn (H1++[hO 3 Z2,hh 5 (.bin (B (Z0 == some .eq))),hO 6 Z2]) [] .raw (P3++[(B (Z0 == some .eq))=Z2,Z2=Z2,Qa3 Z2=true]) (Qa7 AP3 ⟨(Qau c5),rfl,rfl,trivial⟩)
noncomputable def Xku:Code:=match Tryz.f213.body with | some c=>c | none=>.skip
noncomputable def Qed (p1:Nat) : Option Bool:=
 some ((Qci p1 p1) != some .eq)
theorem Qer {p1:Nat} {r:Bool} (h:Qed p1=some r) : Qa4 Tryz.prog 213 [(FK p1)] (B r):=by
 refine gM Tryz.func213 6 Xku fun E hP hn hx=>?_
 unfold Qed at h
 obtain rfl:=sj h
 exact (let Z0:=Qci p1 p1;gR hP hn [hh 3 (.bin (B (Z0 != some .eq)))] [] .raw [Qgd Tryz.prog .neq 132 (FK p1) (FK p1) (B (Z0 != some .eq)),(B (Z0 != some .eq))=(B (Z0 != some .eq)),Qa3 (B (Z0 != some .eq))=true] ⟨Xio,rfl,rfl,trivial⟩)
noncomputable def Xfz:Code:=match Tryz.f182.body with | some c=>c | none=>.skip
noncomputable def Qff  (p1:Nat) (p2:Nat)  : Option Bool:=
 if ((Qci p1 p2) == some .eq)=true then
  Option.bind (Qdw p1) fun r18 =>
  Option.bind (Qdw p2) fun r19 =>
  some (r18 == r19)
 else
  some false
theorem Qqh {E:Env} (hP:E.pk=pk0 Tryz.prog) (hn:E.n=27) (hx:FX E []) (p1:Nat) (p2:Nat)   (r:Bool) (h:Qff p1 p2  = some r) : WAt E Xfz (FQ (Qdj Θ Tryz.f182.results.toList [] [] (B r) E)) [true,false,true,true] ⟨[(0,(FK p1)),(1,(FK p2))],[],[JJ]⟩:=by
 unfold Qff at h
 let Z0:=Qci p1 p2;let Z2:=B false
 rcases itS h with ⟨c17,h⟩ | ⟨c20,h⟩
 ·obtain ⟨r18,hr18,h⟩:=bnS h
  obtain ⟨r19,hr19,h⟩:=bnS h
  obtain rfl:=sj h
  exact (let Z1:=B (r18 == r19);gR hP hn [hh 2 (.bin (B (Z0 == some .eq))),hO 3 (B true),hh 5 (.callV [] (B r18)),hh 7 (.callV [] (B r19))] [] .raw [Qgd Tryz.prog .eql 132 (FK p1) (FK p2) (B (Z0 == some .eq)),(B (Z0 == some .eq))=(B true),Qa4 Tryz.prog 215 [(FK p1)] (B r18),Qa3 (B r18)=true,Qa4 Tryz.prog 215 [(FK p2)] (B r19),Qa3 (B r19)=true,Z1=Z1,Qa3 Z1=true] ⟨Xfi,(Qau c17),(Qpx hr18),rfl,(Qpx hr19),rfl,rfl,rfl,trivial⟩)
 ·obtain rfl:=sj h
  exact gR hP hn [hh 2 (.bin (B (Z0 == some .eq))),hO 3 Z2] [] .raw [Qgd Tryz.prog .eql 132 (FK p1) (FK p2) (B (Z0 == some .eq)),(B (Z0 == some .eq))=Z2,Z2=Z2,Qa3 Z2=true] ⟨Xfi,(Qau c20),rfl,rfl,trivial⟩
noncomputable def Qch (p1:Nat) (p2:Nat) : Option Bool:=
 Option.bind (Qed p1) fun r3 =>
 if r3=true then
  Option.bind (Qed p1) fun r5 =>
  if r5=true then
   Option.bind (Qed p2) fun r7 =>
   some r7
  else
   some false
 else
  Option.bind (Qed p2) fun r10 =>
  if r10=true then
   Option.bind (Qed p1) fun r12 =>
   if r12=true then
    Option.bind (Qed p2) fun r14 =>
    some r14
   else
    some false
  else
   Qff p1 p2
theorem Qjt {p1:Nat} {p2:Nat} {r:Bool} (h:Qch p1 p2=some r) : Qa4 Tryz.prog 182 [(FK p1),(FK p2)] (B r):=by
 refine gM Tryz.func182 27 Xfz fun E hP hn hx=>?_
 unfold Qch at h
 obtain ⟨r3,hr3,h⟩:=bnS h
 let Z0:=B true;let Z1:=B false
 let H1:List Hn:=[hh 2 (.callV [] (B r3))]
 let P2:List Prop:=[Qa4 Tryz.prog 213 [(FK p1)] (B r3),Qa3 (B r3)=true]
 have AP2:Qam P2:=⟨(Qer hr3),rfl,trivial⟩
 rcases itS h with ⟨c4,h⟩ | ⟨c9,h⟩
 ·obtain ⟨r5,hr5,h⟩:=bnS h
  let P3:List Prop:=P2++[(B r3)=Z0,Qa4 Tryz.prog 213 [(FK p1)] (B r5),Qa3 (B r5)=true]
  have AP3:Qam P3:=Qa7 AP2 ⟨(Qau c4),(Qer hr5),rfl,trivial⟩
  rcases itS h with ⟨c6,h⟩ | ⟨c8,h⟩
  ·obtain ⟨r7,hr7,h⟩:=bnS h
   obtain rfl:=sj h
   exact gR hP hn (H1++[hO 3 Z0,hh 9 (.callV [] (B r5)),hO 10 Z0,hh 12 (.callV [] (B r7))]) [] .raw (P3++[(B r5)=Z0,Qa4 Tryz.prog 213 [(FK p2)] (B r7),Qa3 (B r7)=true,(B r7)=(B r7),Qa3 (B r7)=true]) (Qa7 AP3 ⟨(Qau c6),(Qer hr7),rfl,rfl,rfl,trivial⟩)
  ·obtain rfl:=sj h
   exact gR hP hn (H1++[hO 3 Z0,hh 9 (.callV [] (B r5)),hO 10 Z1]) [] .raw (P3++[(B r5)=Z1,Z1=Z1,Qa3 Z1=true]) (Qa7 AP3 ⟨(Qau c8),rfl,rfl,trivial⟩)
 ·obtain ⟨r10,hr10,h⟩:=bnS h
  let H4:List Hn:=H1++[hO 3 Z1,hh 5 (.callV [] (B r10))]
  let P5:List Prop:=P2++[(B r3)=Z1,Qa4 Tryz.prog 213 [(FK p2)] (B r10),Qa3 (B r10)=true]
  have AP5:Qam P5:=Qa7 AP2 ⟨(Qau c9),(Qer hr10),rfl,trivial⟩
  rcases itS h with ⟨c11,h⟩ | ⟨c16,h⟩
  ·obtain ⟨r12,hr12,h⟩:=bnS h
   let Z2:=B r12
   rcases itS h with ⟨c13,h⟩ | ⟨c15,h⟩
   ·obtain ⟨r14,hr14,h⟩:=bnS h
    obtain rfl:=sj h
    exact gR hP hn (H4++[hT 7,hh 9 (.callV [] Z2),hO 10 Z0,hh 12 (.callV [] (B r14))]) [] .raw (P5++[r10=true,Qa4 Tryz.prog 213 [(FK p1)] Z2,Qa3 Z2=true,Z2=Z0,Qa4 Tryz.prog 213 [(FK p2)] (B r14),Qa3 (B r14)=true,(B r14)=(B r14),Qa3 (B r14)=true]) (Qa7 AP5 ⟨c11,(Qer hr12),rfl,(Qau c13),(Qer hr14),rfl,rfl,rfl,trivial⟩)
   ·obtain rfl:=sj h
    exact gR hP hn (H4++[hT 7,hh 9 (.callV [] Z2),hO 10 Z1]) [] .raw (P5++[r10=true,Qa4 Tryz.prog 213 [(FK p1)] Z2,Qa3 Z2=true,Z2=Z1,Z1=Z1,Qa3 Z1=true]) (Qa7 AP5 ⟨c11,(Qer hr12),rfl,(Qau c15),rfl,rfl,trivial⟩)
  ·exact gT hP hn hx (H4++[hF 7]) [] [0,1] [] (P5++[r10=false]) (Qa7 AP5 ⟨c16,trivial⟩) (Qqh hP hn hx p1 p2  _ h)
end Go.Proofs.YtemmdkcpcjidmaaGreat
