/- Functions as plain data, and that the code comes to them; no condition. -/

import Derived.Test.YtemmdkcpcjidmaaGreatGB
set_option linter.unusedVariables false
set_option maxRecDepth 100000
namespace Go.Proofs.YtemmdkcpcjidmaaGreat
open Go Go.T
noncomputable def Xfg:Code:=match Tryz.f224.body with | some c=>c | none=>.skip
noncomputable def Qbx  (p1:Int) (v5:Bool) : Option Str:=
 if v5=true then
  some [97]
 else
  if (p1 == 16)=true then
   some [97,98]
  else
   some []
theorem Qd2 {E:Env} (hP:E.pk=pk0 Tryz.prog) (hn:E.n=17) (hx:FX E []) (p1:Int)  (v5:Bool) (r:Str) (h:Qbx p1 v5=some r) : WAt E Xfg (FQ (Qdj Θ Tryz.f224.results.toList [] [] (SK r) E)) [true,false,true,false,true,true,true] ⟨[(3,(I p1)),(6,(B v5))],[],[JJ]⟩:=by
 unfold Qbx at h
 rcases itS h with ⟨c6,h⟩ | ⟨c7,h⟩
 ·obtain rfl:=sj h
  exact gR hP hn [hT 0] [] .raw [v5=true,(SK [97])=(SK [97]),Qa3 (SK [97])=true] ⟨c6,rfl,rfl,trivial⟩
 ·rcases itS h with ⟨c8,h⟩ | ⟨c9,h⟩
  ·obtain rfl:=sj h
   exact gR hP hn [hF 0,hT 3] [] .raw [v5=false,(p1 == 16)=true,(SK [97,98])=(SK [97,98]),Qa3 (SK [97,98])=true] ⟨c7,c8,rfl,rfl,trivial⟩
  ·obtain rfl:=sj h
   exact gR hP hn [hF 0,hF 3] [] .raw [v5=false,(p1 == 16)=false,(SK [])=(SK []),Qa3 (SK [])=true] ⟨c7,c9,rfl,rfl,trivial⟩
noncomputable def Qhj (p1:Int) : Option Str:=
 if (p1 == 1)=true then
  some [118]
 else
  if (p1 == 2)=true then
   Qbx p1 (p1 == 2)
  else
   if (p1 == 3)=true then
    Qbx p1 (p1 == 3)
   else
    if (p1 == 10)=true then
     Qbx p1 (p1 == 10)
    else
     if (p1 == 11)=true then
      Qbx p1 (p1 == 11)
     else
      if (p1 == 12)=true then
       Qbx p1 (p1 == 12)
      else
       if (p1 == 13)=true then
        Qbx p1 (p1 == 13)
       else
        if (p1 == 14)=true then
         Qbx p1 (p1 == 14)
        else
         Qbx p1 (p1 == 17)
theorem Qy6 {p1:Int} {r:Str} (h:Qhj p1=some r) : Qa4 Tryz.prog 224 [(I p1)] (SK r):=by
 refine gM Tryz.func224 17 Xfg fun E hP hn hx=>?_
 unfold Qhj at h
 let Z0:=p1 == 11;let Z1:=p1 == 12
 rcases itS h with ⟨c2,h⟩ | ⟨c3,h⟩
 ·obtain rfl:=sj h
  exact gR hP hn [hT 4] [] .raw [(p1 == 1)=true,(SK [118])=(SK [118]),Qa3 (SK [118])=true] ⟨c2,rfl,rfl,trivial⟩
 ·let P1:List Prop:=[(p1 == 1)=false]
  have AP1:Qam P1:=⟨c3,trivial⟩
  rcases itS h with ⟨c4,h⟩ | ⟨c10,h⟩
  ·exact gT hP hn hx [hF 4,hT 7] [] [3,6] [] (P1++[(p1 == 2)=true]) (Qa7 AP1 ⟨c4,trivial⟩) (Qd2 hP hn hx p1 (p1 == 2) _ h)
  ·let P2:List Prop:=P1++[(p1 == 2)=false]
   have AP2:Qam P2:=Qa7 AP1 ⟨c10,trivial⟩
   rcases itS h with ⟨c11,h⟩ | ⟨c12,h⟩
   ·exact gT hP hn hx [hF 4,hF 7,hT 10] [] [3,6] [] (P2++[(p1 == 3)=true]) (Qa7 AP2 ⟨c11,trivial⟩) (Qd2 hP hn hx p1 (p1 == 3) _ h)
   ·let H3:List Hn:=[hF 4,hF 7,hF 10]
    rcases itS h with ⟨c13,h⟩ | ⟨c14,h⟩
    ·exact gT hP hn hx (H3++[hT 13]) [] [3,6] [] (P2++[(p1 == 3)=false,(p1 == 10)=true]) (Qa7 AP2 ⟨c12,c13,trivial⟩) (Qd2 hP hn hx p1 (p1 == 10) _ h)
    ·let P4:List Prop:=P2++[(p1 == 3)=false,(p1 == 10)=false]
     have AP4:Qam P4:=Qa7 AP2 ⟨c12,c14,trivial⟩
     rcases itS h with ⟨c15,h⟩ | ⟨c16,h⟩
     ·exact gT hP hn hx (H3++[hF 13,hT 16]) [] [3,6] [] (P4++[Z0=true]) (Qa7 AP4 ⟨c15,trivial⟩) (Qd2 hP hn hx p1 (p1 == 11) _ h)
     ·rcases itS h with ⟨c17,h⟩ | ⟨c18,h⟩
      ·exact gT hP hn hx (H3++[hF 13,hF 16,hT 19]) [] [3,6] [] (P4++[Z0=false,Z1=true]) (Qa7 AP4 ⟨c16,c17,trivial⟩) (Qd2 hP hn hx p1 (p1 == 12) _ h)
      ·rcases itS h with ⟨c19,h⟩ | ⟨c20,h⟩
       ·exact gT hP hn hx (H3++[hF 13,hF 16,hF 19,hT 22]) [] [3,6] [] (P4++[Z0=false,Z1=false,(p1 == 13)=true]) (Qa7 AP4 ⟨c16,c18,c19,trivial⟩) (Qd2 hP hn hx p1 (p1 == 13) _ h)
       ·rcases itS h with ⟨c21,h⟩ | ⟨c22,h⟩
        ·exact gT hP hn hx (H3++[hF 13,hF 16,hF 19,hF 22,hT 25]) [] [3,6] [] (P4++[Z0=false,Z1=false,(p1 == 13)=false,(p1 == 14)=true]) (Qa7 AP4 ⟨c16,c18,c20,c21,trivial⟩) (Qd2 hP hn hx p1 (p1 == 14) _ h)
        ·exact gT hP hn hx (H3++[hF 13,hF 16,hF 19,hF 22,hF 25]) [] [3,6] [] (P4++[Z0=false,Z1=false,(p1 == 13)=false,(p1 == 14)=false]) (Qa7 AP4 ⟨c16,c18,c20,c22,trivial⟩) (Qd2 hP hn hx p1 (p1 == 17) _ h)
noncomputable def Xeh:Code:=match Tryz.f196.body with | some c=>c | none=>.skip
noncomputable def Qgq  (p1:GOp) (r2:Str)  : Option Bool:=
 if (r2 == [118])=true then
  if (r2 == [97])=true then
   if (r2 == [97,98])=true then
    some true
   else
    some (p1.B == 0)
  else
   if (r2 == [97,98])=true then
    if (r2 == [97,98])=true then
     some true
    else
     some (p1.B == 0)
   else
    if (p1.A == 0)=true then
     if (r2 == [97,98])=true then
      some true
     else
      some (p1.B == 0)
    else
     some false
 else
  Option.bind (Qch p1.V 0) fun r33 =>
  if r33=true then
   if (r2 == [97])=true then
    if (r2 == [97,98])=true then
     some true
    else
     some (p1.B == 0)
   else
    if (r2 == [97,98])=true then
     if (r2 == [97,98])=true then
      some true
     else
      some (p1.B == 0)
    else
     if (p1.A == 0)=true then
      if (r2 == [97,98])=true then
       some true
      else
       some (p1.B == 0)
     else
      some false
  else
   some false
theorem Qsj {E:Env} (hP:E.pk=pk0 Tryz.prog) (hn:E.n=52) (hx:FX E []) (p1:GOp) (r2:Str)   (r:Bool) (h:Qgq p1 r2  = some r) : WAt E Xeh (FQ (Qdj Θ Tryz.f196.results.toList [] [] (B r) E)) [true,true,false,true,true] ⟨[(1,(AV.ptr 1 0 0)),(3,(SK r2))],[(1,some ⟨156,4,[((Qbj p1))]⟩)],[1,JJ]⟩:=by
 unfold Qgq at h
 let Z0:=B (r2 == [118]);let Z1:=B true;let Z2:=B (r2 == [97]);let Z3:=B (r2 == [97,98]);let Z4:=B false;let Z5:=B (p1.B == 0);let Z6:=B (p1.A == 0)
 let H1:List Hn:=[hh 1 (.bin Z0)]
 let P2:List Prop:=[Qgd Tryz.prog .eql 9 (SK r2) (SK [118]) Z0]
 have AP2:Qam P2:=⟨Xgx,trivial⟩
 rcases itS h with ⟨c12,h⟩ | ⟨c25,h⟩
 ·let H3:List Hn:=H1++[hO 2 Z1,hh 9 (.bin Z2)]
  let P4:List Prop:=P2++[Z0=Z1,Qgd Tryz.prog .eql 9 (SK r2) (SK [97]) Z2]
  have AP4:Qam P4:=Qa7 AP2 ⟨(Qau c12),Xgx,trivial⟩
  rcases itS h with ⟨c13,h⟩ | ⟨c16,h⟩
  ·let P5:List Prop:=P4++[Z2=Z1,Qgd Tryz.prog .eql 9 (SK r2) (SK [97,98]) Z3]
   have AP5:Qam P5:=Qa7 AP4 ⟨(Qau c13),Xgx,trivial⟩
   rcases itS h with ⟨c14,h⟩ | ⟨c15,h⟩
   ·obtain rfl:=sj h
    exact gR hP hn (H3++[hO 10 Z1,hh 22 (.bin Z3),hO 23 Z1]) [] .raw (P5++[Z3=Z1,Z1=Z1,Qa3 Z1=true]) (Qa7 AP5 ⟨(Qau c14),rfl,rfl,trivial⟩)
   ·obtain rfl:=sj h
    exact gR hP hn (H3++[hO 10 Z1,hh 22 (.bin Z3),hO 23 Z4]) [] .raw (P5++[Z3=Z4,Z5=Z5,Qa3 Z5=true]) (Qa7 AP5 ⟨(Qau c15),rfl,rfl,trivial⟩)
  ·let H6:List Hn:=H3++[hO 10 Z4,hh 12 (.bin Z3)]
   let P7:List Prop:=P4++[Z2=Z4,Qgd Tryz.prog .eql 9 (SK r2) (SK [97,98]) Z3]
   have AP7:Qam P7:=Qa7 AP4 ⟨(Qau c16),Xgx,trivial⟩
   rcases itS h with ⟨c17,h⟩ | ⟨c20,h⟩
   ·let P8:List Prop:=P7++[Z3=Z1,Qgd Tryz.prog .eql 9 (SK r2) (SK [97,98]) Z3]
    have AP8:Qam P8:=Qa7 AP7 ⟨(Qau c17),Xgx,trivial⟩
    rcases itS h with ⟨c18,h⟩ | ⟨c19,h⟩
    ·obtain rfl:=sj h
     exact gR hP hn (H6++[hO 14 Z1,hh 22 (.bin Z3),hO 23 Z1]) [] .raw (P8++[Z3=Z1,Z1=Z1,Qa3 Z1=true]) (Qa7 AP8 ⟨(Qau c18),rfl,rfl,trivial⟩)
    ·obtain rfl:=sj h
     exact gR hP hn (H6++[hO 14 Z1,hh 22 (.bin Z3),hO 23 Z4]) [] .raw (P8++[Z3=Z4,Z5=Z5,Qa3 Z5=true]) (Qa7 AP8 ⟨(Qau c19),rfl,rfl,trivial⟩)
   ·rcases itS h with ⟨c21,h⟩ | ⟨c24,h⟩
    ·let H9:List Hn:=H6++[hO 14 Z4,hO 20 Z1,hh 22 (.bin Z3)]
     let P10:List Prop:=P7++[Z3=Z4,Z6=Z1,Qgd Tryz.prog .eql 9 (SK r2) (SK [97,98]) Z3]
     have AP10:Qam P10:=Qa7 AP7 ⟨(Qau c20),(Qau c21),Xgx,trivial⟩
     rcases itS h with ⟨c22,h⟩ | ⟨c23,h⟩
     ·obtain rfl:=sj h
      exact gR hP hn (H9++[hO 23 Z1]) [] .raw (P10++[Z3=Z1,Z1=Z1,Qa3 Z1=true]) (Qa7 AP10 ⟨(Qau c22),rfl,rfl,trivial⟩)
     ·obtain rfl:=sj h
      exact gR hP hn (H9++[hO 23 Z4]) [] .raw (P10++[Z3=Z4,Z5=Z5,Qa3 Z5=true]) (Qa7 AP10 ⟨(Qau c23),rfl,rfl,trivial⟩)
    ·obtain rfl:=sj h
     exact gR hP hn (H6++[hO 14 Z4,hO 20 Z4]) [] .raw (P7++[Z3=Z4,Z6=Z4,Z4=Z4,Qa3 Z4=true]) (Qa7 AP7 ⟨(Qau c20),(Qau c24),rfl,rfl,trivial⟩)
 ·obtain ⟨r33,hr33,h⟩:=bnS h
  let H11:List Hn:=H1++[hO 2 Z4,hh 5 (.callV [] (B r33))]
  let P12:List Prop:=P2++[Z0=Z4,Qa4 Tryz.prog 182 [(FK p1.V),(FK 0)] (B r33),Qa3 (B r33)=true]
  have AP12:Qam P12:=Qa7 AP2 ⟨(Qau c25),(Qjt hr33),rfl,trivial⟩
  rcases itS h with ⟨c34,h⟩ | ⟨c47,h⟩
  ·let H13:List Hn:=H11++[hO 7 Z1,hh 9 (.bin Z2)]
   let P14:List Prop:=P12++[(B r33)=Z1,Qgd Tryz.prog .eql 9 (SK r2) (SK [97]) Z2]
   have AP14:Qam P14:=Qa7 AP12 ⟨(Qau c34),Xgx,trivial⟩
   rcases itS h with ⟨c35,h⟩ | ⟨c38,h⟩
   ·let P15:List Prop:=P14++[Z2=Z1,Qgd Tryz.prog .eql 9 (SK r2) (SK [97,98]) Z3]
    have AP15:Qam P15:=Qa7 AP14 ⟨(Qau c35),Xgx,trivial⟩
    rcases itS h with ⟨c36,h⟩ | ⟨c37,h⟩
    ·obtain rfl:=sj h
     exact gR hP hn (H13++[hO 10 Z1,hh 22 (.bin Z3),hO 23 Z1]) [] .raw (P15++[Z3=Z1,Z1=Z1,Qa3 Z1=true]) (Qa7 AP15 ⟨(Qau c36),rfl,rfl,trivial⟩)
    ·obtain rfl:=sj h
     exact gR hP hn (H13++[hO 10 Z1,hh 22 (.bin Z3),hO 23 Z4]) [] .raw (P15++[Z3=Z4,Z5=Z5,Qa3 Z5=true]) (Qa7 AP15 ⟨(Qau c37),rfl,rfl,trivial⟩)
   ·let H16:List Hn:=H13++[hO 10 Z4,hh 12 (.bin Z3)]
    let P17:List Prop:=P14++[Z2=Z4,Qgd Tryz.prog .eql 9 (SK r2) (SK [97,98]) Z3]
    have AP17:Qam P17:=Qa7 AP14 ⟨(Qau c38),Xgx,trivial⟩
    rcases itS h with ⟨c39,h⟩ | ⟨c42,h⟩
    ·let P18:List Prop:=P17++[Z3=Z1,Qgd Tryz.prog .eql 9 (SK r2) (SK [97,98]) Z3]
     have AP18:Qam P18:=Qa7 AP17 ⟨(Qau c39),Xgx,trivial⟩
     rcases itS h with ⟨c40,h⟩ | ⟨c41,h⟩
     ·obtain rfl:=sj h
      exact gR hP hn (H16++[hO 14 Z1,hh 22 (.bin Z3),hO 23 Z1]) [] .raw (P18++[Z3=Z1,Z1=Z1,Qa3 Z1=true]) (Qa7 AP18 ⟨(Qau c40),rfl,rfl,trivial⟩)
     ·obtain rfl:=sj h
      exact gR hP hn (H16++[hO 14 Z1,hh 22 (.bin Z3),hO 23 Z4]) [] .raw (P18++[Z3=Z4,Z5=Z5,Qa3 Z5=true]) (Qa7 AP18 ⟨(Qau c41),rfl,rfl,trivial⟩)
    ·rcases itS h with ⟨c43,h⟩ | ⟨c46,h⟩
     ·let H19:List Hn:=H16++[hO 14 Z4,hO 20 Z1,hh 22 (.bin Z3)]
      let P20:List Prop:=P17++[Z3=Z4,Z6=Z1,Qgd Tryz.prog .eql 9 (SK r2) (SK [97,98]) Z3]
      have AP20:Qam P20:=Qa7 AP17 ⟨(Qau c42),(Qau c43),Xgx,trivial⟩
      rcases itS h with ⟨c44,h⟩ | ⟨c45,h⟩
      ·obtain rfl:=sj h
       exact gR hP hn (H19++[hO 23 Z1]) [] .raw (P20++[Z3=Z1,Z1=Z1,Qa3 Z1=true]) (Qa7 AP20 ⟨(Qau c44),rfl,rfl,trivial⟩)
      ·obtain rfl:=sj h
       exact gR hP hn (H19++[hO 23 Z4]) [] .raw (P20++[Z3=Z4,Z5=Z5,Qa3 Z5=true]) (Qa7 AP20 ⟨(Qau c45),rfl,rfl,trivial⟩)
     ·obtain rfl:=sj h
      exact gR hP hn (H16++[hO 14 Z4,hO 20 Z4]) [] .raw (P17++[Z3=Z4,Z6=Z4,Z4=Z4,Qa3 Z4=true]) (Qa7 AP17 ⟨(Qau c42),(Qau c46),rfl,rfl,trivial⟩)
  ·obtain rfl:=sj h
   exact gR hP hn (H11++[hO 7 Z4]) [] .raw (P12++[(B r33)=Z4,Z4=Z4,Qa3 Z4=true]) (Qa7 AP12 ⟨(Qau c47),rfl,rfl,trivial⟩)
noncomputable def Qhm (p1:GOp) : Option Bool:=
 Option.bind (Qhj p1.Code) fun r2 =>
 Option.bind (Qen p1.Code 1 17) fun r3 =>
 if (!r3)=true then
  some false
 else
  Option.bind (Qen p1.A 0 999) fun r6 =>
  if (!r6)=true then
   some false
  else
   Option.bind (Qen p1.B 0 999) fun r9 =>
   if (!r9)=true then
    some false
   else
    Qgq p1 r2
theorem Qwh {p1:GOp} {r:Bool} (h:Qhm p1=some r) : Qa4 Tryz.prog 196 [(AV.agg ((Qbj p1)))] (B r):=by
 refine gM Tryz.func196 52 Xeh fun E hP hn hx=>?_
 unfold Qhm at h
 obtain ⟨r2,hr2,h⟩:=bnS h
 obtain ⟨r3,hr3,h⟩:=bnS h
 let Z0:=B false
 let H1:List Hn:=[hW 0 1001,hh 4 (.callV [] (SK r2)),hh 8 (.callV [] (B r3))]
 let P2:List Prop:=[Qa4 Tryz.prog 224 [(I p1.Code)] (SK r2),Qa3 (SK r2)=true,Qa4 Tryz.prog 77 [(I p1.Code),(I 1),(I 17)] (B r3),Qa3 (B r3)=true]
 have AP2:Qam P2:=⟨(Qy6 hr2),rfl,(Qet hr3),rfl,trivial⟩
 rcases itS h with ⟨c4,h⟩ | ⟨c5,h⟩
 ·obtain rfl:=sj h
  exact gR hP hn (H1++[hO 10 (B true)]) [] .raw (P2++[(B (!r3))=(B true),Z0=Z0,Qa3 Z0=true]) (Qa7 AP2 ⟨(Qau c4),rfl,rfl,trivial⟩)
 ·obtain ⟨r6,hr6,h⟩:=bnS h
  let H3:List Hn:=H1++[hO 10 Z0,hh 13 (.callV [] (B r6))]
  let P4:List Prop:=P2++[(B (!r3))=Z0,Qa4 Tryz.prog 77 [(I p1.A),(I 0),(I 999)] (B r6),Qa3 (B r6)=true]
  have AP4:Qam P4:=Qa7 AP2 ⟨(Qau c5),(Qet hr6),rfl,trivial⟩
  rcases itS h with ⟨c7,h⟩ | ⟨c8,h⟩
  ·obtain rfl:=sj h
   exact gR hP hn (H3++[hO 16 (B true)]) [] .raw (P4++[(B (!r6))=(B true),Z0=Z0,Qa3 Z0=true]) (Qa7 AP4 ⟨(Qau c7),rfl,rfl,trivial⟩)
  ·obtain ⟨r9,hr9,h⟩:=bnS h
   let P5:List Prop:=P4++[(B (!r6))=Z0,Qa4 Tryz.prog 77 [(I p1.B),(I 0),(I 999)] (B r9),Qa3 (B r9)=true]
   have AP5:Qam P5:=Qa7 AP4 ⟨(Qau c8),(Qet hr9),rfl,trivial⟩
   rcases itS h with ⟨c10,h⟩ | ⟨c11,h⟩
   ·obtain rfl:=sj h
    exact gR hP hn (H3++[hO 16 Z0,hh 19 (.callV [] (B r9)),hT 22]) [] .raw (P5++[(!r9)=true,Z0=Z0,Qa3 Z0=true]) (Qa7 AP5 ⟨c10,rfl,rfl,trivial⟩)
   ·exact gT hP hn hx (H3++[hO 16 Z0,hh 19 (.callV [] (B r9)),hF 22]) [(1001,1)] [1,3] [] (P5++[(!r9)=false,Qa8 [(1001,1)] [((Qbj p1))]]) (Qa7 AP5 ⟨c11,(rok rfl),trivial⟩) (Qsj hP hn hx p1 r2  _ h)
noncomputable def Qxs:Code:=match Tryz.f141.body with | some c=>c | none=>.skip
noncomputable def Qhu  (p1:Qaf) (p3:GOp) (v16:Bool) : Option Bool:=
 if v16=true then
  some (decide (p3.A<p1.Locks))
 else
  if (p3.Code == 14)=true then
   some (decide (p3.A<(p1.Routines.length:Int)))
  else
   if (p3.Code == 16)=true then
    if (decide (p3.A<p1.Conds))=true then
     some (decide (p3.B<p1.Locks))
    else
     some false
   else
    if (p3.Code == 17)=true then
     some (decide (p3.A<p1.Conds))
    else
     some true
theorem Qpz {E:Env} (hP:E.pk=pk0 Tryz.prog) (hn:E.n=64) (hx:FX E []) (p1:Qaf) (p3:GOp)  (v16:Bool) (r:Bool) (h:Qhu p1 p3 v16=some r) : WAt E Qxs (FQ (Qdj Θ Tryz.f141.results.toList [] [] (B r) E)) [true,true,false,true,false,true,true,true,true,true] ⟨[(3,(AV.ptr 1 0 0)),(5,(AV.ptr 2 0 0)),(11,(I p3.Code)),(27,(B v16))],[(1,some ⟨39,4,[((r39 p1))]⟩),(2,some ⟨156,4,[((Qbj p3))]⟩)],[1,2,JJ]⟩:=by
 unfold Qhu at h
 let Z0:=B (decide (p3.A<p1.Locks));let Z1:=(p1.Routines.length:Int);let Z2:=B (decide (p3.A<Z1));let Z3:=p3.Code == 16;let Z4:=B (decide (p3.A<p1.Conds));let Z5:=B (decide (p3.B<p1.Locks));let Z6:=B false
 rcases itS h with ⟨c17,h⟩ | ⟨c18,h⟩
 ·obtain rfl:=sj h
  exact gR hP hn [hT 0] [] .raw [v16=true,Z0=Z0,Qa3 Z0=true] ⟨c17,rfl,rfl,trivial⟩
 ·rcases itS h with ⟨c19,h⟩ | ⟨c20,h⟩
  ·obtain rfl:=sj h
   exact gR hP hn [hF 0,hT 3,hO 8 (I Z1)] [] .raw [v16=false,(p3.Code == 14)=true,AV.lit (.int .i64 (((p1.Routines.map Qho).length:Nat) : Int))=(I Z1),Z2=Z2,Qa3 Z2=true] ⟨c18,c19,(Qby Qho),rfl,rfl,trivial⟩
  ·let P1:List Prop:=[v16=false,(p3.Code == 14)=false]
   have AP1:Qam P1:=⟨c18,c20,trivial⟩
   rcases itS h with ⟨c21,h⟩ | ⟨c24,h⟩
   ·rcases itS h with ⟨c22,h⟩ | ⟨c23,h⟩
    ·obtain rfl:=sj h
     exact gR hP hn [hF 0,hF 3,hT 6,hO 12 (B true)] [] .raw (P1++[Z3=true,Z4=(B true),Z5=Z5,Qa3 Z5=true]) (Qa7 AP1 ⟨c21,(Qau c22),rfl,rfl,trivial⟩)
    ·obtain rfl:=sj h
     exact gR hP hn [hF 0,hF 3,hT 6,hO 12 Z6] [] .raw (P1++[Z3=true,Z4=Z6,Z6=Z6,Qa3 Z6=true]) (Qa7 AP1 ⟨c21,(Qau c23),rfl,rfl,trivial⟩)
   ·rcases itS h with ⟨c25,h⟩ | ⟨c26,h⟩
    ·obtain rfl:=sj h
     exact gR hP hn [hF 0,hF 3,hF 6,hT 9] [] .raw (P1++[Z3=false,(p3.Code == 17)=true,Z4=Z4,Qa3 Z4=true]) (Qa7 AP1 ⟨c24,c25,rfl,rfl,trivial⟩)
    ·obtain rfl:=sj h
     exact gR hP hn [hF 0,hF 3,hF 6,hF 9] [] .raw (P1++[Z3=false,(p3.Code == 17)=false,(B true)=(B true),Qa3 (B true)=true]) (Qa7 AP1 ⟨c24,c26,rfl,rfl,trivial⟩)
noncomputable def Qhr  (p1:Qaf) (p2:Int) (p3:GOp) (v12:Bool) : Option Bool:=
 if v12=true then
  some (decide (p3.A≤p2))
 else
  if (p3.Code == 12)=true then
   Qhu p1 p3 (p3.Code == 12)
  else
   Qhu p1 p3 (p3.Code == 13)
theorem Qq3 {E:Env} (hP:E.pk=pk0 Tryz.prog) (hn:E.n=64) (hx:FX E []) (p1:Qaf) (p2:Int) (p3:GOp)  (v12:Bool) (r:Bool) (h:Qhr p1 p2 p3 v12=some r) : WAt E Qxs (FQ (Qdj Θ Tryz.f141.results.toList [] [] (B r) E)) [true,true,false,true,false,true,true,true] ⟨[(1,(I p2)),(3,(AV.ptr 1 0 0)),(5,(AV.ptr 2 0 0)),(11,(I p3.Code)),(20,(B v12))],[(1,some ⟨39,4,[((r39 p1))]⟩),(2,some ⟨156,4,[((Qbj p3))]⟩)],[1,2,JJ]⟩:=by
 unfold Qhr at h
 let Z0:=B (decide (p3.A≤p2));let Z1:=p3.Code == 12
 rcases itS h with ⟨c13,h⟩ | ⟨c14,h⟩
 ·obtain rfl:=sj h
  exact gR hP hn [hT 0] [] .raw [v12=true,Z0=Z0,Qa3 Z0=true] ⟨c13,rfl,rfl,trivial⟩
 ·rcases itS h with ⟨c15,h⟩ | ⟨c27,h⟩
  ·exact gT hP hn hx [hF 0,hT 3] [(1,1),(2,2)] [3,5,11,27] [] [v12=false,Z1=true,Qa8 [(1,1),(2,2)] [((r39 p1))],Qa8 [(1,1),(2,2)] [((Qbj p3))]] ⟨c14,c15,(rok (Qai t39 p1)),(rok rfl),trivial⟩ (Qpz hP hn hx p1 p3 Z1 _ h)
  ·exact gT hP hn hx [hF 0,hF 3] [(1,1),(2,2)] [3,5,11,27] [] [v12=false,Z1=false,Qa8 [(1,1),(2,2)] [((r39 p1))],Qa8 [(1,1),(2,2)] [((Qbj p3))]] ⟨c14,c27,(rok (Qai t39 p1)),(rok rfl),trivial⟩ (Qpz hP hn hx p1 p3 (p3.Code == 13) _ h)
noncomputable def Qhp  (p1:Qaf) (p2:Int) (p3:GOp) (v8:Bool) : Option Bool:=
 if v8=true then
  some (decide (p3.A<p1.Cells))
 else
  if (p3.Code == 10)=true then
   Qhr p1 p2 p3 (p3.Code == 10)
  else
   Qhr p1 p2 p3 (p3.Code == 11)
theorem Qpu {E:Env} (hP:E.pk=pk0 Tryz.prog) (hn:E.n=64) (hx:FX E []) (p1:Qaf) (p2:Int) (p3:GOp)  (v8:Bool) (r:Bool) (h:Qhp p1 p2 p3 v8=some r) : WAt E Qxs (FQ (Qdj Θ Tryz.f141.results.toList [] [] (B r) E)) [true,true,false,true,false,true] ⟨[(1,(I p2)),(3,(AV.ptr 1 0 0)),(5,(AV.ptr 2 0 0)),(11,(I p3.Code)),(12,(B v8))],[(1,some ⟨39,4,[((r39 p1))]⟩),(2,some ⟨156,4,[((Qbj p3))]⟩)],[1,2,JJ]⟩:=by
 unfold Qhp at h
 let Z0:=B (decide (p3.A<p1.Cells));let Z1:=p3.Code == 10
 rcases itS h with ⟨c9,h⟩ | ⟨c10,h⟩
 ·obtain rfl:=sj h
  exact gR hP hn [hT 0] [] .raw [v8=true,Z0=Z0,Qa3 Z0=true] ⟨c9,rfl,rfl,trivial⟩
 ·rcases itS h with ⟨c11,h⟩ | ⟨c28,h⟩
  ·exact gT hP hn hx [hF 0,hT 3] [(1,1),(2,2)] [1,3,5,11,20] [] [v8=false,Z1=true,Qa8 [(1,1),(2,2)] [((r39 p1))],Qa8 [(1,1),(2,2)] [((Qbj p3))]] ⟨c10,c11,(rok (Qai t39 p1)),(rok rfl),trivial⟩ (Qq3 hP hn hx p1 p2 p3 Z1 _ h)
  ·exact gT hP hn hx [hF 0,hF 3] [(1,1),(2,2)] [1,3,5,11,20] [] [v8=false,Z1=false,Qa8 [(1,1),(2,2)] [((r39 p1))],Qa8 [(1,1),(2,2)] [((Qbj p3))]] ⟨c10,c28,(rok (Qai t39 p1)),(rok rfl),trivial⟩ (Qq3 hP hn hx p1 p2 p3 (p3.Code == 11) _ h)
noncomputable def Qjg (p1:Qaf) (p2:Int) (p3:GOp) : Option Bool:=
 Option.bind (Qhm p3) fun r4 =>
 if (!r4)=true then
  some false
 else
  if (p3.Code == 2)=true then
   Qhp p1 p2 p3 (p3.Code == 2)
  else
   Qhp p1 p2 p3 (p3.Code == 3)
theorem Xbp {p1:Qaf} {p2:Int} {p3:GOp} {r:Bool} (h:Qjg p1 p2 p3=some r) : Qa4 Tryz.prog 141 [(AV.agg ((r39 p1))),(I p2),(AV.agg ((Qbj p3)))] (B r):=by
 refine gM Tryz.func141 64 Qxs fun E hP hn hx=>?_
 unfold Qjg at h
 obtain ⟨r4,hr4,h⟩:=bnS h
 let Z0:=p3.Code == 2
 let H1:List Hn:=[hW 0 1001,hW 1 1002,hh 4 (.callV [[]] (B r4))]
 let P2:List Prop:=[Qa4 Tryz.prog 196 [(AV.agg ((Qbj p3)))] (B r4),Qa3 (B r4)=true]
 have AP2:Qam P2:=⟨(Qwh hr4),rfl,trivial⟩
 rcases itS h with ⟨c5,h⟩ | ⟨c6,h⟩
 ·obtain rfl:=sj h
  exact gR hP hn (H1++[hT 6]) [] .raw (P2++[(!r4)=true,(B false)=(B false),Qa3 (B false)=true]) (Qa7 AP2 ⟨c5,rfl,rfl,trivial⟩)
 ·rcases itS h with ⟨c7,h⟩ | ⟨c29,h⟩
  ·exact gT hP hn hx (H1++[hF 6,hT 11]) [(1001,1),(1002,2)] [1,3,5,11,12] [] (P2++[(!r4)=false,Z0=true,Qa8 [(1001,1),(1002,2)] [((r39 p1))],Qa8 [(1001,1),(1002,2)] [((Qbj p3))]]) (Qa7 AP2 ⟨c6,c7,(rok (Qai t39 p1)),(rok rfl),trivial⟩) (Qpu hP hn hx p1 p2 p3 Z0 _ h)
  ·exact gT hP hn hx (H1++[hF 6,hF 11]) [(1001,1),(1002,2)] [1,3,5,11,12] [] (P2++[(!r4)=false,Z0=false,Qa8 [(1001,1),(1002,2)] [((r39 p1))],Qa8 [(1001,1),(1002,2)] [((Qbj p3))]]) (Qa7 AP2 ⟨c6,c29,(rok (Qai t39 p1)),(rok rfl),trivial⟩) (Qpu hP hn hx p1 p2 p3 (p3.Code == 3) _ h)
noncomputable def Xcy:Code:=match Tryz.f62.body with | some c=>c | none=>.skip
noncomputable def Qcj (K0:Qaf→Int→Option Bool) (p1:Qaf) (v15:Int) (x17:(List GOp)) : Nat→Qaf→Int→Option Bool
 | 0,_,_=>none
 | n+1,a18,v19 =>
 if (decide (v19<(x17.length:Int)))=true then
  Option.bind (rd x17 v19) fun x21 =>
  Option.bind (Qjg a18 (x17.length:Int) x21) fun r33 =>
  if (!r33)=true then
   some false
  else
   Qcj K0 p1 v15 x17 n a18 (w64 (v19+1))
 else
  if (decide ((x17.length:Int) > 24))=true then
   some false
  else
   K0 a18 (w64 (v15+1))
theorem Qre {E:Env} (hP:E.pk=pk0 Tryz.prog) (hn:E.n=54) (hx:FX E []) (p1:Qaf) (v15:Int) (x17:(List GOp)) {K0:Qaf→Int→Option Bool} (hK0 : ∀ (a14:Qaf) (v15:Int) (r:Bool),K0 a14 v15=some r→WAt E Xcy (FQ (Qdj Θ Tryz.f62.results.toList [] [] (B r) E)) [true,true,false,true,false] ⟨[(1,(AV.ptr 1 0 0)),(31,(AV.ro 1 (p1.Routines.map Qho))),(32,(I (p1.Routines.length:Int))),(33,(I v15))],[(1,some ⟨39,4,[((r39 a14))]⟩)],[1,JJ]⟩) : ∀ (n:Nat) (a18:Qaf) (v19:Int) (r:Bool),Qcj K0 p1 v15 x17 n a18 v19=some r→WAt E Xcy (FQ (Qdj Θ Tryz.f62.results.toList [] [] (B r) E)) [true,true,false,true,false,false,true,true,false,false,true,false,true,false] ⟨[(1,(AV.ptr 1 0 0)),(4,(AV.ro 4 (x17.map Qbj))),(31,(AV.ro 1 (p1.Routines.map Qho))),(32,(I (p1.Routines.length:Int))),(33,(I v15)),(37,(AV.ro 4 (x17.map Qbj))),(38,(I (x17.length:Int))),(39,(I v19))],[(1,some ⟨39,4,[((r39 a18))]⟩)],[1,JJ]⟩:=by
 intro n
 induction n with
 | zero=>intro a18 v19 r h;simp only [Qcj] at h;cases h
 | succ n ih =>
  intro a18 v19 r h
  simp only [Qcj] at h
  let Z0:=(x17.length:Int);let Z1:=(((x17.map Qbj).length:Nat) : Int);let Z2:=B false
  rcases itS h with ⟨c20,h⟩ | ⟨c36,h⟩
  ·obtain ⟨x21,hx21,h⟩:=bnS h
   obtain ⟨r33,hr33,h⟩:=bnS h
   let H1:List Hn:=[hT 1,hh 2 (.row (Qbj x21)),hW 4 1001,hO 8 (I Z0),hh 10 (.callV [[],[]] (B r33))]
   let P2:List Prop:=[(decide (v19<Z0))=true,(0:Int)≤v19,(x17.map Qbj)[v19.toNat]? = some (Qbj x21),AV.lit (.int .i64 Z1)=(I Z0),Qa4 Tryz.prog 141 [(AV.agg ((r39 a18))),(I Z0),(AV.agg ((Qbj x21)))] (B r33),Qa3 (B r33)=true]
   have AP2:Qam P2:=⟨c20,(rd0 hx21),(rdM Qbj hx21),(Qby Qbj),(Xbp hr33),rfl,trivial⟩
   rcases itS h with ⟨c34,h⟩ | ⟨c35,h⟩
   ·obtain rfl:=sj h
    exact gR hP hn (H1++[hT 12]) [] .raw (P2++[(!r33)=true,Z2=Z2,Qa3 Z2=true]) (Qa7 AP2 ⟨c34,rfl,rfl,trivial⟩)
   ·exact gT hP hn hx (H1++[hF 12]) [(1,1)] [1,4,31,32,33,37,38,39] [] (P2++[(!r33)=false,Qa8 [(1,1)] [((r39 a18))]]) (Qa7 AP2 ⟨c35,(rok (Qai t39 a18)),trivial⟩) (ih a18 (w64 (v19+1)) _ h)
  ·let P3:List Prop:=[(decide (v19<Z0))=false,AV.lit (.int .i64 Z1)=(I Z0)]
   have AP3:Qam P3:=⟨c36,(Qby Qbj),trivial⟩
   rcases itS h with ⟨c37,h⟩ | ⟨c38,h⟩
   ·obtain rfl:=sj h
    exact gR hP hn [hF 1,hO 3 (I Z0),hT 5] [] .raw (P3++[(decide (Z0 > 24))=true,Z2=Z2,Qa3 Z2=true]) (Qa7 AP3 ⟨c37,rfl,rfl,trivial⟩)
   ·exact gT hP hn hx [hF 1,hO 3 (I Z0),hF 5] [(1,1)] [1,31,32,33] [] (P3++[(decide (Z0 > 24))=false,Qa8 [(1,1)] [((r39 a18))]]) (Qa7 AP3 ⟨c38,(rok (Qai t39 a18)),trivial⟩) (hK0 a18 (w64 (v15+1)) _ h)
noncomputable def Qdp  (p1:Qaf) : Nat→Qaf→Int→Option Bool
 | 0,_,_=>none
 | n+1,a14,v15 =>
 if (decide (v15<(p1.Routines.length:Int)))=true then
  Option.bind (rd p1.Routines v15) fun x17 =>
  Qcj (Qdp p1 n) p1 v15 x17 FU a14 0
 else
  some true
theorem Qqt {E:Env} (hP:E.pk=pk0 Tryz.prog) (hn:E.n=54) (hx:FX E []) (p1:Qaf)  : ∀ (n:Nat) (a14:Qaf) (v15:Int) (r:Bool),Qdp p1 n a14 v15=some r→WAt E Xcy (FQ (Qdj Θ Tryz.f62.results.toList [] [] (B r) E)) [true,true,false,true,false] ⟨[(1,(AV.ptr 1 0 0)),(31,(AV.ro 1 (p1.Routines.map Qho))),(32,(I (p1.Routines.length:Int))),(33,(I v15))],[(1,some ⟨39,4,[((r39 a14))]⟩)],[1,JJ]⟩:=by
 intro n
 induction n with
 | zero=>intro a14 v15 r h;simp only [Qdp] at h;cases h
 | succ n ih =>
  intro a14 v15 r h
  simp only [Qdp] at h
  let Z1:=(decide (v15<(p1.Routines.length:Int)))
  rcases itS h with ⟨c16,h⟩ | ⟨c39,h⟩
  ·obtain ⟨x17,hx17,h⟩:=bnS h
   exact (let Z0:=(I (x17.length:Int));gT hP hn hx [hT 1,hh 2 (.row (Qho x17)),hO 6 Z0] [(1,1)] [1,4,31,32,33,37,38,39] [] [Z1=true,(0:Int)≤v15,(p1.Routines.map Qho)[v15.toNat]? = some (Qho x17),AV.lit (.int .i64 (((x17.map Qbj).length:Nat) : Int))=Z0,Qa8 [(1,1)] [((r39 a14))]] ⟨c16,(rd0 hx17),(rdM Qho hx17),(Qby Qbj),(rok (Qai t39 a14)),trivial⟩ (Qre hP hn hx p1 v15 x17 ih FU a14 0 _ h))
  ·obtain rfl:=sj h
   exact gR hP hn [hF 1] [] .raw [Z1=false,(B true)=(B true),Qa3 (B true)=true] ⟨c39,rfl,rfl,trivial⟩
noncomputable def Qi6 (p1:Qaf) : Option Bool:=
 Option.bind (Qen p1.Cells 0 4) fun r2 =>
 if (!r2)=true then
  some false
 else
  Option.bind (Qen p1.Locks 0 4) fun r5 =>
  if (!r5)=true then
   some false
  else
   Option.bind (Qen p1.Conds 0 2) fun r8 =>
   if (!r8)=true then
    some false
   else
    Option.bind (Qen (p1.Routines.length:Int) 1 4) fun r11 =>
    if (!r11)=true then
     some false
    else
     Qdp p1 FU p1 0
theorem Quc {p1:Qaf} {r:Bool} (h:Qi6 p1=some r) : Qa4 Tryz.prog 62 [(AV.agg ((r39 p1)))] (B r):=by
 refine gM Tryz.func62 54 Xcy fun E hP hn hx=>?_
 unfold Qi6 at h
 obtain ⟨r2,hr2,h⟩:=bnS h
 let Z0:=B true;let Z1:=B false;let Z2:=(I (p1.Routines.length:Int));let Z3:=(((p1.Routines.map Qho).length:Nat) : Int)
 let H1:List Hn:=[hW 0 1001,hh 4 (.callV [] (B r2))]
 let P2:List Prop:=[Qa4 Tryz.prog 77 [(I p1.Cells),(I 0),(I 4)] (B r2),Qa3 (B r2)=true]
 have AP2:Qam P2:=⟨(Qet hr2),rfl,trivial⟩
 rcases itS h with ⟨c3,h⟩ | ⟨c4,h⟩
 ·obtain rfl:=sj h
  exact gR hP hn (H1++[hO 6 Z0]) [] .raw (P2++[(B (!r2))=Z0,Z1=Z1,Qa3 Z1=true]) (Qa7 AP2 ⟨(Qau c3),rfl,rfl,trivial⟩)
 ·obtain ⟨r5,hr5,h⟩:=bnS h
  let H3:List Hn:=H1++[hO 6 Z1,hh 9 (.callV [] (B r5))]
  let P4:List Prop:=P2++[(B (!r2))=Z1,Qa4 Tryz.prog 77 [(I p1.Locks),(I 0),(I 4)] (B r5),Qa3 (B r5)=true]
  have AP4:Qam P4:=Qa7 AP2 ⟨(Qau c4),(Qet hr5),rfl,trivial⟩
  rcases itS h with ⟨c6,h⟩ | ⟨c7,h⟩
  ·obtain rfl:=sj h
   exact gR hP hn (H3++[hO 12 Z0]) [] .raw (P4++[(B (!r5))=Z0,Z1=Z1,Qa3 Z1=true]) (Qa7 AP4 ⟨(Qau c6),rfl,rfl,trivial⟩)
  ·obtain ⟨r8,hr8,h⟩:=bnS h
   let H5:List Hn:=H3++[hO 12 Z1,hh 15 (.callV [] (B r8))]
   let P6:List Prop:=P4++[(B (!r5))=Z1,Qa4 Tryz.prog 77 [(I p1.Conds),(I 0),(I 2)] (B r8),Qa3 (B r8)=true]
   have AP6:Qam P6:=Qa7 AP4 ⟨(Qau c7),(Qet hr8),rfl,trivial⟩
   rcases itS h with ⟨c9,h⟩ | ⟨c10,h⟩
   ·obtain rfl:=sj h
    exact gR hP hn (H5++[hO 18 Z0]) [] .raw (P6++[(B (!r8))=Z0,Z1=Z1,Qa3 Z1=true]) (Qa7 AP6 ⟨(Qau c9),rfl,rfl,trivial⟩)
   ·obtain ⟨r11,hr11,h⟩:=bnS h
    let H7:List Hn:=H5++[hO 18 Z1,hO 21 Z2,hh 22 (.callV [] (B r11))]
    let P8:List Prop:=P6++[(B (!r8))=Z1,AV.lit (.int .i64 Z3)=Z2,Qa4 Tryz.prog 77 [Z2,(I 1),(I 4)] (B r11),Qa3 (B r11)=true]
    have AP8:Qam P8:=Qa7 AP6 ⟨(Qau c10),(Qby Qho),(Qet hr11),rfl,trivial⟩
    rcases itS h with ⟨c12,h⟩ | ⟨c13,h⟩
    ·obtain rfl:=sj h
     exact gR hP hn (H7++[hT 25]) [] .raw (P8++[(!r11)=true,Z1=Z1,Qa3 Z1=true]) (Qa7 AP8 ⟨c12,rfl,rfl,trivial⟩)
    ·exact gT hP hn hx (H7++[hF 25,hO 28 Z2]) [(1001,1)] [1,31,32,33] [] (P8++[(!r11)=false,AV.lit (.int .i64 Z3)=Z2,Qa8 [(1001,1)] [((r39 p1))]]) (Qa7 AP8 ⟨c13,(Qby Qho),(rok (Qai t39 p1)),trivial⟩) (Qqt hP hn hx p1 FU p1 0 _ h)
noncomputable def Xjz:Code:=match Tryz.f92.body with | some c=>c | none=>.skip
noncomputable def Qfl  (p1:(List Int)) (p2:Int) : Nat→Int→Option Bool
 | 0,_=>none
 | n+1,v3 =>
 if (decide (v3<(p1.length:Int)))=true then
  Option.bind (rd p1 v3) fun x5 =>
  if (x5 == p2)=true then
   some true
  else
   Qfl p1 p2 n (w64 (v3+1))
 else
  some false
theorem Qus {E:Env} (hP:E.pk=pk0 Tryz.prog) (hn:E.n=17) (hx:FX E []) (p1:(List Int)) (p2:Int)  : ∀ (n:Nat) (v3:Int) (r:Bool),Qfl p1 p2 n v3=some r→WAt E Xjz (FQ (Qdj Θ Tryz.f92.results.toList [] [] (B r) E)) [true,false,true,false] ⟨[(1,(I p2)),(7,(AV.ro 1 (p1.map o3))),(8,(I (p1.length:Int))),(9,(I v3))],[],[JJ]⟩:=by
 intro n
 induction n with
 | zero=>intro v3 r h;simp only [Qfl] at h;cases h
 | succ n ih =>
  intro v3 r h
  simp only [Qfl] at h
  let Z0:=(decide (v3<(p1.length:Int)))
  rcases itS h with ⟨c4,h⟩ | ⟨c8,h⟩
  ·obtain ⟨x5,hx5,h⟩:=bnS h
   let P1:List Prop:=[Z0=true,(0:Int)≤v3,(p1.map o3)[v3.toNat]? = some (o3 x5)]
   have AP1:Qam P1:=⟨c4,(rd0 hx5),(rdM o3 hx5),trivial⟩
   rcases itS h with ⟨c6,h⟩ | ⟨c7,h⟩
   ·obtain rfl:=sj h
    exact gR hP hn [hT 1,hh 2 (.row (o3 x5)),hT 8] [] .raw (P1++[(x5 == p2)=true,(B true)=(B true),Qa3 (B true)=true]) (Qa7 AP1 ⟨c6,rfl,rfl,trivial⟩)
   ·exact gT hP hn hx [hT 1,hh 2 (.row (o3 x5)),hF 8] [] [1,7,8,9] [] (P1++[(x5 == p2)=false]) (Qa7 AP1 ⟨c7,trivial⟩) (ih (w64 (v3+1)) _ h)
  ·obtain rfl:=sj h
   exact gR hP hn [hF 1] [] .raw [Z0=false,(B false)=(B false),Qa3 (B false)=true] ⟨c8,rfl,rfl,trivial⟩
noncomputable def Qm0 (p1:(List Int)) (p2:Int) : Option Bool:=
 Qfl p1 p2 FU 0
theorem Qz3 {p1:(List Int)} {p2:Int} {r:Bool} (h:Qm0 p1 p2=some r) : Qa4 Tryz.prog 92 [(AV.ro 1 (p1.map o3)),(I p2)] (B r):=by
 refine gM Tryz.func92 17 Xjz fun E hP hn hx=>?_
 unfold Qm0 at h
 exact (let Z0:=(I (p1.length:Int));gT hP hn hx [hO 2 Z0] [] [1,7,8,9] [] [AV.lit (.int .i64 (((p1.map o3).length:Nat) : Int))=Z0] ⟨(Qby o3),trivial⟩ (Qus hP hn hx p1 p2 FU 0 _ h))
noncomputable def Xn8:Code:=match Tryz.f227.body with | some c=>c | none=>.skip
noncomputable def Qja (p1:Nat) (p2:Int) : Option (Int×Bool):=
 Option.bind (Qen p2 1 1000) fun r3 =>
 if (!r3)=true then
  some (0,false)
 else
  if ((Qci p1 0) == some .lt)=true then
   some (0,false)
  else
   if (!((Qci p1 (fOf p2)) == some .lt))=true then
    some (0,false)
   else
    Option.bind (fTo p1) fun x10 =>
    if ((Qci (fOf x10) p1) != some .eq)=true then
     some (0,false)
    else
     Option.bind (fTo p1) fun x13 =>
     some (x13,true)
theorem Qwk {p1:Nat} {p2:Int} {r:(Int×Bool)} (h:Qja p1 p2=some r) : Qa4 Tryz.prog 227 [(FK p1),(I p2)] (AV.tup [(I r.1),(B r.2)]):=by
 refine gM Tryz.func227 29 Xn8 fun E hP hn hx=>?_
 unfold Qja at h
 obtain ⟨r3,hr3,h⟩:=bnS h
 let Z0:=B true;let Z1:=B false;let Z2:=Qci p1 0;let Z3:=Qci p1 (fOf p2)
 let H1:List Hn:=[hh 3 (.callV [] (B r3))]
 let P2:List Prop:=[Qa4 Tryz.prog 77 [(I p2),(I 1),(I 1000)] (B r3),Qa3 (B r3)=true]
 have AP2:Qam P2:=⟨(Qet hr3),rfl,trivial⟩
 rcases itS h with ⟨c4,h⟩ | ⟨c5,h⟩
 ·obtain rfl:=sj h
  exact gR hP hn (H1++[hO 5 Z0]) [] (.agg [.raw,.raw]) (P2++[(B (!r3))=Z0,(I 0)=(I 0),Qa3 (I 0)=true,Z1=Z1,Qa3 Z1=true]) (Qa7 AP2 ⟨(Qau c4),rfl,rfl,rfl,rfl,trivial⟩)
 ·let H3:List Hn:=H1++[hO 5 Z1,hh 7 (.bin (B (Z2 == some .lt)))]
  let P4:List Prop:=P2++[(B (!r3))=Z1,Qgd Tryz.prog .lss 132 (FK p1) (FK 0) (B (Z2 == some .lt))]
  have AP4:Qam P4:=Qa7 AP2 ⟨(Qau c5),Xk8,trivial⟩
  rcases itS h with ⟨c6,h⟩ | ⟨c7,h⟩
  ·obtain rfl:=sj h
   exact gR hP hn (H3++[hO 9 Z0]) [] (.agg [.raw,.raw]) (P4++[(B (Z2 == some .lt))=Z0,(I 0)=(I 0),Qa3 (I 0)=true,Z1=Z1,Qa3 Z1=true]) (Qa7 AP4 ⟨(Qau c6),rfl,rfl,rfl,rfl,trivial⟩)
  ·let H5:List Hn:=H3++[hO 9 Z1,hh 12 (.cnv (FK (fOf p2))),hh 13 (.bin (B (Z3 == some .lt)))]
   let P6:List Prop:=P4++[(B (Z2 == some .lt))=Z1,Qyz Tryz.prog 3 132 (I p2) (FK (fOf p2)),Qgd Tryz.prog .lss 132 (FK p1) (FK (fOf p2)) (B (Z3 == some .lt))]
   have AP6:Qam P6:=Qa7 AP4 ⟨(Qau c7),(cIF (P:=Tryz.prog) ty3 Qqo),Xk8,trivial⟩
   rcases itS h with ⟨c8,h⟩ | ⟨c9,h⟩
   ·obtain rfl:=sj h
    exact gR hP hn (H5++[hO 16 Z0]) [] (.agg [.raw,.raw]) (P6++[(B (!(Z3 == some .lt)))=Z0,(I 0)=(I 0),Qa3 (I 0)=true,Z1=Z1,Qa3 Z1=true]) (Qa7 AP6 ⟨(Qau c8),rfl,rfl,rfl,rfl,trivial⟩)
   ·obtain ⟨x10,hx10,h⟩:=bnS h
    let Z4:=Qci (fOf x10) p1
    let H7:List Hn:=H5++[hO 16 Z1,hh 18 (.cnv (I x10)),hh 19 (.cnv (FK (fOf x10))),hh 21 (.bin (B (Z4 != some .eq)))]
    let P8:List Prop:=P6++[(B (!(Z3 == some .lt)))=Z1,Qyz Tryz.prog 132 3 (FK p1) (I x10),Qyz Tryz.prog 3 132 (I x10) (FK (fOf x10)),Qgd Tryz.prog .neq 132 (FK (fOf x10)) (FK p1) (B (Z4 != some .eq))]
    have AP8:Qam P8:=Qa7 AP6 ⟨(Qau c9),(cFI (P:=Tryz.prog) Qqo ty3 hx10),(cIF (P:=Tryz.prog) ty3 Qqo),Xio,trivial⟩
    rcases itS h with ⟨c11,h⟩ | ⟨c12,h⟩
    ·obtain rfl:=sj h
     exact gR hP hn (H7++[hT 23]) [] (.agg [.raw,.raw]) (P8++[(Z4 != some .eq)=true,(I 0)=(I 0),Qa3 (I 0)=true,Z1=Z1,Qa3 Z1=true]) (Qa7 AP8 ⟨c11,rfl,rfl,rfl,rfl,trivial⟩)
    ·obtain ⟨x13,hx13,h⟩:=bnS h
     obtain rfl:=sj h
     exact gR hP hn (H7++[hF 23,hh 25 (.cnv (I x13))]) [] (.agg [.raw,.raw]) (P8++[(Z4 != some .eq)=false,Qyz Tryz.prog 132 3 (FK p1) (I x13),(I x13)=(I x13),Qa3 (I x13)=true,Z0=Z0,Qa3 Z0=true]) (Qa7 AP8 ⟨c12,(cFI (P:=Tryz.prog) Qqo ty3 hx13),rfl,rfl,rfl,rfl,trivial⟩)
noncomputable def Xlh:Code:=match Tryz.f211.body with | some c=>c | none=>.skip
noncomputable def Qdg (p1:Qa1) (p2:Qa0) : Option Int:=
 if ((p2.Stack.length:Int) == 0)=true then
  some (-1)
 else
  Option.bind (rd p2.Stack (w64 ((p2.Stack.length:Int) - 1))) fun x5 =>
  Option.bind (Qja x5 (p1.Threads.length:Int)) fun r6 =>
  if (!r6.2)=true then
   some (-1)
  else
   some r6.1
theorem Qiy {p1:Qa1} {p2:Qa0} {r:Int} (h:Qdg p1 p2=some r) : Qa4 Tryz.prog 211 [(AV.agg ((r44 p1))),(AV.agg ((r70 p2)))] (I r):=by
 refine gM Tryz.func211 29 Xlh fun E hP hn hx=>?_
 unfold Qdg at h
 let Z0:=(p2.Stack.length:Int);let Z1:=(((p2.Stack.map Qae).length:Nat) : Int);let Z2:=I (-1);let Z3:=(I (p1.Threads.length:Int))
 let H1:List Hn:=[hW 0 1001,hW 1 1002,hO 5 (I Z0)]
 let P2:List Prop:=[AV.lit (.int .i64 Z1)=(I Z0)]
 have AP2:Qam P2:=⟨(Qby Qae),trivial⟩
 rcases itS h with ⟨c3,h⟩ | ⟨c4,h⟩
 ·obtain rfl:=sj h
  exact gR hP hn (H1++[hT 7]) [] .raw (P2++[(Z0 == 0)=true,Z2=Z2,Qa3 Z2=true]) (Qa7 AP2 ⟨c3,rfl,rfl,trivial⟩)
 ·obtain ⟨x5,hx5,h⟩:=bnS h
  obtain ⟨r6,hr6,h⟩:=bnS h
  let Z4:=AV.tup [(I r6.1),(B r6.2)]
  let H3:List Hn:=H1++[hF 7,hO 12 (I Z0),hh 14 (.row (Qae x5)),hO 18 Z3,hh 19 (.callV [] Z4)]
  let P4:List Prop:=P2++[(Z0 == 0)=false,AV.lit (.int .i64 Z1)=(I Z0),(0:Int)≤(w64 (Z0 - 1)),(p2.Stack.map Qae)[(w64 (Z0 - 1)).toNat]? = some (Qae x5),AV.lit (.int .i64 (((p1.Threads.map r70).length:Nat) : Int))=Z3,Qa4 Tryz.prog 227 [(FK x5),Z3] Z4,Qa3 Z4=true]
  have AP4:Qam P4:=Qa7 AP2 ⟨c4,(Qby Qae),(rd0 hx5),(rdM Qae hx5),(Qby r70),(Qwk hr6),rfl,trivial⟩
  rcases itS h with ⟨c7,h⟩ | ⟨c8,h⟩
  ·obtain rfl:=sj h
   exact gR hP hn (H3++[hT 27]) [] .raw (P4++[(!r6.2)=true,Z2=Z2,Qa3 Z2=true]) (Qa7 AP4 ⟨c7,rfl,rfl,trivial⟩)
  ·obtain rfl:=sj h
   exact gR hP hn (H3++[hF 27]) [] .raw (P4++[(!r6.2)=false,(I r6.1)=(I r6.1),Qa3 (I r6.1)=true]) (Qa7 AP4 ⟨c8,rfl,rfl,trivial⟩)
noncomputable def Xli:Code:=match Tryz.f168.body with | some c=>c | none=>.skip
noncomputable def Qez (p1:Qaf) (p2:Qa0) : Option (GOp×Bool):=
 Option.bind (rd p1.Routines p2.Routine) fun x3 =>
 if (p2.Pc == (x3.length:Int))=true then
  some ((GOp.mk 0 0 0 0),false)
 else
  Option.bind (rd x3 p2.Pc) fun x6 =>
  some (x6,true)
theorem Qqu {p1:Qaf} {p2:Qa0} {r:(GOp×Bool)} (h:Qez p1 p2=some r) : Qa4 Tryz.prog 168 [(AV.agg ((r39 p1))),(AV.agg ((r70 p2)))] (AV.tup [(AV.agg (Qbj r.1)),(B r.2)]):=by
 refine gM Tryz.func168 24 Xli fun E hP hn hx=>?_
 unfold Qez at h
 obtain ⟨x3,hx3,h⟩:=bnS h
 let Z0:=(I (x3.length:Int));let Z1:=(p2.Pc == (x3.length:Int));let Z2:=AV.agg [(I 0),(I 0),(I 0),(FK 0)]
 let H1:List Hn:=[hW 0 1001,hW 1 1002,hW 2 1003,hh 8 (.row (Qho x3)),hO 14 Z0]
 let P2:List Prop:=[(0:Int)≤p2.Routine,(p1.Routines.map Qho)[p2.Routine.toNat]? = some (Qho x3),AV.lit (.int .i64 (((x3.map Qbj).length:Nat) : Int))=Z0]
 have AP2:Qam P2:=⟨(rd0 hx3),(rdM Qho hx3),(Qby Qbj),trivial⟩
 rcases itS h with ⟨c4,h⟩ | ⟨c5,h⟩
 ·obtain rfl:=sj h
  exact gR hP hn (H1++[hT 16]) [] (.agg [.raw,.raw]) (P2++[Z1=true,Z2=Z2,Qa3 Z2=true,(B false)=(B false),Qa3 (B false)=true]) (Qa7 AP2 ⟨c4,rfl,rfl,rfl,rfl,trivial⟩)
 ·obtain ⟨x6,hx6,h⟩:=bnS h
  obtain rfl:=sj h
  exact (let Z3:=AV.agg ((Qbj x6));gR hP hn (H1++[hF 16,hh 20 (.row (Qbj x6))]) [] (.agg [.raw,.raw]) (P2++[Z1=false,(0:Int)≤p2.Pc,(x3.map Qbj)[p2.Pc.toNat]? = some (Qbj x6),Z3=Z3,Qa3 Z3=true,(B true)=(B true),Qa3 (B true)=true]) (Qa7 AP2 ⟨c5,(rd0 hx6),(rdM Qbj hx6),rfl,rfl,rfl,rfl,trivial⟩))
noncomputable def Xgm:Code:=match Tryz.f167.body with | some c=>c | none=>.skip
noncomputable def Qhg  (p2:Qa1) (p3:Qa0) (r7:(GOp×Bool))  : Option Int:=
 if (r7.1.Code == 12)=true then
  Option.bind (rd p2.Owner r7.1.A) fun x13 =>
  some x13
 else
  if (r7.1.Code == 15)=true then
   Option.bind (Qdg p2 p3) fun r16 =>
   if (decide (r16 ≥ 0))=true then
    Option.bind (rd p2.Threads r16) fun x18 =>
    if (x18.State != 2)=true then
     some r16
    else
     some (-1)
   else
    some (-1)
  else
   some (-1)
theorem Qra {E:Env} (hP:E.pk=pk0 Tryz.prog) (hn:E.n=59) (hx:FX E []) (p2:Qa1) (p3:Qa0) (r7:(GOp×Bool))   (r:Int) (h:Qhg p2 p3 r7  = some r) : WAt E Xgm (FQ (Qdj Θ Tryz.f167.results.toList [] [] (I r) E)) [true,true,true,false,true,true] ⟨[(4,(AV.ptr 1 0 0)),(5,(AV.ptr 2 0 0)),(7,(AV.ptr 3 0 0))],[(1,some ⟨44,4,[((r44 p2))]⟩),(2,some ⟨70,6,[((r70 p3))]⟩),(3,some ⟨156,4,[((Qbj r7.1))]⟩)],[1,2,3,JJ]⟩:=by
 unfold Qhg at h
 let Z0:=r7.1.Code == 12;let Z2:=I (-1)
 rcases itS h with ⟨c12,h⟩ | ⟨c14,h⟩
 ·obtain ⟨x13,hx13,h⟩:=bnS h
  obtain rfl:=sj h
  exact gR hP hn [hT 4,hh 9 (.row (o3 x13))] [] .raw [Z0=true,(0:Int)≤r7.1.A,(p2.Owner.map o3)[r7.1.A.toNat]? = some (o3 x13),(I x13)=(I x13),Qa3 (I x13)=true] ⟨c12,(rd0 hx13),(rdM o3 hx13),rfl,rfl,trivial⟩
 ·rcases itS h with ⟨c15,h⟩ | ⟨c22,h⟩
  ·obtain ⟨r16,hr16,h⟩:=bnS h
   let Z1:=B (decide (r16 ≥ 0))
   let H1:List Hn:=[hF 4,hT 7,hh 10 (.callV [[],[]] (I r16))]
   let P2:List Prop:=[Z0=false,(r7.1.Code == 15)=true,Qa4 Tryz.prog 211 [(AV.agg ((r44 p2))),(AV.agg ((r70 p3)))] (I r16),Qa3 (I r16)=true]
   have AP2:Qam P2:=⟨c14,c15,(Qiy hr16),rfl,trivial⟩
   rcases itS h with ⟨c17,h⟩ | ⟨c21,h⟩
   ·obtain ⟨x18,hx18,h⟩:=bnS h
    let P3:List Prop:=P2++[Z1=(B true),(0:Int)≤r16,(p2.Threads.map r70)[r16.toNat]? = some (r70 x18)]
    have AP3:Qam P3:=Qa7 AP2 ⟨(Qau c17),(rd0 hx18),(rdM r70 hx18),trivial⟩
    rcases itS h with ⟨c19,h⟩ | ⟨c20,h⟩
    ·obtain rfl:=sj h
     exact gR hP hn (H1++[hO 14 (B true),hh 18 (.row (r70 x18)),hT 23]) [] .raw (P3++[(x18.State != 2)=true,(I r16)=(I r16),Qa3 (I r16)=true]) (Qa7 AP3 ⟨c19,rfl,rfl,trivial⟩)
    ·obtain rfl:=sj h
     exact gR hP hn (H1++[hO 14 (B true),hh 18 (.row (r70 x18)),hF 23]) [] .raw (P3++[(x18.State != 2)=false,Z2=Z2,Qa3 Z2=true]) (Qa7 AP3 ⟨c20,rfl,rfl,trivial⟩)
   ·obtain rfl:=sj h
    exact gR hP hn (H1++[hO 14 (B false)]) [] .raw (P2++[Z1=(B false),Z2=Z2,Qa3 Z2=true]) (Qa7 AP2 ⟨(Qau c21),rfl,rfl,trivial⟩)
  ·obtain rfl:=sj h
   exact gR hP hn [hF 4,hF 7] [] .raw [Z0=false,(r7.1.Code == 15)=false,Z2=Z2,Qa3 Z2=true] ⟨c14,c22,rfl,rfl,trivial⟩
noncomputable def Qdt (p1:Qaf) (p2:Qa1) (p3:Qa0) : Option Int:=
 if (p3.State == 4)=true then
  Option.bind (rd p2.Owner p3.Lock) fun x5 =>
  some x5
 else
  Option.bind (Qez p1 p3) fun r7 =>
  if (p3.State != 1)=true then
   some (-1)
  else
   if (!r7.2)=true then
    some (-1)
   else
    Qhg p2 p3 r7
theorem Qot {p1:Qaf} {p2:Qa1} {p3:Qa0} {r:Int} (h:Qdt p1 p2 p3=some r) : Qa4 Tryz.prog 167 [(AV.agg ((r39 p1))),(AV.agg ((r44 p2))),(AV.agg ((r70 p3)))] (I r):=by
 refine gM Tryz.func167 59 Xgm fun E hP hn hx=>?_
 unfold Qdt at h
 let Z1:=B (p3.State != 1);let Z2:=I (-1)
 let H1:List Hn:=[hW 0 1001,hW 1 1002,hW 2 1003]
 rcases itS h with ⟨c4,h⟩ | ⟨c6,h⟩
 ·obtain ⟨x5,hx5,h⟩:=bnS h
  obtain rfl:=sj h
  exact gR hP hn (H1++[hT 7,hh 12 (.row (o3 x5))]) [] .raw [(p3.State == 4)=true,(0:Int)≤p3.Lock,(p2.Owner.map o3)[p3.Lock.toNat]? = some (o3 x5),(I x5)=(I x5),Qa3 (I x5)=true] ⟨c4,(rd0 hx5),(rdM o3 hx5),rfl,rfl,trivial⟩
 ·obtain ⟨r7,hr7,h⟩:=bnS h
  let Z0:=AV.tup [(AV.agg (Qbj r7.1)),(B r7.2)]
  let H2:List Hn:=H1++[hF 7,hh 10 (.callV [[],[]] Z0),hW 14 1004]
  let P3:List Prop:=[(p3.State == 4)=false,Qa4 Tryz.prog 168 [(AV.agg ((r39 p1))),(AV.agg ((r70 p3)))] Z0,Qa3 Z0=true]
  have AP3:Qam P3:=⟨c6,(Qqu hr7),rfl,trivial⟩
  rcases itS h with ⟨c8,h⟩ | ⟨c9,h⟩
  ·obtain rfl:=sj h
   exact gR hP hn (H2++[hO 20 (B true)]) [] .raw (P3++[Z1=(B true),Z2=Z2,Qa3 Z2=true]) (Qa7 AP3 ⟨(Qau c8),rfl,rfl,trivial⟩)
  ·rcases itS h with ⟨c10,h⟩ | ⟨c11,h⟩
   ·obtain rfl:=sj h
    exact gR hP hn (H2++[hO 20 (B false),hT 24]) [] .raw (P3++[Z1=(B false),(!r7.2)=true,Z2=Z2,Qa3 Z2=true]) (Qa7 AP3 ⟨(Qau c9),c10,rfl,rfl,trivial⟩)
   ·exact gT hP hn hx (H2++[hO 20 (B false),hF 24]) [(1002,1),(1003,2),(1004,3)] [4,5,7] [] (P3++[Z1=(B false),(!r7.2)=false,Qa8 [(1002,1),(1003,2),(1004,3)] [((r44 p2))],Qa8 [(1002,1),(1003,2),(1004,3)] [((r70 p3))],Qa8 [(1002,1),(1003,2),(1004,3)] [((Qbj r7.1))]]) (Qa7 AP3 ⟨(Qau c9),c11,(rok (Qai t44 p2)),(rok (Qai t70 p3)),(rok rfl),trivial⟩) (Qra hP hn hx p2 p3 r7  _ h)
noncomputable def Xjr:Code:=match Tryz.f93.body with | some c=>c | none=>.skip
noncomputable def Qb9  (p2:Qa1) : Nat→Qaf→Qa1→(List Int)→Int→Option (List Int)
 | 0,_,_,_,_=>none
 | n+1,a3,a4,a5,v6 =>
 if (decide (v6<(p2.Threads.length:Int)))=true then
  Option.bind (rd p2.Threads v6) fun x8 =>
  if (a4.Fault == 0)=true then
   if (x8.State == 1)=true then
    Option.bind (Qdt a3 a4 x8) fun r11 =>
    if (decide (r11<0))=true then
     Option.bind (app a5 [v6]) fun l13 =>
     Qb9 p2 n a3 a4 l13 (w64 (v6+1))
    else
     Qb9 p2 n a3 a4 a5 (w64 (v6+1))
   else
    if (x8.State == 4)=true then
     Option.bind (Qdt a3 a4 x8) fun r17 =>
     if (decide (r17<0))=true then
      Option.bind (app a5 [v6]) fun l19 =>
      Qb9 p2 n a3 a4 l19 (w64 (v6+1))
     else
      Qb9 p2 n a3 a4 a5 (w64 (v6+1))
    else
     Qb9 p2 n a3 a4 a5 (w64 (v6+1))
  else
   Qb9 p2 n a3 a4 a5 (w64 (v6+1))
 else
  some a5
theorem Qq9 {E:Env} (hP:E.pk=pk0 Tryz.prog) (hn:E.n=42) (hx:FX E []) (p2:Qa1)  : ∀ (n:Nat) (a3:Qaf) (a4:Qa1) (a5:(List Int)) (v6:Int) (r:(List Int)),Qb9 p2 n a3 a4 a5 v6=some r→WAt E Xjr (FQ (Qdj Θ Tryz.f93.results.toList [] [] (AV.own 3 1 (r.map o3)) E)) [true,true,false,true,false] ⟨[(2,(AV.ptr 1 0 0)),(3,(AV.ptr 2 0 0)),(5,(AV.sl 3 0 (List.length (a5.map o3)))),(9,(AV.ro 6 (p2.Threads.map r70))),(10,(I (p2.Threads.length:Int))),(11,(I v6))],[(1,some ⟨39,4,[((r39 a3))]⟩),(2,some ⟨44,4,[((r44 a4))]⟩),(3,some ⟨3,1,(a5.map o3)⟩)],[1,2,3,JJ]⟩:=by
 intro n
 induction n with
 | zero=>intro a3 a4 a5 v6 r h;simp only [Qb9] at h;cases h
 | succ n ih =>
  intro a3 a4 a5 v6 r h
  simp only [Qb9] at h
  let Z0:=(decide (v6<(p2.Threads.length:Int)));let Z1:=B true;let Z3:=r39 a3;let Z4:=r44 a4;let Z7:=a5.map o3;let Z8:=(([v6].map o3).drop 0).take ([v6].map o3).length;let Z9:=B false
  rcases itS h with ⟨c7,h⟩ | ⟨c23,h⟩
  ·obtain ⟨x8,hx8,h⟩:=bnS h
   let Z2:=B (x8.State == 1);let Z5:=[(AV.agg Z3),(AV.agg Z4),(AV.agg ((r70 x8)))]
   let H1:List Hn:=[hT 1,hh 3 (.row (r70 x8)),hW 5 1001]
   let P2:List Prop:=[Z0=true,(0:Int)≤v6,(p2.Threads.map r70)[v6.toNat]? = some (r70 x8)]
   have AP2:Qam P2:=⟨c7,(rd0 hx8),(rdM r70 hx8),trivial⟩
   rcases itS h with ⟨c9,h⟩ | ⟨c22,h⟩
   ·let P3:List Prop:=P2++[(B (a4.Fault == 0))=Z1]
    have AP3:Qam P3:=Qa7 AP2 ⟨(Qau c9),trivial⟩
    rcases itS h with ⟨c10,h⟩ | ⟨c15,h⟩
    ·obtain ⟨r11,hr11,h⟩:=bnS h
     let H4:List Hn:=H1++[hO 11 Z1,hO 15 Z1,hh 25 (.callV [[],[],[]] (I r11))]
     let P5:List Prop:=P3++[Z2=Z1,Qa4 Tryz.prog 167 Z5 (I r11),Qa3 (I r11)=true]
     have AP5:Qam P5:=Qa7 AP3 ⟨(Qau c10),(Qot hr11),rfl,trivial⟩
     rcases itS h with ⟨c12,h⟩ | ⟨c14,h⟩
     ·obtain ⟨l13,hl13,h⟩:=bnS h
      exact (let Z6:=l13.map o3;gT hP hn hx (H4++[hT 28,hW 31 1002,hh 32 (.app 1003 Z6)]) [(1,1),(2,2),(1003,3)] [2,3,5,9,10,11] [] (P5++[(decide (r11<0))=true,Z7.take Z7.length++Z8=Z6,Z8.all (fun r=>r.all AV.plain)=true,Z6.length * 8≤140737488355328,Z6.length≤140737488355328,Qa8 [(1,1),(2,2),(1003,3)] [Z3],Qa8 [(1,1),(2,2),(1003,3)] [Z4],Qa8 [(1,1),(2,2),(1003,3)] Z6]) (Qa7 AP5 ⟨c12,(Qix o3 hl13),(plD pa3),(Qn2 o3 hl13 (by decide)),(Qn1 o3 hl13),(rok (Qai t39 a3)),(rok (Qai t44 a4)),(rok (Qab t3)),trivial⟩) (ih a3 a4 l13 (w64 (v6+1)) _ h))
     ·exact gT hP hn hx (H4++[hF 28]) [(1,1),(2,2),(3,3)] [2,3,5,9,10,11] [] (P5++[(decide (r11<0))=false,Qa8 [(1,1),(2,2),(3,3)] [Z3],Qa8 [(1,1),(2,2),(3,3)] [Z4],Qa8 [(1,1),(2,2),(3,3)] Z7]) (Qa7 AP5 ⟨c14,(rok (Qai t39 a3)),(rok (Qai t44 a4)),(rok (Qab t3)),trivial⟩) (ih a3 a4 a5 (w64 (v6+1)) _ h)
    ·rcases itS h with ⟨c16,h⟩ | ⟨c21,h⟩
     ·obtain ⟨r17,hr17,h⟩:=bnS h
      let H6:List Hn:=H1++[hO 11 Z1,hO 15 Z9,hO 21 Z1,hh 25 (.callV [[],[],[]] (I r17))]
      let P7:List Prop:=P3++[Z2=Z9,(B (x8.State == 4))=Z1,Qa4 Tryz.prog 167 Z5 (I r17),Qa3 (I r17)=true]
      have AP7:Qam P7:=Qa7 AP3 ⟨(Qau c15),(Qau c16),(Qot hr17),rfl,trivial⟩
      rcases itS h with ⟨c18,h⟩ | ⟨c20,h⟩
      ·obtain ⟨l19,hl19,h⟩:=bnS h
       exact (let Z10:=l19.map o3;gT hP hn hx (H6++[hT 28,hW 31 1004,hh 32 (.app 1005 Z10)]) [(1,1),(2,2),(1005,3)] [2,3,5,9,10,11] [] (P7++[(decide (r17<0))=true,Z7.take Z7.length++Z8=Z10,Z8.all (fun r=>r.all AV.plain)=true,Z10.length * 8≤140737488355328,Z10.length≤140737488355328,Qa8 [(1,1),(2,2),(1005,3)] [Z3],Qa8 [(1,1),(2,2),(1005,3)] [Z4],Qa8 [(1,1),(2,2),(1005,3)] Z10]) (Qa7 AP7 ⟨c18,(Qix o3 hl19),(plD pa3),(Qn2 o3 hl19 (by decide)),(Qn1 o3 hl19),(rok (Qai t39 a3)),(rok (Qai t44 a4)),(rok (Qab t3)),trivial⟩) (ih a3 a4 l19 (w64 (v6+1)) _ h))
      ·exact gT hP hn hx (H6++[hF 28]) [(1,1),(2,2),(3,3)] [2,3,5,9,10,11] [] (P7++[(decide (r17<0))=false,Qa8 [(1,1),(2,2),(3,3)] [Z3],Qa8 [(1,1),(2,2),(3,3)] [Z4],Qa8 [(1,1),(2,2),(3,3)] Z7]) (Qa7 AP7 ⟨c20,(rok (Qai t39 a3)),(rok (Qai t44 a4)),(rok (Qab t3)),trivial⟩) (ih a3 a4 a5 (w64 (v6+1)) _ h)
     ·exact gT hP hn hx (H1++[hO 11 Z1,hO 15 Z9,hO 21 Z9]) [(1,1),(2,2),(3,3)] [2,3,5,9,10,11] [] (P3++[Z2=Z9,(B (x8.State == 4))=Z9,Qa8 [(1,1),(2,2),(3,3)] [Z3],Qa8 [(1,1),(2,2),(3,3)] [Z4],Qa8 [(1,1),(2,2),(3,3)] Z7]) (Qa7 AP3 ⟨(Qau c15),(Qau c21),(rok (Qai t39 a3)),(rok (Qai t44 a4)),(rok (Qab t3)),trivial⟩) (ih a3 a4 a5 (w64 (v6+1)) _ h)
   ·exact gT hP hn hx (H1++[hO 11 Z9]) [(1,1),(2,2),(3,3)] [2,3,5,9,10,11] [] (P2++[(B (a4.Fault == 0))=Z9,Qa8 [(1,1),(2,2),(3,3)] [Z3],Qa8 [(1,1),(2,2),(3,3)] [Z4],Qa8 [(1,1),(2,2),(3,3)] Z7]) (Qa7 AP2 ⟨(Qau c22),(rok (Qai t39 a3)),(rok (Qai t44 a4)),(rok (Qab t3)),trivial⟩) (ih a3 a4 a5 (w64 (v6+1)) _ h)
  ·obtain rfl:=sj h
   exact gR hP hn [hF 1] [] .own [Z0=false,Qa2 (Z7.take Z7.length)=true,Z7.take Z7.length=Z7,Qa6 Z7=true] ⟨c23,(Qb7 t3),Qb6,(Qa9 n3),trivial⟩
noncomputable def Qdd (p1:Qaf) (p2:Qa1) : Option (List Int):=
 Qb9 p2 FU p1 p2 [] 0
theorem Qjq {p1:Qaf} {p2:Qa1} {r:(List Int)} (h:Qdd p1 p2=some r) : Qa4 Tryz.prog 93 [(AV.agg ((r39 p1))),(AV.agg ((r44 p2)))] (AV.own 3 1 (r.map o3)):=by
 refine gM Tryz.func93 42 Xjr fun E hP hn hx=>?_
 unfold Qdd at h
 exact (let Z0:=(I (p2.Threads.length:Int));gT hP hn hx [hW 0 1001,hW 1 1002,hO 6 Z0,hh 8 (.nil 5 1003 3 1)] [(1001,1),(1002,2),(1003,3)] [2,3,5,9,10,11] [] [AV.lit (.int .i64 (((p2.Threads.map r70).length:Nat) : Int))=Z0,Qa8 [(1001,1),(1002,2),(1003,3)] [((r39 p1))],Qa8 [(1001,1),(1002,2),(1003,3)] [((r44 p2))],Qa8 [(1001,1),(1002,2),(1003,3)] ([].map o3)] ⟨(Qby r70),(rok (Qai t39 p1)),(rok (Qai t44 p2)),(rok (Qab t3)),trivial⟩ (Qq9 hP hn hx p2 FU p1 p2 [] 0 _ h))
noncomputable def Xmq:Code:=match Tryz.f179.body with | some c=>c | none=>.skip
noncomputable def Qee (p1:Int) : Option Qa0:=
 some (Qa0.mk p1 0 1 (-1) (-1) [])
theorem Qlf {p1:Int} {r:Qa0} (h:Qee p1=some r) : Qa4 Tryz.prog 179 [(I p1)] (AV.agg (o70 r)):=by
 refine gM Tryz.func179 5 Xmq fun E hP hn hx=>?_
 unfold Qee at h
 obtain rfl:=sj h
 exact (let Z0:=I (-1);gR hP hn [hW 0 1001] [] (.agg [.raw,.raw,.raw,.raw,.raw,.own]) [(I p1)=(I p1),Qa3 (I p1)=true,(I 0)=(I 0),Qa3 (I 0)=true,(I 1)=(I 1),Qa3 (I 1)=true,Z0=Z0,Qa3 Z0=true,Z0=Z0,Qa3 Z0=true] ⟨rfl,rfl,rfl,rfl,rfl,rfl,rfl,rfl,rfl,rfl,trivial⟩)
noncomputable def Xaz:Code:=match Tryz.f109.body with | some c=>c | none=>.skip
noncomputable def Qes   : Nat→Qaf→Qa1→Qa1→Int→Option Qa1
 | 0,_,_,_,_=>none
 | n+1,a10,a11,a12,v13 =>
 if (decide (v13<a10.Locks))=true then
  Option.bind (app a12.Owner [(-1)]) fun l15 =>
  Qes n a10 a11 (Qa1.mk a12.Threads a12.Cells l15 a12.Fault) (w64 (v13+1))
 else
  some (Qa1.mk a12.Threads a12.Cells a12.Owner a12.Fault)
theorem Qv3 {E:Env} (hP:E.pk=pk0 Tryz.prog) (hn:E.n=32) (hx:FX E [])   : ∀ (n:Nat) (a10:Qaf) (a11:Qa1) (a12:Qa1) (v13:Int) (r:Qa1),Qes  n a10 a11 a12 v13=some r→WAt E Xaz (FQ (Qdj Θ Tryz.f109.results.toList [] [] (AV.agg (o44 r)) E)) [true,true,true,false,true,false] ⟨[(1,(AV.ptr 1 0 0)),(2,(AV.ptr 2 0 0)),(3,(AV.ptr 3 0 0)),(5,(I v13))],[(1,some ⟨39,4,[((r39 a10))]⟩),(2,some ⟨44,4,[((o44 a11))]⟩),(3,some ⟨44,4,[((o44 a12))]⟩)],[1,2,3,JJ]⟩:=by
 intro n
 induction n with
 | zero=>intro a10 a11 a12 v13 r h;simp only [Qes] at h;cases h
 | succ n ih =>
  intro a10 a11 a12 v13 r h
  simp only [Qes] at h
  let Z0:=o44 a12;let Z1:=a12.Owner.map o3;let Z2:=a12.Threads.map o70;let Z3:=AV.own 70 6 Z2;let Z4:=a12.Cells.map Qae;let Z5:=AV.own 132 1 Z4;let Z6:=AV.sl 1001 0 Z1.length;let Z7:=I a12.Fault;let Z12:=decide (v13<a10.Locks);let Z13:=AV.own 3 1 Z1;let Z14:=(([(-1)].map o3).drop 0).take ([(-1)].map o3).length;let Z16:=AV.sl 1004 0 Z2.length;let Z17:=[Z16,Z5,Z13,Z7];let Z18:=AV.sl 1005 0 Z4.length;let Z19:=[Z16,Z18,Z13,Z7];let Z20:=AV.sl 1006 0 Z1.length;let Z21:=[[Z16,Z18,Z20,Z7]]
  rcases itS h with ⟨c14,h⟩ | ⟨c16,h⟩
  ·obtain ⟨l15,hl15,h⟩:=bnS h
   exact (let Z8:=l15.map o3;let Z9:=AV.sl 1003 0 Z8.length;let Z10:=[Z3,Z5,Z9,Z7];let Z11:=[[Z3,Z5,(AV.own 3 1 Z8),Z7]];let Z15:=Qa1.mk a12.Threads a12.Cells l15 a12.Fault;gT hP hn hx [hT 4,hh 6 (.unpack 3 1001 0 2 Z0 3 1 Z1 [[Z3,Z5,Z6,Z7]]),hW 7 1002,hh 8 (.app 1003 Z8),hh 14 (.pack 3 1003 0 2 Z10 Z11)] [(1,1),(2,2),(3,3)] [1,2,3,5] [] [Z12=true,[Z0][0]? = some Z0,Z0[2]? = some Z13,0<1,[Z0].set 0 (Z0.set 2 Z6)=[[Z3,Z5,Z6,Z7]],Z1.take Z1.length++Z14=Z8,Z14.all (fun r=>r.all AV.plain)=true,Z8.length * 8≤140737488355328,Z8.length≤140737488355328,[Z10][0]? = some Z10,Z10[2]? = some Z9,Qa2 Z8=true,[Z10].set 0 (Z10.set 2 (AV.own 3 1 Z8))=Z11,Qa8 [(1,1),(2,2),(3,3)] [((r39 a10))],Qa8 [(1,1),(2,2),(3,3)] [((o44 a11))],Qa8 [(1,1),(2,2),(3,3)] Z11] ⟨c14,rfl,rfl,(by decide),rfl,(Qix o3 hl15),(plD pa3),(Qn2 o3 hl15 (by decide)),(Qn1 o3 hl15),rfl,rfl,(Qab t3),rfl,(rok (Qai t39 a10)),(rok (Qai t44 a11)),(rok (Qai t44 Z15)),trivial⟩ (ih a10 a11 Z15 (w64 (v13+1)) _ h))
  ·obtain rfl:=sj h
   exact gR hP hn [hF 4,hh 5 (.unpack 3 1004 0 0 Z0 70 6 Z2 [Z17]),hh 5 (.unpack 3 1005 0 1 Z17 132 1 Z4 [Z19]),hh 5 (.unpack 3 1006 0 2 Z19 3 1 Z1 Z21)] [] (.agg [.own,.own,.own,.raw]) [Z12=false,[Z0][0]? = some Z0,Z0[0]? = some Z3,0<6,[Z0].set 0 (Z0.set 0 Z16)=[Z17],[Z17][0]? = some Z17,Z17[1]? = some Z5,0<1,[Z17].set 0 (Z17.set 1 Z18)=[Z19],[Z19][0]? = some Z19,Z19[2]? = some Z13,0<1,[Z19].set 0 (Z19.set 2 Z20)=Z21,Qa2 (Z2.take Z2.length)=true,Z2.take Z2.length=Z2,Qa6 Z2=true,Qa2 (Z4.take Z4.length)=true,Z4.take Z4.length=Z4,Qa6 Z4=true,Qa2 (Z1.take Z1.length)=true,Z1.take Z1.length=Z1,Qa6 Z1=true,Z7=Z7,Qa3 Z7=true] ⟨c16,rfl,rfl,(by decide),rfl,rfl,rfl,(by decide),rfl,rfl,rfl,(by decide),rfl,(Qb7 t70),Qb6,(Qa9 n70),(Qb7 Qbs),Qb6,(Qa9 Qe7),(Qb7 t3),Qb6,(Qa9 n3),rfl,rfl,trivial⟩
noncomputable def Qeq   : Nat→Qaf→Qa1→Qa1→Int→Option Qa1
 | 0,_,_,_,_=>none
 | n+1,a3,a4,a5,v6 =>
 if (decide (v6<a3.Cells))=true then
  Option.bind (app a5.Cells [0]) fun l8 =>
  Qeq n a3 a4 (Qa1.mk a5.Threads l8 a5.Owner a5.Fault) (w64 (v6+1))
 else
  Qes FU a3 a4 a5 0
theorem Qv9 {E:Env} (hP:E.pk=pk0 Tryz.prog) (hn:E.n=32) (hx:FX E [])   : ∀ (n:Nat) (a3:Qaf) (a4:Qa1) (a5:Qa1) (v6:Int) (r:Qa1),Qeq  n a3 a4 a5 v6=some r→WAt E Xaz (FQ (Qdj Θ Tryz.f109.results.toList [] [] (AV.agg (o44 r)) E)) [true,true,false,true,false] ⟨[(1,(AV.ptr 1 0 0)),(2,(AV.ptr 2 0 0)),(3,(AV.ptr 3 0 0)),(4,(I v6))],[(1,some ⟨39,4,[((r39 a3))]⟩),(2,some ⟨44,4,[((o44 a4))]⟩),(3,some ⟨44,4,[((o44 a5))]⟩)],[1,2,3,JJ]⟩:=by
 intro n
 induction n with
 | zero=>intro a3 a4 a5 v6 r h;simp only [Qeq] at h;cases h
 | succ n ih =>
  intro a3 a4 a5 v6 r h
  simp only [Qeq] at h
  let Z0:=o44 a5;let Z1:=a5.Cells.map Qae;let Z2:=AV.own 70 6 (a5.Threads.map o70);let Z3:=AV.sl 1001 0 Z1.length;let Z4:=AV.own 3 1 (a5.Owner.map o3);let Z5:=[[Z2,Z3,Z4,(I a5.Fault)]];let Z10:=decide (v6<a3.Cells);let Z11:=(([0].map Qae).drop 0).take ([0].map Qae).length
  rcases itS h with ⟨c7,h⟩ | ⟨c9,h⟩
  ·obtain ⟨l8,hl8,h⟩:=bnS h
   exact (let Z6:=l8.map Qae;let Z7:=AV.sl 1003 0 Z6.length;let Z8:=[Z2,Z7,Z4,(I a5.Fault)];let Z9:=[[Z2,(AV.own 132 1 Z6),Z4,(I a5.Fault)]];let Z12:=Qa1.mk a5.Threads l8 a5.Owner a5.Fault;gT hP hn hx [hT 4,hh 6 (.unpack 3 1001 0 1 Z0 132 1 Z1 Z5),hW 7 1002,hh 8 (.app 1003 Z6),hh 14 (.pack 3 1003 0 1 Z8 Z9)] [(1,1),(2,2),(3,3)] [1,2,3,4] [] [Z10=true,[Z0][0]? = some Z0,Z0[1]? = some (AV.own 132 1 Z1),0<1,[Z0].set 0 (Z0.set 1 Z3)=Z5,Z1.take Z1.length++Z11=Z6,Z11.all (fun r=>r.all AV.plain)=true,Z6.length * 8≤140737488355328,Z6.length≤140737488355328,[Z8][0]? = some Z8,Z8[1]? = some Z7,Qa2 Z6=true,[Z8].set 0 (Z8.set 1 (AV.own 132 1 Z6))=Z9,Qa8 [(1,1),(2,2),(3,3)] [((r39 a3))],Qa8 [(1,1),(2,2),(3,3)] [((o44 a4))],Qa8 [(1,1),(2,2),(3,3)] Z9] ⟨c7,rfl,rfl,(by decide),rfl,(Qix Qae hl8),(plD Qkp),(Qn2 Qae hl8 (by decide)),(Qn1 Qae hl8),rfl,rfl,(Qab Qbs),rfl,(rok (Qai t39 a3)),(rok (Qai t44 a4)),(rok (Qai t44 Z12)),trivial⟩ (ih a3 a4 Z12 (w64 (v6+1)) _ h))
  ·exact gT hP hn hx [hF 4] [(1,1),(2,2),(3,3)] [1,2,3,5] [] [Z10=false,Qa8 [(1,1),(2,2),(3,3)] [((r39 a3))],Qa8 [(1,1),(2,2),(3,3)] [((o44 a4))],Qa8 [(1,1),(2,2),(3,3)] [Z0]] ⟨c9,(rok (Qai t39 a3)),(rok (Qai t44 a4)),(rok (Qai t44 a5)),trivial⟩ (Qv3 hP hn hx FU a3 a4 a5 0 _ h)
noncomputable def Qg6 (p1:Qaf) : Option Qa1:=
 Option.bind (Qee 0) fun r2 =>
 Qeq FU p1 (Qa1.mk [] [] [] 0) (Qa1.mk [(Qa0.mk r2.Routine r2.Pc r2.State r2.Cond r2.Lock r2.Stack)] [] [] 0) 0
theorem Qt1 {p1:Qaf} {r:Qa1} (h:Qg6 p1=some r) : Qa4 Tryz.prog 109 [(AV.agg ((r39 p1)))] (AV.agg (o44 r)):=by
 refine gM Tryz.func109 32 Xaz fun E hP hn hx=>?_
 unfold Qg6 at h
 obtain ⟨r2,hr2,h⟩:=bnS h
 exact (let Z0:=AV.agg (o70 r2);let Z1:=I 0;let Z2:=AV.own 70 6 ([].map o70);let Z3:=[[Z2,nS,nS,Z1]];let Z4:=AV.own 132 1 ([].map Qae);let Z5:=[[Z2,Z4,nS,Z1]];let Z6:=AV.own 3 1 ([].map o3);let Z7:=[[Z2,Z4,Z6,Z1]];let Z8:=r2.Stack.map Qae;let Z9:=AV.sl 1003 0 Z8.length;let Z10:=[(I r2.Routine),(I r2.Pc),(I r2.State),(I r2.Cond),(I r2.Lock),Z9];let Z11:=AV.sl 1004 0 [Z10].length;let Z12:=[[Z11,Z4,nS,Z1]];let Z13:=[Z11,Z4,Z6,Z1];let Z14:=[(Qa0.mk r2.Routine r2.Pc r2.State r2.Cond r2.Lock r2.Stack)].map o70;let Z15:=[[(AV.own 70 6 Z14),Z4,Z6,Z1]];let Z16:=Qa1.mk [] [] [] 0;let Z17:=Qa1.mk [(Qa0.mk r2.Routine r2.Pc r2.State r2.Cond r2.Lock r2.Stack)] [] [] 0;gT hP hn hx [hW 0 1001,hW 1 1002,hh 2 (.call [] Z0 [1003]),hW 3 1004,hW 5 1005,hh 8 (.own0 1002 1 [] [nS,nS,Z1] 70 6 Z3),hh 8 (.own0 1002 1 [Z2] [nS,Z1] 132 1 Z5),hh 8 (.own0 1002 1 [Z2,Z4] [Z1] 3 1 Z7),hh 8 (.own0 1005 1 [Z11] [nS,Z1] 132 1 Z12),hh 8 (.own0 1005 1 [Z11,Z4] [Z1] 3 1 [Z13]),hh 8 (.pack 1004 1003 0 5 Z10 Z14),hh 8 (.pack 1005 1004 0 0 Z13 Z15)] [(1001,1),(1002,2),(1005,3)] [1,2,3,4] [] [Qa4 Tryz.prog 179 [Z1] Z0,Qc2 Z0=true,[[nS,nS,nS,Z1]]=List.replicate 1 ([]++AV.lit (.slice none 0 0) :: [nS,nS,Z1]),List.replicate 1 ([]++AV.own 70 6 [] :: [nS,nS,Z1])=Z3,Z3=List.replicate 1 ([Z2]++AV.lit (.slice none 0 0) :: [nS,Z1]),List.replicate 1 ([Z2]++AV.own 132 1 [] :: [nS,Z1])=Z5,Z5=List.replicate 1 ([Z2,Z4]++AV.lit (.slice none 0 0) :: [Z1]),List.replicate 1 ([Z2,Z4]++AV.own 3 1 [] :: [Z1])=Z7,[[Z11,nS,nS,Z1]]=List.replicate 1 ([Z11]++AV.lit (.slice none 0 0) :: [nS,Z1]),List.replicate 1 ([Z11]++AV.own 132 1 [] :: [nS,Z1])=Z12,Z12=List.replicate 1 ([Z11,Z4]++AV.lit (.slice none 0 0) :: [Z1]),List.replicate 1 ([Z11,Z4]++AV.own 3 1 [] :: [Z1])=[Z13],[Z10][0]? = some Z10,Z10[5]? = some Z9,Qa2 Z8=true,[Z10].set 0 (Z10.set 5 (AV.own 132 1 Z8))=Z14,[Z13][0]? = some Z13,Z13[0]? = some (AV.sl 1004 0 Z14.length),Qa2 Z14=true,[Z13].set 0 (Z13.set 0 (AV.own 70 6 Z14))=Z15,Qa8 [(1001,1),(1002,2),(1005,3)] [((r39 p1))],Qa8 [(1001,1),(1002,2),(1005,3)] Z7,Qa8 [(1001,1),(1002,2),(1005,3)] Z15] ⟨(Qlf hr2),(by simp +zetaDelta only [Qc2,Qbm,Qa9 Qe7,o70,Bool.and_self]),rfl,rfl,rfl,rfl,rfl,rfl,rfl,rfl,rfl,rfl,rfl,rfl,(Qab Qbs),rfl,rfl,(pkS lnq),(Qab t70),rfl,(rok (Qai t39 p1)),(rok (Qai t44 Z16)),(rok (Qai t44 Z17)),trivial⟩ (Qv9 hP hn hx FU p1 Z16 Z17 0 _ h))
noncomputable def Xb6:Code:=match Tryz.f212.body with | some c=>c | none=>.skip
noncomputable def Qfd  (p1:Int) (v7:Bool) : Option (Int×Int):=
 if v7=true then
  some (1,0)
 else
  Option.bind (Qen p1 4 9) fun r10 =>
  if r10=true then
   some (2,1)
  else
   some (0,0)
theorem Qij {E:Env} (hP:E.pk=pk0 Tryz.prog) (hn:E.n=15) (hx:FX E []) (p1:Int)  (v7:Bool) (r:(Int×Int)) (h:Qfd p1 v7=some r) : WAt E Xb6 (FQ (Qdj Θ Tryz.f212.results.toList [] [] (AV.tup [(I r.1),(I r.2)]) E)) [true,false,true,false,true,true,true] ⟨[(0,(I p1)),(9,(B v7))],[],[JJ]⟩:=by
 unfold Qfd at h
 rcases itS h with ⟨c8,h⟩ | ⟨c9,h⟩
 ·obtain rfl:=sj h
  exact gR hP hn [hT 0] [] (.agg [.raw,.raw]) [v7=true,(I 1)=(I 1),Qa3 (I 1)=true,(I 0)=(I 0),Qa3 (I 0)=true] ⟨c8,rfl,rfl,rfl,rfl,trivial⟩
 ·obtain ⟨r10,hr10,h⟩:=bnS h
  let P1:List Prop:=[v7=false,Qa4 Tryz.prog 77 [(I p1),(I 4),(I 9)] (B r10),Qa3 (B r10)=true]
  have AP1:Qam P1:=⟨c9,(Qet hr10),rfl,trivial⟩
  rcases itS h with ⟨c11,h⟩ | ⟨c12,h⟩
  ·obtain rfl:=sj h
   exact gR hP hn [hF 0,hh 2 (.callV [] (B r10)),hT 3] [] (.agg [.raw,.raw]) (P1++[r10=true,(I 2)=(I 2),Qa3 (I 2)=true,(I 1)=(I 1),Qa3 (I 1)=true]) (Qa7 AP1 ⟨c11,rfl,rfl,rfl,rfl,trivial⟩)
  ·obtain rfl:=sj h
   exact gR hP hn [hF 0,hh 2 (.callV [] (B r10)),hF 3] [] (.agg [.raw,.raw]) (P1++[r10=false,(I 0)=(I 0),Qa3 (I 0)=true,(I 0)=(I 0),Qa3 (I 0)=true]) (Qa7 AP1 ⟨c12,rfl,rfl,rfl,rfl,trivial⟩)
noncomputable def Qf9  (p1:Int) (v3:Bool) : Option (Int×Int):=
 if v3=true then
  some (0,1)
 else
  if (p1 == 3)=true then
   Qfd p1 (p1 == 3)
  else
   if (p1 == 11)=true then
    Qfd p1 (p1 == 11)
   else
    Qfd p1 (p1 == 15)
theorem Qim {E:Env} (hP:E.pk=pk0 Tryz.prog) (hn:E.n=15) (hx:FX E []) (p1:Int)  (v3:Bool) (r:(Int×Int)) (h:Qf9 p1 v3=some r) : WAt E Xb6 (FQ (Qdj Θ Tryz.f212.results.toList [] [] (AV.tup [(I r.1),(I r.2)]) E)) [true,false,true,false,true] ⟨[(0,(I p1)),(4,(I p1)),(5,(B v3))],[],[JJ]⟩:=by
 unfold Qf9 at h
 rcases itS h with ⟨c4,h⟩ | ⟨c5,h⟩
 ·obtain rfl:=sj h
  exact gR hP hn [hT 0] [] (.agg [.raw,.raw]) [v3=true,(I 0)=(I 0),Qa3 (I 0)=true,(I 1)=(I 1),Qa3 (I 1)=true] ⟨c4,rfl,rfl,rfl,rfl,trivial⟩
 ·rcases itS h with ⟨c6,h⟩ | ⟨c13,h⟩
  ·exact gT hP hn hx [hF 0,hT 3] [] [0,9] [] [v3=false,(p1 == 3)=true] ⟨c5,c6,trivial⟩ (Qij hP hn hx p1 (p1 == 3) _ h)
  ·rcases itS h with ⟨c14,h⟩ | ⟨c15,h⟩
   ·exact gT hP hn hx [hF 0,hF 3,hT 6] [] [0,9] [] [v3=false,(p1 == 3)=false,(p1 == 11)=true] ⟨c5,c13,c14,trivial⟩ (Qij hP hn hx p1 (p1 == 11) _ h)
   ·exact gT hP hn hx [hF 0,hF 3,hF 6] [] [0,9] [] [v3=false,(p1 == 3)=false,(p1 == 11)=false] ⟨c5,c13,c15,trivial⟩ (Qij hP hn hx p1 (p1 == 15) _ h)
noncomputable def Qgn (p1:Int) : Option (Int×Int):=
 if (p1 == 1)=true then
  Qf9 p1 (p1 == 1)
 else
  if (p1 == 2)=true then
   Qf9 p1 (p1 == 2)
  else
   Qf9 p1 (p1 == 14)
theorem Qli {p1:Int} {r:(Int×Int)} (h:Qgn p1=some r) : Qa4 Tryz.prog 212 [(I p1)] (AV.tup [(I r.1),(I r.2)]):=by
 refine gM Tryz.func212 15 Xb6 fun E hP hn hx=>?_
 unfold Qgn at h
 rcases itS h with ⟨c2,h⟩ | ⟨c16,h⟩
 ·exact gT hP hn hx [hT 5] [] [0,4,5] [] [(p1 == 1)=true] ⟨c2,trivial⟩ (Qim hP hn hx p1 (p1 == 1) _ h)
 ·rcases itS h with ⟨c17,h⟩ | ⟨c18,h⟩
  ·exact gT hP hn hx [hF 5,hT 8] [] [0,4,5] [] [(p1 == 1)=false,(p1 == 2)=true] ⟨c16,c17,trivial⟩ (Qim hP hn hx p1 (p1 == 2) _ h)
  ·exact gT hP hn hx [hF 5,hF 8] [] [0,4,5] [] [(p1 == 1)=false,(p1 == 2)=false] ⟨c16,c18,trivial⟩ (Qim hP hn hx p1 (p1 == 14) _ h)
noncomputable def Qsp:Code:=match Tryz.f169.body with | some c=>c | none=>.skip
noncomputable def Qdv  (p1:Qa1) (p3:GOp)  : Option Int:=
 if (p3.Code == 14)=true then
  if ((p1.Threads.length:Int) == 5)=true then
   some 4
  else
   some 0
 else
  some 0
theorem Qn4 {E:Env} (hP:E.pk=pk0 Tryz.prog) (hn:E.n=84) (hx:FX E []) (p1:Qa1) (p3:GOp)   (r:Int) (h:Qdv p1 p3  = some r) : WAt E Qsp (FQ (Qdj Θ Tryz.f169.results.toList [] [] (I r) E)) [true,true,true,false,false,true,true,true,true,true,true] ⟨[(3,(AV.ptr 1 0 0)),(5,(AV.ptr 2 0 0))],[(1,some ⟨44,4,[((r44 p1))]⟩),(2,some ⟨156,4,[((Qbj p3))]⟩)],[1,2,JJ]⟩:=by
 unfold Qdv at h
 let Z0:=(p1.Threads.length:Int)
 rcases itS h with ⟨c21,h⟩ | ⟨c24,h⟩
 ·let P1:List Prop:=[(B (p3.Code == 14))=(B true),AV.lit (.int .i64 (((p1.Threads.map r70).length:Nat) : Int))=(I Z0)]
  have AP1:Qam P1:=⟨(Qau c21),(Qby r70),trivial⟩
  rcases itS h with ⟨c22,h⟩ | ⟨c23,h⟩
  ·obtain rfl:=sj h
   exact gR hP hn [hO 3 (B true),hO 6 (I Z0),hT 10] [] .raw (P1++[(Z0 == 5)=true,(I 4)=(I 4),Qa3 (I 4)=true]) (Qa7 AP1 ⟨c22,rfl,rfl,trivial⟩)
  ·obtain rfl:=sj h
   exact gR hP hn [hO 3 (B true),hO 6 (I Z0),hF 10] [] .raw (P1++[(Z0 == 5)=false,(I 0)=(I 0),Qa3 (I 0)=true]) (Qa7 AP1 ⟨c23,rfl,rfl,trivial⟩)
 ·obtain rfl:=sj h
  exact gR hP hn [hO 3 (B false)] [] .raw [(B (p3.Code == 14))=(B false),(I 0)=(I 0),Qa3 (I 0)=true] ⟨(Qau c24),rfl,rfl,trivial⟩
noncomputable def Qcw  (p1:Qa1) (p3:GOp) (x4:Qa0) (v14:Bool) : Option Int:=
 if v14=true then
  some 2
 else
  if (p3.Code == 15)=true then
   Option.bind (Qdg p1 x4) fun r18 =>
   if (decide (r18<0))=true then
    some 3
   else
    Qdv p1 p3
  else
   Qdv p1 p3
theorem Qjp {E:Env} (hP:E.pk=pk0 Tryz.prog) (hn:E.n=84) (hx:FX E []) (p1:Qa1) (p3:GOp) (x4:Qa0)  (v14:Bool) (r:Int) (h:Qcw p1 p3 x4 v14=some r) : WAt E Qsp (FQ (Qdj Θ Tryz.f169.results.toList [] [] (I r) E)) [true,true,true,false,false,true,true,true] ⟨[(3,(AV.ptr 1 0 0)),(5,(AV.ptr 2 0 0)),(7,(AV.ptr 3 0 0)),(37,(B v14))],[(1,some ⟨44,4,[((r44 p1))]⟩),(2,some ⟨156,4,[((Qbj p3))]⟩),(3,some ⟨70,6,[((r70 x4))]⟩)],[1,2,3,JJ]⟩:=by
 unfold Qcw at h
 rcases itS h with ⟨c15,h⟩ | ⟨c16,h⟩
 ·obtain rfl:=sj h
  exact gR hP hn [hT 0] [] .raw [v14=true,(I 2)=(I 2),Qa3 (I 2)=true] ⟨c15,rfl,rfl,trivial⟩
 ·rcases itS h with ⟨c17,h⟩ | ⟨c25,h⟩
  ·obtain ⟨r18,hr18,h⟩:=bnS h
   let P1:List Prop:=[v14=false,(B (p3.Code == 15))=(B true),Qa4 Tryz.prog 211 [(AV.agg ((r44 p1))),(AV.agg ((r70 x4)))] (I r18),Qa3 (I r18)=true]
   have AP1:Qam P1:=⟨c16,(Qau c17),(Qiy hr18),rfl,trivial⟩
   rcases itS h with ⟨c19,h⟩ | ⟨c20,h⟩
   ·obtain rfl:=sj h
    exact gR hP hn [hF 0,hO 4 (B true),hh 7 (.callV [[],[]] (I r18)),hT 11] [] .raw (P1++[(decide (r18<0))=true,(I 3)=(I 3),Qa3 (I 3)=true]) (Qa7 AP1 ⟨c19,rfl,rfl,trivial⟩)
   ·exact gT hP hn hx [hF 0,hO 4 (B true),hh 7 (.callV [[],[]] (I r18)),hF 11] [(1,1),(2,2)] [3,5] [] (P1++[(decide (r18<0))=false,Qa8 [(1,1),(2,2)] [((r44 p1))],Qa8 [(1,1),(2,2)] [((Qbj p3))]]) (Qa7 AP1 ⟨c20,(rok (Qai t44 p1)),(rok rfl),trivial⟩) (Qn4 hP hn hx p1 p3  _ h)
  ·exact gT hP hn hx [hF 0,hO 4 (B false)] [(1,1),(2,2)] [3,5] [] [v14=false,(B (p3.Code == 15))=(B false),Qa8 [(1,1),(2,2)] [((r44 p1))],Qa8 [(1,1),(2,2)] [((Qbj p3))]] ⟨c16,(Qau c25),(rok (Qai t44 p1)),(rok rfl),trivial⟩ (Qn4 hP hn hx p1 p3  _ h)
noncomputable def Qiz  (p1:Qa1) (p3:GOp) (x4:Qa0) (v13:Bool) : Option Int:=
 Qcw p1 p3 x4 v13
theorem Qtm {E:Env} (hP:E.pk=pk0 Tryz.prog) (hn:E.n=84) (hx:FX E []) (p1:Qa1) (p3:GOp) (x4:Qa0)  (v13:Bool) (r:Int) (h:Qiz p1 p3 x4 v13=some r) : WAt E Qsp (FQ (Qdj Θ Tryz.f169.results.toList [] [] (I r) E)) [true,true,true,false,false,true,true,false,true,false] ⟨[(3,(AV.ptr 1 0 0)),(5,(AV.ptr 2 0 0)),(7,(AV.ptr 3 0 0)),(37,(B v13))],[(1,some ⟨44,4,[((r44 p1))]⟩),(2,some ⟨156,4,[((Qbj p3))]⟩),(3,some ⟨70,6,[((r70 x4))]⟩)],[1,2,3,JJ]⟩:=by
 unfold Qiz at h
 exact gT hP hn hx [] [(1,1),(2,2),(3,3)] [3,5,7,37] [] [Qa8 [(1,1),(2,2),(3,3)] [((r44 p1))],Qa8 [(1,1),(2,2),(3,3)] [((Qbj p3))],Qa8 [(1,1),(2,2),(3,3)] [((r70 x4))]] ⟨(rok (Qai t44 p1)),(rok rfl),(rok (Qai t70 x4)),trivial⟩ (Qjp hP hn hx p1 p3 x4 v13 _ h)
noncomputable def Qg1  (p1:Qa1) (p2:Int) (p3:GOp) (x4:Qa0)  : Option Int:=
 if (p3.Code == 16)=true then
  Option.bind (rd p1.Owner p3.B) fun x28 =>
  Qcw p1 p3 x4 (x28 != p2)
 else
  Qcw p1 p3 x4 false
theorem Qn6 {E:Env} (hP:E.pk=pk0 Tryz.prog) (hn:E.n=84) (hx:FX E []) (p1:Qa1) (p2:Int) (p3:GOp) (x4:Qa0)   (r:Int) (h:Qg1 p1 p2 p3 x4  = some r) : WAt E Qsp (FQ (Qdj Θ Tryz.f169.results.toList [] [] (I r) E)) [true,true,true,false,false,true,true,false,true,true] ⟨[(1,(I p2)),(3,(AV.ptr 1 0 0)),(5,(AV.ptr 2 0 0)),(7,(AV.ptr 3 0 0))],[(1,some ⟨44,4,[((r44 p1))]⟩),(2,some ⟨156,4,[((Qbj p3))]⟩),(3,some ⟨70,6,[((r70 x4))]⟩)],[1,2,3,JJ]⟩:=by
 unfold Qg1 at h
 rcases itS h with ⟨c27,h⟩ | ⟨c29,h⟩
 ·obtain ⟨x28,hx28,h⟩:=bnS h
  exact gT hP hn hx [hO 3 (B true),hh 8 (.row (o3 x28))] [(1,1),(2,2),(3,3)] [3,5,7,37] [] [(B (p3.Code == 16))=(B true),(0:Int)≤p3.B,(p1.Owner.map o3)[p3.B.toNat]? = some (o3 x28),Qa8 [(1,1),(2,2),(3,3)] [((r44 p1))],Qa8 [(1,1),(2,2),(3,3)] [((Qbj p3))],Qa8 [(1,1),(2,2),(3,3)] [((r70 x4))]] ⟨(Qau c27),(rd0 hx28),(rdM o3 hx28),(rok (Qai t44 p1)),(rok rfl),(rok (Qai t70 x4)),trivial⟩ (Qjp hP hn hx p1 p3 x4 (x28 != p2) _ h)
 ·exact gT hP hn hx [hO 3 (B false)] [(1,1),(2,2),(3,3)] [3,5,7,37] [] [(B (p3.Code == 16))=(B false),Qa8 [(1,1),(2,2),(3,3)] [((r44 p1))],Qa8 [(1,1),(2,2),(3,3)] [((Qbj p3))],Qa8 [(1,1),(2,2),(3,3)] [((r70 x4))]] ⟨(Qau c29),(rok (Qai t44 p1)),(rok rfl),(rok (Qai t70 x4)),trivial⟩ (Qjp hP hn hx p1 p3 x4 false _ h)
noncomputable def Qj1  (p1:Qa1) (p2:Int) (p3:GOp) (x4:Qa0)  : Option Int:=
 if (p3.Code == 13)=true then
  Option.bind (rd p1.Owner p3.A) fun x11 =>
  if (x11 != p2)=true then
   Qiz p1 p3 x4 (x11 != p2)
  else
   Qg1 p1 p2 p3 x4
 else
  Qg1 p1 p2 p3 x4
theorem Qtd {E:Env} (hP:E.pk=pk0 Tryz.prog) (hn:E.n=84) (hx:FX E []) (p1:Qa1) (p2:Int) (p3:GOp) (x4:Qa0)   (r:Int) (h:Qj1 p1 p2 p3 x4  = some r) : WAt E Qsp (FQ (Qdj Θ Tryz.f169.results.toList [] [] (I r) E)) [true,true,true,false,false,true,true] ⟨[(1,(I p2)),(3,(AV.ptr 1 0 0)),(5,(AV.ptr 2 0 0)),(7,(AV.ptr 3 0 0))],[(1,some ⟨44,4,[((r44 p1))]⟩),(2,some ⟨156,4,[((Qbj p3))]⟩),(3,some ⟨70,6,[((r70 x4))]⟩)],[1,2,3,JJ]⟩:=by
 unfold Qj1 at h
 rcases itS h with ⟨c10,h⟩ | ⟨c30,h⟩
 ·obtain ⟨x11,hx11,h⟩:=bnS h
  let P1:List Prop:=[(B (p3.Code == 13))=(B true),(0:Int)≤p3.A,(p1.Owner.map o3)[p3.A.toNat]? = some (o3 x11)]
  have AP1:Qam P1:=⟨(Qau c10),(rd0 hx11),(rdM o3 hx11),trivial⟩
  rcases itS h with ⟨c12,h⟩ | ⟨c26,h⟩
  ·exact gT hP hn hx [hO 3 (B true),hh 8 (.row (o3 x11)),hT 14] [(1,1),(2,2),(3,3)] [3,5,7,37] [] (P1++[(x11 != p2)=true,Qa8 [(1,1),(2,2),(3,3)] [((r44 p1))],Qa8 [(1,1),(2,2),(3,3)] [((Qbj p3))],Qa8 [(1,1),(2,2),(3,3)] [((r70 x4))]]) (Qa7 AP1 ⟨c12,(rok (Qai t44 p1)),(rok rfl),(rok (Qai t70 x4)),trivial⟩) (Qtm hP hn hx p1 p3 x4 (x11 != p2) _ h)
  ·exact gT hP hn hx [hO 3 (B true),hh 8 (.row (o3 x11)),hF 14] [(1,1),(2,2),(3,3)] [1,3,5,7] [] (P1++[(x11 != p2)=false,Qa8 [(1,1),(2,2),(3,3)] [((r44 p1))],Qa8 [(1,1),(2,2),(3,3)] [((Qbj p3))],Qa8 [(1,1),(2,2),(3,3)] [((r70 x4))]]) (Qa7 AP1 ⟨c26,(rok (Qai t44 p1)),(rok rfl),(rok (Qai t70 x4)),trivial⟩) (Qn6 hP hn hx p1 p2 p3 x4  _ h)
 ·exact gT hP hn hx [hO 3 (B false)] [(1,1),(2,2),(3,3)] [1,3,5,7] [] [(B (p3.Code == 13))=(B false),Qa8 [(1,1),(2,2),(3,3)] [((r44 p1))],Qa8 [(1,1),(2,2),(3,3)] [((Qbj p3))],Qa8 [(1,1),(2,2),(3,3)] [((r70 x4))]] ⟨(Qau c30),(rok (Qai t44 p1)),(rok rfl),(rok (Qai t70 x4)),trivial⟩ (Qn6 hP hn hx p1 p2 p3 x4  _ h)
noncomputable def Ql1 (p1:Qa1) (p2:Int) (p3:GOp) : Option Int:=
 Option.bind (rd p1.Threads p2) fun x4 =>
 Option.bind (Qgn p3.Code) fun r5 =>
 if (decide ((x4.Stack.length:Int)<r5.1))=true then
  some 1
 else
  if (decide ((w64 ((w64 ((x4.Stack.length:Int) - r5.1))+r5.2)) > 8))=true then
   some 1
  else
   Qj1 p1 p2 p3 x4
theorem Qyw {p1:Qa1} {p2:Int} {p3:GOp} {r:Int} (h:Ql1 p1 p2 p3=some r) : Qa4 Tryz.prog 169 [(AV.agg ((r44 p1))),(I p2),(AV.agg ((Qbj p3)))] (I r):=by
 refine gM Tryz.func169 84 Qsp fun E hP hn hx=>?_
 unfold Ql1 at h
 obtain ⟨x4,hx4,h⟩:=bnS h
 obtain ⟨r5,hr5,h⟩:=bnS h
 let Z0:=AV.tup [(I r5.1),(I r5.2)];let Z1:=(x4.Stack.length:Int);let Z2:=(((x4.Stack.map Qae).length:Nat) : Int);let Z3:=B (decide (Z1<r5.1));let Z4:=decide ((w64 ((w64 (Z1 - r5.1))+r5.2)) > 8)
 let H1:List Hn:=[hW 0 1001,hW 1 1002,hh 6 (.row (r70 x4)),hW 8 1003,hh 12 (.callV [] Z0),hO 20 (I Z1)]
 let P2:List Prop:=[(0:Int)≤p2,(p1.Threads.map r70)[p2.toNat]? = some (r70 x4),Qa4 Tryz.prog 212 [(I p3.Code)] Z0,Qa3 Z0=true,AV.lit (.int .i64 Z2)=(I Z1)]
 have AP2:Qam P2:=⟨(rd0 hx4),(rdM r70 hx4),(Qli hr5),rfl,(Qby Qae),trivial⟩
 rcases itS h with ⟨c6,h⟩ | ⟨c7,h⟩
 ·obtain rfl:=sj h
  exact gR hP hn (H1++[hO 23 (B true)]) [] .raw (P2++[Z3=(B true),(I 1)=(I 1),Qa3 (I 1)=true]) (Qa7 AP2 ⟨(Qau c6),rfl,rfl,trivial⟩)
 ·let P3:List Prop:=P2++[Z3=(B false),AV.lit (.int .i64 Z2)=(I Z1)]
  have AP3:Qam P3:=Qa7 AP2 ⟨(Qau c7),(Qby Qae),trivial⟩
  rcases itS h with ⟨c8,h⟩ | ⟨c9,h⟩
  ·obtain rfl:=sj h
   exact gR hP hn (H1++[hO 23 (B false),hO 26 (I Z1),hT 34]) [] .raw (P3++[Z4=true,(I 1)=(I 1),Qa3 (I 1)=true]) (Qa7 AP3 ⟨c8,rfl,rfl,trivial⟩)
  ·exact gT hP hn hx (H1++[hO 23 (B false),hO 26 (I Z1),hF 34]) [(1001,1),(1002,2),(1003,3)] [1,3,5,7] [] (P3++[Z4=false,Qa8 [(1001,1),(1002,2),(1003,3)] [((r44 p1))],Qa8 [(1001,1),(1002,2),(1003,3)] [((Qbj p3))],Qa8 [(1001,1),(1002,2),(1003,3)] [((r70 x4))]]) (Qa7 AP3 ⟨c9,(rok (Qai t44 p1)),(rok rfl),(rok (Qai t70 x4)),trivial⟩) (Qtd hP hn hx p1 p2 p3 x4  _ h)
noncomputable def Xgo:Code:=match Tryz.f214.body with | some c=>c | none=>.skip
noncomputable def Qd3   (v13:Bool) : Option Nat:=
 if v13=true then
  some 4607182418800017408
 else
  some 0
theorem Qlc {E:Env} (hP:E.pk=pk0 Tryz.prog) (hn:E.n=38) (hx:FX E [])   (v13:Bool) (r:Nat) (h:Qd3  v13=some r) : WAt E Xgo (FQ (Qdj Θ Tryz.f214.results.toList [] [] (FK r) E)) [true,true,true] ⟨[(7,(B v13))],[],[JJ]⟩:=by
 unfold Qd3 at h
 rcases itS h with ⟨c14,h⟩ | ⟨c15,h⟩
 ·obtain rfl:=sj h
  exact gR hP hn [hT 1] [] .raw [v13=true,(FK 4607182418800017408)=(FK 4607182418800017408),Qa3 (FK 4607182418800017408)=true] ⟨c14,rfl,rfl,trivial⟩
 ·obtain rfl:=sj h
  exact gR hP hn [hF 1] [] .raw [v13=false,(FK 0)=(FK 0),Qa3 (FK 0)=true] ⟨c15,rfl,rfl,trivial⟩
noncomputable def Qej (p1:Int) (p2:Nat) (p3:Nat) : Option Nat:=
 if (p1 == 4)=true then
  some (fad p2 p3)
 else
  if (p1 == 5)=true then
   some (fsb p2 p3)
  else
   if (p1 == 6)=true then
    some (fml p2 p3)
   else
    if (p1 == 7)=true then
     some (fdv p2 p3)
    else
     if (p1 == 8)=true then
      Qd3 ((Qci p2 p3) == some .lt)
     else
      Option.bind (Qch p2 p3) fun r17 =>
      Qd3 r17
theorem Qop {p1:Int} {p2:Nat} {p3:Nat} {r:Nat} (h:Qej p1 p2 p3=some r) : Qa4 Tryz.prog 214 [(I p1),(FK p2),(FK p3)] (FK r):=by
 refine gM Tryz.func214 38 Xgo fun E hP hn hx=>?_
 unfold Qej at h
 let Z0:=fad p2 p3;let Z1:=fsb p2 p3;let Z2:=fml p2 p3;let Z3:=fdv p2 p3
 rcases itS h with ⟨c4,h⟩ | ⟨c5,h⟩
 ·obtain rfl:=sj h
  exact gR hP hn [hT 5,hh 8 (.bin (FK Z0))] [] .raw [(p1 == 4)=true,Qgd Tryz.prog .add 132 (FK p2) (FK p3) (FK Z0),(FK Z0)=(FK Z0),Qa3 (FK Z0)=true] ⟨c4,fAdd,rfl,rfl,trivial⟩
 ·rcases itS h with ⟨c6,h⟩ | ⟨c7,h⟩
  ·obtain rfl:=sj h
   exact gR hP hn [hF 5,hT 8,hh 11 (.bin (FK Z1))] [] .raw [(p1 == 4)=false,(p1 == 5)=true,Qgd Tryz.prog .sub 132 (FK p2) (FK p3) (FK Z1),(FK Z1)=(FK Z1),Qa3 (FK Z1)=true] ⟨c5,c6,fSub,rfl,rfl,trivial⟩
  ·let P1:List Prop:=[(p1 == 4)=false,(p1 == 5)=false]
   have AP1:Qam P1:=⟨c5,c7,trivial⟩
   rcases itS h with ⟨c8,h⟩ | ⟨c9,h⟩
   ·obtain rfl:=sj h
    exact gR hP hn [hF 5,hF 8,hT 11,hh 14 (.bin (FK Z2))] [] .raw (P1++[(p1 == 6)=true,Qgd Tryz.prog .mul 132 (FK p2) (FK p3) (FK Z2),(FK Z2)=(FK Z2),Qa3 (FK Z2)=true]) (Qa7 AP1 ⟨c8,fMul,rfl,rfl,trivial⟩)
   ·rcases itS h with ⟨c10,h⟩ | ⟨c11,h⟩
    ·obtain rfl:=sj h
     exact gR hP hn [hF 5,hF 8,hF 11,hT 14,hh 17 (.bin (FK Z3))] [] .raw (P1++[(p1 == 6)=false,(p1 == 7)=true,Qgd Tryz.prog .quo 132 (FK p2) (FK p3) (FK Z3),(FK Z3)=(FK Z3),Qa3 (FK Z3)=true]) (Qa7 AP1 ⟨c9,c10,Xo7,rfl,rfl,trivial⟩)
    ·rcases itS h with ⟨c12,h⟩ | ⟨c16,h⟩
     ·exact gT hP hn hx [hF 5,hF 8,hF 11,hF 14,hT 17,hh 20 (.bin (B ((Qci p2 p3) == some .lt)))] [] [7] [] (P1++[(p1 == 6)=false,(p1 == 7)=false,(p1 == 8)=true,Qgd Tryz.prog .lss 132 (FK p2) (FK p3) (B ((Qci p2 p3) == some .lt))]) (Qa7 AP1 ⟨c9,c11,c12,Xk8,trivial⟩) (Qlc hP hn hx ((Qci p2 p3) == some .lt) _ h)
     ·obtain ⟨r17,hr17,h⟩:=bnS h
      exact gT hP hn hx [hF 5,hF 8,hF 11,hF 14,hF 17,hh 20 (.callV [] (B r17))] [] [7] [] (P1++[(p1 == 6)=false,(p1 == 7)=false,(p1 == 8)=false,Qa4 Tryz.prog 182 [(FK p2),(FK p3)] (B r17),Qa3 (B r17)=true]) (Qa7 AP1 ⟨c9,c11,c16,(Qjt hr17),rfl,trivial⟩) (Qlc hP hn hx r17 _ h)
noncomputable def Xl9:Code:=match Tryz.f171.body with | some c=>c | none=>.skip
noncomputable def Qbp (p1:(List Qa0)) (p2:(List Nat)) (p3:(List Int)) (p4:Int) (p5:Int) (p6:GOp) (p7:Qaa) : Option (Qa1×Qaa):=
 Option.bind (rd p1 p5) fun x8 =>
 Option.bind (Qgn p6.Code) fun r9 =>
 Option.bind (slc x8.Stack (w64 ((x8.Stack.length:Int) - r9.1)) (x8.Stack.length:Int)) fun l10 =>
 Option.bind (app [] l10) fun l11 =>
 Option.bind (Qdg (Qa1.mk (p1.set (Int.toNat p5) (Qa0.mk x8.Routine x8.Pc x8.State x8.Cond x8.Lock x8.Stack)) p2 p3 p4) (Qa0.mk x8.Routine x8.Pc x8.State x8.Cond x8.Lock x8.Stack)) fun r12 =>
 Option.bind (slc x8.Stack 0 (w64 ((x8.Stack.length:Int) - r9.1))) fun l13 =>
 if (p6.Code == 1)=true then
  Option.bind (app l13 [p6.V]) fun l15 =>
  some ((Qa1.mk (p1.set (Int.toNat p5) (Qa0.mk x8.Routine (w64 (x8.Pc+1)) x8.State x8.Cond x8.Lock l15)) p2 p3 p4),(Qaa.mk p7.Thread 1 p7.Obj p7.Lock p7.Pc))
 else
  if (p6.Code == 2)=true then
   Option.bind (rd p2 p6.A) fun x18 =>
   Option.bind (app l13 [x18]) fun l19 =>
   some ((Qa1.mk (p1.set (Int.toNat p5) (Qa0.mk x8.Routine (w64 (x8.Pc+1)) x8.State x8.Cond x8.Lock l19)) p2 p3 p4),(Qaa.mk p7.Thread 2 p6.A p7.Lock p7.Pc))
  else
   if (p6.Code == 3)=true then
    Option.bind (rd l11 0) fun x22 =>
    Option.bind (rd p2 p6.A) fun x23 =>
    some ((Qa1.mk (p1.set (Int.toNat p5) (Qa0.mk x8.Routine (w64 (x8.Pc+1)) x8.State x8.Cond x8.Lock l13)) (p2.set (Int.toNat p6.A) x22) p3 p4),(Qaa.mk p7.Thread 3 p6.A p7.Lock p7.Pc))
   else
    if (p6.Code == 10)=true then
     some ((Qa1.mk (p1.set (Int.toNat p5) (Qa0.mk x8.Routine p6.A x8.State x8.Cond x8.Lock l13)) p2 p3 p4),(Qaa.mk p7.Thread 1 p7.Obj p7.Lock p7.Pc))
    else
     if (p6.Code == 11)=true then
      Option.bind (rd l11 0) fun x28 =>
      Option.bind (Qed x28) fun r33 =>
      if r33=true then
       some ((Qa1.mk (p1.set (Int.toNat p5) (Qa0.mk x8.Routine p6.A x8.State x8.Cond x8.Lock l13)) p2 p3 p4),(Qaa.mk p7.Thread 1 p7.Obj p7.Lock p7.Pc))
      else
       if ((Qci x28 0) == some .eq)=true then
        some ((Qa1.mk (p1.set (Int.toNat p5) (Qa0.mk x8.Routine p6.A x8.State x8.Cond x8.Lock l13)) p2 p3 p4),(Qaa.mk p7.Thread 1 p7.Obj p7.Lock p7.Pc))
       else
        some ((Qa1.mk (p1.set (Int.toNat p5) (Qa0.mk x8.Routine (w64 (x8.Pc+1)) x8.State x8.Cond x8.Lock l13)) p2 p3 p4),(Qaa.mk p7.Thread 1 p7.Obj p7.Lock p7.Pc))
     else
      if (p6.Code == 12)=true then
       Option.bind (rd p3 p6.A) fun x40 =>
       some ((Qa1.mk (p1.set (Int.toNat p5) (Qa0.mk x8.Routine (w64 (x8.Pc+1)) x8.State x8.Cond x8.Lock l13)) p2 (p3.set (Int.toNat p6.A) p5) p4),(Qaa.mk p7.Thread 4 p6.A p7.Lock p7.Pc))
      else
       if (p6.Code == 13)=true then
        Option.bind (rd p3 p6.A) fun x43 =>
        some ((Qa1.mk (p1.set (Int.toNat p5) (Qa0.mk x8.Routine (w64 (x8.Pc+1)) x8.State x8.Cond x8.Lock l13)) p2 (p3.set (Int.toNat p6.A) (-1)) p4),(Qaa.mk p7.Thread 5 p6.A p7.Lock p7.Pc))
       else
        if (p6.Code == 14)=true then
         Option.bind (app l13 [(fOf (p1.length:Int))]) fun l46 =>
         Option.bind (Qee p6.A) fun r47 =>
         Option.bind (app p1 [(Qa0.mk r47.Routine r47.Pc r47.State r47.Cond r47.Lock r47.Stack)]) fun l48 =>
         Option.bind (rd l48 p5) fun x49 =>
         some ((Qa1.mk (l48.set (Int.toNat p5) (Qa0.mk x8.Routine (w64 (x8.Pc+1)) x8.State x8.Cond x8.Lock l46)) p2 p3 p4),(Qaa.mk p7.Thread 6 (p1.length:Int) p7.Lock p7.Pc))
        else
         if (p6.Code == 15)=true then
          some ((Qa1.mk (p1.set (Int.toNat p5) (Qa0.mk x8.Routine (w64 (x8.Pc+1)) x8.State x8.Cond x8.Lock l13)) p2 p3 p4),(Qaa.mk p7.Thread 7 r12 p7.Lock p7.Pc))
         else
          if (p6.Code == 16)=true then
           Option.bind (rd p3 p6.B) fun x54 =>
           some ((Qa1.mk (p1.set (Int.toNat p5) (Qa0.mk x8.Routine (w64 ((w64 (x8.Pc+1)) - 1)) 3 p6.A p6.B l13)) p2 (p3.set (Int.toNat p6.B) (-1)) p4),(Qaa.mk p7.Thread 8 p6.A p6.B p7.Pc))
          else
           if (p6.Code == 17)=true then
            none
           else
            Option.bind (rd l11 0) fun x58 =>
            Option.bind (rd l11 1) fun x59 =>
            Option.bind (Qej p6.Code x58 x59) fun r60 =>
            Option.bind (app l13 [r60]) fun l61 =>
            some ((Qa1.mk (p1.set (Int.toNat p5) (Qa0.mk x8.Routine (w64 (x8.Pc+1)) x8.State x8.Cond x8.Lock l61)) p2 p3 p4),(Qaa.mk p7.Thread 1 p7.Obj p7.Lock p7.Pc))
theorem Qxl {p1:(List Qa0)} {p2:(List Nat)} {p3:(List Int)} {p4:Int} {p5:Int} {p6:GOp} {p7:Qaa} {r:(Qa1×Qaa)} (h:Qbp p1 p2 p3 p4 p5 p6 p7=some r) : Qo1 Tryz.prog 171 [⟨70,6,(p1.map o70)⟩,⟨132,1,(p2.map Qae)⟩,⟨3,1,(p3.map o3)⟩] [(AV.agg [(AV.sl 0 0 (List.length (p1.map o70))),(AV.sl 1 0 (List.length (p2.map Qae))),(AV.sl 2 0 (List.length (p3.map o3))),(I p4)]),(I p5),(AV.agg ((Qbj p6))),(AV.agg ((o60 p7)))] [false,false,false] [⟨70,6,(p1.map o70)⟩,⟨132,1,(p2.map Qae)⟩,⟨3,1,(p3.map o3)⟩] (AV.tup [(AV.agg (o44 r.1)),(AV.agg (o60 r.2))]):=by
 refine Qlv Xbu Tryz.func171 rfl (c:=Xl9) (by kernel_rfl) (Nat.le_of_ble_eq_true rfl) rfl (Nat.le_of_ble_eq_true rfl) rfl (fr:=[]) (frI rfl) ?_
 intro E hP hn hx
 replace hn:E.n=247:=hn
 unfold Qbp at h
 obtain ⟨x8,hx8,h⟩:=bnS h
 obtain ⟨r9,hr9,h⟩:=bnS h
 obtain ⟨l10,hl10,h⟩:=bnS h
 obtain ⟨l11,hl11,h⟩:=bnS h
 obtain ⟨r12,hr12,h⟩:=bnS h
 obtain ⟨l13,hl13,h⟩:=bnS h
 let Z0:=I x8.Routine;let Z1:=I x8.State;let Z2:=I x8.Cond;let Z3:=I x8.Lock;let Z4:=x8.Stack.map Qae;let Z5:=[Z0,(I x8.Pc),Z1,Z2,Z3,(AV.own 132 1 Z4)];let Z6:=p1.map o70;let Z7:=AV.sl 1006 0 Z4.length;let Z8:=[Z0,(I x8.Pc),Z1,Z2,Z3,Z7];let Z9:=Z6.set p5.toNat Z8;let Z10:=AV.tup [(I r9.1),(I r9.2)];let Z11:=(x8.Stack.length:Int);let Z12:=l11.map Qae;let Z13:=(p1.set p5.toNat (Qa0.mk x8.Routine x8.Pc x8.State x8.Cond x8.Lock x8.Stack)).map r70;let Z14:=p2.map Qae;let Z15:=p3.map o3;let Z16:=[Z0,(I x8.Pc),Z1,Z2,Z3,AV.dead];let Z17:=Z6.set p5.toNat Z16;let Z18:=l13.map Qae;let Z19:=((Z6.length:Nat) : Int);let Z20:=((Z4.length:Nat) : Int);let Z21:=w64 (Z11 - r9.1);let Z22:=(Z4.drop Z21.toNat).take (Xe9 Z20.toNat Z21.toNat);let Z23:=I p4;let Z24:=Qas.mk 132 1 Z4;let Z26:=x8.Pc+1;let Z27:=w64 Z26;let Z32:=(([p6.V].map Qae).drop 0).take ([p6.V].map Qae).length;let Z33:=((Z17.length:Nat) : Int);let Z34:=AV.sl 0 0 Z6.length;let Z35:=AV.sl 1 0 Z14.length;let Z36:=AV.sl 2 0 Z15.length;let Z37:=AV.agg [Z34,Z35,Z36,Z23];let Z38:=I p7.Thread;let Z39:=I p7.Lock;let Z40:=I p7.Pc;let Z41:=AV.agg [Z38,(I 1),(I p7.Obj),Z39,Z40];let Z42:=Qas.mk 44 4 [[Z34,Z35,Z36,Z23]];let Z43:=Z14.take Z14.length;let Z44:=Z15.take Z15.length;let Z50:=((Z14.length:Nat) : Int);let Z51:=AV.ptr 1007 0 5;let Z52:=AV.sl 1010 0 Z18.length;let Z54:=I p6.A;let Z55:=AV.agg [Z38,(I 2),Z54,Z39,Z40];let Z57:=[Z0,(I Z27),Z1,Z2,Z3,Z52];let Z58:=Z6.set p5.toNat Z57;let Z59:=(p1.set p5.toNat (Qa0.mk x8.Routine Z27 x8.State x8.Cond x8.Lock l13)).map o70;let Z60:=((Z12.length:Nat) : Int);let Z61:=wr Z16 0 Z57;let Z62:=AV.agg [Z38,(I 3),Z54,Z39,Z40];let Z63:=AV.own 132 1 Z18;let Z64:=Z57.set 5 Z63;let Z65:=Z59.take Z6.length;let Z66:=Qa0.mk x8.Routine (w64 Z26) x8.State x8.Cond x8.Lock l13;let Z67:=[Z0,Z54,Z1,Z2,Z3,Z52];let Z68:=Z6.set p5.toNat Z67;let Z69:=(p1.set p5.toNat (Qa0.mk x8.Routine p6.A x8.State x8.Cond x8.Lock l13)).map o70;let Z70:=wr Z16 0 Z67;let Z71:=Z67.set 5 Z63;let Z72:=Z69.take Z6.length;let Z73:=Qa0.mk x8.Routine p6.A x8.State x8.Cond x8.Lock l13;let Z75:=(p3.set p6.A.toNat p5).map o3;let Z76:=((Z15.length:Nat) : Int);let Z77:=AV.agg [Z38,(I 4),Z54,Z39,Z40];let Z78:=(p3.set p6.A.toNat (-1)).map o3;let Z79:=p6.Code == 13;let Z80:=[(I (-1))];let Z81:=AV.agg [Z38,(I 5),Z54,Z39,Z40];let Z82:=(I (p1.length:Int));let Z83:=(fOf (p1.length:Int));let Z95:=(([Z83].map Qae).drop 0).take ([Z83].map Qae).length;let Z96:=AV.ptr 1001 0 0;let Z98:=AV.agg [Z38,(I 6),Z82,Z39,Z40];let Z99:=p6.Code == 15;let Z100:=AV.agg [Z38,(I 7),(I r12),Z39,Z40];let Z101:=(p3.set p6.B.toNat (-1)).map o3;let Z102:=[Z0,(I (w64 (Z27 - 1))),(I 3),Z54,(I p6.B),Z52];let Z103:=Z6.set p5.toNat Z102;let Z104:=(p1.set p5.toNat (Qa0.mk x8.Routine (w64 (Z27 - 1)) 3 p6.A p6.B l13)).map o70;let Z105:=AV.agg [Z38,(I 8),Z54,(I p6.B),Z40]
 let H1:List Hn:=[hW 0 1001,hW 1 1002,hW 2 1003,hW 3 1004,hW 4 1005,hh 9 (.unpack 0 1006 p5.toNat 5 Z5 132 1 Z4 Z9),hh 9 (.row Z8),hW 10 1007,hh 14 (.callV [] Z10),hW 20 1008,hO 25 (I Z11),hh 29 (.app 1009 Z12),hh 33 (.callD [1006] [Z13,Z14,Z15,Z4] (I r12) []),hO 39 (I Z11),hh 42 (.fgt 0 p5.toNat 5 Z8 Z17),hh 42 (.shr 1010 Z18)]
 let P2:List Prop:=[(0:Int)≤p5,p5<Z19,Z6[p5.toNat]? = some Z5,Z5[5]? = some (AV.own 132 1 Z4),0<1,Z6.set p5.toNat (Z5.set 5 Z7)=Z9,Z9[p5.toNat]? = some Z8,Qa4 Tryz.prog 212 [(I p6.Code)] Z10,Qa3 Z10=true,AV.lit (.int .i64 Z20)=(I Z11),(0:Int)≤Z21,Z21≤Z20,Z20≤Z20,([].map Qae).take ([].map Qae).length++Z22=Z12,Z22.all (fun r=>r.all AV.plain)=true,Z12.length * 8≤140737488355328,Z12.length≤140737488355328,Qa4 Tryz.prog 211 [(AV.agg [(AV.ro 6 Z13),(AV.ro 1 Z14),(AV.ro 1 Z15),Z23]),(AV.agg [Z0,(I x8.Pc),Z1,Z2,Z3,(AV.ro 1 Z4)])] (I r12),Qc2 (I r12)=true,Qt9 [(1006,Z24)] ((Z9.drop 0).take Z6.length)=some Z13,Qt9 [(1006,Z24)] ((Z14.drop 0).take Z14.length)=some Z14,Qt9 [(1006,Z24)] ((Z15.drop 0).take Z15.length)=some Z15,Qt9 [(1006,Z24)] ((Z4.drop 0).take Z4.length)=some Z4,AV.lit (.int .i64 Z20)=(I Z11),Z9[p5.toNat]? = some Z8,Z9.set p5.toNat (Z8.set 5 .dead)=Z17,(0:Int)≤Z21,Z21≤Z20,Z4.take Z21.toNat=Z18,Z4.length=Z4.length]
 have AP2:Qam P2:=⟨(rd0 hx8),(rdL o70 hx8),(rdM o70 hx8),rfl,(by decide),rfl,(Qcc (rdM o70 hx8)),(Qli hr9),rfl,(Qby Qae),(sl0 hl10),(sl1e Qae hl10),(Int.le_refl _),(Xeq Qae hl11 hl10),(plD Qkp),(Qn2 Qae hl11 (by decide)),(Qn1 Qae hl11),(Qiy hr12),rfl,(rsWn lnq (Xk9 t70 z70 (y:=(Qa0.mk x8.Routine x8.Pc x8.State x8.Cond x8.Lock x8.Stack)) (Qtp rfl (Qtp rfl (Qtp rfl (Qtp rfl (Qtp rfl (Qtp (Xjy (R:=⟨132,1,Z4⟩) rfl (Qfx Qbs Qqn)) rfl)))))))),(rsW (Qlb Qbs Qqn _)),(rsW (Qlb t3 z3 _)),(rsW (Qlb Qbs Qqn _)),(Qby Qae),(Qcc (rdM o70 hx8)),(Qfh rfl),(sl1 hl13),(sl2 Qae hl13),(shT Qae hl13),rfl,trivial⟩
 rcases itS h with ⟨c14,h⟩ | ⟨c16,h⟩
 ·obtain ⟨l15,hl15,h⟩:=bnS h
  obtain rfl:=sj h
  exact (let Z25:=l15.map Qae;let Z28:=AV.sl 1012 0 Z25.length;let Z29:=[Z0,(I Z27),Z1,Z2,Z3,Z28];let Z30:=Z6.set p5.toNat Z29;let Z31:=(p1.set p5.toNat (Qa0.mk x8.Routine Z27 x8.State x8.Cond x8.Lock l15)).map o70;gR hP hn (H1++[hT 56,hW 61 1011,hh 62 (.app 1012 Z25),hh 69 (.slen 241 Z17.length),hh 70 (.sto Z16 Z30),hh 75 (.pack 0 1012 p5.toNat 5 Z29 Z31)]) [] (.agg [.agg [.own,.own,.own,.raw],.raw]) (P2++[(p6.Code == 1)=true,Z18.take Z18.length++Z32=Z25,Z32.all (fun r=>r.all AV.plain)=true,Z25.length * 8≤140737488355328,Z25.length≤140737488355328,Z6.length=Z17.length,(0:Int)≤p5,p5<Z33,Z17[p5.toNat]? = some Z16,Z17.set p5.toNat (wr Z16 0 Z29)=Z30,Z29.length=6,0+Z29.length≤Z16.length,Z37=Z37,Z41=Z41,Z41=Z41,[(1004,some Z42)]=[(1004,some Z42)],Z30[p5.toNat]? = some Z29,Z29[5]? = some Z28,Qa2 Z25=true,Z30.set p5.toNat (Z29.set 5 (AV.own 132 1 Z25))=Z31,Qa2 (Z31.take Z6.length)=true,Z31.take Z6.length=Z31,Qa6 Z31=true,Qa2 Z43=true,Z14.take Z14.length=Z14,Qa6 Z14=true,Qa2 Z44=true,Z15.take Z15.length=Z15,Qa6 Z15=true,Z23=Z23,Qa3 Z23=true,Z41=Z41,Qa3 Z41=true]) (Qa7 AP2 ⟨c14,(Qix Qae hl15),(plD Qkp),(Qn2 Qae hl15 (by decide)),(Qn1 Qae hl15),lnq,(rd0 hx8),(Qrx o70 hx8),(Qcc (rdM o70 hx8)),(Qfh rfl),rfl,leB,rfl,rfl,rfl,rfl,(Qcc (rdM o70 hx8)),rfl,(Qab Qbs),(Qfz o70 (y:=(Qa0.mk x8.Routine (w64 Z26) x8.State x8.Cond x8.Lock l15)) rfl),(Qct lnq (Qab t70)),(Qfb lnq),(Qa9 n70),(Qb7 Qbs),Qb6,(Qa9 Qe7),(Qb7 t3),Qb6,(Qa9 n3),rfl,rfl,rfl,rfl,trivial⟩))
 ·let P3:List Prop:=P2++[(p6.Code == 1)=false]
  have AP3:Qam P3:=Qa7 AP2 ⟨c16,trivial⟩
  rcases itS h with ⟨c17,h⟩ | ⟨c20,h⟩
  ·obtain ⟨x18,hx18,h⟩:=bnS h
   obtain ⟨l19,hl19,h⟩:=bnS h
   obtain rfl:=sj h
   exact (let Z45:=l19.map Qae;let Z46:=AV.sl 1014 0 Z45.length;let Z47:=[Z0,(I Z27),Z1,Z2,Z3,Z46];let Z48:=Z6.set p5.toNat Z47;let Z49:=(p1.set p5.toNat (Qa0.mk x8.Routine Z27 x8.State x8.Cond x8.Lock l19)).map o70;let Z53:=(([x18].map Qae).drop 0).take ([x18].map Qae).length;gR hP hn (H1++[hF 56,hT 59,hh 73 (.row [(FK x18)]),hW 74 1013,hh 77 (.app 1014 Z45),hh 84 (.slen 241 Z17.length),hh 85 (.sto Z16 Z48),hh 90 (.pack 0 1014 p5.toNat 5 Z47 Z49)]) [] (.agg [.agg [.own,.own,.own,.raw],.raw]) (P3++[(p6.Code == 2)=true,(0:Int)≤p6.A,p6.A<Z50,Z14[p6.A.toNat]? = some [(FK x18)],Z51=Z51,Z52=Z52,Z18.take Z18.length++Z53=Z45,Z53.all (fun r=>r.all AV.plain)=true,Z45.length * 8≤140737488355328,Z45.length≤140737488355328,Z6.length=Z17.length,(0:Int)≤p5,p5<Z33,Z17[p5.toNat]? = some Z16,Z17.set p5.toNat (wr Z16 0 Z47)=Z48,Z47.length=6,0+Z47.length≤Z16.length,Z37=Z37,Z55=Z55,Z55=Z55,[(1004,some Z42)]=[(1004,some Z42)],Z48[p5.toNat]? = some Z47,Z47[5]? = some Z46,Qa2 Z45=true,Z48.set p5.toNat (Z47.set 5 (AV.own 132 1 Z45))=Z49,Qa2 (Z49.take Z6.length)=true,Z49.take Z6.length=Z49,Qa6 Z49=true,Qa2 Z43=true,Z14.take Z14.length=Z14,Qa6 Z14=true,Qa2 Z44=true,Z15.take Z15.length=Z15,Qa6 Z15=true,Z23=Z23,Qa3 Z23=true,Z55=Z55,Qa3 Z55=true]) (Qa7 AP3 ⟨c17,(rd0 hx18),(rdL Qae hx18),(rdM Qae hx18),rfl,rfl,(Qix Qae hl19),(plD Qkp),(Qn2 Qae hl19 (by decide)),(Qn1 Qae hl19),lnq,(rd0 hx8),(Qrx o70 hx8),(Qcc (rdM o70 hx8)),(Qfh rfl),rfl,leB,rfl,rfl,rfl,rfl,(Qcc (rdM o70 hx8)),rfl,(Qab Qbs),(Qfz o70 (y:=(Qa0.mk x8.Routine (w64 Z26) x8.State x8.Cond x8.Lock l19)) rfl),(Qct lnq (Qab t70)),(Qfb lnq),(Qa9 n70),(Qb7 Qbs),Qb6,(Qa9 Qe7),(Qb7 t3),Qb6,(Qa9 n3),rfl,rfl,rfl,rfl,trivial⟩))
  ·let H4:List Hn:=H1++[hF 56,hF 59]
   let P5:List Prop:=P3++[(p6.Code == 2)=false]
   have AP5:Qam P5:=Qa7 AP3 ⟨c20,trivial⟩
   rcases itS h with ⟨c21,h⟩ | ⟨c24,h⟩
   ·obtain ⟨x22,hx22,h⟩:=bnS h
    obtain ⟨x23,hx23,h⟩:=bnS h
    obtain rfl:=sj h
    exact (let Z56:=(p2.set p6.A.toNat x22).map Qae;gR hP hn (H4++[hT 62,hh 75 (.row [(FK x22)]),hh 77 (.sto [(FK x23)] Z56),hh 82 (.slen 241 Z17.length),hh 83 (.sto Z16 Z58),hh 88 (.pack 0 1010 p5.toNat 5 Z57 Z59)]) [] (.agg [.agg [.own,.own,.own,.raw],.raw]) (P5++[(p6.Code == 3)=true,(0:Int)≤0,0<Z60,Z12[(Int.toNat 0)]? = some [(FK x22)],(0:Int)≤p6.A,p6.A<Z50,Z14[p6.A.toNat]? = some [(FK x23)],Z14.set p6.A.toNat (wr [(FK x23)] 0 [(FK x22)])=Z56,[(FK x22)].length=1,0 + [(FK x22)].length≤[(FK x23)].length,Z6.length=Z17.length,(0:Int)≤p5,p5<Z33,Z17[p5.toNat]? = some Z16,Z17.set p5.toNat Z61=Z58,Z57.length=6,0+Z57.length≤Z16.length,Z37=Z37,Z62=Z62,Z62=Z62,[(1004,some Z42)]=[(1004,some Z42)],Z58[p5.toNat]? = some Z57,Z57[5]? = some Z52,Qa2 Z18=true,Z58.set p5.toNat Z64=Z59,Qa2 Z65=true,Z59.take Z6.length=Z59,Qa6 Z59=true,Qa2 (Z56.take Z14.length)=true,Z56.take Z14.length=Z56,Qa6 Z56=true,Qa2 Z44=true,Z15.take Z15.length=Z15,Qa6 Z15=true,Z23=Z23,Qa3 Z23=true,Z62=Z62,Qa3 Z62=true]) (Qa7 AP5 ⟨c21,(rd0 hx22),(rdL Qae hx22),(rdM Qae hx22),(rd0 hx23),(rdL Qae hx23),(rdM Qae hx23),(Qw5 Qae),rfl,leB,lnq,(rd0 hx8),(Qrx o70 hx8),(Qcc (rdM o70 hx8)),(Qfh rfl),rfl,leB,rfl,rfl,rfl,rfl,(Qcc (rdM o70 hx8)),rfl,(Qab Qbs),(Qfz o70 (y:=Z66) rfl),(Qct lnq (Qab t70)),(Qfb lnq),(Qa9 n70),(Qct lnq (Qab Qbs)),(Qfb lnq),(Qa9 Qe7),(Qb7 t3),Qb6,(Qa9 n3),rfl,rfl,rfl,rfl,trivial⟩))
   ·let P6:List Prop:=P5++[(p6.Code == 3)=false]
    have AP6:Qam P6:=Qa7 AP5 ⟨c24,trivial⟩
    rcases itS h with ⟨c25,h⟩ | ⟨c26,h⟩
    ·obtain rfl:=sj h
     exact gR hP hn (H4++[hF 62,hT 65,hh 74 (.slen 241 Z17.length),hh 75 (.sto Z16 Z68),hh 80 (.pack 0 1010 p5.toNat 5 Z67 Z69)]) [] (.agg [.agg [.own,.own,.own,.raw],.raw]) (P6++[(p6.Code == 10)=true,Z6.length=Z17.length,(0:Int)≤p5,p5<Z33,Z17[p5.toNat]? = some Z16,Z17.set p5.toNat Z70=Z68,Z67.length=6,0+Z67.length≤Z16.length,Z37=Z37,Z41=Z41,Z41=Z41,[(1004,some Z42)]=[(1004,some Z42)],Z68[p5.toNat]? = some Z67,Z67[5]? = some Z52,Qa2 Z18=true,Z68.set p5.toNat Z71=Z69,Qa2 Z72=true,Z69.take Z6.length=Z69,Qa6 Z69=true,Qa2 Z43=true,Z14.take Z14.length=Z14,Qa6 Z14=true,Qa2 Z44=true,Z15.take Z15.length=Z15,Qa6 Z15=true,Z23=Z23,Qa3 Z23=true,Z41=Z41,Qa3 Z41=true]) (Qa7 AP6 ⟨c25,lnq,(rd0 hx8),(Qrx o70 hx8),(Qcc (rdM o70 hx8)),(Qfh rfl),rfl,leB,rfl,rfl,rfl,rfl,(Qcc (rdM o70 hx8)),rfl,(Qab Qbs),(Qfz o70 (y:=Z73) rfl),(Qct lnq (Qab t70)),(Qfb lnq),(Qa9 n70),(Qb7 Qbs),Qb6,(Qa9 Qe7),(Qb7 t3),Qb6,(Qa9 n3),rfl,rfl,rfl,rfl,trivial⟩)
    ·let H7:List Hn:=H4++[hF 62,hF 65]
     let P8:List Prop:=P6++[(p6.Code == 10)=false]
     have AP8:Qam P8:=Qa7 AP6 ⟨c26,trivial⟩
     rcases itS h with ⟨c27,h⟩ | ⟨c38,h⟩
     ·obtain ⟨x28,hx28,h⟩:=bnS h
      obtain ⟨r33,hr33,h⟩:=bnS h
      let Z74:=Qci x28 0
      let H9:List Hn:=H7++[hT 68,hh 71 (.row [(FK x28)]),hh 72 (.callV [] (B r33))]
      let P10:List Prop:=P8++[(p6.Code == 11)=true,(0:Int)≤0,0<Z60,Z12[(Int.toNat 0)]? = some [(FK x28)],Qa4 Tryz.prog 213 [(FK x28)] (B r33),Qa3 (B r33)=true]
      have AP10:Qam P10:=Qa7 AP8 ⟨c27,(rd0 hx28),(rdL Qae hx28),(rdM Qae hx28),(Qer hr33),rfl,trivial⟩
      rcases itS h with ⟨c34,h⟩ | ⟨c35,h⟩
      ·obtain rfl:=sj h
       exact gR hP hn (H9++[hO 73 (B true),hh 88 (.slen 241 Z17.length),hh 89 (.sto Z16 Z68),hh 94 (.pack 0 1010 p5.toNat 5 Z67 Z69)]) [] (.agg [.agg [.own,.own,.own,.raw],.raw]) (P10++[(B r33)=(B true),Z6.length=Z17.length,(0:Int)≤p5,p5<Z33,Z17[p5.toNat]? = some Z16,Z17.set p5.toNat Z70=Z68,Z67.length=6,0+Z67.length≤Z16.length,Z37=Z37,Z41=Z41,Z41=Z41,[(1004,some Z42)]=[(1004,some Z42)],Z68[p5.toNat]? = some Z67,Z67[5]? = some Z52,Qa2 Z18=true,Z68.set p5.toNat Z71=Z69,Qa2 Z72=true,Z69.take Z6.length=Z69,Qa6 Z69=true,Qa2 Z43=true,Z14.take Z14.length=Z14,Qa6 Z14=true,Qa2 Z44=true,Z15.take Z15.length=Z15,Qa6 Z15=true,Z23=Z23,Qa3 Z23=true,Z41=Z41,Qa3 Z41=true]) (Qa7 AP10 ⟨(Qau c34),lnq,(rd0 hx8),(Qrx o70 hx8),(Qcc (rdM o70 hx8)),(Qfh rfl),rfl,leB,rfl,rfl,rfl,rfl,(Qcc (rdM o70 hx8)),rfl,(Qab Qbs),(Qfz o70 (y:=Z73) rfl),(Qct lnq (Qab t70)),(Qfb lnq),(Qa9 n70),(Qb7 Qbs),Qb6,(Qa9 Qe7),(Qb7 t3),Qb6,(Qa9 n3),rfl,rfl,rfl,rfl,trivial⟩)
      ·let H11:List Hn:=H9++[hO 73 (B false),hh 76 (.row [(FK x28)]),hh 77 (.bin (B (Z74 == some .eq)))]
       let P12:List Prop:=P10++[(B r33)=(B false),(0:Int)≤0,0<Z60,Z12[(Int.toNat 0)]? = some [(FK x28)],Qgd Tryz.prog .eql 132 (FK x28) (FK 0) (B (Z74 == some .eq))]
       have AP12:Qam P12:=Qa7 AP10 ⟨(Qau c35),(rd0 hx28),(rdL Qae hx28),(rdM Qae hx28),Xfi,trivial⟩
       rcases itS h with ⟨c36,h⟩ | ⟨c37,h⟩
       ·obtain rfl:=sj h
        exact gR hP hn (H11++[hT 79,hh 88 (.slen 241 Z17.length),hh 89 (.sto Z16 Z68),hh 94 (.pack 0 1010 p5.toNat 5 Z67 Z69)]) [] (.agg [.agg [.own,.own,.own,.raw],.raw]) (P12++[(Z74 == some .eq)=true,Z6.length=Z17.length,(0:Int)≤p5,p5<Z33,Z17[p5.toNat]? = some Z16,Z17.set p5.toNat Z70=Z68,Z67.length=6,0+Z67.length≤Z16.length,Z37=Z37,Z41=Z41,Z41=Z41,[(1004,some Z42)]=[(1004,some Z42)],Z68[p5.toNat]? = some Z67,Z67[5]? = some Z52,Qa2 Z18=true,Z68.set p5.toNat Z71=Z69,Qa2 Z72=true,Z69.take Z6.length=Z69,Qa6 Z69=true,Qa2 Z43=true,Z14.take Z14.length=Z14,Qa6 Z14=true,Qa2 Z44=true,Z15.take Z15.length=Z15,Qa6 Z15=true,Z23=Z23,Qa3 Z23=true,Z41=Z41,Qa3 Z41=true]) (Qa7 AP12 ⟨c36,lnq,(rd0 hx8),(Qrx o70 hx8),(Qcc (rdM o70 hx8)),(Qfh rfl),rfl,leB,rfl,rfl,rfl,rfl,(Qcc (rdM o70 hx8)),rfl,(Qab Qbs),(Qfz o70 (y:=Z73) rfl),(Qct lnq (Qab t70)),(Qfb lnq),(Qa9 n70),(Qb7 Qbs),Qb6,(Qa9 Qe7),(Qb7 t3),Qb6,(Qa9 n3),rfl,rfl,rfl,rfl,trivial⟩)
       ·obtain rfl:=sj h
        exact gR hP hn (H11++[hF 79,hh 84 (.slen 241 Z17.length),hh 85 (.sto Z16 Z58),hh 90 (.pack 0 1010 p5.toNat 5 Z57 Z59)]) [] (.agg [.agg [.own,.own,.own,.raw],.raw]) (P12++[(Z74 == some .eq)=false,Z6.length=Z17.length,(0:Int)≤p5,p5<Z33,Z17[p5.toNat]? = some Z16,Z17.set p5.toNat Z61=Z58,Z57.length=6,0+Z57.length≤Z16.length,Z37=Z37,Z41=Z41,Z41=Z41,[(1004,some Z42)]=[(1004,some Z42)],Z58[p5.toNat]? = some Z57,Z57[5]? = some Z52,Qa2 Z18=true,Z58.set p5.toNat Z64=Z59,Qa2 Z65=true,Z59.take Z6.length=Z59,Qa6 Z59=true,Qa2 Z43=true,Z14.take Z14.length=Z14,Qa6 Z14=true,Qa2 Z44=true,Z15.take Z15.length=Z15,Qa6 Z15=true,Z23=Z23,Qa3 Z23=true,Z41=Z41,Qa3 Z41=true]) (Qa7 AP12 ⟨c37,lnq,(rd0 hx8),(Qrx o70 hx8),(Qcc (rdM o70 hx8)),(Qfh rfl),rfl,leB,rfl,rfl,rfl,rfl,(Qcc (rdM o70 hx8)),rfl,(Qab Qbs),(Qfz o70 (y:=Z66) rfl),(Qct lnq (Qab t70)),(Qfb lnq),(Qa9 n70),(Qb7 Qbs),Qb6,(Qa9 Qe7),(Qb7 t3),Qb6,(Qa9 n3),rfl,rfl,rfl,rfl,trivial⟩)
     ·let P13:List Prop:=P8++[(p6.Code == 11)=false]
      have AP13:Qam P13:=Qa7 AP8 ⟨c38,trivial⟩
      rcases itS h with ⟨c39,h⟩ | ⟨c41,h⟩
      ·obtain ⟨x40,hx40,h⟩:=bnS h
       obtain rfl:=sj h
       exact gR hP hn (H7++[hF 68,hT 71,hh 84 (.sto [(I x40)] Z75),hh 89 (.slen 241 Z17.length),hh 90 (.sto Z16 Z58),hh 95 (.pack 0 1010 p5.toNat 5 Z57 Z59)]) [] (.agg [.agg [.own,.own,.own,.raw],.raw]) (P13++[(p6.Code == 12)=true,(0:Int)≤p6.A,p6.A<Z76,Z15[p6.A.toNat]? = some [(I x40)],Z15.set p6.A.toNat (wr [(I x40)] 0 [(I p5)])=Z75,[(I p5)].length=1,0 + [(I p5)].length≤[(I x40)].length,Z6.length=Z17.length,(0:Int)≤p5,p5<Z33,Z17[p5.toNat]? = some Z16,Z17.set p5.toNat Z61=Z58,Z57.length=6,0+Z57.length≤Z16.length,Z37=Z37,Z77=Z77,Z77=Z77,[(1004,some Z42)]=[(1004,some Z42)],Z58[p5.toNat]? = some Z57,Z57[5]? = some Z52,Qa2 Z18=true,Z58.set p5.toNat Z64=Z59,Qa2 Z65=true,Z59.take Z6.length=Z59,Qa6 Z59=true,Qa2 Z43=true,Z14.take Z14.length=Z14,Qa6 Z14=true,Qa2 (Z75.take Z15.length)=true,Z75.take Z15.length=Z75,Qa6 Z75=true,Z23=Z23,Qa3 Z23=true,Z77=Z77,Qa3 Z77=true]) (Qa7 AP13 ⟨c39,(rd0 hx40),(rdL o3 hx40),(rdM o3 hx40),(Qw5 o3),rfl,leB,lnq,(rd0 hx8),(Qrx o70 hx8),(Qcc (rdM o70 hx8)),(Qfh rfl),rfl,leB,rfl,rfl,rfl,rfl,(Qcc (rdM o70 hx8)),rfl,(Qab Qbs),(Qfz o70 (y:=Z66) rfl),(Qct lnq (Qab t70)),(Qfb lnq),(Qa9 n70),(Qb7 Qbs),Qb6,(Qa9 Qe7),(Qct lnq (Qab t3)),(Qfb lnq),(Qa9 n3),rfl,rfl,rfl,rfl,trivial⟩)
      ·let P14:List Prop:=P13++[(p6.Code == 12)=false]
       have AP14:Qam P14:=Qa7 AP13 ⟨c41,trivial⟩
       rcases itS h with ⟨c42,h⟩ | ⟨c44,h⟩
       ·obtain ⟨x43,hx43,h⟩:=bnS h
        obtain rfl:=sj h
        exact gR hP hn (H7++[hF 68,hF 71,hT 74,hh 86 (.sto [(I x43)] Z78),hh 91 (.slen 241 Z17.length),hh 92 (.sto Z16 Z58),hh 97 (.pack 0 1010 p5.toNat 5 Z57 Z59)]) [] (.agg [.agg [.own,.own,.own,.raw],.raw]) (P14++[Z79=true,(0:Int)≤p6.A,p6.A<Z76,Z15[p6.A.toNat]? = some [(I x43)],Z15.set p6.A.toNat (wr [(I x43)] 0 Z80)=Z78,Z80.length=1,0+Z80.length≤[(I x43)].length,Z6.length=Z17.length,(0:Int)≤p5,p5<Z33,Z17[p5.toNat]? = some Z16,Z17.set p5.toNat Z61=Z58,Z57.length=6,0+Z57.length≤Z16.length,Z37=Z37,Z81=Z81,Z81=Z81,[(1004,some Z42)]=[(1004,some Z42)],Z58[p5.toNat]? = some Z57,Z57[5]? = some Z52,Qa2 Z18=true,Z58.set p5.toNat Z64=Z59,Qa2 Z65=true,Z59.take Z6.length=Z59,Qa6 Z59=true,Qa2 Z43=true,Z14.take Z14.length=Z14,Qa6 Z14=true,Qa2 (Z78.take Z15.length)=true,Z78.take Z15.length=Z78,Qa6 Z78=true,Z23=Z23,Qa3 Z23=true,Z81=Z81,Qa3 Z81=true]) (Qa7 AP14 ⟨c42,(rd0 hx43),(rdL o3 hx43),(rdM o3 hx43),(Qw5 o3),rfl,leB,lnq,(rd0 hx8),(Qrx o70 hx8),(Qcc (rdM o70 hx8)),(Qfh rfl),rfl,leB,rfl,rfl,rfl,rfl,(Qcc (rdM o70 hx8)),rfl,(Qab Qbs),(Qfz o70 (y:=Z66) rfl),(Qct lnq (Qab t70)),(Qfb lnq),(Qa9 n70),(Qb7 Qbs),Qb6,(Qa9 Qe7),(Qct lnq (Qab t3)),(Qfb lnq),(Qa9 n3),rfl,rfl,rfl,rfl,trivial⟩)
       ·rcases itS h with ⟨c45,h⟩ | ⟨c50,h⟩
        ·obtain ⟨l46,hl46,h⟩:=bnS h
         obtain ⟨r47,hr47,h⟩:=bnS h
         obtain ⟨l48,hl48,h⟩:=bnS h
         obtain ⟨x49,hx49,h⟩:=bnS h
         obtain rfl:=sj h
         exact (let Z84:=l46.map Qae;let Z85:=AV.agg (o70 r47);let Z86:=r47.Stack.map Qae;let Z87:=AV.sl 1017 0 Z86.length;let Z88:=[(I r47.Routine),(I r47.Pc),(I r47.State),(I r47.Cond),(I r47.Lock),Z87];let Z89:=Z17++[Z88];let Z90:=(l48.map o70).set p5.toNat Z16;let Z91:=AV.sl 1016 0 Z84.length;let Z92:=[Z0,(I Z27),Z1,Z2,Z3,Z91];let Z93:=(l48.map o70).set p5.toNat Z92;let Z94:=(l48.set p5.toNat (Qa0.mk x8.Routine Z27 x8.State x8.Cond x8.Lock l46)).map o70;let Z97:=[(AV.sl 1019 0 Z89.length),Z35,Z36,Z23];gR hP hn (H7++[hF 68,hF 71,hF 74,hT 77,hO 82 Z82,hO 89 Z82,hh 90 (.cnv (FK Z83)),hW 91 1015,hh 92 (.app 1016 Z84),hh 99 (.call [] Z85 [1017]),hW 100 1018,hh 105 (.app 1019 Z89),hh 106 (.pack 1019 1017 p1.length 5 Z88 Z90),hh 112 (.slen 241 Z90.length),hh 113 (.sto Z16 Z93),hh 118 (.pack 1019 1016 p5.toNat 5 Z92 Z94)]) [] (.agg [.agg [.own,.own,.own,.raw],.raw]) (P14++[Z79=false,(p6.Code == 14)=true,AV.lit (.int .i64 Z19)=Z82,AV.lit (.int .i64 Z19)=Z82,Qyz Tryz.prog 3 132 Z82 (FK Z83),Z18.take Z18.length++Z95=Z84,Z95.all (fun r=>r.all AV.plain)=true,Z84.length * 8≤140737488355328,Z84.length≤140737488355328,Qa4 Tryz.prog 179 [Z54] Z85,Qc2 Z85=true,Z96=Z96,Z96=Z96,Z34=Z34,Z34=Z34,Z17.take Z6.length++[Z88]=Z89,[Z88].all (fun r=>r.all AV.plain)=true,Z89.length * 64≤140737488355328,Z89.length≤140737488355328,Z89[p1.length]? = some Z88,Z88[5]? = some Z87,Qa2 Z86=true,Z89.set p1.length (Z88.set 5 (AV.own 132 1 Z86))=Z90,Z89.length=Z90.length,(0:Int)≤p5,p5<((Z90.length:Nat) : Int),Z90[p5.toNat]? = some Z16,Z90.set p5.toNat (wr Z16 0 Z92)=Z93,Z92.length=6,0+Z92.length≤Z16.length,(AV.agg Z97)=(AV.agg Z97),Z98=Z98,Z98=Z98,[(1004,some (Qas.mk 44 4 [Z97]))]=[(1004,some (Qas.mk 44 4 [Z97]))],Z93[p5.toNat]? = some Z92,Z92[5]? = some Z91,Qa2 Z84=true,Z93.set p5.toNat (Z92.set 5 (AV.own 132 1 Z84))=Z94,Qa2 (Z94.take Z89.length)=true,Z94.take Z89.length=Z94,Qa6 Z94=true,Qa2 Z43=true,Z14.take Z14.length=Z14,Qa6 Z14=true,Qa2 Z44=true,Z15.take Z15.length=Z15,Qa6 Z15=true,Z23=Z23,Qa3 Z23=true,Z98=Z98,Qa3 Z98=true]) (Qa7 AP14 ⟨c44,c45,(by simp +zetaDelta only [List.length_set,List.length_map]),(by simp +zetaDelta only [List.length_set,List.length_map]),(cIF (P:=Tryz.prog) ty3 Qqo),(Qix Qae hl46),(plD Qkp),(Qn2 Qae hl46 (by decide)),(Qn1 Qae hl46),(Qlf hr47),(by simp +zetaDelta only [Qc2,Qbm,Qa9 Qe7,o70,Bool.and_self]),rfl,rfl,rfl,rfl,(adT lnq),rfl,(adB o70 hl48 (by decide)),(adC o70 hl48),(adG o70),rfl,(Qab Qbs),(adS o70 hl48 hx8),(adL o70 hl48),(rd0 hx49),(Qrx o70 hx49),(Qcc (rdM o70 hx49)),(Qfh rfl),rfl,leB,rfl,rfl,rfl,rfl,(Qcc (rdM o70 hx49)),rfl,(Qab Qbs),(Qfz o70 (y:=(Qa0.mk x8.Routine (w64 Z26) x8.State x8.Cond x8.Lock l46)) rfl),(Qct (Eq.trans (adL o70 hl48) (Eq.trans (lnq:Z90.length=Z93.length) (lnq:Z93.length=Z94.length))) (Qab t70)),(Qfb (Eq.trans (adL o70 hl48) (Eq.trans (lnq:Z90.length=Z93.length) (lnq:Z93.length=Z94.length)))),(Qa9 n70),(Qb7 Qbs),Qb6,(Qa9 Qe7),(Qb7 t3),Qb6,(Qa9 n3),rfl,rfl,rfl,rfl,trivial⟩))
        ·let P15:List Prop:=P14++[Z79=false,(p6.Code == 14)=false]
         have AP15:Qam P15:=Qa7 AP14 ⟨c44,c50,trivial⟩
         rcases itS h with ⟨c51,h⟩ | ⟨c52,h⟩
         ·obtain rfl:=sj h
          exact gR hP hn (H7++[hF 68,hF 71,hF 74,hF 77,hT 80,hh 90 (.slen 241 Z17.length),hh 91 (.sto Z16 Z58),hh 96 (.pack 0 1010 p5.toNat 5 Z57 Z59)]) [] (.agg [.agg [.own,.own,.own,.raw],.raw]) (P15++[Z99=true,Z6.length=Z17.length,(0:Int)≤p5,p5<Z33,Z17[p5.toNat]? = some Z16,Z17.set p5.toNat Z61=Z58,Z57.length=6,0+Z57.length≤Z16.length,Z37=Z37,Z100=Z100,Z100=Z100,[(1004,some Z42)]=[(1004,some Z42)],Z58[p5.toNat]? = some Z57,Z57[5]? = some Z52,Qa2 Z18=true,Z58.set p5.toNat Z64=Z59,Qa2 Z65=true,Z59.take Z6.length=Z59,Qa6 Z59=true,Qa2 Z43=true,Z14.take Z14.length=Z14,Qa6 Z14=true,Qa2 Z44=true,Z15.take Z15.length=Z15,Qa6 Z15=true,Z23=Z23,Qa3 Z23=true,Z100=Z100,Qa3 Z100=true]) (Qa7 AP15 ⟨c51,lnq,(rd0 hx8),(Qrx o70 hx8),(Qcc (rdM o70 hx8)),(Qfh rfl),rfl,leB,rfl,rfl,rfl,rfl,(Qcc (rdM o70 hx8)),rfl,(Qab Qbs),(Qfz o70 (y:=Z66) rfl),(Qct lnq (Qab t70)),(Qfb lnq),(Qa9 n70),(Qb7 Qbs),Qb6,(Qa9 Qe7),(Qb7 t3),Qb6,(Qa9 n3),rfl,rfl,rfl,rfl,trivial⟩)
         ·rcases itS h with ⟨c53,h⟩ | ⟨c55,h⟩
          ·obtain ⟨x54,hx54,h⟩:=bnS h
           obtain rfl:=sj h
           exact gR hP hn (H7++[hF 68,hF 71,hF 74,hF 77,hF 80,hT 83,hh 99 (.sto [(I x54)] Z101),hh 119 (.slen 241 Z17.length),hh 120 (.sto Z16 Z103),hh 125 (.pack 0 1010 p5.toNat 5 Z102 Z104)]) [] (.agg [.agg [.own,.own,.own,.raw],.raw]) (P15++[Z99=false,(p6.Code == 16)=true,(0:Int)≤p6.B,p6.B<Z76,Z15[p6.B.toNat]? = some [(I x54)],Z15.set p6.B.toNat (wr [(I x54)] 0 Z80)=Z101,Z80.length=1,0+Z80.length≤[(I x54)].length,Z6.length=Z17.length,(0:Int)≤p5,p5<Z33,Z17[p5.toNat]? = some Z16,Z17.set p5.toNat (wr Z16 0 Z102)=Z103,Z102.length=6,0+Z102.length≤Z16.length,Z37=Z37,Z105=Z105,Z105=Z105,[(1004,some Z42)]=[(1004,some Z42)],Z103[p5.toNat]? = some Z102,Z102[5]? = some Z52,Qa2 Z18=true,Z103.set p5.toNat (Z102.set 5 Z63)=Z104,Qa2 (Z104.take Z6.length)=true,Z104.take Z6.length=Z104,Qa6 Z104=true,Qa2 Z43=true,Z14.take Z14.length=Z14,Qa6 Z14=true,Qa2 (Z101.take Z15.length)=true,Z101.take Z15.length=Z101,Qa6 Z101=true,Z23=Z23,Qa3 Z23=true,Z105=Z105,Qa3 Z105=true]) (Qa7 AP15 ⟨c52,c53,(rd0 hx54),(rdL o3 hx54),(rdM o3 hx54),(Qw5 o3),rfl,leB,lnq,(rd0 hx8),(Qrx o70 hx8),(Qcc (rdM o70 hx8)),(Qfh rfl),rfl,leB,rfl,rfl,rfl,rfl,(Qcc (rdM o70 hx8)),rfl,(Qab Qbs),(Qfz o70 (y:=(Qa0.mk x8.Routine (w64 ((w64 Z26) - 1)) 3 p6.A p6.B l13)) rfl),(Qct lnq (Qab t70)),(Qfb lnq),(Qa9 n70),(Qb7 Qbs),Qb6,(Qa9 Qe7),(Qct lnq (Qab t3)),(Qfb lnq),(Qa9 n3),rfl,rfl,rfl,rfl,trivial⟩)
          ·rcases itS h with ⟨c56,h⟩ | ⟨c57,h⟩
           ·cases h
           ·obtain ⟨x58,hx58,h⟩:=bnS h
            obtain ⟨x59,hx59,h⟩:=bnS h
            obtain ⟨r60,hr60,h⟩:=bnS h
            obtain ⟨l61,hl61,h⟩:=bnS h
            obtain rfl:=sj h
            exact (let Z106:=l61.map Qae;let Z107:=AV.sl 1021 0 Z106.length;let Z108:=[Z0,(I Z27),Z1,Z2,Z3,Z107];let Z109:=Z6.set p5.toNat Z108;let Z110:=(p1.set p5.toNat (Qa0.mk x8.Routine Z27 x8.State x8.Cond x8.Lock l61)).map o70;let Z111:=(([r60].map Qae).drop 0).take ([r60].map Qae).length;gR hP hn (H7++[hF 68,hF 71,hF 74,hF 77,hF 80,hF 83,hF 86,hh 93 (.row [(FK x58)]),hh 96 (.row [(FK x59)]),hh 97 (.callV [] (FK r60)),hW 98 1020,hh 101 (.app 1021 Z106),hh 108 (.slen 241 Z17.length),hh 109 (.sto Z16 Z109),hh 114 (.pack 0 1021 p5.toNat 5 Z108 Z110)]) [] (.agg [.agg [.own,.own,.own,.raw],.raw]) (P15++[Z99=false,(p6.Code == 16)=false,(p6.Code == 17)=false,(0:Int)≤0,0<Z60,Z12[(Int.toNat 0)]? = some [(FK x58)],(0:Int)≤1,1<Z60,Z12[(Int.toNat 1)]? = some [(FK x59)],Qa4 Tryz.prog 214 [(I p6.Code),(FK x58),(FK x59)] (FK r60),Qa3 (FK r60)=true,Z51=Z51,Z52=Z52,Z18.take Z18.length++Z111=Z106,Z111.all (fun r=>r.all AV.plain)=true,Z106.length * 8≤140737488355328,Z106.length≤140737488355328,Z6.length=Z17.length,(0:Int)≤p5,p5<Z33,Z17[p5.toNat]? = some Z16,Z17.set p5.toNat (wr Z16 0 Z108)=Z109,Z108.length=6,0+Z108.length≤Z16.length,Z37=Z37,Z41=Z41,Z41=Z41,[(1004,some Z42)]=[(1004,some Z42)],Z109[p5.toNat]? = some Z108,Z108[5]? = some Z107,Qa2 Z106=true,Z109.set p5.toNat (Z108.set 5 (AV.own 132 1 Z106))=Z110,Qa2 (Z110.take Z6.length)=true,Z110.take Z6.length=Z110,Qa6 Z110=true,Qa2 Z43=true,Z14.take Z14.length=Z14,Qa6 Z14=true,Qa2 Z44=true,Z15.take Z15.length=Z15,Qa6 Z15=true,Z23=Z23,Qa3 Z23=true,Z41=Z41,Qa3 Z41=true]) (Qa7 AP15 ⟨c52,c55,c57,(rd0 hx58),(rdL Qae hx58),(rdM Qae hx58),(rd0 hx59),(rdL Qae hx59),(rdM Qae hx59),(Qop hr60),rfl,rfl,rfl,(Qix Qae hl61),(plD Qkp),(Qn2 Qae hl61 (by decide)),(Qn1 Qae hl61),lnq,(rd0 hx8),(Qrx o70 hx8),(Qcc (rdM o70 hx8)),(Qfh rfl),rfl,leB,rfl,rfl,rfl,rfl,(Qcc (rdM o70 hx8)),rfl,(Qab Qbs),(Qfz o70 (y:=(Qa0.mk x8.Routine (w64 Z26) x8.State x8.Cond x8.Lock l61)) rfl),(Qct lnq (Qab t70)),(Qfb lnq),(Qa9 n70),(Qb7 Qbs),Qb6,(Qa9 Qe7),(Qb7 t3),Qb6,(Qa9 n3),rfl,rfl,rfl,rfl,trivial⟩))
noncomputable def Xc5:Code:=match Tryz.f171.body with | some c=>c | none=>.skip
noncomputable def Qc6  (p1:(List Qa0)) (p2:(List Nat)) (p3:(List Int)) (p5:Int) (x8:Qa0) : Nat→(List Qa0)→(List Nat)→(List Nat)→(List Int)→Int→GOp→Qaa→Qa1→Qaa→Int→Int→Int→Int→Int→Int→Option (Qa1×Qaa)
 | 0,_,_,_,_,_,_,_,_,_,_,_,_,_,_,_=>none
 | n+1,a55,a56,a57,a58,a59,a60,a61,a62,a63,a64,a65,a66,a67,a68,v69 =>
 if (decide (v69<(p1.length:Int)))=true then
  if (decide (v69=p5))=true then
   Option.bind (rd a55 p5) fun x72 =>
   if (x8.State == 3)=true then
    if (x8.Cond == a60.A)=true then
     none
    else
     Qc6 p1 p2 p3 p5 x8 n a55 a56 a57 a58 a59 a60 a61 a62 a63 a64 a65 a66 a67 a68 (w64 (v69+1))
   else
    Qc6 p1 p2 p3 p5 x8 n a55 a56 a57 a58 a59 a60 a61 a62 a63 a64 a65 a66 a67 a68 (w64 (v69+1))
  else
   Option.bind (rd a55 v69) fun x78 =>
   Option.bind (rd a55 p5) fun x79 =>
   if (x78.State == 3)=true then
    if (x78.Cond == a60.A)=true then
     Option.bind (rd (a55.set (Int.toNat v69) (Qa0.mk x78.Routine x78.Pc 4 x78.Cond x78.Lock x78.Stack)) p5) fun x82 =>
     some ((Qa1.mk ((a55.set (Int.toNat v69) (Qa0.mk x78.Routine x78.Pc 4 x78.Cond x78.Lock x78.Stack)).set (Int.toNat p5) (Qa0.mk a64 a65 a66 a67 a68 a56)) a57 a58 a59),(Qaa.mk a61.Thread a61.Kind a61.Obj v69 a61.Pc))
    else
     Qc6 p1 p2 p3 p5 x8 n a55 a56 a57 a58 a59 a60 a61 a62 a63 a64 a65 a66 a67 a68 (w64 (v69+1))
   else
    Qc6 p1 p2 p3 p5 x8 n a55 a56 a57 a58 a59 a60 a61 a62 a63 a64 a65 a66 a67 a68 (w64 (v69+1))
 else
  Option.bind (rd a55 p5) fun x86 =>
  some ((Qa1.mk (a55.set (Int.toNat p5) (Qa0.mk a64 a65 a66 a67 a68 a56)) a57 a58 a59),a61)
theorem Qte {E:Env} (hP:E.pk=pk0 Tryz.prog) (hn:E.n=247) (hx:FX E []) (p1:(List Qa0)) (p2:(List Nat)) (p3:(List Int)) (p5:Int) (x8:Qa0)  : ∀ (n:Nat) (a55:(List Qa0)) (a56:(List Nat)) (a57:(List Nat)) (a58:(List Int)) (a59:Int) (a60:GOp) (a61:Qaa) (a62:Qa1) (a63:Qaa) (a64:Int) (a65:Int) (a66:Int) (a67:Int) (a68:Int) (v69:Int) (r:(Qa1×Qaa)),Qc6 p1 p2 p3 p5 x8 n a55 a56 a57 a58 a59 a60 a61 a62 a63 a64 a65 a66 a67 a68 v69=some r→WAt E Xc5 (FQ (Qdj Θ Tryz.f171.results.toList [false,false,false] [⟨70,6,(p1.map o70)⟩,⟨132,1,(p2.map Qae)⟩,⟨3,1,(p3.map o3)⟩] (AV.tup [(AV.agg (o44 r.1)),(AV.agg (o60 r.2))]) E)) [true,true,true,true,true,true,true,true,false,true,false,true,true,true,true,true,true,true,true,true,true,true,true,true,true,true,true,true,true,true,true,true,false,true,true,true,false] ⟨[(1,(I p5)),(4,(AV.ptr 3 0 0)),(6,(AV.ptr 4 0 0)),(7,(AV.ptr 5 0 0)),(8,(AV.ptr 6 0 0)),(9,(AV.ptr 7 0 0)),(10,(AV.ptr 8 0 0)),(215,(AV.sl 0 0 (List.length ((a55.map o70).set (Int.toNat p5) [(I x8.Routine),(I x8.Pc),(I x8.State),(I x8.Cond),(I x8.Lock),(AV.sl 1006 0 (List.length (a56.map Qae)))])))),(216,(I (p1.length:Int))),(217,(I v69))],[(3,some ⟨44,4,[[(AV.sl 0 0 (List.length ((a55.map o70).set (Int.toNat p5) [(I x8.Routine),(I x8.Pc),(I x8.State),(I x8.Cond),(I x8.Lock),(AV.sl 1006 0 (List.length (a56.map Qae)))]))),(AV.own 132 1 (a57.map Qae)),(AV.own 3 1 (a58.map o3)),(I a59)]]⟩),(0,some ⟨70,6,((a55.map o70).set (Int.toNat p5) [(I x8.Routine),(I x8.Pc),(I x8.State),(I x8.Cond),(I x8.Lock),(AV.sl 1006 0 (List.length (a56.map Qae)))])⟩),(1006,some ⟨132,1,(a56.map Qae)⟩),(4,some ⟨156,4,[((Qbj a60))]⟩),(5,some ⟨60,5,[((o60 a61))]⟩),(6,some ⟨44,4,[((o44 a62))]⟩),(7,some ⟨60,5,[((o60 a63))]⟩),(8,some ⟨70,6,[[(I a64),(I a65),(I a66),(I a67),(I a68),(AV.sl 1006 0 (List.length (a56.map Qae)))]]⟩)],[3,0,1006,4,5,6,7,8,JJ]⟩:=by
 intro n
 induction n with
 | zero=>intro a55 a56 a57 a58 a59 a60 a61 a62 a63 a64 a65 a66 a67 a68 v69 r h;simp only [Qc6] at h;cases h
 | succ n ih =>
  intro a55 a56 a57 a58 a59 a60 a61 a62 a63 a64 a65 a66 a67 a68 v69 r h
  simp only [Qc6] at h
  let Z0:=(decide (v69<(p1.length:Int)));let Z1:=a56.map Qae;let Z2:=AV.sl 1006 0 Z1.length;let Z3:=[(I x8.Routine),(I x8.Pc),(I x8.State),(I x8.Cond),(I x8.Lock),Z2];let Z4:=(a55.map o70).set p5.toNat Z3;let Z5:=((Z4.length:Nat) : Int);let Z6:=B true;let Z7:=AV.sl 0 0 Z4.length;let Z8:=a57.map Qae;let Z9:=AV.own 132 1 Z8;let Z10:=a58.map o3;let Z11:=AV.own 3 1 Z10;let Z12:=I a59;let Z13:=[Z7,Z9,Z11,Z12];let Z14:=Qbj a60;let Z15:=o60 a61;let Z16:=o44 a62;let Z17:=o60 a63;let Z18:=[(I a64),(I a65),(I a66),(I a67),(I a68),Z2];let Z29:=AV.sl 1004 0 Z8.length;let Z30:=[Z7,Z29,Z11,Z12];let Z31:=AV.sl 1005 0 Z10.length;let Z32:=[[Z7,Z29,Z31,Z12]];let Z36:=AV.agg [Z7,Z29,Z31,Z12];let Z37:=AV.agg [(I a61.Thread),(I a61.Kind),(I a61.Obj),(I v69),(I a61.Pc)];let Z38:=Z18.set 5 (AV.own 132 1 Z1);let Z39:=Z10.take Z10.length;let Z40:=Qa0.mk a64 a65 a66 a67 a68 a56;let Z41:=(a55.map o70).set p5.toNat Z18;let Z42:=AV.sl 1007 0 Z8.length;let Z43:=[Z7,Z42,Z11,Z12];let Z44:=AV.sl 1008 0 Z10.length;let Z45:=[[Z7,Z42,Z44,Z12]];let Z46:=(a55.set p5.toNat (Qa0.mk a64 a65 a66 a67 a68 a56)).map o70;let Z47:=AV.agg [Z7,Z42,Z44,Z12];let Z48:=AV.agg Z15
  rcases itS h with ⟨c70,h⟩ | ⟨c85,h⟩
  ·let P1:List Prop:=[Z0=true]
   have AP1:Qam P1:=⟨c70,trivial⟩
   rcases itS h with ⟨c71,h⟩ | ⟨c77,h⟩
   ·obtain ⟨x72,hx72,h⟩:=bnS h
    let H2:List Hn:=[hT 1,hh 4 (.row Z3),hW 5 1001]
    let P3:List Prop:=P1++[(0:Int)≤v69,v69<Z5,Z4[v69.toNat]? = some Z3]
    have AP3:Qam P3:=Qa7 AP1 ⟨(eqLe c71 (rd0 hx72)),(eqLt c71 (Qrx o70 hx72)),(eqG c71 (Qcc (rdM o70 hx72))),trivial⟩
    rcases itS h with ⟨c73,h⟩ | ⟨c76,h⟩
    ·rcases itS h with ⟨c74,h⟩ | ⟨c75,h⟩
     ·cases h
     ·exact gT hP hn hx (H2++[hO 11 Z6,hF 18]) [(3,3),(0,0),(1006,1006),(4,4),(5,5),(6,6),(7,7),(8,8)] [1,4,6,7,8,9,10,215,216,217] [] (P3++[(B (x8.State == 3))=Z6,(x8.Cond == a60.A)=false,Qa8 [(3,3),(0,0),(1006,1006),(4,4),(5,5),(6,6),(7,7),(8,8)] [Z13],Qa8 [(3,3),(0,0),(1006,1006),(4,4),(5,5),(6,6),(7,7),(8,8)] Z4,Qa8 [(3,3),(0,0),(1006,1006),(4,4),(5,5),(6,6),(7,7),(8,8)] Z1,Qa8 [(3,3),(0,0),(1006,1006),(4,4),(5,5),(6,6),(7,7),(8,8)] [Z14],Qa8 [(3,3),(0,0),(1006,1006),(4,4),(5,5),(6,6),(7,7),(8,8)] [Z15],Qa8 [(3,3),(0,0),(1006,1006),(4,4),(5,5),(6,6),(7,7),(8,8)] [Z16],Qa8 [(3,3),(0,0),(1006,1006),(4,4),(5,5),(6,6),(7,7),(8,8)] [Z17],Qa8 [(3,3),(0,0),(1006,1006),(4,4),(5,5),(6,6),(7,7),(8,8)] [Z18]]) (Qa7 AP3 ⟨(Qau c73),c75,(.inr rfl),(Qzz (rok (Qab t70)) rfl),(rok (Qab Qbs)),(rok rfl),(rok rfl),(rok (Qai t44 a62)),(rok rfl),(.inr rfl),trivial⟩) (ih a55 a56 a57 a58 a59 a60 a61 a62 a63 a64 a65 a66 a67 a68 (w64 (v69+1)) _ h)
    ·exact gT hP hn hx (H2++[hO 11 (B false)]) [(3,3),(0,0),(1006,1006),(4,4),(5,5),(6,6),(7,7),(8,8)] [1,4,6,7,8,9,10,215,216,217] [] (P3++[(B (x8.State == 3))=(B false),Qa8 [(3,3),(0,0),(1006,1006),(4,4),(5,5),(6,6),(7,7),(8,8)] [Z13],Qa8 [(3,3),(0,0),(1006,1006),(4,4),(5,5),(6,6),(7,7),(8,8)] Z4,Qa8 [(3,3),(0,0),(1006,1006),(4,4),(5,5),(6,6),(7,7),(8,8)] Z1,Qa8 [(3,3),(0,0),(1006,1006),(4,4),(5,5),(6,6),(7,7),(8,8)] [Z14],Qa8 [(3,3),(0,0),(1006,1006),(4,4),(5,5),(6,6),(7,7),(8,8)] [Z15],Qa8 [(3,3),(0,0),(1006,1006),(4,4),(5,5),(6,6),(7,7),(8,8)] [Z16],Qa8 [(3,3),(0,0),(1006,1006),(4,4),(5,5),(6,6),(7,7),(8,8)] [Z17],Qa8 [(3,3),(0,0),(1006,1006),(4,4),(5,5),(6,6),(7,7),(8,8)] [Z18]]) (Qa7 AP3 ⟨(Qau c76),(.inr rfl),(Qzz (rok (Qab t70)) rfl),(rok (Qab Qbs)),(rok rfl),(rok rfl),(rok (Qai t44 a62)),(rok rfl),(.inr rfl),trivial⟩) (ih a55 a56 a57 a58 a59 a60 a61 a62 a63 a64 a65 a66 a67 a68 (w64 (v69+1)) _ h)
   ·obtain ⟨x78,hx78,h⟩:=bnS h
    obtain ⟨x79,hx79,h⟩:=bnS h
    let Z19:=x78.Stack.map Qae;let Z20:=AV.own 132 1 Z19;let Z21:=[(I x78.Routine),(I x78.Pc),(I x78.State),(I x78.Cond),(I x78.Lock),Z20];let Z22:=AV.sl 1002 0 Z19.length;let Z23:=[(I x78.Routine),(I x78.Pc),(I x78.State),(I x78.Cond),(I x78.Lock),Z22];let Z24:=Z4.set v69.toNat Z23;let Z25:=o70 x78;let Z26:=a55.set v69.toNat (Qa0.mk x78.Routine x78.Pc 4 x78.Cond x78.Lock x78.Stack);let Z27:=(Z26.map o70).set p5.toNat Z3;let Z28:=(Z26.map o70).set p5.toNat Z18;let Z33:=(Z26.set p5.toNat (Qa0.mk a64 a65 a66 a67 a68 a56)).map o70;let Z34:=B (x78.State == 3);let Z35:=Z23.set 5 Z20
    let H4:List Hn:=[hT 1,hh 4 (.unpack 0 1002 v69.toNat 5 Z21 132 1 Z19 Z24),hh 4 (.row Z23),hW 5 1003]
    let P5:List Prop:=P1++[(0:Int)≤v69,v69<Z5,Z4[v69.toNat]? = some Z21,Z21[5]? = some Z20,0<1,Z4.set v69.toNat (Z21.set 5 Z22)=Z24,Z24[v69.toNat]? = some Z23]
    have AP5:Qam P5:=Qa7 AP1 ⟨(rd0 hx78),(Qrx o70 hx78),(Xnd (neN (Xhx c77) (rd0 hx79) (rd0 hx78)) (rdM o70 hx78)),rfl,(by decide),rfl,(Qcc (Xnd (neN (Xhx c77) (rd0 hx79) (rd0 hx78)) (rdM o70 hx78))),trivial⟩
    rcases itS h with ⟨c80,h⟩ | ⟨c84,h⟩
    ·rcases itS h with ⟨c81,h⟩ | ⟨c83,h⟩
     ·obtain ⟨x82,hx82,h⟩:=bnS h
      obtain rfl:=sj h
      exact gR hP hn (H4++[hO 11 Z6,hT 18,hh 22 (.slen 233 Z24.length),hh 24 (.pack 0 1002 v69.toNat 5 Z23 Z4),hh 24 (.sto Z25 Z27),hh 32 (.slen 241 Z27.length),hh 33 (.sto Z3 Z28),hh 34 (.unpack 3 1004 0 1 Z13 132 1 Z8 [Z30]),hh 34 (.unpack 3 1005 0 2 Z30 3 1 Z10 Z32),hh 38 (.pack 0 1006 p5.toNat 5 Z18 Z33)]) [] (.agg [.agg [.own,.own,.own,.raw],.raw]) (P5++[Z34=Z6,(x78.Cond == a60.A)=true,Z4.length=Z24.length,(0:Int)≤v69,v69<((Z24.length:Nat) : Int),Z24[v69.toNat]? = some Z23,Z23[5]? = some Z22,Qa2 Z19=true,Z24.set v69.toNat Z35=Z4,Z4[v69.toNat]? = some Z25,Z4.set v69.toNat (wr Z25 2 [(I 4)])=Z27,[(I 4)].length=1,2 + [(I 4)].length≤Z25.length,Z4.length=Z27.length,(0:Int)≤p5,p5<((Z27.length:Nat) : Int),Z27[p5.toNat]? = some Z3,Z27.set p5.toNat (wr Z3 0 Z18)=Z28,Z18.length=6,0+Z18.length≤Z3.length,[Z13][0]? = some Z13,Z13[1]? = some Z9,0<1,[Z13].set 0 (Z13.set 1 Z29)=[Z30],[Z30][0]? = some Z30,Z30[2]? = some Z11,0<1,[Z30].set 0 (Z30.set 2 Z31)=Z32,Z36=Z36,Z37=Z37,Z37=Z37,[(6,some (Qas.mk 44 4 Z32))]=[(6,some (Qas.mk 44 4 Z32))],Z28[p5.toNat]? = some Z18,Z18[5]? = some Z2,Qa2 Z1=true,Z28.set p5.toNat Z38=Z33,Qa2 (Z33.take Z4.length)=true,Z33.take Z4.length=Z33,Qa6 Z33=true,Qa2 (Z8.take Z8.length)=true,Z8.take Z8.length=Z8,Qa6 Z8=true,Qa2 Z39=true,Z10.take Z10.length=Z10,Qa6 Z10=true,Z12=Z12,Qa3 Z12=true,Z37=Z37,Qa3 Z37=true]) (Qa7 AP5 ⟨(Qau c80),c81,lnq,(rd0 hx78),(rdL2 o70 hx78),(Qcc (Xnd (neN (Xhx c77) (rd0 hx79) (rd0 hx78)) (rdM o70 hx78))),rfl,(Qab Qbs),(Xf8 o70 (neN (Xhx c77) (rd0 hx79) (rd0 hx78)) hx78),(Xnd (neN (Xhx c77) (rd0 hx79) (rd0 hx78)) (rdM o70 hx78)),(setND o70 (neN (Xhx c77) (rd0 hx79) (rd0 hx78)) (y:=(Qa0.mk x78.Routine x78.Pc 4 x78.Cond x78.Lock x78.Stack)) (by kernel_rfl)),rfl,leB,lnq,(rd0 hx82),(Qrx o70 hx82),(Qcc (rdM o70 hx82)),(Qfh rfl),rfl,leB,rfl,rfl,(by decide),rfl,rfl,rfl,(by decide),rfl,rfl,rfl,rfl,rfl,(Qcc (rdM o70 hx82)),rfl,(Qab Qbs),(Qfz o70 (y:=Z40) rfl),(Qct lnq (Qab t70)),(Qfb lnq),(Qa9 n70),(Qb7 Qbs),Qb6,(Qa9 Qe7),(Qb7 t3),Qb6,(Qa9 n3),rfl,rfl,rfl,rfl,trivial⟩)
     ·exact gT hP hn hx (H4++[hO 11 Z6,hF 18,hh 21 (.pack 0 1002 v69.toNat 5 Z23 Z4),hh 21 (.slen 215 Z4.length)]) [(3,3),(0,0),(1006,1006),(4,4),(5,5),(6,6),(7,7),(8,8)] [1,4,6,7,8,9,10,215,216,217] [] (P5++[Z34=Z6,(x78.Cond == a60.A)=false,Z24[v69.toNat]? = some Z23,Z23[5]? = some Z22,Qa2 Z19=true,Z24.set v69.toNat Z35=Z4,Z4.length=Z4.length,Qa8 [(3,3),(0,0),(1006,1006),(4,4),(5,5),(6,6),(7,7),(8,8)] [Z13],Qa8 [(3,3),(0,0),(1006,1006),(4,4),(5,5),(6,6),(7,7),(8,8)] Z4,Qa8 [(3,3),(0,0),(1006,1006),(4,4),(5,5),(6,6),(7,7),(8,8)] Z1,Qa8 [(3,3),(0,0),(1006,1006),(4,4),(5,5),(6,6),(7,7),(8,8)] [Z14],Qa8 [(3,3),(0,0),(1006,1006),(4,4),(5,5),(6,6),(7,7),(8,8)] [Z15],Qa8 [(3,3),(0,0),(1006,1006),(4,4),(5,5),(6,6),(7,7),(8,8)] [Z16],Qa8 [(3,3),(0,0),(1006,1006),(4,4),(5,5),(6,6),(7,7),(8,8)] [Z17],Qa8 [(3,3),(0,0),(1006,1006),(4,4),(5,5),(6,6),(7,7),(8,8)] [Z18]]) (Qa7 AP5 ⟨(Qau c80),c83,(Qcc (Xnd (neN (Xhx c77) (rd0 hx79) (rd0 hx78)) (rdM o70 hx78))),rfl,(Qab Qbs),(Xf8 o70 (neN (Xhx c77) (rd0 hx79) (rd0 hx78)) hx78),rfl,(.inr rfl),(Qzz (rok (Qab t70)) rfl),(rok (Qab Qbs)),(rok rfl),(rok rfl),(rok (Qai t44 a62)),(rok rfl),(.inr rfl),trivial⟩) (ih a55 a56 a57 a58 a59 a60 a61 a62 a63 a64 a65 a66 a67 a68 (w64 (v69+1)) _ h)
    ·exact gT hP hn hx (H4++[hO 11 (B false),hh 21 (.pack 0 1002 v69.toNat 5 Z23 Z4),hh 21 (.slen 215 Z4.length)]) [(3,3),(0,0),(1006,1006),(4,4),(5,5),(6,6),(7,7),(8,8)] [1,4,6,7,8,9,10,215,216,217] [] (P5++[Z34=(B false),Z24[v69.toNat]? = some Z23,Z23[5]? = some Z22,Qa2 Z19=true,Z24.set v69.toNat Z35=Z4,Z4.length=Z4.length,Qa8 [(3,3),(0,0),(1006,1006),(4,4),(5,5),(6,6),(7,7),(8,8)] [Z13],Qa8 [(3,3),(0,0),(1006,1006),(4,4),(5,5),(6,6),(7,7),(8,8)] Z4,Qa8 [(3,3),(0,0),(1006,1006),(4,4),(5,5),(6,6),(7,7),(8,8)] Z1,Qa8 [(3,3),(0,0),(1006,1006),(4,4),(5,5),(6,6),(7,7),(8,8)] [Z14],Qa8 [(3,3),(0,0),(1006,1006),(4,4),(5,5),(6,6),(7,7),(8,8)] [Z15],Qa8 [(3,3),(0,0),(1006,1006),(4,4),(5,5),(6,6),(7,7),(8,8)] [Z16],Qa8 [(3,3),(0,0),(1006,1006),(4,4),(5,5),(6,6),(7,7),(8,8)] [Z17],Qa8 [(3,3),(0,0),(1006,1006),(4,4),(5,5),(6,6),(7,7),(8,8)] [Z18]]) (Qa7 AP5 ⟨(Qau c84),(Qcc (Xnd (neN (Xhx c77) (rd0 hx79) (rd0 hx78)) (rdM o70 hx78))),rfl,(Qab Qbs),(Xf8 o70 (neN (Xhx c77) (rd0 hx79) (rd0 hx78)) hx78),rfl,(.inr rfl),(Qzz (rok (Qab t70)) rfl),(rok (Qab Qbs)),(rok rfl),(rok rfl),(rok (Qai t44 a62)),(rok rfl),(.inr rfl),trivial⟩) (ih a55 a56 a57 a58 a59 a60 a61 a62 a63 a64 a65 a66 a67 a68 (w64 (v69+1)) _ h)
  ·obtain ⟨x86,hx86,h⟩:=bnS h
   obtain rfl:=sj h
   exact gR hP hn [hF 1,hh 6 (.slen 241 Z4.length),hh 7 (.sto Z3 Z41),hh 8 (.unpack 3 1007 0 1 Z13 132 1 Z8 [Z43]),hh 8 (.unpack 3 1008 0 2 Z43 3 1 Z10 Z45),hh 12 (.pack 0 1006 p5.toNat 5 Z18 Z46)] [] (.agg [.agg [.own,.own,.own,.raw],.raw]) [Z0=false,Z4.length=Z4.length,(0:Int)≤p5,p5<Z5,Z4[p5.toNat]? = some Z3,Z4.set p5.toNat (wr Z3 0 Z18)=Z41,Z18.length=6,0+Z18.length≤Z3.length,[Z13][0]? = some Z13,Z13[1]? = some Z9,0<1,[Z13].set 0 (Z13.set 1 Z42)=[Z43],[Z43][0]? = some Z43,Z43[2]? = some Z11,0<1,[Z43].set 0 (Z43.set 2 Z44)=Z45,Z47=Z47,Z48=Z48,Z48=Z48,[(6,some (Qas.mk 44 4 Z45))]=[(6,some (Qas.mk 44 4 Z45))],Z41[p5.toNat]? = some Z18,Z18[5]? = some Z2,Qa2 Z1=true,Z41.set p5.toNat Z38=Z46,Qa2 (Z46.take Z4.length)=true,Z46.take Z4.length=Z46,Qa6 Z46=true,Qa2 (Z8.take Z8.length)=true,Z8.take Z8.length=Z8,Qa6 Z8=true,Qa2 Z39=true,Z10.take Z10.length=Z10,Qa6 Z10=true,Z12=Z12,Qa3 Z12=true,Z48=Z48,Qa3 Z48=true] ⟨c85,rfl,(rd0 hx86),(Qrx o70 hx86),(Qcc (rdM o70 hx86)),(Qfh rfl),rfl,leB,rfl,rfl,(by decide),rfl,rfl,rfl,(by decide),rfl,rfl,rfl,rfl,rfl,(Qcc (rdM o70 hx86)),rfl,(Qab Qbs),(Qfz o70 (y:=Z40) rfl),(Qct lnq (Qab t70)),(Qfb lnq),(Qa9 n70),(Qb7 Qbs),Qb6,(Qa9 Qe7),(Qb7 t3),Qb6,(Qa9 n3),rfl,rfl,rfl,rfl,trivial⟩
noncomputable def Qn0 (p1:(List Qa0)) (p2:(List Nat)) (p3:(List Int)) (p4:Int) (p5:Int) (p6:GOp) (p7:Qaa) : Option (Qa1×Qaa):=
 Option.bind (rd p1 p5) fun x8 =>
 Option.bind (Qgn p6.Code) fun r9 =>
 Option.bind (slc x8.Stack (w64 ((x8.Stack.length:Int) - r9.1)) (x8.Stack.length:Int)) fun l10 =>
 Option.bind (app [] l10) fun l11 =>
 Option.bind (Qdg (Qa1.mk (p1.set (Int.toNat p5) (Qa0.mk x8.Routine x8.Pc x8.State x8.Cond x8.Lock x8.Stack)) p2 p3 p4) (Qa0.mk x8.Routine x8.Pc x8.State x8.Cond x8.Lock x8.Stack)) fun r12 =>
 Option.bind (Xap x8.Stack (w64 ((x8.Stack.length:Int) - r9.1))) fun q13 =>
 if (p6.Code == 1)=true then
  Option.bind (app x8.Stack [p6.V]) fun l15 =>
  some ((Qa1.mk (p1.set (Int.toNat p5) (Qa0.mk x8.Routine (w64 (x8.Pc+1)) x8.State x8.Cond x8.Lock l15)) p2 p3 p4),(Qaa.mk p7.Thread 1 p7.Obj p7.Lock p7.Pc))
 else
  if (p6.Code == 2)=true then
   Option.bind (rd p2 p6.A) fun x18 =>
   Option.bind (app x8.Stack [x18]) fun l19 =>
   some ((Qa1.mk (p1.set (Int.toNat p5) (Qa0.mk x8.Routine (w64 (x8.Pc+1)) x8.State x8.Cond x8.Lock l19)) p2 p3 p4),(Qaa.mk p7.Thread 2 p6.A p7.Lock p7.Pc))
  else
   if (p6.Code == 3)=true then
    Option.bind (rd l11 0) fun x22 =>
    Option.bind (rd p2 p6.A) fun x23 =>
    some ((Qa1.mk (p1.set (Int.toNat p5) (Qa0.mk x8.Routine (w64 (x8.Pc+1)) x8.State x8.Cond x8.Lock x8.Stack)) (p2.set (Int.toNat p6.A) x22) p3 p4),(Qaa.mk p7.Thread 3 p6.A p7.Lock p7.Pc))
   else
    if (p6.Code == 10)=true then
     some ((Qa1.mk (p1.set (Int.toNat p5) (Qa0.mk x8.Routine p6.A x8.State x8.Cond x8.Lock x8.Stack)) p2 p3 p4),(Qaa.mk p7.Thread 1 p7.Obj p7.Lock p7.Pc))
    else
     if (p6.Code == 11)=true then
      Option.bind (rd l11 0) fun x28 =>
      Option.bind (Qed x28) fun r33 =>
      if r33=true then
       some ((Qa1.mk (p1.set (Int.toNat p5) (Qa0.mk x8.Routine p6.A x8.State x8.Cond x8.Lock x8.Stack)) p2 p3 p4),(Qaa.mk p7.Thread 1 p7.Obj p7.Lock p7.Pc))
      else
       if ((Qci x28 0) == some .eq)=true then
        some ((Qa1.mk (p1.set (Int.toNat p5) (Qa0.mk x8.Routine p6.A x8.State x8.Cond x8.Lock x8.Stack)) p2 p3 p4),(Qaa.mk p7.Thread 1 p7.Obj p7.Lock p7.Pc))
       else
        some ((Qa1.mk (p1.set (Int.toNat p5) (Qa0.mk x8.Routine (w64 (x8.Pc+1)) x8.State x8.Cond x8.Lock x8.Stack)) p2 p3 p4),(Qaa.mk p7.Thread 1 p7.Obj p7.Lock p7.Pc))
     else
      if (p6.Code == 12)=true then
       Option.bind (rd p3 p6.A) fun x40 =>
       some ((Qa1.mk (p1.set (Int.toNat p5) (Qa0.mk x8.Routine (w64 (x8.Pc+1)) x8.State x8.Cond x8.Lock x8.Stack)) p2 (p3.set (Int.toNat p6.A) p5) p4),(Qaa.mk p7.Thread 4 p6.A p7.Lock p7.Pc))
      else
       if (p6.Code == 13)=true then
        Option.bind (rd p3 p6.A) fun x43 =>
        some ((Qa1.mk (p1.set (Int.toNat p5) (Qa0.mk x8.Routine (w64 (x8.Pc+1)) x8.State x8.Cond x8.Lock x8.Stack)) p2 (p3.set (Int.toNat p6.A) (-1)) p4),(Qaa.mk p7.Thread 5 p6.A p7.Lock p7.Pc))
       else
        if (p6.Code == 14)=true then
         none
        else
         if (p6.Code == 15)=true then
          some ((Qa1.mk (p1.set (Int.toNat p5) (Qa0.mk x8.Routine (w64 (x8.Pc+1)) x8.State x8.Cond x8.Lock x8.Stack)) p2 p3 p4),(Qaa.mk p7.Thread 7 r12 p7.Lock p7.Pc))
         else
          if (p6.Code == 16)=true then
           Option.bind (rd p3 p6.B) fun x52 =>
           some ((Qa1.mk (p1.set (Int.toNat p5) (Qa0.mk x8.Routine (w64 ((w64 (x8.Pc+1)) - 1)) 3 p6.A p6.B x8.Stack)) p2 (p3.set (Int.toNat p6.B) (-1)) p4),(Qaa.mk p7.Thread 8 p6.A p6.B p7.Pc))
          else
           if (p6.Code == 17)=true then
            Qc6 p1 p2 p3 p5 x8 FU p1 x8.Stack p2 p3 p4 p6 (Qaa.mk p7.Thread 10 p6.A p7.Lock p7.Pc) (Qa1.mk [] [] [] 0) (Qaa.mk 0 0 0 0 0) x8.Routine (w64 (x8.Pc+1)) x8.State x8.Cond x8.Lock 0
           else
            Option.bind (rd l11 0) fun x88 =>
            Option.bind (rd l11 1) fun x89 =>
            Option.bind (Qej p6.Code x88 x89) fun r90 =>
            Option.bind (app x8.Stack [r90]) fun l91 =>
            some ((Qa1.mk (p1.set (Int.toNat p5) (Qa0.mk x8.Routine (w64 (x8.Pc+1)) x8.State x8.Cond x8.Lock l91)) p2 p3 p4),(Qaa.mk p7.Thread 1 p7.Obj p7.Lock p7.Pc))
theorem Qy4 {p1:(List Qa0)} {p2:(List Nat)} {p3:(List Int)} {p4:Int} {p5:Int} {p6:GOp} {p7:Qaa} {r:(Qa1×Qaa)} (h:Qn0 p1 p2 p3 p4 p5 p6 p7=some r) : Qo1 Tryz.prog 171 [⟨70,6,(p1.map o70)⟩,⟨132,1,(p2.map Qae)⟩,⟨3,1,(p3.map o3)⟩] [(AV.agg [(AV.sl 0 0 (List.length (p1.map o70))),(AV.sl 1 0 (List.length (p2.map Qae))),(AV.sl 2 0 (List.length (p3.map o3))),(I p4)]),(I p5),(AV.agg ((Qbj p6))),(AV.agg ((o60 p7)))] [false,false,false] [⟨70,6,(p1.map o70)⟩,⟨132,1,(p2.map Qae)⟩,⟨3,1,(p3.map o3)⟩] (AV.tup [(AV.agg (o44 r.1)),(AV.agg (o60 r.2))]):=by
 refine Qlv Xbu Tryz.func171 rfl (c:=Xc5) (by kernel_rfl) (Nat.le_of_ble_eq_true rfl) rfl (Nat.le_of_ble_eq_true rfl) rfl (fr:=[]) (frI rfl) ?_
 intro E hP hn hx
 replace hn:E.n=247:=hn
 unfold Qn0 at h
 obtain ⟨x8,hx8,h⟩:=bnS h
 obtain ⟨r9,hr9,h⟩:=bnS h
 obtain ⟨l10,hl10,h⟩:=bnS h
 obtain ⟨l11,hl11,h⟩:=bnS h
 obtain ⟨r12,hr12,h⟩:=bnS h
 obtain ⟨q13,hq13,h⟩:=bnS h
 let Z0:=I x8.Routine;let Z1:=I x8.State;let Z2:=I x8.Cond;let Z3:=I x8.Lock;let Z4:=x8.Stack.map Qae;let Z5:=AV.own 132 1 Z4;let Z6:=[Z0,(I x8.Pc),Z1,Z2,Z3,Z5];let Z7:=p1.map o70;let Z8:=AV.sl 1006 0 Z4.length;let Z9:=[Z0,(I x8.Pc),Z1,Z2,Z3,Z8];let Z10:=Z7.set p5.toNat Z9;let Z11:=AV.tup [(I r9.1),(I r9.2)];let Z12:=(x8.Stack.length:Int);let Z13:=l11.map Qae;let Z14:=(p1.set p5.toNat (Qa0.mk x8.Routine x8.Pc x8.State x8.Cond x8.Lock x8.Stack)).map r70;let Z15:=p2.map Qae;let Z16:=p3.map o3;let Z17:=((Z7.length:Nat) : Int);let Z18:=((Z4.length:Nat) : Int);let Z19:=w64 (Z12 - r9.1);let Z20:=[].map Qae;let Z21:=(Z4.drop Z19.toNat).take (Xe9 Z18.toNat Z19.toNat);let Z22:=I p4;let Z23:=Qas.mk 132 1 Z4;let Z25:=x8.Pc+1;let Z26:=w64 Z25;let Z31:=(([p6.V].map Qae).drop 0).take ([p6.V].map Qae).length;let Z32:=((Z10.length:Nat) : Int);let Z33:=AV.sl 1 0 Z15.length;let Z34:=AV.sl 2 0 Z16.length;let Z35:=[(AV.sl 0 0 Z7.length),Z33,Z34,Z22];let Z36:=AV.agg Z35;let Z37:=I p7.Thread;let Z38:=I p7.Lock;let Z39:=I p7.Pc;let Z40:=AV.agg [Z37,(I 1),(I p7.Obj),Z38,Z39];let Z41:=Qas.mk 44 4 [Z35];let Z42:=Z15.take Z15.length;let Z43:=Z16.take Z16.length;let Z49:=((Z15.length:Nat) : Int);let Z50:=AV.ptr 1007 0 5;let Z52:=I p6.A;let Z53:=AV.agg [Z37,(I 2),Z52,Z38,Z39];let Z55:=[Z0,(I Z26),Z1,Z2,Z3,Z8];let Z56:=Z7.set p5.toNat Z55;let Z57:=(p1.set p5.toNat (Qa0.mk x8.Routine Z26 x8.State x8.Cond x8.Lock x8.Stack)).map o70;let Z58:=((Z13.length:Nat) : Int);let Z59:=wr Z9 0 Z55;let Z60:=AV.agg [Z37,(I 3),Z52,Z38,Z39];let Z61:=Z55.set 5 Z5;let Z62:=Z57.take Z7.length;let Z63:=Qa0.mk x8.Routine (w64 Z25) x8.State x8.Cond x8.Lock x8.Stack;let Z64:=[Z0,Z52,Z1,Z2,Z3,Z8];let Z65:=Z7.set p5.toNat Z64;let Z66:=(p1.set p5.toNat (Qa0.mk x8.Routine p6.A x8.State x8.Cond x8.Lock x8.Stack)).map o70;let Z67:=wr Z9 0 Z64;let Z68:=Z64.set 5 Z5;let Z69:=Z66.take Z7.length;let Z70:=Qa0.mk x8.Routine p6.A x8.State x8.Cond x8.Lock x8.Stack;let Z72:=(p3.set p6.A.toNat p5).map o3;let Z73:=((Z16.length:Nat) : Int);let Z74:=AV.agg [Z37,(I 4),Z52,Z38,Z39];let Z75:=(p3.set p6.A.toNat (-1)).map o3;let Z76:=[(I (-1))];let Z77:=AV.agg [Z37,(I 5),Z52,Z38,Z39];let Z78:=p6.Code == 15;let Z79:=AV.agg [Z37,(I 7),(I r12),Z38,Z39];let Z80:=(p3.set p6.B.toNat (-1)).map o3;let Z81:=[Z0,(I (w64 (Z26 - 1))),(I 3),Z52,(I p6.B),Z8];let Z82:=Z7.set p5.toNat Z81;let Z83:=(p1.set p5.toNat (Qa0.mk x8.Routine (w64 (Z26 - 1)) 3 p6.A p6.B x8.Stack)).map o70;let Z84:=p6.Code == 16;let Z85:=AV.agg [Z37,(I 8),Z52,(I p6.B),Z39];let Z86:=(I (p1.length:Int));let Z87:=AV.sl 0 0 Z10.length;let Z88:=[Z87,Z33,Z34,Z22];let Z89:=AV.own 132 1 Z15;let Z90:=[Z87,Z89,Z34,Z22];let Z91:=[[Z87,Z89,(AV.own 3 1 Z16),Z22]];let Z92:=AV.own 70 6 ([].map o70);let Z93:=[[Z92,nS,nS,(I 0)]];let Z94:=AV.own 132 1 Z20;let Z95:=[[Z92,Z94,nS,(I 0)]];let Z96:=[[Z92,Z94,(AV.own 3 1 ([].map o3)),(I 0)]];let Z97:=Qa1.mk [] [] [] 0
 let H1:List Hn:=[hW 0 1001,hW 1 1002,hW 2 1003,hW 3 1004,hW 4 1005,hh 9 (.unpack 0 1006 p5.toNat 5 Z6 132 1 Z4 Z10),hh 9 (.row Z9),hW 10 1007,hh 14 (.callV [] Z11),hW 20 1008,hO 25 (I Z12),hh 29 (.app 1009 Z13),hh 33 (.callD [1006] [Z14,Z15,Z16,Z4] (I r12) []),hO 39 (I Z12),hO 42 Z8]
 let P2:List Prop:=[(0:Int)≤p5,p5<Z17,Z7[p5.toNat]? = some Z6,Z6[5]? = some Z5,0<1,Z7.set p5.toNat (Z6.set 5 Z8)=Z10,Z10[p5.toNat]? = some Z9,Qa4 Tryz.prog 212 [(I p6.Code)] Z11,Qa3 Z11=true,AV.lit (.int .i64 Z18)=(I Z12),(0:Int)≤Z19,Z19≤Z18,Z18≤Z18,Z20.take Z20.length++Z21=Z13,Z21.all (fun r=>r.all AV.plain)=true,Z13.length * 8≤140737488355328,Z13.length≤140737488355328,Qa4 Tryz.prog 211 [(AV.agg [(AV.ro 6 Z14),(AV.ro 1 Z15),(AV.ro 1 Z16),Z22]),(AV.agg [Z0,(I x8.Pc),Z1,Z2,Z3,(AV.ro 1 Z4)])] (I r12),Qc2 (I r12)=true,Qt9 [(1006,Z23)] ((Z10.drop 0).take Z7.length)=some Z14,Qt9 [(1006,Z23)] ((Z15.drop 0).take Z15.length)=some Z15,Qt9 [(1006,Z23)] ((Z16.drop 0).take Z16.length)=some Z16,Qt9 [(1006,Z23)] ((Z4.drop 0).take Z4.length)=some Z4,AV.lit (.int .i64 Z18)=(I Z12),(AV.sl 1006 0 Z19.toNat)=Z8,(0:Int)≤(0:Int),(0:Int)≤Z19,Z19≤Z18]
 have AP2:Qam P2:=⟨(rd0 hx8),(rdL o70 hx8),(rdM o70 hx8),rfl,(by decide),rfl,(Qcc (rdM o70 hx8)),(Qli hr9),rfl,(Qby Qae),(sl0 hl10),(sl1e Qae hl10),(Int.le_refl _),(Xeq Qae hl11 hl10),(plD Qkp),(Qn2 Qae hl11 (by decide)),(Qn1 Qae hl11),(Qiy hr12),rfl,(rsWn lnq (Xk9 t70 z70 (y:=(Qa0.mk x8.Routine x8.Pc x8.State x8.Cond x8.Lock x8.Stack)) (Qtp rfl (Qtp rfl (Qtp rfl (Qtp rfl (Qtp rfl (Qtp (Xjy (R:=⟨132,1,Z4⟩) rfl (Qfx Qbs Qqn)) rfl)))))))),(rsW (Qlb Qbs Qqn _)),(rsW (Qlb t3 z3 _)),(rsW (Qlb Qbs Qqn _)),(Qby Qae),(Xoi Qae hq13),(Int.le_refl _),(Xod hq13),(Xor Qae hq13),trivial⟩
 rcases itS h with ⟨c14,h⟩ | ⟨c16,h⟩
 ·obtain ⟨l15,hl15,h⟩:=bnS h
  obtain rfl:=sj h
  exact (let Z24:=l15.map Qae;let Z27:=AV.sl 1011 0 Z24.length;let Z28:=[Z0,(I Z26),Z1,Z2,Z3,Z27];let Z29:=Z7.set p5.toNat Z28;let Z30:=(p1.set p5.toNat (Qa0.mk x8.Routine Z26 x8.State x8.Cond x8.Lock l15)).map o70;gR hP hn (H1++[hT 56,hW 61 1010,hh 62 (.app 1011 Z24),hh 69 (.slen 241 Z10.length),hh 70 (.sto Z9 Z29),hh 75 (.pack 0 1011 p5.toNat 5 Z28 Z30)]) [] (.agg [.agg [.own,.own,.own,.raw],.raw]) (P2++[(p6.Code == 1)=true,Z4.take Z4.length++Z31=Z24,Z31.all (fun r=>r.all AV.plain)=true,Z24.length * 8≤140737488355328,Z24.length≤140737488355328,Z7.length=Z10.length,(0:Int)≤p5,p5<Z32,Z10[p5.toNat]? = some Z9,Z10.set p5.toNat (wr Z9 0 Z28)=Z29,Z28.length=6,0+Z28.length≤Z9.length,Z36=Z36,Z40=Z40,Z40=Z40,[(1004,some Z41)]=[(1004,some Z41)],Z29[p5.toNat]? = some Z28,Z28[5]? = some Z27,Qa2 Z24=true,Z29.set p5.toNat (Z28.set 5 (AV.own 132 1 Z24))=Z30,Qa2 (Z30.take Z7.length)=true,Z30.take Z7.length=Z30,Qa6 Z30=true,Qa2 Z42=true,Z15.take Z15.length=Z15,Qa6 Z15=true,Qa2 Z43=true,Z16.take Z16.length=Z16,Qa6 Z16=true,Z22=Z22,Qa3 Z22=true,Z40=Z40,Qa3 Z40=true]) (Qa7 AP2 ⟨c14,(Qix Qae hl15),(plD Qkp),(Qn2 Qae hl15 (by decide)),(Qn1 Qae hl15),lnq,(rd0 hx8),(Qrx o70 hx8),(Qcc (rdM o70 hx8)),(Qfh rfl),rfl,leB,rfl,rfl,rfl,rfl,(Qcc (rdM o70 hx8)),rfl,(Qab Qbs),(Qfz o70 (y:=(Qa0.mk x8.Routine (w64 Z25) x8.State x8.Cond x8.Lock l15)) rfl),(Qct lnq (Qab t70)),(Qfb lnq),(Qa9 n70),(Qb7 Qbs),Qb6,(Qa9 Qe7),(Qb7 t3),Qb6,(Qa9 n3),rfl,rfl,rfl,rfl,trivial⟩))
 ·let P3:List Prop:=P2++[(p6.Code == 1)=false]
  have AP3:Qam P3:=Qa7 AP2 ⟨c16,trivial⟩
  rcases itS h with ⟨c17,h⟩ | ⟨c20,h⟩
  ·obtain ⟨x18,hx18,h⟩:=bnS h
   obtain ⟨l19,hl19,h⟩:=bnS h
   obtain rfl:=sj h
   exact (let Z44:=l19.map Qae;let Z45:=AV.sl 1013 0 Z44.length;let Z46:=[Z0,(I Z26),Z1,Z2,Z3,Z45];let Z47:=Z7.set p5.toNat Z46;let Z48:=(p1.set p5.toNat (Qa0.mk x8.Routine Z26 x8.State x8.Cond x8.Lock l19)).map o70;let Z51:=(([x18].map Qae).drop 0).take ([x18].map Qae).length;gR hP hn (H1++[hF 56,hT 59,hh 73 (.row [(FK x18)]),hW 74 1012,hh 77 (.app 1013 Z44),hh 84 (.slen 241 Z10.length),hh 85 (.sto Z9 Z47),hh 90 (.pack 0 1013 p5.toNat 5 Z46 Z48)]) [] (.agg [.agg [.own,.own,.own,.raw],.raw]) (P3++[(p6.Code == 2)=true,(0:Int)≤p6.A,p6.A<Z49,Z15[p6.A.toNat]? = some [(FK x18)],Z50=Z50,Z8=Z8,Z4.take Z4.length++Z51=Z44,Z51.all (fun r=>r.all AV.plain)=true,Z44.length * 8≤140737488355328,Z44.length≤140737488355328,Z7.length=Z10.length,(0:Int)≤p5,p5<Z32,Z10[p5.toNat]? = some Z9,Z10.set p5.toNat (wr Z9 0 Z46)=Z47,Z46.length=6,0+Z46.length≤Z9.length,Z36=Z36,Z53=Z53,Z53=Z53,[(1004,some Z41)]=[(1004,some Z41)],Z47[p5.toNat]? = some Z46,Z46[5]? = some Z45,Qa2 Z44=true,Z47.set p5.toNat (Z46.set 5 (AV.own 132 1 Z44))=Z48,Qa2 (Z48.take Z7.length)=true,Z48.take Z7.length=Z48,Qa6 Z48=true,Qa2 Z42=true,Z15.take Z15.length=Z15,Qa6 Z15=true,Qa2 Z43=true,Z16.take Z16.length=Z16,Qa6 Z16=true,Z22=Z22,Qa3 Z22=true,Z53=Z53,Qa3 Z53=true]) (Qa7 AP3 ⟨c17,(rd0 hx18),(rdL Qae hx18),(rdM Qae hx18),rfl,rfl,(Qix Qae hl19),(plD Qkp),(Qn2 Qae hl19 (by decide)),(Qn1 Qae hl19),lnq,(rd0 hx8),(Qrx o70 hx8),(Qcc (rdM o70 hx8)),(Qfh rfl),rfl,leB,rfl,rfl,rfl,rfl,(Qcc (rdM o70 hx8)),rfl,(Qab Qbs),(Qfz o70 (y:=(Qa0.mk x8.Routine (w64 Z25) x8.State x8.Cond x8.Lock l19)) rfl),(Qct lnq (Qab t70)),(Qfb lnq),(Qa9 n70),(Qb7 Qbs),Qb6,(Qa9 Qe7),(Qb7 t3),Qb6,(Qa9 n3),rfl,rfl,rfl,rfl,trivial⟩))
  ·let H4:List Hn:=H1++[hF 56,hF 59]
   let P5:List Prop:=P3++[(p6.Code == 2)=false]
   have AP5:Qam P5:=Qa7 AP3 ⟨c20,trivial⟩
   rcases itS h with ⟨c21,h⟩ | ⟨c24,h⟩
   ·obtain ⟨x22,hx22,h⟩:=bnS h
    obtain ⟨x23,hx23,h⟩:=bnS h
    obtain rfl:=sj h
    exact (let Z54:=(p2.set p6.A.toNat x22).map Qae;gR hP hn (H4++[hT 62,hh 75 (.row [(FK x22)]),hh 77 (.sto [(FK x23)] Z54),hh 82 (.slen 241 Z10.length),hh 83 (.sto Z9 Z56),hh 88 (.pack 0 1006 p5.toNat 5 Z55 Z57)]) [] (.agg [.agg [.own,.own,.own,.raw],.raw]) (P5++[(p6.Code == 3)=true,(0:Int)≤0,0<Z58,Z13[(Int.toNat 0)]? = some [(FK x22)],(0:Int)≤p6.A,p6.A<Z49,Z15[p6.A.toNat]? = some [(FK x23)],Z15.set p6.A.toNat (wr [(FK x23)] 0 [(FK x22)])=Z54,[(FK x22)].length=1,0 + [(FK x22)].length≤[(FK x23)].length,Z7.length=Z10.length,(0:Int)≤p5,p5<Z32,Z10[p5.toNat]? = some Z9,Z10.set p5.toNat Z59=Z56,Z55.length=6,0+Z55.length≤Z9.length,Z36=Z36,Z60=Z60,Z60=Z60,[(1004,some Z41)]=[(1004,some Z41)],Z56[p5.toNat]? = some Z55,Z55[5]? = some Z8,Qa2 Z4=true,Z56.set p5.toNat Z61=Z57,Qa2 Z62=true,Z57.take Z7.length=Z57,Qa6 Z57=true,Qa2 (Z54.take Z15.length)=true,Z54.take Z15.length=Z54,Qa6 Z54=true,Qa2 Z43=true,Z16.take Z16.length=Z16,Qa6 Z16=true,Z22=Z22,Qa3 Z22=true,Z60=Z60,Qa3 Z60=true]) (Qa7 AP5 ⟨c21,(rd0 hx22),(rdL Qae hx22),(rdM Qae hx22),(rd0 hx23),(rdL Qae hx23),(rdM Qae hx23),(Qw5 Qae),rfl,leB,lnq,(rd0 hx8),(Qrx o70 hx8),(Qcc (rdM o70 hx8)),(Qfh rfl),rfl,leB,rfl,rfl,rfl,rfl,(Qcc (rdM o70 hx8)),rfl,(Qab Qbs),(Qfz o70 (y:=Z63) rfl),(Qct lnq (Qab t70)),(Qfb lnq),(Qa9 n70),(Qct lnq (Qab Qbs)),(Qfb lnq),(Qa9 Qe7),(Qb7 t3),Qb6,(Qa9 n3),rfl,rfl,rfl,rfl,trivial⟩))
   ·let P6:List Prop:=P5++[(p6.Code == 3)=false]
    have AP6:Qam P6:=Qa7 AP5 ⟨c24,trivial⟩
    rcases itS h with ⟨c25,h⟩ | ⟨c26,h⟩
    ·obtain rfl:=sj h
     exact gR hP hn (H4++[hF 62,hT 65,hh 74 (.slen 241 Z10.length),hh 75 (.sto Z9 Z65),hh 80 (.pack 0 1006 p5.toNat 5 Z64 Z66)]) [] (.agg [.agg [.own,.own,.own,.raw],.raw]) (P6++[(p6.Code == 10)=true,Z7.length=Z10.length,(0:Int)≤p5,p5<Z32,Z10[p5.toNat]? = some Z9,Z10.set p5.toNat Z67=Z65,Z64.length=6,0+Z64.length≤Z9.length,Z36=Z36,Z40=Z40,Z40=Z40,[(1004,some Z41)]=[(1004,some Z41)],Z65[p5.toNat]? = some Z64,Z64[5]? = some Z8,Qa2 Z4=true,Z65.set p5.toNat Z68=Z66,Qa2 Z69=true,Z66.take Z7.length=Z66,Qa6 Z66=true,Qa2 Z42=true,Z15.take Z15.length=Z15,Qa6 Z15=true,Qa2 Z43=true,Z16.take Z16.length=Z16,Qa6 Z16=true,Z22=Z22,Qa3 Z22=true,Z40=Z40,Qa3 Z40=true]) (Qa7 AP6 ⟨c25,lnq,(rd0 hx8),(Qrx o70 hx8),(Qcc (rdM o70 hx8)),(Qfh rfl),rfl,leB,rfl,rfl,rfl,rfl,(Qcc (rdM o70 hx8)),rfl,(Qab Qbs),(Qfz o70 (y:=Z70) rfl),(Qct lnq (Qab t70)),(Qfb lnq),(Qa9 n70),(Qb7 Qbs),Qb6,(Qa9 Qe7),(Qb7 t3),Qb6,(Qa9 n3),rfl,rfl,rfl,rfl,trivial⟩)
    ·let H7:List Hn:=H4++[hF 62,hF 65]
     let P8:List Prop:=P6++[(p6.Code == 10)=false]
     have AP8:Qam P8:=Qa7 AP6 ⟨c26,trivial⟩
     rcases itS h with ⟨c27,h⟩ | ⟨c38,h⟩
     ·obtain ⟨x28,hx28,h⟩:=bnS h
      obtain ⟨r33,hr33,h⟩:=bnS h
      let Z71:=Qci x28 0
      let H9:List Hn:=H7++[hT 68,hh 71 (.row [(FK x28)]),hh 72 (.callV [] (B r33))]
      let P10:List Prop:=P8++[(p6.Code == 11)=true,(0:Int)≤0,0<Z58,Z13[(Int.toNat 0)]? = some [(FK x28)],Qa4 Tryz.prog 213 [(FK x28)] (B r33),Qa3 (B r33)=true]
      have AP10:Qam P10:=Qa7 AP8 ⟨c27,(rd0 hx28),(rdL Qae hx28),(rdM Qae hx28),(Qer hr33),rfl,trivial⟩
      rcases itS h with ⟨c34,h⟩ | ⟨c35,h⟩
      ·obtain rfl:=sj h
       exact gR hP hn (H9++[hO 73 (B true),hh 88 (.slen 241 Z10.length),hh 89 (.sto Z9 Z65),hh 94 (.pack 0 1006 p5.toNat 5 Z64 Z66)]) [] (.agg [.agg [.own,.own,.own,.raw],.raw]) (P10++[(B r33)=(B true),Z7.length=Z10.length,(0:Int)≤p5,p5<Z32,Z10[p5.toNat]? = some Z9,Z10.set p5.toNat Z67=Z65,Z64.length=6,0+Z64.length≤Z9.length,Z36=Z36,Z40=Z40,Z40=Z40,[(1004,some Z41)]=[(1004,some Z41)],Z65[p5.toNat]? = some Z64,Z64[5]? = some Z8,Qa2 Z4=true,Z65.set p5.toNat Z68=Z66,Qa2 Z69=true,Z66.take Z7.length=Z66,Qa6 Z66=true,Qa2 Z42=true,Z15.take Z15.length=Z15,Qa6 Z15=true,Qa2 Z43=true,Z16.take Z16.length=Z16,Qa6 Z16=true,Z22=Z22,Qa3 Z22=true,Z40=Z40,Qa3 Z40=true]) (Qa7 AP10 ⟨(Qau c34),lnq,(rd0 hx8),(Qrx o70 hx8),(Qcc (rdM o70 hx8)),(Qfh rfl),rfl,leB,rfl,rfl,rfl,rfl,(Qcc (rdM o70 hx8)),rfl,(Qab Qbs),(Qfz o70 (y:=Z70) rfl),(Qct lnq (Qab t70)),(Qfb lnq),(Qa9 n70),(Qb7 Qbs),Qb6,(Qa9 Qe7),(Qb7 t3),Qb6,(Qa9 n3),rfl,rfl,rfl,rfl,trivial⟩)
      ·let H11:List Hn:=H9++[hO 73 (B false),hh 76 (.row [(FK x28)]),hh 77 (.bin (B (Z71 == some .eq)))]
       let P12:List Prop:=P10++[(B r33)=(B false),(0:Int)≤0,0<Z58,Z13[(Int.toNat 0)]? = some [(FK x28)],Qgd Tryz.prog .eql 132 (FK x28) (FK 0) (B (Z71 == some .eq))]
       have AP12:Qam P12:=Qa7 AP10 ⟨(Qau c35),(rd0 hx28),(rdL Qae hx28),(rdM Qae hx28),Xfi,trivial⟩
       rcases itS h with ⟨c36,h⟩ | ⟨c37,h⟩
       ·obtain rfl:=sj h
        exact gR hP hn (H11++[hT 79,hh 88 (.slen 241 Z10.length),hh 89 (.sto Z9 Z65),hh 94 (.pack 0 1006 p5.toNat 5 Z64 Z66)]) [] (.agg [.agg [.own,.own,.own,.raw],.raw]) (P12++[(Z71 == some .eq)=true,Z7.length=Z10.length,(0:Int)≤p5,p5<Z32,Z10[p5.toNat]? = some Z9,Z10.set p5.toNat Z67=Z65,Z64.length=6,0+Z64.length≤Z9.length,Z36=Z36,Z40=Z40,Z40=Z40,[(1004,some Z41)]=[(1004,some Z41)],Z65[p5.toNat]? = some Z64,Z64[5]? = some Z8,Qa2 Z4=true,Z65.set p5.toNat Z68=Z66,Qa2 Z69=true,Z66.take Z7.length=Z66,Qa6 Z66=true,Qa2 Z42=true,Z15.take Z15.length=Z15,Qa6 Z15=true,Qa2 Z43=true,Z16.take Z16.length=Z16,Qa6 Z16=true,Z22=Z22,Qa3 Z22=true,Z40=Z40,Qa3 Z40=true]) (Qa7 AP12 ⟨c36,lnq,(rd0 hx8),(Qrx o70 hx8),(Qcc (rdM o70 hx8)),(Qfh rfl),rfl,leB,rfl,rfl,rfl,rfl,(Qcc (rdM o70 hx8)),rfl,(Qab Qbs),(Qfz o70 (y:=Z70) rfl),(Qct lnq (Qab t70)),(Qfb lnq),(Qa9 n70),(Qb7 Qbs),Qb6,(Qa9 Qe7),(Qb7 t3),Qb6,(Qa9 n3),rfl,rfl,rfl,rfl,trivial⟩)
       ·obtain rfl:=sj h
        exact gR hP hn (H11++[hF 79,hh 84 (.slen 241 Z10.length),hh 85 (.sto Z9 Z56),hh 90 (.pack 0 1006 p5.toNat 5 Z55 Z57)]) [] (.agg [.agg [.own,.own,.own,.raw],.raw]) (P12++[(Z71 == some .eq)=false,Z7.length=Z10.length,(0:Int)≤p5,p5<Z32,Z10[p5.toNat]? = some Z9,Z10.set p5.toNat Z59=Z56,Z55.length=6,0+Z55.length≤Z9.length,Z36=Z36,Z40=Z40,Z40=Z40,[(1004,some Z41)]=[(1004,some Z41)],Z56[p5.toNat]? = some Z55,Z55[5]? = some Z8,Qa2 Z4=true,Z56.set p5.toNat Z61=Z57,Qa2 Z62=true,Z57.take Z7.length=Z57,Qa6 Z57=true,Qa2 Z42=true,Z15.take Z15.length=Z15,Qa6 Z15=true,Qa2 Z43=true,Z16.take Z16.length=Z16,Qa6 Z16=true,Z22=Z22,Qa3 Z22=true,Z40=Z40,Qa3 Z40=true]) (Qa7 AP12 ⟨c37,lnq,(rd0 hx8),(Qrx o70 hx8),(Qcc (rdM o70 hx8)),(Qfh rfl),rfl,leB,rfl,rfl,rfl,rfl,(Qcc (rdM o70 hx8)),rfl,(Qab Qbs),(Qfz o70 (y:=Z63) rfl),(Qct lnq (Qab t70)),(Qfb lnq),(Qa9 n70),(Qb7 Qbs),Qb6,(Qa9 Qe7),(Qb7 t3),Qb6,(Qa9 n3),rfl,rfl,rfl,rfl,trivial⟩)
     ·let P13:List Prop:=P8++[(p6.Code == 11)=false]
      have AP13:Qam P13:=Qa7 AP8 ⟨c38,trivial⟩
      rcases itS h with ⟨c39,h⟩ | ⟨c41,h⟩
      ·obtain ⟨x40,hx40,h⟩:=bnS h
       obtain rfl:=sj h
       exact gR hP hn (H7++[hF 68,hT 71,hh 84 (.sto [(I x40)] Z72),hh 89 (.slen 241 Z10.length),hh 90 (.sto Z9 Z56),hh 95 (.pack 0 1006 p5.toNat 5 Z55 Z57)]) [] (.agg [.agg [.own,.own,.own,.raw],.raw]) (P13++[(p6.Code == 12)=true,(0:Int)≤p6.A,p6.A<Z73,Z16[p6.A.toNat]? = some [(I x40)],Z16.set p6.A.toNat (wr [(I x40)] 0 [(I p5)])=Z72,[(I p5)].length=1,0 + [(I p5)].length≤[(I x40)].length,Z7.length=Z10.length,(0:Int)≤p5,p5<Z32,Z10[p5.toNat]? = some Z9,Z10.set p5.toNat Z59=Z56,Z55.length=6,0+Z55.length≤Z9.length,Z36=Z36,Z74=Z74,Z74=Z74,[(1004,some Z41)]=[(1004,some Z41)],Z56[p5.toNat]? = some Z55,Z55[5]? = some Z8,Qa2 Z4=true,Z56.set p5.toNat Z61=Z57,Qa2 Z62=true,Z57.take Z7.length=Z57,Qa6 Z57=true,Qa2 Z42=true,Z15.take Z15.length=Z15,Qa6 Z15=true,Qa2 (Z72.take Z16.length)=true,Z72.take Z16.length=Z72,Qa6 Z72=true,Z22=Z22,Qa3 Z22=true,Z74=Z74,Qa3 Z74=true]) (Qa7 AP13 ⟨c39,(rd0 hx40),(rdL o3 hx40),(rdM o3 hx40),(Qw5 o3),rfl,leB,lnq,(rd0 hx8),(Qrx o70 hx8),(Qcc (rdM o70 hx8)),(Qfh rfl),rfl,leB,rfl,rfl,rfl,rfl,(Qcc (rdM o70 hx8)),rfl,(Qab Qbs),(Qfz o70 (y:=Z63) rfl),(Qct lnq (Qab t70)),(Qfb lnq),(Qa9 n70),(Qb7 Qbs),Qb6,(Qa9 Qe7),(Qct lnq (Qab t3)),(Qfb lnq),(Qa9 n3),rfl,rfl,rfl,rfl,trivial⟩)
      ·let P14:List Prop:=P13++[(p6.Code == 12)=false]
       have AP14:Qam P14:=Qa7 AP13 ⟨c41,trivial⟩
       rcases itS h with ⟨c42,h⟩ | ⟨c44,h⟩
       ·obtain ⟨x43,hx43,h⟩:=bnS h
        obtain rfl:=sj h
        exact gR hP hn (H7++[hF 68,hF 71,hT 74,hh 86 (.sto [(I x43)] Z75),hh 91 (.slen 241 Z10.length),hh 92 (.sto Z9 Z56),hh 97 (.pack 0 1006 p5.toNat 5 Z55 Z57)]) [] (.agg [.agg [.own,.own,.own,.raw],.raw]) (P14++[(p6.Code == 13)=true,(0:Int)≤p6.A,p6.A<Z73,Z16[p6.A.toNat]? = some [(I x43)],Z16.set p6.A.toNat (wr [(I x43)] 0 Z76)=Z75,Z76.length=1,0+Z76.length≤[(I x43)].length,Z7.length=Z10.length,(0:Int)≤p5,p5<Z32,Z10[p5.toNat]? = some Z9,Z10.set p5.toNat Z59=Z56,Z55.length=6,0+Z55.length≤Z9.length,Z36=Z36,Z77=Z77,Z77=Z77,[(1004,some Z41)]=[(1004,some Z41)],Z56[p5.toNat]? = some Z55,Z55[5]? = some Z8,Qa2 Z4=true,Z56.set p5.toNat Z61=Z57,Qa2 Z62=true,Z57.take Z7.length=Z57,Qa6 Z57=true,Qa2 Z42=true,Z15.take Z15.length=Z15,Qa6 Z15=true,Qa2 (Z75.take Z16.length)=true,Z75.take Z16.length=Z75,Qa6 Z75=true,Z22=Z22,Qa3 Z22=true,Z77=Z77,Qa3 Z77=true]) (Qa7 AP14 ⟨c42,(rd0 hx43),(rdL o3 hx43),(rdM o3 hx43),(Qw5 o3),rfl,leB,lnq,(rd0 hx8),(Qrx o70 hx8),(Qcc (rdM o70 hx8)),(Qfh rfl),rfl,leB,rfl,rfl,rfl,rfl,(Qcc (rdM o70 hx8)),rfl,(Qab Qbs),(Qfz o70 (y:=Z63) rfl),(Qct lnq (Qab t70)),(Qfb lnq),(Qa9 n70),(Qb7 Qbs),Qb6,(Qa9 Qe7),(Qct lnq (Qab t3)),(Qfb lnq),(Qa9 n3),rfl,rfl,rfl,rfl,trivial⟩)
       ·rcases itS h with ⟨c45,h⟩ | ⟨c48,h⟩
        ·cases h
        ·let P15:List Prop:=P14++[(p6.Code == 13)=false,(p6.Code == 14)=false]
         have AP15:Qam P15:=Qa7 AP14 ⟨c44,c48,trivial⟩
         rcases itS h with ⟨c49,h⟩ | ⟨c50,h⟩
         ·obtain rfl:=sj h
          exact gR hP hn (H7++[hF 68,hF 71,hF 74,hF 77,hT 80,hh 90 (.slen 241 Z10.length),hh 91 (.sto Z9 Z56),hh 96 (.pack 0 1006 p5.toNat 5 Z55 Z57)]) [] (.agg [.agg [.own,.own,.own,.raw],.raw]) (P15++[Z78=true,Z7.length=Z10.length,(0:Int)≤p5,p5<Z32,Z10[p5.toNat]? = some Z9,Z10.set p5.toNat Z59=Z56,Z55.length=6,0+Z55.length≤Z9.length,Z36=Z36,Z79=Z79,Z79=Z79,[(1004,some Z41)]=[(1004,some Z41)],Z56[p5.toNat]? = some Z55,Z55[5]? = some Z8,Qa2 Z4=true,Z56.set p5.toNat Z61=Z57,Qa2 Z62=true,Z57.take Z7.length=Z57,Qa6 Z57=true,Qa2 Z42=true,Z15.take Z15.length=Z15,Qa6 Z15=true,Qa2 Z43=true,Z16.take Z16.length=Z16,Qa6 Z16=true,Z22=Z22,Qa3 Z22=true,Z79=Z79,Qa3 Z79=true]) (Qa7 AP15 ⟨c49,lnq,(rd0 hx8),(Qrx o70 hx8),(Qcc (rdM o70 hx8)),(Qfh rfl),rfl,leB,rfl,rfl,rfl,rfl,(Qcc (rdM o70 hx8)),rfl,(Qab Qbs),(Qfz o70 (y:=Z63) rfl),(Qct lnq (Qab t70)),(Qfb lnq),(Qa9 n70),(Qb7 Qbs),Qb6,(Qa9 Qe7),(Qb7 t3),Qb6,(Qa9 n3),rfl,rfl,rfl,rfl,trivial⟩)
         ·rcases itS h with ⟨c51,h⟩ | ⟨c53,h⟩
          ·obtain ⟨x52,hx52,h⟩:=bnS h
           obtain rfl:=sj h
           exact gR hP hn (H7++[hF 68,hF 71,hF 74,hF 77,hF 80,hT 83,hh 99 (.sto [(I x52)] Z80),hh 119 (.slen 241 Z10.length),hh 120 (.sto Z9 Z82),hh 125 (.pack 0 1006 p5.toNat 5 Z81 Z83)]) [] (.agg [.agg [.own,.own,.own,.raw],.raw]) (P15++[Z78=false,Z84=true,(0:Int)≤p6.B,p6.B<Z73,Z16[p6.B.toNat]? = some [(I x52)],Z16.set p6.B.toNat (wr [(I x52)] 0 Z76)=Z80,Z76.length=1,0+Z76.length≤[(I x52)].length,Z7.length=Z10.length,(0:Int)≤p5,p5<Z32,Z10[p5.toNat]? = some Z9,Z10.set p5.toNat (wr Z9 0 Z81)=Z82,Z81.length=6,0+Z81.length≤Z9.length,Z36=Z36,Z85=Z85,Z85=Z85,[(1004,some Z41)]=[(1004,some Z41)],Z82[p5.toNat]? = some Z81,Z81[5]? = some Z8,Qa2 Z4=true,Z82.set p5.toNat (Z81.set 5 Z5)=Z83,Qa2 (Z83.take Z7.length)=true,Z83.take Z7.length=Z83,Qa6 Z83=true,Qa2 Z42=true,Z15.take Z15.length=Z15,Qa6 Z15=true,Qa2 (Z80.take Z16.length)=true,Z80.take Z16.length=Z80,Qa6 Z80=true,Z22=Z22,Qa3 Z22=true,Z85=Z85,Qa3 Z85=true]) (Qa7 AP15 ⟨c50,c51,(rd0 hx52),(rdL o3 hx52),(rdM o3 hx52),(Qw5 o3),rfl,leB,lnq,(rd0 hx8),(Qrx o70 hx8),(Qcc (rdM o70 hx8)),(Qfh rfl),rfl,leB,rfl,rfl,rfl,rfl,(Qcc (rdM o70 hx8)),rfl,(Qab Qbs),(Qfz o70 (y:=(Qa0.mk x8.Routine (w64 ((w64 Z25) - 1)) 3 p6.A p6.B x8.Stack)) rfl),(Qct lnq (Qab t70)),(Qfb lnq),(Qa9 n70),(Qb7 Qbs),Qb6,(Qa9 Qe7),(Qct lnq (Qab t3)),(Qfb lnq),(Qa9 n3),rfl,rfl,rfl,rfl,trivial⟩)
          ·rcases itS h with ⟨c54,h⟩ | ⟨c87,h⟩
           ·exact gT hP hn hx (H7++[hF 68,hF 71,hF 74,hF 77,hF 80,hF 83,hT 86,hO 95 Z86,hh 97 (.eqr 1001 [Z88]),hh 97 (.pack 1001 1 0 1 Z88 [Z90]),hh 97 (.pack 1001 2 0 2 Z90 Z91),hh 97 (.own0 1004 1 [] [nS,nS,(I 0)] 70 6 Z93),hh 97 (.own0 1004 1 [Z92] [nS,(I 0)] 132 1 Z95),hh 97 (.own0 1004 1 [Z92,Z94] [(I 0)] 3 1 Z96),hh 97 (.slen 215 Z10.length)]) [(1001,3),(0,0),(1006,1006),(1002,4),(1003,5),(1004,6),(1005,7),(1007,8)] [1,4,6,7,8,9,10,215,216,217] [] (P15++[Z78=false,Z84=false,(p6.Code == 17)=true,AV.lit (.int .i64 Z17)=Z86,[Z35]=[Z88],[Z88][0]? = some Z88,Z88[1]? = some Z33,Qa2 Z15=true,[Z88].set 0 (Z88.set 1 Z89)=[Z90],[Z90][0]? = some Z90,Z90[2]? = some Z34,Qa2 Z16=true,[Z90].set 0 (Z90.set 2 (AV.own 3 1 Z16))=Z91,[[nS,nS,nS,(I 0)]]=List.replicate 1 ([]++AV.lit (.slice none 0 0) :: [nS,nS,(I 0)]),List.replicate 1 ([]++AV.own 70 6 [] :: [nS,nS,(I 0)])=Z93,Z93=List.replicate 1 ([Z92]++AV.lit (.slice none 0 0) :: [nS,(I 0)]),List.replicate 1 ([Z92]++AV.own 132 1 [] :: [nS,(I 0)])=Z95,Z95=List.replicate 1 ([Z92,Z94]++AV.lit (.slice none 0 0) :: [(I 0)]),List.replicate 1 ([Z92,Z94]++AV.own 3 1 [] :: [(I 0)])=Z96,Z7.length=Z10.length,Qa8 [(1001,3),(0,0),(1006,1006),(1002,4),(1003,5),(1004,6),(1005,7),(1007,8)] Z91,Qa8 [(1001,3),(0,0),(1006,1006),(1002,4),(1003,5),(1004,6),(1005,7),(1007,8)] Z10,Qa8 [(1001,3),(0,0),(1006,1006),(1002,4),(1003,5),(1004,6),(1005,7),(1007,8)] Z4,Qa8 [(1001,3),(0,0),(1006,1006),(1002,4),(1003,5),(1004,6),(1005,7),(1007,8)] [((Qbj p6))],Qa8 [(1001,3),(0,0),(1006,1006),(1002,4),(1003,5),(1004,6),(1005,7),(1007,8)] [[Z37,(I 10),Z52,Z38,Z39]],Qa8 [(1001,3),(0,0),(1006,1006),(1002,4),(1003,5),(1004,6),(1005,7),(1007,8)] Z96,Qa8 [(1001,3),(0,0),(1006,1006),(1002,4),(1003,5),(1004,6),(1005,7),(1007,8)] [[(I 0),(I 0),(I 0),(I 0),(I 0)]],Qa8 [(1001,3),(0,0),(1006,1006),(1002,4),(1003,5),(1004,6),(1005,7),(1007,8)] [Z55]]) (Qa7 AP15 ⟨c50,c53,c54,(by simp +zetaDelta only [List.length_set,List.length_map]),(by try simp +zetaDelta only [];rw [show Z7.length=Z10.length from lnq]),rfl,rfl,(Qab Qbs),rfl,rfl,rfl,(Qab t3),rfl,rfl,rfl,rfl,rfl,rfl,rfl,lnq,(.inr rfl),(Qzz (rok (Qab t70)) rfl),(rok (Qab Qbs)),(rok rfl),(rok rfl),(rok (Qai t44 Z97)),(rok rfl),(.inr rfl),trivial⟩) (Qte hP hn hx p1 p2 p3 p5 x8 FU p1 x8.Stack p2 p3 p4 p6 (Qaa.mk p7.Thread 10 p6.A p7.Lock p7.Pc) Z97 (Qaa.mk 0 0 0 0 0) x8.Routine (w64 Z25) x8.State x8.Cond x8.Lock 0 _ h)
           ·obtain ⟨x88,hx88,h⟩:=bnS h
            obtain ⟨x89,hx89,h⟩:=bnS h
            obtain ⟨r90,hr90,h⟩:=bnS h
            obtain ⟨l91,hl91,h⟩:=bnS h
            obtain rfl:=sj h
            exact (let Z98:=l91.map Qae;let Z99:=AV.sl 1011 0 Z98.length;let Z100:=[Z0,(I Z26),Z1,Z2,Z3,Z99];let Z101:=Z7.set p5.toNat Z100;let Z102:=(p1.set p5.toNat (Qa0.mk x8.Routine Z26 x8.State x8.Cond x8.Lock l91)).map o70;let Z103:=(([r90].map Qae).drop 0).take ([r90].map Qae).length;gR hP hn (H7++[hF 68,hF 71,hF 74,hF 77,hF 80,hF 83,hF 86,hh 93 (.row [(FK x88)]),hh 96 (.row [(FK x89)]),hh 97 (.callV [] (FK r90)),hW 98 1010,hh 101 (.app 1011 Z98),hh 108 (.slen 241 Z10.length),hh 109 (.sto Z9 Z101),hh 114 (.pack 0 1011 p5.toNat 5 Z100 Z102)]) [] (.agg [.agg [.own,.own,.own,.raw],.raw]) (P15++[Z78=false,Z84=false,(p6.Code == 17)=false,(0:Int)≤0,0<Z58,Z13[(Int.toNat 0)]? = some [(FK x88)],(0:Int)≤1,1<Z58,Z13[(Int.toNat 1)]? = some [(FK x89)],Qa4 Tryz.prog 214 [(I p6.Code),(FK x88),(FK x89)] (FK r90),Qa3 (FK r90)=true,Z50=Z50,Z8=Z8,Z4.take Z4.length++Z103=Z98,Z103.all (fun r=>r.all AV.plain)=true,Z98.length * 8≤140737488355328,Z98.length≤140737488355328,Z7.length=Z10.length,(0:Int)≤p5,p5<Z32,Z10[p5.toNat]? = some Z9,Z10.set p5.toNat (wr Z9 0 Z100)=Z101,Z100.length=6,0+Z100.length≤Z9.length,Z36=Z36,Z40=Z40,Z40=Z40,[(1004,some Z41)]=[(1004,some Z41)],Z101[p5.toNat]? = some Z100,Z100[5]? = some Z99,Qa2 Z98=true,Z101.set p5.toNat (Z100.set 5 (AV.own 132 1 Z98))=Z102,Qa2 (Z102.take Z7.length)=true,Z102.take Z7.length=Z102,Qa6 Z102=true,Qa2 Z42=true,Z15.take Z15.length=Z15,Qa6 Z15=true,Qa2 Z43=true,Z16.take Z16.length=Z16,Qa6 Z16=true,Z22=Z22,Qa3 Z22=true,Z40=Z40,Qa3 Z40=true]) (Qa7 AP15 ⟨c50,c53,c87,(rd0 hx88),(rdL Qae hx88),(rdM Qae hx88),(rd0 hx89),(rdL Qae hx89),(rdM Qae hx89),(Qop hr90),rfl,rfl,rfl,(Qix Qae hl91),(plD Qkp),(Qn2 Qae hl91 (by decide)),(Qn1 Qae hl91),lnq,(rd0 hx8),(Qrx o70 hx8),(Qcc (rdM o70 hx8)),(Qfh rfl),rfl,leB,rfl,rfl,rfl,rfl,(Qcc (rdM o70 hx8)),rfl,(Qab Qbs),(Qfz o70 (y:=(Qa0.mk x8.Routine (w64 Z25) x8.State x8.Cond x8.Lock l91)) rfl),(Qct lnq (Qab t70)),(Qfb lnq),(Qa9 n70),(Qb7 Qbs),Qb6,(Qa9 Qe7),(Qb7 t3),Qb6,(Qa9 n3),rfl,rfl,rfl,rfl,trivial⟩))
noncomputable def Qjj (p1:(List Qa0)) (p2:(List Nat)) (p3:(List Int)) (p4:Int) (p5:Int) (p6:GOp) (p7:Qaa) : Option (Qa1×Qaa):=
 if (p6.Code == 17)=true then
  Qn0 p1 p2 p3 p4 p5 p6 p7
 else
  Qbp p1 p2 p3 p4 p5 p6 p7
theorem Xbb {p1:(List Qa0)} {p2:(List Nat)} {p3:(List Int)} {p4:Int} {p5:Int} {p6:GOp} {p7:Qaa} {r:(Qa1×Qaa)} (h:Qjj p1 p2 p3 p4 p5 p6 p7=some r) : Qo1 Tryz.prog 171 [⟨70,6,(p1.map o70)⟩,⟨132,1,(p2.map Qae)⟩,⟨3,1,(p3.map o3)⟩] [(AV.agg [(AV.sl 0 0 (List.length (p1.map o70))),(AV.sl 1 0 (List.length (p2.map Qae))),(AV.sl 2 0 (List.length (p3.map o3))),(I p4)]),(I p5),(AV.agg ((Qbj p6))),(AV.agg ((o60 p7)))] [false,false,false] [⟨70,6,(p1.map o70)⟩,⟨132,1,(p2.map Qae)⟩,⟨3,1,(p3.map o3)⟩] (AV.tup [(AV.agg (o44 r.1)),(AV.agg (o60 r.2))]):=by
 unfold Qjj at h
 rcases itS h with ⟨_,h⟩ | ⟨_,h⟩
 ·exact Qy4 h
 ·exact Qxl h
noncomputable def Xkt:Code:=match Tryz.f125.body with | some c=>c | none=>.skip
noncomputable def Qpb (p1:(List Int)) : Option (List Int):=
 Option.bind (app [] p1) fun l2 =>
 some l2
theorem Qt5 {p1:(List Int)} {r:(List Int)} (h:Qpb p1=some r) : Qa4 Tryz.prog 125 [(AV.ro 1 (p1.map o3))] (AV.own 3 1 (r.map o3)):=by
 refine gM Tryz.func125 6 Xkt fun E hP hn hx=>?_
 unfold Qpb at h
 obtain ⟨l2,hl2,h⟩:=bnS h
 obtain rfl:=sj h
 exact (let Z0:=l2.map o3;gR hP hn [hW 1 1001,hh 3 (.app 1002 Z0)] [] .own [([].map o3).take ([].map o3).length++(p1.map o3)=Z0,(p1.map o3).all (fun r=>r.all AV.plain)=true,Z0.length * 8≤140737488355328,Z0.length≤140737488355328,Qa2 (Z0.take Z0.length)=true,Z0.take Z0.length=Z0,Qa6 Z0=true] ⟨(Xlw o3 hl2),(plM pa3),(Qn2 o3 hl2 (by decide)),(Qn1 o3 hl2),(Qb7 t3),Qb6,(Qa9 n3),trivial⟩)
noncomputable def Xet:Code:=match Tryz.f105.body with | some c=>c | none=>.skip
noncomputable def Qfm  (p1:Qa1) : Nat→Qa1→Qa1→Int→Option Qa1
 | 0,_,_,_=>none
 | n+1,a4,a5,v6 =>
 if (decide (v6<(p1.Threads.length:Int)))=true then
  Option.bind (rd p1.Threads v6) fun x8 =>
  Option.bind (app [] x8.Stack) fun l9 =>
  Option.bind (app a5.Threads [(Qa0.mk x8.Routine x8.Pc x8.State x8.Cond x8.Lock l9)]) fun l10 =>
  Qfm p1 n a4 (Qa1.mk l10 a5.Cells a5.Owner a5.Fault) (w64 (v6+1))
 else
  some (Qa1.mk a5.Threads a5.Cells a5.Owner a5.Fault)
theorem Qvu {E:Env} (hP:E.pk=pk0 Tryz.prog) (hn:E.n=36) (hx:FX E []) (p1:Qa1)  : ∀ (n:Nat) (a4:Qa1) (a5:Qa1) (v6:Int) (r:Qa1),Qfm p1 n a4 a5 v6=some r→WAt E Xet (FQ (Qdj Θ Tryz.f105.results.toList [] [] (AV.agg (o44 r)) E)) [true,true,false,true,false] ⟨[(2,(AV.ptr 1 0 0)),(3,(AV.ptr 2 0 0)),(17,(AV.ro 6 (p1.Threads.map r70))),(18,(I (p1.Threads.length:Int))),(19,(I v6))],[(1,some ⟨44,4,[((o44 a4))]⟩),(2,some ⟨44,4,[((o44 a5))]⟩)],[1,2,JJ]⟩:=by
 intro n
 induction n with
 | zero=>intro a4 a5 v6 r h;simp only [Qfm] at h;cases h
 | succ n ih =>
  intro a4 a5 v6 r h
  simp only [Qfm] at h
  let Z1:=o44 a5;let Z2:=a5.Threads.map o70;let Z3:=AV.sl 1004 0 Z2.length;let Z4:=a5.Cells.map Qae;let Z5:=AV.own 132 1 Z4;let Z6:=a5.Owner.map o3;let Z7:=AV.own 3 1 Z6;let Z8:=I a5.Fault;let Z15:=(decide (v6<(p1.Threads.length:Int)));let Z17:=AV.sl 1007 0 Z2.length;let Z18:=[Z17,Z5,Z7,Z8];let Z19:=AV.sl 1008 0 Z4.length;let Z20:=[Z17,Z19,Z7,Z8];let Z21:=AV.sl 1009 0 Z6.length;let Z22:=[[Z17,Z19,Z21,Z8]]
  rcases itS h with ⟨c7,h⟩ | ⟨c11,h⟩
  ·obtain ⟨x8,hx8,h⟩:=bnS h
   obtain ⟨l9,hl9,h⟩:=bnS h
   obtain ⟨l10,hl10,h⟩:=bnS h
   exact (let Z0:=l9.map Qae;let Z9:=AV.sl 1003 0 Z0.length;let Z10:=[(I x8.Routine),(I x8.Pc),(I x8.State),(I x8.Cond),(I x8.Lock),Z9];let Z11:=Z2++[Z10];let Z12:=l10.map o70;let Z13:=[(AV.sl 1006 0 Z11.length),Z5,Z7,Z8];let Z14:=[[(AV.own 70 6 Z12),Z5,Z7,Z8]];let Z16:=Qa1.mk l10 a5.Cells a5.Owner a5.Fault;gT hP hn hx [hT 1,hh 2 (.row (r70 x8)),hW 4 1001,hW 6 1002,hh 9 (.app 1003 Z0),hh 13 (.unpack 2 1004 0 0 Z1 70 6 Z2 [[Z3,Z5,Z7,Z8]]),hW 15 1005,hh 16 (.app 1006 Z11),hh 17 (.pack 1006 1003 a5.Threads.length 5 Z10 Z12),hh 21 (.pack 2 1006 0 0 Z13 Z14)] [(1,1),(2,2)] [2,3,17,18,19] [] [Z15=true,(0:Int)≤v6,(p1.Threads.map r70)[v6.toNat]? = some (r70 x8),([].map Qae).take ([].map Qae).length++(x8.Stack.map Qae)=Z0,(x8.Stack.map Qae).all (fun r=>r.all AV.plain)=true,Z0.length * 8≤140737488355328,Z0.length≤140737488355328,[Z1][0]? = some Z1,Z1[0]? = some (AV.own 70 6 Z2),0<6,[Z1].set 0 (Z1.set 0 Z3)=[[Z3,Z5,Z7,Z8]],Z2.take Z2.length++[Z10]=Z11,[Z10].all (fun r=>r.all AV.plain)=true,Z11.length * 64≤140737488355328,Z11.length≤140737488355328,Z11[a5.Threads.length]? = some Z10,Z10[5]? = some Z9,Qa2 Z0=true,Z11.set a5.Threads.length (Z10.set 5 (AV.own 132 1 Z0))=Z12,[Z13][0]? = some Z13,Z13[0]? = some (AV.sl 1006 0 Z12.length),Qa2 Z12=true,[Z13].set 0 (Z13.set 0 (AV.own 70 6 Z12))=Z14,Qa8 [(1,1),(2,2)] [((o44 a4))],Qa8 [(1,1),(2,2)] Z14] ⟨c7,(rd0 hx8),(rdM r70 hx8),(Xlw Qae hl9),(plM Qkp),(Qn2 Qae hl9 (by decide)),(Qn1 Qae hl9),rfl,rfl,(by decide),rfl,(apT o70),rfl,(apB o70 hl10 (by decide)),(apC o70 hl10),(apG o70),rfl,(Qab Qbs),(apS o70 hl10),rfl,(pkS lnq),(Qab t70),rfl,(rok (Qai t44 a4)),(rok (Qai t44 Z16)),trivial⟩ (ih a4 Z16 (w64 (v6+1)) _ h))
  ·obtain rfl:=sj h
   exact gR hP hn [hF 1,hh 2 (.unpack 2 1007 0 0 Z1 70 6 Z2 [Z18]),hh 2 (.unpack 2 1008 0 1 Z18 132 1 Z4 [Z20]),hh 2 (.unpack 2 1009 0 2 Z20 3 1 Z6 Z22)] [] (.agg [.own,.own,.own,.raw]) [Z15=false,[Z1][0]? = some Z1,Z1[0]? = some (AV.own 70 6 Z2),0<6,[Z1].set 0 (Z1.set 0 Z17)=[Z18],[Z18][0]? = some Z18,Z18[1]? = some Z5,0<1,[Z18].set 0 (Z18.set 1 Z19)=[Z20],[Z20][0]? = some Z20,Z20[2]? = some Z7,0<1,[Z20].set 0 (Z20.set 2 Z21)=Z22,Qa2 (Z2.take Z2.length)=true,Z2.take Z2.length=Z2,Qa6 Z2=true,Qa2 (Z4.take Z4.length)=true,Z4.take Z4.length=Z4,Qa6 Z4=true,Qa2 (Z6.take Z6.length)=true,Z6.take Z6.length=Z6,Qa6 Z6=true,Z8=Z8,Qa3 Z8=true] ⟨c11,rfl,rfl,(by decide),rfl,rfl,rfl,(by decide),rfl,rfl,rfl,(by decide),rfl,(Qb7 t70),Qb6,(Qa9 n70),(Qb7 Qbs),Qb6,(Qa9 Qe7),(Qb7 t3),Qb6,(Qa9 n3),rfl,rfl,trivial⟩
noncomputable def Qhs (p1:Qa1) : Option Qa1:=
 Option.bind (app [] p1.Cells) fun l2 =>
 Option.bind (Qpb p1.Owner) fun r3 =>
 Qfm p1 FU (Qa1.mk [] [] [] 0) (Qa1.mk [] l2 r3 p1.Fault) 0
theorem Qle {p1:Qa1} {r:Qa1} (h:Qhs p1=some r) : Qa4 Tryz.prog 105 [(AV.agg ((r44 p1)))] (AV.agg (o44 r)):=by
 refine gM Tryz.func105 36 Xet fun E hP hn hx=>?_
 unfold Qhs at h
 obtain ⟨l2,hl2,h⟩:=bnS h
 obtain ⟨r3,hr3,h⟩:=bnS h
 exact (let Z0:=l2.map Qae;let Z1:=AV.own 3 1 (r3.map o3);let Z2:=(I (p1.Threads.length:Int));let Z3:=AV.own 70 6 ([].map o70);let Z4:=[[Z3,nS,nS,(I 0)]];let Z5:=[].map Qae;let Z6:=AV.own 132 1 Z5;let Z7:=[[Z3,Z6,nS,(I 0)]];let Z8:=[[Z3,Z6,(AV.own 3 1 ([].map o3)),(I 0)]];let Z9:=AV.sl 1004 0 Z0.length;let Z10:=AV.sl 1005 0 (r3.map o3).length;let Z11:=I p1.Fault;let Z12:=[Z9,Z10,Z11];let Z13:=[Z3,Z9,Z10,Z11];let Z14:=AV.own 132 1 Z0;let Z15:=[Z3,Z14,Z10,Z11];let Z16:=[[Z3,Z14,Z1,Z11]];let Z17:=AV.sl 1003 0 Z5.length;let Z18:=[(1003,(Qas.mk 132 1 Z5))].map sm;let Z19:=AV.ptr 1001 0 1;let Z20:=p1.Cells.map Qae;let Z21:=AV.ro 1 Z20;let Z22:=Qas.mk 132 1 Z0;let Z23:=AV.ptr 1001 0 2;let Z24:=AV.ro 1 (p1.Owner.map o3);let Z25:=((rtf Z1 [1005]).2.1).map sm;let Z26:=AV.ptr 1001 0 3;let Z27:=AV.agg [nS,Z9,Z10,Z11];let Z28:=AV.ptr 1006 0 0;let Z29:=([(1006,(Qas.mk 44 4 [[nS,nS,nS,(I 0)]]))].map sm);let Z30:=Qa1.mk [] [] [] 0;let Z31:=Qa1.mk [] l2 r3 p1.Fault;gT hP hn hx [hW 0 1001,hW 1 1002,hW 2 1003,hh 5 (.app 1004 Z0),hh 8 (.call [] Z1 [1005]),hW 12 1006,hO 16 Z2,hh 18 (.own0 1002 1 [] [nS,nS,(I 0)] 70 6 Z4),hh 18 (.own0 1002 1 [Z3] [nS,(I 0)] 132 1 Z7),hh 18 (.own0 1002 1 [Z3,Z6] [(I 0)] 3 1 Z8),hh 18 (.own0 1006 1 [] Z12 70 6 [Z13]),hh 18 (.pack 1006 1004 0 1 Z13 [Z15]),hh 18 (.pack 1006 1005 0 2 Z15 Z16)] [(1002,1),(1006,2)] [2,3,17,18,19] [] [Z17=Z17,Z18=Z18,Z17=Z17,Z18=Z18,Z19=Z19,Z19=Z19,Z19=Z19,Z19=Z19,Z21=Z21,Z21=Z21,Z21=Z21,Z21=Z21,Z9=Z9,[(1003,none),(1004,some Z22)]=[(1003,none),(1004,some Z22)],Z5.take Z5.length++Z20=Z0,Z20.all (fun r=>r.all AV.plain)=true,Z0.length * 8≤140737488355328,Z0.length≤140737488355328,Z9=Z9,[(1003,none),(1004,some Z22)]=[(1003,none),(1004,some Z22)],Z5.take Z5.length++Z20=Z0,Z20.all (fun r=>r.all AV.plain)=true,Z0.length * 8≤140737488355328,Z0.length≤140737488355328,Z23=Z23,Z23=Z23,Z23=Z23,Z23=Z23,Z23=Z23,Z23=Z23,Z24=Z24,Z24=Z24,Z24=Z24,Z24=Z24,Z24=Z24,Z24=Z24,Z10=Z10,Z25=Z25,Qa4 Tryz.prog 125 [Z24] Z1,Qc2 Z1=true,Z10=Z10,Z25=Z25,Qa4 Tryz.prog 125 [Z24] Z1,Qc2 Z1=true,Z26=Z26,Z26=Z26,Z26=Z26,Z26=Z26,Z26=Z26,Z26=Z26,Z26=Z26,Z26=Z26,Z11=Z11,Z11=Z11,Z11=Z11,Z11=Z11,Z11=Z11,Z11=Z11,Z11=Z11,Z11=Z11,Z27=Z27,Z27=Z27,Z28=Z28,Z29=Z29,Z28=Z28,Z29=Z29,Z28=Z28,Z29=Z29,Z28=Z28,Z29=Z29,AV.lit (.int .i64 (((p1.Threads.map r70).length:Nat) : Int))=Z2,[[nS,nS,nS,(I 0)]]=List.replicate 1 ([]++AV.lit (.slice none 0 0) :: [nS,nS,(I 0)]),List.replicate 1 ([]++AV.own 70 6 [] :: [nS,nS,(I 0)])=Z4,Z4=List.replicate 1 ([Z3]++AV.lit (.slice none 0 0) :: [nS,(I 0)]),List.replicate 1 ([Z3]++AV.own 132 1 [] :: [nS,(I 0)])=Z7,Z7=List.replicate 1 ([Z3,Z6]++AV.lit (.slice none 0 0) :: [(I 0)]),List.replicate 1 ([Z3,Z6]++AV.own 3 1 [] :: [(I 0)])=Z8,[[nS,Z9,Z10,Z11]]=List.replicate 1 ([]++AV.lit (.slice none 0 0) :: Z12),List.replicate 1 ([]++AV.own 70 6 [] :: Z12)=[Z13],[Z13][0]? = some Z13,Z13[1]? = some Z9,Qa2 Z0=true,[Z13].set 0 (Z13.set 1 Z14)=[Z15],[Z15][0]? = some Z15,Z15[2]? = some Z10,Qa2 (r3.map o3)=true,[Z15].set 0 (Z15.set 2 Z1)=Z16,Qa8 [(1002,1),(1006,2)] Z8,Qa8 [(1002,1),(1006,2)] Z16] ⟨rfl,rfl,rfl,rfl,rfl,rfl,rfl,rfl,rfl,rfl,rfl,rfl,rfl,rfl,(Xlw Qae hl2),(plM Qkp),(Qn2 Qae hl2 (by decide)),(Qn1 Qae hl2),rfl,rfl,(Xlw Qae hl2),(plM Qkp),(Qn2 Qae hl2 (by decide)),(Qn1 Qae hl2),rfl,rfl,rfl,rfl,rfl,rfl,rfl,rfl,rfl,rfl,rfl,rfl,rfl,rfl,(Qt5 hr3),(by simp +zetaDelta only [Qc2,Qbm,Qa9 n3,Bool.and_self]),rfl,rfl,(Qt5 hr3),(by simp +zetaDelta only [Qc2,Qbm,Qa9 n3,Bool.and_self]),rfl,rfl,rfl,rfl,rfl,rfl,rfl,rfl,rfl,rfl,rfl,rfl,rfl,rfl,rfl,rfl,rfl,rfl,rfl,rfl,rfl,rfl,rfl,rfl,rfl,rfl,(Qby r70),rfl,rfl,rfl,rfl,rfl,rfl,rfl,rfl,rfl,rfl,(Qab Qbs),rfl,rfl,rfl,(Qab t3),rfl,(rok (Qai t44 Z30)),(rok (Qai t44 Z31)),trivial⟩ (Qvu hP hn hx p1 FU Z30 Z31 0 _ h))
noncomputable def Xn1:Code:=match Tryz.f170.body with | some c=>c | none=>.skip
noncomputable def Ql8 (p1:Qa1) (p2:Qaa) (p3:Int) : Option (Qa1×Qaa):=
 Option.bind (Qhs p1) fun r4 =>
 some ((Qa1.mk r4.Threads r4.Cells r4.Owner p3),(Qaa.mk p2.Thread 12 p3 p2.Lock p2.Pc))
theorem Qwc {p1:Qa1} {p2:Qaa} {p3:Int} {r:(Qa1×Qaa)} (h:Ql8 p1 p2 p3=some r) : Qa4 Tryz.prog 170 [(AV.agg ((r44 p1))),(AV.agg ((o60 p2))),(I p3)] (AV.tup [(AV.agg (o44 r.1)),(AV.agg (o60 r.2))]):=by
 refine gM Tryz.func170 18 Xn1 fun E hP hn hx=>?_
 unfold Ql8 at h
 obtain ⟨r4,hr4,h⟩:=bnS h
 obtain rfl:=sj h
 exact (let Z0:=AV.agg (o44 r4);let Z1:=r4.Threads.map o70;let Z2:=r4.Cells.map Qae;let Z3:=r4.Owner.map o3;let Z4:=[(AV.sl 1005 0 Z1.length),(AV.sl 1006 0 Z2.length),(AV.sl 1007 0 Z3.length),(I p3)];let Z5:=AV.agg [(I p2.Thread),(I 12),(I p3),(I p2.Lock),(I p2.Pc)];gR hP hn [hW 0 1001,hW 1 1002,hW 2 1003,hW 3 1004,hh 5 (.call [[]] Z0 [1005,1006,1007]),hW 6 1008] [] (.agg [.agg [.own,.own,.own,.raw],.raw]) [Qa4 Tryz.prog 105 [(AV.agg ((r44 p1)))] Z0,Qc2 Z0=true,(AV.agg Z4)=(AV.agg Z4),Z5=Z5,Z5=Z5,[(1003,some (Qas.mk 44 4 [Z4]))]=[(1003,some (Qas.mk 44 4 [Z4]))],Qa2 (Z1.take Z1.length)=true,Z1.take Z1.length=Z1,Qa6 Z1=true,Qa2 (Z2.take Z2.length)=true,Z2.take Z2.length=Z2,Qa6 Z2=true,Qa2 (Z3.take Z3.length)=true,Z3.take Z3.length=Z3,Qa6 Z3=true,(I p3)=(I p3),Qa3 (I p3)=true,Z5=Z5,Qa3 Z5=true] ⟨(Qle hr4),(by simp +zetaDelta only [Qc2,Qbm,Qa9 n3,Qa9 n70,Qa9 Qe7,o44,Bool.and_self]),rfl,rfl,rfl,rfl,(Qb7 t70),Qb6,(Qa9 n70),(Qb7 Qbs),Qb6,(Qa9 Qe7),(Qb7 t3),Qb6,(Qa9 n3),rfl,rfl,rfl,rfl,trivial⟩)
noncomputable def Xoj:Code:=match Tryz.f94.body with | some c=>c | none=>.skip
noncomputable def Qfw (p1:Qaf) (p2:Qa1) (p3:Int) : Option (Qa1×Qaa):=
 Option.bind (rd p2.Threads p3) fun x4 =>
 Option.bind (Qez p1 x4) fun r5 =>
 if (x4.State == 4)=true then
  Option.bind (Qhs p2) fun r7 =>
  Option.bind (rd r7.Owner x4.Lock) fun x8 =>
  Option.bind (rd r7.Threads p3) fun x9 =>
  if r5.2=true then
   some ((Qa1.mk (r7.Threads.set (Int.toNat p3) (Qa0.mk x9.Routine (w64 (x9.Pc+1)) 1 (-1) (-1) x9.Stack)) r7.Cells (r7.Owner.set (Int.toNat x4.Lock) p3) r7.Fault),(Qaa.mk p3 9 x4.Cond x4.Lock x4.Pc))
  else
   some ((Qa1.mk (r7.Threads.set (Int.toNat p3) (Qa0.mk x9.Routine x9.Pc 1 (-1) (-1) x9.Stack)) r7.Cells (r7.Owner.set (Int.toNat x4.Lock) p3) r7.Fault),(Qaa.mk p3 9 x4.Cond x4.Lock x4.Pc))
 else
  if (!r5.2)=true then
   Option.bind (Qhs p2) fun r14 =>
   Option.bind (rd r14.Threads p3) fun x15 =>
   some ((Qa1.mk (r14.Threads.set (Int.toNat p3) (Qa0.mk x15.Routine x15.Pc 2 x15.Cond x15.Lock x15.Stack)) r14.Cells r14.Owner r14.Fault),(Qaa.mk p3 11 (-1) (-1) x4.Pc))
  else
   Option.bind (Ql1 p2 p3 r5.1) fun r17 =>
   if (r17 != 0)=true then
    Option.bind (Ql8 p2 (Qaa.mk p3 0 (-1) (-1) x4.Pc) r17) fun r19 =>
    some ((Qa1.mk r19.1.Threads r19.1.Cells r19.1.Owner r19.1.Fault),r19.2)
   else
    Option.bind (Qhs p2) fun r21 =>
    Option.bind (Qjj r21.Threads r21.Cells r21.Owner r21.Fault p3 r5.1 (Qaa.mk p3 0 (-1) (-1) x4.Pc)) fun r33 =>
    some ((Qa1.mk r33.1.Threads r33.1.Cells r33.1.Owner r33.1.Fault),r33.2)
theorem Qh0 {p1:Qaf} {p2:Qa1} {p3:Int} {r:(Qa1×Qaa)} (h:Qfw p1 p2 p3=some r) : Qa4 Tryz.prog 94 [(AV.agg ((r39 p1))),(AV.agg ((r44 p2))),(I p3)] (AV.tup [(AV.agg (o44 r.1)),(AV.agg (o60 r.2))]):=by
 refine gM Tryz.func94 109 Xoj fun E hP hn hx=>?_
 unfold Qfw at h
 obtain ⟨x4,hx4,h⟩:=bnS h
 obtain ⟨r5,hr5,h⟩:=bnS h
 let Z0:=AV.tup [(AV.agg (Qbj r5.1)),(B r5.2)];let Z9:=I (-1);let Z12:=x4.State == 4;let Z13:=AV.agg ((r44 p2));let Z26:=AV.agg [(I p3),(I 9),(I x4.Cond),(I x4.Lock),(I x4.Pc)];let Z38:=AV.agg [(I p3),(I 11),Z9,Z9,(I x4.Pc)];let Z39:=AV.agg ((Qbj r5.1));let Z41:=AV.agg [(I p3),(I 0),Z9,Z9,(I x4.Pc)]
 let H1:List Hn:=[hW 0 1001,hW 1 1002,hW 2 1003,hW 3 1004,hh 7 (.row (r70 x4)),hW 9 1005,hW 15 1006,hh 19 (.callV [[],[]] Z0),hW 23 1007]
 let P2:List Prop:=[(0:Int)≤p3,(p2.Threads.map r70)[p3.toNat]? = some (r70 x4),Qa4 Tryz.prog 168 [(AV.agg ((r39 p1))),(AV.agg ((r70 x4)))] Z0,Qa3 Z0=true]
 have AP2:Qam P2:=⟨(rd0 hx4),(rdM r70 hx4),(Qqu hr5),rfl,trivial⟩
 rcases itS h with ⟨c6,h⟩ | ⟨c12,h⟩
 ·obtain ⟨r7,hr7,h⟩:=bnS h
  obtain ⟨x8,hx8,h⟩:=bnS h
  obtain ⟨x9,hx9,h⟩:=bnS h
  let Z1:=AV.agg (o44 r7);let Z2:=(r7.Owner.set x4.Lock.toNat p3).map o3;let Z3:=o70 x9;let Z4:=(r7.Threads.set p3.toNat (Qa0.mk x9.Routine x9.Pc 1 x9.Cond x9.Lock x9.Stack)).map o70;let Z5:=I x9.Routine;let Z6:=AV.own 132 1 (x9.Stack.map Qae);let Z7:=[Z5,(I x9.Pc),(I 1),(I x9.Cond),(I x9.Lock),Z6];let Z8:=(r7.Threads.set p3.toNat (Qa0.mk x9.Routine x9.Pc 1 (-1) x9.Lock x9.Stack)).map o70;let Z10:=[Z5,(I x9.Pc),(I 1),Z9,(I x9.Lock),Z6];let Z11:=(r7.Threads.set p3.toNat (Qa0.mk x9.Routine x9.Pc 1 (-1) (-1) x9.Stack)).map o70;let Z14:=r7.Owner.map o3;let Z15:=r7.Threads.map o70;let Z16:=Qa0.mk x9.Routine x9.Pc 1 x9.Cond x9.Lock x9.Stack;let Z17:=Qa0.mk x9.Routine x9.Pc 1 (-1) x9.Lock x9.Stack;let Z18:=[Z5,(I x9.Pc),(I 1),Z9,Z9,Z6];let Z19:=(r7.Threads.set p3.toNat (Qa0.mk x9.Routine (w64 (x9.Pc+1)) 1 (-1) (-1) x9.Stack)).map o70;let Z20:=((Z11.length:Nat) : Int);let Z21:=[(I (w64 (x9.Pc+1)))];let Z22:=r7.Cells.map Qae;let Z23:=I r7.Fault;let Z24:=[(AV.sl 1008 0 Z15.length),(AV.sl 1009 0 Z22.length),(AV.sl 1010 0 Z14.length),Z23];let Z25:=AV.agg Z24;let Z27:=Qas.mk 44 4 [Z24];let Z28:=Z22.take Z22.length;let Z29:=Qa0.mk x9.Routine x9.Pc 1 (-1) (-1) x9.Stack
  let H3:List Hn:=H1++[hT 30,hh 42 (.call [[]] Z1 [1008,1009,1010]),hW 43 1011,hh 51 (.sto [(I x8)] Z2),hh 57 (.sto Z3 Z4),hh 61 (.slen 55 Z4.length),hh 63 (.sto Z7 Z8),hh 67 (.slen 60 Z8.length),hh 69 (.sto Z10 Z11)]
  let P4:List Prop:=P2++[Z12=true,Qa4 Tryz.prog 105 [Z13] Z1,Qc2 Z1=true,(0:Int)≤x4.Lock,x4.Lock<((Z14.length:Nat) : Int),Z14[x4.Lock.toNat]? = some [(I x8)],Z14.set x4.Lock.toNat (wr [(I x8)] 0 [(I p3)])=Z2,[(I p3)].length=1,0 + [(I p3)].length≤[(I x8)].length,(0:Int)≤p3,p3<((Z15.length:Nat) : Int),Z15[p3.toNat]? = some Z3,Z15.set p3.toNat (wr Z3 2 [(I 1)])=Z4,[(I 1)].length=1,2 + [(I 1)].length≤Z3.length,Z15.length=Z4.length,(0:Int)≤p3,p3<((Z4.length:Nat) : Int),Z4[p3.toNat]? = some Z7,Z4.set p3.toNat (wr Z7 3 [Z9])=Z8,[Z9].length=1,3 + [Z9].length≤Z7.length,Z15.length=Z8.length,(0:Int)≤p3,p3<((Z8.length:Nat) : Int),Z8[p3.toNat]? = some Z10,Z8.set p3.toNat (wr Z10 4 [Z9])=Z11,[Z9].length=1,4 + [Z9].length≤Z10.length]
  have AP4:Qam P4:=Qa7 AP2 ⟨c6,(Qle hr7),(by simp +zetaDelta only [Qc2,Qbm,Qa9 n3,Qa9 n70,Qa9 Qe7,o44,Bool.and_self]),(rd0 hx8),(rdL o3 hx8),(rdM o3 hx8),(Qw5 o3),rfl,leB,(rd0 hx9),(rdL o70 hx9),(rdM o70 hx9),(Qn5 o70),rfl,leB,lnq,(rd0 hx9),(rdL o70 (rdS (y:=Z16) hx9)),(rdM o70 (rdS (y:=Z16) hx9)),(Qhf o70),rfl,leB,lnq,(rd0 hx9),(rdL o70 (rdS (y:=Z17) hx9)),(rdM o70 (rdS (y:=Z17) hx9)),(Qhf o70),rfl,leB,trivial⟩
  rcases itS h with ⟨c10,h⟩ | ⟨c11,h⟩
  ·obtain rfl:=sj h
   exact gR hP hn (H3++[hT 71,hh 75 (.slen 66 Z11.length),hh 77 (.row Z18),hh 81 (.sto Z18 Z19)]) [] (.agg [.agg [.own,.own,.own,.raw],.raw]) (P4++[r5.2=true,Z15.length=Z11.length,(0:Int)≤p3,p3<Z20,Z11[p3.toNat]? = some Z18,(0:Int)≤p3,p3<Z20,Z11[p3.toNat]? = some Z18,Z11.set p3.toNat (wr Z18 1 Z21)=Z19,Z21.length=1,1+Z21.length≤Z18.length,Z25=Z25,Z26=Z26,Z26=Z26,[(1003,some Z27)]=[(1003,some Z27)],Qa2 (Z19.take Z15.length)=true,Z19.take Z15.length=Z19,Qa6 Z19=true,Qa2 Z28=true,Z22.take Z22.length=Z22,Qa6 Z22=true,Qa2 (Z2.take Z14.length)=true,Z2.take Z14.length=Z2,Qa6 Z2=true,Z23=Z23,Qa3 Z23=true,Z26=Z26,Qa3 Z26=true]) (Qa7 AP4 ⟨c10,lnq,(rd0 hx9),(rdL o70 (rdS (y:=Z29) hx9)),(rdM o70 (rdS (y:=Z29) hx9)),(rd0 hx9),(rdL o70 (rdS (y:=Z29) hx9)),(rdM o70 (rdS (y:=Z29) hx9)),(Qhf o70),rfl,leB,rfl,rfl,rfl,rfl,(Qct lnq (Qab t70)),(Qfb lnq),(Qa9 n70),(Qb7 Qbs),Qb6,(Qa9 Qe7),(Qct lnq (Qab t3)),(Qfb lnq),(Qa9 n3),rfl,rfl,rfl,rfl,trivial⟩)
  ·obtain rfl:=sj h
   exact gR hP hn (H3++[hF 71]) [] (.agg [.agg [.own,.own,.own,.raw],.raw]) (P4++[r5.2=false,Z25=Z25,Z26=Z26,Z26=Z26,[(1003,some Z27)]=[(1003,some Z27)],Qa2 (Z11.take Z15.length)=true,Z11.take Z15.length=Z11,Qa6 Z11=true,Qa2 Z28=true,Z22.take Z22.length=Z22,Qa6 Z22=true,Qa2 (Z2.take Z14.length)=true,Z2.take Z14.length=Z2,Qa6 Z2=true,Z23=Z23,Qa3 Z23=true,Z26=Z26,Qa3 Z26=true]) (Qa7 AP4 ⟨c11,rfl,rfl,rfl,rfl,(Qct lnq (Qab t70)),(Qfb lnq),(Qa9 n70),(Qb7 Qbs),Qb6,(Qa9 Qe7),(Qct lnq (Qab t3)),(Qfb lnq),(Qa9 n3),rfl,rfl,rfl,rfl,trivial⟩)
 ·rcases itS h with ⟨c13,h⟩ | ⟨c16,h⟩
  ·obtain ⟨r14,hr14,h⟩:=bnS h
   obtain ⟨x15,hx15,h⟩:=bnS h
   obtain rfl:=sj h
   exact (let Z30:=AV.agg (o44 r14);let Z31:=o70 x15;let Z32:=(r14.Threads.set p3.toNat (Qa0.mk x15.Routine x15.Pc 2 x15.Cond x15.Lock x15.Stack)).map o70;let Z33:=r14.Threads.map o70;let Z34:=r14.Cells.map Qae;let Z35:=r14.Owner.map o3;let Z36:=I r14.Fault;let Z37:=[(AV.sl 1012 0 Z33.length),(AV.sl 1013 0 Z34.length),(AV.sl 1014 0 Z35.length),Z36];gR hP hn (H1++[hF 30,hT 34,hh 38 (.call [[]] Z30 [1012,1013,1014]),hW 39 1015,hh 46 (.sto Z31 Z32)]) [] (.agg [.agg [.own,.own,.own,.raw],.raw]) (P2++[Z12=false,(!r5.2)=true,Qa4 Tryz.prog 105 [Z13] Z30,Qc2 Z30=true,(0:Int)≤p3,p3<((Z33.length:Nat) : Int),Z33[p3.toNat]? = some Z31,Z33.set p3.toNat (wr Z31 2 [(I 2)])=Z32,[(I 2)].length=1,2 + [(I 2)].length≤Z31.length,(AV.agg Z37)=(AV.agg Z37),Z38=Z38,Z38=Z38,[(1003,some (Qas.mk 44 4 [Z37]))]=[(1003,some (Qas.mk 44 4 [Z37]))],Qa2 (Z32.take Z33.length)=true,Z32.take Z33.length=Z32,Qa6 Z32=true,Qa2 (Z34.take Z34.length)=true,Z34.take Z34.length=Z34,Qa6 Z34=true,Qa2 (Z35.take Z35.length)=true,Z35.take Z35.length=Z35,Qa6 Z35=true,Z36=Z36,Qa3 Z36=true,Z38=Z38,Qa3 Z38=true]) (Qa7 AP2 ⟨c12,c13,(Qle hr14),(by simp +zetaDelta only [Qc2,Qbm,Qa9 n3,Qa9 n70,Qa9 Qe7,o44,Bool.and_self]),(rd0 hx15),(rdL o70 hx15),(rdM o70 hx15),(Qn5 o70),rfl,leB,rfl,rfl,rfl,rfl,(Qct lnq (Qab t70)),(Qfb lnq),(Qa9 n70),(Qb7 Qbs),Qb6,(Qa9 Qe7),(Qb7 t3),Qb6,(Qa9 n3),rfl,rfl,rfl,rfl,trivial⟩))
  ·obtain ⟨r17,hr17,h⟩:=bnS h
   let P5:List Prop:=P2++[Z12=false,(!r5.2)=false,Qa4 Tryz.prog 169 [Z13,(I p3),Z39] (I r17),Qa3 (I r17)=true]
   have AP5:Qam P5:=Qa7 AP2 ⟨c12,c16,(Qyw hr17),rfl,trivial⟩
   rcases itS h with ⟨c18,h⟩ | ⟨c20,h⟩
   ·obtain ⟨r19,hr19,h⟩:=bnS h
    obtain rfl:=sj h
    exact (let Z40:=AV.tup [(AV.agg (o44 r19.1)),(AV.agg (o60 r19.2))];let Z42:=r19.1.Threads.map o70;let Z43:=r19.1.Cells.map Qae;let Z44:=r19.1.Owner.map o3;let Z45:=I r19.1.Fault;let Z46:=AV.agg ((o60 r19.2));gR hP hn (H1++[hF 30,hF 34,hh 38 (.callV [[],[]] (I r17)),hT 42,hh 46 (.call [[],[]] Z40 [1016,1017,1018])]) [] (.agg [.agg [.own,.own,.own,.raw],.raw]) (P5++[(r17 != 0)=true,Qa4 Tryz.prog 170 [Z13,Z41,(I r17)] Z40,Qc2 Z40=true,Qa2 (Z42.take Z42.length)=true,Z42.take Z42.length=Z42,Qa6 Z42=true,Qa2 (Z43.take Z43.length)=true,Z43.take Z43.length=Z43,Qa6 Z43=true,Qa2 (Z44.take Z44.length)=true,Z44.take Z44.length=Z44,Qa6 Z44=true,Z45=Z45,Qa3 Z45=true,Z46=Z46,Qa3 Z46=true]) (Qa7 AP5 ⟨c18,(Qwc hr19),(by simp +zetaDelta only [Qc2,Qbm,Qa9 n3,Qa9 n70,Qa9 Qe7,o44,o60,Bool.and_self]),(Qb7 t70),Qb6,(Qa9 n70),(Qb7 Qbs),Qb6,(Qa9 Qe7),(Qb7 t3),Qb6,(Qa9 n3),rfl,rfl,rfl,rfl,trivial⟩))
   ·obtain ⟨r21,hr21,h⟩:=bnS h
    obtain ⟨r33,hr33,h⟩:=bnS h
    obtain rfl:=sj h
    exact (let Z47:=AV.agg (o44 r21);let Z48:=r21.Threads.map o70;let Z49:=r21.Cells.map Qae;let Z50:=r21.Owner.map o3;let Z51:=AV.tup [(AV.agg (o44 r33.1)),(AV.agg (o60 r33.2))];let Z52:=r33.1.Threads.map o70;let Z53:=r33.1.Cells.map Qae;let Z54:=r33.1.Owner.map o3;let Z55:=I r33.1.Fault;let Z56:=AV.agg ((o60 r33.2));let Z57:=(AV.tup [(AV.agg [(AV.sl 1022 0 Z52.length),(AV.sl 1023 0 Z53.length),(AV.sl 1024 0 Z54.length),Z55]),Z56]);let Z58:=rtf (Ql3 [] Z51) [1022,1023,1024];gR hP hn (H1++[hF 30,hF 34,hh 38 (.callV [[],[]] (I r17)),hF 42,hh 44 (.call [[]] Z47 [1019,1020,1021]),hh 48 (.callX [1019,1020,1021] [false,false,false] [⟨70,6,Z48⟩,⟨132,1,Z49⟩,⟨3,1,Z50⟩] [⟨70,6,Z48⟩,⟨132,1,Z49⟩,⟨3,1,Z50⟩] [[],[],[]] Z51 [1022,1023,1024] Z57 [(1022,⟨70,6,Z52⟩),(1023,⟨132,1,Z53⟩),(1024,⟨3,1,Z54⟩)])]) [] (.agg [.agg [.own,.own,.own,.raw],.raw]) (P5++[(r17 != 0)=false,Qa4 Tryz.prog 105 [Z13] Z47,Qc2 Z47=true,Qlq (pk0 Tryz.prog) 171 [⟨70,6,Z48⟩,⟨132,1,Z49⟩,⟨3,1,Z50⟩] [(AV.agg [(AV.sl 0 0 Z48.length),(AV.sl 1 0 Z49.length),(AV.sl 2 0 Z50.length),(I r21.Fault)]),(I p3),Z39,Z41] [false,false,false] [⟨70,6,Z48⟩,⟨132,1,Z49⟩,⟨3,1,Z50⟩] Z51,(some (Qas.mk 70 6 Z48)=some (Qas.mk 70 6 Z48))∧(some (Qas.mk 132 1 Z49)=some (Qas.mk 132 1 Z49))∧(some (Qas.mk 3 1 Z50)=some (Qas.mk 3 1 Z50))∧True,(Qa2 Z48=true∧Qa6 Z48=true)∧(Qa2 Z49=true∧Qa6 Z49=true)∧(Qa2 Z50=true∧Qa6 Z50=true)∧True,(Z48.length=Z48.length)∧(Z49.length=Z49.length)∧(Z50.length=Z50.length)∧True,Z58.1=Z57,Z58.2.1=[(1022,⟨70,6,Z52⟩),(1023,⟨132,1,Z53⟩),(1024,⟨3,1,Z54⟩)],(I p3)=(I p3),Z39=Z39,Z41=Z41,Qa2 (Z52.take Z52.length)=true,Z52.take Z52.length=Z52,Qa6 Z52=true,Qa2 (Z53.take Z53.length)=true,Z53.take Z53.length=Z53,Qa6 Z53=true,Qa2 (Z54.take Z54.length)=true,Z54.take Z54.length=Z54,Qa6 Z54=true,Z55=Z55,Qa3 Z55=true,Z56=Z56,Qa3 Z56=true]) (Qa7 AP5 ⟨c20,(Qle hr21),(by simp +zetaDelta only [Qc2,Qbm,Qa9 n3,Qa9 n70,Qa9 Qe7,o44,Bool.and_self]),(mK (Xbb hr33)),⟨rfl,rfl,rfl,trivial⟩,⟨⟨Qab t70,Qa9 n70⟩,⟨Qab Qbs,Qa9 Qe7⟩,⟨Qab t3,Qa9 n3⟩,trivial⟩,⟨rfl,rfl,rfl,trivial⟩,rfl,rfl,rfl,rfl,rfl,(Qb7 t70),Qb6,(Qa9 n70),(Qb7 Qbs),Qb6,(Qa9 Qe7),(Qb7 t3),Qb6,(Qa9 n3),rfl,rfl,rfl,rfl,trivial⟩))
end Go.Proofs.YtemmdkcpcjidmaaGreat
