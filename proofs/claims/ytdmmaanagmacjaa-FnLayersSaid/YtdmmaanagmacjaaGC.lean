/- Functions as plain data, and that the code comes to them; no condition. -/

import Derived.Test.YtdmmaanagmacjaaGB
set_option linter.unusedVariables false
set_option maxRecDepth 100000
namespace Go.Proofs.Ytdmmaanagmacjaa
open Go Go.T
noncomputable def Xcd:Code:=match Try.f153.body with | some c=>c | none=>.skip
noncomputable def Qbo  (cd:(List Int)) : Nat→Qa0→(List Int)→Int→Option ((List Int)×Qa0)
 | 0,_,_,_=>none
 | n+1,a3,a4,v5 =>
 if (decide (v5 > 0))=true then
  Option.bind (Qai cd (Qa0.mk a3.at_ a3.seed) 4) fun r7 =>
  Option.bind (app a4 [r7.1]) fun l8 =>
  Qbo cd n (Qa0.mk r7.2.at_ r7.2.seed) l8 (w64 (v5 - 1))
 else
  if (decide ((a4.length:Int) > 0))=true then
   Option.bind (Qbh cd (Qa0.mk a3.at_ a3.seed) 40) fun r11 =>
   if r11.1=true then
    Option.bind (Qbz cd (Qa0.mk r11.2.at_ r11.2.seed) [(-1),999,1000]) fun r13 =>
    Option.bind (rd a4 0) fun x14 =>
    some ((a4.set (Int.toNat 0) r13.1),(Qa0.mk r13.2.at_ r13.2.seed))
   else
    some (a4,(Qa0.mk r11.2.at_ r11.2.seed))
  else
   some (a4,(Qa0.mk a3.at_ a3.seed))
theorem Qli {A0:Option Addr} {c0:Nat} {cd:(List Int)} {E:Env} (hP:E.pk=PK.mk Try.prog (kv A0 cd)) (hn:E.n=29) (hx : ∀ p,p∈E.fx→p.1∈([0] : List Nat))   : ∀ (n:Nat) (a3:Qa0) (a4:(List Int)) (v5:Int) (r:((List Int)×Qa0)),Qbo cd n a3 a4 v5=some r→WAt E Xcd (FQ (Qdu Θ Try.f153.results.toList [true] [⟨88,3,[[(AV.lit (.slice A0 (List.length cd) c0)),(I r.2.at_),(IK .u64 r.2.seed)]]⟩] (AV.own 3 1 (r.1.map o3)) E)) [true,true,false,true,false] ⟨[(0,(AV.ptr 0 0 0)),(3,(AV.sl 1 0 (List.length (a4.map o3)))),(4,(I v5))],[(0,some ⟨88,3,[[(AV.lit (.slice A0 (List.length cd) c0)),(I a3.at_),(IK .u64 a3.seed)]]⟩),(1,some ⟨3,1,(a4.map o3)⟩)],[0,1,JJ]⟩:=by
 intro n
 induction n with
 | zero=>intro a3 a4 v5 r h;simp only [Qbo] at h;cases h
 | succ n ih =>
  intro a3 a4 v5 r h
  simp only [Qbo] at h
  let Z1:=AV.ptr 0 0 0;let Z3:=a4.map o3;let Z5:=((Z3.length:Nat) : Int);let Z6:=(I (a4.length:Int));let Z8:=(B (decide ((a4.length:Int) > 0)));let Z10:=[(-1),999,1000].map o3
  rcases itS h with ⟨c6,h⟩ | ⟨c9,h⟩
  ·obtain ⟨r7,hr7,h⟩:=bnS h
   obtain ⟨l8,hl8,h⟩:=bnS h
   exact (let Z0:=l8.map o3;let Z2:=rtf (Qe3 [(0,0)] (I r7.1)) [];let Z4:=(([r7.1].map o3).drop 0).take ([r7.1].map o3).length;gT hP hn hx [hT 2,hh 5 (.callX [0] [true] [⟨88,3,[[(AV.lit (.slice A0 cd.length c0)),(I (Qa0.mk a3.at_ a3.seed).at_),(IK .u64 (Qa0.mk a3.at_ a3.seed).seed)]]⟩] [⟨88,3,[[(AV.lit (.slice A0 cd.length c0)),(I r7.2.at_),(IK .u64 r7.2.seed)]]⟩] [] (I r7.1) [] (I r7.1) []),hW 6 1001,hh 7 (.app 1002 Z0)] [(0,0),(1002,1)] [0,3,4] [] [(decide (v5 > 0))=true,Qaw (PK.mk Try.prog (kv A0 cd)) 77 [⟨88,3,[[(AV.lit (.slice A0 cd.length c0)),(I (Qa0.mk a3.at_ a3.seed).at_),(IK .u64 (Qa0.mk a3.at_ a3.seed).seed)]]⟩] [Z1,(I 4)] [true] [⟨88,3,[[(AV.lit (.slice A0 cd.length c0)),(I r7.2.at_),(IK .u64 r7.2.seed)]]⟩] (I r7.1),(some (Qae.mk 88 3 [[(AV.lit (.slice A0 cd.length c0)),(I a3.at_),(IK .u64 a3.seed)]])=some (Qae.mk 88 3 [[(AV.lit (.slice A0 cd.length c0)),(I (Qa0.mk a3.at_ a3.seed).at_),(IK .u64 (Qa0.mk a3.at_ a3.seed).seed)]]))∧True,(Qa1 [[(AV.lit (.slice A0 cd.length c0)),(I (Qa0.mk a3.at_ a3.seed).at_),(IK .u64 (Qa0.mk a3.at_ a3.seed).seed)]]=true∧Qa4 [[(AV.lit (.slice A0 cd.length c0)),(I (Qa0.mk a3.at_ a3.seed).at_),(IK .u64 (Qa0.mk a3.at_ a3.seed).seed)]]=true)∧True,([[(AV.lit (.slice A0 cd.length c0)),(I r7.2.at_),(IK .u64 r7.2.seed)]].length=[[(AV.lit (.slice A0 cd.length c0)),(I (Qa0.mk a3.at_ a3.seed).at_),(IK .u64 (Qa0.mk a3.at_ a3.seed).seed)]].length)∧True,Z2.1=(I r7.1),Z2.2.1=[],Z3.take Z3.length++Z4=Z0,Z4.all (fun r=>r.all AV.plain)=true,Z0.length * 8≤140737488355328,Z0.length≤140737488355328,Qa6 [(0,0),(1002,1)] [[(AV.lit (.slice A0 cd.length c0)),(I r7.2.at_),(IK .u64 r7.2.seed)]],Qa6 [(0,0),(1002,1)] Z0] ⟨c6,(Qaj hr7),⟨rfl,trivial⟩,⟨⟨rfl,rfl⟩,trivial⟩,⟨rfl,trivial⟩,rfl,rfl,(Qiw o3 hl8),(plD pa3),(Qnn o3 hl8 (by decide)),(Qnm o3 hl8),(rok rfl),(rok (Qa7 t3)),trivial⟩ (ih (Qa0.mk r7.2.at_ r7.2.seed) l8 (w64 (v5 - 1)) _ h))
  ·let P1:List Prop:=[(decide (v5 > 0))=false,AV.lit (.int .i64 Z5)=Z6]
   have AP1:Qb0 P1:=⟨c9,(Qfn o3),trivial⟩
   rcases itS h with ⟨c10,h⟩ | ⟨c16,h⟩
   ·obtain ⟨r11,hr11,h⟩:=bnS h
    let Z7:=B r11.1;let Z9:=rtf (Qe3 [(0,0)] Z7) []
    let H2:List Hn:=[hF 2,hO 4 Z6,hO 6 (B true),hh 8 (.callX [0] [true] [⟨88,3,[[(AV.lit (.slice A0 cd.length c0)),(I (Qa0.mk a3.at_ a3.seed).at_),(IK .u64 (Qa0.mk a3.at_ a3.seed).seed)]]⟩] [⟨88,3,[[(AV.lit (.slice A0 cd.length c0)),(I r11.2.at_),(IK .u64 r11.2.seed)]]⟩] [] Z7 [] Z7 [])]
    let P3:List Prop:=P1++[Z8=(B true),Qaw (PK.mk Try.prog (kv A0 cd)) 83 [⟨88,3,[[(AV.lit (.slice A0 cd.length c0)),(I (Qa0.mk a3.at_ a3.seed).at_),(IK .u64 (Qa0.mk a3.at_ a3.seed).seed)]]⟩] [Z1,(I 40)] [true] [⟨88,3,[[(AV.lit (.slice A0 cd.length c0)),(I r11.2.at_),(IK .u64 r11.2.seed)]]⟩] Z7,(some (Qae.mk 88 3 [[(AV.lit (.slice A0 cd.length c0)),(I a3.at_),(IK .u64 a3.seed)]])=some (Qae.mk 88 3 [[(AV.lit (.slice A0 cd.length c0)),(I (Qa0.mk a3.at_ a3.seed).at_),(IK .u64 (Qa0.mk a3.at_ a3.seed).seed)]]))∧True,(Qa1 [[(AV.lit (.slice A0 cd.length c0)),(I (Qa0.mk a3.at_ a3.seed).at_),(IK .u64 (Qa0.mk a3.at_ a3.seed).seed)]]=true∧Qa4 [[(AV.lit (.slice A0 cd.length c0)),(I (Qa0.mk a3.at_ a3.seed).at_),(IK .u64 (Qa0.mk a3.at_ a3.seed).seed)]]=true)∧True,([[(AV.lit (.slice A0 cd.length c0)),(I r11.2.at_),(IK .u64 r11.2.seed)]].length=[[(AV.lit (.slice A0 cd.length c0)),(I (Qa0.mk a3.at_ a3.seed).at_),(IK .u64 (Qa0.mk a3.at_ a3.seed).seed)]].length)∧True,Z9.1=Z7,Z9.2.1=[]]
    have AP3:Qb0 P3:=Qag AP1 ⟨(Qb5 c10),(Qc3 hr11),⟨rfl,trivial⟩,⟨⟨rfl,rfl⟩,trivial⟩,⟨rfl,trivial⟩,rfl,rfl,trivial⟩
    rcases itS h with ⟨c12,h⟩ | ⟨c15,h⟩
    ·obtain ⟨r13,hr13,h⟩:=bnS h
     obtain ⟨x14,hx14,h⟩:=bnS h
     obtain rfl:=sj h
     exact (let Z11:=I r13.1;let Z12:=(a4.set (Int.toNat 0) r13.1).map o3;let Z13:=rtf (Qe3 [(0,0)] Z11) [];gR hP hn (H2++[hT 10,hW 13 1003,hh 14 (.callX [0] [true] [⟨88,3,[[(AV.lit (.slice A0 cd.length c0)),(I (Qa0.mk r11.2.at_ r11.2.seed).at_),(IK .u64 (Qa0.mk r11.2.at_ r11.2.seed).seed)]]⟩] [⟨88,3,[[(AV.lit (.slice A0 cd.length c0)),(I r13.2.at_),(IK .u64 r13.2.seed)]]⟩] [Z10] Z11 [] Z11 []),hh 16 (.sto [(I x14)] Z12),hh 17 (.slen 3 Z12.length)]) [] .own (P3++[r11.1=true,Qaw (PK.mk Try.prog (kv A0 cd)) 84 [⟨88,3,[[(AV.lit (.slice A0 cd.length c0)),(I (Qa0.mk r11.2.at_ r11.2.seed).at_),(IK .u64 (Qa0.mk r11.2.at_ r11.2.seed).seed)]]⟩] [Z1,(AV.ro 1 Z10)] [true] [⟨88,3,[[(AV.lit (.slice A0 cd.length c0)),(I r13.2.at_),(IK .u64 r13.2.seed)]]⟩] Z11,(some (Qae.mk 88 3 [[(AV.lit (.slice A0 cd.length c0)),(I r11.2.at_),(IK .u64 r11.2.seed)]])=some (Qae.mk 88 3 [[(AV.lit (.slice A0 cd.length c0)),(I (Qa0.mk r11.2.at_ r11.2.seed).at_),(IK .u64 (Qa0.mk r11.2.at_ r11.2.seed).seed)]]))∧True,(Qa1 [[(AV.lit (.slice A0 cd.length c0)),(I (Qa0.mk r11.2.at_ r11.2.seed).at_),(IK .u64 (Qa0.mk r11.2.at_ r11.2.seed).seed)]]=true∧Qa4 [[(AV.lit (.slice A0 cd.length c0)),(I (Qa0.mk r11.2.at_ r11.2.seed).at_),(IK .u64 (Qa0.mk r11.2.at_ r11.2.seed).seed)]]=true)∧True,([[(AV.lit (.slice A0 cd.length c0)),(I r13.2.at_),(IK .u64 r13.2.seed)]].length=[[(AV.lit (.slice A0 cd.length c0)),(I (Qa0.mk r11.2.at_ r11.2.seed).at_),(IK .u64 (Qa0.mk r11.2.at_ r11.2.seed).seed)]].length)∧True,Z13.1=Z11,Z13.2.1=[],Frz ((Z10.drop 0).take Z10.length) Z10,(0:Int)≤0,0<Z5,Z3[(Int.toNat 0)]? = some [(I x14)],Z3.set (Int.toNat 0) (wr [(I x14)] 0 [Z11])=Z12,[Z11].length=1,0 + [Z11].length≤[(I x14)].length,Z3.length=Z12.length,[[(AV.lit (.slice A0 cd.length c0)),(I r13.2.at_),(IK .u64 r13.2.seed)]]=[[(AV.lit (.slice A0 cd.length c0)),(I (Qa0.mk r13.2.at_ r13.2.seed).at_),(IK .u64 (Qa0.mk r13.2.at_ r13.2.seed).seed)]],Qa1 [[(AV.lit (.slice A0 cd.length c0)),(I (Qa0.mk r13.2.at_ r13.2.seed).at_),(IK .u64 (Qa0.mk r13.2.at_ r13.2.seed).seed)]]=true,Qa4 [[(AV.lit (.slice A0 cd.length c0)),(I (Qa0.mk r13.2.at_ r13.2.seed).at_),(IK .u64 (Qa0.mk r13.2.at_ r13.2.seed).seed)]]=true,Qa1 (Z12.take Z12.length)=true,Z12.take Z12.length=Z12,Qa4 Z12=true]) (Qag AP3 ⟨c12,(Qcz hr13),⟨rfl,trivial⟩,⟨⟨rfl,rfl⟩,trivial⟩,⟨rfl,trivial⟩,rfl,rfl,(Qlc t3 z3),(rd0 hx14),(rdL o3 hx14),(rdM o3 hx14),(Qyf o3),rfl,leB,lnq,rfl,rfl,rfl,(Qay t3),Qax,(Qaa n3),trivial⟩))
    ·obtain rfl:=sj h
     exact gR hP hn (H2++[hF 10]) [] .own (P3++[r11.1=false,[[(AV.lit (.slice A0 cd.length c0)),(I r11.2.at_),(IK .u64 r11.2.seed)]]=[[(AV.lit (.slice A0 cd.length c0)),(I (Qa0.mk r11.2.at_ r11.2.seed).at_),(IK .u64 (Qa0.mk r11.2.at_ r11.2.seed).seed)]],Qa1 [[(AV.lit (.slice A0 cd.length c0)),(I (Qa0.mk r11.2.at_ r11.2.seed).at_),(IK .u64 (Qa0.mk r11.2.at_ r11.2.seed).seed)]]=true,Qa4 [[(AV.lit (.slice A0 cd.length c0)),(I (Qa0.mk r11.2.at_ r11.2.seed).at_),(IK .u64 (Qa0.mk r11.2.at_ r11.2.seed).seed)]]=true,Qa1 (Z3.take Z3.length)=true,Z3.take Z3.length=Z3,Qa4 Z3=true]) (Qag AP3 ⟨c15,rfl,rfl,rfl,(Qay t3),Qax,(Qaa n3),trivial⟩)
   ·obtain rfl:=sj h
    exact gR hP hn [hF 2,hO 4 Z6,hO 6 (B false)] [] .own (P1++[Z8=(B false),[[(AV.lit (.slice A0 cd.length c0)),(I a3.at_),(IK .u64 a3.seed)]]=[[(AV.lit (.slice A0 cd.length c0)),(I (Qa0.mk a3.at_ a3.seed).at_),(IK .u64 (Qa0.mk a3.at_ a3.seed).seed)]],Qa1 [[(AV.lit (.slice A0 cd.length c0)),(I (Qa0.mk a3.at_ a3.seed).at_),(IK .u64 (Qa0.mk a3.at_ a3.seed).seed)]]=true,Qa4 [[(AV.lit (.slice A0 cd.length c0)),(I (Qa0.mk a3.at_ a3.seed).at_),(IK .u64 (Qa0.mk a3.at_ a3.seed).seed)]]=true,Qa1 (Z3.take Z3.length)=true,Z3.take Z3.length=Z3,Qa4 Z3=true]) (Qag AP1 ⟨(Qb5 c16),rfl,rfl,rfl,(Qay t3),Qax,(Qaa n3),trivial⟩)
noncomputable def Qf9 (cd:(List Int)) (p1:Qa0) : Option ((List Int)×Qa0):=
 Option.bind (Qai cd (Qa0.mk p1.at_ p1.seed) 40) fun r2 =>
 Qbo cd FU (Qa0.mk r2.2.at_ r2.2.seed) [] r2.1
theorem Qfk {cd:(List Int)} {p1:Qa0} {A0:Option Addr} {c0:Nat} {r:((List Int)×Qa0)} (h:Qf9 cd p1=some r) : Qaw (PK.mk Try.prog (kv A0 cd)) 153 [⟨88,3,[[(AV.lit (.slice A0 (List.length cd) c0)),(I p1.at_),(IK .u64 p1.seed)]]⟩] [(AV.ptr 0 0 0)] [true] [⟨88,3,[[(AV.lit (.slice A0 (List.length cd) c0)),(I r.2.at_),(IK .u64 r.2.seed)]]⟩] (AV.own 3 1 (r.1.map o3)):=by
 refine Qfc (X:=PK.mk Try.prog (kv A0 cd)) Qxi Try.func153 rfl (c:=Xcd) (by kernel_rfl) (Nat.le_of_ble_eq_true rfl) rfl (Nat.le_of_ble_eq_true rfl) rfl (fr:=[0]) (frI rfl) ?_
 intro E hP hn hx
 replace hn:E.n=29:=hn
 unfold Qf9 at h
 obtain ⟨r2,hr2,h⟩:=bnS h
 exact (let Z0:=rtf (Qe3 [(0,0)] (I r2.1)) [];gT hP hn hx [hh 3 (.callX [0] [true] [⟨88,3,[[(AV.lit (.slice A0 cd.length c0)),(I (Qa0.mk p1.at_ p1.seed).at_),(IK .u64 (Qa0.mk p1.at_ p1.seed).seed)]]⟩] [⟨88,3,[[(AV.lit (.slice A0 cd.length c0)),(I r2.2.at_),(IK .u64 r2.2.seed)]]⟩] [] (I r2.1) [] (I r2.1) []),hh 5 (.nil 3 1001 3 1)] [(0,0),(1001,1)] [0,3,4] [] [Qaw (PK.mk Try.prog (kv A0 cd)) 77 [⟨88,3,[[(AV.lit (.slice A0 cd.length c0)),(I (Qa0.mk p1.at_ p1.seed).at_),(IK .u64 (Qa0.mk p1.at_ p1.seed).seed)]]⟩] [(AV.ptr 0 0 0),(I 40)] [true] [⟨88,3,[[(AV.lit (.slice A0 cd.length c0)),(I r2.2.at_),(IK .u64 r2.2.seed)]]⟩] (I r2.1),(some (Qae.mk 88 3 [[(AV.lit (.slice A0 cd.length c0)),(I p1.at_),(IK .u64 p1.seed)]])=some (Qae.mk 88 3 [[(AV.lit (.slice A0 cd.length c0)),(I (Qa0.mk p1.at_ p1.seed).at_),(IK .u64 (Qa0.mk p1.at_ p1.seed).seed)]]))∧True,(Qa1 [[(AV.lit (.slice A0 cd.length c0)),(I (Qa0.mk p1.at_ p1.seed).at_),(IK .u64 (Qa0.mk p1.at_ p1.seed).seed)]]=true∧Qa4 [[(AV.lit (.slice A0 cd.length c0)),(I (Qa0.mk p1.at_ p1.seed).at_),(IK .u64 (Qa0.mk p1.at_ p1.seed).seed)]]=true)∧True,([[(AV.lit (.slice A0 cd.length c0)),(I r2.2.at_),(IK .u64 r2.2.seed)]].length=[[(AV.lit (.slice A0 cd.length c0)),(I (Qa0.mk p1.at_ p1.seed).at_),(IK .u64 (Qa0.mk p1.at_ p1.seed).seed)]].length)∧True,Z0.1=(I r2.1),Z0.2.1=[],Qa6 [(0,0),(1001,1)] [[(AV.lit (.slice A0 cd.length c0)),(I r2.2.at_),(IK .u64 r2.2.seed)]],Qa6 [(0,0),(1001,1)] ([].map o3)] ⟨(Qaj hr2),⟨rfl,trivial⟩,⟨⟨rfl,rfl⟩,trivial⟩,⟨rfl,trivial⟩,rfl,rfl,(rok rfl),(rok (Qa7 t3)),trivial⟩ (Qli (A0:=A0) (c0:=c0) hP hn hx FU (Qa0.mk r2.2.at_ r2.2.seed) [] r2.1 _ h))
noncomputable def Xib:Code:=match Try.f132.body with | some c=>c | none=>.skip
noncomputable def Qg9 (cd:(List Int)) (p1:Qa0) (p2:Qa9) : Option (Qgp×Qa0):=
 Option.bind (Qf9 cd (Qa0.mk p1.at_ p1.seed)) fun r3 =>
 Option.bind (Qbz cd (Qa0.mk r3.2.at_ r3.2.seed) [10,30,60,100]) fun r4 =>
 Option.bind (Qgx p2 r3.1 r4.1) fun r5 =>
 some ((Qgp.mk r5.1.Code r5.1.Trace r5.1.Picks (Qa3.mk r5.1.End.Threads r5.1.End.Cells r5.1.End.Owner r5.1.End.Fault)),(Qa0.mk r4.2.at_ r4.2.seed))
theorem Qqi {cd:(List Int)} {p1:Qa0} {p2:Qa9} {A0:Option Addr} {c0:Nat} {r:(Qgp×Qa0)} (h:Qg9 cd p1 p2=some r) : Qaw (PK.mk Try.prog (kv A0 cd)) 132 [⟨88,3,[[(AV.lit (.slice A0 (List.length cd) c0)),(I p1.at_),(IK .u64 p1.seed)]]⟩] [(AV.ptr 0 0 0),(AV.agg ((Qhi p2)))] [true] [⟨88,3,[[(AV.lit (.slice A0 (List.length cd) c0)),(I r.2.at_),(IK .u64 r.2.seed)]]⟩] (AV.agg (Qsl r.1)):=by
 refine Qfc (X:=PK.mk Try.prog (kv A0 cd)) Qxi Try.func132 rfl (c:=Xib) (by kernel_rfl) (Nat.le_of_ble_eq_true rfl) rfl (Nat.le_of_ble_eq_true rfl) rfl (fr:=[0]) (frI rfl) ?_
 intro E hP hn hx
 replace hn:E.n=18:=hn
 unfold Qg9 at h
 obtain ⟨r3,hr3,h⟩:=bnS h
 obtain ⟨r4,hr4,h⟩:=bnS h
 obtain ⟨r5,hr5,h⟩:=bnS h
 obtain rfl:=sj h
 exact (let Z0:=r3.1.map o3;let Z1:=AV.own 3 1 Z0;let Z2:=AV.sl 1003 0 Z0.length;let Z3:=[10,30,60,100].map o3;let Z4:=I r4.1;let Z5:=B r5.2;let Z6:=AV.tup [(AV.agg (Qsl r5.1)),Z5];let Z7:=AV.agg ((Qhi p2));let Z8:=AV.ptr 0 0 0;let Z9:=kv A0 cd;let Z10:=rtf (Qe3 [(0,0)] Z1) [1003];let Z11:=AV.sl 1004 0 Z3.length;let Z12:=[(1004,(Qae.mk 3 1 Z3))].map sm;let Z13:=rtf (Qe3 [(0,0)] Z4) [];let Z14:=(Z3.drop 0).take Z3.length;let Z15:=I r5.1.Code;let Z16:=r5.1.Trace.map o71;let Z17:=r5.1.Picks.map o3;let Z18:=r5.1.End.Threads.map Qap;let Z19:=r5.1.End.Cells.map Qb7;let Z20:=r5.1.End.Owner.map o3;let Z21:=I r5.1.End.Fault;let Z22:=[Z15,(AV.sl 1005 0 Z16.length),(AV.sl 1006 0 Z17.length),(AV.sl 1007 0 Z18.length),(AV.sl 1008 0 Z19.length),(AV.sl 1009 0 Z20.length),Z21];let Z23:=AV.agg Z22;let Z24:=AV.tup [Z23,Z5];let Z25:=((rtf Z6 [1005,1006,1007,1008,1009]).2.1).map sm;let Z26:=[Z7,(AV.ro 1 Z0),Z4];let Z27:=(Z0.drop 0).take Z0.length;let Z28:=AV.ptr 1010 0 0;let Z29:=([(1010,(Qae.mk 143 7 [[(I 0),nS,nS,nS,nS,nS,(I 0)]]))].map sm);let Z30:=Qae.mk 143 7 [Z22];gR hP hn [hW 0 1001,hW 1 1002,hh 4 (.callX [0] [true] [⟨88,3,[[(AV.lit (.slice A0 cd.length c0)),(I (Qa0.mk p1.at_ p1.seed).at_),(IK .u64 (Qa0.mk p1.at_ p1.seed).seed)]]⟩] [⟨88,3,[[(AV.lit (.slice A0 cd.length c0)),(I r3.2.at_),(IK .u64 r3.2.seed)]]⟩] [] Z1 [1003] Z2 [(1003,⟨3,1,Z0⟩)]),hW 6 1004,hh 7 (.callX [0] [true] [⟨88,3,[[(AV.lit (.slice A0 cd.length c0)),(I (Qa0.mk r3.2.at_ r3.2.seed).at_),(IK .u64 (Qa0.mk r3.2.at_ r3.2.seed).seed)]]⟩] [⟨88,3,[[(AV.lit (.slice A0 cd.length c0)),(I r4.2.at_),(IK .u64 r4.2.seed)]]⟩] [Z3] Z4 [] Z4 []),hh 8 (.call [[],Z0] Z6 [1005,1006,1007,1008,1009]),hW 12 1010] [] (.agg [.raw,.own,.own,.own,.own,.own,.raw]) [Z7=Z7,Z7=Z7,Z7=Z7,Z7=Z7,Z7=Z7,Z7=Z7,Z7=Z7,Z7=Z7,Z7=Z7,Z7=Z7,Z8=Z8,Z8=Z8,Z8=Z8,Z8=Z8,Z2=Z2,(Qk0 [0] [true] [⟨88,3,[[(AV.lit (.slice A0 cd.length c0)),(I r3.2.at_),(IK .u64 r3.2.seed)]]⟩]++([(1003,⟨3,1,Z0⟩)] : List (Nat×Qae)).map sm)=(Qk0 [0] [true] [⟨88,3,[[(AV.lit (.slice A0 cd.length c0)),(I r3.2.at_),(IK .u64 r3.2.seed)]]⟩]++([(1003,⟨3,1,Z0⟩)] : List (Nat×Qae)).map sm),Qaw (PK.mk Try.prog Z9) 153 [⟨88,3,[[(AV.lit (.slice A0 cd.length c0)),(I (Qa0.mk p1.at_ p1.seed).at_),(IK .u64 (Qa0.mk p1.at_ p1.seed).seed)]]⟩] [Z8] [true] [⟨88,3,[[(AV.lit (.slice A0 cd.length c0)),(I r3.2.at_),(IK .u64 r3.2.seed)]]⟩] Z1,(some (Qae.mk 88 3 [[(AV.lit (.slice A0 cd.length c0)),(I p1.at_),(IK .u64 p1.seed)]])=some (Qae.mk 88 3 [[(AV.lit (.slice A0 cd.length c0)),(I (Qa0.mk p1.at_ p1.seed).at_),(IK .u64 (Qa0.mk p1.at_ p1.seed).seed)]]))∧True,(Qa1 [[(AV.lit (.slice A0 cd.length c0)),(I (Qa0.mk p1.at_ p1.seed).at_),(IK .u64 (Qa0.mk p1.at_ p1.seed).seed)]]=true∧Qa4 [[(AV.lit (.slice A0 cd.length c0)),(I (Qa0.mk p1.at_ p1.seed).at_),(IK .u64 (Qa0.mk p1.at_ p1.seed).seed)]]=true)∧True,([[(AV.lit (.slice A0 cd.length c0)),(I r3.2.at_),(IK .u64 r3.2.seed)]].length=[[(AV.lit (.slice A0 cd.length c0)),(I (Qa0.mk p1.at_ p1.seed).at_),(IK .u64 (Qa0.mk p1.at_ p1.seed).seed)]].length)∧True,Z10.1=Z2,Z10.2.1=[(1003,⟨3,1,Z0⟩)],Z2=Z2,(Qk0 [0] [true] [⟨88,3,[[(AV.lit (.slice A0 cd.length c0)),(I r3.2.at_),(IK .u64 r3.2.seed)]]⟩]++([(1003,⟨3,1,Z0⟩)] : List (Nat×Qae)).map sm)=(Qk0 [0] [true] [⟨88,3,[[(AV.lit (.slice A0 cd.length c0)),(I r3.2.at_),(IK .u64 r3.2.seed)]]⟩]++([(1003,⟨3,1,Z0⟩)] : List (Nat×Qae)).map sm),Qaw (PK.mk Try.prog Z9) 153 [⟨88,3,[[(AV.lit (.slice A0 cd.length c0)),(I (Qa0.mk p1.at_ p1.seed).at_),(IK .u64 (Qa0.mk p1.at_ p1.seed).seed)]]⟩] [Z8] [true] [⟨88,3,[[(AV.lit (.slice A0 cd.length c0)),(I r3.2.at_),(IK .u64 r3.2.seed)]]⟩] Z1,(some (Qae.mk 88 3 [[(AV.lit (.slice A0 cd.length c0)),(I p1.at_),(IK .u64 p1.seed)]])=some (Qae.mk 88 3 [[(AV.lit (.slice A0 cd.length c0)),(I (Qa0.mk p1.at_ p1.seed).at_),(IK .u64 (Qa0.mk p1.at_ p1.seed).seed)]]))∧True,(Qa1 [[(AV.lit (.slice A0 cd.length c0)),(I (Qa0.mk p1.at_ p1.seed).at_),(IK .u64 (Qa0.mk p1.at_ p1.seed).seed)]]=true∧Qa4 [[(AV.lit (.slice A0 cd.length c0)),(I (Qa0.mk p1.at_ p1.seed).at_),(IK .u64 (Qa0.mk p1.at_ p1.seed).seed)]]=true)∧True,([[(AV.lit (.slice A0 cd.length c0)),(I r3.2.at_),(IK .u64 r3.2.seed)]].length=[[(AV.lit (.slice A0 cd.length c0)),(I (Qa0.mk p1.at_ p1.seed).at_),(IK .u64 (Qa0.mk p1.at_ p1.seed).seed)]].length)∧True,Z10.1=Z2,Z10.2.1=[(1003,⟨3,1,Z0⟩)],Z2=Z2,(Qk0 [0] [true] [⟨88,3,[[(AV.lit (.slice A0 cd.length c0)),(I r3.2.at_),(IK .u64 r3.2.seed)]]⟩]++([(1003,⟨3,1,Z0⟩)] : List (Nat×Qae)).map sm)=(Qk0 [0] [true] [⟨88,3,[[(AV.lit (.slice A0 cd.length c0)),(I r3.2.at_),(IK .u64 r3.2.seed)]]⟩]++([(1003,⟨3,1,Z0⟩)] : List (Nat×Qae)).map sm),Qaw (PK.mk Try.prog Z9) 153 [⟨88,3,[[(AV.lit (.slice A0 cd.length c0)),(I (Qa0.mk p1.at_ p1.seed).at_),(IK .u64 (Qa0.mk p1.at_ p1.seed).seed)]]⟩] [Z8] [true] [⟨88,3,[[(AV.lit (.slice A0 cd.length c0)),(I r3.2.at_),(IK .u64 r3.2.seed)]]⟩] Z1,(some (Qae.mk 88 3 [[(AV.lit (.slice A0 cd.length c0)),(I p1.at_),(IK .u64 p1.seed)]])=some (Qae.mk 88 3 [[(AV.lit (.slice A0 cd.length c0)),(I (Qa0.mk p1.at_ p1.seed).at_),(IK .u64 (Qa0.mk p1.at_ p1.seed).seed)]]))∧True,(Qa1 [[(AV.lit (.slice A0 cd.length c0)),(I (Qa0.mk p1.at_ p1.seed).at_),(IK .u64 (Qa0.mk p1.at_ p1.seed).seed)]]=true∧Qa4 [[(AV.lit (.slice A0 cd.length c0)),(I (Qa0.mk p1.at_ p1.seed).at_),(IK .u64 (Qa0.mk p1.at_ p1.seed).seed)]]=true)∧True,([[(AV.lit (.slice A0 cd.length c0)),(I r3.2.at_),(IK .u64 r3.2.seed)]].length=[[(AV.lit (.slice A0 cd.length c0)),(I (Qa0.mk p1.at_ p1.seed).at_),(IK .u64 (Qa0.mk p1.at_ p1.seed).seed)]].length)∧True,Z10.1=Z2,Z10.2.1=[(1003,⟨3,1,Z0⟩)],Z2=Z2,(Qk0 [0] [true] [⟨88,3,[[(AV.lit (.slice A0 cd.length c0)),(I r3.2.at_),(IK .u64 r3.2.seed)]]⟩]++([(1003,⟨3,1,Z0⟩)] : List (Nat×Qae)).map sm)=(Qk0 [0] [true] [⟨88,3,[[(AV.lit (.slice A0 cd.length c0)),(I r3.2.at_),(IK .u64 r3.2.seed)]]⟩]++([(1003,⟨3,1,Z0⟩)] : List (Nat×Qae)).map sm),Qaw (PK.mk Try.prog Z9) 153 [⟨88,3,[[(AV.lit (.slice A0 cd.length c0)),(I (Qa0.mk p1.at_ p1.seed).at_),(IK .u64 (Qa0.mk p1.at_ p1.seed).seed)]]⟩] [Z8] [true] [⟨88,3,[[(AV.lit (.slice A0 cd.length c0)),(I r3.2.at_),(IK .u64 r3.2.seed)]]⟩] Z1,(some (Qae.mk 88 3 [[(AV.lit (.slice A0 cd.length c0)),(I p1.at_),(IK .u64 p1.seed)]])=some (Qae.mk 88 3 [[(AV.lit (.slice A0 cd.length c0)),(I (Qa0.mk p1.at_ p1.seed).at_),(IK .u64 (Qa0.mk p1.at_ p1.seed).seed)]]))∧True,(Qa1 [[(AV.lit (.slice A0 cd.length c0)),(I (Qa0.mk p1.at_ p1.seed).at_),(IK .u64 (Qa0.mk p1.at_ p1.seed).seed)]]=true∧Qa4 [[(AV.lit (.slice A0 cd.length c0)),(I (Qa0.mk p1.at_ p1.seed).at_),(IK .u64 (Qa0.mk p1.at_ p1.seed).seed)]]=true)∧True,([[(AV.lit (.slice A0 cd.length c0)),(I r3.2.at_),(IK .u64 r3.2.seed)]].length=[[(AV.lit (.slice A0 cd.length c0)),(I (Qa0.mk p1.at_ p1.seed).at_),(IK .u64 (Qa0.mk p1.at_ p1.seed).seed)]].length)∧True,Z10.1=Z2,Z10.2.1=[(1003,⟨3,1,Z0⟩)],Z8=Z8,Z8=Z8,Z8=Z8,Z8=Z8,Z8=Z8,Z8=Z8,Z8=Z8,Z8=Z8,Z11=Z11,Z12=Z12,Z11=Z11,Z12=Z12,Z11=Z11,Z12=Z12,Z11=Z11,Z12=Z12,Z4=Z4,(Qk0 [0] [true] [⟨88,3,[[(AV.lit (.slice A0 cd.length c0)),(I r4.2.at_),(IK .u64 r4.2.seed)]]⟩]++([] : List (Nat×Qae)).map sm)=(Qk0 [0] [true] [⟨88,3,[[(AV.lit (.slice A0 cd.length c0)),(I r4.2.at_),(IK .u64 r4.2.seed)]]⟩]++([] : List (Nat×Qae)).map sm),Qaw (PK.mk Try.prog Z9) 84 [⟨88,3,[[(AV.lit (.slice A0 cd.length c0)),(I (Qa0.mk r3.2.at_ r3.2.seed).at_),(IK .u64 (Qa0.mk r3.2.at_ r3.2.seed).seed)]]⟩] [Z8,(AV.ro 1 Z3)] [true] [⟨88,3,[[(AV.lit (.slice A0 cd.length c0)),(I r4.2.at_),(IK .u64 r4.2.seed)]]⟩] Z4,(some (Qae.mk 88 3 [[(AV.lit (.slice A0 cd.length c0)),(I r3.2.at_),(IK .u64 r3.2.seed)]])=some (Qae.mk 88 3 [[(AV.lit (.slice A0 cd.length c0)),(I (Qa0.mk r3.2.at_ r3.2.seed).at_),(IK .u64 (Qa0.mk r3.2.at_ r3.2.seed).seed)]]))∧True,(Qa1 [[(AV.lit (.slice A0 cd.length c0)),(I (Qa0.mk r3.2.at_ r3.2.seed).at_),(IK .u64 (Qa0.mk r3.2.at_ r3.2.seed).seed)]]=true∧Qa4 [[(AV.lit (.slice A0 cd.length c0)),(I (Qa0.mk r3.2.at_ r3.2.seed).at_),(IK .u64 (Qa0.mk r3.2.at_ r3.2.seed).seed)]]=true)∧True,([[(AV.lit (.slice A0 cd.length c0)),(I r4.2.at_),(IK .u64 r4.2.seed)]].length=[[(AV.lit (.slice A0 cd.length c0)),(I (Qa0.mk r3.2.at_ r3.2.seed).at_),(IK .u64 (Qa0.mk r3.2.at_ r3.2.seed).seed)]].length)∧True,Z13.1=Z4,Z13.2.1=[],Frz Z14 Z3,Z4=Z4,(Qk0 [0] [true] [⟨88,3,[[(AV.lit (.slice A0 cd.length c0)),(I r4.2.at_),(IK .u64 r4.2.seed)]]⟩]++([] : List (Nat×Qae)).map sm)=(Qk0 [0] [true] [⟨88,3,[[(AV.lit (.slice A0 cd.length c0)),(I r4.2.at_),(IK .u64 r4.2.seed)]]⟩]++([] : List (Nat×Qae)).map sm),Qaw (PK.mk Try.prog Z9) 84 [⟨88,3,[[(AV.lit (.slice A0 cd.length c0)),(I (Qa0.mk r3.2.at_ r3.2.seed).at_),(IK .u64 (Qa0.mk r3.2.at_ r3.2.seed).seed)]]⟩] [Z8,(AV.ro 1 Z3)] [true] [⟨88,3,[[(AV.lit (.slice A0 cd.length c0)),(I r4.2.at_),(IK .u64 r4.2.seed)]]⟩] Z4,(some (Qae.mk 88 3 [[(AV.lit (.slice A0 cd.length c0)),(I r3.2.at_),(IK .u64 r3.2.seed)]])=some (Qae.mk 88 3 [[(AV.lit (.slice A0 cd.length c0)),(I (Qa0.mk r3.2.at_ r3.2.seed).at_),(IK .u64 (Qa0.mk r3.2.at_ r3.2.seed).seed)]]))∧True,(Qa1 [[(AV.lit (.slice A0 cd.length c0)),(I (Qa0.mk r3.2.at_ r3.2.seed).at_),(IK .u64 (Qa0.mk r3.2.at_ r3.2.seed).seed)]]=true∧Qa4 [[(AV.lit (.slice A0 cd.length c0)),(I (Qa0.mk r3.2.at_ r3.2.seed).at_),(IK .u64 (Qa0.mk r3.2.at_ r3.2.seed).seed)]]=true)∧True,([[(AV.lit (.slice A0 cd.length c0)),(I r4.2.at_),(IK .u64 r4.2.seed)]].length=[[(AV.lit (.slice A0 cd.length c0)),(I (Qa0.mk r3.2.at_ r3.2.seed).at_),(IK .u64 (Qa0.mk r3.2.at_ r3.2.seed).seed)]].length)∧True,Z13.1=Z4,Z13.2.1=[],Frz Z14 Z3,Z24=Z24,Z25=Z25,Qab Try.prog 152 Z26 Z6,Qez Z6=true,Frz Z27 Z0,Z24=Z24,Z25=Z25,Qab Try.prog 152 Z26 Z6,Qez Z6=true,Frz Z27 Z0,Z24=Z24,Z24=Z24,Z23=Z23,Z23=Z23,Z5=Z5,Z5=Z5,Z5=Z5,Z28=Z28,Z29=Z29,Z28=Z28,Z29=Z29,Z28=Z28,Z29=Z29,Z28=Z28,Z29=Z29,Z28=Z28,Z29=Z29,Z28=Z28,Z29=Z29,[(1010,some Z30)]=[(1010,some Z30)],[[(AV.lit (.slice A0 cd.length c0)),(I r4.2.at_),(IK .u64 r4.2.seed)]]=[[(AV.lit (.slice A0 cd.length c0)),(I (Qa0.mk r4.2.at_ r4.2.seed).at_),(IK .u64 (Qa0.mk r4.2.at_ r4.2.seed).seed)]],Qa1 [[(AV.lit (.slice A0 cd.length c0)),(I (Qa0.mk r4.2.at_ r4.2.seed).at_),(IK .u64 (Qa0.mk r4.2.at_ r4.2.seed).seed)]]=true,Qa4 [[(AV.lit (.slice A0 cd.length c0)),(I (Qa0.mk r4.2.at_ r4.2.seed).at_),(IK .u64 (Qa0.mk r4.2.at_ r4.2.seed).seed)]]=true,Z15=Z15,Qa8 Z15=true,Qa1 (Z16.take Z16.length)=true,Z16.take Z16.length=Z16,Qa4 Z16=true,Qa1 (Z17.take Z17.length)=true,Z17.take Z17.length=Z17,Qa4 Z17=true,Qa1 (Z18.take Z18.length)=true,Z18.take Z18.length=Z18,Qa4 Z18=true,Qa1 (Z19.take Z19.length)=true,Z19.take Z19.length=Z19,Qa4 Z19=true,Qa1 (Z20.take Z20.length)=true,Z20.take Z20.length=Z20,Qa4 Z20=true,Z21=Z21,Qa8 Z21=true] ⟨rfl,rfl,rfl,rfl,rfl,rfl,rfl,rfl,rfl,rfl,rfl,rfl,rfl,rfl,rfl,rfl,(Qfk hr3),⟨rfl,trivial⟩,⟨⟨rfl,rfl⟩,trivial⟩,⟨rfl,trivial⟩,rfl,rfl,rfl,rfl,(Qfk hr3),⟨rfl,trivial⟩,⟨⟨rfl,rfl⟩,trivial⟩,⟨rfl,trivial⟩,rfl,rfl,rfl,rfl,(Qfk hr3),⟨rfl,trivial⟩,⟨⟨rfl,rfl⟩,trivial⟩,⟨rfl,trivial⟩,rfl,rfl,rfl,rfl,(Qfk hr3),⟨rfl,trivial⟩,⟨⟨rfl,rfl⟩,trivial⟩,⟨rfl,trivial⟩,rfl,rfl,rfl,rfl,rfl,rfl,rfl,rfl,rfl,rfl,rfl,rfl,rfl,rfl,rfl,rfl,rfl,rfl,rfl,rfl,(Qcz hr4),⟨rfl,trivial⟩,⟨⟨rfl,rfl⟩,trivial⟩,⟨rfl,trivial⟩,rfl,rfl,(Qlc t3 z3),rfl,rfl,(Qcz hr4),⟨rfl,trivial⟩,⟨⟨rfl,rfl⟩,trivial⟩,⟨rfl,trivial⟩,rfl,rfl,(Qlc t3 z3),rfl,rfl,(Qls hr5),(by simp +zetaDelta only [Qez,Qcw,Qaa n3,Qaa n71,Qaa Qhh,Qaa Qi3,Qsl,Bool.and_self]),(Qlc t3 z3),rfl,rfl,(Qls hr5),(by simp +zetaDelta only [Qez,Qcw,Qaa n3,Qaa n71,Qaa Qhh,Qaa Qi3,Qsl,Bool.and_self]),(Qlc t3 z3),rfl,rfl,rfl,rfl,rfl,rfl,rfl,rfl,rfl,rfl,rfl,rfl,rfl,rfl,rfl,rfl,rfl,rfl,rfl,rfl,rfl,rfl,rfl,rfl,rfl,(Qay t71),Qax,(Qaa n71),(Qay t3),Qax,(Qaa n3),(Qay Qg7),Qax,(Qaa Qi3),(Qay Qdh),Qax,(Qaa Qhh),(Qay t3),Qax,(Qaa n3),rfl,rfl,trivial⟩)
noncomputable def Qse:Code:=match Try.f96.body with | some c=>c | none=>.skip
noncomputable def Qds  (cd:(List Int)) (a21:Qa0) (a22:(List Qa5)) : Option ((List Qa5)×Qa0):=
 Option.bind (Qai cd (Qa0.mk a21.at_ a21.seed) (a22.length:Int)) fun r23 =>
 Option.bind (Qai cd (Qa0.mk r23.2.at_ r23.2.seed) 4) fun r25 =>
 if (r25.1 == 0)=true then
  Option.bind (Qai cd (Qa0.mk r25.2.at_ r25.2.seed) 6) fun r28 =>
  Option.bind (rd a22 r23.1) fun x29 =>
  some ((a22.set (Int.toNat r23.1) (Qa5.mk r28.1 x29.Kind x29.Obj x29.Lock x29.Pc)),(Qa0.mk r28.2.at_ r28.2.seed))
 else
  if (r25.1 == 1)=true then
   Option.bind (Qai cd (Qa0.mk r25.2.at_ r25.2.seed) 14) fun r32 =>
   Option.bind (rd a22 r23.1) fun x33 =>
   some ((a22.set (Int.toNat r23.1) (Qa5.mk x33.Thread r32.1 x33.Obj x33.Lock x33.Pc)),(Qa0.mk r32.2.at_ r32.2.seed))
  else
   if (r25.1 == 2)=true then
    Option.bind (Qbz cd (Qa0.mk r25.2.at_ r25.2.seed) [(-2),0,1,100]) fun r36 =>
    Option.bind (rd a22 r23.1) fun x37 =>
    some ((a22.set (Int.toNat r23.1) (Qa5.mk x37.Thread x37.Kind r36.1 x37.Lock x37.Pc)),(Qa0.mk r36.2.at_ r36.2.seed))
   else
    Option.bind (Qai cd (Qa0.mk r25.2.at_ r25.2.seed) 3) fun r40 =>
    Option.bind (rd a22 r23.1) fun x41 =>
    some ((a22.set (Int.toNat r23.1) (Qa5.mk x41.Thread x41.Kind x41.Obj (w64 (r40.1 - 1)) x41.Pc)),(Qa0.mk r40.2.at_ r40.2.seed))
theorem Qly {A0:Option Addr} {c0:Nat} {cd:(List Int)} {E:Env} (hP:E.pk=PK.mk Try.prog (kv A0 cd)) (hn:E.n=74) (hx : ∀ p,p∈E.fx→p.1∈([0] : List Nat))   (a21:Qa0) (a22:(List Qa5)) (r:((List Qa5)×Qa0)) (h:Qds cd a21 a22=some r) : WAt E Qse (FQ (Qdu Θ Try.f96.results.toList [true] [⟨88,3,[[(AV.lit (.slice A0 (List.length cd) c0)),(I r.2.at_),(IK .u64 r.2.seed)]]⟩] (AV.own 71 5 (r.1.map o71)) E)) [true,true,true,true,true,false,true,false] ⟨[(0,(AV.ptr 0 0 0)),(4,(AV.sl 1 0 (List.length (a22.map o71))))],[(0,some ⟨88,3,[[(AV.lit (.slice A0 (List.length cd) c0)),(I a21.at_),(IK .u64 a21.seed)]]⟩),(1,some ⟨71,5,(a22.map o71)⟩)],[0,1,JJ]⟩:=by
 unfold Qds at h
 obtain ⟨r23,hr23,h⟩:=bnS h
 obtain ⟨r25,hr25,h⟩:=bnS h
 let Z0:=(I (a22.length:Int));let Z1:=I r23.1;let Z2:=I r25.1;let Z3:=a22.map o71;let Z4:=((Z3.length:Nat) : Int);let Z5:=kv A0 cd;let Z6:=AV.ptr 0 0 0;let Z7:=rtf (Qe3 [(0,0)] Z1) [];let Z8:=rtf (Qe3 [(0,0)] Z2) [];let Z12:=r25.1 == 0;let Z18:=[(-2),0,1,100].map o3
 let H1:List Hn:=[hO 2 Z0,hh 3 (.callX [0] [true] [⟨88,3,[[(AV.lit (.slice A0 cd.length c0)),(I (Qa0.mk a21.at_ a21.seed).at_),(IK .u64 (Qa0.mk a21.at_ a21.seed).seed)]]⟩] [⟨88,3,[[(AV.lit (.slice A0 cd.length c0)),(I r23.2.at_),(IK .u64 r23.2.seed)]]⟩] [] Z1 [] Z1 []),hh 6 (.callX [0] [true] [⟨88,3,[[(AV.lit (.slice A0 cd.length c0)),(I (Qa0.mk r23.2.at_ r23.2.seed).at_),(IK .u64 (Qa0.mk r23.2.at_ r23.2.seed).seed)]]⟩] [⟨88,3,[[(AV.lit (.slice A0 cd.length c0)),(I r25.2.at_),(IK .u64 r25.2.seed)]]⟩] [] Z2 [] Z2 [])]
 let P2:List Prop:=[AV.lit (.int .i64 Z4)=Z0,Qaw (PK.mk Try.prog Z5) 77 [⟨88,3,[[(AV.lit (.slice A0 cd.length c0)),(I (Qa0.mk a21.at_ a21.seed).at_),(IK .u64 (Qa0.mk a21.at_ a21.seed).seed)]]⟩] [Z6,Z0] [true] [⟨88,3,[[(AV.lit (.slice A0 cd.length c0)),(I r23.2.at_),(IK .u64 r23.2.seed)]]⟩] Z1,(some (Qae.mk 88 3 [[(AV.lit (.slice A0 cd.length c0)),(I a21.at_),(IK .u64 a21.seed)]])=some (Qae.mk 88 3 [[(AV.lit (.slice A0 cd.length c0)),(I (Qa0.mk a21.at_ a21.seed).at_),(IK .u64 (Qa0.mk a21.at_ a21.seed).seed)]]))∧True,(Qa1 [[(AV.lit (.slice A0 cd.length c0)),(I (Qa0.mk a21.at_ a21.seed).at_),(IK .u64 (Qa0.mk a21.at_ a21.seed).seed)]]=true∧Qa4 [[(AV.lit (.slice A0 cd.length c0)),(I (Qa0.mk a21.at_ a21.seed).at_),(IK .u64 (Qa0.mk a21.at_ a21.seed).seed)]]=true)∧True,([[(AV.lit (.slice A0 cd.length c0)),(I r23.2.at_),(IK .u64 r23.2.seed)]].length=[[(AV.lit (.slice A0 cd.length c0)),(I (Qa0.mk a21.at_ a21.seed).at_),(IK .u64 (Qa0.mk a21.at_ a21.seed).seed)]].length)∧True,Z7.1=Z1,Z7.2.1=[],Qaw (PK.mk Try.prog Z5) 77 [⟨88,3,[[(AV.lit (.slice A0 cd.length c0)),(I (Qa0.mk r23.2.at_ r23.2.seed).at_),(IK .u64 (Qa0.mk r23.2.at_ r23.2.seed).seed)]]⟩] [Z6,(I 4)] [true] [⟨88,3,[[(AV.lit (.slice A0 cd.length c0)),(I r25.2.at_),(IK .u64 r25.2.seed)]]⟩] Z2,(some (Qae.mk 88 3 [[(AV.lit (.slice A0 cd.length c0)),(I r23.2.at_),(IK .u64 r23.2.seed)]])=some (Qae.mk 88 3 [[(AV.lit (.slice A0 cd.length c0)),(I (Qa0.mk r23.2.at_ r23.2.seed).at_),(IK .u64 (Qa0.mk r23.2.at_ r23.2.seed).seed)]]))∧True,(Qa1 [[(AV.lit (.slice A0 cd.length c0)),(I (Qa0.mk r23.2.at_ r23.2.seed).at_),(IK .u64 (Qa0.mk r23.2.at_ r23.2.seed).seed)]]=true∧Qa4 [[(AV.lit (.slice A0 cd.length c0)),(I (Qa0.mk r23.2.at_ r23.2.seed).at_),(IK .u64 (Qa0.mk r23.2.at_ r23.2.seed).seed)]]=true)∧True,([[(AV.lit (.slice A0 cd.length c0)),(I r25.2.at_),(IK .u64 r25.2.seed)]].length=[[(AV.lit (.slice A0 cd.length c0)),(I (Qa0.mk r23.2.at_ r23.2.seed).at_),(IK .u64 (Qa0.mk r23.2.at_ r23.2.seed).seed)]].length)∧True,Z8.1=Z2,Z8.2.1=[]]
 have AP2:Qb0 P2:=⟨(Qfn o71),(Qaj hr23),⟨rfl,trivial⟩,⟨⟨rfl,rfl⟩,trivial⟩,⟨rfl,trivial⟩,rfl,rfl,(Qaj hr25),⟨rfl,trivial⟩,⟨⟨rfl,rfl⟩,trivial⟩,⟨rfl,trivial⟩,rfl,rfl,trivial⟩
 rcases itS h with ⟨c26,h⟩ | ⟨c30,h⟩
 ·obtain ⟨r28,hr28,h⟩:=bnS h
  obtain ⟨x29,hx29,h⟩:=bnS h
  obtain rfl:=sj h
  exact (let Z9:=I r28.1;let Z10:=o71 x29;let Z11:=(a22.set r23.1.toNat (Qa5.mk r28.1 x29.Kind x29.Obj x29.Lock x29.Pc)).map o71;let Z13:=rtf (Qe3 [(0,0)] Z9) [];gR hP hn (H1++[hT 9,hh 13 (.callX [0] [true] [⟨88,3,[[(AV.lit (.slice A0 cd.length c0)),(I (Qa0.mk r25.2.at_ r25.2.seed).at_),(IK .u64 (Qa0.mk r25.2.at_ r25.2.seed).seed)]]⟩] [⟨88,3,[[(AV.lit (.slice A0 cd.length c0)),(I r28.2.at_),(IK .u64 r28.2.seed)]]⟩] [] Z9 [] Z9 []),hh 16 (.sto Z10 Z11),hh 17 (.slen 4 Z11.length)]) [] .own (P2++[Z12=true,Qaw (PK.mk Try.prog Z5) 77 [⟨88,3,[[(AV.lit (.slice A0 cd.length c0)),(I (Qa0.mk r25.2.at_ r25.2.seed).at_),(IK .u64 (Qa0.mk r25.2.at_ r25.2.seed).seed)]]⟩] [Z6,(I 6)] [true] [⟨88,3,[[(AV.lit (.slice A0 cd.length c0)),(I r28.2.at_),(IK .u64 r28.2.seed)]]⟩] Z9,(some (Qae.mk 88 3 [[(AV.lit (.slice A0 cd.length c0)),(I r25.2.at_),(IK .u64 r25.2.seed)]])=some (Qae.mk 88 3 [[(AV.lit (.slice A0 cd.length c0)),(I (Qa0.mk r25.2.at_ r25.2.seed).at_),(IK .u64 (Qa0.mk r25.2.at_ r25.2.seed).seed)]]))∧True,(Qa1 [[(AV.lit (.slice A0 cd.length c0)),(I (Qa0.mk r25.2.at_ r25.2.seed).at_),(IK .u64 (Qa0.mk r25.2.at_ r25.2.seed).seed)]]=true∧Qa4 [[(AV.lit (.slice A0 cd.length c0)),(I (Qa0.mk r25.2.at_ r25.2.seed).at_),(IK .u64 (Qa0.mk r25.2.at_ r25.2.seed).seed)]]=true)∧True,([[(AV.lit (.slice A0 cd.length c0)),(I r28.2.at_),(IK .u64 r28.2.seed)]].length=[[(AV.lit (.slice A0 cd.length c0)),(I (Qa0.mk r25.2.at_ r25.2.seed).at_),(IK .u64 (Qa0.mk r25.2.at_ r25.2.seed).seed)]].length)∧True,Z13.1=Z9,Z13.2.1=[],(0:Int)≤r23.1,r23.1<Z4,Z3[r23.1.toNat]? = some Z10,Z3.set r23.1.toNat (wr Z10 0 [Z9])=Z11,[Z9].length=1,0 + [Z9].length≤Z10.length,Z3.length=Z11.length,[[(AV.lit (.slice A0 cd.length c0)),(I r28.2.at_),(IK .u64 r28.2.seed)]]=[[(AV.lit (.slice A0 cd.length c0)),(I (Qa0.mk r28.2.at_ r28.2.seed).at_),(IK .u64 (Qa0.mk r28.2.at_ r28.2.seed).seed)]],Qa1 [[(AV.lit (.slice A0 cd.length c0)),(I (Qa0.mk r28.2.at_ r28.2.seed).at_),(IK .u64 (Qa0.mk r28.2.at_ r28.2.seed).seed)]]=true,Qa4 [[(AV.lit (.slice A0 cd.length c0)),(I (Qa0.mk r28.2.at_ r28.2.seed).at_),(IK .u64 (Qa0.mk r28.2.at_ r28.2.seed).seed)]]=true,Qa1 (Z11.take Z11.length)=true,Z11.take Z11.length=Z11,Qa4 Z11=true]) (Qag AP2 ⟨c26,(Qaj hr28),⟨rfl,trivial⟩,⟨⟨rfl,rfl⟩,trivial⟩,⟨rfl,trivial⟩,rfl,rfl,(rd0 hx29),(rdL o71 hx29),(rdM o71 hx29),(Qt6 o71),rfl,leB,lnq,rfl,rfl,rfl,(Qay t71),Qax,(Qaa n71),trivial⟩))
 ·rcases itS h with ⟨c31,h⟩ | ⟨c34,h⟩
  ·obtain ⟨r32,hr32,h⟩:=bnS h
   obtain ⟨x33,hx33,h⟩:=bnS h
   obtain rfl:=sj h
   exact (let Z14:=I r32.1;let Z15:=o71 x33;let Z16:=(a22.set r23.1.toNat (Qa5.mk x33.Thread r32.1 x33.Obj x33.Lock x33.Pc)).map o71;let Z17:=rtf (Qe3 [(0,0)] Z14) [];gR hP hn (H1++[hF 9,hT 12,hh 16 (.callX [0] [true] [⟨88,3,[[(AV.lit (.slice A0 cd.length c0)),(I (Qa0.mk r25.2.at_ r25.2.seed).at_),(IK .u64 (Qa0.mk r25.2.at_ r25.2.seed).seed)]]⟩] [⟨88,3,[[(AV.lit (.slice A0 cd.length c0)),(I r32.2.at_),(IK .u64 r32.2.seed)]]⟩] [] Z14 [] Z14 []),hh 19 (.sto Z15 Z16),hh 20 (.slen 4 Z16.length)]) [] .own (P2++[Z12=false,(r25.1 == 1)=true,Qaw (PK.mk Try.prog Z5) 77 [⟨88,3,[[(AV.lit (.slice A0 cd.length c0)),(I (Qa0.mk r25.2.at_ r25.2.seed).at_),(IK .u64 (Qa0.mk r25.2.at_ r25.2.seed).seed)]]⟩] [Z6,(I 14)] [true] [⟨88,3,[[(AV.lit (.slice A0 cd.length c0)),(I r32.2.at_),(IK .u64 r32.2.seed)]]⟩] Z14,(some (Qae.mk 88 3 [[(AV.lit (.slice A0 cd.length c0)),(I r25.2.at_),(IK .u64 r25.2.seed)]])=some (Qae.mk 88 3 [[(AV.lit (.slice A0 cd.length c0)),(I (Qa0.mk r25.2.at_ r25.2.seed).at_),(IK .u64 (Qa0.mk r25.2.at_ r25.2.seed).seed)]]))∧True,(Qa1 [[(AV.lit (.slice A0 cd.length c0)),(I (Qa0.mk r25.2.at_ r25.2.seed).at_),(IK .u64 (Qa0.mk r25.2.at_ r25.2.seed).seed)]]=true∧Qa4 [[(AV.lit (.slice A0 cd.length c0)),(I (Qa0.mk r25.2.at_ r25.2.seed).at_),(IK .u64 (Qa0.mk r25.2.at_ r25.2.seed).seed)]]=true)∧True,([[(AV.lit (.slice A0 cd.length c0)),(I r32.2.at_),(IK .u64 r32.2.seed)]].length=[[(AV.lit (.slice A0 cd.length c0)),(I (Qa0.mk r25.2.at_ r25.2.seed).at_),(IK .u64 (Qa0.mk r25.2.at_ r25.2.seed).seed)]].length)∧True,Z17.1=Z14,Z17.2.1=[],(0:Int)≤r23.1,r23.1<Z4,Z3[r23.1.toNat]? = some Z15,Z3.set r23.1.toNat (wr Z15 1 [Z14])=Z16,[Z14].length=1,1 + [Z14].length≤Z15.length,Z3.length=Z16.length,[[(AV.lit (.slice A0 cd.length c0)),(I r32.2.at_),(IK .u64 r32.2.seed)]]=[[(AV.lit (.slice A0 cd.length c0)),(I (Qa0.mk r32.2.at_ r32.2.seed).at_),(IK .u64 (Qa0.mk r32.2.at_ r32.2.seed).seed)]],Qa1 [[(AV.lit (.slice A0 cd.length c0)),(I (Qa0.mk r32.2.at_ r32.2.seed).at_),(IK .u64 (Qa0.mk r32.2.at_ r32.2.seed).seed)]]=true,Qa4 [[(AV.lit (.slice A0 cd.length c0)),(I (Qa0.mk r32.2.at_ r32.2.seed).at_),(IK .u64 (Qa0.mk r32.2.at_ r32.2.seed).seed)]]=true,Qa1 (Z16.take Z16.length)=true,Z16.take Z16.length=Z16,Qa4 Z16=true]) (Qag AP2 ⟨c30,c31,(Qaj hr32),⟨rfl,trivial⟩,⟨⟨rfl,rfl⟩,trivial⟩,⟨rfl,trivial⟩,rfl,rfl,(rd0 hx33),(rdL o71 hx33),(rdM o71 hx33),(Qt6 o71),rfl,leB,lnq,rfl,rfl,rfl,(Qay t71),Qax,(Qaa n71),trivial⟩))
  ·rcases itS h with ⟨c35,h⟩ | ⟨c38,h⟩
   ·obtain ⟨r36,hr36,h⟩:=bnS h
    obtain ⟨x37,hx37,h⟩:=bnS h
    obtain rfl:=sj h
    exact (let Z19:=I r36.1;let Z20:=o71 x37;let Z21:=(a22.set r23.1.toNat (Qa5.mk x37.Thread x37.Kind r36.1 x37.Lock x37.Pc)).map o71;let Z22:=rtf (Qe3 [(0,0)] Z19) [];gR hP hn (H1++[hF 9,hF 12,hT 15,hW 19 1001,hh 20 (.callX [0] [true] [⟨88,3,[[(AV.lit (.slice A0 cd.length c0)),(I (Qa0.mk r25.2.at_ r25.2.seed).at_),(IK .u64 (Qa0.mk r25.2.at_ r25.2.seed).seed)]]⟩] [⟨88,3,[[(AV.lit (.slice A0 cd.length c0)),(I r36.2.at_),(IK .u64 r36.2.seed)]]⟩] [Z18] Z19 [] Z19 []),hh 23 (.sto Z20 Z21),hh 24 (.slen 4 Z21.length)]) [] .own (P2++[Z12=false,(r25.1 == 1)=false,(r25.1 == 2)=true,Qaw (PK.mk Try.prog Z5) 84 [⟨88,3,[[(AV.lit (.slice A0 cd.length c0)),(I (Qa0.mk r25.2.at_ r25.2.seed).at_),(IK .u64 (Qa0.mk r25.2.at_ r25.2.seed).seed)]]⟩] [Z6,(AV.ro 1 Z18)] [true] [⟨88,3,[[(AV.lit (.slice A0 cd.length c0)),(I r36.2.at_),(IK .u64 r36.2.seed)]]⟩] Z19,(some (Qae.mk 88 3 [[(AV.lit (.slice A0 cd.length c0)),(I r25.2.at_),(IK .u64 r25.2.seed)]])=some (Qae.mk 88 3 [[(AV.lit (.slice A0 cd.length c0)),(I (Qa0.mk r25.2.at_ r25.2.seed).at_),(IK .u64 (Qa0.mk r25.2.at_ r25.2.seed).seed)]]))∧True,(Qa1 [[(AV.lit (.slice A0 cd.length c0)),(I (Qa0.mk r25.2.at_ r25.2.seed).at_),(IK .u64 (Qa0.mk r25.2.at_ r25.2.seed).seed)]]=true∧Qa4 [[(AV.lit (.slice A0 cd.length c0)),(I (Qa0.mk r25.2.at_ r25.2.seed).at_),(IK .u64 (Qa0.mk r25.2.at_ r25.2.seed).seed)]]=true)∧True,([[(AV.lit (.slice A0 cd.length c0)),(I r36.2.at_),(IK .u64 r36.2.seed)]].length=[[(AV.lit (.slice A0 cd.length c0)),(I (Qa0.mk r25.2.at_ r25.2.seed).at_),(IK .u64 (Qa0.mk r25.2.at_ r25.2.seed).seed)]].length)∧True,Z22.1=Z19,Z22.2.1=[],Frz ((Z18.drop 0).take Z18.length) Z18,(0:Int)≤r23.1,r23.1<Z4,Z3[r23.1.toNat]? = some Z20,Z3.set r23.1.toNat (wr Z20 2 [Z19])=Z21,[Z19].length=1,2 + [Z19].length≤Z20.length,Z3.length=Z21.length,[[(AV.lit (.slice A0 cd.length c0)),(I r36.2.at_),(IK .u64 r36.2.seed)]]=[[(AV.lit (.slice A0 cd.length c0)),(I (Qa0.mk r36.2.at_ r36.2.seed).at_),(IK .u64 (Qa0.mk r36.2.at_ r36.2.seed).seed)]],Qa1 [[(AV.lit (.slice A0 cd.length c0)),(I (Qa0.mk r36.2.at_ r36.2.seed).at_),(IK .u64 (Qa0.mk r36.2.at_ r36.2.seed).seed)]]=true,Qa4 [[(AV.lit (.slice A0 cd.length c0)),(I (Qa0.mk r36.2.at_ r36.2.seed).at_),(IK .u64 (Qa0.mk r36.2.at_ r36.2.seed).seed)]]=true,Qa1 (Z21.take Z21.length)=true,Z21.take Z21.length=Z21,Qa4 Z21=true]) (Qag AP2 ⟨c30,c34,c35,(Qcz hr36),⟨rfl,trivial⟩,⟨⟨rfl,rfl⟩,trivial⟩,⟨rfl,trivial⟩,rfl,rfl,(Qlc t3 z3),(rd0 hx37),(rdL o71 hx37),(rdM o71 hx37),(Qt6 o71),rfl,leB,lnq,rfl,rfl,rfl,(Qay t71),Qax,(Qaa n71),trivial⟩))
   ·obtain ⟨r40,hr40,h⟩:=bnS h
    obtain ⟨x41,hx41,h⟩:=bnS h
    obtain rfl:=sj h
    exact (let Z23:=I r40.1;let Z24:=o71 x41;let Z25:=(a22.set r23.1.toNat (Qa5.mk x41.Thread x41.Kind x41.Obj (w64 (r40.1 - 1)) x41.Pc)).map o71;let Z26:=rtf (Qe3 [(0,0)] Z23) [];let Z27:=[(I (w64 (r40.1 - 1)))];gR hP hn (H1++[hF 9,hF 12,hF 15,hh 19 (.callX [0] [true] [⟨88,3,[[(AV.lit (.slice A0 cd.length c0)),(I (Qa0.mk r25.2.at_ r25.2.seed).at_),(IK .u64 (Qa0.mk r25.2.at_ r25.2.seed).seed)]]⟩] [⟨88,3,[[(AV.lit (.slice A0 cd.length c0)),(I r40.2.at_),(IK .u64 r40.2.seed)]]⟩] [] Z23 [] Z23 []),hh 23 (.sto Z24 Z25),hh 24 (.slen 4 Z25.length)]) [] .own (P2++[Z12=false,(r25.1 == 1)=false,(r25.1 == 2)=false,Qaw (PK.mk Try.prog Z5) 77 [⟨88,3,[[(AV.lit (.slice A0 cd.length c0)),(I (Qa0.mk r25.2.at_ r25.2.seed).at_),(IK .u64 (Qa0.mk r25.2.at_ r25.2.seed).seed)]]⟩] [Z6,(I 3)] [true] [⟨88,3,[[(AV.lit (.slice A0 cd.length c0)),(I r40.2.at_),(IK .u64 r40.2.seed)]]⟩] Z23,(some (Qae.mk 88 3 [[(AV.lit (.slice A0 cd.length c0)),(I r25.2.at_),(IK .u64 r25.2.seed)]])=some (Qae.mk 88 3 [[(AV.lit (.slice A0 cd.length c0)),(I (Qa0.mk r25.2.at_ r25.2.seed).at_),(IK .u64 (Qa0.mk r25.2.at_ r25.2.seed).seed)]]))∧True,(Qa1 [[(AV.lit (.slice A0 cd.length c0)),(I (Qa0.mk r25.2.at_ r25.2.seed).at_),(IK .u64 (Qa0.mk r25.2.at_ r25.2.seed).seed)]]=true∧Qa4 [[(AV.lit (.slice A0 cd.length c0)),(I (Qa0.mk r25.2.at_ r25.2.seed).at_),(IK .u64 (Qa0.mk r25.2.at_ r25.2.seed).seed)]]=true)∧True,([[(AV.lit (.slice A0 cd.length c0)),(I r40.2.at_),(IK .u64 r40.2.seed)]].length=[[(AV.lit (.slice A0 cd.length c0)),(I (Qa0.mk r25.2.at_ r25.2.seed).at_),(IK .u64 (Qa0.mk r25.2.at_ r25.2.seed).seed)]].length)∧True,Z26.1=Z23,Z26.2.1=[],(0:Int)≤r23.1,r23.1<Z4,Z3[r23.1.toNat]? = some Z24,Z3.set r23.1.toNat (wr Z24 3 Z27)=Z25,Z27.length=1,3+Z27.length≤Z24.length,Z3.length=Z25.length,[[(AV.lit (.slice A0 cd.length c0)),(I r40.2.at_),(IK .u64 r40.2.seed)]]=[[(AV.lit (.slice A0 cd.length c0)),(I (Qa0.mk r40.2.at_ r40.2.seed).at_),(IK .u64 (Qa0.mk r40.2.at_ r40.2.seed).seed)]],Qa1 [[(AV.lit (.slice A0 cd.length c0)),(I (Qa0.mk r40.2.at_ r40.2.seed).at_),(IK .u64 (Qa0.mk r40.2.at_ r40.2.seed).seed)]]=true,Qa4 [[(AV.lit (.slice A0 cd.length c0)),(I (Qa0.mk r40.2.at_ r40.2.seed).at_),(IK .u64 (Qa0.mk r40.2.at_ r40.2.seed).seed)]]=true,Qa1 (Z25.take Z25.length)=true,Z25.take Z25.length=Z25,Qa4 Z25=true]) (Qag AP2 ⟨c30,c34,c38,(Qaj hr40),⟨rfl,trivial⟩,⟨⟨rfl,rfl⟩,trivial⟩,⟨rfl,trivial⟩,rfl,rfl,(rd0 hx41),(rdL o71 hx41),(rdM o71 hx41),(Qt6 o71),rfl,leB,lnq,rfl,rfl,rfl,(Qay t71),Qax,(Qaa n71),trivial⟩))
noncomputable def Qc5  (cd:(List Int)) (a16:Qa0) (a17:(List Qa5)) : Option ((List Qa5)×Qa0):=
 if (decide ((a17.length:Int) > 0))=true then
  Option.bind (Qbh cd (Qa0.mk a16.at_ a16.seed) 12) fun r19 =>
  if r19.1=true then
   Qds cd (Qa0.mk r19.2.at_ r19.2.seed) a17
  else
   some (a17,(Qa0.mk r19.2.at_ r19.2.seed))
 else
  some (a17,(Qa0.mk a16.at_ a16.seed))
theorem Qft {A0:Option Addr} {c0:Nat} {cd:(List Int)} {E:Env} (hP:E.pk=PK.mk Try.prog (kv A0 cd)) (hn:E.n=74) (hx : ∀ p,p∈E.fx→p.1∈([0] : List Nat))   (a16:Qa0) (a17:(List Qa5)) (r:((List Qa5)×Qa0)) (h:Qc5 cd a16 a17=some r) : WAt E Qse (FQ (Qdu Θ Try.f96.results.toList [true] [⟨88,3,[[(AV.lit (.slice A0 (List.length cd) c0)),(I r.2.at_),(IK .u64 r.2.seed)]]⟩] (AV.own 71 5 (r.1.map o71)) E)) [true,true,true,true,true] ⟨[(0,(AV.ptr 0 0 0)),(4,(AV.sl 1 0 (List.length (a17.map o71))))],[(0,some ⟨88,3,[[(AV.lit (.slice A0 (List.length cd) c0)),(I a16.at_),(IK .u64 a16.seed)]]⟩),(1,some ⟨71,5,(a17.map o71)⟩)],[0,1,JJ]⟩:=by
 unfold Qc5 at h
 let Z0:=a17.map o71;let Z1:=(I (a17.length:Int));let Z3:=(B (decide ((a17.length:Int) > 0)))
 let P1:List Prop:=[AV.lit (.int .i64 ((Z0.length:Nat) : Int))=Z1]
 have AP1:Qb0 P1:=⟨(Qfn o71),trivial⟩
 rcases itS h with ⟨c18,h⟩ | ⟨c43,h⟩
 ·obtain ⟨r19,hr19,h⟩:=bnS h
  let Z2:=B r19.1;let Z4:=rtf (Qe3 [(0,0)] Z2) []
  let H2:List Hn:=[hO 1 Z1,hO 3 (B true),hh 5 (.callX [0] [true] [⟨88,3,[[(AV.lit (.slice A0 cd.length c0)),(I (Qa0.mk a16.at_ a16.seed).at_),(IK .u64 (Qa0.mk a16.at_ a16.seed).seed)]]⟩] [⟨88,3,[[(AV.lit (.slice A0 cd.length c0)),(I r19.2.at_),(IK .u64 r19.2.seed)]]⟩] [] Z2 [] Z2 [])]
  let P3:List Prop:=P1++[Z3=(B true),Qaw (PK.mk Try.prog (kv A0 cd)) 83 [⟨88,3,[[(AV.lit (.slice A0 cd.length c0)),(I (Qa0.mk a16.at_ a16.seed).at_),(IK .u64 (Qa0.mk a16.at_ a16.seed).seed)]]⟩] [(AV.ptr 0 0 0),(I 12)] [true] [⟨88,3,[[(AV.lit (.slice A0 cd.length c0)),(I r19.2.at_),(IK .u64 r19.2.seed)]]⟩] Z2,(some (Qae.mk 88 3 [[(AV.lit (.slice A0 cd.length c0)),(I a16.at_),(IK .u64 a16.seed)]])=some (Qae.mk 88 3 [[(AV.lit (.slice A0 cd.length c0)),(I (Qa0.mk a16.at_ a16.seed).at_),(IK .u64 (Qa0.mk a16.at_ a16.seed).seed)]]))∧True,(Qa1 [[(AV.lit (.slice A0 cd.length c0)),(I (Qa0.mk a16.at_ a16.seed).at_),(IK .u64 (Qa0.mk a16.at_ a16.seed).seed)]]=true∧Qa4 [[(AV.lit (.slice A0 cd.length c0)),(I (Qa0.mk a16.at_ a16.seed).at_),(IK .u64 (Qa0.mk a16.at_ a16.seed).seed)]]=true)∧True,([[(AV.lit (.slice A0 cd.length c0)),(I r19.2.at_),(IK .u64 r19.2.seed)]].length=[[(AV.lit (.slice A0 cd.length c0)),(I (Qa0.mk a16.at_ a16.seed).at_),(IK .u64 (Qa0.mk a16.at_ a16.seed).seed)]].length)∧True,Z4.1=Z2,Z4.2.1=[]]
  have AP3:Qb0 P3:=Qag AP1 ⟨(Qb5 c18),(Qc3 hr19),⟨rfl,trivial⟩,⟨⟨rfl,rfl⟩,trivial⟩,⟨rfl,trivial⟩,rfl,rfl,trivial⟩
  rcases itS h with ⟨c20,h⟩ | ⟨c42,h⟩
  ·exact gT hP hn hx (H2++[hT 7]) [(0,0),(1,1)] [0,4] [] (P3++[r19.1=true,Qa6 [(0,0),(1,1)] [[(AV.lit (.slice A0 cd.length c0)),(I r19.2.at_),(IK .u64 r19.2.seed)]],Qa6 [(0,0),(1,1)] Z0]) (Qag AP3 ⟨c20,(rok rfl),(rok (Qa7 t71)),trivial⟩) (Qly (A0:=A0) (c0:=c0) hP hn hx (Qa0.mk r19.2.at_ r19.2.seed) a17 _ h)
  ·obtain rfl:=sj h
   exact gR hP hn (H2++[hF 7]) [] .own (P3++[r19.1=false,[[(AV.lit (.slice A0 cd.length c0)),(I r19.2.at_),(IK .u64 r19.2.seed)]]=[[(AV.lit (.slice A0 cd.length c0)),(I (Qa0.mk r19.2.at_ r19.2.seed).at_),(IK .u64 (Qa0.mk r19.2.at_ r19.2.seed).seed)]],Qa1 [[(AV.lit (.slice A0 cd.length c0)),(I (Qa0.mk r19.2.at_ r19.2.seed).at_),(IK .u64 (Qa0.mk r19.2.at_ r19.2.seed).seed)]]=true,Qa4 [[(AV.lit (.slice A0 cd.length c0)),(I (Qa0.mk r19.2.at_ r19.2.seed).at_),(IK .u64 (Qa0.mk r19.2.at_ r19.2.seed).seed)]]=true,Qa1 (Z0.take Z0.length)=true,Z0.take Z0.length=Z0,Qa4 Z0=true]) (Qag AP3 ⟨c42,rfl,rfl,rfl,(Qay t71),Qax,(Qaa n71),trivial⟩)
 ·obtain rfl:=sj h
  exact gR hP hn [hO 1 Z1,hO 3 (B false)] [] .own (P1++[Z3=(B false),[[(AV.lit (.slice A0 cd.length c0)),(I a16.at_),(IK .u64 a16.seed)]]=[[(AV.lit (.slice A0 cd.length c0)),(I (Qa0.mk a16.at_ a16.seed).at_),(IK .u64 (Qa0.mk a16.at_ a16.seed).seed)]],Qa1 [[(AV.lit (.slice A0 cd.length c0)),(I (Qa0.mk a16.at_ a16.seed).at_),(IK .u64 (Qa0.mk a16.at_ a16.seed).seed)]]=true,Qa4 [[(AV.lit (.slice A0 cd.length c0)),(I (Qa0.mk a16.at_ a16.seed).at_),(IK .u64 (Qa0.mk a16.at_ a16.seed).seed)]]=true,Qa1 (Z0.take Z0.length)=true,Z0.take Z0.length=Z0,Qa4 Z0=true]) (Qag AP1 ⟨(Qb5 c43),rfl,rfl,rfl,(Qay t71),Qax,(Qaa n71),trivial⟩)
noncomputable def Qf6  (cd:(List Int)) (a13:Qa0) (a14:(List Qa5)) : Option ((List Qa5)×Qa0):=
 Option.bind (slc a14 0 40) fun l15 =>
 Qc5 cd (Qa0.mk a13.at_ a13.seed) l15
theorem Qln {A0:Option Addr} {c0:Nat} {cd:(List Int)} {E:Env} (hP:E.pk=PK.mk Try.prog (kv A0 cd)) (hn:E.n=74) (hx : ∀ p,p∈E.fx→p.1∈([0] : List Nat))   (a13:Qa0) (a14:(List Qa5)) (r:((List Qa5)×Qa0)) (h:Qf6 cd a13 a14=some r) : WAt E Qse (FQ (Qdu Θ Try.f96.results.toList [true] [⟨88,3,[[(AV.lit (.slice A0 (List.length cd) c0)),(I r.2.at_),(IK .u64 r.2.seed)]]⟩] (AV.own 71 5 (r.1.map o71)) E)) [true,true,true,true,false,true,false] ⟨[(0,(AV.ptr 0 0 0)),(4,(AV.sl 1 0 (List.length (a14.map o71))))],[(0,some ⟨88,3,[[(AV.lit (.slice A0 (List.length cd) c0)),(I a13.at_),(IK .u64 a13.seed)]]⟩),(1,some ⟨71,5,(a14.map o71)⟩)],[0,1,JJ]⟩:=by
 unfold Qf6 at h
 obtain ⟨l15,hl15,h⟩:=bnS h
 exact (let Z0:=l15.map o71;let Z1:=a14.map o71;gT hP hn hx [hh 1 (.shr 1001 Z0)] [(0,0),(1001,1)] [0,4] [] [(0:Int)≤40,40≤((Z1.length:Nat) : Int),Z1.take (Int.toNat 40)=Z0,Z1.length=Z1.length,Qa6 [(0,0),(1001,1)] [[(AV.lit (.slice A0 cd.length c0)),(I a13.at_),(IK .u64 a13.seed)]],Qa6 [(0,0),(1001,1)] Z0] ⟨(sl1 hl15),(sl2 o71 hl15),(shT o71 hl15),rfl,(rok rfl),(rok (Qa7 t71)),trivial⟩ (Qft (A0:=A0) (c0:=c0) hP hn hx (Qa0.mk a13.at_ a13.seed) l15 _ h))
noncomputable def Qf5  (cd:(List Int)) (r11:(Bool×Qa0)) (a45:(List Qa5)) : Option ((List Qa5)×Qa0):=
 Qc5 cd (Qa0.mk r11.2.at_ r11.2.seed) a45
theorem Ql9 {A0:Option Addr} {c0:Nat} {cd:(List Int)} {E:Env} (hP:E.pk=PK.mk Try.prog (kv A0 cd)) (hn:E.n=74) (hx : ∀ p,p∈E.fx→p.1∈([0] : List Nat)) (r11:(Bool×Qa0))  (a45:(List Qa5)) (r:((List Qa5)×Qa0)) (h:Qf5 cd r11 a45=some r) : WAt E Qse (FQ (Qdu Θ Try.f96.results.toList [true] [⟨88,3,[[(AV.lit (.slice A0 (List.length cd) c0)),(I r.2.at_),(IK .u64 r.2.seed)]]⟩] (AV.own 71 5 (r.1.map o71)) E)) [true,true,true,true,false,true,true] ⟨[(0,(AV.ptr 0 0 0)),(4,(AV.sl 1 0 (List.length (a45.map o71))))],[(0,some ⟨88,3,[[(AV.lit (.slice A0 (List.length cd) c0)),(I r11.2.at_),(IK .u64 r11.2.seed)]]⟩),(1,some ⟨71,5,(a45.map o71)⟩)],[0,1,JJ]⟩:=by
 unfold Qf5 at h
 exact gT hP hn hx [] [(0,0),(1,1)] [0,4] [] [Qa6 [(0,0),(1,1)] [[(AV.lit (.slice A0 cd.length c0)),(I r11.2.at_),(IK .u64 r11.2.seed)]],Qa6 [(0,0),(1,1)] (a45.map o71)] ⟨(rok rfl),(rok (Qa7 t71)),trivial⟩ (Qft (A0:=A0) (c0:=c0) hP hn hx (Qa0.mk r11.2.at_ r11.2.seed) a45 _ h)
noncomputable def Qf1  (cd:(List Int)) (r8:(Qgp×Qa0)) (a47:(List Qa5)) : Option ((List Qa5)×Qa0):=
 Qc5 cd (Qa0.mk r8.2.at_ r8.2.seed) a47
theorem Ql1 {A0:Option Addr} {c0:Nat} {cd:(List Int)} {E:Env} (hP:E.pk=PK.mk Try.prog (kv A0 cd)) (hn:E.n=74) (hx : ∀ p,p∈E.fx→p.1∈([0] : List Nat)) (r8:(Qgp×Qa0))  (a47:(List Qa5)) (r:((List Qa5)×Qa0)) (h:Qf1 cd r8 a47=some r) : WAt E Qse (FQ (Qdu Θ Try.f96.results.toList [true] [⟨88,3,[[(AV.lit (.slice A0 (List.length cd) c0)),(I r.2.at_),(IK .u64 r.2.seed)]]⟩] (AV.own 71 5 (r.1.map o71)) E)) [true,true,true,true,false,true,true] ⟨[(0,(AV.ptr 0 0 0)),(4,(AV.sl 1 0 (List.length (a47.map o71))))],[(0,some ⟨88,3,[[(AV.lit (.slice A0 (List.length cd) c0)),(I r8.2.at_),(IK .u64 r8.2.seed)]]⟩),(1,some ⟨71,5,(a47.map o71)⟩)],[0,1,JJ]⟩:=by
 unfold Qf1 at h
 exact gT hP hn hx [] [(0,0),(1,1)] [0,4] [] [Qa6 [(0,0),(1,1)] [[(AV.lit (.slice A0 cd.length c0)),(I r8.2.at_),(IK .u64 r8.2.seed)]],Qa6 [(0,0),(1,1)] (a47.map o71)] ⟨(rok rfl),(rok (Qa7 t71)),trivial⟩ (Qft (A0:=A0) (c0:=c0) hP hn hx (Qa0.mk r8.2.at_ r8.2.seed) a47 _ h)
noncomputable def Qcn  (cd:(List Int)) (a6:Qa0) (a7:Qa9) : Option ((List Qa5)×Qa0):=
 Option.bind (Qg9 cd (Qa0.mk a6.at_ a6.seed) (Qa9.mk a7.Cells a7.Locks a7.Conds a7.Routines)) fun r8 =>
 Option.bind (app [] r8.1.Trace) fun l9 =>
 if (decide ((l9.length:Int) > 40))=true then
  Option.bind (Qbh cd (Qa0.mk r8.2.at_ r8.2.seed) 10) fun r11 =>
  if (!r11.1)=true then
   Qf6 cd (Qa0.mk r11.2.at_ r11.2.seed) l9
  else
   Qf5 cd r11 l9
 else
  Qf1 cd r8 l9
theorem Qho {A0:Option Addr} {c0:Nat} {cd:(List Int)} {E:Env} (hP:E.pk=PK.mk Try.prog (kv A0 cd)) (hn:E.n=74) (hx : ∀ p,p∈E.fx→p.1∈([0] : List Nat))   (a6:Qa0) (a7:Qa9) (r:((List Qa5)×Qa0)) (h:Qcn cd a6 a7=some r) : WAt E Qse (FQ (Qdu Θ Try.f96.results.toList [true] [⟨88,3,[[(AV.lit (.slice A0 (List.length cd) c0)),(I r.2.at_),(IK .u64 r.2.seed)]]⟩] (AV.own 71 5 (r.1.map o71)) E)) [true,true,true] ⟨[(0,(AV.ptr 0 0 0)),(3,(AV.ptr 1 0 0))],[(0,some ⟨88,3,[[(AV.lit (.slice A0 (List.length cd) c0)),(I a6.at_),(IK .u64 a6.seed)]]⟩),(1,some ⟨136,4,[((Qkw a7))]⟩)],[0,1,JJ]⟩:=by
 unfold Qcn at h
 obtain ⟨r8,hr8,h⟩:=bnS h
 obtain ⟨l9,hl9,h⟩:=bnS h
 let Z0:=Qkw a7;let Z1:=a7.Routines.map Qdw;let Z2:=AV.sl 1002 0 Z1.length;let Z3:=[[(I a7.Cells),(I a7.Locks),(I a7.Conds),Z2]];let Z4:=a7.Routines.map Qtr;let Z5:=AV.agg (Qsl r8.1);let Z6:=r8.1.Trace.map o71;let Z7:=r8.1.Picks.map o3;let Z8:=r8.1.End.Threads.map Qap;let Z9:=r8.1.End.Cells.map Qb7;let Z10:=r8.1.End.Owner.map o3;let Z11:=AV.agg [(I r8.1.Code),(AV.sl 1003 0 Z6.length),(AV.sl 1004 0 Z7.length),(AV.sl 1005 0 Z8.length),(AV.sl 1006 0 Z9.length),(AV.sl 1007 0 Z10.length),(I r8.1.End.Fault)];let Z12:=l9.map o71;let Z13:=(I (l9.length:Int));let Z14:=rtf (Qe3 [(0,0)] Z5) [1003,1004,1005,1006,1007];let Z15:=(Z6.drop 0).take Z6.length;let Z17:=(B (decide ((l9.length:Int) > 40)))
 let H1:List Hn:=[hW 0 1001,hh 2 (.unpack 1 1002 0 3 Z0 155 1 Z1 Z3),hh 3 (.callX [0] [true] [⟨88,3,[[(AV.lit (.slice A0 cd.length c0)),(I (Qa0.mk a6.at_ a6.seed).at_),(IK .u64 (Qa0.mk a6.at_ a6.seed).seed)]]⟩] [⟨88,3,[[(AV.lit (.slice A0 cd.length c0)),(I r8.2.at_),(IK .u64 r8.2.seed)]]⟩] [[],Z4] Z5 [1003,1004,1005,1006,1007] Z11 [(1003,⟨71,5,Z6⟩),(1004,⟨3,1,Z7⟩),(1005,⟨198,6,Z8⟩),(1006,⟨156,1,Z9⟩),(1007,⟨3,1,Z10⟩)]),hh 5 (.app 1008 Z12),hO 8 Z13]
 let P2:List Prop:=[[Z0][0]? = some Z0,Z0[3]? = some (AV.own 155 1 Z1),0<1,[Z0].set 0 (Z0.set 3 Z2)=Z3,Qaw (PK.mk Try.prog (kv A0 cd)) 132 [⟨88,3,[[(AV.lit (.slice A0 cd.length c0)),(I (Qa0.mk a6.at_ a6.seed).at_),(IK .u64 (Qa0.mk a6.at_ a6.seed).seed)]]⟩] [(AV.ptr 0 0 0),(AV.agg [(I a7.Cells),(I a7.Locks),(I a7.Conds),(AV.ro 1 Z4)])] [true] [⟨88,3,[[(AV.lit (.slice A0 cd.length c0)),(I r8.2.at_),(IK .u64 r8.2.seed)]]⟩] Z5,(some (Qae.mk 88 3 [[(AV.lit (.slice A0 cd.length c0)),(I a6.at_),(IK .u64 a6.seed)]])=some (Qae.mk 88 3 [[(AV.lit (.slice A0 cd.length c0)),(I (Qa0.mk a6.at_ a6.seed).at_),(IK .u64 (Qa0.mk a6.at_ a6.seed).seed)]]))∧True,(Qa1 [[(AV.lit (.slice A0 cd.length c0)),(I (Qa0.mk a6.at_ a6.seed).at_),(IK .u64 (Qa0.mk a6.at_ a6.seed).seed)]]=true∧Qa4 [[(AV.lit (.slice A0 cd.length c0)),(I (Qa0.mk a6.at_ a6.seed).at_),(IK .u64 (Qa0.mk a6.at_ a6.seed).seed)]]=true)∧True,([[(AV.lit (.slice A0 cd.length c0)),(I r8.2.at_),(IK .u64 r8.2.seed)]].length=[[(AV.lit (.slice A0 cd.length c0)),(I (Qa0.mk a6.at_ a6.seed).at_),(IK .u64 (Qa0.mk a6.at_ a6.seed).seed)]].length)∧True,Z14.1=Z11,Z14.2.1=[(1003,⟨71,5,Z6⟩),(1004,⟨3,1,Z7⟩),(1005,⟨198,6,Z8⟩),(1006,⟨156,1,Z9⟩),(1007,⟨3,1,Z10⟩)],Frz ((Z1.drop 0).take Z1.length) Z4,([].map o71).take ([].map o71).length++Z15=Z12,Z15.all (fun r=>r.all AV.plain)=true,Z12.length * 40≤140737488355328,Z12.length≤140737488355328,AV.lit (.int .i64 ((Z12.length:Nat) : Int))=Z13]
 have AP2:Qb0 P2:=⟨rfl,rfl,(by decide),rfl,(Qqi hr8),⟨rfl,trivial⟩,⟨⟨rfl,rfl⟩,trivial⟩,⟨rfl,trivial⟩,rfl,rfl,(Qlc Xa3 z155),(Qiw o71 hl9),(plD pa71),(Qnn o71 hl9 (by decide)),(Qnm o71 hl9),(Qfn o71),trivial⟩
 rcases itS h with ⟨c10,h⟩ | ⟨c46,h⟩
 ·obtain ⟨r11,hr11,h⟩:=bnS h
  let Z16:=B r11.1;let Z18:=rtf (Qe3 [(0,0)] Z16) []
  let H3:List Hn:=H1++[hO 10 (B true),hh 12 (.callX [0] [true] [⟨88,3,[[(AV.lit (.slice A0 cd.length c0)),(I (Qa0.mk r8.2.at_ r8.2.seed).at_),(IK .u64 (Qa0.mk r8.2.at_ r8.2.seed).seed)]]⟩] [⟨88,3,[[(AV.lit (.slice A0 cd.length c0)),(I r11.2.at_),(IK .u64 r11.2.seed)]]⟩] [] Z16 [] Z16 [])]
  let P4:List Prop:=P2++[Z17=(B true),Qaw (PK.mk Try.prog (kv A0 cd)) 83 [⟨88,3,[[(AV.lit (.slice A0 cd.length c0)),(I (Qa0.mk r8.2.at_ r8.2.seed).at_),(IK .u64 (Qa0.mk r8.2.at_ r8.2.seed).seed)]]⟩] [(AV.ptr 0 0 0),(I 10)] [true] [⟨88,3,[[(AV.lit (.slice A0 cd.length c0)),(I r11.2.at_),(IK .u64 r11.2.seed)]]⟩] Z16,(some (Qae.mk 88 3 [[(AV.lit (.slice A0 cd.length c0)),(I r8.2.at_),(IK .u64 r8.2.seed)]])=some (Qae.mk 88 3 [[(AV.lit (.slice A0 cd.length c0)),(I (Qa0.mk r8.2.at_ r8.2.seed).at_),(IK .u64 (Qa0.mk r8.2.at_ r8.2.seed).seed)]]))∧True,(Qa1 [[(AV.lit (.slice A0 cd.length c0)),(I (Qa0.mk r8.2.at_ r8.2.seed).at_),(IK .u64 (Qa0.mk r8.2.at_ r8.2.seed).seed)]]=true∧Qa4 [[(AV.lit (.slice A0 cd.length c0)),(I (Qa0.mk r8.2.at_ r8.2.seed).at_),(IK .u64 (Qa0.mk r8.2.at_ r8.2.seed).seed)]]=true)∧True,([[(AV.lit (.slice A0 cd.length c0)),(I r11.2.at_),(IK .u64 r11.2.seed)]].length=[[(AV.lit (.slice A0 cd.length c0)),(I (Qa0.mk r8.2.at_ r8.2.seed).at_),(IK .u64 (Qa0.mk r8.2.at_ r8.2.seed).seed)]].length)∧True,Z18.1=Z16,Z18.2.1=[]]
  have AP4:Qb0 P4:=Qag AP2 ⟨(Qb5 c10),(Qc3 hr11),⟨rfl,trivial⟩,⟨⟨rfl,rfl⟩,trivial⟩,⟨rfl,trivial⟩,rfl,rfl,trivial⟩
  rcases itS h with ⟨c12,h⟩ | ⟨c44,h⟩
  ·exact gT hP hn hx (H3++[hT 15]) [(0,0),(1008,1)] [0,4] [] (P4++[(!r11.1)=true,Qa6 [(0,0),(1008,1)] [[(AV.lit (.slice A0 cd.length c0)),(I r11.2.at_),(IK .u64 r11.2.seed)]],Qa6 [(0,0),(1008,1)] Z12]) (Qag AP4 ⟨c12,(rok rfl),(rok (Qa7 t71)),trivial⟩) (Qln (A0:=A0) (c0:=c0) hP hn hx (Qa0.mk r11.2.at_ r11.2.seed) l9 _ h)
  ·exact gT hP hn hx (H3++[hF 15]) [(0,0),(1008,1)] [0,4] [] (P4++[(!r11.1)=false,Qa6 [(0,0),(1008,1)] [[(AV.lit (.slice A0 cd.length c0)),(I r11.2.at_),(IK .u64 r11.2.seed)]],Qa6 [(0,0),(1008,1)] Z12]) (Qag AP4 ⟨c44,(rok rfl),(rok (Qa7 t71)),trivial⟩) (Ql9 (A0:=A0) (c0:=c0) hP hn hx r11 l9 _ h)
 ·exact gT hP hn hx (H1++[hO 10 (B false)]) [(0,0),(1008,1)] [0,4] [] (P2++[Z17=(B false),Qa6 [(0,0),(1008,1)] [[(AV.lit (.slice A0 cd.length c0)),(I r8.2.at_),(IK .u64 r8.2.seed)]],Qa6 [(0,0),(1008,1)] Z12]) (Qag AP2 ⟨(Qb5 c46),(rok rfl),(rok (Qa7 t71)),trivial⟩) (Ql1 (A0:=A0) (c0:=c0) hP hn hx r8 l9 _ h)
noncomputable def Qf7 (cd:(List Int)) (p1:Qa0) : Option ((List Qa5)×Qa0):=
 Option.bind (Qfu cd (Qa0.mk p1.at_ p1.seed)) fun r2 =>
 Option.bind (Qbh cd (Qa0.mk r2.2.at_ r2.2.seed) 4) fun r3 =>
 if r3.1=true then
  Option.bind (Qem cd (Qa0.mk r3.2.at_ r3.2.seed)) fun r5 =>
  Qcn cd (Qa0.mk r5.2.at_ r5.2.seed) (Qa9.mk r5.1.Cells r5.1.Locks r5.1.Conds r5.1.Routines)
 else
  Qcn cd (Qa0.mk r3.2.at_ r3.2.seed) (Qa9.mk r2.1.Cells r2.1.Locks r2.1.Conds r2.1.Routines)
theorem Qoc {cd:(List Int)} {p1:Qa0} {A0:Option Addr} {c0:Nat} {r:((List Qa5)×Qa0)} (h:Qf7 cd p1=some r) : Qaw (PK.mk Try.prog (kv A0 cd)) 96 [⟨88,3,[[(AV.lit (.slice A0 (List.length cd) c0)),(I p1.at_),(IK .u64 p1.seed)]]⟩] [(AV.ptr 0 0 0)] [true] [⟨88,3,[[(AV.lit (.slice A0 (List.length cd) c0)),(I r.2.at_),(IK .u64 r.2.seed)]]⟩] (AV.own 71 5 (r.1.map o71)):=by
 refine Qfc (X:=PK.mk Try.prog (kv A0 cd)) Qxi Try.func96 rfl (c:=Qse) (by kernel_rfl) (Nat.le_of_ble_eq_true rfl) rfl (Nat.le_of_ble_eq_true rfl) rfl (fr:=[0]) (frI rfl) ?_
 intro E hP hn hx
 replace hn:E.n=74:=hn
 unfold Qf7 at h
 obtain ⟨r2,hr2,h⟩:=bnS h
 obtain ⟨r3,hr3,h⟩:=bnS h
 let Z0:=AV.agg (Qkw r2.1);let Z1:=r2.1.Routines.map Qdw;let Z2:=AV.sl 1001 0 Z1.length;let Z3:=[(I r2.1.Cells),(I r2.1.Locks),(I r2.1.Conds),Z2];let Z4:=rtf (Qe3 [(0,0)] Z0) [1001];let Z5:=rtf (Qe3 [(0,0)] (B r3.1)) [];let Z13:=[[(I r2.1.Cells),(I r2.1.Locks),(I r2.1.Conds),(AV.own 155 1 Z1)]];let Z14:=Qa9.mk r2.1.Cells r2.1.Locks r2.1.Conds r2.1.Routines
 let H1:List Hn:=[hh 2 (.callX [0] [true] [⟨88,3,[[(AV.lit (.slice A0 cd.length c0)),(I (Qa0.mk p1.at_ p1.seed).at_),(IK .u64 (Qa0.mk p1.at_ p1.seed).seed)]]⟩] [⟨88,3,[[(AV.lit (.slice A0 cd.length c0)),(I r2.2.at_),(IK .u64 r2.2.seed)]]⟩] [] Z0 [1001] (AV.agg Z3) [(1001,⟨155,1,Z1⟩)]),hW 3 1002,hh 6 (.callX [0] [true] [⟨88,3,[[(AV.lit (.slice A0 cd.length c0)),(I (Qa0.mk r2.2.at_ r2.2.seed).at_),(IK .u64 (Qa0.mk r2.2.at_ r2.2.seed).seed)]]⟩] [⟨88,3,[[(AV.lit (.slice A0 cd.length c0)),(I r3.2.at_),(IK .u64 r3.2.seed)]]⟩] [] (B r3.1) [] (B r3.1) [])]
 let P2:List Prop:=[Qaw (PK.mk Try.prog (kv A0 cd)) 130 [⟨88,3,[[(AV.lit (.slice A0 cd.length c0)),(I (Qa0.mk p1.at_ p1.seed).at_),(IK .u64 (Qa0.mk p1.at_ p1.seed).seed)]]⟩] [(AV.ptr 0 0 0)] [true] [⟨88,3,[[(AV.lit (.slice A0 cd.length c0)),(I r2.2.at_),(IK .u64 r2.2.seed)]]⟩] Z0,(some (Qae.mk 88 3 [[(AV.lit (.slice A0 cd.length c0)),(I p1.at_),(IK .u64 p1.seed)]])=some (Qae.mk 88 3 [[(AV.lit (.slice A0 cd.length c0)),(I (Qa0.mk p1.at_ p1.seed).at_),(IK .u64 (Qa0.mk p1.at_ p1.seed).seed)]]))∧True,(Qa1 [[(AV.lit (.slice A0 cd.length c0)),(I (Qa0.mk p1.at_ p1.seed).at_),(IK .u64 (Qa0.mk p1.at_ p1.seed).seed)]]=true∧Qa4 [[(AV.lit (.slice A0 cd.length c0)),(I (Qa0.mk p1.at_ p1.seed).at_),(IK .u64 (Qa0.mk p1.at_ p1.seed).seed)]]=true)∧True,([[(AV.lit (.slice A0 cd.length c0)),(I r2.2.at_),(IK .u64 r2.2.seed)]].length=[[(AV.lit (.slice A0 cd.length c0)),(I (Qa0.mk p1.at_ p1.seed).at_),(IK .u64 (Qa0.mk p1.at_ p1.seed).seed)]].length)∧True,Z4.1=(AV.agg Z3),Z4.2.1=[(1001,⟨155,1,Z1⟩)],Qaw (PK.mk Try.prog (kv A0 cd)) 83 [⟨88,3,[[(AV.lit (.slice A0 cd.length c0)),(I (Qa0.mk r2.2.at_ r2.2.seed).at_),(IK .u64 (Qa0.mk r2.2.at_ r2.2.seed).seed)]]⟩] [(AV.ptr 0 0 0),(I 4)] [true] [⟨88,3,[[(AV.lit (.slice A0 cd.length c0)),(I r3.2.at_),(IK .u64 r3.2.seed)]]⟩] (B r3.1),(some (Qae.mk 88 3 [[(AV.lit (.slice A0 cd.length c0)),(I r2.2.at_),(IK .u64 r2.2.seed)]])=some (Qae.mk 88 3 [[(AV.lit (.slice A0 cd.length c0)),(I (Qa0.mk r2.2.at_ r2.2.seed).at_),(IK .u64 (Qa0.mk r2.2.at_ r2.2.seed).seed)]]))∧True,(Qa1 [[(AV.lit (.slice A0 cd.length c0)),(I (Qa0.mk r2.2.at_ r2.2.seed).at_),(IK .u64 (Qa0.mk r2.2.at_ r2.2.seed).seed)]]=true∧Qa4 [[(AV.lit (.slice A0 cd.length c0)),(I (Qa0.mk r2.2.at_ r2.2.seed).at_),(IK .u64 (Qa0.mk r2.2.at_ r2.2.seed).seed)]]=true)∧True,([[(AV.lit (.slice A0 cd.length c0)),(I r3.2.at_),(IK .u64 r3.2.seed)]].length=[[(AV.lit (.slice A0 cd.length c0)),(I (Qa0.mk r2.2.at_ r2.2.seed).at_),(IK .u64 (Qa0.mk r2.2.at_ r2.2.seed).seed)]].length)∧True,Z5.1=(B r3.1),Z5.2.1=[]]
 have AP2:Qb0 P2:=⟨(Qp5 hr2),⟨rfl,trivial⟩,⟨⟨rfl,rfl⟩,trivial⟩,⟨rfl,trivial⟩,rfl,rfl,(Qc3 hr3),⟨rfl,trivial⟩,⟨⟨rfl,rfl⟩,trivial⟩,⟨rfl,trivial⟩,rfl,rfl,trivial⟩
 rcases itS h with ⟨c4,h⟩ | ⟨c48,h⟩
 ·obtain ⟨r5,hr5,h⟩:=bnS h
  exact (let Z6:=AV.agg (Qkw r5.1);let Z7:=r5.1.Routines.map Qdw;let Z8:=AV.sl 1003 0 Z7.length;let Z9:=[(I r5.1.Cells),(I r5.1.Locks),(I r5.1.Conds),Z8];let Z10:=[[(I r5.1.Cells),(I r5.1.Locks),(I r5.1.Conds),(AV.own 155 1 Z7)]];let Z11:=rtf (Qe3 [(0,0)] Z6) [1003];let Z12:=Qa9.mk r5.1.Cells r5.1.Locks r5.1.Conds r5.1.Routines;gT hP hn hx (H1++[hT 7,hh 9 (.callX [0] [true] [⟨88,3,[[(AV.lit (.slice A0 cd.length c0)),(I (Qa0.mk r3.2.at_ r3.2.seed).at_),(IK .u64 (Qa0.mk r3.2.at_ r3.2.seed).seed)]]⟩] [⟨88,3,[[(AV.lit (.slice A0 cd.length c0)),(I r5.2.at_),(IK .u64 r5.2.seed)]]⟩] [] Z6 [1003] (AV.agg Z9) [(1003,⟨155,1,Z7⟩)]),hh 11 (.pack 1002 1003 0 3 Z9 Z10)]) [(0,0),(1002,1)] [0,3] [] (P2++[r3.1=true,Qaw (PK.mk Try.prog (kv A0 cd)) 131 [⟨88,3,[[(AV.lit (.slice A0 cd.length c0)),(I (Qa0.mk r3.2.at_ r3.2.seed).at_),(IK .u64 (Qa0.mk r3.2.at_ r3.2.seed).seed)]]⟩] [(AV.ptr 0 0 0)] [true] [⟨88,3,[[(AV.lit (.slice A0 cd.length c0)),(I r5.2.at_),(IK .u64 r5.2.seed)]]⟩] Z6,(some (Qae.mk 88 3 [[(AV.lit (.slice A0 cd.length c0)),(I r3.2.at_),(IK .u64 r3.2.seed)]])=some (Qae.mk 88 3 [[(AV.lit (.slice A0 cd.length c0)),(I (Qa0.mk r3.2.at_ r3.2.seed).at_),(IK .u64 (Qa0.mk r3.2.at_ r3.2.seed).seed)]]))∧True,(Qa1 [[(AV.lit (.slice A0 cd.length c0)),(I (Qa0.mk r3.2.at_ r3.2.seed).at_),(IK .u64 (Qa0.mk r3.2.at_ r3.2.seed).seed)]]=true∧Qa4 [[(AV.lit (.slice A0 cd.length c0)),(I (Qa0.mk r3.2.at_ r3.2.seed).at_),(IK .u64 (Qa0.mk r3.2.at_ r3.2.seed).seed)]]=true)∧True,([[(AV.lit (.slice A0 cd.length c0)),(I r5.2.at_),(IK .u64 r5.2.seed)]].length=[[(AV.lit (.slice A0 cd.length c0)),(I (Qa0.mk r3.2.at_ r3.2.seed).at_),(IK .u64 (Qa0.mk r3.2.at_ r3.2.seed).seed)]].length)∧True,Z11.1=(AV.agg Z9),Z11.2.1=[(1003,⟨155,1,Z7⟩)],[Z9][0]? = some Z9,Z9[3]? = some Z8,Qa1 Z7=true,[Z9].set 0 (Z9.set 3 (AV.own 155 1 Z7))=Z10,Qa6 [(0,0),(1002,1)] [[(AV.lit (.slice A0 cd.length c0)),(I r5.2.at_),(IK .u64 r5.2.seed)]],Qa6 [(0,0),(1002,1)] Z10]) (Qag AP2 ⟨c4,(Qnj hr5),⟨rfl,trivial⟩,⟨⟨rfl,rfl⟩,trivial⟩,⟨rfl,trivial⟩,rfl,rfl,rfl,rfl,(Qa7 Xa3),rfl,(rok rfl),(rok (Qb1 Qit Z12)),trivial⟩) (Qho (A0:=A0) (c0:=c0) hP hn hx (Qa0.mk r5.2.at_ r5.2.seed) Z12 _ h))
 ·exact gT hP hn hx (H1++[hF 7,hh 8 (.pack 1002 1001 0 3 Z3 Z13)]) [(0,0),(1002,1)] [0,3] [] (P2++[r3.1=false,[Z3][0]? = some Z3,Z3[3]? = some Z2,Qa1 Z1=true,[Z3].set 0 (Z3.set 3 (AV.own 155 1 Z1))=Z13,Qa6 [(0,0),(1002,1)] [[(AV.lit (.slice A0 cd.length c0)),(I r3.2.at_),(IK .u64 r3.2.seed)]],Qa6 [(0,0),(1002,1)] Z13]) (Qag AP2 ⟨c48,rfl,rfl,(Qa7 Xa3),rfl,(rok rfl),(rok (Qb1 Qit Z14)),trivial⟩) (Qho (A0:=A0) (c0:=c0) hP hn hx (Qa0.mk r3.2.at_ r3.2.seed) Z14 _ h)
noncomputable def Xku:Code:=match Try.f89.body with | some c=>c | none=>.skip
noncomputable def Qfj (p1:(List Int)) : Option (List Qa5):=
 Option.bind (Qf7 p1 (Qa0.mk 0 0)) fun r2 =>
 some r2.1
theorem Qmm {p1:(List Int)} {r:(List Qa5)} (h:Qfj p1=some r) : Qab Try.prog 89 [(AV.ro 1 (p1.map o5))] (AV.own 71 5 (r.map o71)):=by
 refine Xcw Qxi Try.func89 rfl (c:=Xku) (by kernel_rfl) (Nat.le_of_ble_eq_true rfl) ?_
 intro A0 c0
 intro E hP hn hx
 replace hn:E.n=9:=hn
 unfold Qfj at h
 obtain ⟨r2,hr2,h⟩:=bnS h
 obtain rfl:=sj h
 exact (let Z0:=r2.1.map o71;let Z1:=AV.own 71 5 Z0;let Z2:=AV.sl 1002 0 Z0.length;let Z3:=rtf (Qe3 [(0,1001)] Z1) [1002];gR hP hn [hW 3 1001,hh 6 (.callX [1001] [true] [⟨88,3,[[(AV.lit (.slice A0 p1.length c0)),(I (Qa0.mk 0 0).at_),(IK .u64 (Qa0.mk 0 0).seed)]]⟩] [⟨88,3,[[(AV.lit (.slice A0 p1.length c0)),(I r2.2.at_),(IK .u64 r2.2.seed)]]⟩] [] Z1 [1002] Z2 [(1002,⟨71,5,Z0⟩)])] [] .own [Qaw (PK.mk Try.prog (kv A0 p1)) 96 [⟨88,3,[[(AV.lit (.slice A0 p1.length c0)),(I (Qa0.mk 0 0).at_),(IK .u64 (Qa0.mk 0 0).seed)]]⟩] [(AV.ptr 0 0 0)] [true] [⟨88,3,[[(AV.lit (.slice A0 p1.length c0)),(I r2.2.at_),(IK .u64 r2.2.seed)]]⟩] Z1,(some (Qae.mk 88 3 [[(AV.lit (.slice A0 p1.length c0)),(I 0),(IK .u64 0)]])=some (Qae.mk 88 3 [[(AV.lit (.slice A0 p1.length c0)),(I (Qa0.mk 0 0).at_),(IK .u64 (Qa0.mk 0 0).seed)]]))∧True,(Qa1 [[(AV.lit (.slice A0 p1.length c0)),(I (Qa0.mk 0 0).at_),(IK .u64 (Qa0.mk 0 0).seed)]]=true∧Qa4 [[(AV.lit (.slice A0 p1.length c0)),(I (Qa0.mk 0 0).at_),(IK .u64 (Qa0.mk 0 0).seed)]]=true)∧True,([[(AV.lit (.slice A0 p1.length c0)),(I r2.2.at_),(IK .u64 r2.2.seed)]].length=[[(AV.lit (.slice A0 p1.length c0)),(I (Qa0.mk 0 0).at_),(IK .u64 (Qa0.mk 0 0).seed)]].length)∧True,Z3.1=Z2,Z3.2.1=[(1002,⟨71,5,Z0⟩)],Qa1 (Z0.take Z0.length)=true,Z0.take Z0.length=Z0,Qa4 Z0=true] ⟨(Qoc hr2),⟨rfl,trivial⟩,⟨⟨rfl,rfl⟩,trivial⟩,⟨rfl,trivial⟩,rfl,rfl,(Qay t71),Qax,(Qaa n71),trivial⟩)
noncomputable def Xkl:Code:=match Try.f42.body with | some c=>c | none=>.skip
noncomputable def Qen (p1:(List Int)) : Option (List Qa5):=
 Option.bind (Qfj p1) fun r2 =>
 some r2
theorem Qne {p1:(List Int)} {r:(List Qa5)} (h:Qen p1=some r) : Qab Try.prog 42 [(AV.ro 1 (p1.map o5))] (AV.own 71 5 (r.map o71)):=by
 refine gM Try.func42 5 Xkl fun E hP hn hx=>?_
 unfold Qen at h
 obtain ⟨r2,hr2,h⟩:=bnS h
 obtain rfl:=sj h
 exact (let Z0:=r2.map o71;let Z1:=AV.own 71 5 Z0;gR hP hn [hh 2 (.call [] Z1 [1001])] [] .own [Qab Try.prog 89 [(AV.ro 1 (p1.map o5))] Z1,Qez Z1=true,Qa1 (Z0.take Z0.length)=true,Z0.take Z0.length=Z0,Qa4 Z0=true] ⟨(Qmm hr2),(by simp +zetaDelta only [Qez,Qcw,Qaa n71,Bool.and_self]),(Qay t71),Qax,(Qaa n71),trivial⟩)
noncomputable def Xle:Code:=match Try.f93.body with | some c=>c | none=>.skip
noncomputable def Qix (p1:Int) (p2:Int) : Option Int:=
 if (decide (p1 > p2))=true then
  some p1
 else
  some p2
theorem Qu3 {p1:Int} {p2:Int} {r:Int} (h:Qix p1 p2=some r) : Qab Try.prog 93 [(I p1),(I p2)] (I r):=by
 refine gM Try.func93 10 Xle fun E hP hn hx=>?_
 unfold Qix at h
 rcases itS h with ⟨c3,h⟩ | ⟨c4,h⟩
 ·obtain rfl:=sj h
  exact gR hP hn [hT 4] [] .raw [(decide (p1 > p2))=true,(I p1)=(I p1),Qa8 (I p1)=true] ⟨c3,rfl,rfl,trivial⟩
 ·obtain rfl:=sj h
  exact gR hP hn [hF 4] [] .raw [(decide (p1 > p2))=false,(I p2)=(I p2),Qa8 (I p2)=true] ⟨c4,rfl,rfl,trivial⟩
noncomputable def Xhb:Code:=match Try.f136.body with | some c=>c | none=>.skip
noncomputable def Qhr (p1:Qa5) : Option Int:=
 if (p1.Kind == 5)=true then
  some p1.Obj
 else
  if (p1.Kind == 8)=true then
   some p1.Lock
  else
   some (-2)
theorem Qsv {p1:Qa5} {r:Int} (h:Qhr p1=some r) : Qab Try.prog 136 [(AV.agg ((o71 p1)))] (I r):=by
 refine gM Try.func136 13 Xhb fun E hP hn hx=>?_
 unfold Qhr at h
 let Z0:=p1.Kind == 5
 rcases itS h with ⟨c2,h⟩ | ⟨c3,h⟩
 ·obtain rfl:=sj h
  exact gR hP hn [hW 0 1001,hT 6] [] .raw [Z0=true,(I p1.Obj)=(I p1.Obj),Qa8 (I p1.Obj)=true] ⟨c2,rfl,rfl,trivial⟩
 ·rcases itS h with ⟨c4,h⟩ | ⟨c5,h⟩
  ·obtain rfl:=sj h
   exact gR hP hn [hW 0 1001,hF 6,hT 9] [] .raw [Z0=false,(p1.Kind == 8)=true,(I p1.Lock)=(I p1.Lock),Qa8 (I p1.Lock)=true] ⟨c3,c4,rfl,rfl,trivial⟩
  ·obtain rfl:=sj h
   exact gR hP hn [hW 0 1001,hF 6,hF 9] [] .raw [Z0=false,(p1.Kind == 8)=false,(I (-2))=(I (-2)),Qa8 (I (-2))=true] ⟨c3,c5,rfl,rfl,trivial⟩
noncomputable def Xh7:Code:=match Try.f137.body with | some c=>c | none=>.skip
noncomputable def Qhx (p1:Qa5) : Option Int:=
 if (p1.Kind == 4)=true then
  some p1.Obj
 else
  if (p1.Kind == 9)=true then
   some p1.Lock
  else
   some (-3)
theorem Qst {p1:Qa5} {r:Int} (h:Qhx p1=some r) : Qab Try.prog 137 [(AV.agg ((o71 p1)))] (I r):=by
 refine gM Try.func137 13 Xh7 fun E hP hn hx=>?_
 unfold Qhx at h
 let Z0:=p1.Kind == 4
 rcases itS h with ⟨c2,h⟩ | ⟨c3,h⟩
 ·obtain rfl:=sj h
  exact gR hP hn [hW 0 1001,hT 6] [] .raw [Z0=true,(I p1.Obj)=(I p1.Obj),Qa8 (I p1.Obj)=true] ⟨c2,rfl,rfl,trivial⟩
 ·rcases itS h with ⟨c4,h⟩ | ⟨c5,h⟩
  ·obtain rfl:=sj h
   exact gR hP hn [hW 0 1001,hF 6,hT 9] [] .raw [Z0=false,(p1.Kind == 9)=true,(I p1.Lock)=(I p1.Lock),Qa8 (I p1.Lock)=true] ⟨c3,c4,rfl,rfl,trivial⟩
  ·obtain rfl:=sj h
   exact gR hP hn [hW 0 1001,hF 6,hF 9] [] .raw [Z0=false,(p1.Kind == 9)=false,(I (-3))=(I (-3)),Qa8 (I (-3))=true] ⟨c3,c5,rfl,rfl,trivial⟩
noncomputable def Xcl:Code:=match Try.f103.body with | some c=>c | none=>.skip
noncomputable def Qfw  (p1:Qa5) (p2:Qa5) (v4:Bool) : Option Bool:=
 if v4=true then
  some true
 else
  if (p1.Kind == 6)=true then
   some (p1.Obj == p2.Thread)
  else
   if (p1.Kind == 11)=true then
    if (p2.Kind == 7)=true then
     some (p2.Obj == p1.Thread)
    else
     some false
   else
    if (p1.Kind == 10)=true then
     if (p2.Kind == 9)=true then
      some (p1.Lock == p2.Thread)
     else
      some false
    else
     some false
theorem Qk4 {E:Env} (hP:E.pk=pk0 Try.prog) (hn:E.n=53) (hx:FX E []) (p1:Qa5) (p2:Qa5)  (v4:Bool) (r:Bool) (h:Qfw p1 p2 v4=some r) : WAt E Xcl (FQ (Qdu Θ Try.f103.results.toList [] [] (B r) E)) [true,false,false,true] ⟨[(2,(AV.ptr 1 0 0)),(3,(AV.ptr 2 0 0)),(5,(B v4))],[(1,some ⟨71,5,[((o71 p1))]⟩),(2,some ⟨71,5,[((o71 p2))]⟩)],[1,2,JJ]⟩:=by
 unfold Qfw at h
 let Z0:=B true;let Z1:=B (p1.Obj == p2.Thread);let Z2:=p1.Kind == 11;let Z3:=B (p2.Obj == p1.Thread);let Z4:=B false;let Z5:=p1.Kind == 10;let Z6:=B (p1.Lock == p2.Thread)
 rcases itS h with ⟨c5,h⟩ | ⟨c6,h⟩
 ·obtain rfl:=sj h
  exact gR hP hn [hT 0] [] .raw [v4=true,Z0=Z0,Qa8 Z0=true] ⟨c5,rfl,rfl,trivial⟩
 ·rcases itS h with ⟨c7,h⟩ | ⟨c8,h⟩
  ·obtain rfl:=sj h
   exact gR hP hn [hF 0,hT 5] [] .raw [v4=false,(p1.Kind == 6)=true,Z1=Z1,Qa8 Z1=true] ⟨c6,c7,rfl,rfl,trivial⟩
  ·let P1:List Prop:=[v4=false,(p1.Kind == 6)=false]
   have AP1:Qb0 P1:=⟨c6,c8,trivial⟩
   rcases itS h with ⟨c9,h⟩ | ⟨c12,h⟩
   ·rcases itS h with ⟨c10,h⟩ | ⟨c11,h⟩
    ·obtain rfl:=sj h
     exact gR hP hn [hF 0,hF 5,hT 10,hO 14 Z0] [] .raw (P1++[Z2=true,(B (p2.Kind == 7))=Z0,Z3=Z3,Qa8 Z3=true]) (Qag AP1 ⟨c9,(Qb5 c10),rfl,rfl,trivial⟩)
    ·obtain rfl:=sj h
     exact gR hP hn [hF 0,hF 5,hT 10,hO 14 Z4] [] .raw (P1++[Z2=true,(B (p2.Kind == 7))=Z4,Z4=Z4,Qa8 Z4=true]) (Qag AP1 ⟨c9,(Qb5 c11),rfl,rfl,trivial⟩)
   ·rcases itS h with ⟨c13,h⟩ | ⟨c16,h⟩
    ·rcases itS h with ⟨c14,h⟩ | ⟨c15,h⟩
     ·obtain rfl:=sj h
      exact gR hP hn [hF 0,hF 5,hF 10,hT 15,hO 19 Z0] [] .raw (P1++[Z2=false,Z5=true,(B (p2.Kind == 9))=Z0,Z6=Z6,Qa8 Z6=true]) (Qag AP1 ⟨c12,c13,(Qb5 c14),rfl,rfl,trivial⟩)
     ·obtain rfl:=sj h
      exact gR hP hn [hF 0,hF 5,hF 10,hT 15,hO 19 Z4] [] .raw (P1++[Z2=false,Z5=true,(B (p2.Kind == 9))=Z4,Z4=Z4,Qa8 Z4=true]) (Qag AP1 ⟨c12,c13,(Qb5 c15),rfl,rfl,trivial⟩)
    ·obtain rfl:=sj h
     exact gR hP hn [hF 0,hF 5,hF 10,hF 15] [] .raw (P1++[Z2=false,Z5=false,Z4=Z4,Qa8 Z4=true]) (Qag AP1 ⟨c12,c16,rfl,rfl,trivial⟩)
noncomputable def Qht (p1:Qa5) (p2:Qa5) : Option Bool:=
 if (p1.Thread == p2.Thread)=true then
  Qfw p1 p2 (p1.Thread == p2.Thread)
 else
  Option.bind (Qhr p1) fun r18 =>
  Option.bind (Qhx p2) fun r19 =>
  Qfw p1 p2 (r18 == r19)
theorem Qss {p1:Qa5} {p2:Qa5} {r:Bool} (h:Qht p1 p2=some r) : Qab Try.prog 103 [(AV.agg ((o71 p1))),(AV.agg ((o71 p2)))] (B r):=by
 refine gM Try.func103 53 Xcl fun E hP hn hx=>?_
 unfold Qht at h
 let Z0:=p1.Thread == p2.Thread
 rcases itS h with ⟨c3,h⟩ | ⟨c17,h⟩
 ·exact gT hP hn hx [hW 0 1001,hW 1 1002,hT 9] [(1001,1),(1002,2)] [2,3,5] [] [Z0=true,Qa6 [(1001,1),(1002,2)] [((o71 p1))],Qa6 [(1001,1),(1002,2)] [((o71 p2))]] ⟨c3,(rok rfl),(rok rfl),trivial⟩ (Qk4 hP hn hx p1 p2 Z0 _ h)
 ·obtain ⟨r18,hr18,h⟩:=bnS h
  obtain ⟨r19,hr19,h⟩:=bnS h
  exact gT hP hn hx [hW 0 1001,hW 1 1002,hF 9,hh 11 (.callV [[]] (I r18)),hh 13 (.callV [[]] (I r19))] [(1001,1),(1002,2)] [2,3,5] [] [Z0=false,Qab Try.prog 136 [(AV.agg ((o71 p1)))] (I r18),Qa8 (I r18)=true,Qab Try.prog 137 [(AV.agg ((o71 p2)))] (I r19),Qa8 (I r19)=true,Qa6 [(1001,1),(1002,2)] [((o71 p1))],Qa6 [(1001,1),(1002,2)] [((o71 p2))]] ⟨c17,(Qsv hr18),rfl,(Qst hr19),rfl,(rok rfl),(rok rfl),trivial⟩ (Qk4 hP hn hx p1 p2 (r18 == r19) _ h)
noncomputable def Qrp:Code:=match Try.f92.body with | some c=>c | none=>.skip
noncomputable def Qbw (K0:(List (List Bool))→Int→Option (List (List Bool))) (K1:(List (List Bool))→Int→Option (List (List Bool))) (p1:(List Qa5)) (v4:Int) (v9:Int) (x18:(List Bool)) : Nat→(List (List Bool))→(List Bool)→Int→Option (List (List Bool))
 | 0,_,_,_=>none
 | n+1,a19,a20,v21 =>
 if (decide (v21<(x18.length:Int)))=true then
  Option.bind (rd a20 v21) fun x23 =>
  Option.bind (rd a19 v4) fun x24 =>
  Option.bind (rd a19 v9) fun x25 =>
  Option.bind (neI v9 v4) fun q26 =>
  Option.bind (rd x24 v21) fun x27 =>
  if x27=true then
   Qbw K0 K1 p1 v4 v9 x18 n (a19.set (Int.toNat v4) (x24.set (Int.toNat v21) true)) a20 (w64 (v21+1))
  else
   Qbw K0 K1 p1 v4 v9 x18 n (a19.set (Int.toNat v4) (x24.set (Int.toNat v21) x23)) a20 (w64 (v21+1))
 else
  Option.bind (rd a19 v9) fun x31 =>
  K1 (a19.set (Int.toNat v9) a20) (w64 (v9+1))
theorem Qpp {E:Env} (hP:E.pk=pk0 Try.prog) (hn:E.n=72) (hx:FX E []) (p1:(List Qa5)) (v4:Int) (v9:Int) (x18:(List Bool)) {K0:(List (List Bool))→Int→Option (List (List Bool))} (hK0 : ∀ (a3:(List (List Bool))) (v4:Int) (r:(List (List Bool))),K0 a3 v4=some r→WAt E Qrp (FQ (Qdu Θ Try.f92.results.toList [] [] (AV.own 107 1 (r.map Qf0)) E)) [true,true,false,true,false] ⟨[(0,(AV.ro 5 (p1.map o71))),(3,(AV.sl 1 0 (List.length (a3.map Qf0)))),(12,(I (p1.length:Int))),(13,(I v4))],[(1,some ⟨107,1,(a3.map Qf0)⟩)],[1,JJ]⟩) {K1:(List (List Bool))→Int→Option (List (List Bool))} (hK1 : ∀ (a8:(List (List Bool))) (v9:Int) (r:(List (List Bool))),K1 a8 v9=some r→WAt E Qrp (FQ (Qdu Θ Try.f92.results.toList [] [] (AV.own 107 1 (r.map Qf0)) E)) [true,true,false,true,false,false,true,true,false,false,true,true,true,false] ⟨[(0,(AV.ro 5 (p1.map o71))),(3,(AV.sl 1 0 (List.length (a8.map Qf0)))),(4,(I v4)),(5,(I v9)),(12,(I (p1.length:Int))),(13,(I v4))],[(1,some ⟨107,1,(a8.map Qf0)⟩)],[1,JJ]⟩) : ∀ (n:Nat) (a19:(List (List Bool))) (a20:(List Bool)) (v21:Int) (r:(List (List Bool))),Qbw K0 K1 p1 v4 v9 x18 n a19 a20 v21=some r→WAt E Qrp (FQ (Qdu Θ Try.f92.results.toList [] [] (AV.own 107 1 (r.map Qf0)) E)) [true,true,false,true,false,false,true,true,false,false,true,true,true,false,false,true,false,false,true,true,true,false] ⟨[(0,(AV.ro 5 (p1.map o71))),(3,(AV.sl 1 0 (List.length ((a19.map Qf0).set (Int.toNat v9) [(AV.sl 1002 0 (List.length (a20.map o4)))])))),(4,(I v4)),(5,(I v9)),(12,(I (p1.length:Int))),(13,(I v4)),(46,(AV.sl 1002 0 (List.length (a20.map o4)))),(47,(I (x18.length:Int))),(48,(I v21))],[(1,some ⟨107,1,((a19.map Qf0).set (Int.toNat v9) [(AV.sl 1002 0 (List.length (a20.map o4)))])⟩),(1002,some ⟨4,1,(a20.map o4)⟩)],[1,1002,JJ]⟩:=by
 intro n
 induction n with
 | zero=>intro a19 a20 v21 r h;simp only [Qbw] at h;cases h
 | succ n ih =>
  intro a19 a20 v21 r h
  simp only [Qbw] at h
  let Z3:=a20.map o4;let Z4:=AV.sl 1002 0 Z3.length;let Z5:=(a19.map Qf0).set v9.toNat [Z4];let Z9:=(decide (v21<(x18.length:Int)));let Z10:=((Z5.length:Nat) : Int);let Z20:=a19.set v9.toNat a20;let Z21:=Z20.map Qf0
  rcases itS h with ⟨c22,h⟩ | ⟨c30,h⟩
  ·obtain ⟨x23,hx23,h⟩:=bnS h
   obtain ⟨x24,hx24,h⟩:=bnS h
   obtain ⟨x25,hx25,h⟩:=bnS h
   obtain ⟨q26,hq26,h⟩:=bnS h
   obtain ⟨x27,hx27,h⟩:=bnS h
   let Z0:=[(B x23)];let Z1:=x24.map o4;let Z2:=[(AV.own 4 1 Z1)];let Z6:=AV.sl 1001 0 Z1.length;let Z7:=Z5.set v4.toNat [Z6];let Z8:=[(B x27)];let Z11:=((Z1.length:Nat) : Int);let Z12:=x24.set v21.toNat true;let Z13:=Z12.map o4;let Z14:=a19.set v4.toNat Z12;let Z15:=(Z14.map Qf0).set v9.toNat [Z4];let Z16:=x24.set v21.toNat x23;let Z17:=Z16.map o4;let Z18:=a19.set v4.toNat Z16;let Z19:=(Z18.map Qf0).set v9.toNat [Z4]
   let H1:List Hn:=[hT 1,hh 4 (.row Z0),hh 7 (.unpack 1 1001 v4.toNat 0 Z2 4 1 Z1 Z7),hh 10 (.row [Z6]),hh 15 (.row [Z6]),hh 18 (.row Z8)]
   let P2:List Prop:=[Z9=true,(0:Int)≤v21,v21<((Z3.length:Nat) : Int),Z3[v21.toNat]? = some Z0,Z5[v4.toNat]? = some Z2,Z2[0]? = some (AV.own 4 1 Z1),0<1,Z5.set v4.toNat (Z2.set 0 Z6)=Z7,(0:Int)≤v4,v4<Z10,Z7[v4.toNat]? = some [Z6],(0:Int)≤v4,v4<Z10,Z7[v4.toNat]? = some [Z6],(0:Int)≤v21,v21<Z11,Z1[v21.toNat]? = some Z8]
   have AP2:Qb0 P2:=⟨c22,(rd0 hx23),(rdL o4 hx23),(rdM o4 hx23),(Xad (neN hq26 (rd0 hx25) (rd0 hx24)) (rdM Qf0 hx24)),rfl,(by decide),rfl,(rd0 hx24),(Qn1 Qf0 hx24),(Qcl (Xad (neN hq26 (rd0 hx25) (rd0 hx24)) (rdM Qf0 hx24))),(rd0 hx24),(Qn1 Qf0 hx24),(Qcl (Xad (neN hq26 (rd0 hx25) (rd0 hx24)) (rdM Qf0 hx24))),(rd0 hx27),(rdL o4 hx27),(rdM o4 hx27),trivial⟩
   rcases itS h with ⟨c28,h⟩ | ⟨c29,h⟩
   ·exact gT hP hn hx (H1++[hO 19 (B true),hh 23 (.sto Z8 Z13),hh 26 (.pack 1 1001 v4.toNat 0 [Z6] Z15),hh 26 (.slen 3 Z15.length)]) [(1,1),(1002,1002)] [0,3,4,5,12,13,46,47,48] [] (P2++[(B x27)=(B true),(0:Int)≤v21,v21<Z11,Z1[v21.toNat]? = some Z8,Z1.set v21.toNat (wr Z8 0 [(B true)])=Z13,[(B true)].length=1,0 + [(B true)].length≤Z8.length,Z7[v4.toNat]? = some [Z6],[Z6][0]? = some (AV.sl 1001 0 Z13.length),Qa1 Z13=true,Z7.set v4.toNat ([Z6].set 0 (AV.own 4 1 Z13))=Z15,Z5.length=Z15.length,Qa6 [(1,1),(1002,1002)] Z15,Qa6 [(1,1),(1002,1002)] Z3]) (Qag AP2 ⟨(Qb5 c28),(rd0 hx27),(rdL o4 hx27),(rdM o4 hx27),(Qyf o4),rfl,leB,(Qcl (Xad (neN hq26 (rd0 hx25) (rd0 hx24)) (rdM Qf0 hx24))),(pkS lnq),(Qa7 t4),(Xit Qf0 (neN hq26 (rd0 hx25) (rd0 hx24))),lnq,(Qg3 (rok (Qa7 Qy3)) rfl),(rok (Qa7 t4)),trivial⟩) (ih Z14 a20 (w64 (v21+1)) _ h)
   ·exact gT hP hn hx (H1++[hO 19 (B false),hh 23 (.sto Z8 Z17),hh 26 (.pack 1 1001 v4.toNat 0 [Z6] Z19),hh 26 (.slen 3 Z19.length)]) [(1,1),(1002,1002)] [0,3,4,5,12,13,46,47,48] [] (P2++[(B x27)=(B false),(0:Int)≤v21,v21<Z11,Z1[v21.toNat]? = some Z8,Z1.set v21.toNat (wr Z8 0 Z0)=Z17,Z0.length=1,0+Z0.length≤Z8.length,Z7[v4.toNat]? = some [Z6],[Z6][0]? = some (AV.sl 1001 0 Z17.length),Qa1 Z17=true,Z7.set v4.toNat ([Z6].set 0 (AV.own 4 1 Z17))=Z19,Z5.length=Z19.length,Qa6 [(1,1),(1002,1002)] Z19,Qa6 [(1,1),(1002,1002)] Z3]) (Qag AP2 ⟨(Qb5 c29),(rd0 hx27),(rdL o4 hx27),(rdM o4 hx27),(Qyf o4),rfl,leB,(Qcl (Xad (neN hq26 (rd0 hx25) (rd0 hx24)) (rdM Qf0 hx24))),(pkS lnq),(Qa7 t4),(Xit Qf0 (neN hq26 (rd0 hx25) (rd0 hx24))),lnq,(Qg3 (rok (Qa7 Qy3)) rfl),(rok (Qa7 t4)),trivial⟩) (ih Z18 a20 (w64 (v21+1)) _ h)
  ·obtain ⟨x31,hx31,h⟩:=bnS h
   exact gT hP hn hx [hF 1,hh 5 (.pack 1 1002 v9.toNat 0 [Z4] Z21),hh 5 (.slen 3 Z21.length)] [(1,1)] [0,3,4,5,12,13] [] [Z9=false,Z5[v9.toNat]? = some [Z4],[Z4][0]? = some Z4,Qa1 Z3=true,Z5.set v9.toNat ([Z4].set 0 (AV.own 4 1 Z3))=Z21,Z5.length=Z21.length,Qa6 [(1,1)] Z21] ⟨c30,(Qcl (rdM Qf0 hx31)),rfl,(Qa7 t4),(Xe9 Qf0),lnq,(rok (Qa7 Qy3)),trivial⟩ (hK1 Z20 (w64 (v9+1)) _ h)
noncomputable def Qbv (K0:(List (List Bool))→Int→Option (List (List Bool))) (p1:(List Qa5)) (v4:Int) : Nat→(List (List Bool))→Int→Option (List (List Bool))
 | 0,_,_=>none
 | n+1,a8,v9 =>
 if (decide (v9<v4))=true then
  Option.bind (rd p1 v9) fun x11 =>
  Option.bind (rd p1 v4) fun x12 =>
  Option.bind (Qht x11 x12) fun r13 =>
  if (!r13)=true then
   Qbv K0 p1 v4 n a8 (w64 (v9+1))
  else
   Option.bind (rd a8 v4) fun x16 =>
   Option.bind (rd x16 v9) fun x17 =>
   Option.bind (rd (a8.set (Int.toNat v4) (x16.set (Int.toNat v9) true)) v9) fun x18 =>
   Qbw K0 (Qbv K0 p1 v4 n) p1 v4 v9 x18 FU (a8.set (Int.toNat v4) (x16.set (Int.toNat v9) true)) x18 0
 else
  K0 a8 (w64 (v4+1))
theorem Qph {E:Env} (hP:E.pk=pk0 Try.prog) (hn:E.n=72) (hx:FX E []) (p1:(List Qa5)) (v4:Int) {K0:(List (List Bool))→Int→Option (List (List Bool))} (hK0 : ∀ (a3:(List (List Bool))) (v4:Int) (r:(List (List Bool))),K0 a3 v4=some r→WAt E Qrp (FQ (Qdu Θ Try.f92.results.toList [] [] (AV.own 107 1 (r.map Qf0)) E)) [true,true,false,true,false] ⟨[(0,(AV.ro 5 (p1.map o71))),(3,(AV.sl 1 0 (List.length (a3.map Qf0)))),(12,(I (p1.length:Int))),(13,(I v4))],[(1,some ⟨107,1,(a3.map Qf0)⟩)],[1,JJ]⟩) : ∀ (n:Nat) (a8:(List (List Bool))) (v9:Int) (r:(List (List Bool))),Qbv K0 p1 v4 n a8 v9=some r→WAt E Qrp (FQ (Qdu Θ Try.f92.results.toList [] [] (AV.own 107 1 (r.map Qf0)) E)) [true,true,false,true,false,false,true,true,false,false,true,true,true,false] ⟨[(0,(AV.ro 5 (p1.map o71))),(3,(AV.sl 1 0 (List.length (a8.map Qf0)))),(4,(I v4)),(5,(I v9)),(12,(I (p1.length:Int))),(13,(I v4))],[(1,some ⟨107,1,(a8.map Qf0)⟩)],[1,JJ]⟩:=by
 intro n
 induction n with
 | zero=>intro a8 v9 r h;simp only [Qbv] at h;cases h
 | succ n ih =>
  intro a8 v9 r h
  simp only [Qbv] at h
  let Z0:=a8.map Qf0
  rcases itS h with ⟨c10,h⟩ | ⟨c32,h⟩
  ·obtain ⟨x11,hx11,h⟩:=bnS h
   obtain ⟨x12,hx12,h⟩:=bnS h
   obtain ⟨r13,hr13,h⟩:=bnS h
   let H1:List Hn:=[hT 3,hh 6 (.row (o71 x11)),hh 10 (.row (o71 x12)),hh 12 (.callV [[],[]] (B r13))]
   let P2:List Prop:=[(decide (v9<v4))=true,(0:Int)≤v9,(p1.map o71)[v9.toNat]? = some (o71 x11),(0:Int)≤v4,(p1.map o71)[v4.toNat]? = some (o71 x12),Qab Try.prog 103 [(AV.agg ((o71 x11))),(AV.agg ((o71 x12)))] (B r13),Qa8 (B r13)=true]
   have AP2:Qb0 P2:=⟨c10,(rd0 hx11),(rdM o71 hx11),(rd0 hx12),(rdM o71 hx12),(Qss hr13),rfl,trivial⟩
   rcases itS h with ⟨c14,h⟩ | ⟨c15,h⟩
   ·exact gT hP hn hx (H1++[hT 14]) [(1,1)] [0,3,4,5,12,13] [] (P2++[(!r13)=true,Qa6 [(1,1)] Z0]) (Qag AP2 ⟨c14,(rok (Qa7 Qy3)),trivial⟩) (ih a8 (w64 (v9+1)) _ h)
   ·obtain ⟨x16,hx16,h⟩:=bnS h
    obtain ⟨x17,hx17,h⟩:=bnS h
    obtain ⟨x18,hx18,h⟩:=bnS h
    exact (let Z1:=x16.map o4;let Z2:=[(AV.own 4 1 Z1)];let Z3:=AV.sl 1001 0 Z1.length;let Z4:=Z0.set v4.toNat [Z3];let Z5:=x16.set v9.toNat true;let Z6:=Z5.map o4;let Z7:=(a8.set v4.toNat Z5).map Qf0;let Z8:=x18.map o4;let Z9:=[(AV.own 4 1 Z8)];let Z10:=AV.sl 1002 0 Z8.length;let Z11:=Z7.set v9.toNat [Z10];let Z12:=(I (x18.length:Int));gT hP hn hx (H1++[hF 14,hh 18 (.unpack 1 1001 v4.toNat 0 Z2 4 1 Z1 Z4),hh 18 (.row [Z3]),hh 21 (.sto [(B x17)] Z6),hh 22 (.slen 3 Z4.length),hh 24 (.pack 1 1001 v4.toNat 0 [Z3] Z7),hh 24 (.slen 43 Z7.length),hh 25 (.unpack 1 1002 v9.toNat 0 Z9 4 1 Z8 Z11),hh 25 (.row [Z10]),hO 26 Z12,hh 28 (.slen 3 Z11.length)]) [(1,1),(1002,1002)] [0,3,4,5,12,13,46,47,48] [] (P2++[(!r13)=false,(0:Int)≤v4,v4<((Z0.length:Nat) : Int),Z0[v4.toNat]? = some Z2,Z2[0]? = some (AV.own 4 1 Z1),0<1,Z0.set v4.toNat (Z2.set 0 Z3)=Z4,Z4[v4.toNat]? = some [Z3],(0:Int)≤v9,v9<((Z1.length:Nat) : Int),Z1[v9.toNat]? = some [(B x17)],Z1.set v9.toNat (wr [(B x17)] 0 [(B true)])=Z6,[(B true)].length=1,0 + [(B true)].length≤[(B x17)].length,Z0.length=Z4.length,Z4[v4.toNat]? = some [Z3],[Z3][0]? = some (AV.sl 1001 0 Z6.length),Qa1 Z6=true,Z4.set v4.toNat ([Z3].set 0 (AV.own 4 1 Z6))=Z7,Z4.length=Z7.length,(0:Int)≤v9,v9<((Z7.length:Nat) : Int),Z7[v9.toNat]? = some Z9,Z9[0]? = some (AV.own 4 1 Z8),0<1,Z7.set v9.toNat (Z9.set 0 Z10)=Z11,Z11[v9.toNat]? = some [Z10],AV.lit (.int .i64 ((Z8.length:Nat) : Int))=Z12,Z4.length=Z11.length,Qa6 [(1,1),(1002,1002)] Z11,Qa6 [(1,1),(1002,1002)] Z8]) (Qag AP2 ⟨c15,(rd0 hx16),(rdL Qf0 hx16),(rdM Qf0 hx16),rfl,(by decide),rfl,(Qcl (rdM Qf0 hx16)),(rd0 hx17),(rdL o4 hx17),(rdM o4 hx17),(Qyf o4),rfl,leB,lnq,(Qcl (rdM Qf0 hx16)),(pkS lnq),(Qa7 t4),(Xe9 Qf0),lnq,(rd0 hx18),(rdL Qf0 hx18),(rdM Qf0 hx18),rfl,(by decide),rfl,(Qcl (rdM Qf0 hx18)),(Qfn o4),lnq,(Qg3 (rok (Qa7 Qy3)) rfl),(rok (Qa7 t4)),trivial⟩) (Qpp hP hn hx p1 v4 v9 x18 hK0 ih FU (a8.set v4.toNat Z5) x18 0 _ h))
  ·exact gT hP hn hx [hF 3] [(1,1)] [0,3,12,13] [] [(decide (v9<v4))=false,Qa6 [(1,1)] Z0] ⟨c32,(rok (Qa7 Qy3)),trivial⟩ (hK0 a8 (w64 (v4+1)) _ h)
noncomputable def Qcu  (p1:(List Qa5)) : Nat→(List (List Bool))→Int→Option (List (List Bool))
 | 0,_,_=>none
 | n+1,a3,v4 =>
 if (decide (v4<(p1.length:Int)))=true then
  Option.bind (mk false (p1.length:Int)) fun l6 =>
  Option.bind (rd a3 v4) fun x7 =>
  Qbv (Qcu p1 n) p1 v4 FU (a3.set (Int.toNat v4) l6) 0
 else
  some a3
theorem Qp9 {E:Env} (hP:E.pk=pk0 Try.prog) (hn:E.n=72) (hx:FX E []) (p1:(List Qa5))  : ∀ (n:Nat) (a3:(List (List Bool))) (v4:Int) (r:(List (List Bool))),Qcu p1 n a3 v4=some r→WAt E Qrp (FQ (Qdu Θ Try.f92.results.toList [] [] (AV.own 107 1 (r.map Qf0)) E)) [true,true,false,true,false] ⟨[(0,(AV.ro 5 (p1.map o71))),(3,(AV.sl 1 0 (List.length (a3.map Qf0)))),(12,(I (p1.length:Int))),(13,(I v4))],[(1,some ⟨107,1,(a3.map Qf0)⟩)],[1,JJ]⟩:=by
 intro n
 induction n with
 | zero=>intro a3 v4 r h;simp only [Qcu] at h;cases h
 | succ n ih =>
  intro a3 v4 r h
  simp only [Qcu] at h
  let Z0:=(p1.length:Int);let Z4:=a3.map Qf0
  rcases itS h with ⟨c5,h⟩ | ⟨c33,h⟩
  ·obtain ⟨l6,hl6,h⟩:=bnS h
   obtain ⟨x7,hx7,h⟩:=bnS h
   exact (let Z1:=l6.map o4;let Z2:=AV.sl 1001 0 Z1.length;let Z3:=[(AV.own 4 1 (x7.map o4))];let Z5:=Z4.set v4.toNat [Z2];let Z6:=(a3.set v4.toNat l6).map Qf0;gT hP hn hx [hT 1,hO 7 (I Z0),⟨8,.nw 1001 Z1,some Z2⟩,hh 10 (.sto Z3 Z5),hh 11 (.pack 1 1001 v4.toNat 0 [Z2] Z6),hh 12 (.slen 3 Z6.length)] [(1,1)] [0,3,4,5,12,13] [] [(decide (v4<Z0))=true,AV.lit (.int .i64 (((p1.map o71).length:Nat) : Int))=(I Z0),List.replicate Z0.toNat [.lit (.bool false)]=Z1,AV.sl 1001 0 Z0.toNat=Z2,Z0=Z0,(0:Int)≤Z0,Z0 * ((1:Nat) : Int)≤140737488355328,Z0≤140737488355328,(0:Int)≤v4,v4<((Z4.length:Nat) : Int),Z4[v4.toNat]? = some Z3,Z4.set v4.toNat (wr Z3 0 [Z2])=Z5,[Z2].length=1,0 + [Z2].length≤Z3.length,Z5[v4.toNat]? = some [Z2],[Z2][0]? = some Z2,Qa1 Z1=true,Z5.set v4.toNat ([Z2].set 0 (AV.own 4 1 Z1))=Z6,Z4.length=Z6.length,Qa6 [(1,1)] Z6] ⟨c5,(Qfn o71),(mkM o4 hl6),(mkS o4 hl6),rfl,(mk0 hl6),(mkB hl6 (by decide)),(mkC hl6),(rd0 hx7),(rdL Qf0 hx7),(rdM Qf0 hx7),rfl,rfl,leB,(Qcl (rdM Qf0 hx7)),rfl,(Qa7 t4),(Xe9 Qf0),lnq,(rok (Qa7 Qy3)),trivial⟩ (Qph hP hn hx p1 v4 ih FU (a3.set v4.toNat l6) 0 _ h))
  ·obtain rfl:=sj h
   exact gR hP hn [hF 1] [] .own [(decide (v4<Z0))=false,Qa1 (Z4.take Z4.length)=true,Z4.take Z4.length=Z4,Qa4 Z4=true] ⟨c33,(Qay Qy3),Qax,(Qaa n107),trivial⟩
noncomputable def Qhn (p1:(List Qa5)) : Option (List (List Bool)):=
 Option.bind (mk [] (p1.length:Int)) fun l2 =>
 Qcu p1 FU l2 0
theorem Qt1 {p1:(List Qa5)} {r:(List (List Bool))} (h:Qhn p1=some r) : Qab Try.prog 92 [(AV.ro 5 (p1.map o71))] (AV.own 107 1 (r.map Qf0)):=by
 refine gM Try.func92 72 Qrp fun E hP hn hx=>?_
 unfold Qhn at h
 obtain ⟨l2,hl2,h⟩:=bnS h
 exact (let Z0:=(p1.length:Int);let Z1:=l2.map Qf0;let Z2:=AV.sl 1001 0 Z1.length;let Z3:=(((p1.map o71).length:Nat) : Int);gT hP hn hx [hO 2 (I Z0),⟨3,.nw 1001 (List.replicate Z0.toNat [AV.lit (.slice none 0 0)]),some Z2⟩,hh 4 (.own0 1001 Z0.toNat [] [] 4 1 Z1),hO 6 (I Z0)] [(1001,1)] [0,3,12,13] [] [AV.lit (.int .i64 Z3)=(I Z0),List.replicate Z0.toNat [.lit (.slice none 0 0)]=(List.replicate Z0.toNat [AV.lit (.slice none 0 0)]),AV.sl 1001 0 Z0.toNat=Z2,Z0=Z0,(0:Int)≤Z0,Z0 * ((24:Nat) : Int)≤140737488355328,Z0≤140737488355328,(List.replicate Z0.toNat [AV.lit (.slice none 0 0)])=List.replicate Z0.toNat ([]++AV.lit (.slice none 0 0) :: []),List.replicate Z0.toNat ([]++AV.own 4 1 [] :: [])=Z1,AV.lit (.int .i64 Z3)=(I Z0),Qa6 [(1001,1)] Z1] ⟨(Qfn o71),rfl,(mkS Qf0 hl2),rfl,(mk0 hl2),(mkB hl2 (by decide)),(mkC hl2),rfl,(mkM Qf0 hl2),(Qfn o71),(rok (Qa7 Qy3)),trivial⟩ (Qp9 hP hn hx p1 FU l2 0 _ h))
noncomputable def Xdj:Code:=match Try.f105.body with | some c=>c | none=>.skip
noncomputable def Qce  (p1:Qa5)  : Option Bool:=
 Option.bind (Qbu p1.Thread 0 4) fun r9 =>
 if r9=true then
  Option.bind (Qbu p1.Kind 1 12) fun r11 =>
  if r11=true then
   Option.bind (Qbu p1.Obj (-1) 99) fun r13 =>
   if r13=true then
    Option.bind (Qbu p1.Lock (-1) 99) fun r15 =>
    if r15=true then
     Option.bind (Qbu p1.Pc 0 99) fun r17 =>
     some r17
    else
     some false
   else
    some false
  else
   some false
 else
  some false
theorem Qdg {E:Env} (hP:E.pk=pk0 Try.prog) (hn:E.n=49) (hx:FX E []) (p1:Qa5)   (r:Bool) (h:Qce p1  = some r) : WAt E Xdj (FQ (Qdu Θ Try.f105.results.toList [] [] (B r) E)) [true,false,true,true] ⟨[(1,(AV.ptr 1 0 0))],[(1,some ⟨71,5,[((o71 p1))]⟩)],[1,JJ]⟩:=by
 unfold Qce at h
 obtain ⟨r9,hr9,h⟩:=bnS h
 let Z0:=B true;let Z1:=B false
 let H1:List Hn:=[hh 2 (.callV [] (B r9))]
 let P2:List Prop:=[Qab Try.prog 81 [(I p1.Thread),(I 0),(I 4)] (B r9),Qa8 (B r9)=true]
 have AP2:Qb0 P2:=⟨(Qbj hr9),rfl,trivial⟩
 rcases itS h with ⟨c10,h⟩ | ⟨c21,h⟩
 ·obtain ⟨r11,hr11,h⟩:=bnS h
  let H3:List Hn:=H1++[hO 3 Z0,hh 6 (.callV [] (B r11))]
  let P4:List Prop:=P2++[(B r9)=Z0,Qab Try.prog 81 [(I p1.Kind),(I 1),(I 12)] (B r11),Qa8 (B r11)=true]
  have AP4:Qb0 P4:=Qag AP2 ⟨(Qb5 c10),(Qbj hr11),rfl,trivial⟩
  rcases itS h with ⟨c12,h⟩ | ⟨c20,h⟩
  ·obtain ⟨r13,hr13,h⟩:=bnS h
   let H5:List Hn:=H3++[hO 8 Z0,hh 11 (.callV [] (B r13))]
   let P6:List Prop:=P4++[(B r11)=Z0,Qab Try.prog 81 [(I p1.Obj),(I (-1)),(I 99)] (B r13),Qa8 (B r13)=true]
   have AP6:Qb0 P6:=Qag AP4 ⟨(Qb5 c12),(Qbj hr13),rfl,trivial⟩
   rcases itS h with ⟨c14,h⟩ | ⟨c19,h⟩
   ·obtain ⟨r15,hr15,h⟩:=bnS h
    let P7:List Prop:=P6++[(B r13)=Z0,Qab Try.prog 81 [(I p1.Lock),(I (-1)),(I 99)] (B r15),Qa8 (B r15)=true]
    have AP7:Qb0 P7:=Qag AP6 ⟨(Qb5 c14),(Qbj hr15),rfl,trivial⟩
    rcases itS h with ⟨c16,h⟩ | ⟨c18,h⟩
    ·obtain ⟨r17,hr17,h⟩:=bnS h
     obtain rfl:=sj h
     exact gR hP hn (H5++[hO 13 Z0,hh 16 (.callV [] (B r15)),hO 18 Z0,hh 21 (.callV [] (B r17))]) [] .raw (P7++[(B r15)=Z0,Qab Try.prog 81 [(I p1.Pc),(I 0),(I 99)] (B r17),Qa8 (B r17)=true,(B r17)=(B r17),Qa8 (B r17)=true]) (Qag AP7 ⟨(Qb5 c16),(Qbj hr17),rfl,rfl,rfl,trivial⟩)
    ·obtain rfl:=sj h
     exact gR hP hn (H5++[hO 13 Z0,hh 16 (.callV [] (B r15)),hO 18 Z1]) [] .raw (P7++[(B r15)=Z1,Z1=Z1,Qa8 Z1=true]) (Qag AP7 ⟨(Qb5 c18),rfl,rfl,trivial⟩)
   ·obtain rfl:=sj h
    exact gR hP hn (H5++[hO 13 Z1]) [] .raw (P6++[(B r13)=Z1,Z1=Z1,Qa8 Z1=true]) (Qag AP6 ⟨(Qb5 c19),rfl,rfl,trivial⟩)
  ·obtain rfl:=sj h
   exact gR hP hn (H3++[hO 8 Z1]) [] .raw (P4++[(B r11)=Z1,Z1=Z1,Qa8 Z1=true]) (Qag AP4 ⟨(Qb5 c20),rfl,rfl,trivial⟩)
 ·obtain rfl:=sj h
  exact gR hP hn (H1++[hO 3 Z1]) [] .raw (P2++[(B r9)=Z1,Z1=Z1,Qa8 Z1=true]) (Qag AP2 ⟨(Qb5 c21),rfl,rfl,trivial⟩)
noncomputable def Qhz (p1:Qa5) : Option Bool:=
 Option.bind (Qbu p1.Kind 2 10) fun r2 =>
 if r2=true then
  if (decide (p1.Obj<0))=true then
   some false
  else
   if (p1.Kind == 8)=true then
    if (decide (p1.Lock<0))=true then
     some false
    else
     Qce p1
   else
    if (p1.Kind == 9)=true then
     if (decide (p1.Lock<0))=true then
      some false
     else
      Qce p1
    else
     Qce p1
 else
  if (p1.Kind == 8)=true then
   if (decide (p1.Lock<0))=true then
    some false
   else
    Qce p1
  else
   if (p1.Kind == 9)=true then
    if (decide (p1.Lock<0))=true then
     some false
    else
     Qce p1
   else
    Qce p1
theorem Qsp {p1:Qa5} {r:Bool} (h:Qhz p1=some r) : Qab Try.prog 105 [(AV.agg ((o71 p1)))] (B r):=by
 refine gM Try.func105 49 Xdj fun E hP hn hx=>?_
 unfold Qhz at h
 obtain ⟨r2,hr2,h⟩:=bnS h
 let Z0:=B true;let Z1:=B (decide (p1.Obj<0));let Z2:=B false;let Z3:=B (p1.Kind == 8);let Z4:=decide (p1.Lock<0);let Z5:=o71 p1;let Z6:=B (p1.Kind == 9)
 let H1:List Hn:=[hW 0 1001,hh 4 (.callV [] (B r2))]
 let P2:List Prop:=[Qab Try.prog 81 [(I p1.Kind),(I 2),(I 10)] (B r2),Qa8 (B r2)=true]
 have AP2:Qb0 P2:=⟨(Qbj hr2),rfl,trivial⟩
 rcases itS h with ⟨c3,h⟩ | ⟨c27,h⟩
 ·let H3:List Hn:=H1++[hO 5 Z0]
  let P4:List Prop:=P2++[(B r2)=Z0]
  have AP4:Qb0 P4:=Qag AP2 ⟨(Qb5 c3),trivial⟩
  rcases itS h with ⟨c4,h⟩ | ⟨c5,h⟩
  ·obtain rfl:=sj h
   exact gR hP hn (H3++[hO 10 Z0]) [] .raw (P4++[Z1=Z0,Z2=Z2,Qa8 Z2=true]) (Qag AP4 ⟨(Qb5 c4),rfl,rfl,trivial⟩)
  ·let P5:List Prop:=P4++[Z1=Z2]
   have AP5:Qb0 P5:=Qag AP4 ⟨(Qb5 c5),trivial⟩
   rcases itS h with ⟨c6,h⟩ | ⟨c22,h⟩
   ·rcases itS h with ⟨c7,h⟩ | ⟨c8,h⟩
    ·obtain rfl:=sj h
     exact gR hP hn (H3++[hO 10 Z2,hO 14 Z0,hT 25]) [] .raw (P5++[Z3=Z0,Z4=true,Z2=Z2,Qa8 Z2=true]) (Qag AP5 ⟨(Qb5 c6),c7,rfl,rfl,trivial⟩)
    ·exact gT hP hn hx (H3++[hO 10 Z2,hO 14 Z0,hF 25]) [(1001,1)] [1] [] (P5++[Z3=Z0,Z4=false,Qa6 [(1001,1)] [Z5]]) (Qag AP5 ⟨(Qb5 c6),c8,(rok rfl),trivial⟩) (Qdg hP hn hx p1  _ h)
   ·rcases itS h with ⟨c23,h⟩ | ⟨c26,h⟩
    ·rcases itS h with ⟨c24,h⟩ | ⟨c25,h⟩
     ·obtain rfl:=sj h
      exact gR hP hn (H3++[hO 10 Z2,hO 14 Z2,hO 19 Z0,hT 25]) [] .raw (P5++[Z3=Z2,Z6=Z0,Z4=true,Z2=Z2,Qa8 Z2=true]) (Qag AP5 ⟨(Qb5 c22),(Qb5 c23),c24,rfl,rfl,trivial⟩)
     ·exact gT hP hn hx (H3++[hO 10 Z2,hO 14 Z2,hO 19 Z0,hF 25]) [(1001,1)] [1] [] (P5++[Z3=Z2,Z6=Z0,Z4=false,Qa6 [(1001,1)] [Z5]]) (Qag AP5 ⟨(Qb5 c22),(Qb5 c23),c25,(rok rfl),trivial⟩) (Qdg hP hn hx p1  _ h)
    ·exact gT hP hn hx (H3++[hO 10 Z2,hO 14 Z2,hO 19 Z2]) [(1001,1)] [1] [] (P5++[Z3=Z2,Z6=Z2,Qa6 [(1001,1)] [Z5]]) (Qag AP5 ⟨(Qb5 c22),(Qb5 c26),(rok rfl),trivial⟩) (Qdg hP hn hx p1  _ h)
 ·let P6:List Prop:=P2++[(B r2)=Z2]
  have AP6:Qb0 P6:=Qag AP2 ⟨(Qb5 c27),trivial⟩
  rcases itS h with ⟨c28,h⟩ | ⟨c31,h⟩
  ·rcases itS h with ⟨c29,h⟩ | ⟨c30,h⟩
   ·obtain rfl:=sj h
    exact gR hP hn (H1++[hO 5 Z2,hO 14 Z0,hT 25]) [] .raw (P6++[Z3=Z0,Z4=true,Z2=Z2,Qa8 Z2=true]) (Qag AP6 ⟨(Qb5 c28),c29,rfl,rfl,trivial⟩)
   ·exact gT hP hn hx (H1++[hO 5 Z2,hO 14 Z0,hF 25]) [(1001,1)] [1] [] (P6++[Z3=Z0,Z4=false,Qa6 [(1001,1)] [Z5]]) (Qag AP6 ⟨(Qb5 c28),c30,(rok rfl),trivial⟩) (Qdg hP hn hx p1  _ h)
  ·rcases itS h with ⟨c32,h⟩ | ⟨c35,h⟩
   ·rcases itS h with ⟨c33,h⟩ | ⟨c34,h⟩
    ·obtain rfl:=sj h
     exact gR hP hn (H1++[hO 5 Z2,hO 14 Z2,hO 19 Z0,hT 25]) [] .raw (P6++[Z3=Z2,Z6=Z0,Z4=true,Z2=Z2,Qa8 Z2=true]) (Qag AP6 ⟨(Qb5 c31),(Qb5 c32),c33,rfl,rfl,trivial⟩)
    ·exact gT hP hn hx (H1++[hO 5 Z2,hO 14 Z2,hO 19 Z0,hF 25]) [(1001,1)] [1] [] (P6++[Z3=Z2,Z6=Z0,Z4=false,Qa6 [(1001,1)] [Z5]]) (Qag AP6 ⟨(Qb5 c31),(Qb5 c32),c34,(rok rfl),trivial⟩) (Qdg hP hn hx p1  _ h)
   ·exact gT hP hn hx (H1++[hO 5 Z2,hO 14 Z2,hO 19 Z2]) [(1001,1)] [1] [] (P6++[Z3=Z2,Z6=Z2,Qa6 [(1001,1)] [Z5]]) (Qag AP6 ⟨(Qb5 c31),(Qb5 c35),(rok rfl),trivial⟩) (Qdg hP hn hx p1  _ h)
noncomputable def Xgp:Code:=match Try.f61.body with | some c=>c | none=>.skip
noncomputable def Qdq  (p1:(List Qa5)) : Nat→Int→Option Bool
 | 0,_=>none
 | n+1,v2 =>
 if (decide (v2<(p1.length:Int)))=true then
  Option.bind (rd p1 v2) fun x4 =>
  Option.bind (Qhz x4) fun r5 =>
  if (!r5)=true then
   some false
  else
   Qdq p1 n (w64 (v2+1))
 else
  some (decide ((p1.length:Int)≤200))
theorem Qpr {E:Env} (hP:E.pk=pk0 Try.prog) (hn:E.n=18) (hx:FX E []) (p1:(List Qa5))  : ∀ (n:Nat) (v2:Int) (r:Bool),Qdq p1 n v2=some r→WAt E Xgp (FQ (Qdu Θ Try.f61.results.toList [] [] (B r) E)) [true,false,true,false] ⟨[(0,(AV.ro 5 (p1.map o71))),(5,(AV.ro 5 (p1.map o71))),(6,(I (p1.length:Int))),(7,(I v2))],[],[JJ]⟩:=by
 intro n
 induction n with
 | zero=>intro v2 r h;simp only [Qdq] at h;cases h
 | succ n ih =>
  intro v2 r h
  simp only [Qdq] at h
  let Z0:=(p1.length:Int);let Z1:=B (decide (Z0≤200))
  rcases itS h with ⟨c3,h⟩ | ⟨c8,h⟩
  ·obtain ⟨x4,hx4,h⟩:=bnS h
   obtain ⟨r5,hr5,h⟩:=bnS h
   let P1:List Prop:=[(decide (v2<Z0))=true,(0:Int)≤v2,(p1.map o71)[v2.toNat]? = some (o71 x4),Qab Try.prog 105 [(AV.agg ((o71 x4)))] (B r5),Qa8 (B r5)=true]
   have AP1:Qb0 P1:=⟨c3,(rd0 hx4),(rdM o71 hx4),(Qsp hr5),rfl,trivial⟩
   rcases itS h with ⟨c6,h⟩ | ⟨c7,h⟩
   ·obtain rfl:=sj h
    exact gR hP hn [hT 1,hh 2 (.row (o71 x4)),hW 4 1001,hh 7 (.callV [[]] (B r5)),hT 9] [] .raw (P1++[(!r5)=true,(B false)=(B false),Qa8 (B false)=true]) (Qag AP1 ⟨c6,rfl,rfl,trivial⟩)
   ·exact gT hP hn hx [hT 1,hh 2 (.row (o71 x4)),hW 4 1001,hh 7 (.callV [[]] (B r5)),hF 9] [] [0,5,6,7] [] (P1++[(!r5)=false]) (Qag AP1 ⟨c7,trivial⟩) (ih (w64 (v2+1)) _ h)
  ·obtain rfl:=sj h
   exact gR hP hn [hF 1,hO 3 (I Z0)] [] .raw [(decide (v2<Z0))=false,AV.lit (.int .i64 (((p1.map o71).length:Nat) : Int))=(I Z0),Z1=Z1,Qa8 Z1=true] ⟨c8,(Qfn o71),rfl,rfl,trivial⟩
noncomputable def Qhp (p1:(List Qa5)) : Option Bool:=
 Qdq p1 FU 0
theorem Qmq {p1:(List Qa5)} {r:Bool} (h:Qhp p1=some r) : Qab Try.prog 61 [(AV.ro 5 (p1.map o71))] (B r):=by
 refine gM Try.func61 18 Xgp fun E hP hn hx=>?_
 unfold Qhp at h
 exact (let Z0:=(I (p1.length:Int));gT hP hn hx [hO 2 Z0] [] [0,5,6,7] [] [AV.lit (.int .i64 (((p1.map o71).length:Nat) : Int))=Z0] ⟨(Qfn o71),trivial⟩ (Qpr hP hn hx p1 FU 0 _ h))
noncomputable def Qt8:Code:=match Try.f44.body with | some c=>c | none=>.skip
noncomputable def Qch (K0:(List (List Bool))→(List Int)→(List (List Int))→Int→Option ((List (List Int))×Bool)) (p1:(List Qa5)) (v10:Int) : Nat→(List (List Bool))→(List Int)→(List (List Int))→Option ((List (List Int))×Bool)
 | 0,_,_,_=>none
 | n+1,a26,a27,a28 =>
 Option.bind (rd a27 v10) fun x29 =>
 if (decide ((a28.length:Int)≤x29))=true then
  Option.bind (app a28 [[]]) fun l31 =>
  Qch K0 p1 v10 n a26 a27 l31
 else
  Option.bind (rd a28 x29) fun x33 =>
  Option.bind (app x33 [v10]) fun l34 =>
  K0 a26 a27 (a28.set (Int.toNat x29) l34) (w64 (v10+1))
theorem Qoj {E:Env} (hP:E.pk=pk0 Try.prog) (hn:E.n=75) (hx:FX E []) (p1:(List Qa5)) (v10:Int) {K0:(List (List Bool))→(List Int)→(List (List Int))→Int→Option ((List (List Int))×Bool)} (hK0 : ∀ (a7:(List (List Bool))) (a8:(List Int)) (a9:(List (List Int))) (v10:Int) (r:((List (List Int))×Bool)),K0 a7 a8 a9 v10=some r→WAt E Qt8 (FQ (Qdu Θ Try.f44.results.toList [] [] (AV.tup [(AV.own 34 1 (r.1.map o34)),(B r.2)]) E)) [true,true,true,true,true,false,true,false] ⟨[(4,(AV.sl 1 0 (List.length (a7.map Qf0)))),(5,(AV.sl 2 0 (List.length (a8.map o3)))),(6,(AV.sl 3 0 (List.length (a9.map o34)))),(18,(I (p1.length:Int))),(19,(I v10))],[(1,some ⟨107,1,(a7.map Qf0)⟩),(2,some ⟨3,1,(a8.map o3)⟩),(3,some ⟨34,1,(a9.map o34)⟩)],[1,2,3,JJ]⟩) : ∀ (n:Nat) (a26:(List (List Bool))) (a27:(List Int)) (a28:(List (List Int))) (r:((List (List Int))×Bool)),Qch K0 p1 v10 n a26 a27 a28=some r→WAt E Qt8 (FQ (Qdu Θ Try.f44.results.toList [] [] (AV.tup [(AV.own 34 1 (r.1.map o34)),(B r.2)]) E)) [true,true,true,true,true,false,true,false,false,true,true,false,false,true,true,false,false] ⟨[(4,(AV.sl 1 0 (List.length (a26.map Qf0)))),(5,(AV.sl 2 0 (List.length (a27.map o3)))),(6,(AV.sl 3 0 (List.length (a28.map o34)))),(7,(I v10)),(18,(I (p1.length:Int))),(19,(I v10))],[(1,some ⟨107,1,(a26.map Qf0)⟩),(2,some ⟨3,1,(a27.map o3)⟩),(3,some ⟨34,1,(a28.map o34)⟩)],[1,2,3,JJ]⟩:=by
 intro n
 induction n with
 | zero=>intro a26 a27 a28 r h;simp only [Qch] at h;cases h
 | succ n ih =>
  intro a26 a27 a28 r h
  simp only [Qch] at h
  obtain ⟨x29,hx29,h⟩:=bnS h
  let Z0:=a28.map o34;let Z1:=((Z0.length:Nat) : Int);let Z2:=(I (a28.length:Int));let Z3:=a27.map o3;let Z4:=((Z3.length:Nat) : Int);let Z5:=I x29;let Z6:=[(AV.own 3 1 [])];let Z7:=[].map o3;let Z8:=AV.sl 1002 0 Z7.length;let Z9:=Z0++[[Z8]];let Z11:=(decide ((a28.length:Int)≤x29));let Z21:=(([v10].map o3).drop 0).take ([v10].map o3).length;let Z22:=AV.sl 3 0 Z0.length;let Z23:=AV.sl 2 0 Z3.length;let Z24:=AV.ptr 2 v10.toNat 0;let Z25:=AV.ptr 3 x29.toNat 0
  let P1:List Prop:=[AV.lit (.int .i64 Z1)=Z2,(0:Int)≤v10,v10<Z4,Z3[v10.toNat]? = some [Z5]]
  have AP1:Qb0 P1:=⟨(Qfn o34),(rd0 hx29),(rdL o3 hx29),(rdM o3 hx29),trivial⟩
  rcases itS h with ⟨c30,h⟩ | ⟨c32,h⟩
  ·obtain ⟨l31,hl31,h⟩:=bnS h
   exact (let Z10:=l31.map o34;gT hP hn hx [hO 1 Z2,hh 5 (.row [Z5]),hT 7,hW 9 1001,hh 10 (.own0 1001 1 [] [] 3 1 [Z6]),hh 10 (.unpack 1001 1002 0 0 Z6 3 1 Z7 [[Z8]]),hh 10 (.app 1003 Z9),hh 11 (.pack 1003 1002 a28.length 0 [Z8] Z10),hh 12 (.slen 6 Z10.length)] [(1,1),(2,2),(1003,3)] [4,5,6,7,18,19] [] (P1++[Z11=true,[[nS]]=List.replicate 1 ([]++nS :: []),List.replicate 1 ([]++(AV.own 3 1 []) :: [])=[Z6],[Z6][0]? = some Z6,Z6[0]? = some (AV.own 3 1 Z7),0<1,[Z6].set 0 (Z6.set 0 Z8)=[[Z8]],Z0.take Z0.length++[[Z8]]=Z9,[[Z8]].all (fun r=>r.all AV.plain)=true,Z9.length * 24≤140737488355328,Z9.length≤140737488355328,Z9[a28.length]? = some [Z8],[Z8][0]? = some Z8,Qa1 Z7=true,Z9.set a28.length ([Z8].set 0 (AV.own 3 1 Z7))=Z10,Z9.length=Z10.length,Qa6 [(1,1),(2,2),(1003,3)] (a26.map Qf0),Qa6 [(1,1),(2,2),(1003,3)] Z3,Qa6 [(1,1),(2,2),(1003,3)] Z10]) (Qag AP1 ⟨c30,rfl,rfl,rfl,rfl,(by decide),rfl,(apT o34),rfl,(apB o34 hl31 (by decide)),(apC o34 hl31),(apG o34),rfl,(Qa7 t3),(apS o34 hl31),(apLn o34 hl31),(rok (Qa7 Qy3)),(rok (Qa7 t3)),(rok (Qa7 t34)),trivial⟩) (ih a26 a27 l31 _ h))
  ·obtain ⟨x33,hx33,h⟩:=bnS h
   obtain ⟨l34,hl34,h⟩:=bnS h
   exact (let Z12:=x33.map o3;let Z13:=[(AV.own 3 1 Z12)];let Z14:=AV.sl 1004 0 Z12.length;let Z15:=Z0.set x29.toNat [Z14];let Z16:=l34.map o3;let Z17:=AV.sl 1006 0 Z16.length;let Z18:=Z0.set x29.toNat [Z17];let Z19:=a28.set x29.toNat l34;let Z20:=Z19.map o34;gT hP hn hx [hO 1 Z2,hh 5 (.row [Z5]),hF 7,hh 8 (.unpack 3 1004 x29.toNat 0 Z13 3 1 Z12 Z15),hh 12 (.row [Z5]),hh 17 (.row [Z5]),hh 19 (.row [Z14]),hW 21 1005,hh 22 (.app 1006 Z16),hh 31 (.row [Z5]),hh 32 (.row [Z5]),hh 37 (.row [Z5]),hh 39 (.row [Z14]),hh 41 (.sto [Z14] Z18),hh 44 (.pack 3 1006 x29.toNat 0 [Z17] Z20),hh 44 (.slen 6 Z20.length)] [(1,1),(2,2),(3,3)] [4,5,6,18,19] [] (P1++[Z11=false,Z0[x29.toNat]? = some Z13,Z13[0]? = some (AV.own 3 1 Z12),0<1,Z0.set x29.toNat (Z13.set 0 Z14)=Z15,(0:Int)≤v10,v10<Z4,Z3[v10.toNat]? = some [Z5],(0:Int)≤v10,v10<Z4,Z3[v10.toNat]? = some [Z5],(0:Int)≤x29,x29<Z1,Z15[x29.toNat]? = some [Z14],Z12.take Z12.length++Z21=Z16,Z21.all (fun r=>r.all AV.plain)=true,Z16.length * 8≤140737488355328,Z16.length≤140737488355328,Z22=Z22,Z22=Z22,Z23=Z23,Z23=Z23,(I v10)=(I v10),(I v10)=(I v10),Z24=Z24,(0:Int)≤v10,v10<Z4,Z24=Z24,(0:Int)≤v10,v10<Z4,Z5=Z5,Z3[v10.toNat]? = some [Z5],Z5=Z5,Z3[v10.toNat]? = some [Z5],Z22=Z22,Z23=Z23,(I v10)=(I v10),Z24=Z24,(0:Int)≤v10,v10<Z4,Z5=Z5,Z3[v10.toNat]? = some [Z5],Z25=Z25,(0:Int)≤x29,x29<Z1,Z14=Z14,Z15[x29.toNat]? = some [Z14],(0:Int)≤x29,x29<Z1,Z15[x29.toNat]? = some [Z14],Z15.set x29.toNat (wr [Z14] 0 [Z17])=Z18,[Z17].length=1,0 + [Z17].length≤[Z14].length,Z18[x29.toNat]? = some [Z17],[Z17][0]? = some Z17,Qa1 Z16=true,Z18.set x29.toNat ([Z17].set 0 (AV.own 3 1 Z16))=Z20,Z0.length=Z20.length,Qa6 [(1,1),(2,2),(3,3)] (a26.map Qf0),Qa6 [(1,1),(2,2),(3,3)] Z3,Qa6 [(1,1),(2,2),(3,3)] Z20]) (Qag AP1 ⟨c32,(rdM o34 hx33),rfl,(by decide),rfl,(rd0 hx29),(rdL o3 hx29),(rdM o3 hx29),(rd0 hx29),(rdL o3 hx29),(rdM o3 hx29),(rd0 hx33),(rdL o34 hx33),(Qcl (rdM o34 hx33)),(Qiw o3 hl34),(plD pa3),(Qnn o3 hl34 (by decide)),(Qnm o3 hl34),rfl,rfl,rfl,rfl,rfl,rfl,rfl,(rd0 hx29),(rdL o3 hx29),rfl,(rd0 hx29),(rdL o3 hx29),rfl,(rdM o3 hx29),rfl,(rdM o3 hx29),rfl,rfl,rfl,rfl,(rd0 hx29),(rdL o3 hx29),rfl,(rdM o3 hx29),rfl,(rd0 hx33),(rdL o34 hx33),rfl,(Qcl (rdM o34 hx33)),(rd0 hx33),(rdL o34 hx33),(Qcl (rdM o34 hx33)),(Qfy rfl),rfl,leB,(Qcl (rdM o34 hx33)),rfl,(Qa7 t3),(Xe9 o34),lnq,(rok (Qa7 Qy3)),(rok (Qa7 t3)),(rok (Qa7 t34)),trivial⟩) (hK0 a26 a27 Z19 (w64 (v10+1)) _ h))
noncomputable def Qc1 (K0:(List (List Bool))→(List Int)→(List (List Int))→Int→Option ((List (List Int))×Bool)) (p1:(List Qa5)) (v10:Int) : Nat→(List (List Bool))→(List Int)→(List (List Int))→Int→Option ((List (List Int))×Bool)
 | 0,_,_,_,_=>none
 | n+1,a12,a13,a14,v15 =>
 if (decide (v15<v10))=true then
  Option.bind (rd a12 v10) fun x17 =>
  Option.bind (rd x17 v15) fun x18 =>
  if x18=true then
   Option.bind (rd a13 v10) fun x20 =>
   Option.bind (rd a13 v15) fun x21 =>
   Option.bind (Qix x20 (w64 (x21+1))) fun r23 =>
   Qc1 K0 p1 v10 n a12 (a13.set (Int.toNat v10) r23) a14 (w64 (v15+1))
  else
   Qc1 K0 p1 v10 n a12 a13 a14 (w64 (v15+1))
 else
  Qch K0 p1 v10 FU a12 a13 a14
theorem Qog {E:Env} (hP:E.pk=pk0 Try.prog) (hn:E.n=75) (hx:FX E []) (p1:(List Qa5)) (v10:Int) {K0:(List (List Bool))→(List Int)→(List (List Int))→Int→Option ((List (List Int))×Bool)} (hK0 : ∀ (a7:(List (List Bool))) (a8:(List Int)) (a9:(List (List Int))) (v10:Int) (r:((List (List Int))×Bool)),K0 a7 a8 a9 v10=some r→WAt E Qt8 (FQ (Qdu Θ Try.f44.results.toList [] [] (AV.tup [(AV.own 34 1 (r.1.map o34)),(B r.2)]) E)) [true,true,true,true,true,false,true,false] ⟨[(4,(AV.sl 1 0 (List.length (a7.map Qf0)))),(5,(AV.sl 2 0 (List.length (a8.map o3)))),(6,(AV.sl 3 0 (List.length (a9.map o34)))),(18,(I (p1.length:Int))),(19,(I v10))],[(1,some ⟨107,1,(a7.map Qf0)⟩),(2,some ⟨3,1,(a8.map o3)⟩),(3,some ⟨34,1,(a9.map o34)⟩)],[1,2,3,JJ]⟩) : ∀ (n:Nat) (a12:(List (List Bool))) (a13:(List Int)) (a14:(List (List Int))) (v15:Int) (r:((List (List Int))×Bool)),Qc1 K0 p1 v10 n a12 a13 a14 v15=some r→WAt E Qt8 (FQ (Qdu Θ Try.f44.results.toList [] [] (AV.tup [(AV.own 34 1 (r.1.map o34)),(B r.2)]) E)) [true,true,true,true,true,false,true,false,false,true,true,false,false,true,false,true,false] ⟨[(4,(AV.sl 1 0 (List.length (a12.map Qf0)))),(5,(AV.sl 2 0 (List.length (a13.map o3)))),(6,(AV.sl 3 0 (List.length (a14.map o34)))),(7,(I v10)),(8,(I v15)),(18,(I (p1.length:Int))),(19,(I v10))],[(1,some ⟨107,1,(a12.map Qf0)⟩),(2,some ⟨3,1,(a13.map o3)⟩),(3,some ⟨34,1,(a14.map o34)⟩)],[1,2,3,JJ]⟩:=by
 intro n
 induction n with
 | zero=>intro a12 a13 a14 v15 r h;simp only [Qc1] at h;cases h
 | succ n ih =>
  intro a12 a13 a14 v15 r h
  simp only [Qc1] at h
  let Z2:=a12.map Qf0;let Z8:=a13.map o3;let Z9:=((Z8.length:Nat) : Int);let Z10:=a14.map o34
  rcases itS h with ⟨c16,h⟩ | ⟨c25,h⟩
  ·obtain ⟨x17,hx17,h⟩:=bnS h
   obtain ⟨x18,hx18,h⟩:=bnS h
   let Z0:=x17.map o4;let Z1:=AV.own 4 1 Z0;let Z3:=AV.sl 1001 0 Z0.length;let Z4:=Z2.set v10.toNat [Z3]
   let H1:List Hn:=[hT 3,hh 7 (.unpack 1 1001 v10.toNat 0 [Z1] 4 1 Z0 Z4),hh 7 (.row [Z3]),hh 10 (.row [(B x18)])]
   let P2:List Prop:=[(decide (v15<v10))=true,(0:Int)≤v10,v10<((Z2.length:Nat) : Int),Z2[v10.toNat]? = some [Z1],[Z1][0]? = some Z1,0<1,Z2.set v10.toNat ([Z1].set 0 Z3)=Z4,Z4[v10.toNat]? = some [Z3],(0:Int)≤v15,v15<((Z0.length:Nat) : Int),Z0[v15.toNat]? = some [(B x18)]]
   have AP2:Qb0 P2:=⟨c16,(rd0 hx17),(rdL Qf0 hx17),(rdM Qf0 hx17),rfl,(by decide),rfl,(Qcl (rdM Qf0 hx17)),(rd0 hx18),(rdL o4 hx18),(rdM o4 hx18),trivial⟩
   rcases itS h with ⟨c19,h⟩ | ⟨c24,h⟩
   ·obtain ⟨x20,hx20,h⟩:=bnS h
    obtain ⟨x21,hx21,h⟩:=bnS h
    obtain ⟨r23,hr23,h⟩:=bnS h
    exact (let Z5:=[(I x20)];let Z6:=a13.set v10.toNat r23;let Z7:=Z6.map o3;gT hP hn hx (H1++[hT 11,hh 17 (.row Z5),hh 21 (.row [(I x21)]),hh 23 (.callV [] (I r23)),hh 25 (.sto Z5 Z7),hh 29 (.pack 1 1001 v10.toNat 0 [Z3] Z2),hh 29 (.slen 4 Z2.length),hh 29 (.slen 5 Z7.length)]) [(1,1),(2,2),(3,3)] [4,5,6,7,8,18,19] [] (P2++[x18=true,(0:Int)≤v10,v10<Z9,Z8[v10.toNat]? = some Z5,(0:Int)≤v15,v15<Z9,Z8[v15.toNat]? = some [(I x21)],Qab Try.prog 93 [(I x20),(I (w64 (x21+1)))] (I r23),Qa8 (I r23)=true,(0:Int)≤v10,v10<Z9,Z8[v10.toNat]? = some Z5,Z8.set v10.toNat (wr Z5 0 [(I r23)])=Z7,[(I r23)].length=1,0 + [(I r23)].length≤Z5.length,Z4[v10.toNat]? = some [Z3],[Z3][0]? = some Z3,Qa1 Z0=true,Z4.set v10.toNat ([Z3].set 0 Z1)=Z2,Z2.length=Z2.length,Z8.length=Z7.length,Qa6 [(1,1),(2,2),(3,3)] Z2,Qa6 [(1,1),(2,2),(3,3)] Z7,Qa6 [(1,1),(2,2),(3,3)] Z10]) (Qag AP2 ⟨c19,(rd0 hx20),(rdL o3 hx20),(rdM o3 hx20),(rd0 hx21),(rdL o3 hx21),(rdM o3 hx21),(Qu3 hr23),rfl,(rd0 hx20),(rdL o3 hx20),(rdM o3 hx20),(Qyf o3),rfl,leB,(Qcl (rdM Qf0 hx17)),rfl,(Qa7 t4),(Xao Qf0 hx17),rfl,lnq,(rok (Qa7 Qy3)),(rok (Qa7 t3)),(rok (Qa7 t34)),trivial⟩) (ih a12 Z6 a14 (w64 (v15+1)) _ h))
   ·exact gT hP hn hx (H1++[hF 11,hh 15 (.pack 1 1001 v10.toNat 0 [Z3] Z2),hh 15 (.slen 4 Z2.length)]) [(1,1),(2,2),(3,3)] [4,5,6,7,8,18,19] [] (P2++[x18=false,Z4[v10.toNat]? = some [Z3],[Z3][0]? = some Z3,Qa1 Z0=true,Z4.set v10.toNat ([Z3].set 0 Z1)=Z2,Z2.length=Z2.length,Qa6 [(1,1),(2,2),(3,3)] Z2,Qa6 [(1,1),(2,2),(3,3)] Z8,Qa6 [(1,1),(2,2),(3,3)] Z10]) (Qag AP2 ⟨c24,(Qcl (rdM Qf0 hx17)),rfl,(Qa7 t4),(Xao Qf0 hx17),rfl,(rok (Qa7 Qy3)),(rok (Qa7 t3)),(rok (Qa7 t34)),trivial⟩) (ih a12 a13 a14 (w64 (v15+1)) _ h)
  ·exact gT hP hn hx [hF 3] [(1,1),(2,2),(3,3)] [4,5,6,7,18,19] [] [(decide (v15<v10))=false,Qa6 [(1,1),(2,2),(3,3)] Z2,Qa6 [(1,1),(2,2),(3,3)] Z8,Qa6 [(1,1),(2,2),(3,3)] Z10] ⟨c25,(rok (Qa7 Qy3)),(rok (Qa7 t3)),(rok (Qa7 t34)),trivial⟩ (Qoj hP hn hx p1 v10 hK0 FU a12 a13 a14 _ h)
noncomputable def Qbq  (p1:(List Qa5)) : Nat→(List (List Bool))→(List Int)→(List (List Int))→Int→Option ((List (List Int))×Bool)
 | 0,_,_,_,_=>none
 | n+1,a7,a8,a9,v10 =>
 if (decide (v10<(p1.length:Int)))=true then
  Qc1 (Qbq p1 n) p1 v10 FU a7 a8 a9 0
 else
  some (a9,true)
theorem Qos {E:Env} (hP:E.pk=pk0 Try.prog) (hn:E.n=75) (hx:FX E []) (p1:(List Qa5))  : ∀ (n:Nat) (a7:(List (List Bool))) (a8:(List Int)) (a9:(List (List Int))) (v10:Int) (r:((List (List Int))×Bool)),Qbq p1 n a7 a8 a9 v10=some r→WAt E Qt8 (FQ (Qdu Θ Try.f44.results.toList [] [] (AV.tup [(AV.own 34 1 (r.1.map o34)),(B r.2)]) E)) [true,true,true,true,true,false,true,false] ⟨[(4,(AV.sl 1 0 (List.length (a7.map Qf0)))),(5,(AV.sl 2 0 (List.length (a8.map o3)))),(6,(AV.sl 3 0 (List.length (a9.map o34)))),(18,(I (p1.length:Int))),(19,(I v10))],[(1,some ⟨107,1,(a7.map Qf0)⟩),(2,some ⟨3,1,(a8.map o3)⟩),(3,some ⟨34,1,(a9.map o34)⟩)],[1,2,3,JJ]⟩:=by
 intro n
 induction n with
 | zero=>intro a7 a8 a9 v10 r h;simp only [Qbq] at h;cases h
 | succ n ih =>
  intro a7 a8 a9 v10 r h
  simp only [Qbq] at h
  let Z0:=(decide (v10<(p1.length:Int)));let Z1:=a9.map o34
  rcases itS h with ⟨c11,h⟩ | ⟨c35,h⟩
  ·exact gT hP hn hx [hT 1] [(1,1),(2,2),(3,3)] [4,5,6,7,8,18,19] [] [Z0=true,Qa6 [(1,1),(2,2),(3,3)] (a7.map Qf0),Qa6 [(1,1),(2,2),(3,3)] (a8.map o3),Qa6 [(1,1),(2,2),(3,3)] Z1] ⟨c11,(rok (Qa7 Qy3)),(rok (Qa7 t3)),(rok (Qa7 t34)),trivial⟩ (Qog hP hn hx p1 v10 ih FU a7 a8 a9 0 _ h)
  ·obtain rfl:=sj h
   exact gR hP hn [hF 1] [] (.agg [.own,.raw]) [Z0=false,Qa1 (Z1.take Z1.length)=true,Z1.take Z1.length=Z1,Qa4 Z1=true,(B true)=(B true),Qa8 (B true)=true] ⟨c35,(Qay t34),Qax,(Qaa n34),rfl,rfl,trivial⟩
noncomputable def Qif (p1:(List Qa5)) : Option ((List (List Int))×Bool):=
 Option.bind (Qhp p1) fun r2 =>
 if (!r2)=true then
  some ([],false)
 else
  Option.bind (Qhn p1) fun r5 =>
  Option.bind (mk 0 (p1.length:Int)) fun l6 =>
  Qbq p1 FU r5 l6 [] 0
theorem Qrc {p1:(List Qa5)} {r:((List (List Int))×Bool)} (h:Qif p1=some r) : Qab Try.prog 44 [(AV.ro 5 (p1.map o71))] (AV.tup [(AV.own 34 1 (r.1.map o34)),(B r.2)]):=by
 refine gM Try.func44 75 Qt8 fun E hP hn hx=>?_
 unfold Qif at h
 obtain ⟨r2,hr2,h⟩:=bnS h
 let Z0:=[(AV.ro 5 (p1.map o71))];let Z2:=(p1.length:Int);let Z5:=(((p1.map o71).length:Nat) : Int)
 rcases itS h with ⟨c3,h⟩ | ⟨c4,h⟩
 ·obtain rfl:=sj h
  exact gR hP hn [hh 3 (.callV [] (B r2)),hT 5] [] (.agg [.own,.raw]) [Qab Try.prog 61 Z0 (B r2),Qa8 (B r2)=true,(!r2)=true,(B false)=(B false),Qa8 (B false)=true] ⟨(Qmq hr2),rfl,c3,rfl,rfl,trivial⟩
 ·obtain ⟨r5,hr5,h⟩:=bnS h
  obtain ⟨l6,hl6,h⟩:=bnS h
  exact (let Z1:=AV.own 107 1 (r5.map Qf0);let Z3:=l6.map o3;let Z4:=AV.sl 1002 0 Z3.length;gT hP hn hx [hh 3 (.callV [] (B r2)),hF 5,hh 7 (.call [] Z1 [1001]),hO 10 (I Z2),⟨11,.nw 1002 Z3,some Z4⟩,hO 15 (I Z2),hh 17 (.nil 6 1003 34 1)] [(1001,1),(1002,2),(1003,3)] [4,5,6,18,19] [] [Qab Try.prog 61 Z0 (B r2),Qa8 (B r2)=true,(!r2)=false,Qab Try.prog 92 Z0 Z1,Qez Z1=true,AV.lit (.int .i64 Z5)=(I Z2),List.replicate Z2.toNat [.lit (.int .i64 0)]=Z3,AV.sl 1002 0 Z2.toNat=Z4,Z2=Z2,(0:Int)≤Z2,Z2 * ((8:Nat) : Int)≤140737488355328,Z2≤140737488355328,AV.lit (.int .i64 Z5)=(I Z2),Qa6 [(1001,1),(1002,2),(1003,3)] (r5.map Qf0),Qa6 [(1001,1),(1002,2),(1003,3)] Z3,Qa6 [(1001,1),(1002,2),(1003,3)] ([].map o34)] ⟨(Qmq hr2),rfl,c4,(Qt1 hr5),(by simp +zetaDelta only [Qez,Qcw,Qaa n107,Bool.and_self]),(Qfn o71),(mkM o3 hl6),(mkS o3 hl6),rfl,(mk0 hl6),(mkB hl6 (by decide)),(mkC hl6),(Qfn o71),(rok (Qa7 Qy3)),(rok (Qa7 t3)),(rok (Qa7 t34)),trivial⟩ (Qos hP hn hx p1 FU r5 l6 [] 0 _ h))
noncomputable def Qp8:Code:=match Try.f6.body with | some c=>c | none=>.skip
noncomputable def Qe2 (K0:Int→Int→Option Bool) (K1:Int→Option Bool) (r6:(List Qa5)) (r7:((List (List Int))×Bool)) (v14:Int) (v15:Int) (x17:(List Int)) (v18:Int) (v53:Bool) : Option Bool:=
 if (!v53)=true then
  Option.bind (rd r7.1 v15) fun x55 =>
  Option.bind (eqv x55 x17) fun q56 =>
  some false
 else
  K1 (w64 (v18+1))
theorem Qjg {E:Env} (hP:E.pk=pk0 Try.prog) (hn:E.n=125) (hx:FX E []) (r6:(List Qa5)) (r7:((List (List Int))×Bool)) (v14:Int) (v15:Int) (x17:(List Int)) (v18:Int) {K0:Int→Int→Option Bool} (hK0 : ∀ (v14:Int) (v15:Int) (r:Bool),K0 v14 v15=some r→WAt E Qp8 (FQ (Qdu Θ Try.f6.results.toList [] [] (B r) E)) [true,true,true,true,true,true,true,false,true,false] ⟨[(5,(AV.sl 1 0 (List.length (r6.map o71)))),(6,(AV.sl 2 0 (List.length (r7.1.map o34)))),(7,(B r7.2)),(10,(I v14)),(48,(AV.sl 2 0 (List.length (r7.1.map o34)))),(49,(I (r7.1.length:Int))),(50,(I v15))],[(1,some ⟨71,5,(r6.map o71)⟩),(2,some ⟨34,1,(r7.1.map o34)⟩)],[1,2,JJ]⟩) {K1:Int→Option Bool} (hK1 : ∀ (v18:Int) (r:Bool),K1 v18=some r→WAt E Qp8 (FQ (Qdu Θ Try.f6.results.toList [] [] (B r) E)) [true,true,true,true,true,true,true,false,true,false,false,true,true,false,false,true,true,true,false] ⟨[(5,(AV.sl 1 0 (List.length (r6.map o71)))),(6,(AV.sl 2 0 (List.length ((r7.1.map o34).set (Int.toNat v15) [(AV.sl 1001 0 (List.length (x17.map o3)))])))),(7,(B r7.2)),(10,(I (w64 (v14+(x17.length:Int))))),(11,(I v15)),(12,(AV.sl 1001 0 (List.length (x17.map o3)))),(48,(AV.sl 2 0 (List.length ((r7.1.map o34).set (Int.toNat v15) [(AV.sl 1001 0 (List.length (x17.map o3)))])))),(49,(I (r7.1.length:Int))),(50,(I v15)),(59,(AV.sl 1001 0 (List.length (x17.map o3)))),(60,(I (x17.length:Int))),(61,(I v18))],[(1,some ⟨71,5,(r6.map o71)⟩),(2,some ⟨34,1,((r7.1.map o34).set (Int.toNat v15) [(AV.sl 1001 0 (List.length (x17.map o3)))])⟩),(1001,some ⟨3,1,(x17.map o3)⟩)],[1,2,1001,JJ]⟩) (v53:Bool) (r:Bool) (h:Qe2 K0 K1 r6 r7 v14 v15 x17 v18 v53=some r) : WAt E Qp8 (FQ (Qdu Θ Try.f6.results.toList [] [] (B r) E)) [true,true,true,true,true,true,true,false,true,false,false,true,true,false,false,true,true,true,false,false,true,true,false,false,true,true,true,true] ⟨[(5,(AV.sl 1 0 (List.length (r6.map o71)))),(6,(AV.sl 2 0 (List.length ((r7.1.map o34).set (Int.toNat v15) [(AV.sl 1001 0 (List.length (x17.map o3)))])))),(7,(B r7.2)),(10,(I (w64 (v14+(x17.length:Int))))),(11,(I v15)),(12,(AV.sl 1001 0 (List.length (x17.map o3)))),(15,(B v53)),(48,(AV.sl 2 0 (List.length ((r7.1.map o34).set (Int.toNat v15) [(AV.sl 1001 0 (List.length (x17.map o3)))])))),(49,(I (r7.1.length:Int))),(50,(I v15)),(59,(AV.sl 1001 0 (List.length (x17.map o3)))),(60,(I (x17.length:Int))),(61,(I v18))],[(1,some ⟨71,5,(r6.map o71)⟩),(2,some ⟨34,1,((r7.1.map o34).set (Int.toNat v15) [(AV.sl 1001 0 (List.length (x17.map o3)))])⟩),(1001,some ⟨3,1,(x17.map o3)⟩)],[1,2,1001,JJ]⟩:=by
 unfold Qe2 at h
 let Z0:=x17.map o3;let Z1:=AV.sl 1001 0 Z0.length;let Z2:=r7.1.map o34;let Z3:=Z2.set v15.toNat [Z1]
 rcases itS h with ⟨c54,h⟩ | ⟨c57,h⟩
 ·obtain ⟨x55,hx55,h⟩:=bnS h
  obtain ⟨q56,hq56,h⟩:=bnS h
  obtain rfl:=sj h
  exact gR hP hn [hT 2,hh 4 (.pack 2 1001 v15.toNat 0 [Z1] Z2)] [] .raw [(!v53)=true,Z3[v15.toNat]? = some [Z1],[Z1][0]? = some Z1,Qa1 Z0=true,Z3.set v15.toNat ([Z1].set 0 (AV.own 3 1 Z0))=Z2,(B false)=(B false),Qa8 (B false)=true] ⟨c54,(Qcl (rdM o34 hx55)),rfl,(Qa7 t3),(Xao o34 (Xlb hx55 hq56)),rfl,rfl,trivial⟩
 ·exact gT hP hn hx [hF 2] [(1,1),(2,2),(1001,1001)] [5,6,7,10,11,12,48,49,50,59,60,61] [] [(!v53)=false,Qa6 [(1,1),(2,2),(1001,1001)] (r6.map o71),Qa6 [(1,1),(2,2),(1001,1001)] Z3,Qa6 [(1,1),(2,2),(1001,1001)] Z0] ⟨c57,(rok (Qa7 t71)),(Qg3 (rok (Qa7 t34)) rfl),(rok (Qa7 t3)),trivial⟩ (hK1 (w64 (v18+1)) _ h)
noncomputable def Qc2 (K0:Int→Int→Option Bool) (K1:Int→Option Bool) (r6:(List Qa5)) (r7:((List (List Int))×Bool)) (v14:Int) (v15:Int) (x17:(List Int)) (v18:Int) (x20:Int) (x36:(List Int)) : Nat→Bool→Int→Option Bool
 | 0,_,_=>none
 | n+1,v39,v40 =>
 if (decide (v40<(x36.length:Int)))=true then
  Option.bind (rd x36 v40) fun x42 =>
  Option.bind (Qde r6 x42 x20) fun r43 =>
  if v39=true then
   Qc2 K0 K1 r6 r7 v14 v15 x17 v18 x20 x36 n true (w64 (v40+1))
  else
   if r43.2=true then
    Qc2 K0 K1 r6 r7 v14 v15 x17 v18 x20 x36 n r43.1 (w64 (v40+1))
   else
    Qc2 K0 K1 r6 r7 v14 v15 x17 v18 x20 x36 n false (w64 (v40+1))
 else
  Option.bind (rd r7.1 (w64 (v15 - 1))) fun x49 =>
  Option.bind (rd r7.1 v15) fun x50 =>
  Option.bind (neI v15 (w64 (v15 - 1))) fun q51 =>
  Option.bind (eqv x49 x36) fun q52 =>
  Qe2 K0 K1 r6 r7 v14 v15 x17 v18 v39
theorem Qoh {E:Env} (hP:E.pk=pk0 Try.prog) (hn:E.n=125) (hx:FX E []) (r6:(List Qa5)) (r7:((List (List Int))×Bool)) (v14:Int) (v15:Int) (x17:(List Int)) (v18:Int) (x20:Int) (x36:(List Int)) {K0:Int→Int→Option Bool} (hK0 : ∀ (v14:Int) (v15:Int) (r:Bool),K0 v14 v15=some r→WAt E Qp8 (FQ (Qdu Θ Try.f6.results.toList [] [] (B r) E)) [true,true,true,true,true,true,true,false,true,false] ⟨[(5,(AV.sl 1 0 (List.length (r6.map o71)))),(6,(AV.sl 2 0 (List.length (r7.1.map o34)))),(7,(B r7.2)),(10,(I v14)),(48,(AV.sl 2 0 (List.length (r7.1.map o34)))),(49,(I (r7.1.length:Int))),(50,(I v15))],[(1,some ⟨71,5,(r6.map o71)⟩),(2,some ⟨34,1,(r7.1.map o34)⟩)],[1,2,JJ]⟩) {K1:Int→Option Bool} (hK1 : ∀ (v18:Int) (r:Bool),K1 v18=some r→WAt E Qp8 (FQ (Qdu Θ Try.f6.results.toList [] [] (B r) E)) [true,true,true,true,true,true,true,false,true,false,false,true,true,false,false,true,true,true,false] ⟨[(5,(AV.sl 1 0 (List.length (r6.map o71)))),(6,(AV.sl 2 0 (List.length ((r7.1.map o34).set (Int.toNat v15) [(AV.sl 1001 0 (List.length (x17.map o3)))])))),(7,(B r7.2)),(10,(I (w64 (v14+(x17.length:Int))))),(11,(I v15)),(12,(AV.sl 1001 0 (List.length (x17.map o3)))),(48,(AV.sl 2 0 (List.length ((r7.1.map o34).set (Int.toNat v15) [(AV.sl 1001 0 (List.length (x17.map o3)))])))),(49,(I (r7.1.length:Int))),(50,(I v15)),(59,(AV.sl 1001 0 (List.length (x17.map o3)))),(60,(I (x17.length:Int))),(61,(I v18))],[(1,some ⟨71,5,(r6.map o71)⟩),(2,some ⟨34,1,((r7.1.map o34).set (Int.toNat v15) [(AV.sl 1001 0 (List.length (x17.map o3)))])⟩),(1001,some ⟨3,1,(x17.map o3)⟩)],[1,2,1001,JJ]⟩) : ∀ (n:Nat) (v39:Bool) (v40:Int) (r:Bool),Qc2 K0 K1 r6 r7 v14 v15 x17 v18 x20 x36 n v39 v40=some r→WAt E Qp8 (FQ (Qdu Θ Try.f6.results.toList [] [] (B r) E)) [true,true,true,true,true,true,true,false,true,false,false,true,true,false,false,true,true,true,false,false,true,true,false,false,true,true,true,false,true,false,true,false] ⟨[(5,(AV.sl 1 0 (List.length (r6.map o71)))),(6,(AV.sl 2 0 (List.length (((r7.1.map o34).set (Int.toNat v15) [(AV.sl 1001 0 (List.length (x17.map o3)))]).set (Int.toNat (w64 (v15 - 1))) [(AV.sl 1002 0 (List.length (x36.map o3)))])))),(7,(B r7.2)),(10,(I (w64 (v14+(x17.length:Int))))),(11,(I v15)),(12,(AV.sl 1001 0 (List.length (x17.map o3)))),(14,(I x20)),(15,(B v39)),(48,(AV.sl 2 0 (List.length (((r7.1.map o34).set (Int.toNat v15) [(AV.sl 1001 0 (List.length (x17.map o3)))]).set (Int.toNat (w64 (v15 - 1))) [(AV.sl 1002 0 (List.length (x36.map o3)))])))),(49,(I (r7.1.length:Int))),(50,(I v15)),(59,(AV.sl 1001 0 (List.length (x17.map o3)))),(60,(I (x17.length:Int))),(61,(I v18)),(92,(AV.sl 1002 0 (List.length (x36.map o3)))),(93,(I (x36.length:Int))),(94,(I v40))],[(1,some ⟨71,5,(r6.map o71)⟩),(2,some ⟨34,1,(((r7.1.map o34).set (Int.toNat v15) [(AV.sl 1001 0 (List.length (x17.map o3)))]).set (Int.toNat (w64 (v15 - 1))) [(AV.sl 1002 0 (List.length (x36.map o3)))])⟩),(1001,some ⟨3,1,(x17.map o3)⟩),(1002,some ⟨3,1,(x36.map o3)⟩)],[1,2,1001,1002,JJ]⟩:=by
 intro n
 induction n with
 | zero=>intro v39 v40 r h;simp only [Qc2] at h;cases h
 | succ n ih =>
  intro v39 v40 r h
  simp only [Qc2] at h
  let Z0:=r6.map o71;let Z2:=(decide (v40<(x36.length:Int)));let Z3:=x36.map o3;let Z4:=x17.map o3;let Z5:=(r7.1.map o34).set v15.toNat [(AV.sl 1001 0 Z4.length)];let Z6:=w64 (v15 - 1);let Z7:=AV.sl 1002 0 Z3.length;let Z8:=Z5.set Z6.toNat [Z7];let Z9:=B false
  rcases itS h with ⟨c41,h⟩ | ⟨c48,h⟩
  ·obtain ⟨x42,hx42,h⟩:=bnS h
   obtain ⟨r43,hr43,h⟩:=bnS h
   let Z1:=AV.tup [(B r43.1),(B r43.2)]
   let H1:List Hn:=[hT 1,hh 3 (.row [(I x42)]),hh 8 (.callV [Z0] Z1)]
   let P2:List Prop:=[Z2=true,(0:Int)≤v40,v40<((Z3.length:Nat) : Int),Z3[v40.toNat]? = some [(I x42)],Qab Try.prog 46 [(AV.ro 5 Z0),(I x42),(I x20)] Z1,Qa8 Z1=true,Frz ((Z0.drop 0).take Z0.length) Z0]
   have AP2:Qb0 P2:=⟨c41,(rd0 hx42),(rdL o3 hx42),(rdM o3 hx42),(Qmu hr43),rfl,(Qlc t71 z71),trivial⟩
   rcases itS h with ⟨c44,h⟩ | ⟨c45,h⟩
   ·exact gT hP hn hx (H1++[hO 15 (B true)]) [(1,1),(2,2),(1001,1001),(1002,1002)] [5,6,7,10,11,12,14,15,48,49,50,59,60,61,92,93,94] [] (P2++[(B v39)=(B true),Qa6 [(1,1),(2,2),(1001,1001),(1002,1002)] Z0,Qa6 [(1,1),(2,2),(1001,1001),(1002,1002)] Z8,Qa6 [(1,1),(2,2),(1001,1001),(1002,1002)] Z4,Qa6 [(1,1),(2,2),(1001,1001),(1002,1002)] Z3]) (Qag AP2 ⟨(Qb5 c44),(rok (Qa7 t71)),(Qg3 (Qg3 (rok (Qa7 t34)) rfl) rfl),(rok (Qa7 t3)),(rok (Qa7 t3)),trivial⟩) (ih true (w64 (v40+1)) _ h)
   ·rcases itS h with ⟨c46,h⟩ | ⟨c47,h⟩
    ·exact gT hP hn hx (H1++[hO 15 Z9,hO 17 (B true)]) [(1,1),(2,2),(1001,1001),(1002,1002)] [5,6,7,10,11,12,14,15,48,49,50,59,60,61,92,93,94] [] (P2++[(B v39)=Z9,(B r43.2)=(B true),Qa6 [(1,1),(2,2),(1001,1001),(1002,1002)] Z0,Qa6 [(1,1),(2,2),(1001,1001),(1002,1002)] Z8,Qa6 [(1,1),(2,2),(1001,1001),(1002,1002)] Z4,Qa6 [(1,1),(2,2),(1001,1001),(1002,1002)] Z3]) (Qag AP2 ⟨(Qb5 c45),(Qb5 c46),(rok (Qa7 t71)),(Qg3 (Qg3 (rok (Qa7 t34)) rfl) rfl),(rok (Qa7 t3)),(rok (Qa7 t3)),trivial⟩) (ih r43.1 (w64 (v40+1)) _ h)
    ·exact gT hP hn hx (H1++[hO 15 Z9,hO 17 Z9]) [(1,1),(2,2),(1001,1001),(1002,1002)] [5,6,7,10,11,12,14,15,48,49,50,59,60,61,92,93,94] [] (P2++[(B v39)=Z9,(B r43.2)=Z9,Qa6 [(1,1),(2,2),(1001,1001),(1002,1002)] Z0,Qa6 [(1,1),(2,2),(1001,1001),(1002,1002)] Z8,Qa6 [(1,1),(2,2),(1001,1001),(1002,1002)] Z4,Qa6 [(1,1),(2,2),(1001,1001),(1002,1002)] Z3]) (Qag AP2 ⟨(Qb5 c45),(Qb5 c47),(rok (Qa7 t71)),(Qg3 (Qg3 (rok (Qa7 t34)) rfl) rfl),(rok (Qa7 t3)),(rok (Qa7 t3)),trivial⟩) (ih false (w64 (v40+1)) _ h)
  ·obtain ⟨x49,hx49,h⟩:=bnS h
   obtain ⟨x50,hx50,h⟩:=bnS h
   obtain ⟨q51,hq51,h⟩:=bnS h
   obtain ⟨q52,hq52,h⟩:=bnS h
   exact gT hP hn hx [hF 1,hh 2 (.pack 2 1002 Z6.toNat 0 [Z7] Z5),hh 2 (.slen 6 Z5.length),hh 2 (.slen 48 Z5.length)] [(1,1),(2,2),(1001,1001)] [5,6,7,10,11,12,15,48,49,50,59,60,61] [] [Z2=false,Z8[Z6.toNat]? = some [Z7],[Z7][0]? = some Z7,Qa1 Z3=true,Z8.set Z6.toNat ([Z7].set 0 (AV.own 3 1 Z3))=Z5,Z8.length=Z5.length,Z8.length=Z5.length,Qa6 [(1,1),(2,2),(1001,1001)] Z0,Qa6 [(1,1),(2,2),(1001,1001)] Z5,Qa6 [(1,1),(2,2),(1001,1001)] Z4] ⟨c48,(Qcl (Xad (neN hq51 (rd0 hx50) (rd0 hx49)) (rdM o34 hx49))),rfl,(Qa7 t3),(Qzz o34 (neN hq51 (rd0 hx50) (rd0 hx49)) (Xlb hx49 hq52)),lnq,lnq,(rok (Qa7 t71)),(Qg3 (rok (Qa7 t34)) rfl),(rok (Qa7 t3)),trivial⟩ (Qjg hP hn hx r6 r7 v14 v15 x17 v18 hK0 hK1 v39 _ h)
noncomputable def Qbd (K0:Int→Int→Option Bool) (K1:Int→Option Bool) (r6:(List Qa5)) (r7:((List (List Int))×Bool)) (v14:Int) (v15:Int) (x17:(List Int)) (v18:Int) (x20:Int) : Nat→Int→Option Bool
 | 0,_=>none
 | n+1,v21 =>
 if (decide (v21<(x17.length:Int)))=true then
  Option.bind (rd x17 v21) fun x23 =>
  Option.bind (Qde r6 x23 x20) fun r25 =>
  if (!r25.2)=true then
   Option.bind (rd r7.1 v15) fun x27 =>
   Option.bind (eqv x27 x17) fun q28 =>
   some false
  else
   if r25.1=true then
    Option.bind (rd r7.1 v15) fun x31 =>
    Option.bind (eqv x31 x17) fun q32 =>
    some false
   else
    Qbd K0 K1 r6 r7 v14 v15 x17 v18 x20 n (w64 (v21+1))
 else
  if (decide (v15 > 0))=true then
   Option.bind (rd r7.1 (w64 (v15 - 1))) fun x36 =>
   Option.bind (rd r7.1 v15) fun x37 =>
   Option.bind (neI v15 (w64 (v15 - 1))) fun q38 =>
   Qc2 K0 K1 r6 r7 v14 v15 x17 v18 x20 x36 FU (v15 == 0) 0
  else
   Qe2 K0 K1 r6 r7 v14 v15 x17 v18 (v15 == 0)
theorem Qok {E:Env} (hP:E.pk=pk0 Try.prog) (hn:E.n=125) (hx:FX E []) (r6:(List Qa5)) (r7:((List (List Int))×Bool)) (v14:Int) (v15:Int) (x17:(List Int)) (v18:Int) (x20:Int) {K0:Int→Int→Option Bool} (hK0 : ∀ (v14:Int) (v15:Int) (r:Bool),K0 v14 v15=some r→WAt E Qp8 (FQ (Qdu Θ Try.f6.results.toList [] [] (B r) E)) [true,true,true,true,true,true,true,false,true,false] ⟨[(5,(AV.sl 1 0 (List.length (r6.map o71)))),(6,(AV.sl 2 0 (List.length (r7.1.map o34)))),(7,(B r7.2)),(10,(I v14)),(48,(AV.sl 2 0 (List.length (r7.1.map o34)))),(49,(I (r7.1.length:Int))),(50,(I v15))],[(1,some ⟨71,5,(r6.map o71)⟩),(2,some ⟨34,1,(r7.1.map o34)⟩)],[1,2,JJ]⟩) {K1:Int→Option Bool} (hK1 : ∀ (v18:Int) (r:Bool),K1 v18=some r→WAt E Qp8 (FQ (Qdu Θ Try.f6.results.toList [] [] (B r) E)) [true,true,true,true,true,true,true,false,true,false,false,true,true,false,false,true,true,true,false] ⟨[(5,(AV.sl 1 0 (List.length (r6.map o71)))),(6,(AV.sl 2 0 (List.length ((r7.1.map o34).set (Int.toNat v15) [(AV.sl 1001 0 (List.length (x17.map o3)))])))),(7,(B r7.2)),(10,(I (w64 (v14+(x17.length:Int))))),(11,(I v15)),(12,(AV.sl 1001 0 (List.length (x17.map o3)))),(48,(AV.sl 2 0 (List.length ((r7.1.map o34).set (Int.toNat v15) [(AV.sl 1001 0 (List.length (x17.map o3)))])))),(49,(I (r7.1.length:Int))),(50,(I v15)),(59,(AV.sl 1001 0 (List.length (x17.map o3)))),(60,(I (x17.length:Int))),(61,(I v18))],[(1,some ⟨71,5,(r6.map o71)⟩),(2,some ⟨34,1,((r7.1.map o34).set (Int.toNat v15) [(AV.sl 1001 0 (List.length (x17.map o3)))])⟩),(1001,some ⟨3,1,(x17.map o3)⟩)],[1,2,1001,JJ]⟩) : ∀ (n:Nat) (v21:Int) (r:Bool),Qbd K0 K1 r6 r7 v14 v15 x17 v18 x20 n v21=some r→WAt E Qp8 (FQ (Qdu Θ Try.f6.results.toList [] [] (B r) E)) [true,true,true,true,true,true,true,false,true,false,false,true,true,false,false,true,true,true,false,false,true,true,false,false,true,true,false,true,false] ⟨[(5,(AV.sl 1 0 (List.length (r6.map o71)))),(6,(AV.sl 2 0 (List.length ((r7.1.map o34).set (Int.toNat v15) [(AV.sl 1001 0 (List.length (x17.map o3)))])))),(7,(B r7.2)),(10,(I (w64 (v14+(x17.length:Int))))),(11,(I v15)),(12,(AV.sl 1001 0 (List.length (x17.map o3)))),(14,(I x20)),(15,(B (v15 == 0))),(48,(AV.sl 2 0 (List.length ((r7.1.map o34).set (Int.toNat v15) [(AV.sl 1001 0 (List.length (x17.map o3)))])))),(49,(I (r7.1.length:Int))),(50,(I v15)),(59,(AV.sl 1001 0 (List.length (x17.map o3)))),(60,(I (x17.length:Int))),(61,(I v18)),(67,(AV.sl 1001 0 (List.length (x17.map o3)))),(68,(I (x17.length:Int))),(69,(I v21))],[(1,some ⟨71,5,(r6.map o71)⟩),(2,some ⟨34,1,((r7.1.map o34).set (Int.toNat v15) [(AV.sl 1001 0 (List.length (x17.map o3)))])⟩),(1001,some ⟨3,1,(x17.map o3)⟩)],[1,2,1001,JJ]⟩:=by
 intro n
 induction n with
 | zero=>intro v21 r h;simp only [Qbd] at h;cases h
 | succ n ih =>
  intro v21 r h
  simp only [Qbd] at h
  let Z0:=r6.map o71;let Z2:=(decide (v21<(x17.length:Int)));let Z3:=x17.map o3;let Z4:=AV.sl 1001 0 Z3.length;let Z5:=r7.1.map o34;let Z6:=Z5.set v15.toNat [Z4];let Z7:=[Z4].set 0 (AV.own 3 1 Z3);let Z8:=B false;let Z9:=w64 (v15 - 1)
  rcases itS h with ⟨c22,h⟩ | ⟨c34,h⟩
  ·obtain ⟨x23,hx23,h⟩:=bnS h
   obtain ⟨r25,hr25,h⟩:=bnS h
   let Z1:=AV.tup [(B r25.1),(B r25.2)]
   let H1:List Hn:=[hT 1,hh 3 (.row [(I x23)]),hh 8 (.callV [Z0] Z1)]
   let P2:List Prop:=[Z2=true,(0:Int)≤v21,v21<((Z3.length:Nat) : Int),Z3[v21.toNat]? = some [(I x23)],Qab Try.prog 46 [(AV.ro 5 Z0),(I x23),(I x20)] Z1,Qa8 Z1=true,Frz ((Z0.drop 0).take Z0.length) Z0]
   have AP2:Qb0 P2:=⟨c22,(rd0 hx23),(rdL o3 hx23),(rdM o3 hx23),(Qmu hr25),rfl,(Qlc t71 z71),trivial⟩
   rcases itS h with ⟨c26,h⟩ | ⟨c29,h⟩
   ·obtain ⟨x27,hx27,h⟩:=bnS h
    obtain ⟨q28,hq28,h⟩:=bnS h
    obtain rfl:=sj h
    exact gR hP hn (H1++[hO 16 (B true),hh 21 (.pack 2 1001 v15.toNat 0 [Z4] Z5)]) [] .raw (P2++[(B (!r25.2))=(B true),Z6[v15.toNat]? = some [Z4],[Z4][0]? = some Z4,Qa1 Z3=true,Z6.set v15.toNat Z7=Z5,Z8=Z8,Qa8 Z8=true]) (Qag AP2 ⟨(Qb5 c26),(Qcl (rdM o34 hx27)),rfl,(Qa7 t3),(Xao o34 (Xlb hx27 hq28)),rfl,rfl,trivial⟩)
   ·rcases itS h with ⟨c30,h⟩ | ⟨c33,h⟩
    ·obtain ⟨x31,hx31,h⟩:=bnS h
     obtain ⟨q32,hq32,h⟩:=bnS h
     obtain rfl:=sj h
     exact gR hP hn (H1++[hO 16 Z8,hT 19,hh 21 (.pack 2 1001 v15.toNat 0 [Z4] Z5)]) [] .raw (P2++[(B (!r25.2))=Z8,r25.1=true,Z6[v15.toNat]? = some [Z4],[Z4][0]? = some Z4,Qa1 Z3=true,Z6.set v15.toNat Z7=Z5,Z8=Z8,Qa8 Z8=true]) (Qag AP2 ⟨(Qb5 c29),c30,(Qcl (rdM o34 hx31)),rfl,(Qa7 t3),(Xao o34 (Xlb hx31 hq32)),rfl,rfl,trivial⟩)
    ·exact gT hP hn hx (H1++[hO 16 Z8,hF 19]) [(1,1),(2,2),(1001,1001)] [5,6,7,10,11,12,14,15,48,49,50,59,60,61,67,68,69] [] (P2++[(B (!r25.2))=Z8,r25.1=false,Qa6 [(1,1),(2,2),(1001,1001)] Z0,Qa6 [(1,1),(2,2),(1001,1001)] Z6,Qa6 [(1,1),(2,2),(1001,1001)] Z3]) (Qag AP2 ⟨(Qb5 c29),c33,(rok (Qa7 t71)),(Qg3 (rok (Qa7 t34)) rfl),(rok (Qa7 t3)),trivial⟩) (ih (w64 (v21+1)) _ h)
  ·rcases itS h with ⟨c35,h⟩ | ⟨c58,h⟩
   ·obtain ⟨x36,hx36,h⟩:=bnS h
    obtain ⟨x37,hx37,h⟩:=bnS h
    obtain ⟨q38,hq38,h⟩:=bnS h
    exact (let Z10:=x36.map o3;let Z11:=[(AV.own 3 1 Z10)];let Z12:=AV.sl 1002 0 Z10.length;let Z13:=Z6.set Z9.toNat [Z12];let Z14:=(I (x36.length:Int));gT hP hn hx [hF 1,hT 4,hh 9 (.unpack 2 1002 Z9.toNat 0 Z11 3 1 Z10 Z13),hh 9 (.row [Z12]),hO 10 Z14,hh 12 (.slen 6 Z13.length),hh 12 (.slen 48 Z13.length)] [(1,1),(2,2),(1001,1001),(1002,1002)] [5,6,7,10,11,12,14,15,48,49,50,59,60,61,92,93,94] [] [Z2=false,(decide (v15 > 0))=true,(0:Int)≤Z9,Z9<((Z6.length:Nat) : Int),Z6[Z9.toNat]? = some Z11,Z11[0]? = some (AV.own 3 1 Z10),0<1,Z6.set Z9.toNat (Z11.set 0 Z12)=Z13,Z13[Z9.toNat]? = some [Z12],AV.lit (.int .i64 ((Z10.length:Nat) : Int))=Z14,Z6.length=Z13.length,Z6.length=Z13.length,Qa6 [(1,1),(2,2),(1001,1001),(1002,1002)] Z0,Qa6 [(1,1),(2,2),(1001,1001),(1002,1002)] Z13,Qa6 [(1,1),(2,2),(1001,1001),(1002,1002)] Z3,Qa6 [(1,1),(2,2),(1001,1001),(1002,1002)] Z10] ⟨c34,c35,(rd0 hx36),(Qn1 o34 hx36),(Xad (neN hq38 (rd0 hx37) (rd0 hx36)) (rdM o34 hx36)),rfl,(by decide),rfl,(Qcl (Xad (neN hq38 (rd0 hx37) (rd0 hx36)) (rdM o34 hx36))),(Qfn o3),lnq,lnq,(rok (Qa7 t71)),(Qg3 (Qg3 (rok (Qa7 t34)) rfl) rfl),(rok (Qa7 t3)),(rok (Qa7 t3)),trivial⟩ (Qoh hP hn hx r6 r7 v14 v15 x17 v18 x20 x36 hK0 hK1 FU (v15 == 0) 0 _ h))
   ·exact gT hP hn hx [hF 1,hF 4] [(1,1),(2,2),(1001,1001)] [5,6,7,10,11,12,15,48,49,50,59,60,61] [] [Z2=false,(decide (v15 > 0))=false,Qa6 [(1,1),(2,2),(1001,1001)] Z0,Qa6 [(1,1),(2,2),(1001,1001)] Z6,Qa6 [(1,1),(2,2),(1001,1001)] Z3] ⟨c34,c58,(rok (Qa7 t71)),(Qg3 (rok (Qa7 t34)) rfl),(rok (Qa7 t3)),trivial⟩ (Qjg hP hn hx r6 r7 v14 v15 x17 v18 hK0 hK1 (v15 == 0) _ h)
noncomputable def Qc4 (K0:Int→Int→Option Bool) (r6:(List Qa5)) (r7:((List (List Int))×Bool)) (v14:Int) (v15:Int) (x17:(List Int)) : Nat→Int→Option Bool
 | 0,_=>none
 | n+1,v18 =>
 if (decide (v18<(x17.length:Int)))=true then
  Option.bind (rd x17 v18) fun x20 =>
  Qbd K0 (Qc4 K0 r6 r7 v14 v15 x17 n) r6 r7 v14 v15 x17 v18 x20 FU 0
 else
  Option.bind (rd r7.1 v15) fun x60 =>
  Option.bind (eqv x60 x17) fun q61 =>
  K0 (w64 (v14+(x17.length:Int))) (w64 (v15+1))
theorem Qot {E:Env} (hP:E.pk=pk0 Try.prog) (hn:E.n=125) (hx:FX E []) (r6:(List Qa5)) (r7:((List (List Int))×Bool)) (v14:Int) (v15:Int) (x17:(List Int)) {K0:Int→Int→Option Bool} (hK0 : ∀ (v14:Int) (v15:Int) (r:Bool),K0 v14 v15=some r→WAt E Qp8 (FQ (Qdu Θ Try.f6.results.toList [] [] (B r) E)) [true,true,true,true,true,true,true,false,true,false] ⟨[(5,(AV.sl 1 0 (List.length (r6.map o71)))),(6,(AV.sl 2 0 (List.length (r7.1.map o34)))),(7,(B r7.2)),(10,(I v14)),(48,(AV.sl 2 0 (List.length (r7.1.map o34)))),(49,(I (r7.1.length:Int))),(50,(I v15))],[(1,some ⟨71,5,(r6.map o71)⟩),(2,some ⟨34,1,(r7.1.map o34)⟩)],[1,2,JJ]⟩) : ∀ (n:Nat) (v18:Int) (r:Bool),Qc4 K0 r6 r7 v14 v15 x17 n v18=some r→WAt E Qp8 (FQ (Qdu Θ Try.f6.results.toList [] [] (B r) E)) [true,true,true,true,true,true,true,false,true,false,false,true,true,false,false,true,true,true,false] ⟨[(5,(AV.sl 1 0 (List.length (r6.map o71)))),(6,(AV.sl 2 0 (List.length ((r7.1.map o34).set (Int.toNat v15) [(AV.sl 1001 0 (List.length (x17.map o3)))])))),(7,(B r7.2)),(10,(I (w64 (v14+(x17.length:Int))))),(11,(I v15)),(12,(AV.sl 1001 0 (List.length (x17.map o3)))),(48,(AV.sl 2 0 (List.length ((r7.1.map o34).set (Int.toNat v15) [(AV.sl 1001 0 (List.length (x17.map o3)))])))),(49,(I (r7.1.length:Int))),(50,(I v15)),(59,(AV.sl 1001 0 (List.length (x17.map o3)))),(60,(I (x17.length:Int))),(61,(I v18))],[(1,some ⟨71,5,(r6.map o71)⟩),(2,some ⟨34,1,((r7.1.map o34).set (Int.toNat v15) [(AV.sl 1001 0 (List.length (x17.map o3)))])⟩),(1001,some ⟨3,1,(x17.map o3)⟩)],[1,2,1001,JJ]⟩:=by
 intro n
 induction n with
 | zero=>intro v18 r h;simp only [Qc4] at h;cases h
 | succ n ih =>
  intro v18 r h
  simp only [Qc4] at h
  let Z0:=(x17.length:Int);let Z1:=x17.map o3;let Z2:=((Z1.length:Nat) : Int);let Z3:=r7.1.map o34;let Z4:=AV.sl 1001 0 Z1.length;let Z5:=Z3.set v15.toNat [Z4]
  rcases itS h with ⟨c19,h⟩ | ⟨c59,h⟩
  ·obtain ⟨x20,hx20,h⟩:=bnS h
   exact gT hP hn hx [hT 1,hh 3 (.row [(I x20)]),hO 9 (I Z0)] [(1,1),(2,2),(1001,1001)] [5,6,7,10,11,12,14,15,48,49,50,59,60,61,67,68,69] [] [(decide (v18<Z0))=true,(0:Int)≤v18,v18<Z2,Z1[v18.toNat]? = some [(I x20)],AV.lit (.int .i64 Z2)=(I Z0),Qa6 [(1,1),(2,2),(1001,1001)] (r6.map o71),Qa6 [(1,1),(2,2),(1001,1001)] Z5,Qa6 [(1,1),(2,2),(1001,1001)] Z1] ⟨c19,(rd0 hx20),(rdL o3 hx20),(rdM o3 hx20),(Qfn o3),(rok (Qa7 t71)),(Qg3 (rok (Qa7 t34)) rfl),(rok (Qa7 t3)),trivial⟩ (Qok hP hn hx r6 r7 v14 v15 x17 v18 x20 hK0 ih FU 0 _ h)
  ·obtain ⟨x60,hx60,h⟩:=bnS h
   obtain ⟨q61,hq61,h⟩:=bnS h
   exact gT hP hn hx [hF 1,hh 4 (.pack 2 1001 v15.toNat 0 [Z4] Z3),hh 4 (.slen 6 Z3.length),hh 4 (.slen 48 Z3.length)] [(1,1),(2,2)] [5,6,7,10,48,49,50] [] [(decide (v18<Z0))=false,Z5[v15.toNat]? = some [Z4],[Z4][0]? = some Z4,Qa1 Z1=true,Z5.set v15.toNat ([Z4].set 0 (AV.own 3 1 Z1))=Z3,Z5.length=Z3.length,Z5.length=Z3.length,Qa6 [(1,1),(2,2)] (r6.map o71),Qa6 [(1,1),(2,2)] Z3] ⟨c59,(Qcl (rdM o34 hx60)),rfl,(Qa7 t3),(Xao o34 (Xlb hx60 hq61)),lnq,lnq,(rok (Qa7 t71)),(rok (Qa7 t34)),trivial⟩ (hK0 (w64 (v14+Z0)) (w64 (v15+1)) _ h)
noncomputable def Qbp  (r6:(List Qa5)) (r7:((List (List Int))×Bool)) : Nat→Int→Int→Option Bool
 | 0,_,_=>none
 | n+1,v14,v15 =>
 if (decide (v15<(r7.1.length:Int)))=true then
  Option.bind (rd r7.1 v15) fun x17 =>
  Qc4 (Qbp r6 r7 n) r6 r7 v14 v15 x17 FU 0
 else
  if (!r7.2)=true then
   some true
  else
   some (v14 == (r6.length:Int))
theorem Qoy {E:Env} (hP:E.pk=pk0 Try.prog) (hn:E.n=125) (hx:FX E []) (r6:(List Qa5)) (r7:((List (List Int))×Bool))  : ∀ (n:Nat) (v14:Int) (v15:Int) (r:Bool),Qbp r6 r7 n v14 v15=some r→WAt E Qp8 (FQ (Qdu Θ Try.f6.results.toList [] [] (B r) E)) [true,true,true,true,true,true,true,false,true,false] ⟨[(5,(AV.sl 1 0 (List.length (r6.map o71)))),(6,(AV.sl 2 0 (List.length (r7.1.map o34)))),(7,(B r7.2)),(10,(I v14)),(48,(AV.sl 2 0 (List.length (r7.1.map o34)))),(49,(I (r7.1.length:Int))),(50,(I v15))],[(1,some ⟨71,5,(r6.map o71)⟩),(2,some ⟨34,1,(r7.1.map o34)⟩)],[1,2,JJ]⟩:=by
 intro n
 induction n with
 | zero=>intro v14 v15 r h;simp only [Qbp] at h;cases h
 | succ n ih =>
  intro v14 v15 r h
  simp only [Qbp] at h
  let Z2:=r7.1.map o34;let Z6:=(decide (v15<(r7.1.length:Int)));let Z8:=(I (r6.length:Int));let Z9:=(B (v14 == (r6.length:Int)))
  rcases itS h with ⟨c16,h⟩ | ⟨c62,h⟩
  ·obtain ⟨x17,hx17,h⟩:=bnS h
   exact (let Z0:=x17.map o3;let Z1:=[(AV.own 3 1 Z0)];let Z3:=AV.sl 1001 0 Z0.length;let Z4:=Z2.set v15.toNat [Z3];let Z5:=(I (x17.length:Int));let Z7:=((Z0.length:Nat) : Int);gT hP hn hx [hT 1,hh 4 (.unpack 2 1001 v15.toNat 0 Z1 3 1 Z0 Z4),hh 4 (.row [Z3]),hO 9 Z5,hO 13 Z5,hh 15 (.slen 6 Z4.length),hh 15 (.slen 48 Z4.length)] [(1,1),(2,2),(1001,1001)] [5,6,7,10,11,12,48,49,50,59,60,61] [] [Z6=true,(0:Int)≤v15,v15<((Z2.length:Nat) : Int),Z2[v15.toNat]? = some Z1,Z1[0]? = some (AV.own 3 1 Z0),0<1,Z2.set v15.toNat (Z1.set 0 Z3)=Z4,Z4[v15.toNat]? = some [Z3],AV.lit (.int .i64 Z7)=Z5,AV.lit (.int .i64 Z7)=Z5,Z2.length=Z4.length,Z2.length=Z4.length,Qa6 [(1,1),(2,2),(1001,1001)] (r6.map o71),Qa6 [(1,1),(2,2),(1001,1001)] Z4,Qa6 [(1,1),(2,2),(1001,1001)] Z0] ⟨c16,(rd0 hx17),(rdL o34 hx17),(rdM o34 hx17),rfl,(by decide),rfl,(Qcl (rdM o34 hx17)),(Qfn o3),(Qfn o3),lnq,lnq,(rok (Qa7 t71)),(Qg3 (rok (Qa7 t34)) rfl),(rok (Qa7 t3)),trivial⟩ (Qot hP hn hx r6 r7 v14 v15 x17 ih FU 0 _ h))
  ·rcases itS h with ⟨c63,h⟩ | ⟨c64,h⟩
   ·obtain rfl:=sj h
    exact gR hP hn [hF 1,hO 4 (B true)] [] .raw [Z6=false,(B (!r7.2))=(B true),(B true)=(B true),Qa8 (B true)=true] ⟨c62,(Qb5 c63),rfl,rfl,trivial⟩
   ·obtain rfl:=sj h
    exact gR hP hn [hF 1,hO 4 (B false),hO 7 Z8] [] .raw [Z6=false,(B (!r7.2))=(B false),AV.lit (.int .i64 (((r6.map o71).length:Nat) : Int))=Z8,Z9=Z9,Qa8 Z9=true] ⟨c62,(Qb5 c64),(Qfn o71),rfl,rfl,trivial⟩
noncomputable def Qie (p1:(List Int)) (p2:(List Int)) : Option Bool:=
 Option.bind (Qol p1 p2) fun r3 =>
 if r3=true then
  some true
 else
  Option.bind (Qen p1) fun r6 =>
  Option.bind (Qim r6) fun r7 =>
  Option.bind (Qif r6) fun r8 =>
  if (!(r7.2 == r8.2))=true then
   some false
  else
   Option.bind (Qgb r7.1 r8.1) fun r11 =>
   if (!r11)=true then
    some false
   else
    Qbp r6 r7 FU 0 0
theorem Qr0 {p1:(List Int)} {p2:(List Int)} {r:Bool} (h:Qie p1 p2=some r) : Qab Try.prog 6 [(AV.ro 1 (p1.map o5)),(AV.ro 1 (p2.map o5))] (B r):=by
 refine gM Try.func6 125 Qp8 fun E hP hn hx=>?_
 unfold Qie at h
 obtain ⟨r3,hr3,h⟩:=bnS h
 let Z0:=AV.ro 1 (p1.map o5);let Z9:=B false
 let H1:List Hn:=[hh 3 (.callV [] (B r3))]
 let P2:List Prop:=[Qab Try.prog 22 [Z0,(AV.ro 1 (p2.map o5))] (B r3),Qa8 (B r3)=true]
 have AP2:Qb0 P2:=⟨(Xak hr3),rfl,trivial⟩
 rcases itS h with ⟨c4,h⟩ | ⟨c5,h⟩
 ·obtain rfl:=sj h
  exact gR hP hn (H1++[hT 4]) [] .raw (P2++[r3=true,(B true)=(B true),Qa8 (B true)=true]) (Qag AP2 ⟨c4,rfl,rfl,trivial⟩)
 ·obtain ⟨r6,hr6,h⟩:=bnS h
  obtain ⟨r7,hr7,h⟩:=bnS h
  obtain ⟨r8,hr8,h⟩:=bnS h
  let Z1:=r6.map o71;let Z2:=AV.own 71 5 Z1;let Z3:=r7.1.map o34;let Z4:=AV.tup [(AV.own 34 1 Z3),(B r7.2)];let Z5:=r8.1.map o34;let Z6:=AV.tup [(AV.own 34 1 Z5),(B r8.2)];let Z7:=(Z1.drop 0).take Z1.length;let Z8:=B (!(r7.2 == r8.2));let Z10:=r7.1.map r34;let Z11:=r8.1.map r34;let Z12:=(I (r7.1.length:Int))
  let H3:List Hn:=H1++[hF 4,hh 6 (.call [] Z2 [1001]),hh 9 (.call [Z1] Z4 [1002]),hh 16 (.call [Z1] Z6 [1003])]
  let P4:List Prop:=P2++[r3=false,Qab Try.prog 42 [Z0] Z2,Qez Z2=true,Qab Try.prog 43 [(AV.ro 5 Z1)] Z4,Qez Z4=true,Frz Z7 Z1,Qab Try.prog 44 [(AV.ro 5 Z1)] Z6,Qez Z6=true,Frz Z7 Z1]
  have AP4:Qb0 P4:=Qag AP2 ⟨c5,(Qne hr6),(by simp +zetaDelta only [Qez,Qcw,Qaa n71,Bool.and_self]),(Qsc hr7),(by simp +zetaDelta only [Qez,Qcw,Qaa n34,Bool.and_self]),(Qlc t71 z71),(Qrc hr8),(by simp +zetaDelta only [Qez,Qcw,Qaa n34,Bool.and_self]),(Qlc t71 z71),trivial⟩
  rcases itS h with ⟨c9,h⟩ | ⟨c10,h⟩
  ·obtain rfl:=sj h
   exact gR hP hn (H3++[hO 25 (B true)]) [] .raw (P4++[Z8=(B true),Z9=Z9,Qa8 Z9=true]) (Qag AP4 ⟨(Qb5 c9),rfl,rfl,trivial⟩)
  ·obtain ⟨r11,hr11,h⟩:=bnS h
   let H5:List Hn:=H3++[hO 25 Z9,hh 28 (.callV [Z10,Z11] (B r11))]
   let P6:List Prop:=P4++[Z8=Z9,Qab Try.prog 45 [(AV.ro 1 Z10),(AV.ro 1 Z11)] (B r11),Qa8 (B r11)=true,Frz ((Z3.drop 0).take Z3.length) Z10,Frz ((Z5.drop 0).take Z5.length) Z11]
   have AP6:Qb0 P6:=Qag AP4 ⟨(Qb5 c10),(Qqn hr11),rfl,(Qlc t34 z34),(Qlc t34 z34),trivial⟩
   rcases itS h with ⟨c12,h⟩ | ⟨c13,h⟩
   ·obtain rfl:=sj h
    exact gR hP hn (H5++[hT 31]) [] .raw (P6++[(!r11)=true,Z9=Z9,Qa8 Z9=true]) (Qag AP6 ⟨c12,rfl,rfl,trivial⟩)
   ·exact gT hP hn hx (H5++[hF 31,hO 34 Z12]) [(1001,1),(1002,2)] [5,6,7,10,48,49,50] [] (P6++[(!r11)=false,AV.lit (.int .i64 ((Z3.length:Nat) : Int))=Z12,Qa6 [(1001,1),(1002,2)] Z1,Qa6 [(1001,1),(1002,2)] Z3]) (Qag AP6 ⟨c13,(Qfn o34),(rok (Qa7 t71)),(rok (Qa7 t34)),trivial⟩) (Qoy hP hn hx r6 r7 FU 0 0 _ h)
end Go.Proofs.Ytdmmaanagmacjaa
