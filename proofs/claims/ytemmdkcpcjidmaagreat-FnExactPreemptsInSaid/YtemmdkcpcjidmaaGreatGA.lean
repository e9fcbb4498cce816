/- Functions as plain data, and that the code comes to them; no condition. -/

import Derived.Test.YtemmdkcpcjidmaaGreatGT
import Derived.Test.YtemmdkcpcjidmaaGreatBN
set_option linter.unusedVariables false
set_option maxRecDepth 100000
namespace Go.Proofs.YtemmdkcpcjidmaaGreat
open Go Go.T
noncomputable def Xni:Code:=match Tryz.f95.body with | some c=>c | none=>.skip
noncomputable def Qge (p1:Int) (p2:Int) (p3:Int) : Option Bool:=
 if (decide (p2≤p1))=true then
  some (decide (p1≤p3))
 else
  some false
theorem Qeo {p1:Int} {p2:Int} {p3:Int} {r:Bool} (h:Qge p1 p2 p3=some r) : Qa4 Tryz.prog 95 [(I p1),(I p2),(I p3)] (B r):=by
 refine gM Tryz.func95 15 Xni fun E hP hn hx=>?_
 unfold Qge at h
 let Z0:=B (decide (p2≤p1));let Z1:=B (decide (p1≤p3));let Z2:=B false
 rcases itS h with ⟨c4,h⟩ | ⟨c5,h⟩
 ·obtain rfl:=sj h
  exact gR hP hn [hO 4 (B true)] [] .raw [Z0=(B true),Z1=Z1,Qa3 Z1=true] ⟨(Qau c4),rfl,rfl,trivial⟩
 ·obtain rfl:=sj h
  exact gR hP hn [hO 4 Z2] [] .raw [Z0=Z2,Z2=Z2,Qa3 Z2=true] ⟨(Qau c5),rfl,rfl,trivial⟩
noncomputable def Xh9:Code:=match Tryz.f225.body with | some c=>c | none=>.skip
noncomputable def Qbo  (p1:GOp) (v3:Bool) : Option Int:=
 if v3=true then
  some 1
 else
  if (p1.Code == 16)=true then
   some 2
  else
   some 0
theorem Qcf {E:Env} (hP:E.pk=pk0 Tryz.prog) (hn:E.n=16) (hx:FX E []) (p1:GOp)  (v3:Bool) (r:Int) (h:Qbo p1 v3=some r) : WAt E Xh9 (FQ (Qdj Θ Tryz.f225.results.toList [] [] (I r) E)) [true,false,true,false,true] ⟨[(4,(I p1.Code)),(5,(B v3))],[],[JJ]⟩:=by
 unfold Qbo at h
 rcases itS h with ⟨c4,h⟩ | ⟨c5,h⟩
 ·obtain rfl:=sj h
  exact gR hP hn [hT 0] [] .raw [v3=true,(I 1)=(I 1),Qa3 (I 1)=true] ⟨c4,rfl,rfl,trivial⟩
 ·rcases itS h with ⟨c6,h⟩ | ⟨c7,h⟩
  ·obtain rfl:=sj h
   exact gR hP hn [hF 0,hT 3] [] .raw [v3=false,(p1.Code == 16)=true,(I 2)=(I 2),Qa3 (I 2)=true] ⟨c5,c6,rfl,rfl,trivial⟩
  ·obtain rfl:=sj h
   exact gR hP hn [hF 0,hF 3] [] .raw [v3=false,(p1.Code == 16)=false,(I 0)=(I 0),Qa3 (I 0)=true] ⟨c5,c7,rfl,rfl,trivial⟩
noncomputable def Qi3 (p1:GOp) : Option Int:=
 if (p1.Code == 2)=true then
  Qbo p1 (p1.Code == 2)
 else
  if (p1.Code == 3)=true then
   Qbo p1 (p1.Code == 3)
  else
   if (p1.Code == 10)=true then
    Qbo p1 (p1.Code == 10)
   else
    if (p1.Code == 11)=true then
     Qbo p1 (p1.Code == 11)
    else
     if (p1.Code == 12)=true then
      Qbo p1 (p1.Code == 12)
     else
      if (p1.Code == 13)=true then
       Qbo p1 (p1.Code == 13)
      else
       if (p1.Code == 14)=true then
        Qbo p1 (p1.Code == 14)
       else
        Qbo p1 (p1.Code == 17)
theorem Qvm {p1:GOp} {r:Int} (h:Qi3 p1=some r) : Qa4 Tryz.prog 225 [(AV.agg ((Qbj p1)))] (I r):=by
 refine gM Tryz.func225 16 Xh9 fun E hP hn hx=>?_
 unfold Qi3 at h
 let Z0:=p1.Code == 2;let Z1:=p1.Code == 3;let Z2:=p1.Code == 10;let Z3:=p1.Code == 11;let Z4:=p1.Code == 12;let Z5:=p1.Code == 13;let Z6:=p1.Code == 14
 let H1:List Hn:=[hW 0 1001]
 rcases itS h with ⟨c2,h⟩ | ⟨c8,h⟩
 ·exact gT hP hn hx (H1++[hT 6]) [] [4,5] [] [Z0=true] ⟨c2,trivial⟩ (Qcf hP hn hx p1 Z0 _ h)
 ·let P2:List Prop:=[Z0=false]
  have AP2:Qam P2:=⟨c8,trivial⟩
  rcases itS h with ⟨c9,h⟩ | ⟨c10,h⟩
  ·exact gT hP hn hx (H1++[hF 6,hT 9]) [] [4,5] [] (P2++[Z1=true]) (Qa7 AP2 ⟨c9,trivial⟩) (Qcf hP hn hx p1 Z1 _ h)
  ·let P3:List Prop:=P2++[Z1=false]
   have AP3:Qam P3:=Qa7 AP2 ⟨c10,trivial⟩
   rcases itS h with ⟨c11,h⟩ | ⟨c12,h⟩
   ·exact gT hP hn hx (H1++[hF 6,hF 9,hT 12]) [] [4,5] [] (P3++[Z2=true]) (Qa7 AP3 ⟨c11,trivial⟩) (Qcf hP hn hx p1 Z2 _ h)
   ·let P4:List Prop:=P3++[Z2=false]
    have AP4:Qam P4:=Qa7 AP3 ⟨c12,trivial⟩
    rcases itS h with ⟨c13,h⟩ | ⟨c14,h⟩
    ·exact gT hP hn hx (H1++[hF 6,hF 9,hF 12,hT 15]) [] [4,5] [] (P4++[Z3=true]) (Qa7 AP4 ⟨c13,trivial⟩) (Qcf hP hn hx p1 Z3 _ h)
    ·rcases itS h with ⟨c15,h⟩ | ⟨c16,h⟩
     ·exact gT hP hn hx (H1++[hF 6,hF 9,hF 12,hF 15,hT 18]) [] [4,5] [] (P4++[Z3=false,Z4=true]) (Qa7 AP4 ⟨c14,c15,trivial⟩) (Qcf hP hn hx p1 Z4 _ h)
     ·let P5:List Prop:=P4++[Z3=false,Z4=false]
      have AP5:Qam P5:=Qa7 AP4 ⟨c14,c16,trivial⟩
      rcases itS h with ⟨c17,h⟩ | ⟨c18,h⟩
      ·exact gT hP hn hx (H1++[hF 6,hF 9,hF 12,hF 15,hF 18,hT 21]) [] [4,5] [] (P5++[Z5=true]) (Qa7 AP5 ⟨c17,trivial⟩) (Qcf hP hn hx p1 Z5 _ h)
      ·rcases itS h with ⟨c19,h⟩ | ⟨c20,h⟩
       ·exact gT hP hn hx (H1++[hF 6,hF 9,hF 12,hF 15,hF 18,hF 21,hT 24]) [] [4,5] [] (P5++[Z5=false,Z6=true]) (Qa7 AP5 ⟨c18,c19,trivial⟩) (Qcf hP hn hx p1 Z6 _ h)
       ·exact gT hP hn hx (H1++[hF 6,hF 9,hF 12,hF 15,hF 18,hF 21,hF 24]) [] [4,5] [] (P5++[Z5=false,Z6=false]) (Qa7 AP5 ⟨c18,c20,trivial⟩) (Qcf hP hn hx p1 (p1.Code == 17) _ h)
section
open Go.RowKit
theorem Xig (m:Nat) (w:World) : (callFunc 181 #[.float .f64 m]).run Tryz.prog w = .ok (.value (.int .u64 (m:Int))) w:=by
 rw [run_callFunc_extern Tryz.func181 (by kernel_rfl) (by kernel_rfl) (by kernel_rfl) (e:=Extern.MathFloatBits.float64bits) (by kernel_rfl)];rfl
theorem Xdp (m n:Nat) (w:World) : Calls Tryz.prog 112 #[.float .f64 m,.float .f64 n] w fun e w'=>e = .returned (.bool (Qj8 m n))∧w'=w:=by
  have hB:=Xig
  have hi:((m:Int) == (n:Int))=(m == n):=by rw [Bool.eq_iff_iff,beq_iff_eq,beq_iff_eq];exact ⟨fun h=>by omega,fun h=>by omega⟩
  have hs:Qj8 m n=((Ql4 m && Ql4 n) || m == n):=rfl
  rw [hs]
  go_enter Tryz.func112,Tryz.ntmps112
  go_wp2
  all_goals first
    | (rename_i K ha
       rw [hB,Oper.upon_value]
       refine ha _ _ ?_
       clear ha
       go_wp2
       rename_i K2 ha2
       rw [hB,Oper.upon_value]
       refine ha2 _ _ ?_
       clear ha2
       go_wp2)
    | skip
  all_goals
    have c1:=Xex m
    have c2:=Xex n
    have d1:FloatKind.f64.format.order m m=some .eq↔Ql4 m=false:=by rw [← c1];simp
    have d2:FloatKind.f64.format.order n n=some .eq↔Ql4 n=false:=by rw [← c2];simp
    go_ret
    cases h1:Ql4 m <;> cases h2:Ql4 n <;> simp_all
end
noncomputable def Qdf (p1:Nat) (p2:Nat) : Option Bool:=
 some (Qj8 p1 p2)
theorem Qg7 {p1:Nat} {p2:Nat} {r:Bool} (h:Qdf p1 p2=some r) : Qa4 Tryz.prog 112 [(FK p1),(FK p2)] (B r):=by
 cases h
 exact Xd7 (Go.Proofs.enters_of Tryz.func112 rfl rfl) Xdp
noncomputable def Xn3:Code:=match Tryz.f201.body with | some c=>c | none=>.skip
noncomputable def Qla (p1:GOp) : Option Bool:=
 Option.bind (Qi3 p1) fun r2 =>
 Option.bind (Qge p1.Code 1 17) fun r3 =>
 if r3=true then
  if (decide (r2 > 0))=true then
   if (decide (r2 > 1))=true then
    if (p1.Code == 1)=true then
     some true
    else
     Option.bind (Qdf p1.V 0) fun r9 =>
     some r9
   else
    if (p1.B == 0)=true then
     if (p1.Code == 1)=true then
      some true
     else
      Option.bind (Qdf p1.V 0) fun r14 =>
      some r14
    else
     some false
  else
   if (p1.A == 0)=true then
    if (decide (r2 > 1))=true then
     if (p1.Code == 1)=true then
      some true
     else
      Option.bind (Qdf p1.V 0) fun r21 =>
      some r21
    else
     if (p1.B == 0)=true then
      if (p1.Code == 1)=true then
       some true
      else
       Option.bind (Qdf p1.V 0) fun r33 =>
       some r33
     else
      some false
   else
    some false
 else
  some false
theorem Qw8 {p1:GOp} {r:Bool} (h:Qla p1=some r) : Qa4 Tryz.prog 201 [(AV.agg ((Qbj p1)))] (B r):=by
 refine gM Tryz.func201 37 Xn3 fun E hP hn hx=>?_
 unfold Qla at h
 obtain ⟨r2,hr2,h⟩:=bnS h
 obtain ⟨r3,hr3,h⟩:=bnS h
 let Z0:=B true;let Z1:=B (decide (r2 > 0));let Z2:=B (decide (r2 > 1));let Z3:=B (p1.Code == 1);let Z4:=B false;let Z5:=B (p1.B == 0)
 let H1:List Hn:=[hW 0 1001,hh 3 (.callV [[]] (I r2)),hh 7 (.callV [] (B r3))]
 let P2:List Prop:=[Qa4 Tryz.prog 225 [(AV.agg ((Qbj p1)))] (I r2),Qa3 (I r2)=true,Qa4 Tryz.prog 95 [(I p1.Code),(I 1),(I 17)] (B r3),Qa3 (B r3)=true]
 have AP2:Qam P2:=⟨(Qvm hr2),rfl,(Qeo hr3),rfl,trivial⟩
 rcases itS h with ⟨c4,h⟩ | ⟨c36,h⟩
 ·let H3:List Hn:=H1++[hO 8 Z0]
  let P4:List Prop:=P2++[(B r3)=Z0]
  have AP4:Qam P4:=Qa7 AP2 ⟨(Qau c4),trivial⟩
  rcases itS h with ⟨c5,h⟩ | ⟨c16,h⟩
  ·let P5:List Prop:=P4++[Z1=Z0]
   have AP5:Qam P5:=Qa7 AP4 ⟨(Qau c5),trivial⟩
   rcases itS h with ⟨c6,h⟩ | ⟨c10,h⟩
   ·rcases itS h with ⟨c7,h⟩ | ⟨c8,h⟩
    ·obtain rfl:=sj h
     exact gR hP hn (H3++[hO 11 Z0,hO 20 Z0,hO 30 Z0]) [] .raw (P5++[Z2=Z0,Z3=Z0,Z0=Z0,Qa3 Z0=true]) (Qa7 AP5 ⟨(Qau c6),(Qau c7),rfl,rfl,trivial⟩)
    ·obtain ⟨r9,hr9,h⟩:=bnS h
     obtain rfl:=sj h
     exact gR hP hn (H3++[hO 11 Z0,hO 20 Z0,hO 30 Z4,hh 33 (.callV [] (B r9))]) [] .raw (P5++[Z2=Z0,Z3=Z4,Qa4 Tryz.prog 112 [(FK p1.V),(FK 0)] (B r9),Qa3 (B r9)=true,(B r9)=(B r9),Qa3 (B r9)=true]) (Qa7 AP5 ⟨(Qau c6),(Qau c8),(Qg7 hr9),rfl,rfl,rfl,trivial⟩)
   ·rcases itS h with ⟨c11,h⟩ | ⟨c15,h⟩
    ·rcases itS h with ⟨c12,h⟩ | ⟨c13,h⟩
     ·obtain rfl:=sj h
      exact gR hP hn (H3++[hO 11 Z0,hO 20 Z4,hO 26 Z0,hO 30 Z0]) [] .raw (P5++[Z2=Z4,Z5=Z0,Z3=Z0,Z0=Z0,Qa3 Z0=true]) (Qa7 AP5 ⟨(Qau c10),(Qau c11),(Qau c12),rfl,rfl,trivial⟩)
     ·obtain ⟨r14,hr14,h⟩:=bnS h
      obtain rfl:=sj h
      exact gR hP hn (H3++[hO 11 Z0,hO 20 Z4,hO 26 Z0,hO 30 Z4,hh 33 (.callV [] (B r14))]) [] .raw (P5++[Z2=Z4,Z5=Z0,Z3=Z4,Qa4 Tryz.prog 112 [(FK p1.V),(FK 0)] (B r14),Qa3 (B r14)=true,(B r14)=(B r14),Qa3 (B r14)=true]) (Qa7 AP5 ⟨(Qau c10),(Qau c11),(Qau c13),(Qg7 hr14),rfl,rfl,rfl,trivial⟩)
    ·obtain rfl:=sj h
     exact gR hP hn (H3++[hO 11 Z0,hO 20 Z4,hO 26 Z4]) [] .raw (P5++[Z2=Z4,Z5=Z4,Z4=Z4,Qa3 Z4=true]) (Qa7 AP5 ⟨(Qau c10),(Qau c15),rfl,rfl,trivial⟩)
  ·let H6:List Hn:=H3++[hO 11 Z4]
   let P7:List Prop:=P4++[Z1=Z4]
   have AP7:Qam P7:=Qa7 AP4 ⟨(Qau c16),trivial⟩
   rcases itS h with ⟨c17,h⟩ | ⟨c35,h⟩
   ·let P8:List Prop:=P7++[(B (p1.A == 0))=Z0]
    have AP8:Qam P8:=Qa7 AP7 ⟨(Qau c17),trivial⟩
    rcases itS h with ⟨c18,h⟩ | ⟨c22,h⟩
    ·rcases itS h with ⟨c19,h⟩ | ⟨c20,h⟩
     ·obtain rfl:=sj h
      exact gR hP hn (H6++[hO 17 Z0,hO 20 Z0,hO 30 Z0]) [] .raw (P8++[Z2=Z0,Z3=Z0,Z0=Z0,Qa3 Z0=true]) (Qa7 AP8 ⟨(Qau c18),(Qau c19),rfl,rfl,trivial⟩)
     ·obtain ⟨r21,hr21,h⟩:=bnS h
      obtain rfl:=sj h
      exact gR hP hn (H6++[hO 17 Z0,hO 20 Z0,hO 30 Z4,hh 33 (.callV [] (B r21))]) [] .raw (P8++[Z2=Z0,Z3=Z4,Qa4 Tryz.prog 112 [(FK p1.V),(FK 0)] (B r21),Qa3 (B r21)=true,(B r21)=(B r21),Qa3 (B r21)=true]) (Qa7 AP8 ⟨(Qau c18),(Qau c20),(Qg7 hr21),rfl,rfl,rfl,trivial⟩)
    ·rcases itS h with ⟨c23,h⟩ | ⟨c34,h⟩
     ·rcases itS h with ⟨c24,h⟩ | ⟨c25,h⟩
      ·obtain rfl:=sj h
       exact gR hP hn (H6++[hO 17 Z0,hO 20 Z4,hO 26 Z0,hO 30 Z0]) [] .raw (P8++[Z2=Z4,Z5=Z0,Z3=Z0,Z0=Z0,Qa3 Z0=true]) (Qa7 AP8 ⟨(Qau c22),(Qau c23),(Qau c24),rfl,rfl,trivial⟩)
      ·obtain ⟨r33,hr33,h⟩:=bnS h
       obtain rfl:=sj h
       exact gR hP hn (H6++[hO 17 Z0,hO 20 Z4,hO 26 Z0,hO 30 Z4,hh 33 (.callV [] (B r33))]) [] .raw (P8++[Z2=Z4,Z5=Z0,Z3=Z4,Qa4 Tryz.prog 112 [(FK p1.V),(FK 0)] (B r33),Qa3 (B r33)=true,(B r33)=(B r33),Qa3 (B r33)=true]) (Qa7 AP8 ⟨(Qau c22),(Qau c23),(Qau c25),(Qg7 hr33),rfl,rfl,rfl,trivial⟩)
     ·obtain rfl:=sj h
      exact gR hP hn (H6++[hO 17 Z0,hO 20 Z4,hO 26 Z4]) [] .raw (P8++[Z2=Z4,Z5=Z4,Z4=Z4,Qa3 Z4=true]) (Qa7 AP8 ⟨(Qau c22),(Qau c34),rfl,rfl,trivial⟩)
   ·obtain rfl:=sj h
    exact gR hP hn (H6++[hO 17 Z4]) [] .raw (P7++[(B (p1.A == 0))=Z4,Z4=Z4,Qa3 Z4=true]) (Qa7 AP7 ⟨(Qau c35),rfl,rfl,trivial⟩)
 ·obtain rfl:=sj h
  exact gR hP hn (H1++[hO 8 Z4]) [] .raw (P2++[(B r3)=Z4,Z4=Z4,Qa3 Z4=true]) (Qa7 AP2 ⟨(Qau c36),rfl,rfl,trivial⟩)
noncomputable def Qy2:Code:=match Tryz.f150.body with | some c=>c | none=>.skip
noncomputable def Qe4  (p1:Qaf) (p2:GOp) (v18:Bool) : Option Bool:=
 if v18=true then
  Option.bind (Qge p2.A 0 (w64 (p1.Locks - 1))) fun r20 =>
  some r20
 else
  if (p2.Code == 14)=true then
   Option.bind (Qge p2.A 0 (w64 ((p1.Routines.length:Int) - 1))) fun r33 =>
   some r33
  else
   if (p2.Code == 16)=true then
    Option.bind (Qge p2.A 0 (w64 (p1.Conds - 1))) fun r36 =>
    if r36=true then
     Option.bind (Qge p2.B 0 (w64 (p1.Locks - 1))) fun r40 =>
     some r40
    else
     some false
   else
    if (p2.Code == 17)=true then
     Option.bind (Qge p2.A 0 (w64 (p1.Conds - 1))) fun r47 =>
     some r47
    else
     some true
theorem Qjo {E:Env} (hP:E.pk=pk0 Tryz.prog) (hn:E.n=70) (hx:FX E []) (p1:Qaf) (p2:GOp)  (v18:Bool) (r:Bool) (h:Qe4 p1 p2 v18=some r) : WAt E Qy2 (FQ (Qdj Θ Tryz.f150.results.toList [] [] (B r) E)) [true,true,false,true,false,true,true,true,true,true] ⟨[(3,(AV.ptr 1 0 0)),(4,(AV.ptr 2 0 0)),(11,(I p2.Code)),(28,(B v18))],[(1,some ⟨39,4,[((r39 p1))]⟩),(2,some ⟨156,4,[((Qbj p2))]⟩)],[1,2,JJ]⟩:=by
 unfold Qe4 at h
 let Z0:=I (w64 (p1.Locks - 1));let Z1:=(p1.Routines.length:Int);let Z2:=p2.Code == 16;let Z3:=[(I p2.A),(I 0),(I (w64 (p1.Conds - 1)))];let Z4:=B false
 rcases itS h with ⟨c19,h⟩ | ⟨c21,h⟩
 ·obtain ⟨r20,hr20,h⟩:=bnS h
  obtain rfl:=sj h
  exact gR hP hn [hT 0,hh 6 (.callV [] (B r20))] [] .raw [v18=true,Qa4 Tryz.prog 95 [(I p2.A),(I 0),Z0] (B r20),Qa3 (B r20)=true,(B r20)=(B r20),Qa3 (B r20)=true] ⟨c19,(Qeo hr20),rfl,rfl,rfl,trivial⟩
 ·rcases itS h with ⟨c22,h⟩ | ⟨c34,h⟩
  ·obtain ⟨r33,hr33,h⟩:=bnS h
   obtain rfl:=sj h
   exact gR hP hn [hF 0,hT 3,hO 8 (I Z1),hh 10 (.callV [] (B r33))] [] .raw [v18=false,(p2.Code == 14)=true,AV.lit (.int .i64 (((p1.Routines.map Qho).length:Nat) : Int))=(I Z1),Qa4 Tryz.prog 95 [(I p2.A),(I 0),(I (w64 (Z1 - 1)))] (B r33),Qa3 (B r33)=true,(B r33)=(B r33),Qa3 (B r33)=true] ⟨c21,c22,(Qby Qho),(Qeo hr33),rfl,rfl,rfl,trivial⟩
  ·let P1:List Prop:=[v18=false,(p2.Code == 14)=false]
   have AP1:Qam P1:=⟨c21,c34,trivial⟩
   rcases itS h with ⟨c35,h⟩ | ⟨c42,h⟩
   ·obtain ⟨r36,hr36,h⟩:=bnS h
    let P2:List Prop:=P1++[Z2=true,Qa4 Tryz.prog 95 Z3 (B r36),Qa3 (B r36)=true]
    have AP2:Qam P2:=Qa7 AP1 ⟨c35,(Qeo hr36),rfl,trivial⟩
    rcases itS h with ⟨c37,h⟩ | ⟨c41,h⟩
    ·obtain ⟨r40,hr40,h⟩:=bnS h
     obtain rfl:=sj h
     exact gR hP hn [hF 0,hF 3,hT 6,hh 12 (.callV [] (B r36)),hO 13 (B true),hh 19 (.callV [] (B r40))] [] .raw (P2++[(B r36)=(B true),Qa4 Tryz.prog 95 [(I p2.B),(I 0),Z0] (B r40),Qa3 (B r40)=true,(B r40)=(B r40),Qa3 (B r40)=true]) (Qa7 AP2 ⟨(Qau c37),(Qeo hr40),rfl,rfl,rfl,trivial⟩)
    ·obtain rfl:=sj h
     exact gR hP hn [hF 0,hF 3,hT 6,hh 12 (.callV [] (B r36)),hO 13 Z4] [] .raw (P2++[(B r36)=Z4,Z4=Z4,Qa3 Z4=true]) (Qa7 AP2 ⟨(Qau c41),rfl,rfl,trivial⟩)
   ·rcases itS h with ⟨c43,h⟩ | ⟨c48,h⟩
    ·obtain ⟨r47,hr47,h⟩:=bnS h
     obtain rfl:=sj h
     exact gR hP hn [hF 0,hF 3,hF 6,hT 9,hh 15 (.callV [] (B r47))] [] .raw (P1++[Z2=false,(p2.Code == 17)=true,Qa4 Tryz.prog 95 Z3 (B r47),Qa3 (B r47)=true,(B r47)=(B r47),Qa3 (B r47)=true]) (Qa7 AP1 ⟨c42,c43,(Qeo hr47),rfl,rfl,rfl,trivial⟩)
    ·obtain rfl:=sj h
     exact gR hP hn [hF 0,hF 3,hF 6,hF 9] [] .raw (P1++[Z2=false,(p2.Code == 17)=false,(B true)=(B true),Qa3 (B true)=true]) (Qa7 AP1 ⟨c42,c48,rfl,rfl,trivial⟩)
noncomputable def Qe2  (p1:Qaf) (p2:GOp) (p3:Int) (v13:Bool) : Option Bool:=
 if v13=true then
  Option.bind (Qge p2.A 0 p3) fun r15 =>
  some r15
 else
  if (p2.Code == 12)=true then
   Qe4 p1 p2 (p2.Code == 12)
  else
   Qe4 p1 p2 (p2.Code == 13)
theorem Qjh {E:Env} (hP:E.pk=pk0 Tryz.prog) (hn:E.n=70) (hx:FX E []) (p1:Qaf) (p2:GOp) (p3:Int)  (v13:Bool) (r:Bool) (h:Qe2 p1 p2 p3 v13=some r) : WAt E Qy2 (FQ (Qdj Θ Tryz.f150.results.toList [] [] (B r) E)) [true,true,false,true,false,true,true,true] ⟨[(2,(I p3)),(3,(AV.ptr 1 0 0)),(4,(AV.ptr 2 0 0)),(11,(I p2.Code)),(21,(B v13))],[(1,some ⟨39,4,[((r39 p1))]⟩),(2,some ⟨156,4,[((Qbj p2))]⟩)],[1,2,JJ]⟩:=by
 unfold Qe2 at h
 let Z0:=p2.Code == 12
 rcases itS h with ⟨c14,h⟩ | ⟨c16,h⟩
 ·obtain ⟨r15,hr15,h⟩:=bnS h
  obtain rfl:=sj h
  exact gR hP hn [hT 0,hh 4 (.callV [] (B r15))] [] .raw [v13=true,Qa4 Tryz.prog 95 [(I p2.A),(I 0),(I p3)] (B r15),Qa3 (B r15)=true,(B r15)=(B r15),Qa3 (B r15)=true] ⟨c14,(Qeo hr15),rfl,rfl,rfl,trivial⟩
 ·rcases itS h with ⟨c17,h⟩ | ⟨c49,h⟩
  ·exact gT hP hn hx [hF 0,hT 3] [(1,1),(2,2)] [3,4,11,28] [] [v13=false,Z0=true,Qa8 [(1,1),(2,2)] [((r39 p1))],Qa8 [(1,1),(2,2)] [((Qbj p2))]] ⟨c16,c17,(rok (Qai t39 p1)),(rok rfl),trivial⟩ (Qjo hP hn hx p1 p2 Z0 _ h)
  ·exact gT hP hn hx [hF 0,hF 3] [(1,1),(2,2)] [3,4,11,28] [] [v13=false,Z0=false,Qa8 [(1,1),(2,2)] [((r39 p1))],Qa8 [(1,1),(2,2)] [((Qbj p2))]] ⟨c16,c49,(rok (Qai t39 p1)),(rok rfl),trivial⟩ (Qjo hP hn hx p1 p2 (p2.Code == 13) _ h)
noncomputable def Qe1  (p1:Qaf) (p2:GOp) (p3:Int) (v8:Bool) : Option Bool:=
 if v8=true then
  Option.bind (Qge p2.A 0 (w64 (p1.Cells - 1))) fun r10 =>
  some r10
 else
  if (p2.Code == 10)=true then
   Qe2 p1 p2 p3 (p2.Code == 10)
  else
   Qe2 p1 p2 p3 (p2.Code == 11)
theorem Qj7 {E:Env} (hP:E.pk=pk0 Tryz.prog) (hn:E.n=70) (hx:FX E []) (p1:Qaf) (p2:GOp) (p3:Int)  (v8:Bool) (r:Bool) (h:Qe1 p1 p2 p3 v8=some r) : WAt E Qy2 (FQ (Qdj Θ Tryz.f150.results.toList [] [] (B r) E)) [true,true,false,true,false,true] ⟨[(2,(I p3)),(3,(AV.ptr 1 0 0)),(4,(AV.ptr 2 0 0)),(11,(I p2.Code)),(12,(B v8))],[(1,some ⟨39,4,[((r39 p1))]⟩),(2,some ⟨156,4,[((Qbj p2))]⟩)],[1,2,JJ]⟩:=by
 unfold Qe1 at h
 let Z0:=p2.Code == 10
 rcases itS h with ⟨c9,h⟩ | ⟨c11,h⟩
 ·obtain ⟨r10,hr10,h⟩:=bnS h
  obtain rfl:=sj h
  exact gR hP hn [hT 0,hh 6 (.callV [] (B r10))] [] .raw [v8=true,Qa4 Tryz.prog 95 [(I p2.A),(I 0),(I (w64 (p1.Cells - 1)))] (B r10),Qa3 (B r10)=true,(B r10)=(B r10),Qa3 (B r10)=true] ⟨c9,(Qeo hr10),rfl,rfl,rfl,trivial⟩
 ·rcases itS h with ⟨c12,h⟩ | ⟨c50,h⟩
  ·exact gT hP hn hx [hF 0,hT 3] [(1,1),(2,2)] [2,3,4,11,21] [] [v8=false,Z0=true,Qa8 [(1,1),(2,2)] [((r39 p1))],Qa8 [(1,1),(2,2)] [((Qbj p2))]] ⟨c11,c12,(rok (Qai t39 p1)),(rok rfl),trivial⟩ (Qjh hP hn hx p1 p2 p3 Z0 _ h)
  ·exact gT hP hn hx [hF 0,hF 3] [(1,1),(2,2)] [2,3,4,11,21] [] [v8=false,Z0=false,Qa8 [(1,1),(2,2)] [((r39 p1))],Qa8 [(1,1),(2,2)] [((Qbj p2))]] ⟨c11,c50,(rok (Qai t39 p1)),(rok rfl),trivial⟩ (Qjh hP hn hx p1 p2 p3 (p2.Code == 11) _ h)
noncomputable def Qfy (p1:Qaf) (p2:GOp) (p3:Int) : Option Bool:=
 Option.bind (Qla p2) fun r4 =>
 if (!r4)=true then
  some false
 else
  if (p2.Code == 2)=true then
   Qe1 p1 p2 p3 (p2.Code == 2)
  else
   Qe1 p1 p2 p3 (p2.Code == 3)
theorem Qr1 {p1:Qaf} {p2:GOp} {p3:Int} {r:Bool} (h:Qfy p1 p2 p3=some r) : Qa4 Tryz.prog 150 [(AV.agg ((r39 p1))),(AV.agg ((Qbj p2))),(I p3)] (B r):=by
 refine gM Tryz.func150 70 Qy2 fun E hP hn hx=>?_
 unfold Qfy at h
 obtain ⟨r4,hr4,h⟩:=bnS h
 let Z0:=p2.Code == 2
 let H1:List Hn:=[hW 0 1001,hW 1 1002,hh 4 (.callV [[]] (B r4))]
 let P2:List Prop:=[Qa4 Tryz.prog 201 [(AV.agg ((Qbj p2)))] (B r4),Qa3 (B r4)=true]
 have AP2:Qam P2:=⟨(Qw8 hr4),rfl,trivial⟩
 rcases itS h with ⟨c5,h⟩ | ⟨c6,h⟩
 ·obtain rfl:=sj h
  exact gR hP hn (H1++[hT 6]) [] .raw (P2++[(!r4)=true,(B false)=(B false),Qa3 (B false)=true]) (Qa7 AP2 ⟨c5,rfl,rfl,trivial⟩)
 ·rcases itS h with ⟨c7,h⟩ | ⟨c51,h⟩
  ·exact gT hP hn hx (H1++[hF 6,hT 11]) [(1001,1),(1002,2)] [2,3,4,11,12] [] (P2++[(!r4)=false,Z0=true,Qa8 [(1001,1),(1002,2)] [((r39 p1))],Qa8 [(1001,1),(1002,2)] [((Qbj p2))]]) (Qa7 AP2 ⟨c6,c7,(rok (Qai t39 p1)),(rok rfl),trivial⟩) (Qj7 hP hn hx p1 p2 p3 Z0 _ h)
  ·exact gT hP hn hx (H1++[hF 6,hF 11]) [(1001,1),(1002,2)] [2,3,4,11,12] [] (P2++[(!r4)=false,Z0=false,Qa8 [(1001,1),(1002,2)] [((r39 p1))],Qa8 [(1001,1),(1002,2)] [((Qbj p2))]]) (Qa7 AP2 ⟨c6,c51,(rok (Qai t39 p1)),(rok rfl),trivial⟩) (Qj7 hP hn hx p1 p2 p3 (p2.Code == 3) _ h)
noncomputable def Xkz:Code:=match Tryz.f149.body with | some c=>c | none=>.skip
noncomputable def Qgk (p1:GOp) (p2:Qaf) (p3:(List GOp)) : Option Bool:=
 Option.bind (Qfy p2 p1 (p3.length:Int)) fun r4 =>
 some (!r4)
theorem Qsc {p1:GOp} {p2:Qaf} {p3:(List GOp)} {r:Bool} (h:Qgk p1 p2 p3=some r) : Qa4 Tryz.prog 149 [(AV.agg ((Qbj p1))),(AV.rop (r39 p2) 0),(AV.rop (Qho p3) 0)] (B r):=by
 refine gM Tryz.func149 11 Xkz fun E hP hn hx=>?_
 unfold Qgk at h
 obtain ⟨r4,hr4,h⟩:=bnS h
 obtain rfl:=sj h
 exact (let Z0:=(I (p3.length:Int));gR hP hn [hW 0 1001,hO 5 Z0,hh 6 (.callV [[],[]] (B r4))] [] .raw [AV.lit (.int .i64 (((p3.map Qbj).length:Nat) : Int))=Z0,Qa4 Tryz.prog 150 [(AV.agg ((r39 p2))),(AV.agg ((Qbj p1))),Z0] (B r4),Qa3 (B r4)=true,(B (!r4))=(B (!r4)),Qa3 (B (!r4))=true] ⟨(Qby Qbj),(Qr1 hr4),rfl,rfl,rfl,trivial⟩)
noncomputable def Xgq:Code:=match Tryz.f200.body with | some c=>c | none=>.skip
noncomputable def Qap  (p1:(List GOp)) (p2:Qaf) (p3:(List GOp)) : Nat→Int→Option Int
 | 0,_=>none
 | n+1,v4 =>
 if (decide (v4<(p1.length:Int)))=true then
  Option.bind (rd p1 v4) fun x6 =>
  Option.bind (Qgk x6 p2 p3) fun r7 =>
  if r7=true then
   some v4
  else
   Qap p1 p2 p3 n (w64 (v4+1))
 else
  some (-1)
theorem Qfg {E:Env} (hP:E.pk=pk0 Tryz.prog) (hn:E.n=19) (hx:FX E []) (p1:(List GOp)) (p2:Qaf) (p3:(List GOp))  : ∀ (n:Nat) (v4:Int) (r:Int),Qap p1 p2 p3 n v4=some r→WAt E Xgq (FQ (Qdj Θ Tryz.f200.results.toList [] [] (I r) E)) [true,false,true,false] ⟨[(0,(AV.ro 4 (p1.map Qbj))),(1,(AV.fn 149 [(AV.rop (r39 p2) 0),(AV.rop (Qho p3) 0)])),(7,(I (p1.length:Int))),(8,(I v4))],[],[JJ]⟩:=by
 intro n
 induction n with
 | zero=>intro v4 r h;simp only [Qap] at h;cases h
 | succ n ih =>
  intro v4 r h
  simp only [Qap] at h
  let Z0:=(decide (v4<(p1.length:Int)))
  rcases itS h with ⟨c5,h⟩ | ⟨c10,h⟩
  ·obtain ⟨x6,hx6,h⟩:=bnS h
   obtain ⟨r7,hr7,h⟩:=bnS h
   let P1:List Prop:=[Z0=true,(0:Int)≤v4,(p1.map Qbj)[v4.toNat]? = some (Qbj x6),Qa4 Tryz.prog 149 [(AV.agg ((Qbj x6))),(AV.rop (r39 p2) 0),(AV.rop (Qho p3) 0)] (B r7),Qa3 (B r7)=true]
   have AP1:Qam P1:=⟨c5,(rd0 hx6),(rdM Qbj hx6),(Qsc hr7),rfl,trivial⟩
   rcases itS h with ⟨c8,h⟩ | ⟨c9,h⟩
   ·obtain rfl:=sj h
    exact gR hP hn [hT 1,hh 7 (.row (Qbj x6)),hh 9 (.callV [[]] (B r7)),hT 10] [] .raw (P1++[r7=true,(I v4)=(I v4),Qa3 (I v4)=true]) (Qa7 AP1 ⟨c8,rfl,rfl,trivial⟩)
   ·exact gT hP hn hx [hT 1,hh 7 (.row (Qbj x6)),hh 9 (.callV [[]] (B r7)),hF 10] [] [0,1,7,8] [] (P1++[r7=false]) (Qa7 AP1 ⟨c9,trivial⟩) (ih (w64 (v4+1)) _ h)
  ·obtain rfl:=sj h
   exact gR hP hn [hF 1] [] .raw [Z0=false,(I (-1))=(I (-1)),Qa3 (I (-1))=true] ⟨c10,rfl,rfl,trivial⟩
noncomputable def Qbl (p1:(List GOp)) (p2:Qaf) (p3:(List GOp)) : Option Int:=
 Qap p1 p2 p3 FU 0
theorem Qgc {p1:(List GOp)} {p2:Qaf} {p3:(List GOp)} {r:Int} (h:Qbl p1 p2 p3=some r) : Qa4 Tryz.prog 200 [(AV.ro 4 (p1.map Qbj)),(AV.fn 149 [(AV.rop (r39 p2) 0),(AV.rop (Qho p3) 0)])] (I r):=by
 refine gM Tryz.func200 19 Xgq fun E hP hn hx=>?_
 unfold Qbl at h
 exact (let Z0:=(I (p1.length:Int));gT hP hn hx [hO 2 Z0] [] [0,1,7,8] [] [AV.lit (.int .i64 (((p1.map Qbj).length:Nat) : Int))=Z0] ⟨(Qby Qbj),trivial⟩ (Qfg hP hn hx p1 p2 p3 FU 0 _ h))
noncomputable def Xm1:Code:=match Tryz.f148.body with | some c=>c | none=>.skip
noncomputable def Qb3 (p1:(List GOp)) (p2:Qaf) (p3:(List GOp)) : Option Bool:=
 Option.bind (Qbl p1 p2 p3) fun r4 =>
 some (decide (r4 ≥ 0))
theorem Qfi {p1:(List GOp)} {p2:Qaf} {p3:(List GOp)} {r:Bool} (h:Qb3 p1 p2 p3=some r) : Qa4 Tryz.prog 148 [(AV.ro 4 (p1.map Qbj)),(AV.fn 149 [(AV.rop (r39 p2) 0),(AV.rop (Qho p3) 0)])] (B r):=by
 refine gM Tryz.func148 9 Xm1 fun E hP hn hx=>?_
 unfold Qb3 at h
 obtain ⟨r4,hr4,h⟩:=bnS h
 obtain rfl:=sj h
 exact (let Z0:=B (decide (r4 ≥ 0));gR hP hn [hh 3 (.callV [] (I r4))] [] .raw [Qa4 Tryz.prog 200 [(AV.ro 4 (p1.map Qbj)),(AV.fn 149 [(AV.rop (r39 p2) 0),(AV.rop (Qho p3) 0)])] (I r4),Qa3 (I r4)=true,Z0=Z0,Qa3 Z0=true] ⟨(Qgc hr4),rfl,rfl,rfl,trivial⟩)
noncomputable def Xkl:Code:=match Tryz.f69.body with | some c=>c | none=>.skip
noncomputable def Qdn  (p1:Qaf) : Nat→Qaf→Int→Option Bool
 | 0,_,_=>none
 | n+1,a14,v15 =>
 if (decide (v15<(p1.Routines.length:Int)))=true then
  Option.bind (rd p1.Routines v15) fun x17 =>
  if (decide ((x17.length:Int) > 24))=true then
   some false
  else
   Option.bind (Qb3 x17 a14 x17) fun r20 =>
   if r20=true then
    some false
   else
    Qdn p1 n a14 (w64 (v15+1))
 else
  some true
theorem Qru {E:Env} (hP:E.pk=pk0 Tryz.prog) (hn:E.n=44) (hx:FX E []) (p1:Qaf)  : ∀ (n:Nat) (a14:Qaf) (v15:Int) (r:Bool),Qdn p1 n a14 v15=some r→WAt E Xkl (FQ (Qdj Θ Tryz.f69.results.toList [] [] (B r) E)) [true,true,false,true,false] ⟨[(1,(AV.ptr 1 0 0)),(29,(AV.ro 1 (p1.Routines.map Qho))),(30,(I (p1.Routines.length:Int))),(31,(I v15))],[(1,some ⟨39,4,[((r39 a14))]⟩)],[1,JJ]⟩:=by
 intro n
 induction n with
 | zero=>intro a14 v15 r h;simp only [Qdn] at h;cases h
 | succ n ih =>
  intro a14 v15 r h
  simp only [Qdn] at h
  let Z2:=(decide (v15<(p1.Routines.length:Int)));let Z4:=B false;let Z5:=r39 a14
  rcases itS h with ⟨c16,h⟩ | ⟨c23,h⟩
  ·obtain ⟨x17,hx17,h⟩:=bnS h
   let Z0:=Qho x17;let Z1:=(I (x17.length:Int));let Z3:=(B (decide ((x17.length:Int) > 24)));let Z6:=AV.ro 4 (x17.map Qbj)
   let H1:List Hn:=[hT 1,hh 2 (.row Z0),hW 4 1001,hO 7 Z1]
   let P2:List Prop:=[Z2=true,(0:Int)≤v15,(p1.Routines.map Qho)[v15.toNat]? = some Z0,AV.lit (.int .i64 (((x17.map Qbj).length:Nat) : Int))=Z1]
   have AP2:Qam P2:=⟨c16,(rd0 hx17),(rdM Qho hx17),(Qby Qbj),trivial⟩
   rcases itS h with ⟨c18,h⟩ | ⟨c19,h⟩
   ·obtain rfl:=sj h
    exact gR hP hn (H1++[hO 9 (B true)]) [] .raw (P2++[Z3=(B true),Z4=Z4,Qa3 Z4=true]) (Qa7 AP2 ⟨(Qau c18),rfl,rfl,trivial⟩)
   ·obtain ⟨r20,hr20,h⟩:=bnS h
    let H3:List Hn:=H1++[hO 9 Z4,hh 12 (.callV [[Z5,(r39 a14)],[[Z6],Z0]] (B r20))]
    let P4:List Prop:=P2++[Z3=Z4,Qa4 Tryz.prog 148 [Z6,(AV.fn 149 [(AV.rop (r39 a14) 0),(AV.rop Z0 0)])] (B r20),Qa3 (B r20)=true,[Z5][0]? = some Z5,Qcy Z5=true,Qjr Z5=(r39 a14),[[Z6]][0]? = some [Z6],Qcy [Z6]=true,Qjr [Z6]=Z0]
    have AP4:Qam P4:=Qa7 AP2 ⟨(Qau c19),(Qfi hr20),rfl,rfl,rfl,rfl,rfl,rfl,rfl,trivial⟩
    rcases itS h with ⟨c21,h⟩ | ⟨c22,h⟩
    ·obtain rfl:=sj h
     exact gR hP hn (H3++[hT 14]) [] .raw (P4++[r20=true,Z4=Z4,Qa3 Z4=true]) (Qa7 AP4 ⟨c21,rfl,rfl,trivial⟩)
    ·exact gT hP hn hx (H3++[hF 14]) [(1,1)] [1,29,30,31] [] (P4++[r20=false,Qa8 [(1,1)] [Z5]]) (Qa7 AP4 ⟨c22,(rok (Qai t39 a14)),trivial⟩) (ih a14 (w64 (v15+1)) _ h)
  ·obtain rfl:=sj h
   exact gR hP hn [hF 1] [] .raw [Z2=false,(B true)=(B true),Qa3 (B true)=true] ⟨c23,rfl,rfl,trivial⟩
noncomputable def Qft (p1:Qaf) : Option Bool:=
 Option.bind (Qge p1.Cells 0 4) fun r2 =>
 if (!r2)=true then
  some false
 else
  Option.bind (Qge p1.Locks 0 4) fun r5 =>
  if (!r5)=true then
   some false
  else
   Option.bind (Qge p1.Conds 0 2) fun r8 =>
   if (!r8)=true then
    some false
   else
    Option.bind (Qge (p1.Routines.length:Int) 1 4) fun r11 =>
    if (!r11)=true then
     some false
    else
     Qdn p1 FU p1 0
theorem Que {p1:Qaf} {r:Bool} (h:Qft p1=some r) : Qa4 Tryz.prog 69 [(AV.agg ((r39 p1)))] (B r):=by
 refine gM Tryz.func69 44 Xkl fun E hP hn hx=>?_
 unfold Qft at h
 obtain ⟨r2,hr2,h⟩:=bnS h
 let Z0:=B true;let Z1:=B false;let Z2:=(I (p1.Routines.length:Int));let Z3:=(((p1.Routines.map Qho).length:Nat) : Int)
 let H1:List Hn:=[hW 0 1001,hh 4 (.callV [] (B r2))]
 let P2:List Prop:=[Qa4 Tryz.prog 95 [(I p1.Cells),(I 0),(I 4)] (B r2),Qa3 (B r2)=true]
 have AP2:Qam P2:=⟨(Qeo hr2),rfl,trivial⟩
 rcases itS h with ⟨c3,h⟩ | ⟨c4,h⟩
 ·obtain rfl:=sj h
  exact gR hP hn (H1++[hO 6 Z0]) [] .raw (P2++[(B (!r2))=Z0,Z1=Z1,Qa3 Z1=true]) (Qa7 AP2 ⟨(Qau c3),rfl,rfl,trivial⟩)
 ·obtain ⟨r5,hr5,h⟩:=bnS h
  let H3:List Hn:=H1++[hO 6 Z1,hh 9 (.callV [] (B r5))]
  let P4:List Prop:=P2++[(B (!r2))=Z1,Qa4 Tryz.prog 95 [(I p1.Locks),(I 0),(I 4)] (B r5),Qa3 (B r5)=true]
  have AP4:Qam P4:=Qa7 AP2 ⟨(Qau c4),(Qeo hr5),rfl,trivial⟩
  rcases itS h with ⟨c6,h⟩ | ⟨c7,h⟩
  ·obtain rfl:=sj h
   exact gR hP hn (H3++[hO 12 Z0]) [] .raw (P4++[(B (!r5))=Z0,Z1=Z1,Qa3 Z1=true]) (Qa7 AP4 ⟨(Qau c6),rfl,rfl,trivial⟩)
  ·obtain ⟨r8,hr8,h⟩:=bnS h
   let H5:List Hn:=H3++[hO 12 Z1,hh 15 (.callV [] (B r8))]
   let P6:List Prop:=P4++[(B (!r5))=Z1,Qa4 Tryz.prog 95 [(I p1.Conds),(I 0),(I 2)] (B r8),Qa3 (B r8)=true]
   have AP6:Qam P6:=Qa7 AP4 ⟨(Qau c7),(Qeo hr8),rfl,trivial⟩
   rcases itS h with ⟨c9,h⟩ | ⟨c10,h⟩
   ·obtain rfl:=sj h
    exact gR hP hn (H5++[hO 18 Z0]) [] .raw (P6++[(B (!r8))=Z0,Z1=Z1,Qa3 Z1=true]) (Qa7 AP6 ⟨(Qau c9),rfl,rfl,trivial⟩)
   ·obtain ⟨r11,hr11,h⟩:=bnS h
    let H7:List Hn:=H5++[hO 18 Z1,hO 21 Z2,hh 22 (.callV [] (B r11))]
    let P8:List Prop:=P6++[(B (!r8))=Z1,AV.lit (.int .i64 Z3)=Z2,Qa4 Tryz.prog 95 [Z2,(I 1),(I 4)] (B r11),Qa3 (B r11)=true]
    have AP8:Qam P8:=Qa7 AP6 ⟨(Qau c10),(Qby Qho),(Qeo hr11),rfl,trivial⟩
    rcases itS h with ⟨c12,h⟩ | ⟨c13,h⟩
    ·obtain rfl:=sj h
     exact gR hP hn (H7++[hT 25]) [] .raw (P8++[(!r11)=true,Z1=Z1,Qa3 Z1=true]) (Qa7 AP8 ⟨c12,rfl,rfl,trivial⟩)
    ·exact gT hP hn hx (H7++[hF 25,hO 28 Z2]) [(1001,1)] [1,29,30,31] [] (P8++[(!r11)=false,AV.lit (.int .i64 Z3)=Z2,Qa8 [(1001,1)] [((r39 p1))]]) (Qa7 AP8 ⟨c13,(Qby Qho),(rok (Qai t39 p1)),trivial⟩) (Qru hP hn hx p1 FU p1 0 _ h)
noncomputable def Xkx:Code:=match Tryz.f151.body with | some c=>c | none=>.skip
noncomputable def Qgo (p1:Int) : Option Bool:=
 Option.bind (Qge p1 0 999) fun r2 =>
 some (!r2)
theorem Qs7 {p1:Int} {r:Bool} (h:Qgo p1=some r) : Qa4 Tryz.prog 151 [(I p1)] (B r):=by
 refine gM Tryz.func151 6 Xkx fun E hP hn hx=>?_
 unfold Qgo at h
 obtain ⟨r2,hr2,h⟩:=bnS h
 obtain rfl:=sj h
 exact gR hP hn [hh 2 (.callV [] (B r2))] [] .raw [Qa4 Tryz.prog 95 [(I p1),(I 0),(I 999)] (B r2),Qa3 (B r2)=true,(B (!r2))=(B (!r2)),Qa3 (B (!r2))=true] ⟨(Qeo hr2),rfl,rfl,rfl,trivial⟩
noncomputable def Xhl:Code:=match Tryz.f173.body with | some c=>c | none=>.skip
noncomputable def Qao  (p1:(List Int)) : Nat→Int→Option Int
 | 0,_=>none
 | n+1,v2 =>
 if (decide (v2<(p1.length:Int)))=true then
  Option.bind (rd p1 v2) fun x4 =>
  Option.bind (Qgo x4) fun r5 =>
  if r5=true then
   some v2
  else
   Qao p1 n (w64 (v2+1))
 else
  some (-1)
theorem Qf2 {E:Env} (hP:E.pk=pk0 Tryz.prog) (hn:E.n=19) (hx:FX E []) (p1:(List Int))  : ∀ (n:Nat) (v2:Int) (r:Int),Qao p1 n v2=some r→WAt E Xhl (FQ (Qdj Θ Tryz.f173.results.toList [] [] (I r) E)) [true,false,true,false] ⟨[(0,(AV.ro 1 (p1.map o3))),(1,(AV.fn 151 [])),(7,(I (p1.length:Int))),(8,(I v2))],[],[JJ]⟩:=by
 intro n
 induction n with
 | zero=>intro v2 r h;simp only [Qao] at h;cases h
 | succ n ih =>
  intro v2 r h
  simp only [Qao] at h
  let Z0:=(decide (v2<(p1.length:Int)))
  rcases itS h with ⟨c3,h⟩ | ⟨c8,h⟩
  ·obtain ⟨x4,hx4,h⟩:=bnS h
   obtain ⟨r5,hr5,h⟩:=bnS h
   let P1:List Prop:=[Z0=true,(0:Int)≤v2,(p1.map o3)[v2.toNat]? = some (o3 x4),Qa4 Tryz.prog 151 [(I x4)] (B r5),Qa3 (B r5)=true]
   have AP1:Qam P1:=⟨c3,(rd0 hx4),(rdM o3 hx4),(Qs7 hr5),rfl,trivial⟩
   rcases itS h with ⟨c6,h⟩ | ⟨c7,h⟩
   ·obtain rfl:=sj h
    exact gR hP hn [hT 1,hh 7 (.row (o3 x4)),hh 9 (.callV [] (B r5)),hT 10] [] .raw (P1++[r5=true,(I v2)=(I v2),Qa3 (I v2)=true]) (Qa7 AP1 ⟨c6,rfl,rfl,trivial⟩)
   ·exact gT hP hn hx [hT 1,hh 7 (.row (o3 x4)),hh 9 (.callV [] (B r5)),hF 10] [] [0,1,7,8] [] (P1++[r5=false]) (Qa7 AP1 ⟨c7,trivial⟩) (ih (w64 (v2+1)) _ h)
  ·obtain rfl:=sj h
   exact gR hP hn [hF 1] [] .raw [Z0=false,(I (-1))=(I (-1)),Qa3 (I (-1))=true] ⟨c8,rfl,rfl,trivial⟩
noncomputable def Qbh (p1:(List Int)) : Option Int:=
 Qao p1 FU 0
theorem Qfq {p1:(List Int)} {r:Int} (h:Qbh p1=some r) : Qa4 Tryz.prog 173 [(AV.ro 1 (p1.map o3)),(AV.fn 151 [])] (I r):=by
 refine gM Tryz.func173 19 Xhl fun E hP hn hx=>?_
 unfold Qbh at h
 exact (let Z0:=(I (p1.length:Int));gT hP hn hx [hO 2 Z0] [] [0,1,7,8] [] [AV.lit (.int .i64 (((p1.map o3).length:Nat) : Int))=Z0] ⟨(Qby o3),trivial⟩ (Qf2 hP hn hx p1 FU 0 _ h))
noncomputable def Xnu:Code:=match Tryz.f99.body with | some c=>c | none=>.skip
noncomputable def Qb1 (p1:(List Int)) : Option Bool:=
 Option.bind (Qbh p1) fun r2 =>
 some (decide (r2 ≥ 0))
theorem Qf3 {p1:(List Int)} {r:Bool} (h:Qb1 p1=some r) : Qa4 Tryz.prog 99 [(AV.ro 1 (p1.map o3)),(AV.fn 151 [])] (B r):=by
 refine gM Tryz.func99 9 Xnu fun E hP hn hx=>?_
 unfold Qb1 at h
 obtain ⟨r2,hr2,h⟩:=bnS h
 obtain rfl:=sj h
 exact (let Z0:=B (decide (r2 ≥ 0));gR hP hn [hh 3 (.callV [] (I r2))] [] .raw [Qa4 Tryz.prog 173 [(AV.ro 1 (p1.map o3)),(AV.fn 151 [])] (I r2),Qa3 (I r2)=true,Z0=Z0,Qa3 Z0=true] ⟨(Qfq hr2),rfl,rfl,rfl,trivial⟩)
noncomputable def Xpp:Code:=match Tryz.f70.body with | some c=>c | none=>.skip
noncomputable def Qic (p1:(List Int)) (p2:Int) : Option Bool:=
 if (decide ((p1.length:Int)≤p2))=true then
  Option.bind (Qb1 p1) fun r4 =>
  some (!r4)
 else
  some false
theorem Qw4 {p1:(List Int)} {p2:Int} {r:Bool} (h:Qic p1 p2=some r) : Qa4 Tryz.prog 70 [(AV.ro 1 (p1.map o3)),(I p2)] (B r):=by
 refine gM Tryz.func70 14 Xpp fun E hP hn hx=>?_
 unfold Qic at h
 let Z0:=(I (p1.length:Int));let Z1:=(((p1.map o3).length:Nat) : Int);let Z2:=(B (decide ((p1.length:Int)≤p2)));let Z3:=B false
 rcases itS h with ⟨c3,h⟩ | ⟨c5,h⟩
 ·obtain ⟨r4,hr4,h⟩:=bnS h
  obtain rfl:=sj h
  exact gR hP hn [hO 2 Z0,hO 5 (B true),hh 7 (.callV [] (B r4))] [] .raw [AV.lit (.int .i64 Z1)=Z0,Z2=(B true),Qa4 Tryz.prog 99 [(AV.ro 1 (p1.map o3)),(AV.fn 151 [])] (B r4),Qa3 (B r4)=true,(B (!r4))=(B (!r4)),Qa3 (B (!r4))=true] ⟨(Qby o3),(Qau c3),(Qf3 hr4),rfl,rfl,rfl,trivial⟩
 ·obtain rfl:=sj h
  exact gR hP hn [hO 2 Z0,hO 5 Z3] [] .raw [AV.lit (.int .i64 Z1)=Z0,Z2=Z3,Z3=Z3,Qa3 Z3=true] ⟨(Qby o3),(Qau c5),rfl,rfl,trivial⟩
noncomputable def Xhn:Code:=match Tryz.f163.body with | some c=>c | none=>.skip
noncomputable def Qcl  (p1:(List Qa0))  : Option (List Qa0):=
  Xkc p1 (
    some []) (
    Option.bind (app [] p1) fun l2 =>
    some l2)
theorem Qiw {E:Env} (hP:E.pk=pk0 Tryz.prog) (hn:E.n=8) (hx:FX E []) (p1:(List Qa0))   (r:(List Qa0)) (h:Qcl p1  = some r) : WAt E Xhn (FQ (Qdj Θ Tryz.f163.results.toList [] [] (AV.own 70 6 (r.map r70)) E)) [true,false,false] ⟨[(0,(AV.ro 6 (p1.map r70)))],[],[JJ]⟩:=by
 have hm:E.P.follows .mixedOrders=true:=by rw [pkP hP];exact Xe2
 have hΘ:TOK E.P Θ:=by rw [pkP hP];exact Xbu
 unfold Qcl at h
 obtain ⟨h1,h2⟩:=Xl7 h
 refine Xgk hΘ hm hP hn (p:=[true,false,false]) (q:=[true,false,true]) (s':=⟨[(3,(AV.ro 6 (p1.map r70))),(0,(AV.ro 6 (p1.map r70)))],[],[JJ]⟩) (hs:=[]) (d:=4) (xs:=(p1.map r70)) (ps:=[]) (by kernel_rfl) trivial (fun c hc=>?_)
 cases c
 ·have h:=h2
  obtain ⟨l2,hl2,h⟩:=bnS h
  obtain rfl:=sj h
  exact (let Z0:=l2.map r70;gR hP hn [hW 1 1001,hh 3 (.app 1002 Z0)] [] .ownS [([].map o70).take ([].map o70).length++(p1.map r70)=Z0,(p1.map r70).all (fun r=>r.all AV.plain)=true,Z0.length * 64≤140737488355328,Z0.length≤140737488355328,Qa2 (Z0.take Z0.length)=true,Z0.take Z0.length=Z0] ⟨(appTr o70 r70 hl2),(plM par70),(Qn2 r70 hl2 (by decide)),(Qn1 r70 hl2),(Qb7 tr70),Qb6,trivial⟩)
 ·have h:=h1 (List.map_eq_nil_iff.1 (hc rfl))
  obtain rfl:=sj h
  exact gR hP hn [] [] .own [] trivial
noncomputable def Qca (p1:(List Qa0)) : Option (List Qa0):=
 Qcl p1
theorem Qgf {p1:(List Qa0)} {r:(List Qa0)} (h:Qca p1=some r) : Qa4 Tryz.prog 163 [(AV.ro 6 (p1.map r70))] (AV.own 70 6 (r.map r70)):=by
 refine gM Tryz.func163 8 Xhn fun E hP hn hx=>?_
 unfold Qca at h
 exact gT hP hn hx [] [] [0] [] [] trivial (Qiw hP hn hx p1  _ h)
noncomputable def Xhr:Code:=match Tryz.f161.body with | some c=>c | none=>.skip
noncomputable def Qc8  (p1:(List Nat))  : Option (List Nat):=
  Xkc p1 (
    some []) (
    Option.bind (app [] p1) fun l2 =>
    some l2)
theorem Qi8 {E:Env} (hP:E.pk=pk0 Tryz.prog) (hn:E.n=8) (hx:FX E []) (p1:(List Nat))   (r:(List Nat)) (h:Qc8 p1  = some r) : WAt E Xhr (FQ (Qdj Θ Tryz.f161.results.toList [] [] (AV.own 132 1 (r.map Qae)) E)) [true,false,false] ⟨[(0,(AV.ro 1 (p1.map Qae)))],[],[JJ]⟩:=by
 have hm:E.P.follows .mixedOrders=true:=by rw [pkP hP];exact Xe2
 have hΘ:TOK E.P Θ:=by rw [pkP hP];exact Xbu
 unfold Qc8 at h
 obtain ⟨h1,h2⟩:=Xl7 h
 refine Xgk hΘ hm hP hn (p:=[true,false,false]) (q:=[true,false,true]) (s':=⟨[(3,(AV.ro 1 (p1.map Qae))),(0,(AV.ro 1 (p1.map Qae)))],[],[JJ]⟩) (hs:=[]) (d:=4) (xs:=(p1.map Qae)) (ps:=[]) (by kernel_rfl) trivial (fun c hc=>?_)
 cases c
 ·have h:=h2
  obtain ⟨l2,hl2,h⟩:=bnS h
  obtain rfl:=sj h
  exact (let Z0:=l2.map Qae;gR hP hn [hW 1 1001,hh 3 (.app 1002 Z0)] [] .own [([].map Qae).take ([].map Qae).length++(p1.map Qae)=Z0,(p1.map Qae).all (fun r=>r.all AV.plain)=true,Z0.length * 8≤140737488355328,Z0.length≤140737488355328,Qa2 (Z0.take Z0.length)=true,Z0.take Z0.length=Z0,Qa6 Z0=true] ⟨(Xlw Qae hl2),(plM Qkp),(Qn2 Qae hl2 (by decide)),(Qn1 Qae hl2),(Qb7 Qbs),Qb6,(Qa9 Qe7),trivial⟩)
 ·have h:=h1 (List.map_eq_nil_iff.1 (hc rfl))
  obtain rfl:=sj h
  exact gR hP hn [] [] .own [] trivial
noncomputable def Qbb (p1:(List Nat)) : Option (List Nat):=
 Qc8 p1
theorem Qcg {p1:(List Nat)} {r:(List Nat)} (h:Qbb p1=some r) : Qa4 Tryz.prog 161 [(AV.ro 1 (p1.map Qae))] (AV.own 132 1 (r.map Qae)):=by
 refine gM Tryz.func161 8 Xhr fun E hP hn hx=>?_
 unfold Qbb at h
 exact gT hP hn hx [] [] [0] [] [] trivial (Qi8 hP hn hx p1  _ h)
noncomputable def Xef:Code:=match Tryz.f162.body with | some c=>c | none=>.skip
noncomputable def Qds  (p1:(List Int))  : Option (List Int):=
  Xkc p1 (
    some []) (
    Option.bind (app [] p1) fun l2 =>
    some l2)
theorem Qln {E:Env} (hP:E.pk=pk0 Tryz.prog) (hn:E.n=8) (hx:FX E []) (p1:(List Int))   (r:(List Int)) (h:Qds p1  = some r) : WAt E Xef (FQ (Qdj Θ Tryz.f162.results.toList [] [] (AV.own 3 1 (r.map o3)) E)) [true,false,false] ⟨[(0,(AV.ro 1 (p1.map o3)))],[],[JJ]⟩:=by
 have hm:E.P.follows .mixedOrders=true:=by rw [pkP hP];exact Xe2
 have hΘ:TOK E.P Θ:=by rw [pkP hP];exact Xbu
 unfold Qds at h
 obtain ⟨h1,h2⟩:=Xl7 h
 refine Xgk hΘ hm hP hn (p:=[true,false,false]) (q:=[true,false,true]) (s':=⟨[(3,(AV.ro 1 (p1.map o3))),(0,(AV.ro 1 (p1.map o3)))],[],[JJ]⟩) (hs:=[]) (d:=4) (xs:=(p1.map o3)) (ps:=[]) (by kernel_rfl) trivial (fun c hc=>?_)
 cases c
 ·have h:=h2
  obtain ⟨l2,hl2,h⟩:=bnS h
  obtain rfl:=sj h
  exact (let Z0:=l2.map o3;gR hP hn [hW 1 1001,hh 3 (.app 1002 Z0)] [] .own [([].map o3).take ([].map o3).length++(p1.map o3)=Z0,(p1.map o3).all (fun r=>r.all AV.plain)=true,Z0.length * 8≤140737488355328,Z0.length≤140737488355328,Qa2 (Z0.take Z0.length)=true,Z0.take Z0.length=Z0,Qa6 Z0=true] ⟨(Xlw o3 hl2),(plM pa3),(Qn2 o3 hl2 (by decide)),(Qn1 o3 hl2),(Qb7 t3),Qb6,(Qa9 n3),trivial⟩)
 ·have h:=h1 (List.map_eq_nil_iff.1 (hc rfl))
  obtain rfl:=sj h
  exact gR hP hn [] [] .own [] trivial
noncomputable def Qdr (p1:(List Int)) : Option (List Int):=
 Qds p1
theorem Qie {p1:(List Int)} {r:(List Int)} (h:Qdr p1=some r) : Qa4 Tryz.prog 162 [(AV.ro 1 (p1.map o3))] (AV.own 3 1 (r.map o3)):=by
 refine gM Tryz.func162 8 Xef fun E hP hn hx=>?_
 unfold Qdr at h
 exact gT hP hn hx [] [] [0] [] [] trivial (Qln hP hn hx p1  _ h)
noncomputable def Xk1:Code:=match Tryz.f90.body with | some c=>c | none=>.skip
noncomputable def Qcb  (r4:(List Qa0)) : Nat→Qa1→(List Qa0)→(List Nat)→(List Int)→Int→Int→Option Qa1
 | 0,_,_,_,_,_,_=>none
 | n+1,a5,a6,a7,a8,a9,v10 =>
 if (decide (v10<(r4.length:Int)))=true then
  Option.bind (rd r4 v10) fun x12 =>
  Option.bind (Qro a6 v10) fun q13 =>
  Option.bind (app [] x12.Stack) fun l14 =>
  Option.bind (nx1 v10) fun q15 =>
  Qcb r4 n a5 (a6++[(Qa0.mk x12.Routine x12.Pc x12.State x12.Cond x12.Lock l14)]) a7 a8 a9 (w64 (v10+1))
 else
  Option.bind (Xf9 r4 v10) fun q17 =>
  some (Qa1.mk a6 a7 a8 a9)
theorem Qnw {E:Env} (hP:E.pk=pk0 Tryz.prog) (hn:E.n=38) (hx:FX E []) (r4:(List Qa0))  : ∀ (n:Nat) (a5:Qa1) (a6:(List Qa0)) (a7:(List Nat)) (a8:(List Int)) (a9:Int) (v10:Int) (r:Qa1),Qcb r4 n a5 a6 a7 a8 a9 v10=some r→WAt E Xk1 (FQ (Qdj Θ Tryz.f90.results.toList [] [] (AV.agg (o44 r)) E)) [true,true,false,true,false] ⟨[(2,(AV.ptr 1 0 0)),(3,(AV.ptr 2 0 0)),(19,(I (r4.length:Int))),(20,(I v10))],[(1,some ⟨44,4,[((o44 a5))]⟩),(2,some ⟨44,4,[[(AV.sl 1005 0 (List.length (Qw7 o70 r70 a6 r4 (Int.toNat v10)))),(AV.own 132 1 (a7.map Qae)),(AV.own 3 1 (a8.map o3)),(I a9)]]⟩),(1005,some ⟨70,6,(Qw7 o70 r70 a6 r4 (Int.toNat v10))⟩)],[1,2,1005,JJ]⟩:=by
 intro n
 induction n with
 | zero=>intro a5 a6 a7 a8 a9 v10 r h;simp only [Qcb] at h;cases h
 | succ n ih =>
  intro a5 a6 a7 a8 a9 v10 r h
  simp only [Qcb] at h
  let Z0:=[].map Qae;let Z1:=AV.sl 1001 0 Z0.length;let Z4:=Qw7 o70 r70 a6 r4 v10.toNat;let Z9:=a7.map Qae;let Z10:=AV.own 132 1 Z9;let Z11:=a8.map o3;let Z12:=AV.own 3 1 Z11;let Z14:=(decide (v10<(r4.length:Int)));let Z15:=((Z4.length:Nat) : Int);let Z17:=AV.ptr 2 0 0;let Z18:=AV.sl 1005 0 Z4.length;let Z19:=AV.ptr 1005 v10.toNat 0;let Z20:=AV.ptr 1005 v10.toNat 5;let Z21:=[Z18,Z10,Z12,(I a9)];let Z23:=AV.sl 1003 0 Z9.length;let Z24:=[Z18,Z23,Z12,(I a9)];let Z25:=AV.sl 1004 0 Z11.length;let Z26:=[[Z18,Z23,Z25,(I a9)]];let Z27:=a6.map o70
  rcases itS h with ⟨c11,h⟩ | ⟨c16,h⟩
  ·obtain ⟨x12,hx12,h⟩:=bnS h
   obtain ⟨q13,hq13,h⟩:=bnS h
   obtain ⟨l14,hl14,h⟩:=bnS h
   obtain ⟨q15,hq15,h⟩:=bnS h
   exact (let Z2:=r70 x12;let Z3:=l14.map Qae;let Z5:=AV.sl 1002 0 Z3.length;let Z6:=[(I x12.Routine),(I x12.Pc),(I x12.State),(I x12.Cond),(I x12.Lock),Z5];let Z7:=Z4.set v10.toNat Z6;let Z8:=Qw7 o70 r70 (a6++[(Qa0.mk x12.Routine x12.Pc x12.State x12.Cond x12.Lock l14)]) r4 (w64 (v10+1)).toNat;let Z13:=[(AV.sl 1005 0 Z8.length),Z10,Z12,(I a9)];let Z16:=x12.Stack.map Qae;let Z22:=Qa0.mk x12.Routine x12.Pc x12.State x12.Cond x12.Lock l14;gT hP hn hx [hT 1,⟨7,.nwc 1001,some Z1⟩,hh 13 (.row Z2),hh 14 (.app 1002 Z3),hh 26 (.row Z2),hh 29 (.sto Z2 Z7),hh 30 (.pack 1005 1002 v10.toNat 5 Z6 Z8),hh 32 (.eqr 2 [Z13])] [(1,1),(2,2),(1005,1005)] [2,3,19,20] [] [Z14=true,AV.sl 1001 0 (Int.toNat 0)=Z1,(0:Int)≤(8:Int),(0:Int)≤(0:Int),(8:Int) * ((8:Nat) : Int)≤140737488355328,(8:Int)≤140737488355328,(0:Int)≤v10,v10<Z15,Z4[v10.toNat]? = some Z2,Z0.take Z0.length++Z16=Z3,Z16.all (fun r=>r.all AV.plain)=true,Z3.length * 8≤140737488355328,Z3.length≤140737488355328,Z17=Z17,Z17=Z17,Z18=Z18,Z18=Z18,(I v10)=(I v10),(I v10)=(I v10),Z17=Z17,Z18=Z18,(I v10)=(I v10),Z19=Z19,(0:Int)≤v10,v10<Z15,Z20=Z20,(AV.ro 1 Z16)=(AV.ro 1 Z16),Z4[v10.toNat]? = some Z2,(0:Int)≤v10,v10<Z15,Z4[v10.toNat]? = some Z2,Z4.set v10.toNat (wr Z2 5 [Z5])=Z7,[Z5].length=1,5 + [Z5].length≤Z2.length,Z7[v10.toNat]? = some Z6,Z6[5]? = some Z5,Qa2 Z3=true,Z7.set v10.toNat (Z6.set 5 (AV.own 132 1 Z3))=Z8,[Z21]=[Z13],Qa8 [(1,1),(2,2),(1005,1005)] [((o44 a5))],Qa8 [(1,1),(2,2),(1005,1005)] [Z13],Qa8 [(1,1),(2,2),(1005,1005)] Z8] ⟨c11,rfl,(by decide),(Int.le_refl _),(by decide),(by decide),(rd0 hx12),(mxL hq13 hx12),(mxR hq13 hx12),(Xlw Qae hl14),(plM Qkp),(Qn2 Qae hl14 (by decide)),(Qn1 Qae hl14),rfl,rfl,rfl,rfl,rfl,rfl,rfl,rfl,rfl,rfl,(rd0 hx12),(mxL hq13 hx12),rfl,rfl,(mxR hq13 hx12),(rd0 hx12),(mxL hq13 hx12),(mxR hq13 hx12),rfl,rfl,leB,(Qcc (mxR hq13 hx12)),rfl,(Qab Qbs),(mxS (x2:=Z6) (y:=Z22) hq13 hx12 hq15 rfl),(congrArg (fun nn=>[[(AV.sl 1005 0 nn),Z10,Z12,(I a9)]]) (show (Qw7 o70 r70 a6 r4 v10.toNat).length=(Qw7 o70 r70 (a6++[Z22]) r4 (w64 (v10+1)).toNat).length from (by try simp +zetaDelta only [];rw [← (mxS (x2:=Z6) (y:=Z22) hq13 hx12 hq15 rfl),List.length_set,List.length_set]))),(rok (Qai t44 a5)),(.inr rfl),(rok (mxT t70 tr70)),trivial⟩ (ih a5 (a6++[Z22]) a7 a8 a9 (w64 (v10+1)) _ h))
  ·obtain ⟨q17,hq17,h⟩:=bnS h
   obtain rfl:=sj h
   exact gR hP hn [hF 1,hh 2 (.unpack 2 1003 0 1 Z21 132 1 Z9 [Z24]),hh 2 (.unpack 2 1004 0 2 Z24 3 1 Z11 Z26),hh 4 (.eqr 1005 Z27)] [] (.agg [.own,.own,.own,.raw]) [Z14=false,[Z21][0]? = some Z21,Z21[1]? = some Z10,0<1,[Z21].set 0 (Z21.set 1 Z23)=[Z24],[Z24][0]? = some Z24,Z24[2]? = some Z12,0<1,[Z24].set 0 (Z24.set 2 Z25)=Z26,Z4=Z27,Qa2 (Z27.take Z4.length)=true,Z27.take Z4.length=Z27,Qa6 Z27=true,Qa2 (Z9.take Z9.length)=true,Z9.take Z9.length=Z9,Qa6 Z9=true,Qa2 (Z11.take Z11.length)=true,Z11.take Z11.length=Z11,Qa6 Z11=true,(I a9)=(I a9),Qa3 (I a9)=true] ⟨c16,rfl,rfl,(by decide),rfl,rfl,rfl,(by decide),rfl,(mxE (o:=o70) (r:=r70) (A:=a6) hq17),(Qct (congrArg List.length (mxE (o:=o70) (r:=r70) (A:=a6) hq17)) (Qab t70)),(Qfb (congrArg List.length (mxE (o:=o70) (r:=r70) (A:=a6) hq17))),(Qa9 n70),(Qb7 Qbs),Qb6,(Qa9 Qe7),(Qb7 t3),Qb6,(Qa9 n3),rfl,rfl,trivial⟩
noncomputable def Qfe (p1:Qa1) : Option Qa1:=
 Option.bind (Qbb p1.Cells) fun r2 =>
 Option.bind (Qdr p1.Owner) fun r3 =>
 Option.bind (Qca p1.Threads) fun r4 =>
 Qcb r4 FU (Qa1.mk [] [] [] 0) [] r2 r3 p1.Fault 0
theorem Qqa {p1:Qa1} {r:Qa1} (h:Qfe p1=some r) : Qa4 Tryz.prog 90 [(AV.agg ((r44 p1)))] (AV.agg (o44 r)):=by
 refine gM Tryz.func90 38 Xk1 fun E hP hn hx=>?_
 unfold Qfe at h
 obtain ⟨r2,hr2,h⟩:=bnS h
 obtain ⟨r3,hr3,h⟩:=bnS h
 obtain ⟨r4,hr4,h⟩:=bnS h
 exact (let Z0:=r2.map Qae;let Z1:=AV.own 132 1 Z0;let Z2:=AV.own 3 1 (r3.map o3);let Z3:=r4.map r70;let Z4:=AV.own 70 6 Z3;let Z5:=AV.sl 1005 0 Z3.length;let Z6:=(I (r4.length:Int));let Z7:=AV.own 70 6 ([].map o70);let Z8:=[[Z7,nS,nS,(I 0)]];let Z9:=AV.own 132 1 ([].map Qae);let Z10:=[[Z7,Z9,nS,(I 0)]];let Z11:=[[Z7,Z9,(AV.own 3 1 ([].map o3)),(I 0)]];let Z12:=AV.sl 1003 0 Z0.length;let Z13:=AV.sl 1004 0 (r3.map o3).length;let Z14:=I p1.Fault;let Z15:=[Z5,Z12,Z13,Z14];let Z16:=[Z5,Z1,Z13,Z14];let Z17:=[[Z5,Z1,Z2,Z14]];let Z18:=Qw7 o70 r70 [] r4 (Int.toNat 0);let Z19:=[[(AV.sl 1005 0 Z18.length),Z1,Z2,Z14]];let Z20:=AV.ptr 1001 0 1;let Z21:=AV.ro 1 (p1.Cells.map Qae);let Z22:=((rtf Z1 [1003]).2.1).map sm;let Z23:=AV.ptr 1001 0 2;let Z24:=AV.ro 1 (p1.Owner.map o3);let Z25:=((rtf Z2 [1004]).2.1).map sm;let Z26:=AV.ptr 1001 0 3;let Z27:=AV.ptr 1001 0 0;let Z28:=AV.ro 6 (p1.Threads.map r70);let Z29:=rtf Z4 [1005];let Z30:=AV.agg Z15;let Z31:=AV.ptr 1006 0 0;let Z32:=([(1006,(Qas.mk 44 4 [[nS,nS,nS,(I 0)]]))].map sm);let Z33:=Qa1.mk [] [] [] 0;gT hP hn hx [hW 0 1001,hW 1 1002,hh 4 (.call [] Z1 [1003]),hh 7 (.call [] Z2 [1004]),hh 12 (.callS Z4 [1005] Z5 [(1005,⟨70,6,Z3⟩)]),hW 14 1006,hO 18 Z6,hh 20 (.own0 1002 1 [] [nS,nS,(I 0)] 70 6 Z8),hh 20 (.own0 1002 1 [Z7] [nS,(I 0)] 132 1 Z10),hh 20 (.own0 1002 1 [Z7,Z9] [(I 0)] 3 1 Z11),hh 20 (.pack 1006 1003 0 1 Z15 [Z16]),hh 20 (.pack 1006 1004 0 2 Z16 Z17),hh 20 (.eqr 1005 Z18),hh 20 (.eqr 1006 Z19)] [(1002,1),(1006,2),(1005,1005)] [2,3,19,20] [] [Z20=Z20,Z20=Z20,Z21=Z21,Z21=Z21,Z12=Z12,Z22=Z22,Qa4 Tryz.prog 161 [Z21] Z1,Qc2 Z1=true,Z12=Z12,Z22=Z22,Qa4 Tryz.prog 161 [Z21] Z1,Qc2 Z1=true,Z23=Z23,Z23=Z23,Z23=Z23,Z23=Z23,Z24=Z24,Z24=Z24,Z24=Z24,Z24=Z24,Z13=Z13,Z25=Z25,Qa4 Tryz.prog 162 [Z24] Z2,Qc2 Z2=true,Z13=Z13,Z25=Z25,Qa4 Tryz.prog 162 [Z24] Z2,Qc2 Z2=true,Z26=Z26,Z26=Z26,Z26=Z26,Z26=Z26,Z26=Z26,Z26=Z26,Z26=Z26,Z26=Z26,Z14=Z14,Z14=Z14,Z14=Z14,Z14=Z14,Z14=Z14,Z14=Z14,Z14=Z14,Z14=Z14,Z27=Z27,Z27=Z27,Z27=Z27,Z27=Z27,Z27=Z27,Z27=Z27,Z28=Z28,Z28=Z28,Z28=Z28,Z28=Z28,Z28=Z28,Z28=Z28,Z5=Z5,(([(1005,⟨70,6,Z3⟩)]).map sm)=(([(1005,⟨70,6,Z3⟩)]).map sm),Qa4 Tryz.prog 163 [Z28] Z4,Qcy [Z28]=true,Z29.1=Z5,Z29.2.1=[(1005,⟨70,6,Z3⟩)],Z5=Z5,(([(1005,⟨70,6,Z3⟩)]).map sm)=(([(1005,⟨70,6,Z3⟩)]).map sm),Qa4 Tryz.prog 163 [Z28] Z4,Qcy [Z28]=true,Z29.1=Z5,Z29.2.1=[(1005,⟨70,6,Z3⟩)],Z30=Z30,Z30=Z30,Z31=Z31,Z32=Z32,Z31=Z31,Z32=Z32,Z31=Z31,Z32=Z32,Z31=Z31,Z32=Z32,AV.lit (.int .i64 ((Z3.length:Nat) : Int))=Z6,[[nS,nS,nS,(I 0)]]=List.replicate 1 ([]++AV.lit (.slice none 0 0) :: [nS,nS,(I 0)]),List.replicate 1 ([]++AV.own 70 6 [] :: [nS,nS,(I 0)])=Z8,Z8=List.replicate 1 ([Z7]++AV.lit (.slice none 0 0) :: [nS,(I 0)]),List.replicate 1 ([Z7]++AV.own 132 1 [] :: [nS,(I 0)])=Z10,Z10=List.replicate 1 ([Z7,Z9]++AV.lit (.slice none 0 0) :: [(I 0)]),List.replicate 1 ([Z7,Z9]++AV.own 3 1 [] :: [(I 0)])=Z11,[Z15][0]? = some Z15,Z15[1]? = some Z12,Qa2 Z0=true,[Z15].set 0 (Z15.set 1 Z1)=[Z16],[Z16][0]? = some Z16,Z16[2]? = some Z13,Qa2 (r3.map o3)=true,[Z16].set 0 (Z16.set 2 Z2)=Z17,Z3=Z18,Z17=Z19,Qa8 [(1002,1),(1006,2),(1005,1005)] Z11,Qa8 [(1002,1),(1006,2),(1005,1005)] Z19,Qa8 [(1002,1),(1006,2),(1005,1005)] Z18] ⟨rfl,rfl,rfl,rfl,rfl,rfl,(Qcg hr2),(by simp +zetaDelta only [Qc2,Qbm,Qa9 Qe7,Bool.and_self]),rfl,rfl,(Qcg hr2),(by simp +zetaDelta only [Qc2,Qbm,Qa9 Qe7,Bool.and_self]),rfl,rfl,rfl,rfl,rfl,rfl,rfl,rfl,rfl,rfl,(Qie hr3),(by simp +zetaDelta only [Qc2,Qbm,Qa9 n3,Bool.and_self]),rfl,rfl,(Qie hr3),(by simp +zetaDelta only [Qc2,Qbm,Qa9 n3,Bool.and_self]),rfl,rfl,rfl,rfl,rfl,rfl,rfl,rfl,rfl,rfl,rfl,rfl,rfl,rfl,rfl,rfl,rfl,rfl,rfl,rfl,rfl,rfl,rfl,rfl,rfl,rfl,rfl,rfl,rfl,rfl,(Qgf hr4),rfl,rfl,rfl,rfl,rfl,(Qgf hr4),rfl,rfl,rfl,rfl,rfl,rfl,rfl,rfl,rfl,rfl,rfl,rfl,rfl,(Qby r70),rfl,rfl,rfl,rfl,rfl,rfl,rfl,rfl,(Qab Qbs),rfl,rfl,rfl,(Qab t3),rfl,(mx0 (o:=o70) (r:=r70)),(congrArg (fun nn=>[[(AV.sl 1005 0 nn),Z1,Z2,(I p1.Fault)]]) (show Z3.length=(Qw7 o70 r70 [] r4 (Int.toNat 0)).length from (congrArg List.length (mx0 (l:=r4) (o:=o70) (r:=r70))))),(rok (Qai t44 Z33)),(.inr rfl),(rok (mxT t70 tr70)),trivial⟩ (Qnw hP hn hx r4 FU Z33 [] r2 r3 p1.Fault 0 _ h))
noncomputable def Xma:Code:=match Tryz.f164.body with | some c=>c | none=>.skip
noncomputable def Qcv (p1:Qaf) (p2:Qa0) : Option (GOp×Bool):=
 Option.bind (rd p1.Routines p2.Routine) fun x3 =>
 if (decide (p2.Pc<(x3.length:Int)))=true then
  Option.bind (rd x3 p2.Pc) fun x5 =>
  some (x5,true)
 else
  some ((GOp.mk 0 0 0 0),false)
theorem Qe9 {p1:Qaf} {p2:Qa0} {r:(GOp×Bool)} (h:Qcv p1 p2=some r) : Qa4 Tryz.prog 164 [(AV.agg ((r39 p1))),(AV.agg ((r70 p2)))] (AV.tup [(AV.agg (Qbj r.1)),(B r.2)]):=by
 refine gM Tryz.func164 24 Xma fun E hP hn hx=>?_
 unfold Qcv at h
 obtain ⟨x3,hx3,h⟩:=bnS h
 let Z0:=(I (x3.length:Int));let Z1:=(decide (p2.Pc<(x3.length:Int)));let Z3:=AV.agg [(I 0),(I 0),(I 0),(FK 0)]
 let H1:List Hn:=[hW 0 1001,hW 1 1002,hW 2 1003,hh 8 (.row (Qho x3)),hO 14 Z0]
 let P2:List Prop:=[(0:Int)≤p2.Routine,(p1.Routines.map Qho)[p2.Routine.toNat]? = some (Qho x3),AV.lit (.int .i64 (((x3.map Qbj).length:Nat) : Int))=Z0]
 have AP2:Qam P2:=⟨(rd0 hx3),(rdM Qho hx3),(Qby Qbj),trivial⟩
 rcases itS h with ⟨c4,h⟩ | ⟨c6,h⟩
 ·obtain ⟨x5,hx5,h⟩:=bnS h
  obtain rfl:=sj h
  exact (let Z2:=AV.agg ((Qbj x5));gR hP hn (H1++[hT 16,hh 20 (.row (Qbj x5))]) [] (.agg [.raw,.raw]) (P2++[Z1=true,(0:Int)≤p2.Pc,(x3.map Qbj)[p2.Pc.toNat]? = some (Qbj x5),Z2=Z2,Qa3 Z2=true,(B true)=(B true),Qa3 (B true)=true]) (Qa7 AP2 ⟨c4,(rd0 hx5),(rdM Qbj hx5),rfl,rfl,rfl,rfl,trivial⟩))
 ·obtain rfl:=sj h
  exact gR hP hn (H1++[hF 16]) [] (.agg [.raw,.raw]) (P2++[Z1=false,Z3=Z3,Qa3 Z3=true,(B false)=(B false),Qa3 (B false)=true]) (Qa7 AP2 ⟨c6,rfl,rfl,rfl,rfl,trivial⟩)
noncomputable def Xm2:Code:=match Tryz.f230.body with | some c=>c | none=>.skip
noncomputable def Qqv (p1:Nat) : Option Nat:=
 Option.bind (Xhw p1) fun q2 =>
 some (Int.toNat (Qwa .u64 ((p1:Nat) : Int) 9223372036854775808))
theorem Xe7 {p1:Nat} {r:Nat} (h:Qqv p1=some r) : Qa4 Tryz.prog 230 [(FK p1)] (FK r):=by
 refine gM Tryz.func230 7 Xm2 fun E hP hn hx=>?_
 unfold Qqv at h
 obtain ⟨q2,hq2,h⟩:=bnS h
 obtain rfl:=sj h
 exact (let Z0:=((p1:Nat) : Int);gR hP hn [hh 2 (.xt (IK .u64 Z0)),hh 4 (.xt (FK (Qwa .u64 Z0 9223372036854775808).toNat))] [] .raw [Xiz Tryz.prog 181 (FK p1) (IK .u64 Z0),Xiz Tryz.prog 233 (IK .u64 (Qwa .u64 Z0 9223372036854775808)) (FK (Qwa .u64 Z0 9223372036854775808).toNat),(FK (Qwa .u64 Z0 9223372036854775808).toNat)=(FK (Qwa .u64 Z0 9223372036854775808).toNat),Qa3 (FK (Qwa .u64 Z0 9223372036854775808).toNat)=true] ⟨(xBits Tryz.func181 (by kernel_rfl) (by kernel_rfl) (by kernel_rfl) (by kernel_rfl) (Xoq hq2)),(xFrom Tryz.func233 (by kernel_rfl) (by kernel_rfl) (by kernel_rfl) (by kernel_rfl)),rfl,rfl,trivial⟩)
noncomputable def Xl5:Code:=match Tryz.f228.body with | some c=>c | none=>.skip
noncomputable def Qfk (p1:Nat) : Option Bool:=
 Option.bind (Qqv p1) fun r2 =>
 some ((Qci r2 9218868437227405311) == some .gt)
theorem Qvp {p1:Nat} {r:Bool} (h:Qfk p1=some r) : Qa4 Tryz.prog 228 [(FK p1),(I 0)] (B r):=by
 refine gM Tryz.func228 15 Xl5 fun E hP hn hx=>?_
 unfold Qfk at h
 obtain ⟨r2,hr2,h⟩:=bnS h
 obtain rfl:=sj h
 exact (let Z0:=Qci r2 9218868437227405311;gR hP hn [hh 5 (.callV [] (FK r2)),hh 8 (.bin (B (Z0 == some .gt)))] [] .raw [Qa4 Tryz.prog 230 [(FK p1)] (FK r2),Qa3 (FK r2)=true,Qgd Tryz.prog .gtr 132 (FK r2) (FK 9218868437227405311) (B (Z0 == some .gt)),(B (Z0 == some .gt))=(B (Z0 == some .gt)),Qa3 (B (Z0 == some .gt))=true] ⟨(Xe7 hr2),rfl,fGtr,rfl,rfl,trivial⟩)
noncomputable def Xl4:Code:=match Tryz.f180.body with | some c=>c | none=>.skip
noncomputable def Qg3 (p1:Nat) : Option Bool:=
 some ((Qci p1 p1) != some .eq)
theorem Qz8 {p1:Nat} {r:Bool} (h:Qg3 p1=some r) : Qa4 Tryz.prog 180 [(FK p1)] (B r):=by
 refine gM Tryz.func180 6 Xl4 fun E hP hn hx=>?_
 unfold Qg3 at h
 obtain rfl:=sj h
 exact (let Z0:=Qci p1 p1;gR hP hn [hh 3 (.bin (B (Z0 != some .eq)))] [] .raw [Qgd Tryz.prog .neq 132 (FK p1) (FK p1) (B (Z0 != some .eq)),(B (Z0 != some .eq))=(B (Z0 != some .eq)),Qa3 (B (Z0 != some .eq))=true] ⟨Xio,rfl,rfl,trivial⟩)
noncomputable def Xlu:Code:=match Tryz.f229.body with | some c=>c | none=>.skip
noncomputable def Qk9 (p1:Nat) : Option Nat:=
 Option.bind (Xhw p1) fun q2 =>
 some (fTr p1)
theorem Xae {p1:Nat} {r:Nat} (h:Qk9 p1=some r) : Qa4 Tryz.prog 229 [(FK p1)] (FK r):=by
 refine gM Tryz.func229 7 Xlu fun E hP hn hx=>?_
 unfold Qk9 at h
 obtain ⟨q2,hq2,h⟩:=bnS h
 obtain rfl:=sj h
 exact gR hP hn [hh 3 (.xt (FK (fTr p1)))] [] .raw [Xiz Tryz.prog 231 (FK p1) (FK (fTr p1)),(FK (fTr p1))=(FK (fTr p1)),Qa3 (FK (fTr p1))=true] ⟨(Xpb Tryz.func231 (by kernel_rfl) (by kernel_rfl) (by kernel_rfl) (by kernel_rfl) (Xoq hq2)),rfl,rfl,trivial⟩
noncomputable def Xl8:Code:=match Tryz.f226.body with | some c=>c | none=>.skip
noncomputable def Qce (p1:Nat) : Option Int:=
 Option.bind (Qg3 p1) fun r2 =>
 if r2=true then
  some 0
 else
  Option.bind (Qfk p1) fun r5 =>
  if r5=true then
   some 1
  else
   if ((Qci p1 0) == some .eq)=true then
    some 2
   else
    Option.bind (Qk9 p1) fun r10 =>
    if ((Qci p1 r10) == some .eq)=true then
     some 3
    else
     some 4
theorem Qml {p1:Nat} {r:Int} (h:Qce p1=some r) : Qa4 Tryz.prog 226 [(FK p1)] (I r):=by
 refine gM Tryz.func226 17 Xl8 fun E hP hn hx=>?_
 unfold Qce at h
 obtain ⟨r2,hr2,h⟩:=bnS h
 let Z0:=Qci p1 0
 let H1:List Hn:=[hh 2 (.callV [] (B r2))]
 let P2:List Prop:=[Qa4 Tryz.prog 180 [(FK p1)] (B r2),Qa3 (B r2)=true]
 have AP2:Qam P2:=⟨(Qz8 hr2),rfl,trivial⟩
 rcases itS h with ⟨c3,h⟩ | ⟨c4,h⟩
 ·obtain rfl:=sj h
  exact gR hP hn (H1++[hT 4]) [] .raw (P2++[r2=true,(I 0)=(I 0),Qa3 (I 0)=true]) (Qa7 AP2 ⟨c3,rfl,rfl,trivial⟩)
 ·obtain ⟨r5,hr5,h⟩:=bnS h
  let H3:List Hn:=H1++[hF 4,hh 6 (.callV [] (B r5))]
  let P4:List Prop:=P2++[r2=false,Qa4 Tryz.prog 228 [(FK p1),(I 0)] (B r5),Qa3 (B r5)=true]
  have AP4:Qam P4:=Qa7 AP2 ⟨c4,(Qvp hr5),rfl,trivial⟩
  rcases itS h with ⟨c6,h⟩ | ⟨c7,h⟩
  ·obtain rfl:=sj h
   exact gR hP hn (H3++[hT 8]) [] .raw (P4++[r5=true,(I 1)=(I 1),Qa3 (I 1)=true]) (Qa7 AP4 ⟨c6,rfl,rfl,trivial⟩)
  ·let H5:List Hn:=H3++[hF 8,hh 10 (.bin (B (Z0 == some .eq)))]
   let P6:List Prop:=P4++[r5=false,Qgd Tryz.prog .eql 132 (FK p1) (FK 0) (B (Z0 == some .eq))]
   have AP6:Qam P6:=Qa7 AP4 ⟨c7,Xfi,trivial⟩
   rcases itS h with ⟨c8,h⟩ | ⟨c9,h⟩
   ·obtain rfl:=sj h
    exact gR hP hn (H5++[hT 12]) [] .raw (P6++[(Z0 == some .eq)=true,(I 2)=(I 2),Qa3 (I 2)=true]) (Qa7 AP6 ⟨c8,rfl,rfl,trivial⟩)
   ·obtain ⟨r10,hr10,h⟩:=bnS h
    let Z1:=Qci p1 r10
    let H7:List Hn:=H5++[hF 12,hh 15 (.callV [] (FK r10)),hh 16 (.bin (B (Z1 == some .eq)))]
    let P8:List Prop:=P6++[(Z0 == some .eq)=false,Qa4 Tryz.prog 229 [(FK p1)] (FK r10),Qa3 (FK r10)=true,Qgd Tryz.prog .eql 132 (FK p1) (FK r10) (B (Z1 == some .eq))]
    have AP8:Qam P8:=Qa7 AP6 ⟨c9,(Xae hr10),rfl,Xfi,trivial⟩
    rcases itS h with ⟨c11,h⟩ | ⟨c12,h⟩
    ·obtain rfl:=sj h
     exact gR hP hn (H7++[hT 18]) [] .raw (P8++[(Z1 == some .eq)=true,(I 3)=(I 3),Qa3 (I 3)=true]) (Qa7 AP8 ⟨c11,rfl,rfl,trivial⟩)
    ·obtain rfl:=sj h
     exact gR hP hn (H7++[hF 18]) [] .raw (P8++[(Z1 == some .eq)=false,(I 4)=(I 4),Qa3 (I 4)=true]) (Qa7 AP8 ⟨c12,rfl,rfl,trivial⟩)
noncomputable def Xmv:Code:=match Tryz.f208.body with | some c=>c | none=>.skip
noncomputable def Qfj (p1:Nat) (p2:Int) : Option (Int×Bool):=
 Option.bind (Qce p1) fun r3 =>
 Option.bind (Qge p2 1 1000) fun r4 =>
 if (!r4)=true then
  some (0,false)
 else
  if (r3 != 2)=true then
   if (r3 != 3)=true then
    some (0,false)
   else
    if ((Qci p1 0) == some .lt)=true then
     some (0,false)
    else
     if ((Qci p1 (fOf p2)) == some .gt || (Qci p1 (fOf p2)) == some .eq)=true then
      some (0,false)
     else
      Option.bind (fTo p1) fun x14 =>
      some (x14,true)
  else
   if ((Qci p1 0) == some .lt)=true then
    some (0,false)
   else
    if ((Qci p1 (fOf p2)) == some .gt || (Qci p1 (fOf p2)) == some .eq)=true then
     some (0,false)
    else
     Option.bind (fTo p1) fun x20 =>
     some (x20,true)
theorem Qj0 {p1:Nat} {p2:Int} {r:(Int×Bool)} (h:Qfj p1 p2=some r) : Qa4 Tryz.prog 208 [(FK p1),(I p2)] (AV.tup [(I r.1),(B r.2)]):=by
 refine gM Tryz.func208 32 Xmv fun E hP hn hx=>?_
 unfold Qfj at h
 obtain ⟨r3,hr3,h⟩:=bnS h
 obtain ⟨r4,hr4,h⟩:=bnS h
 let Z0:=B true;let Z1:=I 0;let Z2:=B false;let Z3:=B (r3 != 2);let Z4:=Qci p1 0;let Z5:=fOf p2;let Z6:=Qci p1 Z5
 let H1:List Hn:=[hh 3 (.callV [] (I r3)),hh 6 (.callV [] (B r4))]
 let P2:List Prop:=[Qa4 Tryz.prog 226 [(FK p1)] (I r3),Qa3 (I r3)=true,Qa4 Tryz.prog 95 [(I p2),(I 1),(I 1000)] (B r4),Qa3 (B r4)=true]
 have AP2:Qam P2:=⟨(Qml hr3),rfl,(Qeo hr4),rfl,trivial⟩
 rcases itS h with ⟨c5,h⟩ | ⟨c6,h⟩
 ·obtain rfl:=sj h
  exact gR hP hn (H1++[hO 8 Z0]) [] (.agg [.raw,.raw]) (P2++[(B (!r4))=Z0,Z1=Z1,Qa3 Z1=true,Z2=Z2,Qa3 Z2=true]) (Qa7 AP2 ⟨(Qau c5),rfl,rfl,rfl,rfl,trivial⟩)
 ·let H3:List Hn:=H1++[hO 8 Z2]
  let P4:List Prop:=P2++[(B (!r4))=Z2]
  have AP4:Qam P4:=Qa7 AP2 ⟨(Qau c6),trivial⟩
  rcases itS h with ⟨c7,h⟩ | ⟨c15,h⟩
  ·rcases itS h with ⟨c8,h⟩ | ⟨c9,h⟩
   ·obtain rfl:=sj h
    exact gR hP hn (H3++[hO 11 Z0,hO 16 Z0]) [] (.agg [.raw,.raw]) (P4++[Z3=Z0,(B (r3 != 3))=Z0,Z1=Z1,Qa3 Z1=true,Z2=Z2,Qa3 Z2=true]) (Qa7 AP4 ⟨(Qau c7),(Qau c8),rfl,rfl,rfl,rfl,trivial⟩)
   ·let H5:List Hn:=H3++[hO 11 Z0,hO 16 Z2,hh 18 (.bin (B (Z4 == some .lt)))]
    let P6:List Prop:=P4++[Z3=Z0,(B (r3 != 3))=Z2,Qgd Tryz.prog .lss 132 (FK p1) (FK 0) (B (Z4 == some .lt))]
    have AP6:Qam P6:=Qa7 AP4 ⟨(Qau c7),(Qau c9),Xk8,trivial⟩
    rcases itS h with ⟨c10,h⟩ | ⟨c11,h⟩
    ·obtain rfl:=sj h
     exact gR hP hn (H5++[hO 20 Z0]) [] (.agg [.raw,.raw]) (P6++[(B (Z4 == some .lt))=Z0,Z1=Z1,Qa3 Z1=true,Z2=Z2,Qa3 Z2=true]) (Qa7 AP6 ⟨(Qau c10),rfl,rfl,rfl,rfl,trivial⟩)
    ·let H7:List Hn:=H5++[hO 20 Z2,hh 23 (.cnv (FK Z5)),hh 24 (.bin (B (Z6 == some .gt || Z6 == some .eq)))]
     let P8:List Prop:=P6++[(B (Z4 == some .lt))=Z2,Qyz Tryz.prog 3 132 (I p2) (FK Z5),Qgd Tryz.prog .geq 132 (FK p1) (FK Z5) (B (Z6 == some .gt || Z6 == some .eq))]
     have AP8:Qam P8:=Qa7 AP6 ⟨(Qau c11),(cIF (P:=Tryz.prog) ty3 Qqo),fGeq,trivial⟩
     rcases itS h with ⟨c12,h⟩ | ⟨c13,h⟩
     ·obtain rfl:=sj h
      exact gR hP hn (H7++[hT 26]) [] (.agg [.raw,.raw]) (P8++[(Z6 == some .gt || Z6 == some .eq)=true,Z1=Z1,Qa3 Z1=true,Z2=Z2,Qa3 Z2=true]) (Qa7 AP8 ⟨c12,rfl,rfl,rfl,rfl,trivial⟩)
     ·obtain ⟨x14,hx14,h⟩:=bnS h
      obtain rfl:=sj h
      exact gR hP hn (H7++[hF 26,hh 28 (.cnv (I x14))]) [] (.agg [.raw,.raw]) (P8++[(Z6 == some .gt || Z6 == some .eq)=false,Qyz Tryz.prog 132 3 (FK p1) (I x14),(I x14)=(I x14),Qa3 (I x14)=true,Z0=Z0,Qa3 Z0=true]) (Qa7 AP8 ⟨c13,(cFI (P:=Tryz.prog) Qqo ty3 hx14),rfl,rfl,rfl,rfl,trivial⟩)
  ·let H9:List Hn:=H3++[hO 11 Z2,hh 18 (.bin (B (Z4 == some .lt)))]
   let P10:List Prop:=P4++[Z3=Z2,Qgd Tryz.prog .lss 132 (FK p1) (FK 0) (B (Z4 == some .lt))]
   have AP10:Qam P10:=Qa7 AP4 ⟨(Qau c15),Xk8,trivial⟩
   rcases itS h with ⟨c16,h⟩ | ⟨c17,h⟩
   ·obtain rfl:=sj h
    exact gR hP hn (H9++[hO 20 Z0]) [] (.agg [.raw,.raw]) (P10++[(B (Z4 == some .lt))=Z0,Z1=Z1,Qa3 Z1=true,Z2=Z2,Qa3 Z2=true]) (Qa7 AP10 ⟨(Qau c16),rfl,rfl,rfl,rfl,trivial⟩)
   ·let H11:List Hn:=H9++[hO 20 Z2,hh 23 (.cnv (FK Z5)),hh 24 (.bin (B (Z6 == some .gt || Z6 == some .eq)))]
    let P12:List Prop:=P10++[(B (Z4 == some .lt))=Z2,Qyz Tryz.prog 3 132 (I p2) (FK Z5),Qgd Tryz.prog .geq 132 (FK p1) (FK Z5) (B (Z6 == some .gt || Z6 == some .eq))]
    have AP12:Qam P12:=Qa7 AP10 ⟨(Qau c17),(cIF (P:=Tryz.prog) ty3 Qqo),fGeq,trivial⟩
    rcases itS h with ⟨c18,h⟩ | ⟨c19,h⟩
    ·obtain rfl:=sj h
     exact gR hP hn (H11++[hT 26]) [] (.agg [.raw,.raw]) (P12++[(Z6 == some .gt || Z6 == some .eq)=true,Z1=Z1,Qa3 Z1=true,Z2=Z2,Qa3 Z2=true]) (Qa7 AP12 ⟨c18,rfl,rfl,rfl,rfl,trivial⟩)
    ·obtain ⟨x20,hx20,h⟩:=bnS h
     obtain rfl:=sj h
     exact gR hP hn (H11++[hF 26,hh 28 (.cnv (I x20))]) [] (.agg [.raw,.raw]) (P12++[(Z6 == some .gt || Z6 == some .eq)=false,Qyz Tryz.prog 132 3 (FK p1) (I x20),(I x20)=(I x20),Qa3 (I x20)=true,Z0=Z0,Qa3 Z0=true]) (Qa7 AP12 ⟨c19,(cFI (P:=Tryz.prog) Qqo ty3 hx20),rfl,rfl,rfl,rfl,trivial⟩)
noncomputable def Xdb:Code:=match Tryz.f205.body with | some c=>c | none=>.skip
noncomputable def Qbq (p1:Qa1) (p2:Qa0) : Option (Int×Bool):=
 if ((p2.Stack.length:Int) == 0)=true then
  some (0,false)
 else
  Option.bind (rd p2.Stack (w64 ((p2.Stack.length:Int) - 1))) fun x5 =>
  Option.bind (Qfj x5 (p1.Threads.length:Int)) fun r6 =>
  some (r6.1,r6.2)
theorem Qkm {p1:Qa1} {p2:Qa0} {r:(Int×Bool)} (h:Qbq p1 p2=some r) : Qa4 Tryz.prog 205 [(AV.rop (r44 p1) 0),(AV.agg ((r70 p2)))] (AV.tup [(I r.1),(B r.2)]):=by
 refine gM Tryz.func205 26 Xdb fun E hP hn hx=>?_
 unfold Qbq at h
 let Z0:=(((p2.Stack.map Qae).length:Nat) : Int);let Z1:=(p2.Stack.length:Int);let Z2:=(I (p1.Threads.length:Int))
 let P1:List Prop:=[AV.lit (.int .i64 Z0)=(I Z1)]
 have AP1:Qam P1:=⟨(Qby Qae),trivial⟩
 rcases itS h with ⟨c3,h⟩ | ⟨c4,h⟩
 ·obtain rfl:=sj h
  exact gR hP hn [hW 0 1001,hO 5 (I Z1),hT 7] [] (.agg [.raw,.raw]) (P1++[(Z1 == 0)=true,(I 0)=(I 0),Qa3 (I 0)=true,(B false)=(B false),Qa3 (B false)=true]) (Qa7 AP1 ⟨c3,rfl,rfl,rfl,rfl,trivial⟩)
 ·obtain ⟨x5,hx5,h⟩:=bnS h
  obtain ⟨r6,hr6,h⟩:=bnS h
  obtain rfl:=sj h
  exact (let Z3:=AV.tup [(I r6.1),(B r6.2)];gR hP hn [hW 0 1001,hO 5 (I Z1),hF 7,hO 12 (I Z1),hh 14 (.row (Qae x5)),hO 20 Z2,hh 21 (.callV [] Z3)] [] (.agg [.raw,.raw]) (P1++[(Z1 == 0)=false,AV.lit (.int .i64 Z0)=(I Z1),(0:Int)≤(w64 (Z1 - 1)),(p2.Stack.map Qae)[(w64 (Z1 - 1)).toNat]? = some (Qae x5),AV.lit (.int .i64 (((p1.Threads.map r70).length:Nat) : Int))=Z2,Qa4 Tryz.prog 208 [(FK x5),Z2] Z3,Qa3 Z3=true,(I r6.1)=(I r6.1),Qa3 (I r6.1)=true,(B r6.2)=(B r6.2),Qa3 (B r6.2)=true]) (Qa7 AP1 ⟨c4,(Qby Qae),(rd0 hx5),(rdM Qae hx5),(Qby r70),(Qj0 hr6),rfl,rfl,rfl,rfl,rfl,trivial⟩))
noncomputable def Qpe:Code:=match Tryz.f160.body with | some c=>c | none=>.skip
noncomputable def Qd8  (p1:Qa1) (r8:(GOp×Bool))  : Option (Int×Bool):=
 Option.bind (rd p1.Owner r8.1.A) fun x11 =>
 some (x11,(decide (x11 ≥ 0)))
theorem Qoi {E:Env} (hP:E.pk=pk0 Tryz.prog) (hn:E.n=91) (hx:FX E []) (p1:Qa1) (r8:(GOp×Bool))   (r:(Int×Bool)) (h:Qd8 p1 r8  = some r) : WAt E Qpe (FQ (Qdj Θ Tryz.f160.results.toList [] [] (AV.tup [(I r.1),(B r.2)]) E)) [true,false,true,false,true,true,true,false,true,false,true,false] ⟨[(0,(AV.rop (r44 p1) 0)),(8,(AV.ptr 1 0 0))],[(1,some ⟨156,4,[((Qbj r8.1))]⟩)],[1,JJ]⟩:=by
 unfold Qd8 at h
 obtain ⟨x11,hx11,h⟩:=bnS h
 obtain rfl:=sj h
 exact (let Z0:=B (decide (x11 ≥ 0));gR hP hn [hh 6 (.row (o3 x11)),hh 14 (.row (o3 x11))] [] (.agg [.raw,.raw]) [(0:Int)≤r8.1.A,(p1.Owner.map o3)[r8.1.A.toNat]? = some (o3 x11),(0:Int)≤r8.1.A,(p1.Owner.map o3)[r8.1.A.toNat]? = some (o3 x11),(I x11)=(I x11),Qa3 (I x11)=true,Z0=Z0,Qa3 Z0=true] ⟨(rd0 hx11),(rdM o3 hx11),(rd0 hx11),(rdM o3 hx11),rfl,rfl,rfl,rfl,trivial⟩)
noncomputable def Qc3  (p1:Qa1) (p3:Qa0)  : Option (Int×Bool):=
 Option.bind (Qbq p1 p3) fun r15 =>
 if r15.2=true then
  Option.bind (rd p1.Threads r15.1) fun x17 =>
  some (r15.1,(x17.State != 2))
 else
  some (r15.1,false)
theorem Qp2 {E:Env} (hP:E.pk=pk0 Tryz.prog) (hn:E.n=91) (hx:FX E []) (p1:Qa1) (p3:Qa0)   (r:(Int×Bool)) (h:Qc3 p1 p3  = some r) : WAt E Qpe (FQ (Qdj Θ Tryz.f160.results.toList [] [] (AV.tup [(I r.1),(B r.2)]) E)) [true,false,true,false,true,true,true,false,true,false,true,true,true,false] ⟨[(0,(AV.rop (r44 p1) 0)),(5,(AV.ptr 1 0 0))],[(1,some ⟨70,6,[((r70 p3))]⟩)],[1,JJ]⟩:=by
 unfold Qc3 at h
 obtain ⟨r15,hr15,h⟩:=bnS h
 let Z0:=I r15.1;let Z1:=AV.tup [Z0,(B r15.2)];let Z3:=B false
 let P1:List Prop:=[Qa4 Tryz.prog 205 [(AV.rop (r44 p1) 0),(AV.agg ((r70 p3)))] Z1,Qa3 Z1=true]
 have AP1:Qam P1:=⟨(Qkm hr15),rfl,trivial⟩
 rcases itS h with ⟨c16,h⟩ | ⟨c18,h⟩
 ·obtain ⟨x17,hx17,h⟩:=bnS h
  obtain rfl:=sj h
  exact (let Z2:=B (x17.State != 2);gR hP hn [hh 2 (.callV [[]] Z1),hO 10 (B true),hh 16 (.row (r70 x17))] [] (.agg [.raw,.raw]) (P1++[(B r15.2)=(B true),(0:Int)≤r15.1,(p1.Threads.map r70)[r15.1.toNat]? = some (r70 x17),Z0=Z0,Qa3 Z0=true,Z2=Z2,Qa3 Z2=true]) (Qa7 AP1 ⟨(Qau c16),(rd0 hx17),(rdM r70 hx17),rfl,rfl,rfl,rfl,trivial⟩))
 ·obtain rfl:=sj h
  exact gR hP hn [hh 2 (.callV [[]] Z1),hO 10 Z3] [] (.agg [.raw,.raw]) (P1++[(B r15.2)=Z3,Z0=Z0,Qa3 Z0=true,Z3=Z3,Qa3 Z3=true]) (Qa7 AP1 ⟨(Qau c18),rfl,rfl,rfl,rfl,trivial⟩)
noncomputable def Qbg  (p1:Qa1) (p3:Qa0) (r8:(GOp×Bool))  : Option (Int×Bool):=
 if r8.2=true then
  if (r8.1.Code == 15)=true then
   Qc3 p1 p3
  else
   some (0,false)
 else
  some (0,false)
theorem Qji {E:Env} (hP:E.pk=pk0 Tryz.prog) (hn:E.n=91) (hx:FX E []) (p1:Qa1) (p3:Qa0) (r8:(GOp×Bool))   (r:(Int×Bool)) (h:Qbg p1 p3 r8  = some r) : WAt E Qpe (FQ (Qdj Θ Tryz.f160.results.toList [] [] (AV.tup [(I r.1),(B r.2)]) E)) [true,false,true,false,true,true,true,false,true,false,true,true] ⟨[(0,(AV.rop (r44 p1) 0)),(5,(AV.ptr 1 0 0)),(8,(AV.ptr 2 0 0)),(9,(B r8.2))],[(1,some ⟨70,6,[((r70 p3))]⟩),(2,some ⟨156,4,[((Qbj r8.1))]⟩)],[1,2,JJ]⟩:=by
 unfold Qbg at h
 let Z0:=B false
 rcases itS h with ⟨c13,h⟩ | ⟨c20,h⟩
 ·rcases itS h with ⟨c14,h⟩ | ⟨c19,h⟩
  ·exact gT hP hn hx [hO 1 (B true),hT 7] [(1,1)] [0,5] [] [(B r8.2)=(B true),(r8.1.Code == 15)=true,Qa8 [(1,1)] [((r70 p3))]] ⟨(Qau c13),c14,(rok (Qai t70 p3)),trivial⟩ (Qp2 hP hn hx p1 p3  _ h)
  ·obtain rfl:=sj h
   exact gR hP hn [hO 1 (B true),hF 7] [] (.agg [.raw,.raw]) [(B r8.2)=(B true),(r8.1.Code == 15)=false,(I 0)=(I 0),Qa3 (I 0)=true,Z0=Z0,Qa3 Z0=true] ⟨(Qau c13),c19,rfl,rfl,rfl,rfl,trivial⟩
 ·obtain rfl:=sj h
  exact gR hP hn [hO 1 Z0] [] (.agg [.raw,.raw]) [(B r8.2)=Z0,(I 0)=(I 0),Qa3 (I 0)=true,Z0=Z0,Qa3 Z0=true] ⟨(Qau c20),rfl,rfl,rfl,rfl,trivial⟩
noncomputable def Qdm (p1:Qa1) (p2:Qaf) (p3:Qa0) : Option (Int×Bool):=
 if (p3.State == 4)=true then
  Option.bind (rd p1.Owner p3.Lock) fun x5 =>
  some (x5,(decide (x5 ≥ 0)))
 else
  if (p3.State == 1)=true then
   Option.bind (Qcv p2 p3) fun r8 =>
   if r8.2=true then
    if (r8.1.Code == 12)=true then
     Qd8 p1 r8
    else
     Qbg p1 p3 r8
   else
    Qbg p1 p3 r8
  else
   some (0,false)
theorem Qrb {p1:Qa1} {p2:Qaf} {p3:Qa0} {r:(Int×Bool)} (h:Qdm p1 p2 p3=some r) : Qa4 Tryz.prog 160 [(AV.rop (r44 p1) 0),(AV.agg ((r39 p2))),(AV.agg ((r70 p3)))] (AV.tup [(I r.1),(B r.2)]):=by
 refine gM Tryz.func160 91 Qpe fun E hP hn hx=>?_
 unfold Qdm at h
 let Z0:=p3.State == 4;let Z4:=B false
 let H1:List Hn:=[hW 0 1001,hW 1 1002]
 rcases itS h with ⟨c4,h⟩ | ⟨c6,h⟩
 ·obtain ⟨x5,hx5,h⟩:=bnS h
  obtain rfl:=sj h
  exact (let Z1:=B (decide (x5 ≥ 0));gR hP hn (H1++[hT 8,hh 15 (.row (o3 x5)),hh 23 (.row (o3 x5))]) [] (.agg [.raw,.raw]) [Z0=true,(0:Int)≤p3.Lock,(p1.Owner.map o3)[p3.Lock.toNat]? = some (o3 x5),(0:Int)≤p3.Lock,(p1.Owner.map o3)[p3.Lock.toNat]? = some (o3 x5),(I x5)=(I x5),Qa3 (I x5)=true,Z1=Z1,Qa3 Z1=true] ⟨c4,(rd0 hx5),(rdM o3 hx5),(rd0 hx5),(rdM o3 hx5),rfl,rfl,rfl,rfl,trivial⟩)
 ·rcases itS h with ⟨c7,h⟩ | ⟨c22,h⟩
  ·obtain ⟨r8,hr8,h⟩:=bnS h
   let Z2:=AV.tup [(AV.agg (Qbj r8.1)),(B r8.2)];let Z3:=Qbj r8.1
   let H2:List Hn:=H1++[hF 8,hT 11,hh 14 (.callV [[],[]] Z2),hW 18 1003]
   let P3:List Prop:=[Z0=false,(p3.State == 1)=true,Qa4 Tryz.prog 164 [(AV.agg ((r39 p2))),(AV.agg ((r70 p3)))] Z2,Qa3 Z2=true]
   have AP3:Qam P3:=⟨c6,c7,(Qe9 hr8),rfl,trivial⟩
   rcases itS h with ⟨c9,h⟩ | ⟨c21,h⟩
   ·rcases itS h with ⟨c10,h⟩ | ⟨c12,h⟩
    ·exact gT hP hn hx (H2++[hO 22 (B true),hT 28]) [(1003,1)] [0,8] [] (P3++[(B r8.2)=(B true),(r8.1.Code == 12)=true,Qa8 [(1003,1)] [Z3]]) (Qa7 AP3 ⟨(Qau c9),c10,(rok rfl),trivial⟩) (Qoi hP hn hx p1 r8  _ h)
    ·exact gT hP hn hx (H2++[hO 22 (B true),hF 28]) [(1002,1),(1003,2)] [0,5,8,9] [] (P3++[(B r8.2)=(B true),(r8.1.Code == 12)=false,Qa8 [(1002,1),(1003,2)] [((r70 p3))],Qa8 [(1002,1),(1003,2)] [Z3]]) (Qa7 AP3 ⟨(Qau c9),c12,(rok (Qai t70 p3)),(rok rfl),trivial⟩) (Qji hP hn hx p1 p3 r8  _ h)
   ·exact gT hP hn hx (H2++[hO 22 Z4]) [(1002,1),(1003,2)] [0,5,8,9] [] (P3++[(B r8.2)=Z4,Qa8 [(1002,1),(1003,2)] [((r70 p3))],Qa8 [(1002,1),(1003,2)] [Z3]]) (Qa7 AP3 ⟨(Qau c21),(rok (Qai t70 p3)),(rok rfl),trivial⟩) (Qji hP hn hx p1 p3 r8  _ h)
  ·obtain rfl:=sj h
   exact gR hP hn (H1++[hF 8,hF 11]) [] (.agg [.raw,.raw]) [Z0=false,(p3.State == 1)=false,(I 0)=(I 0),Qa3 (I 0)=true,Z4=Z4,Qa3 Z4=true] ⟨c6,c22,rfl,rfl,rfl,rfl,trivial⟩
noncomputable def Xai:Code:=match Tryz.f89.body with | some c=>c | none=>.skip
noncomputable def Qav  (p1:Qa1) : Nat→Qaf→(List Int)→Int→Option (List Int)
 | 0,_,_,_=>none
 | n+1,a3,a4,v5 =>
 if (decide (v5<(p1.Threads.length:Int)))=true then
  Option.bind (rd p1.Threads v5) fun x7 =>
  Option.bind (Qdm p1 a3 x7) fun r8 =>
  if (p1.Fault == 0)=true then
   if (!r8.2)=true then
    if (x7.State == 1)=true then
     Option.bind (app a4 [v5]) fun l12 =>
     Qav p1 n a3 l12 (w64 (v5+1))
    else
     if (x7.State == 4)=true then
      Option.bind (app a4 [v5]) fun l15 =>
      Qav p1 n a3 l15 (w64 (v5+1))
     else
      Qav p1 n a3 a4 (w64 (v5+1))
   else
    Qav p1 n a3 a4 (w64 (v5+1))
  else
   Qav p1 n a3 a4 (w64 (v5+1))
 else
  some a4
theorem Qmz {E:Env} (hP:E.pk=pk0 Tryz.prog) (hn:E.n=53) (hx:FX E []) (p1:Qa1)  : ∀ (n:Nat) (a3:Qaf) (a4:(List Int)) (v5:Int) (r:(List Int)),Qav p1 n a3 a4 v5=some r→WAt E Xai (FQ (Qdj Θ Tryz.f89.results.toList [] [] (AV.own 3 1 (r.map o3)) E)) [true,true,false,true,false] ⟨[(0,(AV.rop (r44 p1) 0)),(3,(AV.ptr 1 0 0)),(5,(AV.sl 2 0 (List.length (a4.map o3)))),(14,(AV.ro 6 (p1.Threads.map r70))),(15,(I (p1.Threads.length:Int))),(16,(I v5))],[(1,some ⟨39,4,[((r39 a3))]⟩),(2,some ⟨3,1,(a4.map o3)⟩)],[1,2,JJ]⟩:=by
 intro n
 induction n with
 | zero=>intro a3 a4 v5 r h;simp only [Qav] at h;cases h
 | succ n ih =>
  intro a3 a4 v5 r h
  simp only [Qav] at h
  let Z1:=(decide (v5<(p1.Threads.length:Int)));let Z2:=r39 a3;let Z3:=B true;let Z7:=a4.map o3;let Z8:=(([v5].map o3).drop 0).take ([v5].map o3).length;let Z9:=B false
  rcases itS h with ⟨c6,h⟩ | ⟨c19,h⟩
  ·obtain ⟨x7,hx7,h⟩:=bnS h
   obtain ⟨r8,hr8,h⟩:=bnS h
   let Z0:=AV.tup [(I r8.1),(B r8.2)];let Z5:=B (!r8.2);let Z6:=B (x7.State == 1)
   let H1:List Hn:=[hT 1,hh 3 (.row (r70 x7)),hW 5 1001,hh 11 (.callV [[],[]] Z0)]
   let P2:List Prop:=[Z1=true,(0:Int)≤v5,(p1.Threads.map r70)[v5.toNat]? = some (r70 x7),Qa4 Tryz.prog 160 [(AV.rop (r44 p1) 0),(AV.agg Z2),(AV.agg ((r70 x7)))] Z0,Qa3 Z0=true]
   have AP2:Qam P2:=⟨c6,(rd0 hx7),(rdM r70 hx7),(Qrb hr8),rfl,trivial⟩
   rcases itS h with ⟨c9,h⟩ | ⟨c18,h⟩
   ·let P3:List Prop:=P2++[(B (p1.Fault == 0))=Z3]
    have AP3:Qam P3:=Qa7 AP2 ⟨(Qau c9),trivial⟩
    rcases itS h with ⟨c10,h⟩ | ⟨c17,h⟩
    ·rcases itS h with ⟨c11,h⟩ | ⟨c13,h⟩
     ·obtain ⟨l12,hl12,h⟩:=bnS h
      exact (let Z4:=l12.map o3;gT hP hn hx (H1++[hO 22 Z3,hO 26 Z3,hO 30 Z3,hW 39 1002,hh 40 (.app 1003 Z4)]) [(1,1),(1003,2)] [0,3,5,14,15,16] [] (P3++[Z5=Z3,Z6=Z3,Z7.take Z7.length++Z8=Z4,Z8.all (fun r=>r.all AV.plain)=true,Z4.length * 8≤140737488355328,Z4.length≤140737488355328,Qa8 [(1,1),(1003,2)] [Z2],Qa8 [(1,1),(1003,2)] Z4]) (Qa7 AP3 ⟨(Qau c10),(Qau c11),(Qix o3 hl12),(plD pa3),(Qn2 o3 hl12 (by decide)),(Qn1 o3 hl12),(rok (Qai t39 a3)),(rok (Qab t3)),trivial⟩) (ih a3 l12 (w64 (v5+1)) _ h))
     ·rcases itS h with ⟨c14,h⟩ | ⟨c16,h⟩
      ·obtain ⟨l15,hl15,h⟩:=bnS h
       exact (let Z10:=l15.map o3;gT hP hn hx (H1++[hO 22 Z3,hO 26 Z3,hO 30 Z9,hT 36,hW 39 1004,hh 40 (.app 1005 Z10)]) [(1,1),(1005,2)] [0,3,5,14,15,16] [] (P3++[Z5=Z3,Z6=Z9,(x7.State == 4)=true,Z7.take Z7.length++Z8=Z10,Z8.all (fun r=>r.all AV.plain)=true,Z10.length * 8≤140737488355328,Z10.length≤140737488355328,Qa8 [(1,1),(1005,2)] [Z2],Qa8 [(1,1),(1005,2)] Z10]) (Qa7 AP3 ⟨(Qau c10),(Qau c13),c14,(Qix o3 hl15),(plD pa3),(Qn2 o3 hl15 (by decide)),(Qn1 o3 hl15),(rok (Qai t39 a3)),(rok (Qab t3)),trivial⟩) (ih a3 l15 (w64 (v5+1)) _ h))
      ·exact gT hP hn hx (H1++[hO 22 Z3,hO 26 Z3,hO 30 Z9,hF 36]) [(1,1),(2,2)] [0,3,5,14,15,16] [] (P3++[Z5=Z3,Z6=Z9,(x7.State == 4)=false,Qa8 [(1,1),(2,2)] [Z2],Qa8 [(1,1),(2,2)] Z7]) (Qa7 AP3 ⟨(Qau c10),(Qau c13),c16,(rok (Qai t39 a3)),(rok (Qab t3)),trivial⟩) (ih a3 a4 (w64 (v5+1)) _ h)
    ·exact gT hP hn hx (H1++[hO 22 Z3,hO 26 Z9]) [(1,1),(2,2)] [0,3,5,14,15,16] [] (P3++[Z5=Z9,Qa8 [(1,1),(2,2)] [Z2],Qa8 [(1,1),(2,2)] Z7]) (Qa7 AP3 ⟨(Qau c17),(rok (Qai t39 a3)),(rok (Qab t3)),trivial⟩) (ih a3 a4 (w64 (v5+1)) _ h)
   ·exact gT hP hn hx (H1++[hO 22 Z9]) [(1,1),(2,2)] [0,3,5,14,15,16] [] (P2++[(B (p1.Fault == 0))=Z9,Qa8 [(1,1),(2,2)] [Z2],Qa8 [(1,1),(2,2)] Z7]) (Qa7 AP2 ⟨(Qau c18),(rok (Qai t39 a3)),(rok (Qab t3)),trivial⟩) (ih a3 a4 (w64 (v5+1)) _ h)
  ·obtain rfl:=sj h
   exact gR hP hn [hF 1] [] .own [Z1=false,Qa2 (Z7.take Z7.length)=true,Z7.take Z7.length=Z7,Qa6 Z7=true] ⟨c19,(Qb7 t3),Qb6,(Qa9 n3),trivial⟩
noncomputable def Qbz (p1:Qa1) (p2:Qaf) : Option (List Int):=
 Qav p1 FU p2 [] 0
theorem Qpr {p1:Qa1} {p2:Qaf} {r:(List Int)} (h:Qbz p1 p2=some r) : Qa4 Tryz.prog 89 [(AV.rop (r44 p1) 0),(AV.agg ((r39 p2)))] (AV.own 3 1 (r.map o3)):=by
 refine gM Tryz.func89 53 Xai fun E hP hn hx=>?_
 unfold Qbz at h
 exact (let Z0:=(I (p1.Threads.length:Int));gT hP hn hx [hW 0 1001,hW 2 1002,hO 8 Z0] [(1001,1),(1002,2)] [0,3,5,14,15,16] [] [AV.lit (.int .i64 (((p1.Threads.map r70).length:Nat) : Int))=Z0,Qa8 [(1001,1),(1002,2)] [((r39 p2))],Qa8 [(1001,1),(1002,2)] ([].map o3)] ⟨(Qby r70),(rok (Qai t39 p2)),(rok (Qab t3)),trivial⟩ (Qmz hP hn hx p1 FU p2 [] 0 _ h))
noncomputable def Xla:Code:=match Tryz.f205.body with | some c=>c | none=>.skip
theorem Qh6 {p1:Qa1} {p2:Qa0} {W0 W1 W2:AV} {r:(Int×Bool)} (h:Qbq p1 p2=some r) : Qa4 Tryz.prog 205 [(AV.rop ([W0,W1,W2]++(r44 p1)) 3),(AV.agg ((r70 p2)))] (AV.tup [(I r.1),(B r.2)]):=by
 refine gM Tryz.func205 26 Xla fun E hP hn hx=>?_
 unfold Qbq at h
 let Z0:=(((p2.Stack.map Qae).length:Nat) : Int);let Z1:=(p2.Stack.length:Int);let Z2:=(I (p1.Threads.length:Int))
 let P1:List Prop:=[AV.lit (.int .i64 Z0)=(I Z1)]
 have AP1:Qam P1:=⟨(Qby Qae),trivial⟩
 rcases itS h with ⟨c3,h⟩ | ⟨c4,h⟩
 ·obtain rfl:=sj h
  exact gR hP hn [hW 0 1001,hO 5 (I Z1),hT 7] [] (.agg [.raw,.raw]) (P1++[(Z1 == 0)=true,(I 0)=(I 0),Qa3 (I 0)=true,(B false)=(B false),Qa3 (B false)=true]) (Qa7 AP1 ⟨c3,rfl,rfl,rfl,rfl,trivial⟩)
 ·obtain ⟨x5,hx5,h⟩:=bnS h
  obtain ⟨r6,hr6,h⟩:=bnS h
  obtain rfl:=sj h
  exact (let Z3:=AV.tup [(I r6.1),(B r6.2)];gR hP hn [hW 0 1001,hO 5 (I Z1),hF 7,hO 12 (I Z1),hh 14 (.row (Qae x5)),hO 20 Z2,hh 21 (.callV [] Z3)] [] (.agg [.raw,.raw]) (P1++[(Z1 == 0)=false,AV.lit (.int .i64 Z0)=(I Z1),(0:Int)≤(w64 (Z1 - 1)),(p2.Stack.map Qae)[(w64 (Z1 - 1)).toNat]? = some (Qae x5),AV.lit (.int .i64 (((p1.Threads.map r70).length:Nat) : Int))=Z2,Qa4 Tryz.prog 208 [(FK x5),Z2] Z3,Qa3 Z3=true,(I r6.1)=(I r6.1),Qa3 (I r6.1)=true,(B r6.2)=(B r6.2),Qa3 (B r6.2)=true]) (Qa7 AP1 ⟨c4,(Qby Qae),(rd0 hx5),(rdM Qae hx5),(Qby r70),(Qj0 hr6),rfl,rfl,rfl,rfl,rfl,trivial⟩))
noncomputable def Qxx:Code:=match Tryz.f160.body with | some c=>c | none=>.skip
theorem Qk5 {E:Env} (hP:E.pk=pk0 Tryz.prog) (hn:E.n=91) (hx:FX E []) {W0 W1 W2:AV} (p1:Qa1) (r8:(GOp×Bool))   (r:(Int×Bool)) (h:Qd8 p1 r8  = some r) : WAt E Qxx (FQ (Qdj Θ Tryz.f160.results.toList [] [] (AV.tup [(I r.1),(B r.2)]) E)) [true,false,true,false,true,true,true,false,true,false,true,false] ⟨[(0,(AV.rop ([W0,W1,W2]++(r44 p1)) 3)),(8,(AV.ptr 1 0 0))],[(1,some ⟨156,4,[((Qbj r8.1))]⟩)],[1,JJ]⟩:=by
 unfold Qd8 at h
 obtain ⟨x11,hx11,h⟩:=bnS h
 obtain rfl:=sj h
 exact (let Z0:=B (decide (x11 ≥ 0));gR hP hn [hh 6 (.row (o3 x11)),hh 14 (.row (o3 x11))] [] (.agg [.raw,.raw]) [(0:Int)≤r8.1.A,(p1.Owner.map o3)[r8.1.A.toNat]? = some (o3 x11),(0:Int)≤r8.1.A,(p1.Owner.map o3)[r8.1.A.toNat]? = some (o3 x11),(I x11)=(I x11),Qa3 (I x11)=true,Z0=Z0,Qa3 Z0=true] ⟨(rd0 hx11),(rdM o3 hx11),(rd0 hx11),(rdM o3 hx11),rfl,rfl,rfl,rfl,trivial⟩)
theorem Qk0 {E:Env} (hP:E.pk=pk0 Tryz.prog) (hn:E.n=91) (hx:FX E []) {W0 W1 W2:AV} (p1:Qa1) (p3:Qa0)   (r:(Int×Bool)) (h:Qc3 p1 p3  = some r) : WAt E Qxx (FQ (Qdj Θ Tryz.f160.results.toList [] [] (AV.tup [(I r.1),(B r.2)]) E)) [true,false,true,false,true,true,true,false,true,false,true,true,true,false] ⟨[(0,(AV.rop ([W0,W1,W2]++(r44 p1)) 3)),(5,(AV.ptr 1 0 0))],[(1,some ⟨70,6,[((r70 p3))]⟩)],[1,JJ]⟩:=by
 unfold Qc3 at h
 obtain ⟨r15,hr15,h⟩:=bnS h
 let Z0:=I r15.1;let Z1:=AV.tup [Z0,(B r15.2)];let Z3:=B false
 let P1:List Prop:=[Qa4 Tryz.prog 205 [(AV.rop ([W0,W1,W2]++(r44 p1)) 3),(AV.agg ((r70 p3)))] Z1,Qa3 Z1=true]
 have AP1:Qam P1:=⟨(Qh6 hr15),rfl,trivial⟩
 rcases itS h with ⟨c16,h⟩ | ⟨c18,h⟩
 ·obtain ⟨x17,hx17,h⟩:=bnS h
  obtain rfl:=sj h
  exact (let Z2:=B (x17.State != 2);gR hP hn [hh 2 (.callV [[]] Z1),hO 10 (B true),hh 16 (.row (r70 x17))] [] (.agg [.raw,.raw]) (P1++[(B r15.2)=(B true),(0:Int)≤r15.1,(p1.Threads.map r70)[r15.1.toNat]? = some (r70 x17),Z0=Z0,Qa3 Z0=true,Z2=Z2,Qa3 Z2=true]) (Qa7 AP1 ⟨(Qau c16),(rd0 hx17),(rdM r70 hx17),rfl,rfl,rfl,rfl,trivial⟩))
 ·obtain rfl:=sj h
  exact gR hP hn [hh 2 (.callV [[]] Z1),hO 10 Z3] [] (.agg [.raw,.raw]) (P1++[(B r15.2)=Z3,Z0=Z0,Qa3 Z0=true,Z3=Z3,Qa3 Z3=true]) (Qa7 AP1 ⟨(Qau c18),rfl,rfl,rfl,rfl,trivial⟩)
theorem Qgg {E:Env} (hP:E.pk=pk0 Tryz.prog) (hn:E.n=91) (hx:FX E []) {W0 W1 W2:AV} (p1:Qa1) (p3:Qa0) (r8:(GOp×Bool))   (r:(Int×Bool)) (h:Qbg p1 p3 r8  = some r) : WAt E Qxx (FQ (Qdj Θ Tryz.f160.results.toList [] [] (AV.tup [(I r.1),(B r.2)]) E)) [true,false,true,false,true,true,true,false,true,false,true,true] ⟨[(0,(AV.rop ([W0,W1,W2]++(r44 p1)) 3)),(5,(AV.ptr 1 0 0)),(8,(AV.ptr 2 0 0)),(9,(B r8.2))],[(1,some ⟨70,6,[((r70 p3))]⟩),(2,some ⟨156,4,[((Qbj r8.1))]⟩)],[1,2,JJ]⟩:=by
 unfold Qbg at h
 let Z0:=B false
 rcases itS h with ⟨c13,h⟩ | ⟨c20,h⟩
 ·rcases itS h with ⟨c14,h⟩ | ⟨c19,h⟩
  ·exact gT hP hn hx [hO 1 (B true),hT 7] [(1,1)] [0,5] [] [(B r8.2)=(B true),(r8.1.Code == 15)=true,Qa8 [(1,1)] [((r70 p3))]] ⟨(Qau c13),c14,(rok (Qai t70 p3)),trivial⟩ (Qk0 (W0:=W0) (W1:=W1) (W2:=W2) hP hn hx p1 p3  _ h)
  ·obtain rfl:=sj h
   exact gR hP hn [hO 1 (B true),hF 7] [] (.agg [.raw,.raw]) [(B r8.2)=(B true),(r8.1.Code == 15)=false,(I 0)=(I 0),Qa3 (I 0)=true,Z0=Z0,Qa3 Z0=true] ⟨(Qau c13),c19,rfl,rfl,rfl,rfl,trivial⟩
 ·obtain rfl:=sj h
  exact gR hP hn [hO 1 Z0] [] (.agg [.raw,.raw]) [(B r8.2)=Z0,(I 0)=(I 0),Qa3 (I 0)=true,Z0=Z0,Qa3 Z0=true] ⟨(Qau c20),rfl,rfl,rfl,rfl,trivial⟩
theorem Qlh {p1:Qa1} {p2:Qaf} {p3:Qa0} {W0 W1 W2:AV} {r:(Int×Bool)} (h:Qdm p1 p2 p3=some r) : Qa4 Tryz.prog 160 [(AV.rop ([W0,W1,W2]++(r44 p1)) 3),(AV.agg ((r39 p2))),(AV.agg ((r70 p3)))] (AV.tup [(I r.1),(B r.2)]):=by
 refine gM Tryz.func160 91 Qxx fun E hP hn hx=>?_
 unfold Qdm at h
 let Z0:=p3.State == 4;let Z4:=B false
 let H1:List Hn:=[hW 0 1001,hW 1 1002]
 rcases itS h with ⟨c4,h⟩ | ⟨c6,h⟩
 ·obtain ⟨x5,hx5,h⟩:=bnS h
  obtain rfl:=sj h
  exact (let Z1:=B (decide (x5 ≥ 0));gR hP hn (H1++[hT 8,hh 15 (.row (o3 x5)),hh 23 (.row (o3 x5))]) [] (.agg [.raw,.raw]) [Z0=true,(0:Int)≤p3.Lock,(p1.Owner.map o3)[p3.Lock.toNat]? = some (o3 x5),(0:Int)≤p3.Lock,(p1.Owner.map o3)[p3.Lock.toNat]? = some (o3 x5),(I x5)=(I x5),Qa3 (I x5)=true,Z1=Z1,Qa3 Z1=true] ⟨c4,(rd0 hx5),(rdM o3 hx5),(rd0 hx5),(rdM o3 hx5),rfl,rfl,rfl,rfl,trivial⟩)
 ·rcases itS h with ⟨c7,h⟩ | ⟨c22,h⟩
  ·obtain ⟨r8,hr8,h⟩:=bnS h
   let Z2:=AV.tup [(AV.agg (Qbj r8.1)),(B r8.2)];let Z3:=Qbj r8.1
   let H2:List Hn:=H1++[hF 8,hT 11,hh 14 (.callV [[],[]] Z2),hW 18 1003]
   let P3:List Prop:=[Z0=false,(p3.State == 1)=true,Qa4 Tryz.prog 164 [(AV.agg ((r39 p2))),(AV.agg ((r70 p3)))] Z2,Qa3 Z2=true]
   have AP3:Qam P3:=⟨c6,c7,(Qe9 hr8),rfl,trivial⟩
   rcases itS h with ⟨c9,h⟩ | ⟨c21,h⟩
   ·rcases itS h with ⟨c10,h⟩ | ⟨c12,h⟩
    ·exact gT hP hn hx (H2++[hO 22 (B true),hT 28]) [(1003,1)] [0,8] [] (P3++[(B r8.2)=(B true),(r8.1.Code == 12)=true,Qa8 [(1003,1)] [Z3]]) (Qa7 AP3 ⟨(Qau c9),c10,(rok rfl),trivial⟩) (Qk5 (W0:=W0) (W1:=W1) (W2:=W2) hP hn hx p1 r8  _ h)
    ·exact gT hP hn hx (H2++[hO 22 (B true),hF 28]) [(1002,1),(1003,2)] [0,5,8,9] [] (P3++[(B r8.2)=(B true),(r8.1.Code == 12)=false,Qa8 [(1002,1),(1003,2)] [((r70 p3))],Qa8 [(1002,1),(1003,2)] [Z3]]) (Qa7 AP3 ⟨(Qau c9),c12,(rok (Qai t70 p3)),(rok rfl),trivial⟩) (Qgg (W0:=W0) (W1:=W1) (W2:=W2) hP hn hx p1 p3 r8  _ h)
   ·exact gT hP hn hx (H2++[hO 22 Z4]) [(1002,1),(1003,2)] [0,5,8,9] [] (P3++[(B r8.2)=Z4,Qa8 [(1002,1),(1003,2)] [((r70 p3))],Qa8 [(1002,1),(1003,2)] [Z3]]) (Qa7 AP3 ⟨(Qau c21),(rok (Qai t70 p3)),(rok rfl),trivial⟩) (Qgg (W0:=W0) (W1:=W1) (W2:=W2) hP hn hx p1 p3 r8  _ h)
  ·obtain rfl:=sj h
   exact gR hP hn (H1++[hF 8,hF 11]) [] (.agg [.raw,.raw]) [Z0=false,(p3.State == 1)=false,(I 0)=(I 0),Qa3 (I 0)=true,Z4=Z4,Qa3 Z4=true] ⟨c6,c22,rfl,rfl,rfl,rfl,trivial⟩
noncomputable def Xjq:Code:=match Tryz.f89.body with | some c=>c | none=>.skip
theorem Qjf {E:Env} (hP:E.pk=pk0 Tryz.prog) (hn:E.n=53) (hx:FX E []) {W0 W1 W2:AV} (p1:Qa1)  : ∀ (n:Nat) (a3:Qaf) (a4:(List Int)) (v5:Int) (r:(List Int)),Qav p1 n a3 a4 v5=some r→WAt E Xjq (FQ (Qdj Θ Tryz.f89.results.toList [] [] (AV.own 3 1 (r.map o3)) E)) [true,true,false,true,false] ⟨[(0,(AV.rop ([W0,W1,W2]++(r44 p1)) 3)),(3,(AV.ptr 1 0 0)),(5,(AV.sl 2 0 (List.length (a4.map o3)))),(14,(AV.ro 6 (p1.Threads.map r70))),(15,(I (p1.Threads.length:Int))),(16,(I v5))],[(1,some ⟨39,4,[((r39 a3))]⟩),(2,some ⟨3,1,(a4.map o3)⟩)],[1,2,JJ]⟩:=by
 intro n
 induction n with
 | zero=>intro a3 a4 v5 r h;simp only [Qav] at h;cases h
 | succ n ih =>
  intro a3 a4 v5 r h
  simp only [Qav] at h
  let Z1:=(decide (v5<(p1.Threads.length:Int)));let Z2:=r39 a3;let Z3:=B true;let Z7:=a4.map o3;let Z8:=(([v5].map o3).drop 0).take ([v5].map o3).length;let Z9:=B false
  rcases itS h with ⟨c6,h⟩ | ⟨c19,h⟩
  ·obtain ⟨x7,hx7,h⟩:=bnS h
   obtain ⟨r8,hr8,h⟩:=bnS h
   let Z0:=AV.tup [(I r8.1),(B r8.2)];let Z5:=B (!r8.2);let Z6:=B (x7.State == 1)
   let H1:List Hn:=[hT 1,hh 3 (.row (r70 x7)),hW 5 1001,hh 11 (.callV [[],[]] Z0)]
   let P2:List Prop:=[Z1=true,(0:Int)≤v5,(p1.Threads.map r70)[v5.toNat]? = some (r70 x7),Qa4 Tryz.prog 160 [(AV.rop ([W0,W1,W2]++(r44 p1)) 3),(AV.agg Z2),(AV.agg ((r70 x7)))] Z0,Qa3 Z0=true]
   have AP2:Qam P2:=⟨c6,(rd0 hx7),(rdM r70 hx7),(Qlh hr8),rfl,trivial⟩
   rcases itS h with ⟨c9,h⟩ | ⟨c18,h⟩
   ·let P3:List Prop:=P2++[(B (p1.Fault == 0))=Z3]
    have AP3:Qam P3:=Qa7 AP2 ⟨(Qau c9),trivial⟩
    rcases itS h with ⟨c10,h⟩ | ⟨c17,h⟩
    ·rcases itS h with ⟨c11,h⟩ | ⟨c13,h⟩
     ·obtain ⟨l12,hl12,h⟩:=bnS h
      exact (let Z4:=l12.map o3;gT hP hn hx (H1++[hO 22 Z3,hO 26 Z3,hO 30 Z3,hW 39 1002,hh 40 (.app 1003 Z4)]) [(1,1),(1003,2)] [0,3,5,14,15,16] [] (P3++[Z5=Z3,Z6=Z3,Z7.take Z7.length++Z8=Z4,Z8.all (fun r=>r.all AV.plain)=true,Z4.length * 8≤140737488355328,Z4.length≤140737488355328,Qa8 [(1,1),(1003,2)] [Z2],Qa8 [(1,1),(1003,2)] Z4]) (Qa7 AP3 ⟨(Qau c10),(Qau c11),(Qix o3 hl12),(plD pa3),(Qn2 o3 hl12 (by decide)),(Qn1 o3 hl12),(rok (Qai t39 a3)),(rok (Qab t3)),trivial⟩) (ih a3 l12 (w64 (v5+1)) _ h))
     ·rcases itS h with ⟨c14,h⟩ | ⟨c16,h⟩
      ·obtain ⟨l15,hl15,h⟩:=bnS h
       exact (let Z10:=l15.map o3;gT hP hn hx (H1++[hO 22 Z3,hO 26 Z3,hO 30 Z9,hT 36,hW 39 1004,hh 40 (.app 1005 Z10)]) [(1,1),(1005,2)] [0,3,5,14,15,16] [] (P3++[Z5=Z3,Z6=Z9,(x7.State == 4)=true,Z7.take Z7.length++Z8=Z10,Z8.all (fun r=>r.all AV.plain)=true,Z10.length * 8≤140737488355328,Z10.length≤140737488355328,Qa8 [(1,1),(1005,2)] [Z2],Qa8 [(1,1),(1005,2)] Z10]) (Qa7 AP3 ⟨(Qau c10),(Qau c13),c14,(Qix o3 hl15),(plD pa3),(Qn2 o3 hl15 (by decide)),(Qn1 o3 hl15),(rok (Qai t39 a3)),(rok (Qab t3)),trivial⟩) (ih a3 l15 (w64 (v5+1)) _ h))
      ·exact gT hP hn hx (H1++[hO 22 Z3,hO 26 Z3,hO 30 Z9,hF 36]) [(1,1),(2,2)] [0,3,5,14,15,16] [] (P3++[Z5=Z3,Z6=Z9,(x7.State == 4)=false,Qa8 [(1,1),(2,2)] [Z2],Qa8 [(1,1),(2,2)] Z7]) (Qa7 AP3 ⟨(Qau c10),(Qau c13),c16,(rok (Qai t39 a3)),(rok (Qab t3)),trivial⟩) (ih a3 a4 (w64 (v5+1)) _ h)
    ·exact gT hP hn hx (H1++[hO 22 Z3,hO 26 Z9]) [(1,1),(2,2)] [0,3,5,14,15,16] [] (P3++[Z5=Z9,Qa8 [(1,1),(2,2)] [Z2],Qa8 [(1,1),(2,2)] Z7]) (Qa7 AP3 ⟨(Qau c17),(rok (Qai t39 a3)),(rok (Qab t3)),trivial⟩) (ih a3 a4 (w64 (v5+1)) _ h)
   ·exact gT hP hn hx (H1++[hO 22 Z9]) [(1,1),(2,2)] [0,3,5,14,15,16] [] (P2++[(B (p1.Fault == 0))=Z9,Qa8 [(1,1),(2,2)] [Z2],Qa8 [(1,1),(2,2)] Z7]) (Qa7 AP2 ⟨(Qau c18),(rok (Qai t39 a3)),(rok (Qab t3)),trivial⟩) (ih a3 a4 (w64 (v5+1)) _ h)
  ·obtain rfl:=sj h
   exact gR hP hn [hF 1] [] .own [Z1=false,Qa2 (Z7.take Z7.length)=true,Z7.take Z7.length=Z7,Qa6 Z7=true] ⟨c19,(Qb7 t3),Qb6,(Qa9 n3),trivial⟩
theorem Qgp {p1:Qa1} {p2:Qaf} {W0 W1 W2:AV} {r:(List Int)} (h:Qbz p1 p2=some r) : Qa4 Tryz.prog 89 [(AV.rop ([W0,W1,W2]++(r44 p1)) 3),(AV.agg ((r39 p2)))] (AV.own 3 1 (r.map o3)):=by
 refine gM Tryz.func89 53 Xjq fun E hP hn hx=>?_
 unfold Qbz at h
 exact (let Z0:=(I (p1.Threads.length:Int));gT hP hn hx [hW 0 1001,hW 2 1002,hO 8 Z0] [(1001,1),(1002,2)] [0,3,5,14,15,16] [] [AV.lit (.int .i64 (((p1.Threads.map r70).length:Nat) : Int))=Z0,Qa8 [(1001,1),(1002,2)] [((r39 p2))],Qa8 [(1001,1),(1002,2)] ([].map o3)] ⟨(Qby r70),(rok (Qai t39 p2)),(rok (Qab t3)),trivial⟩ (Qjf (W0:=W0) (W1:=W1) (W2:=W2) hP hn hx p1 FU p2 [] 0 _ h))
noncomputable def Qyh:Code:=match Tryz.f206.body with | some c=>c | none=>.skip
noncomputable def Qck   (v11:Bool) : Option (Int×Int):=
 if v11=true then
  some (2,1)
 else
  some (0,0)
theorem Qdi {E:Env} (hP:E.pk=pk0 Tryz.prog) (hn:E.n=21) (hx:FX E [])   (v11:Bool) (r:(Int×Int)) (h:Qck  v11=some r) : WAt E Qyh (FQ (Qdj Θ Tryz.f206.results.toList [] [] (AV.tup [(I r.1),(I r.2)]) E)) [true,false,true,false,true,true,true,true,true] ⟨[(14,(B v11))],[],[JJ]⟩:=by
 unfold Qck at h
 rcases itS h with ⟨c12,h⟩ | ⟨c13,h⟩
 ·obtain rfl:=sj h
  exact gR hP hn [hT 0] [] (.agg [.raw,.raw]) [v11=true,(I 2)=(I 2),Qa3 (I 2)=true,(I 1)=(I 1),Qa3 (I 1)=true] ⟨c12,rfl,rfl,rfl,rfl,trivial⟩
 ·obtain rfl:=sj h
  exact gR hP hn [hF 0] [] (.agg [.raw,.raw]) [v11=false,(I 0)=(I 0),Qa3 (I 0)=true,(I 0)=(I 0),Qa3 (I 0)=true] ⟨c13,rfl,rfl,rfl,rfl,trivial⟩
noncomputable def Qef  (p1:GOp) (v7:Bool) : Option (Int×Int):=
 if v7=true then
  some (1,0)
 else
  if (p1.Code == 4)=true then
   Qck (p1.Code == 4)
  else
   if (p1.Code == 5)=true then
    Qck (p1.Code == 5)
   else
    if (p1.Code == 6)=true then
     Qck (p1.Code == 6)
    else
     if (p1.Code == 7)=true then
      Qck (p1.Code == 7)
     else
      if (p1.Code == 8)=true then
       Qck (p1.Code == 8)
      else
       Qck (p1.Code == 9)
theorem Qhx {E:Env} (hP:E.pk=pk0 Tryz.prog) (hn:E.n=21) (hx:FX E []) (p1:GOp)  (v7:Bool) (r:(Int×Int)) (h:Qef p1 v7=some r) : WAt E Qyh (FQ (Qdj Θ Tryz.f206.results.toList [] [] (AV.tup [(I r.1),(I r.2)]) E)) [true,false,true,false,true,true,true] ⟨[(5,(I p1.Code)),(10,(B v7))],[],[JJ]⟩:=by
 unfold Qef at h
 let Z0:=p1.Code == 4;let Z1:=p1.Code == 5;let Z2:=p1.Code == 6;let Z3:=p1.Code == 7;let Z4:=p1.Code == 8
 rcases itS h with ⟨c8,h⟩ | ⟨c9,h⟩
 ·obtain rfl:=sj h
  exact gR hP hn [hT 0] [] (.agg [.raw,.raw]) [v7=true,(I 1)=(I 1),Qa3 (I 1)=true,(I 0)=(I 0),Qa3 (I 0)=true] ⟨c8,rfl,rfl,rfl,rfl,trivial⟩
 ·rcases itS h with ⟨c10,h⟩ | ⟨c14,h⟩
  ·exact gT hP hn hx [hF 0,hT 3] [] [14] [] [v7=false,Z0=true] ⟨c9,c10,trivial⟩ (Qdi hP hn hx Z0 _ h)
  ·let P1:List Prop:=[v7=false,Z0=false]
   have AP1:Qam P1:=⟨c9,c14,trivial⟩
   rcases itS h with ⟨c15,h⟩ | ⟨c16,h⟩
   ·exact gT hP hn hx [hF 0,hF 3,hT 6] [] [14] [] (P1++[Z1=true]) (Qa7 AP1 ⟨c15,trivial⟩) (Qdi hP hn hx Z1 _ h)
   ·rcases itS h with ⟨c17,h⟩ | ⟨c18,h⟩
    ·exact gT hP hn hx [hF 0,hF 3,hF 6,hT 9] [] [14] [] (P1++[Z1=false,Z2=true]) (Qa7 AP1 ⟨c16,c17,trivial⟩) (Qdi hP hn hx Z2 _ h)
    ·rcases itS h with ⟨c19,h⟩ | ⟨c20,h⟩
     ·exact gT hP hn hx [hF 0,hF 3,hF 6,hF 9,hT 12] [] [14] [] (P1++[Z1=false,Z2=false,Z3=true]) (Qa7 AP1 ⟨c16,c18,c19,trivial⟩) (Qdi hP hn hx Z3 _ h)
     ·rcases itS h with ⟨c21,h⟩ | ⟨c22,h⟩
      ·exact gT hP hn hx [hF 0,hF 3,hF 6,hF 9,hF 12,hT 15] [] [14] [] (P1++[Z1=false,Z2=false,Z3=false,Z4=true]) (Qa7 AP1 ⟨c16,c18,c20,c21,trivial⟩) (Qdi hP hn hx Z4 _ h)
      ·exact gT hP hn hx [hF 0,hF 3,hF 6,hF 9,hF 12,hF 15] [] [14] [] (P1++[Z1=false,Z2=false,Z3=false,Z4=false]) (Qa7 AP1 ⟨c16,c18,c20,c22,trivial⟩) (Qdi hP hn hx (p1.Code == 9) _ h)
noncomputable def Qeh  (p1:GOp) (v3:Bool) : Option (Int×Int):=
 if v3=true then
  some (0,1)
 else
  if (p1.Code == 3)=true then
   Qef p1 (p1.Code == 3)
  else
   if (p1.Code == 11)=true then
    Qef p1 (p1.Code == 11)
   else
    Qef p1 (p1.Code == 15)
theorem Qi2 {E:Env} (hP:E.pk=pk0 Tryz.prog) (hn:E.n=21) (hx:FX E []) (p1:GOp)  (v3:Bool) (r:(Int×Int)) (h:Qeh p1 v3=some r) : WAt E Qyh (FQ (Qdj Θ Tryz.f206.results.toList [] [] (AV.tup [(I r.1),(I r.2)]) E)) [true,false,true,false,true] ⟨[(5,(I p1.Code)),(6,(B v3))],[],[JJ]⟩:=by
 unfold Qeh at h
 let Z0:=p1.Code == 3;let Z1:=p1.Code == 11
 rcases itS h with ⟨c4,h⟩ | ⟨c5,h⟩
 ·obtain rfl:=sj h
  exact gR hP hn [hT 0] [] (.agg [.raw,.raw]) [v3=true,(I 0)=(I 0),Qa3 (I 0)=true,(I 1)=(I 1),Qa3 (I 1)=true] ⟨c4,rfl,rfl,rfl,rfl,trivial⟩
 ·rcases itS h with ⟨c6,h⟩ | ⟨c23,h⟩
  ·exact gT hP hn hx [hF 0,hT 3] [] [5,10] [] [v3=false,Z0=true] ⟨c5,c6,trivial⟩ (Qhx hP hn hx p1 Z0 _ h)
  ·rcases itS h with ⟨c24,h⟩ | ⟨c25,h⟩
   ·exact gT hP hn hx [hF 0,hF 3,hT 6] [] [5,10] [] [v3=false,Z0=false,Z1=true] ⟨c5,c23,c24,trivial⟩ (Qhx hP hn hx p1 Z1 _ h)
   ·exact gT hP hn hx [hF 0,hF 3,hF 6] [] [5,10] [] [v3=false,Z0=false,Z1=false] ⟨c5,c23,c25,trivial⟩ (Qhx hP hn hx p1 (p1.Code == 15) _ h)
noncomputable def Qgv (p1:GOp) : Option (Int×Int):=
 if (p1.Code == 1)=true then
  Qeh p1 (p1.Code == 1)
 else
  if (p1.Code == 2)=true then
   Qeh p1 (p1.Code == 2)
  else
   Qeh p1 (p1.Code == 14)
theorem Qhw {p1:GOp} {r:(Int×Int)} (h:Qgv p1=some r) : Qa4 Tryz.prog 206 [(AV.agg ((Qbj p1)))] (AV.tup [(I r.1),(I r.2)]):=by
 refine gM Tryz.func206 21 Qyh fun E hP hn hx=>?_
 unfold Qgv at h
 let Z0:=p1.Code == 1;let Z1:=p1.Code == 2
 rcases itS h with ⟨c2,h⟩ | ⟨c26,h⟩
 ·exact gT hP hn hx [hW 0 1001,hT 7] [] [5,6] [] [Z0=true] ⟨c2,trivial⟩ (Qi2 hP hn hx p1 Z0 _ h)
 ·rcases itS h with ⟨c27,h⟩ | ⟨c28,h⟩
  ·exact gT hP hn hx [hW 0 1001,hF 7,hT 10] [] [5,6] [] [Z0=false,Z1=true] ⟨c26,c27,trivial⟩ (Qi2 hP hn hx p1 Z1 _ h)
  ·exact gT hP hn hx [hW 0 1001,hF 7,hF 10] [] [5,6] [] [Z0=false,Z1=false] ⟨c26,c28,trivial⟩ (Qi2 hP hn hx p1 (p1.Code == 14) _ h)
noncomputable def Xln:Code:=match Tryz.f207.body with | some c=>c | none=>.skip
noncomputable def Qod (p1:Nat) : Option Bool:=
 Option.bind (Qce p1) fun r2 =>
 if (r2 == 0)=true then
  some true
 else
  some (r2 == 2)
theorem Qvg {p1:Nat} {r:Bool} (h:Qod p1=some r) : Qa4 Tryz.prog 207 [(FK p1)] (B r):=by
 refine gM Tryz.func207 12 Xln fun E hP hn hx=>?_
 unfold Qod at h
 obtain ⟨r2,hr2,h⟩:=bnS h
 let Z0:=B (r2 == 2)
 rcases itS h with ⟨c3,h⟩ | ⟨c4,h⟩
 ·obtain rfl:=sj h
  exact gR hP hn [hh 2 (.callV [] (I r2)),hO 6 (B true)] [] .raw [Qa4 Tryz.prog 226 [(FK p1)] (I r2),Qa3 (I r2)=true,(B (r2 == 0))=(B true),(B true)=(B true),Qa3 (B true)=true] ⟨(Qml hr2),rfl,(Qau c3),rfl,rfl,trivial⟩
 ·obtain rfl:=sj h
  exact gR hP hn [hh 2 (.callV [] (I r2)),hO 6 (B false)] [] .raw [Qa4 Tryz.prog 226 [(FK p1)] (I r2),Qa3 (I r2)=true,(B (r2 == 0))=(B false),Z0=Z0,Qa3 Z0=true] ⟨(Qml hr2),rfl,(Qau c4),rfl,rfl,trivial⟩
noncomputable def Xml:Code:=match Tryz.f178.body with | some c=>c | none=>.skip
noncomputable def Qg4 (p1:Int) : Option Qa0:=
 some (Qa0.mk p1 0 1 (-1) (-1) [])
theorem Qc7 {p1:Int} {r:Qa0} (h:Qg4 p1=some r) : Qa4 Tryz.prog 178 [(I p1)] (AV.agg (o70 r)):=by
 refine gM Tryz.func178 6 Xml fun E hP hn hx=>?_
 unfold Qg4 at h
 obtain rfl:=sj h
 exact (let Z0:=I (-1);let Z1:=[].map Qae;gR hP hn [hW 0 1001,hW 2 1002] [] (.agg [.raw,.raw,.raw,.raw,.raw,.own]) [(I p1)=(I p1),Qa3 (I p1)=true,(I 0)=(I 0),Qa3 (I 0)=true,(I 1)=(I 1),Qa3 (I 1)=true,Z0=Z0,Qa3 Z0=true,Z0=Z0,Qa3 Z0=true,Qa2 (Z1.take Z1.length)=true,Z1.take Z1.length=Z1,Qa6 Z1=true] ⟨rfl,rfl,rfl,rfl,rfl,rfl,rfl,rfl,rfl,rfl,(Qb7 Qbs),Qb6,(Qa9 Qe7),trivial⟩)
noncomputable def Xlb:Code:=match Tryz.f157.body with | some c=>c | none=>.skip
noncomputable def Qcr (p1:Bool) : Option Int:=
 if p1=true then
  some 1
 else
  some 0
theorem Qg8 {p1:Bool} {r:Int} (h:Qcr p1=some r) : Qa4 Tryz.prog 157 [(B p1)] (I r):=by
 refine gM Tryz.func157 4 Xlb fun E hP hn hx=>?_
 unfold Qcr at h
 rcases itS h with ⟨c2,h⟩ | ⟨c3,h⟩
 ·obtain rfl:=sj h
  exact gR hP hn [hT 2] [] .raw [p1=true,(I 1)=(I 1),Qa3 (I 1)=true] ⟨c2,rfl,rfl,trivial⟩
 ·obtain rfl:=sj h
  exact gR hP hn [hF 2] [] .raw [p1=false,(I 0)=(I 0),Qa3 (I 0)=true] ⟨c3,rfl,rfl,trivial⟩
noncomputable def Xlz:Code:=match Tryz.f210.body with | some c=>c | none=>.skip
noncomputable def Qkw (p1:Int) (p2:Nat) (p3:Nat) : Option Nat:=
 if (p1 == 4)=true then
  some (fad p2 p3)
 else
  if (p1 == 5)=true then
   some (fsb p2 p3)
  else
   if (p1 == 6)=true then
    some (fml p2 p3)
   else
    if (p1 == 7)=true then
     some (fdv p2 p3)
    else
     if (p1 == 8)=true then
      Option.bind (Qcr ((Qci p2 p3) == some .lt)) fun r13 =>
      some (fOf r13)
     else
      Option.bind (Qdf p2 p3) fun r15 =>
      Option.bind (Qcr r15) fun r16 =>
      some (fOf r16)
theorem Qrv {p1:Int} {p2:Nat} {p3:Nat} {r:Nat} (h:Qkw p1 p2 p3=some r) : Qa4 Tryz.prog 210 [(I p1),(FK p2),(FK p3)] (FK r):=by
 refine gM Tryz.func210 40 Xlz fun E hP hn hx=>?_
 unfold Qkw at h
 let Z0:=fad p2 p3;let Z1:=fsb p2 p3;let Z2:=fml p2 p3;let Z3:=fdv p2 p3
 rcases itS h with ⟨c4,h⟩ | ⟨c5,h⟩
 ·obtain rfl:=sj h
  exact gR hP hn [hT 4,hh 7 (.bin (FK Z0))] [] .raw [(p1 == 4)=true,Qgd Tryz.prog .add 132 (FK p2) (FK p3) (FK Z0),(FK Z0)=(FK Z0),Qa3 (FK Z0)=true] ⟨c4,fAdd,rfl,rfl,trivial⟩
 ·rcases itS h with ⟨c6,h⟩ | ⟨c7,h⟩
  ·obtain rfl:=sj h
   exact gR hP hn [hF 4,hT 7,hh 10 (.bin (FK Z1))] [] .raw [(p1 == 4)=false,(p1 == 5)=true,Qgd Tryz.prog .sub 132 (FK p2) (FK p3) (FK Z1),(FK Z1)=(FK Z1),Qa3 (FK Z1)=true] ⟨c5,c6,fSub,rfl,rfl,trivial⟩
  ·let P1:List Prop:=[(p1 == 4)=false,(p1 == 5)=false]
   have AP1:Qam P1:=⟨c5,c7,trivial⟩
   rcases itS h with ⟨c8,h⟩ | ⟨c9,h⟩
   ·obtain rfl:=sj h
    exact gR hP hn [hF 4,hF 7,hT 10,hh 13 (.bin (FK Z2))] [] .raw (P1++[(p1 == 6)=true,Qgd Tryz.prog .mul 132 (FK p2) (FK p3) (FK Z2),(FK Z2)=(FK Z2),Qa3 (FK Z2)=true]) (Qa7 AP1 ⟨c8,fMul,rfl,rfl,trivial⟩)
   ·rcases itS h with ⟨c10,h⟩ | ⟨c11,h⟩
    ·obtain rfl:=sj h
     exact gR hP hn [hF 4,hF 7,hF 10,hT 13,hh 16 (.bin (FK Z3))] [] .raw (P1++[(p1 == 6)=false,(p1 == 7)=true,Qgd Tryz.prog .quo 132 (FK p2) (FK p3) (FK Z3),(FK Z3)=(FK Z3),Qa3 (FK Z3)=true]) (Qa7 AP1 ⟨c9,c10,Xo7,rfl,rfl,trivial⟩)
    ·rcases itS h with ⟨c12,h⟩ | ⟨c14,h⟩
     ·obtain ⟨r13,hr13,h⟩:=bnS h
      obtain rfl:=sj h
      exact (let Z4:=fOf r13;gR hP hn [hF 4,hF 7,hF 10,hF 13,hT 16,hh 19 (.bin (B ((Qci p2 p3) == some .lt))),hh 20 (.callV [] (I r13)),hh 21 (.cnv (FK Z4))] [] .raw (P1++[(p1 == 6)=false,(p1 == 7)=false,(p1 == 8)=true,Qgd Tryz.prog .lss 132 (FK p2) (FK p3) (B ((Qci p2 p3) == some .lt)),Qa4 Tryz.prog 157 [(B ((Qci p2 p3) == some .lt))] (I r13),Qa3 (I r13)=true,Qyz Tryz.prog 3 132 (I r13) (FK Z4),(FK Z4)=(FK Z4),Qa3 (FK Z4)=true]) (Qa7 AP1 ⟨c9,c11,c12,Xk8,(Qg8 hr13),rfl,(cIF (P:=Tryz.prog) ty3 Qqo),rfl,rfl,trivial⟩))
     ·obtain ⟨r15,hr15,h⟩:=bnS h
      obtain ⟨r16,hr16,h⟩:=bnS h
      obtain rfl:=sj h
      exact (let Z5:=fOf r16;gR hP hn [hF 4,hF 7,hF 10,hF 13,hF 16,hh 19 (.callV [] (B r15)),hh 20 (.callV [] (I r16)),hh 21 (.cnv (FK Z5))] [] .raw (P1++[(p1 == 6)=false,(p1 == 7)=false,(p1 == 8)=false,Qa4 Tryz.prog 112 [(FK p2),(FK p3)] (B r15),Qa3 (B r15)=true,Qa4 Tryz.prog 157 [(B r15)] (I r16),Qa3 (I r16)=true,Qyz Tryz.prog 3 132 (I r16) (FK Z5),(FK Z5)=(FK Z5),Qa3 (FK Z5)=true]) (Qa7 AP1 ⟨c9,c11,c14,(Qg7 hr15),rfl,(Qg8 hr16),rfl,(cIF (P:=Tryz.prog) ty3 Qqo),rfl,rfl,trivial⟩))
noncomputable def Xmn:Code:=match Tryz.f209.body with | some c=>c | none=>.skip
noncomputable def Qgj (p1:Qa0) (p2:GOp) : Option Bool:=
 if (p1.State == 3)=true then
  some (p1.Cond == p2.A)
 else
  some false
theorem Qsg {p1:Qa0} {p2:GOp} {r:Bool} (h:Qgj p1 p2=some r) : Qa4 Tryz.prog 209 [(AV.agg ((r70 p1))),(AV.rop (Qbj p2) 0)] (B r):=by
 refine gM Tryz.func209 14 Xmn fun E hP hn hx=>?_
 unfold Qgj at h
 let Z0:=B (p1.Cond == p2.A);let Z1:=B false
 rcases itS h with ⟨c3,h⟩ | ⟨c4,h⟩
 ·obtain rfl:=sj h
  exact gR hP hn [hW 0 1001,hO 5 (B true)] [] .raw [(B (p1.State == 3))=(B true),Z0=Z0,Qa3 Z0=true] ⟨(Qau c3),rfl,rfl,trivial⟩
 ·obtain rfl:=sj h
  exact gR hP hn [hW 0 1001,hO 5 Z1] [] .raw [(B (p1.State == 3))=Z1,Z1=Z1,Qa3 Z1=true] ⟨(Qau c4),rfl,rfl,trivial⟩
noncomputable def Qu4:Code:=match Tryz.f172.body with | some c=>c | none=>.skip
noncomputable def Qag  (p1:(List Qa0)) (p2:GOp) : Nat→Int→Option Int
 | 0,_=>none
 | n+1,v3 =>
 if (decide (v3<(p1.length:Int)))=true then
  Option.bind (rd p1 v3) fun x5 =>
  Option.bind (Qgj x5 p2) fun r6 =>
  if r6=true then
   some v3
  else
   Qag p1 p2 n (w64 (v3+1))
 else
  some (-1)
theorem Qdx {E:Env} (hP:E.pk=pk0 Tryz.prog) (hn:E.n=19) (hx:FX E []) (p1:(List Qa0)) (p2:GOp)  : ∀ (n:Nat) (v3:Int) (r:Int),Qag p1 p2 n v3=some r→WAt E Qu4 (FQ (Qdj Θ Tryz.f172.results.toList [] [] (I r) E)) [true,false,true,false] ⟨[(0,(AV.ro 6 (p1.map r70))),(1,(AV.fn 209 [(AV.rop (Qbj p2) 0)])),(7,(I (p1.length:Int))),(8,(I v3))],[],[JJ]⟩:=by
 intro n
 induction n with
 | zero=>intro v3 r h;simp only [Qag] at h;cases h
 | succ n ih =>
  intro v3 r h
  simp only [Qag] at h
  let Z0:=(decide (v3<(p1.length:Int)))
  rcases itS h with ⟨c4,h⟩ | ⟨c9,h⟩
  ·obtain ⟨x5,hx5,h⟩:=bnS h
   obtain ⟨r6,hr6,h⟩:=bnS h
   let P1:List Prop:=[Z0=true,(0:Int)≤v3,(p1.map r70)[v3.toNat]? = some (r70 x5),Qa4 Tryz.prog 209 [(AV.agg ((r70 x5))),(AV.rop (Qbj p2) 0)] (B r6),Qa3 (B r6)=true]
   have AP1:Qam P1:=⟨c4,(rd0 hx5),(rdM r70 hx5),(Qsg hr6),rfl,trivial⟩
   rcases itS h with ⟨c7,h⟩ | ⟨c8,h⟩
   ·obtain rfl:=sj h
    exact gR hP hn [hT 1,hh 7 (.row (r70 x5)),hh 9 (.callV [[]] (B r6)),hT 10] [] .raw (P1++[r6=true,(I v3)=(I v3),Qa3 (I v3)=true]) (Qa7 AP1 ⟨c7,rfl,rfl,trivial⟩)
   ·exact gT hP hn hx [hT 1,hh 7 (.row (r70 x5)),hh 9 (.callV [[]] (B r6)),hF 10] [] [0,1,7,8] [] (P1++[r6=false]) (Qa7 AP1 ⟨c8,trivial⟩) (ih (w64 (v3+1)) _ h)
  ·obtain rfl:=sj h
   exact gR hP hn [hF 1] [] .raw [Z0=false,(I (-1))=(I (-1)),Qa3 (I (-1))=true] ⟨c9,rfl,rfl,trivial⟩
noncomputable def Qay (p1:(List Qa0)) (p2:GOp) : Option Int:=
 Qag p1 p2 FU 0
theorem Qc9 {p1:(List Qa0)} {p2:GOp} {r:Int} (h:Qay p1 p2=some r) : Qa4 Tryz.prog 172 [(AV.ro 6 (p1.map r70)),(AV.fn 209 [(AV.rop (Qbj p2) 0)])] (I r):=by
 refine gM Tryz.func172 19 Qu4 fun E hP hn hx=>?_
 unfold Qay at h
 exact (let Z0:=(I (p1.length:Int));gT hP hn hx [hO 2 Z0] [] [0,1,7,8] [] [AV.lit (.int .i64 (((p1.map r70).length:Nat) : Int))=Z0] ⟨(Qby r70),trivial⟩ (Qdx hP hn hx p1 p2 FU 0 _ h))
noncomputable def Xbm:Code:=match Tryz.f166.body with | some c=>c | none=>.skip
noncomputable def Qaw (p1:Qa1) (p2:Int) (p3:GOp) (p4:Qaa) : Option (Qaa×Qa1):=
 Option.bind (rd p1.Threads p2) fun x5 =>
 Option.bind (Qgv p3) fun r6 =>
 Option.bind (slc x5.Stack (w64 ((x5.Stack.length:Int) - r6.1)) (x5.Stack.length:Int)) fun l7 =>
 Option.bind (Qbb l7) fun r8 =>
 Option.bind (slc x5.Stack 0 (w64 ((x5.Stack.length:Int) - r6.1))) fun l9 =>
 if (p3.Code == 1)=true then
  Option.bind (app l9 [p3.V]) fun l11 =>
  some (p4,(Qa1.mk (((p1.Threads.set (Int.toNat p2) (Qa0.mk x5.Routine x5.Pc x5.State x5.Cond x5.Lock l9)).set (Int.toNat p2) (Qa0.mk x5.Routine (w64 (x5.Pc+1)) x5.State x5.Cond x5.Lock l9)).set (Int.toNat p2) (Qa0.mk x5.Routine (w64 (x5.Pc+1)) x5.State x5.Cond x5.Lock l11)) p1.Cells p1.Owner p1.Fault))
 else
  if (p3.Code == 2)=true then
   Option.bind (rd p1.Cells p3.A) fun x14 =>
   Option.bind (app l9 [x14]) fun l15 =>
   some ((Qaa.mk p4.Thread 2 p3.A p4.Lock p4.Pc),(Qa1.mk (((p1.Threads.set (Int.toNat p2) (Qa0.mk x5.Routine x5.Pc x5.State x5.Cond x5.Lock l9)).set (Int.toNat p2) (Qa0.mk x5.Routine (w64 (x5.Pc+1)) x5.State x5.Cond x5.Lock l9)).set (Int.toNat p2) (Qa0.mk x5.Routine (w64 (x5.Pc+1)) x5.State x5.Cond x5.Lock l15)) p1.Cells p1.Owner p1.Fault))
  else
   if (p3.Code == 3)=true then
    Option.bind (rd r8 0) fun x18 =>
    Option.bind (rd p1.Cells p3.A) fun x19 =>
    some ((Qaa.mk p4.Thread 3 p3.A p4.Lock p4.Pc),(Qa1.mk ((p1.Threads.set (Int.toNat p2) (Qa0.mk x5.Routine x5.Pc x5.State x5.Cond x5.Lock l9)).set (Int.toNat p2) (Qa0.mk x5.Routine (w64 (x5.Pc+1)) x5.State x5.Cond x5.Lock l9)) (p1.Cells.set (Int.toNat p3.A) x18) p1.Owner p1.Fault))
   else
    if (p3.Code == 10)=true then
     some (p4,(Qa1.mk ((p1.Threads.set (Int.toNat p2) (Qa0.mk x5.Routine x5.Pc x5.State x5.Cond x5.Lock l9)).set (Int.toNat p2) (Qa0.mk x5.Routine p3.A x5.State x5.Cond x5.Lock l9)) p1.Cells p1.Owner p1.Fault))
    else
     if (p3.Code == 11)=true then
      Option.bind (rd r8 0) fun x24 =>
      Option.bind (Qod x24) fun r33 =>
      if r33=true then
       some (p4,(Qa1.mk ((p1.Threads.set (Int.toNat p2) (Qa0.mk x5.Routine x5.Pc x5.State x5.Cond x5.Lock l9)).set (Int.toNat p2) (Qa0.mk x5.Routine p3.A x5.State x5.Cond x5.Lock l9)) p1.Cells p1.Owner p1.Fault))
      else
       some (p4,(Qa1.mk ((p1.Threads.set (Int.toNat p2) (Qa0.mk x5.Routine x5.Pc x5.State x5.Cond x5.Lock l9)).set (Int.toNat p2) (Qa0.mk x5.Routine (w64 (x5.Pc+1)) x5.State x5.Cond x5.Lock l9)) p1.Cells p1.Owner p1.Fault))
     else
      if (p3.Code == 12)=true then
       Option.bind (rd p1.Owner p3.A) fun x38 =>
       some ((Qaa.mk p4.Thread 4 p3.A p4.Lock p4.Pc),(Qa1.mk ((p1.Threads.set (Int.toNat p2) (Qa0.mk x5.Routine x5.Pc x5.State x5.Cond x5.Lock l9)).set (Int.toNat p2) (Qa0.mk x5.Routine (w64 (x5.Pc+1)) x5.State x5.Cond x5.Lock l9)) p1.Cells (p1.Owner.set (Int.toNat p3.A) p2) p1.Fault))
      else
       if (p3.Code == 13)=true then
        Option.bind (rd p1.Owner p3.A) fun x41 =>
        some ((Qaa.mk p4.Thread 5 p3.A p4.Lock p4.Pc),(Qa1.mk ((p1.Threads.set (Int.toNat p2) (Qa0.mk x5.Routine x5.Pc x5.State x5.Cond x5.Lock l9)).set (Int.toNat p2) (Qa0.mk x5.Routine (w64 (x5.Pc+1)) x5.State x5.Cond x5.Lock l9)) p1.Cells (p1.Owner.set (Int.toNat p3.A) (-1)) p1.Fault))
       else
        if (p3.Code == 14)=true then
         Option.bind (app l9 [(fOf (((p1.Threads.set (Int.toNat p2) (Qa0.mk x5.Routine x5.Pc x5.State x5.Cond x5.Lock l9)).set (Int.toNat p2) (Qa0.mk x5.Routine (w64 (x5.Pc+1)) x5.State x5.Cond x5.Lock l9)).length:Int))]) fun l44 =>
         Option.bind (Qg4 p3.A) fun r47 =>
         Option.bind (app (((p1.Threads.set (Int.toNat p2) (Qa0.mk x5.Routine x5.Pc x5.State x5.Cond x5.Lock l9)).set (Int.toNat p2) (Qa0.mk x5.Routine (w64 (x5.Pc+1)) x5.State x5.Cond x5.Lock l9)).set (Int.toNat p2) (Qa0.mk x5.Routine (w64 (x5.Pc+1)) x5.State x5.Cond x5.Lock l44)) [(Qa0.mk r47.Routine r47.Pc r47.State r47.Cond r47.Lock r47.Stack)]) fun l48 =>
         some ((Qaa.mk p4.Thread 6 (((p1.Threads.set (Int.toNat p2) (Qa0.mk x5.Routine x5.Pc x5.State x5.Cond x5.Lock l9)).set (Int.toNat p2) (Qa0.mk x5.Routine (w64 (x5.Pc+1)) x5.State x5.Cond x5.Lock l9)).length:Int) p4.Lock p4.Pc),(Qa1.mk l48 p1.Cells p1.Owner p1.Fault))
        else
         if (p3.Code == 15)=true then
          Option.bind (rd r8 0) fun x51 =>
          Option.bind (Qfj x51 (((p1.Threads.set (Int.toNat p2) (Qa0.mk x5.Routine x5.Pc x5.State x5.Cond x5.Lock l9)).set (Int.toNat p2) (Qa0.mk x5.Routine (w64 (x5.Pc+1)) x5.State x5.Cond x5.Lock l9)).length:Int)) fun r52 =>
          some ((Qaa.mk p4.Thread 7 r52.1 p4.Lock p4.Pc),(Qa1.mk ((p1.Threads.set (Int.toNat p2) (Qa0.mk x5.Routine x5.Pc x5.State x5.Cond x5.Lock l9)).set (Int.toNat p2) (Qa0.mk x5.Routine (w64 (x5.Pc+1)) x5.State x5.Cond x5.Lock l9)) p1.Cells p1.Owner p1.Fault))
         else
          if (p3.Code == 16)=true then
           Option.bind (rd p1.Owner p3.B) fun x55 =>
           some ((Qaa.mk p4.Thread 8 p3.A p3.B p4.Pc),(Qa1.mk ((p1.Threads.set (Int.toNat p2) (Qa0.mk x5.Routine x5.Pc x5.State x5.Cond x5.Lock l9)).set (Int.toNat p2) (Qa0.mk x5.Routine (w64 ((w64 (x5.Pc+1)) - 1)) 3 p3.A p3.B l9)) p1.Cells (p1.Owner.set (Int.toNat p3.B) (-1)) p1.Fault))
          else
           if (p3.Code == 17)=true then
            Option.bind (Qay ((p1.Threads.set (Int.toNat p2) (Qa0.mk x5.Routine x5.Pc x5.State x5.Cond x5.Lock l9)).set (Int.toNat p2) (Qa0.mk x5.Routine (w64 (x5.Pc+1)) x5.State x5.Cond x5.Lock l9)) p3) fun r58 =>
            if (decide (r58 ≥ 0))=true then
             Option.bind (rd ((p1.Threads.set (Int.toNat p2) (Qa0.mk x5.Routine x5.Pc x5.State x5.Cond x5.Lock l9)).set (Int.toNat p2) (Qa0.mk x5.Routine (w64 (x5.Pc+1)) x5.State x5.Cond x5.Lock l9)) r58) fun x60 =>
             some ((Qaa.mk p4.Thread 10 p3.A r58 p4.Pc),(Qa1.mk (((p1.Threads.set (Int.toNat p2) (Qa0.mk x5.Routine x5.Pc x5.State x5.Cond x5.Lock l9)).set (Int.toNat p2) (Qa0.mk x5.Routine (w64 (x5.Pc+1)) x5.State x5.Cond x5.Lock l9)).set (Int.toNat r58) (Qa0.mk x60.Routine x60.Pc 4 x60.Cond x60.Lock x60.Stack)) p1.Cells p1.Owner p1.Fault))
            else
             some ((Qaa.mk p4.Thread 10 p3.A r58 p4.Pc),(Qa1.mk ((p1.Threads.set (Int.toNat p2) (Qa0.mk x5.Routine x5.Pc x5.State x5.Cond x5.Lock l9)).set (Int.toNat p2) (Qa0.mk x5.Routine (w64 (x5.Pc+1)) x5.State x5.Cond x5.Lock l9)) p1.Cells p1.Owner p1.Fault))
           else
            Option.bind (rd r8 0) fun x63 =>
            Option.bind (rd r8 1) fun x64 =>
            Option.bind (Qkw p3.Code x63 x64) fun r65 =>
            Option.bind (app l9 [r65]) fun l66 =>
            some (p4,(Qa1.mk (((p1.Threads.set (Int.toNat p2) (Qa0.mk x5.Routine x5.Pc x5.State x5.Cond x5.Lock l9)).set (Int.toNat p2) (Qa0.mk x5.Routine (w64 (x5.Pc+1)) x5.State x5.Cond x5.Lock l9)).set (Int.toNat p2) (Qa0.mk x5.Routine (w64 (x5.Pc+1)) x5.State x5.Cond x5.Lock l66)) p1.Cells p1.Owner p1.Fault))
theorem Qu6 {p1:Qa1} {p2:Int} {p3:GOp} {p4:Qaa} {r:(Qaa×Qa1)} (h:Qaw p1 p2 p3 p4=some r) : Qo1 Tryz.prog 166 [⟨44,4,[(o44 p1)]⟩] [(AV.ptr 0 0 0),(I p2),(AV.agg ((Qbj p3))),(AV.agg ((o60 p4)))] [true] [⟨44,4,[(o44 r.2)]⟩] (AV.agg (o60 r.1)):=by
 refine Qlv Xbu Tryz.func166 rfl (c:=Xbm) (by kernel_rfl) (Nat.le_of_ble_eq_true rfl) rfl (Nat.le_of_ble_eq_true rfl) rfl (fr:=[0]) (frI rfl) ?_
 intro E hP hn hx
 replace hn:E.n=285:=hn
 unfold Qaw at h
 obtain ⟨x5,hx5,h⟩:=bnS h
 obtain ⟨r6,hr6,h⟩:=bnS h
 obtain ⟨l7,hl7,h⟩:=bnS h
 obtain ⟨r8,hr8,h⟩:=bnS h
 obtain ⟨l9,hl9,h⟩:=bnS h
 let Z0:=o44 p1;let Z1:=p1.Threads.map o70;let Z2:=AV.sl 1004 0 Z1.length;let Z3:=p1.Cells.map Qae;let Z4:=AV.own 132 1 Z3;let Z5:=p1.Owner.map o3;let Z6:=AV.own 3 1 Z5;let Z7:=I p1.Fault;let Z8:=[Z2,Z4,Z6,Z7];let Z9:=AV.tup [(I r6.1),(I r6.2)];let Z10:=o70 x5;let Z11:=x5.Stack.map Qae;let Z12:=I x5.Routine;let Z13:=I x5.State;let Z14:=I x5.Cond;let Z15:=I x5.Lock;let Z16:=AV.sl 1005 0 Z11.length;let Z17:=[Z12,(I x5.Pc),Z13,Z14,Z15,Z16];let Z18:=Z1.set p2.toNat Z17;let Z19:=(x5.Stack.length:Int);let Z20:=l7.map Qae;let Z21:=r8.map Qae;let Z22:=AV.own 132 1 Z21;let Z23:=[Z12,(I x5.Pc),Z13,Z14,Z15,AV.dead];let Z24:=Z1.set p2.toNat Z23;let Z25:=l9.map Qae;let Z26:=AV.sl 1007 0 Z25.length;let Z27:=[Z12,(I x5.Pc),Z13,Z14,Z15,Z26];let Z28:=Z1.set p2.toNat Z27;let Z29:=p1.Threads.set p2.toNat (Qa0.mk x5.Routine x5.Pc x5.State x5.Cond x5.Lock l9);let Z30:=Z29.map o70;let Z31:=AV.own 132 1 Z25;let Z32:=[Z12,(I x5.Pc),Z13,Z14,Z15,Z31];let Z33:=x5.Pc+1;let Z34:=w64 Z33;let Z35:=Z29.set p2.toNat (Qa0.mk x5.Routine Z34 x5.State x5.Cond x5.Lock l9);let Z36:=Z35.map o70;let Z37:=((Z11.length:Nat) : Int);let Z38:=w64 (Z19 - r6.1);let Z39:=I Z34;let Z40:=Qa0.mk x5.Routine x5.Pc x5.State x5.Cond x5.Lock l9;let Z41:=[Z12,Z39,Z13,Z14,Z15,Z31];let Z42:=AV.sl 1008 0 Z25.length;let Z43:=[Z12,Z39,Z13,Z14,Z15,Z42];let Z44:=Z36.set p2.toNat Z43;let Z52:=(([p3.V].map Qae).drop 0).take ([p3.V].map Qae).length;let Z53:=AV.ptr 1004 p2.toNat 0;let Z54:=AV.ptr 1004 p2.toNat 5;let Z56:=AV.agg ((o60 p4));let Z57:=Qa0.mk x5.Routine (w64 Z33) x5.State x5.Cond x5.Lock l9;let Z59:=AV.sl 1011 0 Z25.length;let Z60:=[Z12,Z39,Z13,Z14,Z15,Z59];let Z61:=Z36.set p2.toNat Z60;let Z62:=AV.sl 1004 0 Z61.length;let Z63:=[Z62,Z4,Z6,Z7];let Z64:=AV.sl 1012 0 Z3.length;let Z65:=[Z62,Z64,Z6,Z7];let Z75:=AV.ptr 1001 0 1;let Z76:=I p3.A;let Z77:=AV.ptr 1002 0 1;let Z78:=I p4.Thread;let Z79:=I p4.Obj;let Z80:=I p4.Lock;let Z81:=I p4.Pc;let Z82:=Qas.mk 60 5 [[Z78,(I 2),Z79,Z80,Z81]];let Z83:=((Z3.length:Nat) : Int);let Z86:=AV.agg [Z78,(I 2),Z76,Z80,Z81];let Z88:=AV.sl 1004 0 Z36.length;let Z89:=[Z88,Z4,Z6,Z7];let Z90:=[Z89];let Z91:=AV.sl 1015 0 Z3.length;let Z92:=[Z88,Z91,Z6,Z7];let Z95:=AV.own 70 6 Z36;let Z96:=[Z95,Z91,Z6,Z7];let Z98:=Qas.mk 60 5 [[Z78,(I 3),Z79,Z80,Z81]];let Z99:=((Z21.length:Nat) : Int);let Z101:=AV.agg [Z78,(I 3),Z76,Z80,Z81];let Z103:=Z29.set p2.toNat (Qa0.mk x5.Routine p3.A x5.State x5.Cond x5.Lock l9);let Z104:=Z103.map o70;let Z105:=[[(AV.own 70 6 Z104),Z4,Z6,Z7]];let Z106:=AV.sl 1004 0 Z104.length;let Z107:=Z8.set 0 (AV.own 70 6 Z104);let Z108:=o44 (Qa1.mk Z103 p1.Cells p1.Owner p1.Fault);let Z109:=Qa1.mk Z103 p1.Cells p1.Owner p1.Fault;let Z110:=[[Z95,Z4,Z6,Z7]];let Z111:=o44 (Qa1.mk Z35 p1.Cells p1.Owner p1.Fault);let Z112:=Qa1.mk Z35 p1.Cells p1.Owner p1.Fault;let Z113:=AV.sl 1016 0 Z5.length;let Z114:=[Z88,Z4,Z113,Z7];let Z115:=p1.Owner.set p3.A.toNat p2;let Z116:=Z115.map o3;let Z117:=[Z95,Z4,Z113,Z7];let Z118:=[[Z95,Z4,(AV.own 3 1 Z116),Z7]];let Z119:=Qas.mk 60 5 [[Z78,(I 4),Z79,Z80,Z81]];let Z120:=((Z5.length:Nat) : Int);let Z121:=o44 (Qa1.mk Z35 p1.Cells Z115 p1.Fault);let Z122:=AV.agg [Z78,(I 4),Z76,Z80,Z81];let Z123:=Qa1.mk Z35 p1.Cells Z115 p1.Fault;let Z124:=AV.sl 1017 0 Z5.length;let Z125:=[Z88,Z4,Z124,Z7];let Z126:=p1.Owner.set p3.A.toNat (-1);let Z127:=Z126.map o3;let Z128:=[Z95,Z4,Z124,Z7];let Z129:=[[Z95,Z4,(AV.own 3 1 Z127),Z7]];let Z130:=Qas.mk 60 5 [[Z78,(I 5),Z79,Z80,Z81]];let Z131:=[(I (-1))];let Z132:=o44 (Qa1.mk Z35 p1.Cells Z126 p1.Fault);let Z133:=AV.agg [Z78,(I 5),Z76,Z80,Z81];let Z134:=Qa1.mk Z35 p1.Cells Z126 p1.Fault;let Z135:=(I (Z35.length:Int));let Z136:=AV.sl 1018 0 Z25.length;let Z137:=[Z12,Z39,Z13,Z14,Z15,Z136];let Z138:=Z36.set p2.toNat Z137;let Z139:=[[(AV.sl 1004 0 Z138.length),Z4,Z6,Z7]];let Z140:=(fOf (Z35.length:Int));let Z156:=AV.ptr 0 0 0;let Z157:=((Z36.length:Nat) : Int);let Z158:=Qas.mk 60 5 [[Z78,(I 6),Z79,Z80,Z81]];let Z159:=(([Z140].map Qae).drop 0).take ([Z140].map Qae).length;let Z161:=AV.agg [Z78,(I 6),Z135,Z80,Z81];let Z165:=p3.Code == 15;let Z166:=AV.sl 1006 0 Z21.length;let Z167:=AV.ptr 1006 (Int.toNat 0) 0;let Z168:=AV.ptr 1002 0 2;let Z172:=AV.sl 1024 0 Z5.length;let Z173:=[Z88,Z4,Z172,Z7];let Z174:=p1.Owner.set p3.B.toNat (-1);let Z175:=Z174.map o3;let Z176:=w64 (Z34 - 1);let Z177:=(Z29.set p2.toNat (Qa0.mk x5.Routine Z176 x5.State x5.Cond x5.Lock l9)).map o70;let Z178:=[Z12,(I Z176),Z13,Z14,Z15,Z31];let Z179:=(Z29.set p2.toNat (Qa0.mk x5.Routine Z176 3 x5.Cond x5.Lock l9)).map o70;let Z180:=[Z12,(I Z176),(I 3),Z14,Z15,Z31];let Z181:=(Z29.set p2.toNat (Qa0.mk x5.Routine Z176 3 p3.A x5.Lock l9)).map o70;let Z182:=[Z12,(I Z176),(I 3),Z76,Z15,Z31];let Z183:=Z29.set p2.toNat (Qa0.mk x5.Routine Z176 3 p3.A p3.B l9);let Z184:=Z183.map o70;let Z185:=AV.own 70 6 Z184;let Z186:=[Z185,Z4,Z172,Z7];let Z187:=[[Z185,Z4,(AV.own 3 1 Z175),Z7]];let Z188:=AV.ptr 1001 0 2;let Z189:=I p3.B;let Z190:=Qas.mk 60 5 [[Z78,(I 8),Z79,Z80,Z81]];let Z191:=Qas.mk 60 5 [[Z78,(I 8),Z76,Z80,Z81]];let Z192:=AV.ptr 1004 p2.toNat 2;let Z193:=AV.ptr 1004 p2.toNat 3;let Z194:=o44 (Qa1.mk Z183 p1.Cells Z174 p1.Fault);let Z195:=AV.agg [Z78,(I 8),Z76,Z189,Z81];let Z196:=Qa1.mk Z183 p1.Cells Z174 p1.Fault;let Z197:=Z35.map r70;let Z198:=Qas.mk 60 5 [[Z78,(I 10),Z79,Z80,Z81]];let Z206:=AV.sl 1025 0 Z25.length;let Z207:=[Z12,Z39,Z13,Z14,Z15,Z206];let Z208:=Z36.set p2.toNat Z207
 let H1:List Hn:=[hW 0 1001,hW 1 1002,hW 2 1003,hh 6 (.unpack 0 1004 0 0 Z0 70 6 Z1 [Z8]),hh 11 (.callV [[]] Z9),hh 20 (.unpack 1004 1005 p2.toNat 5 Z10 132 1 Z11 Z18),hh 20 (.row Z17),hO 21 (I Z19),hh 28 (.row Z17),hh 31 (.call [Z20] Z22 [1006]),hh 37 (.row Z17),hh 39 (.fgt 1004 p2.toNat 5 Z17 Z24),hh 39 (.shr 1007 Z25),hh 42 (.sto Z23 Z28),hh 46 (.row Z27),hh 50 (.pack 1004 1007 p2.toNat 5 Z27 Z30),hh 50 (.sto Z32 Z36)]
 let P2:List Prop:=[[Z0][0]? = some Z0,Z0[0]? = some (AV.own 70 6 Z1),0<6,[Z0].set 0 (Z0.set 0 Z2)=[Z8],(0:Int)≤p2,p2<((Z1.length:Nat) : Int),Qa4 Tryz.prog 206 [(AV.agg ((Qbj p3)))] Z9,Qa3 Z9=true,Z1[p2.toNat]? = some Z10,Z10[5]? = some (AV.own 132 1 Z11),0<1,Z1.set p2.toNat (Z10.set 5 Z16)=Z18,Z18[p2.toNat]? = some Z17,AV.lit (.int .i64 Z37)=(I Z19),Z18[p2.toNat]? = some Z17,(0:Int)≤Z38,Z38≤Z37,Z37≤Z37,Qa4 Tryz.prog 161 [(AV.ro 1 Z20)] Z22,Qc2 Z22=true,Frz ((Z11.drop Z38.toNat).take (Xe9 Z37.toNat Z38.toNat)) Z20,Z18[p2.toNat]? = some Z17,Z18[p2.toNat]? = some Z17,Z18.set p2.toNat (Z17.set 5 .dead)=Z24,(0:Int)≤Z38,Z38≤Z37,Z11.take Z38.toNat=Z25,Z11.length=Z11.length,Z24[p2.toNat]? = some Z23,Z24.set p2.toNat (wr Z23 5 [Z26])=Z28,[Z26].length=1,5 + [Z26].length≤Z23.length,Z28[p2.toNat]? = some Z27,Z28[p2.toNat]? = some Z27,Z27[5]? = some Z26,Qa2 Z25=true,Z28.set p2.toNat (Z27.set 5 Z31)=Z30,Z30[p2.toNat]? = some Z32,Z30.set p2.toNat (wr Z32 1 [Z39])=Z36,[Z39].length=1,1 + [Z39].length≤Z32.length]
 have AP2:Qam P2:=⟨rfl,rfl,(by decide),rfl,(rd0 hx5),(rdL o70 hx5),(Qhw hr6),rfl,(rdM o70 hx5),rfl,(by decide),rfl,(Qcc (rdM o70 hx5)),(Qby Qae),(Qcc (rdM o70 hx5)),(sl0 hl7),(sl1e Qae hl7),(Int.le_refl _),(Qcg hr8),(by simp +zetaDelta only [Qc2,Qbm,Qa9 Qe7,Bool.and_self]),(Xnq Qbs Qqn hl7),(Qcc (rdM o70 hx5)),(Qcc (rdM o70 hx5)),(Qfh rfl),(sl1 hl9),(sl2 Qae hl9),(shT Qae hl9),rfl,(Qcc (rdM o70 hx5)),(Qfh rfl),rfl,leB,(Qcc (rdM o70 hx5)),(Qcc (rdM o70 hx5)),rfl,(Qab Qbs),(Qfz o70 (y:=Z40) rfl),(rdM o70 (rdS (y:=Z40) hx5)),(Qn5 o70),rfl,leB,trivial⟩
 rcases itS h with ⟨c10,h⟩ | ⟨c12,h⟩
 ·obtain ⟨l11,hl11,h⟩:=bnS h
  obtain rfl:=sj h
  exact (let Z45:=l11.map Qae;let Z46:=AV.sl 1010 0 Z45.length;let Z47:=[Z12,Z39,Z13,Z14,Z15,Z46];let Z48:=Z36.set p2.toNat Z47;let Z49:=Z35.set p2.toNat (Qa0.mk x5.Routine Z34 x5.State x5.Cond x5.Lock l11);let Z50:=Z49.map o70;let Z51:=[[(AV.own 70 6 Z50),Z4,Z6,Z7]];let Z55:=o44 (Qa1.mk Z49 p1.Cells p1.Owner p1.Fault);let Z58:=Qa1.mk Z49 p1.Cells p1.Owner p1.Fault;gR hP hn (H1++[hT 55,hh 56 (.unpack 1004 1008 p2.toNat 5 Z41 132 1 Z25 Z44),hh 60 (.row Z43),hW 63 1009,hh 64 (.app 1010 Z45),hh 70 (.row Z43),hh 73 (.sto Z43 Z48),hh 76 (.pack 1004 1010 p2.toNat 5 Z47 Z50),hh 76 (.pack 0 1004 0 0 Z8 Z51)]) [] .raw (P2++[(p3.Code == 1)=true,Z36[p2.toNat]? = some Z41,Z41[5]? = some Z31,0<1,Z36.set p2.toNat (Z41.set 5 Z42)=Z44,Z44[p2.toNat]? = some Z43,Z25.take Z25.length++Z52=Z45,Z52.all (fun r=>r.all AV.plain)=true,Z45.length * 8≤140737488355328,Z45.length≤140737488355328,Z53=Z53,Z53=Z53,Z53=Z53,Z53=Z53,Z54=Z54,Z42=Z42,Z44[p2.toNat]? = some Z43,Z44[p2.toNat]? = some Z43,Z44.set p2.toNat (wr Z43 5 [Z46])=Z48,[Z46].length=1,5 + [Z46].length≤Z43.length,Z48[p2.toNat]? = some Z47,Z47[5]? = some Z46,Qa2 Z45=true,Z48.set p2.toNat (Z47.set 5 (AV.own 132 1 Z45))=Z50,[Z8][0]? = some Z8,Z8[0]? = some (AV.sl 1004 0 Z50.length),Qa2 Z50=true,[Z8].set 0 (Z8.set 0 (AV.own 70 6 Z50))=Z51,Z51=[Z55],Qa2 [Z55]=true,Qa6 [Z55]=true,Z56=Z56,Qa3 Z56=true]) (Qa7 AP2 ⟨c10,(rdM o70 (rdS (y:=Z57) (rdS (y:=Z40) hx5))),rfl,(by decide),rfl,(Qcc (rdM o70 (rdS (y:=Z57) (rdS (y:=Z40) hx5)))),(Qix Qae hl11),(plD Qkp),(Qn2 Qae hl11 (by decide)),(Qn1 Qae hl11),rfl,rfl,rfl,rfl,rfl,rfl,(Qcc (rdM o70 (rdS (y:=Z57) (rdS (y:=Z40) hx5)))),(Qcc (rdM o70 (rdS (y:=Z57) (rdS (y:=Z40) hx5)))),(Qfh rfl),rfl,leB,(Qcc (rdM o70 (rdS (y:=Z57) (rdS (y:=Z40) hx5)))),rfl,(Qab Qbs),(Qfz o70 (y:=(Qa0.mk x5.Routine (w64 Z33) x5.State x5.Cond x5.Lock l11)) rfl),rfl,(pkS lnq),(Qab t70),rfl,rfl,(Qai t44 Z58),(Qlt n44 Z58),rfl,rfl,trivial⟩))
 ·let P3:List Prop:=P2++[(p3.Code == 1)=false]
  have AP3:Qam P3:=Qa7 AP2 ⟨c12,trivial⟩
  rcases itS h with ⟨c13,h⟩ | ⟨c16,h⟩
  ·obtain ⟨x14,hx14,h⟩:=bnS h
   obtain ⟨l15,hl15,h⟩:=bnS h
   obtain rfl:=sj h
   exact (let Z66:=l15.map Qae;let Z67:=AV.sl 1014 0 Z66.length;let Z68:=[Z12,Z39,Z13,Z14,Z15,Z67];let Z69:=Z36.set p2.toNat Z68;let Z70:=Z35.set p2.toNat (Qa0.mk x5.Routine Z34 x5.State x5.Cond x5.Lock l15);let Z71:=Z70.map o70;let Z72:=AV.own 70 6 Z71;let Z73:=[Z72,Z64,Z6,Z7];let Z74:=[[Z72,Z4,Z6,Z7]];let Z84:=(([x14].map Qae).drop 0).take ([x14].map Qae).length;let Z85:=o44 (Qa1.mk Z70 p1.Cells p1.Owner p1.Fault);let Z87:=Qa1.mk Z70 p1.Cells p1.Owner p1.Fault;gR hP hn (H1++[hF 55,hT 58,hh 65 (.unpack 1004 1011 p2.toNat 5 Z41 132 1 Z25 Z61),hh 65 (.eqr 0 [Z63]),hh 65 (.unpack 0 1012 0 1 Z63 132 1 Z3 [Z65]),hh 69 (.row Z60),hh 77 (.row [(FK x14)]),hW 78 1013,hh 79 (.app 1014 Z66),hh 85 (.row Z60),hh 88 (.sto Z60 Z69),hh 91 (.pack 1004 1014 p2.toNat 5 Z68 Z71),hh 91 (.pack 0 1004 0 0 Z65 [Z73]),hh 91 (.pack 0 1012 0 1 Z73 Z74)]) [] .raw (P3++[(p3.Code == 2)=true,Z75=Z75,Z75=Z75,Z76=Z76,Z76=Z76,Z77=Z77,[(1002,some Z82)]=[(1002,some Z82)],Z36[p2.toNat]? = some Z41,Z41[5]? = some Z31,0<1,Z36.set p2.toNat (Z41.set 5 Z59)=Z61,[Z8]=[Z63],[Z63][0]? = some Z63,Z63[1]? = some Z4,0<1,[Z63].set 0 (Z63.set 1 Z64)=[Z65],Z61[p2.toNat]? = some Z60,(0:Int)≤p3.A,p3.A<Z83,Z3[p3.A.toNat]? = some [(FK x14)],Z25.take Z25.length++Z84=Z66,Z84.all (fun r=>r.all AV.plain)=true,Z66.length * 8≤140737488355328,Z66.length≤140737488355328,Z53=Z53,Z53=Z53,Z53=Z53,Z53=Z53,Z54=Z54,Z59=Z59,Z61[p2.toNat]? = some Z60,Z61[p2.toNat]? = some Z60,Z61.set p2.toNat (wr Z60 5 [Z67])=Z69,[Z67].length=1,5 + [Z67].length≤Z60.length,Z69[p2.toNat]? = some Z68,Z68[5]? = some Z67,Qa2 Z66=true,Z69.set p2.toNat (Z68.set 5 (AV.own 132 1 Z66))=Z71,[Z65][0]? = some Z65,Z65[0]? = some (AV.sl 1004 0 Z71.length),Qa2 Z71=true,[Z65].set 0 (Z65.set 0 Z72)=[Z73],[Z73][0]? = some Z73,Z73[1]? = some Z64,Qa2 Z3=true,[Z73].set 0 (Z73.set 1 Z4)=Z74,Z74=[Z85],Qa2 [Z85]=true,Qa6 [Z85]=true,Z86=Z86,Qa3 Z86=true]) (Qa7 AP3 ⟨c13,rfl,rfl,rfl,rfl,rfl,rfl,(rdM o70 (rdS (y:=Z57) (rdS (y:=Z40) hx5))),rfl,(by decide),rfl,(congrArg (fun nn=>[[(AV.sl 1004 0 nn),Z4,Z6,(I p1.Fault)]]) (show Z1.length=Z61.length from lnq)),rfl,rfl,(by decide),rfl,(Qcc (rdM o70 (rdS (y:=Z57) (rdS (y:=Z40) hx5)))),(rd0 hx14),(rdL Qae hx14),(rdM Qae hx14),(Qix Qae hl15),(plD Qkp),(Qn2 Qae hl15 (by decide)),(Qn1 Qae hl15),rfl,rfl,rfl,rfl,rfl,rfl,(Qcc (rdM o70 (rdS (y:=Z57) (rdS (y:=Z40) hx5)))),(Qcc (rdM o70 (rdS (y:=Z57) (rdS (y:=Z40) hx5)))),(Qfh rfl),rfl,leB,(Qcc (rdM o70 (rdS (y:=Z57) (rdS (y:=Z40) hx5)))),rfl,(Qab Qbs),(Qfz o70 (y:=(Qa0.mk x5.Routine (w64 Z33) x5.State x5.Cond x5.Lock l15)) rfl),rfl,(pkS lnq),(Qab t70),rfl,rfl,rfl,(Qab Qbs),rfl,rfl,(Qai t44 Z87),(Qlt n44 Z87),rfl,rfl,trivial⟩))
  ·let H4:List Hn:=H1++[hF 55,hF 58]
   let P5:List Prop:=P3++[(p3.Code == 2)=false]
   have AP5:Qam P5:=Qa7 AP3 ⟨c16,trivial⟩
   rcases itS h with ⟨c17,h⟩ | ⟨c20,h⟩
   ·obtain ⟨x18,hx18,h⟩:=bnS h
    obtain ⟨x19,hx19,h⟩:=bnS h
    obtain rfl:=sj h
    exact (let Z93:=p1.Cells.set p3.A.toNat x18;let Z94:=Z93.map Qae;let Z97:=[[Z95,(AV.own 132 1 Z94),Z6,Z7]];let Z100:=o44 (Qa1.mk Z35 Z93 p1.Owner p1.Fault);let Z102:=Qa1.mk Z35 Z93 p1.Owner p1.Fault;gR hP hn (H4++[hT 61,hh 68 (.eqr 0 Z90),hh 68 (.unpack 0 1015 0 1 Z89 132 1 Z3 [Z92]),hh 76 (.row [(FK x18)]),hh 78 (.sto [(FK x19)] Z94),hh 81 (.pack 0 1004 0 0 Z92 [Z96]),hh 81 (.pack 0 1015 0 1 Z96 Z97)]) [] .raw (P5++[(p3.Code == 3)=true,Z75=Z75,Z75=Z75,Z76=Z76,Z76=Z76,Z77=Z77,[(1002,some Z98)]=[(1002,some Z98)],[Z8]=Z90,Z90[0]? = some Z89,Z89[1]? = some Z4,0<1,Z90.set 0 (Z89.set 1 Z91)=[Z92],(0:Int)≤0,0<Z99,Z21[(Int.toNat 0)]? = some [(FK x18)],(0:Int)≤p3.A,p3.A<Z83,Z3[p3.A.toNat]? = some [(FK x19)],Z3.set p3.A.toNat (wr [(FK x19)] 0 [(FK x18)])=Z94,[(FK x18)].length=1,0 + [(FK x18)].length≤[(FK x19)].length,[Z92][0]? = some Z92,Z92[0]? = some Z88,Qa2 Z36=true,[Z92].set 0 (Z92.set 0 Z95)=[Z96],[Z96][0]? = some Z96,Z96[1]? = some (AV.sl 1015 0 Z94.length),Qa2 Z94=true,[Z96].set 0 (Z96.set 1 (AV.own 132 1 Z94))=Z97,Z97=[Z100],Qa2 [Z100]=true,Qa6 [Z100]=true,Z101=Z101,Qa3 Z101=true]) (Qa7 AP5 ⟨c17,rfl,rfl,rfl,rfl,rfl,rfl,(congrArg (fun nn=>[[(AV.sl 1004 0 nn),Z4,Z6,(I p1.Fault)]]) (show Z1.length=Z36.length from lnq)),rfl,rfl,(by decide),rfl,(rd0 hx18),(rdL Qae hx18),(rdM Qae hx18),(rd0 hx19),(rdL Qae hx19),(rdM Qae hx19),(Qw5 Qae),rfl,leB,rfl,rfl,(Qab t70),rfl,rfl,(pkS lnq),(Qab Qbs),rfl,rfl,(Qai t44 Z102),(Qlt n44 Z102),rfl,rfl,trivial⟩))
   ·let P6:List Prop:=P5++[(p3.Code == 3)=false]
    have AP6:Qam P6:=Qa7 AP5 ⟨c20,trivial⟩
    rcases itS h with ⟨c21,h⟩ | ⟨c22,h⟩
    ·obtain rfl:=sj h
     exact gR hP hn (H4++[hF 61,hT 64,hh 70 (.sto Z41 Z104),hh 73 (.pack 0 1004 0 0 Z8 Z105)]) [] .raw (P6++[(p3.Code == 10)=true,Z36[p2.toNat]? = some Z41,Z36.set p2.toNat (wr Z41 1 [Z76])=Z104,[Z76].length=1,1 + [Z76].length≤Z41.length,[Z8][0]? = some Z8,Z8[0]? = some Z106,Qa2 Z104=true,[Z8].set 0 Z107=Z105,Z105=[Z108],Qa2 [Z108]=true,Qa6 [Z108]=true,Z56=Z56,Qa3 Z56=true]) (Qa7 AP6 ⟨c21,(rdM o70 (rdS (y:=Z57) (rdS (y:=Z40) hx5))),(Qhf o70),rfl,leB,rfl,(pkS lnq),(Qab t70),rfl,rfl,(Qai t44 Z109),(Qlt n44 Z109),rfl,rfl,trivial⟩)
    ·let H7:List Hn:=H4++[hF 61,hF 64]
     let P8:List Prop:=P6++[(p3.Code == 10)=false]
     have AP8:Qam P8:=Qa7 AP6 ⟨c22,trivial⟩
     rcases itS h with ⟨c23,h⟩ | ⟨c36,h⟩
     ·obtain ⟨x24,hx24,h⟩:=bnS h
      obtain ⟨r33,hr33,h⟩:=bnS h
      let P9:List Prop:=P8++[(p3.Code == 11)=true,(0:Int)≤0,0<Z99,Z21[(Int.toNat 0)]? = some [(FK x24)],Qa4 Tryz.prog 207 [(FK x24)] (B r33),Qa3 (B r33)=true]
      have AP9:Qam P9:=Qa7 AP8 ⟨c23,(rd0 hx24),(rdL Qae hx24),(rdM Qae hx24),(Qvg hr33),rfl,trivial⟩
      rcases itS h with ⟨c34,h⟩ | ⟨c35,h⟩
      ·obtain rfl:=sj h
       exact gR hP hn (H7++[hT 67,hh 70 (.row [(FK x24)]),hh 71 (.callV [] (B r33)),hT 72,hh 78 (.sto Z41 Z104),hh 81 (.pack 0 1004 0 0 Z8 Z105)]) [] .raw (P9++[r33=true,Z36[p2.toNat]? = some Z41,Z36.set p2.toNat (wr Z41 1 [Z76])=Z104,[Z76].length=1,1 + [Z76].length≤Z41.length,[Z8][0]? = some Z8,Z8[0]? = some Z106,Qa2 Z104=true,[Z8].set 0 Z107=Z105,Z105=[Z108],Qa2 [Z108]=true,Qa6 [Z108]=true,Z56=Z56,Qa3 Z56=true]) (Qa7 AP9 ⟨c34,(rdM o70 (rdS (y:=Z57) (rdS (y:=Z40) hx5))),(Qhf o70),rfl,leB,rfl,(pkS lnq),(Qab t70),rfl,rfl,(Qai t44 Z109),(Qlt n44 Z109),rfl,rfl,trivial⟩)
      ·obtain rfl:=sj h
       exact gR hP hn (H7++[hT 67,hh 70 (.row [(FK x24)]),hh 71 (.callV [] (B r33)),hF 72,hh 75 (.pack 0 1004 0 0 Z8 Z110)]) [] .raw (P9++[r33=false,[Z8][0]? = some Z8,Z8[0]? = some Z88,Qa2 Z36=true,[Z8].set 0 (Z8.set 0 Z95)=Z110,Z110=[Z111],Qa2 [Z111]=true,Qa6 [Z111]=true,Z56=Z56,Qa3 Z56=true]) (Qa7 AP9 ⟨c35,rfl,(pkS lnq),(Qab t70),rfl,rfl,(Qai t44 Z112),(Qlt n44 Z112),rfl,rfl,trivial⟩)
     ·let P10:List Prop:=P8++[(p3.Code == 11)=false]
      have AP10:Qam P10:=Qa7 AP8 ⟨c36,trivial⟩
      rcases itS h with ⟨c37,h⟩ | ⟨c39,h⟩
      ·obtain ⟨x38,hx38,h⟩:=bnS h
       obtain rfl:=sj h
       exact gR hP hn (H7++[hF 67,hT 70,hh 77 (.eqr 0 Z90),hh 77 (.unpack 0 1016 0 2 Z89 3 1 Z5 [Z114]),hh 85 (.sto [(I x38)] Z116),hh 88 (.pack 0 1004 0 0 Z114 [Z117]),hh 88 (.pack 0 1016 0 2 Z117 Z118)]) [] .raw (P10++[(p3.Code == 12)=true,Z75=Z75,Z75=Z75,Z76=Z76,Z76=Z76,Z77=Z77,[(1002,some Z119)]=[(1002,some Z119)],[Z8]=Z90,Z90[0]? = some Z89,Z89[2]? = some Z6,0<1,Z90.set 0 (Z89.set 2 Z113)=[Z114],(0:Int)≤p3.A,p3.A<Z120,Z5[p3.A.toNat]? = some [(I x38)],Z5.set p3.A.toNat (wr [(I x38)] 0 [(I p2)])=Z116,[(I p2)].length=1,0 + [(I p2)].length≤[(I x38)].length,[Z114][0]? = some Z114,Z114[0]? = some Z88,Qa2 Z36=true,[Z114].set 0 (Z114.set 0 Z95)=[Z117],[Z117][0]? = some Z117,Z117[2]? = some (AV.sl 1016 0 Z116.length),Qa2 Z116=true,[Z117].set 0 (Z117.set 2 (AV.own 3 1 Z116))=Z118,Z118=[Z121],Qa2 [Z121]=true,Qa6 [Z121]=true,Z122=Z122,Qa3 Z122=true]) (Qa7 AP10 ⟨c37,rfl,rfl,rfl,rfl,rfl,rfl,(congrArg (fun nn=>[[(AV.sl 1004 0 nn),Z4,Z6,(I p1.Fault)]]) (show Z1.length=Z36.length from lnq)),rfl,rfl,(by decide),rfl,(rd0 hx38),(rdL o3 hx38),(rdM o3 hx38),(Qw5 o3),rfl,leB,rfl,rfl,(Qab t70),rfl,rfl,(pkS lnq),(Qab t3),rfl,rfl,(Qai t44 Z123),(Qlt n44 Z123),rfl,rfl,trivial⟩)
      ·let P11:List Prop:=P10++[(p3.Code == 12)=false]
       have AP11:Qam P11:=Qa7 AP10 ⟨c39,trivial⟩
       rcases itS h with ⟨c40,h⟩ | ⟨c42,h⟩
       ·obtain ⟨x41,hx41,h⟩:=bnS h
        obtain rfl:=sj h
        exact gR hP hn (H7++[hF 67,hF 70,hT 73,hh 80 (.eqr 0 Z90),hh 80 (.unpack 0 1017 0 2 Z89 3 1 Z5 [Z125]),hh 87 (.sto [(I x41)] Z127),hh 90 (.pack 0 1004 0 0 Z125 [Z128]),hh 90 (.pack 0 1017 0 2 Z128 Z129)]) [] .raw (P11++[(p3.Code == 13)=true,Z75=Z75,Z75=Z75,Z76=Z76,Z76=Z76,Z77=Z77,[(1002,some Z130)]=[(1002,some Z130)],[Z8]=Z90,Z90[0]? = some Z89,Z89[2]? = some Z6,0<1,Z90.set 0 (Z89.set 2 Z124)=[Z125],(0:Int)≤p3.A,p3.A<Z120,Z5[p3.A.toNat]? = some [(I x41)],Z5.set p3.A.toNat (wr [(I x41)] 0 Z131)=Z127,Z131.length=1,0+Z131.length≤[(I x41)].length,[Z125][0]? = some Z125,Z125[0]? = some Z88,Qa2 Z36=true,[Z125].set 0 (Z125.set 0 Z95)=[Z128],[Z128][0]? = some Z128,Z128[2]? = some (AV.sl 1017 0 Z127.length),Qa2 Z127=true,[Z128].set 0 (Z128.set 2 (AV.own 3 1 Z127))=Z129,Z129=[Z132],Qa2 [Z132]=true,Qa6 [Z132]=true,Z133=Z133,Qa3 Z133=true]) (Qa7 AP11 ⟨c40,rfl,rfl,rfl,rfl,rfl,rfl,(congrArg (fun nn=>[[(AV.sl 1004 0 nn),Z4,Z6,(I p1.Fault)]]) (show Z1.length=Z36.length from lnq)),rfl,rfl,(by decide),rfl,(rd0 hx41),(rdL o3 hx41),(rdM o3 hx41),(Qw5 o3),rfl,leB,rfl,rfl,(Qab t70),rfl,rfl,(pkS lnq),(Qab t3),rfl,rfl,(Qai t44 Z134),(Qlt n44 Z134),rfl,rfl,trivial⟩)
       ·let H12:List Hn:=H7++[hF 67,hF 70,hF 73]
        let P13:List Prop:=P11++[(p3.Code == 13)=false]
        have AP13:Qam P13:=Qa7 AP11 ⟨c42,trivial⟩
        rcases itS h with ⟨c43,h⟩ | ⟨c49,h⟩
        ·obtain ⟨l44,hl44,h⟩:=bnS h
         obtain ⟨r47,hr47,h⟩:=bnS h
         obtain ⟨l48,hl48,h⟩:=bnS h
         obtain rfl:=sj h
         exact (let Z141:=l44.map Qae;let Z142:=AV.sl 1020 0 Z141.length;let Z143:=[Z12,Z39,Z13,Z14,Z15,Z142];let Z144:=Z36.set p2.toNat Z143;let Z145:=AV.sl 1004 0 Z144.length;let Z146:=Z35.set p2.toNat (Qa0.mk x5.Routine Z34 x5.State x5.Cond x5.Lock l44);let Z147:=Z146.map o70;let Z148:=AV.agg (o70 r47);let Z149:=r47.Stack.map Qae;let Z150:=AV.sl 1021 0 Z149.length;let Z151:=[(I r47.Routine),(I r47.Pc),(I r47.State),(I r47.Cond),(I r47.Lock),Z150];let Z152:=Z147++[Z151];let Z153:=l48.map o70;let Z154:=[(AV.sl 1023 0 Z152.length),Z4,Z6,Z7];let Z155:=[[(AV.own 70 6 Z153),Z4,Z6,Z7]];let Z160:=o44 (Qa1.mk l48 p1.Cells p1.Owner p1.Fault);let Z162:=Qa1.mk l48 p1.Cells p1.Owner p1.Fault;gR hP hn (H12++[hT 76,hh 77 (.eqr 0 Z90),hO 81 Z135,hh 86 (.unpack 1004 1018 p2.toNat 5 Z41 132 1 Z25 Z138),hh 86 (.eqr 0 Z139),hh 90 (.row Z137),hO 95 Z135,hh 96 (.cnv (FK Z140)),hW 97 1019,hh 98 (.app 1020 Z141),hh 104 (.row Z137),hh 107 (.sto Z137 Z144),hh 108 (.eqr 0 [[Z145,Z4,Z6,Z7]]),hh 108 (.pack 1004 1020 p2.toNat 5 Z143 Z147),hh 115 (.call [] Z148 [1021]),hW 116 1022,hh 117 (.app 1023 Z152),hh 129 (.pack 1023 1021 Z146.length 5 Z151 Z153),hh 134 (.pack 0 1023 0 0 Z154 Z155)]) [] .raw (P13++[(p3.Code == 14)=true,[Z8]=Z90,Z156=Z156,Z156=Z156,Z156=Z156,Z156=Z156,Z156=Z156,Z156=Z156,Z88=Z88,Z88=Z88,Z135=Z135,AV.lit (.int .i64 Z157)=Z135,Z135=Z135,AV.lit (.int .i64 Z157)=Z135,Z77=Z77,[(1002,some Z158)]=[(1002,some Z158)],Z36[p2.toNat]? = some Z41,Z41[5]? = some Z31,0<1,Z36.set p2.toNat (Z41.set 5 Z136)=Z138,Z90=Z139,Z138[p2.toNat]? = some Z137,AV.lit (.int .i64 ((Z138.length:Nat) : Int))=Z135,Qyz Tryz.prog 3 132 Z135 (FK Z140),Z25.take Z25.length++Z159=Z141,Z159.all (fun r=>r.all AV.plain)=true,Z141.length * 8≤140737488355328,Z141.length≤140737488355328,Z53=Z53,Z53=Z53,Z53=Z53,Z53=Z53,Z54=Z54,Z136=Z136,Z138[p2.toNat]? = some Z137,Z138[p2.toNat]? = some Z137,Z138.set p2.toNat (wr Z137 5 [Z142])=Z144,[Z142].length=1,5 + [Z142].length≤Z137.length,Z139=[[Z145,Z4,Z6,Z7]],Z144[p2.toNat]? = some Z143,Z143[5]? = some Z142,Qa2 Z141=true,Z144.set p2.toNat (Z143.set 5 (AV.own 132 1 Z141))=Z147,Qa4 Tryz.prog 178 [Z76] Z148,Qc2 Z148=true,Z147.take Z144.length++[Z151]=Z152,[Z151].all (fun r=>r.all AV.plain)=true,Z152.length * 64≤140737488355328,Z152.length≤140737488355328,Z156=Z156,Z156=Z156,Z156=Z156,Z156=Z156,Z156=Z156,Z156=Z156,Z156=Z156,Z156=Z156,Z156=Z156,Z145=Z145,Z145=Z145,Z152[Z146.length]? = some Z151,Z151[5]? = some Z150,Qa2 Z149=true,Z152.set Z146.length (Z151.set 5 (AV.own 132 1 Z149))=Z153,[Z154][0]? = some Z154,Z154[0]? = some (AV.sl 1023 0 Z153.length),Qa2 Z153=true,[Z154].set 0 (Z154.set 0 (AV.own 70 6 Z153))=Z155,Z155=[Z160],Qa2 [Z160]=true,Qa6 [Z160]=true,Z161=Z161,Qa3 Z161=true]) (Qa7 AP13 ⟨c43,(congrArg (fun nn=>[[(AV.sl 1004 0 nn),Z4,Z6,(I p1.Fault)]]) (show Z1.length=Z36.length from lnq)),rfl,rfl,rfl,rfl,rfl,rfl,rfl,rfl,rfl,(Qby o70),rfl,(Qby o70),rfl,rfl,(rdM o70 (rdS (y:=Z57) (rdS (y:=Z40) hx5))),rfl,(by decide),rfl,(congrArg (fun nn=>[[(AV.sl 1004 0 nn),Z4,Z6,(I p1.Fault)]]) (show Z36.length=Z138.length from lnq)),(Qcc (rdM o70 (rdS (y:=Z57) (rdS (y:=Z40) hx5)))),(by simp +zetaDelta only [List.length_set,List.length_map]),(cIF (P:=Tryz.prog) ty3 Qqo),(Qix Qae hl44),(plD Qkp),(Qn2 Qae hl44 (by decide)),(Qn1 Qae hl44),rfl,rfl,rfl,rfl,rfl,rfl,(Qcc (rdM o70 (rdS (y:=Z57) (rdS (y:=Z40) hx5)))),(Qcc (rdM o70 (rdS (y:=Z57) (rdS (y:=Z40) hx5)))),(Qfh rfl),rfl,leB,(congrArg (fun nn=>[[(AV.sl 1004 0 nn),Z4,Z6,(I p1.Fault)]]) (show Z138.length=Z144.length from lnq)),(Qcc (rdM o70 (rdS (y:=Z57) (rdS (y:=Z40) hx5)))),rfl,(Qab Qbs),(Qfz o70 (y:=(Qa0.mk x5.Routine (w64 Z33) x5.State x5.Cond x5.Lock l44)) rfl),(Qc7 hr47),(by simp +zetaDelta only [Qc2,Qbm,Qa9 Qe7,o70,Bool.and_self]),(adT lnq),rfl,(apB o70 hl48 (by decide)),(apC o70 hl48),rfl,rfl,rfl,rfl,rfl,rfl,rfl,rfl,rfl,rfl,rfl,(apG o70),rfl,(Qab Qbs),(apS o70 hl48),rfl,(pkS lnq),(Qab t70),rfl,rfl,(Qai t44 Z162),(Qlt n44 Z162),rfl,rfl,trivial⟩))
        ·let P14:List Prop:=P13++[(p3.Code == 14)=false]
         have AP14:Qam P14:=Qa7 AP13 ⟨c49,trivial⟩
         rcases itS h with ⟨c50,h⟩ | ⟨c53,h⟩
         ·obtain ⟨x51,hx51,h⟩:=bnS h
          obtain ⟨r52,hr52,h⟩:=bnS h
          obtain rfl:=sj h
          exact (let Z163:=B r52.2;let Z164:=AV.tup [(I r52.1),Z163];let Z169:=[Z78,(I 7),(I r52.1),Z80,Z81];let Z170:=Qas.mk 60 5 [Z169];let Z171:=AV.agg Z169;gR hP hn (H12++[hF 76,hT 79,hh 82 (.eqr 0 Z90),hh 84 (.row [(FK x51)]),hO 89 Z135,hh 90 (.callV [] Z164),hh 98 (.pack 0 1004 0 0 Z89 Z110)]) [] .raw (P14++[Z165=true,[Z8]=Z90,Z166=Z166,Z167=Z167,(0:Int)≤0,0<Z99,(FK x51)=(FK x51),Z21[(Int.toNat 0)]? = some [(FK x51)],Z156=Z156,Z156=Z156,Z156=Z156,Z88=Z88,Z135=Z135,AV.lit (.int .i64 Z157)=Z135,Z164=Z164,Qa4 Tryz.prog 208 [(FK x51),Z135] Z164,Qa3 Z164=true,Z164=Z164,(I r52.1)=(I r52.1),Z163=Z163,Z163=Z163,Z168=Z168,[(1002,some Z170)]=[(1002,some Z170)],Z90[0]? = some Z89,Z89[0]? = some Z88,Qa2 Z36=true,Z90.set 0 (Z89.set 0 Z95)=Z110,Z110=[Z111],Qa2 [Z111]=true,Qa6 [Z111]=true,Z171=Z171,Qa3 Z171=true]) (Qa7 AP14 ⟨c50,(congrArg (fun nn=>[[(AV.sl 1004 0 nn),Z4,Z6,(I p1.Fault)]]) (show Z1.length=Z36.length from lnq)),rfl,rfl,(rd0 hx51),(rdL Qae hx51),rfl,(rdM Qae hx51),rfl,rfl,rfl,rfl,rfl,(Qby o70),rfl,(Qj0 hr52),rfl,rfl,rfl,rfl,rfl,rfl,rfl,rfl,rfl,(Qab t70),rfl,rfl,(Qai t44 Z112),(Qlt n44 Z112),rfl,rfl,trivial⟩))
         ·rcases itS h with ⟨c54,h⟩ | ⟨c56,h⟩
          ·obtain ⟨x55,hx55,h⟩:=bnS h
           obtain rfl:=sj h
           exact gR hP hn (H12++[hF 76,hF 79,hT 82,hh 93 (.eqr 0 Z90),hh 93 (.unpack 0 1024 0 2 Z89 3 1 Z5 [Z173]),hh 100 (.sto [(I x55)] Z175),hh 104 (.row Z41),hh 108 (.sto Z41 Z177),hh 118 (.sto Z178 Z179),hh 121 (.sto Z180 Z181),hh 124 (.sto Z182 Z184),hh 127 (.pack 0 1004 0 0 Z173 [Z186]),hh 127 (.pack 0 1024 0 2 Z186 Z187)]) [] .raw (P14++[Z165=false,(p3.Code == 16)=true,Z75=Z75,Z75=Z75,Z76=Z76,Z76=Z76,Z188=Z188,Z188=Z188,Z188=Z188,Z189=Z189,Z189=Z189,Z189=Z189,Z77=Z77,[(1002,some Z190)]=[(1002,some Z190)],Z168=Z168,[(1002,some Z191)]=[(1002,some Z191)],[Z8]=Z90,Z90[0]? = some Z89,Z89[2]? = some Z6,0<1,Z90.set 0 (Z89.set 2 Z172)=[Z173],(0:Int)≤p3.B,p3.B<Z120,Z5[p3.B.toNat]? = some [(I x55)],Z5.set p3.B.toNat (wr [(I x55)] 0 Z131)=Z175,Z131.length=1,0+Z131.length≤[(I x55)].length,Z36[p2.toNat]? = some Z41,Z36[p2.toNat]? = some Z41,Z36.set p2.toNat (wr Z41 1 [(I Z176)])=Z177,[(I Z176)].length=1,1 + [(I Z176)].length≤Z41.length,Z53=Z53,Z53=Z53,Z53=Z53,Z53=Z53,Z53=Z53,Z53=Z53,Z75=Z75,Z75=Z75,Z76=Z76,Z76=Z76,Z188=Z188,Z188=Z188,Z188=Z188,Z189=Z189,Z189=Z189,Z189=Z189,Z53=Z53,Z192=Z192,[(1004,some (Qas.mk 70 6 Z179))]=[(1004,some (Qas.mk 70 6 Z179))],Z177[p2.toNat]? = some Z178,Z177.set p2.toNat (wr Z178 2 [(I 3)])=Z179,[(I 3)].length=1,2 + [(I 3)].length≤Z178.length,Z53=Z53,Z193=Z193,[(1004,some (Qas.mk 70 6 Z181))]=[(1004,some (Qas.mk 70 6 Z181))],Z179[p2.toNat]? = some Z180,Z179.set p2.toNat (wr Z180 3 [Z76])=Z181,[Z76].length=1,3 + [Z76].length≤Z180.length,Z181[p2.toNat]? = some Z182,Z181.set p2.toNat (wr Z182 4 [Z189])=Z184,[Z189].length=1,4 + [Z189].length≤Z182.length,[Z173][0]? = some Z173,Z173[0]? = some (AV.sl 1004 0 Z184.length),Qa2 Z184=true,[Z173].set 0 (Z173.set 0 Z185)=[Z186],[Z186][0]? = some Z186,Z186[2]? = some (AV.sl 1024 0 Z175.length),Qa2 Z175=true,[Z186].set 0 (Z186.set 2 (AV.own 3 1 Z175))=Z187,Z187=[Z194],Qa2 [Z194]=true,Qa6 [Z194]=true,Z195=Z195,Qa3 Z195=true]) (Qa7 AP14 ⟨c53,c54,rfl,rfl,rfl,rfl,rfl,rfl,rfl,rfl,rfl,rfl,rfl,rfl,rfl,rfl,(congrArg (fun nn=>[[(AV.sl 1004 0 nn),Z4,Z6,(I p1.Fault)]]) (show Z1.length=Z36.length from lnq)),rfl,rfl,(by decide),rfl,(rd0 hx55),(rdL o3 hx55),(rdM o3 hx55),(Qw5 o3),rfl,leB,(rdM o70 (rdS (y:=Z57) (rdS (y:=Z40) hx5))),(rdM o70 (rdS (y:=Z57) (rdS (y:=Z40) hx5))),(Qhf o70),rfl,leB,rfl,rfl,rfl,rfl,rfl,rfl,rfl,rfl,rfl,rfl,rfl,rfl,rfl,rfl,rfl,rfl,rfl,rfl,rfl,(rdM o70 (rdS (y:=(Qa0.mk x5.Routine (w64 ((w64 Z33) - 1)) x5.State x5.Cond x5.Lock l9)) (rdS (y:=Z40) hx5))),(Qhf o70),rfl,leB,rfl,rfl,rfl,(rdM o70 (rdS (y:=(Qa0.mk x5.Routine (w64 ((w64 Z33) - 1)) 3 x5.Cond x5.Lock l9)) (rdS (y:=Z40) hx5))),(Qhf o70),rfl,leB,(rdM o70 (rdS (y:=(Qa0.mk x5.Routine (w64 ((w64 Z33) - 1)) 3 p3.A x5.Lock l9)) (rdS (y:=Z40) hx5))),(Qhf o70),rfl,leB,rfl,(pkS lnq),(Qab t70),rfl,rfl,(pkS lnq),(Qab t3),rfl,rfl,(Qai t44 Z196),(Qlt n44 Z196),rfl,rfl,trivial⟩)
          ·let P15:List Prop:=P14++[Z165=false,(p3.Code == 16)=false]
           have AP15:Qam P15:=Qa7 AP14 ⟨c53,c56,trivial⟩
           rcases itS h with ⟨c57,h⟩ | ⟨c62,h⟩
           ·obtain ⟨r58,hr58,h⟩:=bnS h
            let Z204:=AV.agg [Z78,(I 10),Z76,(I r58),Z81]
            let H16:List Hn:=H12++[hF 76,hF 79,hF 82,hT 85,hh 95 (.eqr 0 Z90),hh 97 (.callV [Z197,[]] (I r58))]
            let P17:List Prop:=P15++[(p3.Code == 17)=true,Z75=Z75,Z75=Z75,Z76=Z76,Z76=Z76,Z77=Z77,[(1002,some Z198)]=[(1002,some Z198)],[Z8]=Z90,Qa4 Tryz.prog 172 [(AV.ro 6 Z197),(AV.fn 209 [(AV.rop (Qbj p3) 0)])] (I r58),Qa3 (I r58)=true,Frz ((Z36.drop 0).take Z36.length) Z197]
            have AP17:Qam P17:=Qa7 AP15 ⟨c57,rfl,rfl,rfl,rfl,rfl,rfl,(congrArg (fun nn=>[[(AV.sl 1004 0 nn),Z4,Z6,(I p1.Fault)]]) (show Z1.length=Z36.length from lnq)),(Qc9 hr58),rfl,(Qfx t70 z70),trivial⟩
            rcases itS h with ⟨c59,h⟩ | ⟨c61,h⟩
            ·obtain ⟨x60,hx60,h⟩:=bnS h
             obtain rfl:=sj h
             exact (let Z199:=o70 x60;let Z200:=Z35.set r58.toNat (Qa0.mk x60.Routine x60.Pc 4 x60.Cond x60.Lock x60.Stack);let Z201:=Z200.map o70;let Z202:=[[(AV.own 70 6 Z201),Z4,Z6,Z7]];let Z203:=o44 (Qa1.mk Z200 p1.Cells p1.Owner p1.Fault);let Z205:=Qa1.mk Z200 p1.Cells p1.Owner p1.Fault;gR hP hn (H16++[hT 103,hh 112 (.sto Z199 Z201),hh 115 (.pack 0 1004 0 0 Z89 Z202)]) [] .raw (P17++[(decide (r58 ≥ 0))=true,(0:Int)≤r58,r58<Z157,Z36[r58.toNat]? = some Z199,Z36.set r58.toNat (wr Z199 2 [(I 4)])=Z201,[(I 4)].length=1,2 + [(I 4)].length≤Z199.length,Z90[0]? = some Z89,Z89[0]? = some (AV.sl 1004 0 Z201.length),Qa2 Z201=true,Z90.set 0 (Z89.set 0 (AV.own 70 6 Z201))=Z202,Z202=[Z203],Qa2 [Z203]=true,Qa6 [Z203]=true,Z204=Z204,Qa3 Z204=true]) (Qa7 AP17 ⟨c59,(rd0 hx60),(rdL o70 hx60),(rdM o70 hx60),(Qn5 o70),rfl,leB,rfl,(pkS lnq),(Qab t70),rfl,rfl,(Qai t44 Z205),(Qlt n44 Z205),rfl,rfl,trivial⟩))
            ·obtain rfl:=sj h
             exact gR hP hn (H16++[hF 103,hh 106 (.pack 0 1004 0 0 Z89 Z110)]) [] .raw (P17++[(decide (r58 ≥ 0))=false,Z90[0]? = some Z89,Z89[0]? = some Z88,Qa2 Z36=true,Z90.set 0 (Z89.set 0 Z95)=Z110,Z110=[Z111],Qa2 [Z111]=true,Qa6 [Z111]=true,Z204=Z204,Qa3 Z204=true]) (Qa7 AP17 ⟨c61,rfl,rfl,(Qab t70),rfl,rfl,(Qai t44 Z112),(Qlt n44 Z112),rfl,rfl,trivial⟩)
           ·obtain ⟨x63,hx63,h⟩:=bnS h
            obtain ⟨x64,hx64,h⟩:=bnS h
            obtain ⟨r65,hr65,h⟩:=bnS h
            obtain ⟨l66,hl66,h⟩:=bnS h
            obtain rfl:=sj h
            exact (let Z209:=l66.map Qae;let Z210:=AV.sl 1027 0 Z209.length;let Z211:=[Z12,Z39,Z13,Z14,Z15,Z210];let Z212:=Z36.set p2.toNat Z211;let Z213:=Z35.set p2.toNat (Qa0.mk x5.Routine Z34 x5.State x5.Cond x5.Lock l66);let Z214:=Z213.map o70;let Z215:=[[(AV.own 70 6 Z214),Z4,Z6,Z7]];let Z216:=(([r65].map Qae).drop 0).take ([r65].map Qae).length;let Z217:=o44 (Qa1.mk Z213 p1.Cells p1.Owner p1.Fault);let Z218:=Qa1.mk Z213 p1.Cells p1.Owner p1.Fault;gR hP hn (H12++[hF 76,hF 79,hF 82,hF 85,hh 86 (.unpack 1004 1025 p2.toNat 5 Z41 132 1 Z25 Z208),hh 90 (.row Z207),hh 95 (.row [(FK x63)]),hh 98 (.row [(FK x64)]),hh 99 (.callV [] (FK r65)),hW 100 1026,hh 101 (.app 1027 Z209),hh 107 (.row Z207),hh 110 (.sto Z207 Z212),hh 113 (.pack 1004 1027 p2.toNat 5 Z211 Z214),hh 113 (.pack 0 1004 0 0 Z8 Z215)]) [] .raw (P15++[(p3.Code == 17)=false,Z36[p2.toNat]? = some Z41,Z41[5]? = some Z31,0<1,Z36.set p2.toNat (Z41.set 5 Z206)=Z208,Z208[p2.toNat]? = some Z207,(0:Int)≤0,0<Z99,Z21[(Int.toNat 0)]? = some [(FK x63)],(0:Int)≤1,1<Z99,Z21[(Int.toNat 1)]? = some [(FK x64)],Qa4 Tryz.prog 210 [(I p3.Code),(FK x63),(FK x64)] (FK r65),Qa3 (FK r65)=true,Z25.take Z25.length++Z216=Z209,Z216.all (fun r=>r.all AV.plain)=true,Z209.length * 8≤140737488355328,Z209.length≤140737488355328,Z53=Z53,Z53=Z53,Z53=Z53,Z53=Z53,Z54=Z54,Z206=Z206,Z208[p2.toNat]? = some Z207,Z208[p2.toNat]? = some Z207,Z208.set p2.toNat (wr Z207 5 [Z210])=Z212,[Z210].length=1,5 + [Z210].length≤Z207.length,Z212[p2.toNat]? = some Z211,Z211[5]? = some Z210,Qa2 Z209=true,Z212.set p2.toNat (Z211.set 5 (AV.own 132 1 Z209))=Z214,[Z8][0]? = some Z8,Z8[0]? = some (AV.sl 1004 0 Z214.length),Qa2 Z214=true,[Z8].set 0 (Z8.set 0 (AV.own 70 6 Z214))=Z215,Z215=[Z217],Qa2 [Z217]=true,Qa6 [Z217]=true,Z56=Z56,Qa3 Z56=true]) (Qa7 AP15 ⟨c62,(rdM o70 (rdS (y:=Z57) (rdS (y:=Z40) hx5))),rfl,(by decide),rfl,(Qcc (rdM o70 (rdS (y:=Z57) (rdS (y:=Z40) hx5)))),(rd0 hx63),(rdL Qae hx63),(rdM Qae hx63),(rd0 hx64),(rdL Qae hx64),(rdM Qae hx64),(Qrv hr65),rfl,(Qix Qae hl66),(plD Qkp),(Qn2 Qae hl66 (by decide)),(Qn1 Qae hl66),rfl,rfl,rfl,rfl,rfl,rfl,(Qcc (rdM o70 (rdS (y:=Z57) (rdS (y:=Z40) hx5)))),(Qcc (rdM o70 (rdS (y:=Z57) (rdS (y:=Z40) hx5)))),(Qfh rfl),rfl,leB,(Qcc (rdM o70 (rdS (y:=Z57) (rdS (y:=Z40) hx5)))),rfl,(Qab Qbs),(Qfz o70 (y:=(Qa0.mk x5.Routine (w64 Z33) x5.State x5.Cond x5.Lock l66)) rfl),rfl,(pkS lnq),(Qab t70),rfl,rfl,(Qai t44 Z218),(Qlt n44 Z218),rfl,rfl,trivial⟩))
noncomputable def Xmb:Code:=match Tryz.f166.body with | some c=>c | none=>.skip
theorem Qnf {p1:Qa1} {p2:Int} {p3:GOp} {p4:Qaa} {V0 V1 V2:Value} {r:(Qaa×Qa1)} (h:Qaw p1 p2 p3 p4=some r) : Qo1 Tryz.prog 166 [⟨46,7,[([(AV.lit V0),(AV.lit V1),(AV.lit V2)]++(o44 p1))]⟩] [(AV.ptr 0 0 3),(I p2),(AV.agg ((Qbj p3))),(AV.agg ((o60 p4)))] [true] [⟨46,7,[([(AV.lit V0),(AV.lit V1),(AV.lit V2)]++(o44 r.2))]⟩] (AV.agg (o60 r.1)):=by
 refine Qlv Xbu Tryz.func166 rfl (c:=Xmb) (by kernel_rfl) (Nat.le_of_ble_eq_true rfl) rfl (Nat.le_of_ble_eq_true rfl) rfl (fr:=[0]) (frI rfl) ?_
 intro E hP hn hx
 replace hn:E.n=285:=hn
 unfold Qaw at h
 obtain ⟨x5,hx5,h⟩:=bnS h
 obtain ⟨r6,hr6,h⟩:=bnS h
 obtain ⟨l7,hl7,h⟩:=bnS h
 obtain ⟨r8,hr8,h⟩:=bnS h
 obtain ⟨l9,hl9,h⟩:=bnS h
 let Z0:=AV.lit V0;let Z1:=AV.lit V1;let Z2:=AV.lit V2;let Z3:=[Z0,Z1,Z2];let Z4:=Z3++(o44 p1);let Z5:=p1.Threads.map o70;let Z6:=AV.sl 1004 0 Z5.length;let Z7:=p1.Cells.map Qae;let Z8:=AV.own 132 1 Z7;let Z9:=p1.Owner.map o3;let Z10:=AV.own 3 1 Z9;let Z11:=I p1.Fault;let Z12:=[Z0,Z1,Z2,Z6,Z8,Z10,Z11];let Z13:=[Z12];let Z14:=AV.tup [(I r6.1),(I r6.2)];let Z15:=o70 x5;let Z16:=x5.Stack.map Qae;let Z17:=I x5.Routine;let Z18:=I x5.State;let Z19:=I x5.Cond;let Z20:=I x5.Lock;let Z21:=AV.sl 1005 0 Z16.length;let Z22:=[Z17,(I x5.Pc),Z18,Z19,Z20,Z21];let Z23:=Z5.set p2.toNat Z22;let Z24:=(x5.Stack.length:Int);let Z25:=l7.map Qae;let Z26:=r8.map Qae;let Z27:=AV.own 132 1 Z26;let Z28:=[Z17,(I x5.Pc),Z18,Z19,Z20,AV.dead];let Z29:=Z5.set p2.toNat Z28;let Z30:=l9.map Qae;let Z31:=AV.sl 1007 0 Z30.length;let Z32:=[Z17,(I x5.Pc),Z18,Z19,Z20,Z31];let Z33:=Z5.set p2.toNat Z32;let Z34:=p1.Threads.set p2.toNat (Qa0.mk x5.Routine x5.Pc x5.State x5.Cond x5.Lock l9);let Z35:=Z34.map o70;let Z36:=AV.own 132 1 Z30;let Z37:=[Z17,(I x5.Pc),Z18,Z19,Z20,Z36];let Z38:=x5.Pc+1;let Z39:=w64 Z38;let Z40:=Z34.set p2.toNat (Qa0.mk x5.Routine Z39 x5.State x5.Cond x5.Lock l9);let Z41:=Z40.map o70;let Z42:=((Z16.length:Nat) : Int);let Z43:=w64 (Z24 - r6.1);let Z44:=I Z39;let Z45:=Qa0.mk x5.Routine x5.Pc x5.State x5.Cond x5.Lock l9;let Z46:=[Z17,Z44,Z18,Z19,Z20,Z36];let Z47:=AV.sl 1008 0 Z30.length;let Z48:=[Z17,Z44,Z18,Z19,Z20,Z47];let Z49:=Z41.set p2.toNat Z48;let Z57:=(([p3.V].map Qae).drop 0).take ([p3.V].map Qae).length;let Z58:=AV.ptr 1004 p2.toNat 0;let Z59:=AV.ptr 1004 p2.toNat 5;let Z61:=AV.agg ((o60 p4));let Z62:=Qa0.mk x5.Routine (w64 Z38) x5.State x5.Cond x5.Lock l9;let Z64:=AV.sl 1011 0 Z30.length;let Z65:=[Z17,Z44,Z18,Z19,Z20,Z64];let Z66:=Z41.set p2.toNat Z65;let Z67:=AV.sl 1004 0 Z66.length;let Z68:=[Z0,Z1,Z2,Z67,Z8,Z10,Z11];let Z69:=AV.sl 1012 0 Z7.length;let Z70:=[Z0,Z1,Z2,Z67,Z69,Z10,Z11];let Z80:=AV.ptr 1001 0 1;let Z81:=I p3.A;let Z82:=AV.ptr 1002 0 1;let Z83:=I p4.Thread;let Z84:=I p4.Obj;let Z85:=I p4.Lock;let Z86:=I p4.Pc;let Z87:=Qas.mk 60 5 [[Z83,(I 2),Z84,Z85,Z86]];let Z88:=((Z7.length:Nat) : Int);let Z91:=AV.agg [Z83,(I 2),Z81,Z85,Z86];let Z93:=AV.sl 1004 0 Z41.length;let Z94:=[Z0,Z1,Z2,Z93,Z8,Z10,Z11];let Z95:=[Z94];let Z96:=AV.sl 1015 0 Z7.length;let Z97:=[Z0,Z1,Z2,Z93,Z96,Z10,Z11];let Z100:=AV.own 70 6 Z41;let Z101:=[Z0,Z1,Z2,Z100,Z96,Z10,Z11];let Z103:=Qas.mk 60 5 [[Z83,(I 3),Z84,Z85,Z86]];let Z104:=((Z26.length:Nat) : Int);let Z106:=AV.agg [Z83,(I 3),Z81,Z85,Z86];let Z108:=Z34.set p2.toNat (Qa0.mk x5.Routine p3.A x5.State x5.Cond x5.Lock l9);let Z109:=Z108.map o70;let Z110:=[[Z0,Z1,Z2,(AV.own 70 6 Z109),Z8,Z10,Z11]];let Z111:=AV.sl 1004 0 Z109.length;let Z112:=Z12.set 3 (AV.own 70 6 Z109);let Z113:=Z3++(o44 (Qa1.mk Z108 p1.Cells p1.Owner p1.Fault));let Z114:=Qa1.mk Z108 p1.Cells p1.Owner p1.Fault;let Z115:=[[Z0,Z1,Z2,Z100,Z8,Z10,Z11]];let Z116:=Z3++(o44 (Qa1.mk Z40 p1.Cells p1.Owner p1.Fault));let Z117:=Qa1.mk Z40 p1.Cells p1.Owner p1.Fault;let Z118:=AV.sl 1016 0 Z9.length;let Z119:=[Z0,Z1,Z2,Z93,Z8,Z118,Z11];let Z120:=p1.Owner.set p3.A.toNat p2;let Z121:=Z120.map o3;let Z122:=[Z0,Z1,Z2,Z100,Z8,Z118,Z11];let Z123:=[[Z0,Z1,Z2,Z100,Z8,(AV.own 3 1 Z121),Z11]];let Z124:=Qas.mk 60 5 [[Z83,(I 4),Z84,Z85,Z86]];let Z125:=((Z9.length:Nat) : Int);let Z126:=Z3++(o44 (Qa1.mk Z40 p1.Cells Z120 p1.Fault));let Z127:=AV.agg [Z83,(I 4),Z81,Z85,Z86];let Z128:=Qa1.mk Z40 p1.Cells Z120 p1.Fault;let Z129:=AV.sl 1017 0 Z9.length;let Z130:=[Z0,Z1,Z2,Z93,Z8,Z129,Z11];let Z131:=p1.Owner.set p3.A.toNat (-1);let Z132:=Z131.map o3;let Z133:=[Z0,Z1,Z2,Z100,Z8,Z129,Z11];let Z134:=[[Z0,Z1,Z2,Z100,Z8,(AV.own 3 1 Z132),Z11]];let Z135:=Qas.mk 60 5 [[Z83,(I 5),Z84,Z85,Z86]];let Z136:=[(I (-1))];let Z137:=Z3++(o44 (Qa1.mk Z40 p1.Cells Z131 p1.Fault));let Z138:=AV.agg [Z83,(I 5),Z81,Z85,Z86];let Z139:=Qa1.mk Z40 p1.Cells Z131 p1.Fault;let Z140:=(I (Z40.length:Int));let Z141:=AV.sl 1018 0 Z30.length;let Z142:=[Z17,Z44,Z18,Z19,Z20,Z141];let Z143:=Z41.set p2.toNat Z142;let Z144:=[[Z0,Z1,Z2,(AV.sl 1004 0 Z143.length),Z8,Z10,Z11]];let Z145:=(fOf (Z40.length:Int));let Z162:=AV.ptr 0 0 3;let Z163:=((Z41.length:Nat) : Int);let Z164:=Qas.mk 60 5 [[Z83,(I 6),Z84,Z85,Z86]];let Z165:=(([Z145].map Qae).drop 0).take ([Z145].map Qae).length;let Z167:=AV.agg [Z83,(I 6),Z140,Z85,Z86];let Z171:=p3.Code == 15;let Z172:=AV.sl 1006 0 Z26.length;let Z173:=AV.ptr 1006 (Int.toNat 0) 0;let Z174:=AV.ptr 1002 0 2;let Z178:=AV.sl 1024 0 Z9.length;let Z179:=[Z0,Z1,Z2,Z93,Z8,Z178,Z11];let Z180:=p1.Owner.set p3.B.toNat (-1);let Z181:=Z180.map o3;let Z182:=w64 (Z39 - 1);let Z183:=(Z34.set p2.toNat (Qa0.mk x5.Routine Z182 x5.State x5.Cond x5.Lock l9)).map o70;let Z184:=[Z17,(I Z182),Z18,Z19,Z20,Z36];let Z185:=(Z34.set p2.toNat (Qa0.mk x5.Routine Z182 3 x5.Cond x5.Lock l9)).map o70;let Z186:=[Z17,(I Z182),(I 3),Z19,Z20,Z36];let Z187:=(Z34.set p2.toNat (Qa0.mk x5.Routine Z182 3 p3.A x5.Lock l9)).map o70;let Z188:=[Z17,(I Z182),(I 3),Z81,Z20,Z36];let Z189:=Z34.set p2.toNat (Qa0.mk x5.Routine Z182 3 p3.A p3.B l9);let Z190:=Z189.map o70;let Z191:=AV.own 70 6 Z190;let Z192:=[Z0,Z1,Z2,Z191,Z8,Z178,Z11];let Z193:=[[Z0,Z1,Z2,Z191,Z8,(AV.own 3 1 Z181),Z11]];let Z194:=AV.ptr 1001 0 2;let Z195:=I p3.B;let Z196:=Qas.mk 60 5 [[Z83,(I 8),Z84,Z85,Z86]];let Z197:=Qas.mk 60 5 [[Z83,(I 8),Z81,Z85,Z86]];let Z198:=AV.ptr 1004 p2.toNat 2;let Z199:=AV.ptr 1004 p2.toNat 3;let Z200:=Z3++(o44 (Qa1.mk Z189 p1.Cells Z180 p1.Fault));let Z201:=AV.agg [Z83,(I 8),Z81,Z195,Z86];let Z202:=Qa1.mk Z189 p1.Cells Z180 p1.Fault;let Z203:=Z40.map r70;let Z204:=Qas.mk 60 5 [[Z83,(I 10),Z84,Z85,Z86]];let Z212:=AV.sl 1025 0 Z30.length;let Z213:=[Z17,Z44,Z18,Z19,Z20,Z212];let Z214:=Z41.set p2.toNat Z213
 let H1:List Hn:=[hW 0 1001,hW 1 1002,hW 2 1003,hh 6 (.unpack 0 1004 0 3 Z4 70 6 Z5 Z13),hh 11 (.callV [[]] Z14),hh 20 (.unpack 1004 1005 p2.toNat 5 Z15 132 1 Z16 Z23),hh 20 (.row Z22),hO 21 (I Z24),hh 28 (.row Z22),hh 31 (.call [Z25] Z27 [1006]),hh 37 (.row Z22),hh 39 (.fgt 1004 p2.toNat 5 Z22 Z29),hh 39 (.shr 1007 Z30),hh 42 (.sto Z28 Z33),hh 46 (.row Z32),hh 50 (.pack 1004 1007 p2.toNat 5 Z32 Z35),hh 50 (.sto Z37 Z41)]
 let P2:List Prop:=[[Z4][0]? = some Z4,Z4[3]? = some (AV.own 70 6 Z5),0<6,[Z4].set 0 (Z4.set 3 Z6)=Z13,(0:Int)≤p2,p2<((Z5.length:Nat) : Int),Qa4 Tryz.prog 206 [(AV.agg ((Qbj p3)))] Z14,Qa3 Z14=true,Z5[p2.toNat]? = some Z15,Z15[5]? = some (AV.own 132 1 Z16),0<1,Z5.set p2.toNat (Z15.set 5 Z21)=Z23,Z23[p2.toNat]? = some Z22,AV.lit (.int .i64 Z42)=(I Z24),Z23[p2.toNat]? = some Z22,(0:Int)≤Z43,Z43≤Z42,Z42≤Z42,Qa4 Tryz.prog 161 [(AV.ro 1 Z25)] Z27,Qc2 Z27=true,Frz ((Z16.drop Z43.toNat).take (Xe9 Z42.toNat Z43.toNat)) Z25,Z23[p2.toNat]? = some Z22,Z23[p2.toNat]? = some Z22,Z23.set p2.toNat (Z22.set 5 .dead)=Z29,(0:Int)≤Z43,Z43≤Z42,Z16.take Z43.toNat=Z30,Z16.length=Z16.length,Z29[p2.toNat]? = some Z28,Z29.set p2.toNat (wr Z28 5 [Z31])=Z33,[Z31].length=1,5 + [Z31].length≤Z28.length,Z33[p2.toNat]? = some Z32,Z33[p2.toNat]? = some Z32,Z32[5]? = some Z31,Qa2 Z30=true,Z33.set p2.toNat (Z32.set 5 Z36)=Z35,Z35[p2.toNat]? = some Z37,Z35.set p2.toNat (wr Z37 1 [Z44])=Z41,[Z44].length=1,1 + [Z44].length≤Z37.length]
 have AP2:Qam P2:=⟨rfl,rfl,(by decide),rfl,(rd0 hx5),(rdL o70 hx5),(Qhw hr6),rfl,(rdM o70 hx5),rfl,(by decide),rfl,(Qcc (rdM o70 hx5)),(Qby Qae),(Qcc (rdM o70 hx5)),(sl0 hl7),(sl1e Qae hl7),(Int.le_refl _),(Qcg hr8),(by simp +zetaDelta only [Qc2,Qbm,Qa9 Qe7,Bool.and_self]),(Xnq Qbs Qqn hl7),(Qcc (rdM o70 hx5)),(Qcc (rdM o70 hx5)),(Qfh rfl),(sl1 hl9),(sl2 Qae hl9),(shT Qae hl9),rfl,(Qcc (rdM o70 hx5)),(Qfh rfl),rfl,leB,(Qcc (rdM o70 hx5)),(Qcc (rdM o70 hx5)),rfl,(Qab Qbs),(Qfz o70 (y:=Z45) rfl),(rdM o70 (rdS (y:=Z45) hx5)),(Qn5 o70),rfl,leB,trivial⟩
 rcases itS h with ⟨c10,h⟩ | ⟨c12,h⟩
 ·obtain ⟨l11,hl11,h⟩:=bnS h
  obtain rfl:=sj h
  exact (let Z50:=l11.map Qae;let Z51:=AV.sl 1010 0 Z50.length;let Z52:=[Z17,Z44,Z18,Z19,Z20,Z51];let Z53:=Z41.set p2.toNat Z52;let Z54:=Z40.set p2.toNat (Qa0.mk x5.Routine Z39 x5.State x5.Cond x5.Lock l11);let Z55:=Z54.map o70;let Z56:=[[Z0,Z1,Z2,(AV.own 70 6 Z55),Z8,Z10,Z11]];let Z60:=Z3++(o44 (Qa1.mk Z54 p1.Cells p1.Owner p1.Fault));let Z63:=Qa1.mk Z54 p1.Cells p1.Owner p1.Fault;gR hP hn (H1++[hT 55,hh 56 (.unpack 1004 1008 p2.toNat 5 Z46 132 1 Z30 Z49),hh 60 (.row Z48),hW 63 1009,hh 64 (.app 1010 Z50),hh 70 (.row Z48),hh 73 (.sto Z48 Z53),hh 76 (.pack 1004 1010 p2.toNat 5 Z52 Z55),hh 76 (.pack 0 1004 0 3 Z12 Z56)]) [] .raw (P2++[(p3.Code == 1)=true,Z41[p2.toNat]? = some Z46,Z46[5]? = some Z36,0<1,Z41.set p2.toNat (Z46.set 5 Z47)=Z49,Z49[p2.toNat]? = some Z48,Z30.take Z30.length++Z57=Z50,Z57.all (fun r=>r.all AV.plain)=true,Z50.length * 8≤140737488355328,Z50.length≤140737488355328,Z58=Z58,Z58=Z58,Z58=Z58,Z58=Z58,Z59=Z59,Z47=Z47,Z49[p2.toNat]? = some Z48,Z49[p2.toNat]? = some Z48,Z49.set p2.toNat (wr Z48 5 [Z51])=Z53,[Z51].length=1,5 + [Z51].length≤Z48.length,Z53[p2.toNat]? = some Z52,Z52[5]? = some Z51,Qa2 Z50=true,Z53.set p2.toNat (Z52.set 5 (AV.own 132 1 Z50))=Z55,Z13[0]? = some Z12,Z12[3]? = some (AV.sl 1004 0 Z55.length),Qa2 Z55=true,Z13.set 0 (Z12.set 3 (AV.own 70 6 Z55))=Z56,Z56=[Z60],Qa2 [Z60]=true,Qa6 [Z60]=true,Z61=Z61,Qa3 Z61=true]) (Qa7 AP2 ⟨c10,(rdM o70 (rdS (y:=Z62) (rdS (y:=Z45) hx5))),rfl,(by decide),rfl,(Qcc (rdM o70 (rdS (y:=Z62) (rdS (y:=Z45) hx5)))),(Qix Qae hl11),(plD Qkp),(Qn2 Qae hl11 (by decide)),(Qn1 Qae hl11),rfl,rfl,rfl,rfl,rfl,rfl,(Qcc (rdM o70 (rdS (y:=Z62) (rdS (y:=Z45) hx5)))),(Qcc (rdM o70 (rdS (y:=Z62) (rdS (y:=Z45) hx5)))),(Qfh rfl),rfl,leB,(Qcc (rdM o70 (rdS (y:=Z62) (rdS (y:=Z45) hx5)))),rfl,(Qab Qbs),(Qfz o70 (y:=(Qa0.mk x5.Routine (w64 Z38) x5.State x5.Cond x5.Lock l11)) rfl),rfl,(pkS lnq),(Qab t70),rfl,rfl,(Qhy t44 Z3 rfl Z63),(Qhl n44 Z3 rfl Z63),rfl,rfl,trivial⟩))
 ·let P3:List Prop:=P2++[(p3.Code == 1)=false]
  have AP3:Qam P3:=Qa7 AP2 ⟨c12,trivial⟩
  rcases itS h with ⟨c13,h⟩ | ⟨c16,h⟩
  ·obtain ⟨x14,hx14,h⟩:=bnS h
   obtain ⟨l15,hl15,h⟩:=bnS h
   obtain rfl:=sj h
   exact (let Z71:=l15.map Qae;let Z72:=AV.sl 1014 0 Z71.length;let Z73:=[Z17,Z44,Z18,Z19,Z20,Z72];let Z74:=Z41.set p2.toNat Z73;let Z75:=Z40.set p2.toNat (Qa0.mk x5.Routine Z39 x5.State x5.Cond x5.Lock l15);let Z76:=Z75.map o70;let Z77:=AV.own 70 6 Z76;let Z78:=[Z0,Z1,Z2,Z77,Z69,Z10,Z11];let Z79:=[[Z0,Z1,Z2,Z77,Z8,Z10,Z11]];let Z89:=(([x14].map Qae).drop 0).take ([x14].map Qae).length;let Z90:=Z3++(o44 (Qa1.mk Z75 p1.Cells p1.Owner p1.Fault));let Z92:=Qa1.mk Z75 p1.Cells p1.Owner p1.Fault;gR hP hn (H1++[hF 55,hT 58,hh 65 (.unpack 1004 1011 p2.toNat 5 Z46 132 1 Z30 Z66),hh 65 (.eqr 0 [Z68]),hh 65 (.unpack 0 1012 0 4 Z68 132 1 Z7 [Z70]),hh 69 (.row Z65),hh 77 (.row [(FK x14)]),hW 78 1013,hh 79 (.app 1014 Z71),hh 85 (.row Z65),hh 88 (.sto Z65 Z74),hh 91 (.pack 1004 1014 p2.toNat 5 Z73 Z76),hh 91 (.pack 0 1004 0 3 Z70 [Z78]),hh 91 (.pack 0 1012 0 4 Z78 Z79)]) [] .raw (P3++[(p3.Code == 2)=true,Z80=Z80,Z80=Z80,Z81=Z81,Z81=Z81,Z82=Z82,[(1002,some Z87)]=[(1002,some Z87)],Z41[p2.toNat]? = some Z46,Z46[5]? = some Z36,0<1,Z41.set p2.toNat (Z46.set 5 Z64)=Z66,Z13=[Z68],[Z68][0]? = some Z68,Z68[4]? = some Z8,0<1,[Z68].set 0 (Z68.set 4 Z69)=[Z70],Z66[p2.toNat]? = some Z65,(0:Int)≤p3.A,p3.A<Z88,Z7[p3.A.toNat]? = some [(FK x14)],Z30.take Z30.length++Z89=Z71,Z89.all (fun r=>r.all AV.plain)=true,Z71.length * 8≤140737488355328,Z71.length≤140737488355328,Z58=Z58,Z58=Z58,Z58=Z58,Z58=Z58,Z59=Z59,Z64=Z64,Z66[p2.toNat]? = some Z65,Z66[p2.toNat]? = some Z65,Z66.set p2.toNat (wr Z65 5 [Z72])=Z74,[Z72].length=1,5 + [Z72].length≤Z65.length,Z74[p2.toNat]? = some Z73,Z73[5]? = some Z72,Qa2 Z71=true,Z74.set p2.toNat (Z73.set 5 (AV.own 132 1 Z71))=Z76,[Z70][0]? = some Z70,Z70[3]? = some (AV.sl 1004 0 Z76.length),Qa2 Z76=true,[Z70].set 0 (Z70.set 3 Z77)=[Z78],[Z78][0]? = some Z78,Z78[4]? = some Z69,Qa2 Z7=true,[Z78].set 0 (Z78.set 4 Z8)=Z79,Z79=[Z90],Qa2 [Z90]=true,Qa6 [Z90]=true,Z91=Z91,Qa3 Z91=true]) (Qa7 AP3 ⟨c13,rfl,rfl,rfl,rfl,rfl,rfl,(rdM o70 (rdS (y:=Z62) (rdS (y:=Z45) hx5))),rfl,(by decide),rfl,(congrArg (fun nn=>[[Z0,Z1,Z2,(AV.sl 1004 0 nn),Z8,Z10,(I p1.Fault)]]) (show Z5.length=Z66.length from lnq)),rfl,rfl,(by decide),rfl,(Qcc (rdM o70 (rdS (y:=Z62) (rdS (y:=Z45) hx5)))),(rd0 hx14),(rdL Qae hx14),(rdM Qae hx14),(Qix Qae hl15),(plD Qkp),(Qn2 Qae hl15 (by decide)),(Qn1 Qae hl15),rfl,rfl,rfl,rfl,rfl,rfl,(Qcc (rdM o70 (rdS (y:=Z62) (rdS (y:=Z45) hx5)))),(Qcc (rdM o70 (rdS (y:=Z62) (rdS (y:=Z45) hx5)))),(Qfh rfl),rfl,leB,(Qcc (rdM o70 (rdS (y:=Z62) (rdS (y:=Z45) hx5)))),rfl,(Qab Qbs),(Qfz o70 (y:=(Qa0.mk x5.Routine (w64 Z38) x5.State x5.Cond x5.Lock l15)) rfl),rfl,(pkS lnq),(Qab t70),rfl,rfl,rfl,(Qab Qbs),rfl,rfl,(Qhy t44 Z3 rfl Z92),(Qhl n44 Z3 rfl Z92),rfl,rfl,trivial⟩))
  ·let H4:List Hn:=H1++[hF 55,hF 58]
   let P5:List Prop:=P3++[(p3.Code == 2)=false]
   have AP5:Qam P5:=Qa7 AP3 ⟨c16,trivial⟩
   rcases itS h with ⟨c17,h⟩ | ⟨c20,h⟩
   ·obtain ⟨x18,hx18,h⟩:=bnS h
    obtain ⟨x19,hx19,h⟩:=bnS h
    obtain rfl:=sj h
    exact (let Z98:=p1.Cells.set p3.A.toNat x18;let Z99:=Z98.map Qae;let Z102:=[[Z0,Z1,Z2,Z100,(AV.own 132 1 Z99),Z10,Z11]];let Z105:=Z3++(o44 (Qa1.mk Z40 Z98 p1.Owner p1.Fault));let Z107:=Qa1.mk Z40 Z98 p1.Owner p1.Fault;gR hP hn (H4++[hT 61,hh 68 (.eqr 0 Z95),hh 68 (.unpack 0 1015 0 4 Z94 132 1 Z7 [Z97]),hh 76 (.row [(FK x18)]),hh 78 (.sto [(FK x19)] Z99),hh 81 (.pack 0 1004 0 3 Z97 [Z101]),hh 81 (.pack 0 1015 0 4 Z101 Z102)]) [] .raw (P5++[(p3.Code == 3)=true,Z80=Z80,Z80=Z80,Z81=Z81,Z81=Z81,Z82=Z82,[(1002,some Z103)]=[(1002,some Z103)],Z13=Z95,Z95[0]? = some Z94,Z94[4]? = some Z8,0<1,Z95.set 0 (Z94.set 4 Z96)=[Z97],(0:Int)≤0,0<Z104,Z26[(Int.toNat 0)]? = some [(FK x18)],(0:Int)≤p3.A,p3.A<Z88,Z7[p3.A.toNat]? = some [(FK x19)],Z7.set p3.A.toNat (wr [(FK x19)] 0 [(FK x18)])=Z99,[(FK x18)].length=1,0 + [(FK x18)].length≤[(FK x19)].length,[Z97][0]? = some Z97,Z97[3]? = some Z93,Qa2 Z41=true,[Z97].set 0 (Z97.set 3 Z100)=[Z101],[Z101][0]? = some Z101,Z101[4]? = some (AV.sl 1015 0 Z99.length),Qa2 Z99=true,[Z101].set 0 (Z101.set 4 (AV.own 132 1 Z99))=Z102,Z102=[Z105],Qa2 [Z105]=true,Qa6 [Z105]=true,Z106=Z106,Qa3 Z106=true]) (Qa7 AP5 ⟨c17,rfl,rfl,rfl,rfl,rfl,rfl,(congrArg (fun nn=>[[Z0,Z1,Z2,(AV.sl 1004 0 nn),Z8,Z10,(I p1.Fault)]]) (show Z5.length=Z41.length from lnq)),rfl,rfl,(by decide),rfl,(rd0 hx18),(rdL Qae hx18),(rdM Qae hx18),(rd0 hx19),(rdL Qae hx19),(rdM Qae hx19),(Qw5 Qae),rfl,leB,rfl,rfl,(Qab t70),rfl,rfl,(pkS lnq),(Qab Qbs),rfl,rfl,(Qhy t44 Z3 rfl Z107),(Qhl n44 Z3 rfl Z107),rfl,rfl,trivial⟩))
   ·let P6:List Prop:=P5++[(p3.Code == 3)=false]
    have AP6:Qam P6:=Qa7 AP5 ⟨c20,trivial⟩
    rcases itS h with ⟨c21,h⟩ | ⟨c22,h⟩
    ·obtain rfl:=sj h
     exact gR hP hn (H4++[hF 61,hT 64,hh 70 (.sto Z46 Z109),hh 73 (.pack 0 1004 0 3 Z12 Z110)]) [] .raw (P6++[(p3.Code == 10)=true,Z41[p2.toNat]? = some Z46,Z41.set p2.toNat (wr Z46 1 [Z81])=Z109,[Z81].length=1,1 + [Z81].length≤Z46.length,Z13[0]? = some Z12,Z12[3]? = some Z111,Qa2 Z109=true,Z13.set 0 Z112=Z110,Z110=[Z113],Qa2 [Z113]=true,Qa6 [Z113]=true,Z61=Z61,Qa3 Z61=true]) (Qa7 AP6 ⟨c21,(rdM o70 (rdS (y:=Z62) (rdS (y:=Z45) hx5))),(Qhf o70),rfl,leB,rfl,(pkS lnq),(Qab t70),rfl,rfl,(Qhy t44 Z3 rfl Z114),(Qhl n44 Z3 rfl Z114),rfl,rfl,trivial⟩)
    ·let H7:List Hn:=H4++[hF 61,hF 64]
     let P8:List Prop:=P6++[(p3.Code == 10)=false]
     have AP8:Qam P8:=Qa7 AP6 ⟨c22,trivial⟩
     rcases itS h with ⟨c23,h⟩ | ⟨c36,h⟩
     ·obtain ⟨x24,hx24,h⟩:=bnS h
      obtain ⟨r33,hr33,h⟩:=bnS h
      let P9:List Prop:=P8++[(p3.Code == 11)=true,(0:Int)≤0,0<Z104,Z26[(Int.toNat 0)]? = some [(FK x24)],Qa4 Tryz.prog 207 [(FK x24)] (B r33),Qa3 (B r33)=true]
      have AP9:Qam P9:=Qa7 AP8 ⟨c23,(rd0 hx24),(rdL Qae hx24),(rdM Qae hx24),(Qvg hr33),rfl,trivial⟩
      rcases itS h with ⟨c34,h⟩ | ⟨c35,h⟩
      ·obtain rfl:=sj h
       exact gR hP hn (H7++[hT 67,hh 70 (.row [(FK x24)]),hh 71 (.callV [] (B r33)),hT 72,hh 78 (.sto Z46 Z109),hh 81 (.pack 0 1004 0 3 Z12 Z110)]) [] .raw (P9++[r33=true,Z41[p2.toNat]? = some Z46,Z41.set p2.toNat (wr Z46 1 [Z81])=Z109,[Z81].length=1,1 + [Z81].length≤Z46.length,Z13[0]? = some Z12,Z12[3]? = some Z111,Qa2 Z109=true,Z13.set 0 Z112=Z110,Z110=[Z113],Qa2 [Z113]=true,Qa6 [Z113]=true,Z61=Z61,Qa3 Z61=true]) (Qa7 AP9 ⟨c34,(rdM o70 (rdS (y:=Z62) (rdS (y:=Z45) hx5))),(Qhf o70),rfl,leB,rfl,(pkS lnq),(Qab t70),rfl,rfl,(Qhy t44 Z3 rfl Z114),(Qhl n44 Z3 rfl Z114),rfl,rfl,trivial⟩)
      ·obtain rfl:=sj h
       exact gR hP hn (H7++[hT 67,hh 70 (.row [(FK x24)]),hh 71 (.callV [] (B r33)),hF 72,hh 75 (.pack 0 1004 0 3 Z12 Z115)]) [] .raw (P9++[r33=false,Z13[0]? = some Z12,Z12[3]? = some Z93,Qa2 Z41=true,Z13.set 0 (Z12.set 3 Z100)=Z115,Z115=[Z116],Qa2 [Z116]=true,Qa6 [Z116]=true,Z61=Z61,Qa3 Z61=true]) (Qa7 AP9 ⟨c35,rfl,(pkS lnq),(Qab t70),rfl,rfl,(Qhy t44 Z3 rfl Z117),(Qhl n44 Z3 rfl Z117),rfl,rfl,trivial⟩)
     ·let P10:List Prop:=P8++[(p3.Code == 11)=false]
      have AP10:Qam P10:=Qa7 AP8 ⟨c36,trivial⟩
      rcases itS h with ⟨c37,h⟩ | ⟨c39,h⟩
      ·obtain ⟨x38,hx38,h⟩:=bnS h
       obtain rfl:=sj h
       exact gR hP hn (H7++[hF 67,hT 70,hh 77 (.eqr 0 Z95),hh 77 (.unpack 0 1016 0 5 Z94 3 1 Z9 [Z119]),hh 85 (.sto [(I x38)] Z121),hh 88 (.pack 0 1004 0 3 Z119 [Z122]),hh 88 (.pack 0 1016 0 5 Z122 Z123)]) [] .raw (P10++[(p3.Code == 12)=true,Z80=Z80,Z80=Z80,Z81=Z81,Z81=Z81,Z82=Z82,[(1002,some Z124)]=[(1002,some Z124)],Z13=Z95,Z95[0]? = some Z94,Z94[5]? = some Z10,0<1,Z95.set 0 (Z94.set 5 Z118)=[Z119],(0:Int)≤p3.A,p3.A<Z125,Z9[p3.A.toNat]? = some [(I x38)],Z9.set p3.A.toNat (wr [(I x38)] 0 [(I p2)])=Z121,[(I p2)].length=1,0 + [(I p2)].length≤[(I x38)].length,[Z119][0]? = some Z119,Z119[3]? = some Z93,Qa2 Z41=true,[Z119].set 0 (Z119.set 3 Z100)=[Z122],[Z122][0]? = some Z122,Z122[5]? = some (AV.sl 1016 0 Z121.length),Qa2 Z121=true,[Z122].set 0 (Z122.set 5 (AV.own 3 1 Z121))=Z123,Z123=[Z126],Qa2 [Z126]=true,Qa6 [Z126]=true,Z127=Z127,Qa3 Z127=true]) (Qa7 AP10 ⟨c37,rfl,rfl,rfl,rfl,rfl,rfl,(congrArg (fun nn=>[[Z0,Z1,Z2,(AV.sl 1004 0 nn),Z8,Z10,(I p1.Fault)]]) (show Z5.length=Z41.length from lnq)),rfl,rfl,(by decide),rfl,(rd0 hx38),(rdL o3 hx38),(rdM o3 hx38),(Qw5 o3),rfl,leB,rfl,rfl,(Qab t70),rfl,rfl,(pkS lnq),(Qab t3),rfl,rfl,(Qhy t44 Z3 rfl Z128),(Qhl n44 Z3 rfl Z128),rfl,rfl,trivial⟩)
      ·let P11:List Prop:=P10++[(p3.Code == 12)=false]
       have AP11:Qam P11:=Qa7 AP10 ⟨c39,trivial⟩
       rcases itS h with ⟨c40,h⟩ | ⟨c42,h⟩
       ·obtain ⟨x41,hx41,h⟩:=bnS h
        obtain rfl:=sj h
        exact gR hP hn (H7++[hF 67,hF 70,hT 73,hh 80 (.eqr 0 Z95),hh 80 (.unpack 0 1017 0 5 Z94 3 1 Z9 [Z130]),hh 87 (.sto [(I x41)] Z132),hh 90 (.pack 0 1004 0 3 Z130 [Z133]),hh 90 (.pack 0 1017 0 5 Z133 Z134)]) [] .raw (P11++[(p3.Code == 13)=true,Z80=Z80,Z80=Z80,Z81=Z81,Z81=Z81,Z82=Z82,[(1002,some Z135)]=[(1002,some Z135)],Z13=Z95,Z95[0]? = some Z94,Z94[5]? = some Z10,0<1,Z95.set 0 (Z94.set 5 Z129)=[Z130],(0:Int)≤p3.A,p3.A<Z125,Z9[p3.A.toNat]? = some [(I x41)],Z9.set p3.A.toNat (wr [(I x41)] 0 Z136)=Z132,Z136.length=1,0+Z136.length≤[(I x41)].length,[Z130][0]? = some Z130,Z130[3]? = some Z93,Qa2 Z41=true,[Z130].set 0 (Z130.set 3 Z100)=[Z133],[Z133][0]? = some Z133,Z133[5]? = some (AV.sl 1017 0 Z132.length),Qa2 Z132=true,[Z133].set 0 (Z133.set 5 (AV.own 3 1 Z132))=Z134,Z134=[Z137],Qa2 [Z137]=true,Qa6 [Z137]=true,Z138=Z138,Qa3 Z138=true]) (Qa7 AP11 ⟨c40,rfl,rfl,rfl,rfl,rfl,rfl,(congrArg (fun nn=>[[Z0,Z1,Z2,(AV.sl 1004 0 nn),Z8,Z10,(I p1.Fault)]]) (show Z5.length=Z41.length from lnq)),rfl,rfl,(by decide),rfl,(rd0 hx41),(rdL o3 hx41),(rdM o3 hx41),(Qw5 o3),rfl,leB,rfl,rfl,(Qab t70),rfl,rfl,(pkS lnq),(Qab t3),rfl,rfl,(Qhy t44 Z3 rfl Z139),(Qhl n44 Z3 rfl Z139),rfl,rfl,trivial⟩)
       ·let H12:List Hn:=H7++[hF 67,hF 70,hF 73]
        let P13:List Prop:=P11++[(p3.Code == 13)=false]
        have AP13:Qam P13:=Qa7 AP11 ⟨c42,trivial⟩
        rcases itS h with ⟨c43,h⟩ | ⟨c49,h⟩
        ·obtain ⟨l44,hl44,h⟩:=bnS h
         obtain ⟨r47,hr47,h⟩:=bnS h
         obtain ⟨l48,hl48,h⟩:=bnS h
         obtain rfl:=sj h
         exact (let Z146:=l44.map Qae;let Z147:=AV.sl 1020 0 Z146.length;let Z148:=[Z17,Z44,Z18,Z19,Z20,Z147];let Z149:=Z41.set p2.toNat Z148;let Z150:=AV.sl 1004 0 Z149.length;let Z151:=[[Z0,Z1,Z2,Z150,Z8,Z10,Z11]];let Z152:=Z40.set p2.toNat (Qa0.mk x5.Routine Z39 x5.State x5.Cond x5.Lock l44);let Z153:=Z152.map o70;let Z154:=AV.agg (o70 r47);let Z155:=r47.Stack.map Qae;let Z156:=AV.sl 1021 0 Z155.length;let Z157:=[(I r47.Routine),(I r47.Pc),(I r47.State),(I r47.Cond),(I r47.Lock),Z156];let Z158:=Z153++[Z157];let Z159:=l48.map o70;let Z160:=[Z0,Z1,Z2,(AV.sl 1023 0 Z158.length),Z8,Z10,Z11];let Z161:=[[Z0,Z1,Z2,(AV.own 70 6 Z159),Z8,Z10,Z11]];let Z166:=Z3++(o44 (Qa1.mk l48 p1.Cells p1.Owner p1.Fault));let Z168:=Qa1.mk l48 p1.Cells p1.Owner p1.Fault;gR hP hn (H12++[hT 76,hh 77 (.eqr 0 Z95),hO 81 Z140,hh 86 (.unpack 1004 1018 p2.toNat 5 Z46 132 1 Z30 Z143),hh 86 (.eqr 0 Z144),hh 90 (.row Z142),hO 95 Z140,hh 96 (.cnv (FK Z145)),hW 97 1019,hh 98 (.app 1020 Z146),hh 104 (.row Z142),hh 107 (.sto Z142 Z149),hh 108 (.eqr 0 Z151),hh 108 (.pack 1004 1020 p2.toNat 5 Z148 Z153),hh 115 (.call [] Z154 [1021]),hW 116 1022,hh 117 (.app 1023 Z158),hh 129 (.pack 1023 1021 Z152.length 5 Z157 Z159),hh 134 (.pack 0 1023 0 3 Z160 Z161)]) [] .raw (P13++[(p3.Code == 14)=true,Z13=Z95,Z162=Z162,Z162=Z162,Z162=Z162,Z162=Z162,Z162=Z162,Z162=Z162,Z93=Z93,Z93=Z93,Z140=Z140,AV.lit (.int .i64 Z163)=Z140,Z140=Z140,AV.lit (.int .i64 Z163)=Z140,Z82=Z82,[(1002,some Z164)]=[(1002,some Z164)],Z41[p2.toNat]? = some Z46,Z46[5]? = some Z36,0<1,Z41.set p2.toNat (Z46.set 5 Z141)=Z143,Z95=Z144,Z143[p2.toNat]? = some Z142,AV.lit (.int .i64 ((Z143.length:Nat) : Int))=Z140,Qyz Tryz.prog 3 132 Z140 (FK Z145),Z30.take Z30.length++Z165=Z146,Z165.all (fun r=>r.all AV.plain)=true,Z146.length * 8≤140737488355328,Z146.length≤140737488355328,Z58=Z58,Z58=Z58,Z58=Z58,Z58=Z58,Z59=Z59,Z141=Z141,Z143[p2.toNat]? = some Z142,Z143[p2.toNat]? = some Z142,Z143.set p2.toNat (wr Z142 5 [Z147])=Z149,[Z147].length=1,5 + [Z147].length≤Z142.length,Z144=Z151,Z149[p2.toNat]? = some Z148,Z148[5]? = some Z147,Qa2 Z146=true,Z149.set p2.toNat (Z148.set 5 (AV.own 132 1 Z146))=Z153,Qa4 Tryz.prog 178 [Z81] Z154,Qc2 Z154=true,Z153.take Z149.length++[Z157]=Z158,[Z157].all (fun r=>r.all AV.plain)=true,Z158.length * 64≤140737488355328,Z158.length≤140737488355328,Z162=Z162,Z162=Z162,Z162=Z162,Z162=Z162,Z162=Z162,Z162=Z162,Z162=Z162,Z162=Z162,Z162=Z162,Z150=Z150,Z150=Z150,Z158[Z152.length]? = some Z157,Z157[5]? = some Z156,Qa2 Z155=true,Z158.set Z152.length (Z157.set 5 (AV.own 132 1 Z155))=Z159,[Z160][0]? = some Z160,Z160[3]? = some (AV.sl 1023 0 Z159.length),Qa2 Z159=true,[Z160].set 0 (Z160.set 3 (AV.own 70 6 Z159))=Z161,Z161=[Z166],Qa2 [Z166]=true,Qa6 [Z166]=true,Z167=Z167,Qa3 Z167=true]) (Qa7 AP13 ⟨c43,(congrArg (fun nn=>[[Z0,Z1,Z2,(AV.sl 1004 0 nn),Z8,Z10,(I p1.Fault)]]) (show Z5.length=Z41.length from lnq)),rfl,rfl,rfl,rfl,rfl,rfl,rfl,rfl,rfl,(Qby o70),rfl,(Qby o70),rfl,rfl,(rdM o70 (rdS (y:=Z62) (rdS (y:=Z45) hx5))),rfl,(by decide),rfl,(congrArg (fun nn=>[[Z0,Z1,Z2,(AV.sl 1004 0 nn),Z8,Z10,(I p1.Fault)]]) (show Z41.length=Z143.length from lnq)),(Qcc (rdM o70 (rdS (y:=Z62) (rdS (y:=Z45) hx5)))),(by simp +zetaDelta only [List.length_set,List.length_map]),(cIF (P:=Tryz.prog) ty3 Qqo),(Qix Qae hl44),(plD Qkp),(Qn2 Qae hl44 (by decide)),(Qn1 Qae hl44),rfl,rfl,rfl,rfl,rfl,rfl,(Qcc (rdM o70 (rdS (y:=Z62) (rdS (y:=Z45) hx5)))),(Qcc (rdM o70 (rdS (y:=Z62) (rdS (y:=Z45) hx5)))),(Qfh rfl),rfl,leB,(congrArg (fun nn=>[[Z0,Z1,Z2,(AV.sl 1004 0 nn),Z8,Z10,(I p1.Fault)]]) (show Z143.length=Z149.length from lnq)),(Qcc (rdM o70 (rdS (y:=Z62) (rdS (y:=Z45) hx5)))),rfl,(Qab Qbs),(Qfz o70 (y:=(Qa0.mk x5.Routine (w64 Z38) x5.State x5.Cond x5.Lock l44)) rfl),(Qc7 hr47),(by simp +zetaDelta only [Qc2,Qbm,Qa9 Qe7,o70,Bool.and_self]),(adT lnq),rfl,(apB o70 hl48 (by decide)),(apC o70 hl48),rfl,rfl,rfl,rfl,rfl,rfl,rfl,rfl,rfl,rfl,rfl,(apG o70),rfl,(Qab Qbs),(apS o70 hl48),rfl,(pkS lnq),(Qab t70),rfl,rfl,(Qhy t44 Z3 rfl Z168),(Qhl n44 Z3 rfl Z168),rfl,rfl,trivial⟩))
        ·let P14:List Prop:=P13++[(p3.Code == 14)=false]
         have AP14:Qam P14:=Qa7 AP13 ⟨c49,trivial⟩
         rcases itS h with ⟨c50,h⟩ | ⟨c53,h⟩
         ·obtain ⟨x51,hx51,h⟩:=bnS h
          obtain ⟨r52,hr52,h⟩:=bnS h
          obtain rfl:=sj h
          exact (let Z169:=B r52.2;let Z170:=AV.tup [(I r52.1),Z169];let Z175:=[Z83,(I 7),(I r52.1),Z85,Z86];let Z176:=Qas.mk 60 5 [Z175];let Z177:=AV.agg Z175;gR hP hn (H12++[hF 76,hT 79,hh 82 (.eqr 0 Z95),hh 84 (.row [(FK x51)]),hO 89 Z140,hh 90 (.callV [] Z170),hh 98 (.pack 0 1004 0 3 Z94 Z115)]) [] .raw (P14++[Z171=true,Z13=Z95,Z172=Z172,Z173=Z173,(0:Int)≤0,0<Z104,(FK x51)=(FK x51),Z26[(Int.toNat 0)]? = some [(FK x51)],Z162=Z162,Z162=Z162,Z162=Z162,Z93=Z93,Z140=Z140,AV.lit (.int .i64 Z163)=Z140,Z170=Z170,Qa4 Tryz.prog 208 [(FK x51),Z140] Z170,Qa3 Z170=true,Z170=Z170,(I r52.1)=(I r52.1),Z169=Z169,Z169=Z169,Z174=Z174,[(1002,some Z176)]=[(1002,some Z176)],Z95[0]? = some Z94,Z94[3]? = some Z93,Qa2 Z41=true,Z95.set 0 (Z94.set 3 Z100)=Z115,Z115=[Z116],Qa2 [Z116]=true,Qa6 [Z116]=true,Z177=Z177,Qa3 Z177=true]) (Qa7 AP14 ⟨c50,(congrArg (fun nn=>[[Z0,Z1,Z2,(AV.sl 1004 0 nn),Z8,Z10,(I p1.Fault)]]) (show Z5.length=Z41.length from lnq)),rfl,rfl,(rd0 hx51),(rdL Qae hx51),rfl,(rdM Qae hx51),rfl,rfl,rfl,rfl,rfl,(Qby o70),rfl,(Qj0 hr52),rfl,rfl,rfl,rfl,rfl,rfl,rfl,rfl,rfl,(Qab t70),rfl,rfl,(Qhy t44 Z3 rfl Z117),(Qhl n44 Z3 rfl Z117),rfl,rfl,trivial⟩))
         ·rcases itS h with ⟨c54,h⟩ | ⟨c56,h⟩
          ·obtain ⟨x55,hx55,h⟩:=bnS h
           obtain rfl:=sj h
           exact gR hP hn (H12++[hF 76,hF 79,hT 82,hh 93 (.eqr 0 Z95),hh 93 (.unpack 0 1024 0 5 Z94 3 1 Z9 [Z179]),hh 100 (.sto [(I x55)] Z181),hh 104 (.row Z46),hh 108 (.sto Z46 Z183),hh 118 (.sto Z184 Z185),hh 121 (.sto Z186 Z187),hh 124 (.sto Z188 Z190),hh 127 (.pack 0 1004 0 3 Z179 [Z192]),hh 127 (.pack 0 1024 0 5 Z192 Z193)]) [] .raw (P14++[Z171=false,(p3.Code == 16)=true,Z80=Z80,Z80=Z80,Z81=Z81,Z81=Z81,Z194=Z194,Z194=Z194,Z194=Z194,Z195=Z195,Z195=Z195,Z195=Z195,Z82=Z82,[(1002,some Z196)]=[(1002,some Z196)],Z174=Z174,[(1002,some Z197)]=[(1002,some Z197)],Z13=Z95,Z95[0]? = some Z94,Z94[5]? = some Z10,0<1,Z95.set 0 (Z94.set 5 Z178)=[Z179],(0:Int)≤p3.B,p3.B<Z125,Z9[p3.B.toNat]? = some [(I x55)],Z9.set p3.B.toNat (wr [(I x55)] 0 Z136)=Z181,Z136.length=1,0+Z136.length≤[(I x55)].length,Z41[p2.toNat]? = some Z46,Z41[p2.toNat]? = some Z46,Z41.set p2.toNat (wr Z46 1 [(I Z182)])=Z183,[(I Z182)].length=1,1 + [(I Z182)].length≤Z46.length,Z58=Z58,Z58=Z58,Z58=Z58,Z58=Z58,Z58=Z58,Z58=Z58,Z80=Z80,Z80=Z80,Z81=Z81,Z81=Z81,Z194=Z194,Z194=Z194,Z194=Z194,Z195=Z195,Z195=Z195,Z195=Z195,Z58=Z58,Z198=Z198,[(1004,some (Qas.mk 70 6 Z185))]=[(1004,some (Qas.mk 70 6 Z185))],Z183[p2.toNat]? = some Z184,Z183.set p2.toNat (wr Z184 2 [(I 3)])=Z185,[(I 3)].length=1,2 + [(I 3)].length≤Z184.length,Z58=Z58,Z199=Z199,[(1004,some (Qas.mk 70 6 Z187))]=[(1004,some (Qas.mk 70 6 Z187))],Z185[p2.toNat]? = some Z186,Z185.set p2.toNat (wr Z186 3 [Z81])=Z187,[Z81].length=1,3 + [Z81].length≤Z186.length,Z187[p2.toNat]? = some Z188,Z187.set p2.toNat (wr Z188 4 [Z195])=Z190,[Z195].length=1,4 + [Z195].length≤Z188.length,[Z179][0]? = some Z179,Z179[3]? = some (AV.sl 1004 0 Z190.length),Qa2 Z190=true,[Z179].set 0 (Z179.set 3 Z191)=[Z192],[Z192][0]? = some Z192,Z192[5]? = some (AV.sl 1024 0 Z181.length),Qa2 Z181=true,[Z192].set 0 (Z192.set 5 (AV.own 3 1 Z181))=Z193,Z193=[Z200],Qa2 [Z200]=true,Qa6 [Z200]=true,Z201=Z201,Qa3 Z201=true]) (Qa7 AP14 ⟨c53,c54,rfl,rfl,rfl,rfl,rfl,rfl,rfl,rfl,rfl,rfl,rfl,rfl,rfl,rfl,(congrArg (fun nn=>[[Z0,Z1,Z2,(AV.sl 1004 0 nn),Z8,Z10,(I p1.Fault)]]) (show Z5.length=Z41.length from lnq)),rfl,rfl,(by decide),rfl,(rd0 hx55),(rdL o3 hx55),(rdM o3 hx55),(Qw5 o3),rfl,leB,(rdM o70 (rdS (y:=Z62) (rdS (y:=Z45) hx5))),(rdM o70 (rdS (y:=Z62) (rdS (y:=Z45) hx5))),(Qhf o70),rfl,leB,rfl,rfl,rfl,rfl,rfl,rfl,rfl,rfl,rfl,rfl,rfl,rfl,rfl,rfl,rfl,rfl,rfl,rfl,rfl,(rdM o70 (rdS (y:=(Qa0.mk x5.Routine (w64 ((w64 Z38) - 1)) x5.State x5.Cond x5.Lock l9)) (rdS (y:=Z45) hx5))),(Qhf o70),rfl,leB,rfl,rfl,rfl,(rdM o70 (rdS (y:=(Qa0.mk x5.Routine (w64 ((w64 Z38) - 1)) 3 x5.Cond x5.Lock l9)) (rdS (y:=Z45) hx5))),(Qhf o70),rfl,leB,(rdM o70 (rdS (y:=(Qa0.mk x5.Routine (w64 ((w64 Z38) - 1)) 3 p3.A x5.Lock l9)) (rdS (y:=Z45) hx5))),(Qhf o70),rfl,leB,rfl,(pkS lnq),(Qab t70),rfl,rfl,(pkS lnq),(Qab t3),rfl,rfl,(Qhy t44 Z3 rfl Z202),(Qhl n44 Z3 rfl Z202),rfl,rfl,trivial⟩)
          ·let P15:List Prop:=P14++[Z171=false,(p3.Code == 16)=false]
           have AP15:Qam P15:=Qa7 AP14 ⟨c53,c56,trivial⟩
           rcases itS h with ⟨c57,h⟩ | ⟨c62,h⟩
           ·obtain ⟨r58,hr58,h⟩:=bnS h
            let Z210:=AV.agg [Z83,(I 10),Z81,(I r58),Z86]
            let H16:List Hn:=H12++[hF 76,hF 79,hF 82,hT 85,hh 95 (.eqr 0 Z95),hh 97 (.callV [Z203,[]] (I r58))]
            let P17:List Prop:=P15++[(p3.Code == 17)=true,Z80=Z80,Z80=Z80,Z81=Z81,Z81=Z81,Z82=Z82,[(1002,some Z204)]=[(1002,some Z204)],Z13=Z95,Qa4 Tryz.prog 172 [(AV.ro 6 Z203),(AV.fn 209 [(AV.rop (Qbj p3) 0)])] (I r58),Qa3 (I r58)=true,Frz ((Z41.drop 0).take Z41.length) Z203]
            have AP17:Qam P17:=Qa7 AP15 ⟨c57,rfl,rfl,rfl,rfl,rfl,rfl,(congrArg (fun nn=>[[Z0,Z1,Z2,(AV.sl 1004 0 nn),Z8,Z10,(I p1.Fault)]]) (show Z5.length=Z41.length from lnq)),(Qc9 hr58),rfl,(Qfx t70 z70),trivial⟩
            rcases itS h with ⟨c59,h⟩ | ⟨c61,h⟩
            ·obtain ⟨x60,hx60,h⟩:=bnS h
             obtain rfl:=sj h
             exact (let Z205:=o70 x60;let Z206:=Z40.set r58.toNat (Qa0.mk x60.Routine x60.Pc 4 x60.Cond x60.Lock x60.Stack);let Z207:=Z206.map o70;let Z208:=[[Z0,Z1,Z2,(AV.own 70 6 Z207),Z8,Z10,Z11]];let Z209:=Z3++(o44 (Qa1.mk Z206 p1.Cells p1.Owner p1.Fault));let Z211:=Qa1.mk Z206 p1.Cells p1.Owner p1.Fault;gR hP hn (H16++[hT 103,hh 112 (.sto Z205 Z207),hh 115 (.pack 0 1004 0 3 Z94 Z208)]) [] .raw (P17++[(decide (r58 ≥ 0))=true,(0:Int)≤r58,r58<Z163,Z41[r58.toNat]? = some Z205,Z41.set r58.toNat (wr Z205 2 [(I 4)])=Z207,[(I 4)].length=1,2 + [(I 4)].length≤Z205.length,Z95[0]? = some Z94,Z94[3]? = some (AV.sl 1004 0 Z207.length),Qa2 Z207=true,Z95.set 0 (Z94.set 3 (AV.own 70 6 Z207))=Z208,Z208=[Z209],Qa2 [Z209]=true,Qa6 [Z209]=true,Z210=Z210,Qa3 Z210=true]) (Qa7 AP17 ⟨c59,(rd0 hx60),(rdL o70 hx60),(rdM o70 hx60),(Qn5 o70),rfl,leB,rfl,(pkS lnq),(Qab t70),rfl,rfl,(Qhy t44 Z3 rfl Z211),(Qhl n44 Z3 rfl Z211),rfl,rfl,trivial⟩))
            ·obtain rfl:=sj h
             exact gR hP hn (H16++[hF 103,hh 106 (.pack 0 1004 0 3 Z94 Z115)]) [] .raw (P17++[(decide (r58 ≥ 0))=false,Z95[0]? = some Z94,Z94[3]? = some Z93,Qa2 Z41=true,Z95.set 0 (Z94.set 3 Z100)=Z115,Z115=[Z116],Qa2 [Z116]=true,Qa6 [Z116]=true,Z210=Z210,Qa3 Z210=true]) (Qa7 AP17 ⟨c61,rfl,rfl,(Qab t70),rfl,rfl,(Qhy t44 Z3 rfl Z117),(Qhl n44 Z3 rfl Z117),rfl,rfl,trivial⟩)
           ·obtain ⟨x63,hx63,h⟩:=bnS h
            obtain ⟨x64,hx64,h⟩:=bnS h
            obtain ⟨r65,hr65,h⟩:=bnS h
            obtain ⟨l66,hl66,h⟩:=bnS h
            obtain rfl:=sj h
            exact (let Z215:=l66.map Qae;let Z216:=AV.sl 1027 0 Z215.length;let Z217:=[Z17,Z44,Z18,Z19,Z20,Z216];let Z218:=Z41.set p2.toNat Z217;let Z219:=Z40.set p2.toNat (Qa0.mk x5.Routine Z39 x5.State x5.Cond x5.Lock l66);let Z220:=Z219.map o70;let Z221:=[[Z0,Z1,Z2,(AV.own 70 6 Z220),Z8,Z10,Z11]];let Z222:=(([r65].map Qae).drop 0).take ([r65].map Qae).length;let Z223:=Z3++(o44 (Qa1.mk Z219 p1.Cells p1.Owner p1.Fault));let Z224:=Qa1.mk Z219 p1.Cells p1.Owner p1.Fault;gR hP hn (H12++[hF 76,hF 79,hF 82,hF 85,hh 86 (.unpack 1004 1025 p2.toNat 5 Z46 132 1 Z30 Z214),hh 90 (.row Z213),hh 95 (.row [(FK x63)]),hh 98 (.row [(FK x64)]),hh 99 (.callV [] (FK r65)),hW 100 1026,hh 101 (.app 1027 Z215),hh 107 (.row Z213),hh 110 (.sto Z213 Z218),hh 113 (.pack 1004 1027 p2.toNat 5 Z217 Z220),hh 113 (.pack 0 1004 0 3 Z12 Z221)]) [] .raw (P15++[(p3.Code == 17)=false,Z41[p2.toNat]? = some Z46,Z46[5]? = some Z36,0<1,Z41.set p2.toNat (Z46.set 5 Z212)=Z214,Z214[p2.toNat]? = some Z213,(0:Int)≤0,0<Z104,Z26[(Int.toNat 0)]? = some [(FK x63)],(0:Int)≤1,1<Z104,Z26[(Int.toNat 1)]? = some [(FK x64)],Qa4 Tryz.prog 210 [(I p3.Code),(FK x63),(FK x64)] (FK r65),Qa3 (FK r65)=true,Z30.take Z30.length++Z222=Z215,Z222.all (fun r=>r.all AV.plain)=true,Z215.length * 8≤140737488355328,Z215.length≤140737488355328,Z58=Z58,Z58=Z58,Z58=Z58,Z58=Z58,Z59=Z59,Z212=Z212,Z214[p2.toNat]? = some Z213,Z214[p2.toNat]? = some Z213,Z214.set p2.toNat (wr Z213 5 [Z216])=Z218,[Z216].length=1,5 + [Z216].length≤Z213.length,Z218[p2.toNat]? = some Z217,Z217[5]? = some Z216,Qa2 Z215=true,Z218.set p2.toNat (Z217.set 5 (AV.own 132 1 Z215))=Z220,Z13[0]? = some Z12,Z12[3]? = some (AV.sl 1004 0 Z220.length),Qa2 Z220=true,Z13.set 0 (Z12.set 3 (AV.own 70 6 Z220))=Z221,Z221=[Z223],Qa2 [Z223]=true,Qa6 [Z223]=true,Z61=Z61,Qa3 Z61=true]) (Qa7 AP15 ⟨c62,(rdM o70 (rdS (y:=Z62) (rdS (y:=Z45) hx5))),rfl,(by decide),rfl,(Qcc (rdM o70 (rdS (y:=Z62) (rdS (y:=Z45) hx5)))),(rd0 hx63),(rdL Qae hx63),(rdM Qae hx63),(rd0 hx64),(rdL Qae hx64),(rdM Qae hx64),(Qrv hr65),rfl,(Qix Qae hl66),(plD Qkp),(Qn2 Qae hl66 (by decide)),(Qn1 Qae hl66),rfl,rfl,rfl,rfl,rfl,rfl,(Qcc (rdM o70 (rdS (y:=Z62) (rdS (y:=Z45) hx5)))),(Qcc (rdM o70 (rdS (y:=Z62) (rdS (y:=Z45) hx5)))),(Qfh rfl),rfl,leB,(Qcc (rdM o70 (rdS (y:=Z62) (rdS (y:=Z45) hx5)))),rfl,(Qab Qbs),(Qfz o70 (y:=(Qa0.mk x5.Routine (w64 Z38) x5.State x5.Cond x5.Lock l66)) rfl),rfl,(pkS lnq),(Qab t70),rfl,rfl,(Qhy t44 Z3 rfl Z224),(Qhl n44 Z3 rfl Z224),rfl,rfl,trivial⟩))
noncomputable def Qwr:Code:=match Tryz.f165.body with | some c=>c | none=>.skip
noncomputable def Qc5  (p1:Qa1) (p2:Int) (p3:GOp) (x4:Qa0)  : Option Int:=
 if (p3.Code == 13)=true then
  Option.bind (rd p1.Owner p3.A) fun x11 =>
  if (x11 != p2)=true then
   some 2
  else
   some 0
 else
  if (p3.Code == 16)=true then
   Option.bind (rd p1.Owner p3.B) fun x16 =>
   if (x16 != p2)=true then
    some 2
   else
    some 0
  else
   if (p3.Code == 15)=true then
    Option.bind (Qbq p1 x4) fun r21 =>
    if (!r21.2)=true then
     some 3
    else
     some 0
   else
    if (p3.Code == 14)=true then
     if ((p1.Threads.length:Int) == 5)=true then
      some 4
     else
      some 0
    else
     some 0
theorem Qmn {E:Env} (hP:E.pk=pk0 Tryz.prog) (hn:E.n=83) (hx:FX E []) (p1:Qa1) (p2:Int) (p3:GOp) (x4:Qa0)   (r:Int) (h:Qc5 p1 p2 p3 x4  = some r) : WAt E Qwr (FQ (Qdj Θ Tryz.f165.results.toList [] [] (I r) E)) [true,true,true,false,true,true] ⟨[(0,(AV.rop (r44 p1) 0)),(1,(I p2)),(5,(AV.ptr 1 0 0)),(7,(AV.ptr 2 0 0))],[(1,some ⟨156,4,[((Qbj p3))]⟩),(2,some ⟨70,6,[((r70 x4))]⟩)],[1,2,JJ]⟩:=by
 unfold Qc5 at h
 let Z1:=p3.Code == 15;let Z2:=(p1.Threads.length:Int)
 rcases itS h with ⟨c10,h⟩ | ⟨c14,h⟩
 ·obtain ⟨x11,hx11,h⟩:=bnS h
  let P1:List Prop:=[(p3.Code == 13)=true,(0:Int)≤p3.A,(p1.Owner.map o3)[p3.A.toNat]? = some (o3 x11)]
  have AP1:Qam P1:=⟨c10,(rd0 hx11),(rdM o3 hx11),trivial⟩
  rcases itS h with ⟨c12,h⟩ | ⟨c13,h⟩
  ·obtain rfl:=sj h
   exact gR hP hn [hT 4,hh 11 (.row (o3 x11)),hT 15] [] .raw (P1++[(x11 != p2)=true,(I 2)=(I 2),Qa3 (I 2)=true]) (Qa7 AP1 ⟨c12,rfl,rfl,trivial⟩)
  ·obtain rfl:=sj h
   exact gR hP hn [hT 4,hh 11 (.row (o3 x11)),hF 15] [] .raw (P1++[(x11 != p2)=false,(I 0)=(I 0),Qa3 (I 0)=true]) (Qa7 AP1 ⟨c13,rfl,rfl,trivial⟩)
 ·let P2:List Prop:=[(p3.Code == 13)=false]
  have AP2:Qam P2:=⟨c14,trivial⟩
  rcases itS h with ⟨c15,h⟩ | ⟨c19,h⟩
  ·obtain ⟨x16,hx16,h⟩:=bnS h
   let P3:List Prop:=P2++[(p3.Code == 16)=true,(0:Int)≤p3.B,(p1.Owner.map o3)[p3.B.toNat]? = some (o3 x16)]
   have AP3:Qam P3:=Qa7 AP2 ⟨c15,(rd0 hx16),(rdM o3 hx16),trivial⟩
   rcases itS h with ⟨c17,h⟩ | ⟨c18,h⟩
   ·obtain rfl:=sj h
    exact gR hP hn [hF 4,hT 7,hh 14 (.row (o3 x16)),hT 18] [] .raw (P3++[(x16 != p2)=true,(I 2)=(I 2),Qa3 (I 2)=true]) (Qa7 AP3 ⟨c17,rfl,rfl,trivial⟩)
   ·obtain rfl:=sj h
    exact gR hP hn [hF 4,hT 7,hh 14 (.row (o3 x16)),hF 18] [] .raw (P3++[(x16 != p2)=false,(I 0)=(I 0),Qa3 (I 0)=true]) (Qa7 AP3 ⟨c18,rfl,rfl,trivial⟩)
  ·let P4:List Prop:=P2++[(p3.Code == 16)=false]
   have AP4:Qam P4:=Qa7 AP2 ⟨c19,trivial⟩
   rcases itS h with ⟨c20,h⟩ | ⟨c24,h⟩
   ·obtain ⟨r21,hr21,h⟩:=bnS h
    let Z0:=AV.tup [(I r21.1),(B r21.2)]
    let H5:List Hn:=[hF 4,hF 7,hT 10,hh 13 (.callV [[]] Z0)]
    let P6:List Prop:=P4++[Z1=true,Qa4 Tryz.prog 205 [(AV.rop (r44 p1) 0),(AV.agg ((r70 x4)))] Z0,Qa3 Z0=true]
    have AP6:Qam P6:=Qa7 AP4 ⟨c20,(Qkm hr21),rfl,trivial⟩
    rcases itS h with ⟨c22,h⟩ | ⟨c23,h⟩
    ·obtain rfl:=sj h
     exact gR hP hn (H5++[hT 21]) [] .raw (P6++[(!r21.2)=true,(I 3)=(I 3),Qa3 (I 3)=true]) (Qa7 AP6 ⟨c22,rfl,rfl,trivial⟩)
    ·obtain rfl:=sj h
     exact gR hP hn (H5++[hF 21]) [] .raw (P6++[(!r21.2)=false,(I 0)=(I 0),Qa3 (I 0)=true]) (Qa7 AP6 ⟨c23,rfl,rfl,trivial⟩)
   ·rcases itS h with ⟨c25,h⟩ | ⟨c28,h⟩
    ·let P7:List Prop:=P4++[Z1=false,(p3.Code == 14)=true,AV.lit (.int .i64 (((p1.Threads.map r70).length:Nat) : Int))=(I Z2)]
     have AP7:Qam P7:=Qa7 AP4 ⟨c24,c25,(Qby r70),trivial⟩
     rcases itS h with ⟨c26,h⟩ | ⟨c27,h⟩
     ·obtain rfl:=sj h
      exact gR hP hn [hF 4,hF 7,hF 10,hT 13,hO 18 (I Z2),hT 20] [] .raw (P7++[(Z2 == 5)=true,(I 4)=(I 4),Qa3 (I 4)=true]) (Qa7 AP7 ⟨c26,rfl,rfl,trivial⟩)
     ·obtain rfl:=sj h
      exact gR hP hn [hF 4,hF 7,hF 10,hT 13,hO 18 (I Z2),hF 20] [] .raw (P7++[(Z2 == 5)=false,(I 0)=(I 0),Qa3 (I 0)=true]) (Qa7 AP7 ⟨c27,rfl,rfl,trivial⟩)
    ·obtain rfl:=sj h
     exact gR hP hn [hF 4,hF 7,hF 10,hF 13] [] .raw (P4++[Z1=false,(p3.Code == 14)=false,(I 0)=(I 0),Qa3 (I 0)=true]) (Qa7 AP4 ⟨c24,c28,rfl,rfl,trivial⟩)
noncomputable def Qc0 (p1:Qa1) (p2:Int) (p3:GOp) : Option Int:=
 Option.bind (rd p1.Threads p2) fun x4 =>
 Option.bind (Qgv p3) fun r5 =>
 if (decide ((x4.Stack.length:Int)<r5.1))=true then
  some 1
 else
  if (decide ((w64 ((w64 ((x4.Stack.length:Int) - r5.1))+r5.2)) > 8))=true then
   some 1
  else
   Qc5 p1 p2 p3 x4
theorem Qpt {p1:Qa1} {p2:Int} {p3:GOp} {r:Int} (h:Qc0 p1 p2 p3=some r) : Qa4 Tryz.prog 165 [(AV.rop (r44 p1) 0),(I p2),(AV.agg ((Qbj p3)))] (I r):=by
 refine gM Tryz.func165 83 Qwr fun E hP hn hx=>?_
 unfold Qc0 at h
 obtain ⟨x4,hx4,h⟩:=bnS h
 obtain ⟨r5,hr5,h⟩:=bnS h
 let Z0:=AV.tup [(I r5.1),(I r5.2)];let Z1:=(x4.Stack.length:Int);let Z2:=(((x4.Stack.map Qae).length:Nat) : Int);let Z3:=B (decide (Z1<r5.1));let Z4:=decide ((w64 ((w64 (Z1 - r5.1))+r5.2)) > 8)
 let H1:List Hn:=[hW 0 1001,hh 7 (.row (r70 x4)),hW 9 1002,hh 12 (.callV [[]] Z0),hO 20 (I Z1)]
 let P2:List Prop:=[(0:Int)≤p2,(p1.Threads.map r70)[p2.toNat]? = some (r70 x4),Qa4 Tryz.prog 206 [(AV.agg ((Qbj p3)))] Z0,Qa3 Z0=true,AV.lit (.int .i64 Z2)=(I Z1)]
 have AP2:Qam P2:=⟨(rd0 hx4),(rdM r70 hx4),(Qhw hr5),rfl,(Qby Qae),trivial⟩
 rcases itS h with ⟨c6,h⟩ | ⟨c7,h⟩
 ·obtain rfl:=sj h
  exact gR hP hn (H1++[hO 23 (B true)]) [] .raw (P2++[Z3=(B true),(I 1)=(I 1),Qa3 (I 1)=true]) (Qa7 AP2 ⟨(Qau c6),rfl,rfl,trivial⟩)
 ·let P3:List Prop:=P2++[Z3=(B false),AV.lit (.int .i64 Z2)=(I Z1)]
  have AP3:Qam P3:=Qa7 AP2 ⟨(Qau c7),(Qby Qae),trivial⟩
  rcases itS h with ⟨c8,h⟩ | ⟨c9,h⟩
  ·obtain rfl:=sj h
   exact gR hP hn (H1++[hO 23 (B false),hO 26 (I Z1),hT 33]) [] .raw (P3++[Z4=true,(I 1)=(I 1),Qa3 (I 1)=true]) (Qa7 AP3 ⟨c8,rfl,rfl,trivial⟩)
  ·exact gT hP hn hx (H1++[hO 23 (B false),hO 26 (I Z1),hF 33]) [(1001,1),(1002,2)] [0,1,5,7] [] (P3++[Z4=false,Qa8 [(1001,1),(1002,2)] [((Qbj p3))],Qa8 [(1001,1),(1002,2)] [((r70 x4))]]) (Qa7 AP3 ⟨c9,(rok rfl),(rok (Qai t70 x4)),trivial⟩) (Qmn hP hn hx p1 p2 p3 x4  _ h)
noncomputable def Xed:Code:=match Tryz.f165.body with | some c=>c | none=>.skip
theorem Qjb {E:Env} (hP:E.pk=pk0 Tryz.prog) (hn:E.n=83) (hx:FX E []) {W0 W1 W2:AV} (p1:Qa1) (p2:Int) (p3:GOp) (x4:Qa0)   (r:Int) (h:Qc5 p1 p2 p3 x4  = some r) : WAt E Xed (FQ (Qdj Θ Tryz.f165.results.toList [] [] (I r) E)) [true,true,true,false,true,true] ⟨[(0,(AV.rop ([W0,W1,W2]++(r44 p1)) 3)),(1,(I p2)),(5,(AV.ptr 1 0 0)),(7,(AV.ptr 2 0 0))],[(1,some ⟨156,4,[((Qbj p3))]⟩),(2,some ⟨70,6,[((r70 x4))]⟩)],[1,2,JJ]⟩:=by
 unfold Qc5 at h
 let Z1:=p3.Code == 15;let Z2:=(p1.Threads.length:Int)
 rcases itS h with ⟨c10,h⟩ | ⟨c14,h⟩
 ·obtain ⟨x11,hx11,h⟩:=bnS h
  let P1:List Prop:=[(p3.Code == 13)=true,(0:Int)≤p3.A,(p1.Owner.map o3)[p3.A.toNat]? = some (o3 x11)]
  have AP1:Qam P1:=⟨c10,(rd0 hx11),(rdM o3 hx11),trivial⟩
  rcases itS h with ⟨c12,h⟩ | ⟨c13,h⟩
  ·obtain rfl:=sj h
   exact gR hP hn [hT 4,hh 11 (.row (o3 x11)),hT 15] [] .raw (P1++[(x11 != p2)=true,(I 2)=(I 2),Qa3 (I 2)=true]) (Qa7 AP1 ⟨c12,rfl,rfl,trivial⟩)
  ·obtain rfl:=sj h
   exact gR hP hn [hT 4,hh 11 (.row (o3 x11)),hF 15] [] .raw (P1++[(x11 != p2)=false,(I 0)=(I 0),Qa3 (I 0)=true]) (Qa7 AP1 ⟨c13,rfl,rfl,trivial⟩)
 ·let P2:List Prop:=[(p3.Code == 13)=false]
  have AP2:Qam P2:=⟨c14,trivial⟩
  rcases itS h with ⟨c15,h⟩ | ⟨c19,h⟩
  ·obtain ⟨x16,hx16,h⟩:=bnS h
   let P3:List Prop:=P2++[(p3.Code == 16)=true,(0:Int)≤p3.B,(p1.Owner.map o3)[p3.B.toNat]? = some (o3 x16)]
   have AP3:Qam P3:=Qa7 AP2 ⟨c15,(rd0 hx16),(rdM o3 hx16),trivial⟩
   rcases itS h with ⟨c17,h⟩ | ⟨c18,h⟩
   ·obtain rfl:=sj h
    exact gR hP hn [hF 4,hT 7,hh 14 (.row (o3 x16)),hT 18] [] .raw (P3++[(x16 != p2)=true,(I 2)=(I 2),Qa3 (I 2)=true]) (Qa7 AP3 ⟨c17,rfl,rfl,trivial⟩)
   ·obtain rfl:=sj h
    exact gR hP hn [hF 4,hT 7,hh 14 (.row (o3 x16)),hF 18] [] .raw (P3++[(x16 != p2)=false,(I 0)=(I 0),Qa3 (I 0)=true]) (Qa7 AP3 ⟨c18,rfl,rfl,trivial⟩)
  ·let P4:List Prop:=P2++[(p3.Code == 16)=false]
   have AP4:Qam P4:=Qa7 AP2 ⟨c19,trivial⟩
   rcases itS h with ⟨c20,h⟩ | ⟨c24,h⟩
   ·obtain ⟨r21,hr21,h⟩:=bnS h
    let Z0:=AV.tup [(I r21.1),(B r21.2)]
    let H5:List Hn:=[hF 4,hF 7,hT 10,hh 13 (.callV [[]] Z0)]
    let P6:List Prop:=P4++[Z1=true,Qa4 Tryz.prog 205 [(AV.rop ([W0,W1,W2]++(r44 p1)) 3),(AV.agg ((r70 x4)))] Z0,Qa3 Z0=true]
    have AP6:Qam P6:=Qa7 AP4 ⟨c20,(Qh6 hr21),rfl,trivial⟩
    rcases itS h with ⟨c22,h⟩ | ⟨c23,h⟩
    ·obtain rfl:=sj h
     exact gR hP hn (H5++[hT 21]) [] .raw (P6++[(!r21.2)=true,(I 3)=(I 3),Qa3 (I 3)=true]) (Qa7 AP6 ⟨c22,rfl,rfl,trivial⟩)
    ·obtain rfl:=sj h
     exact gR hP hn (H5++[hF 21]) [] .raw (P6++[(!r21.2)=false,(I 0)=(I 0),Qa3 (I 0)=true]) (Qa7 AP6 ⟨c23,rfl,rfl,trivial⟩)
   ·rcases itS h with ⟨c25,h⟩ | ⟨c28,h⟩
    ·let P7:List Prop:=P4++[Z1=false,(p3.Code == 14)=true,AV.lit (.int .i64 (((p1.Threads.map r70).length:Nat) : Int))=(I Z2)]
     have AP7:Qam P7:=Qa7 AP4 ⟨c24,c25,(Qby r70),trivial⟩
     rcases itS h with ⟨c26,h⟩ | ⟨c27,h⟩
     ·obtain rfl:=sj h
      exact gR hP hn [hF 4,hF 7,hF 10,hT 13,hO 18 (I Z2),hT 20] [] .raw (P7++[(Z2 == 5)=true,(I 4)=(I 4),Qa3 (I 4)=true]) (Qa7 AP7 ⟨c26,rfl,rfl,trivial⟩)
     ·obtain rfl:=sj h
      exact gR hP hn [hF 4,hF 7,hF 10,hT 13,hO 18 (I Z2),hF 20] [] .raw (P7++[(Z2 == 5)=false,(I 0)=(I 0),Qa3 (I 0)=true]) (Qa7 AP7 ⟨c27,rfl,rfl,trivial⟩)
    ·obtain rfl:=sj h
     exact gR hP hn [hF 4,hF 7,hF 10,hF 13] [] .raw (P4++[Z1=false,(p3.Code == 14)=false,(I 0)=(I 0),Qa3 (I 0)=true]) (Qa7 AP4 ⟨c24,c28,rfl,rfl,trivial⟩)
theorem Qkl {p1:Qa1} {p2:Int} {p3:GOp} {W0 W1 W2:AV} {r:Int} (h:Qc0 p1 p2 p3=some r) : Qa4 Tryz.prog 165 [(AV.rop ([W0,W1,W2]++(r44 p1)) 3),(I p2),(AV.agg ((Qbj p3)))] (I r):=by
 refine gM Tryz.func165 83 Xed fun E hP hn hx=>?_
 unfold Qc0 at h
 obtain ⟨x4,hx4,h⟩:=bnS h
 obtain ⟨r5,hr5,h⟩:=bnS h
 let Z0:=AV.tup [(I r5.1),(I r5.2)];let Z1:=(x4.Stack.length:Int);let Z2:=(((x4.Stack.map Qae).length:Nat) : Int);let Z3:=B (decide (Z1<r5.1));let Z4:=decide ((w64 ((w64 (Z1 - r5.1))+r5.2)) > 8)
 let H1:List Hn:=[hW 0 1001,hh 7 (.row (r70 x4)),hW 9 1002,hh 12 (.callV [[]] Z0),hO 20 (I Z1)]
 let P2:List Prop:=[(0:Int)≤p2,(p1.Threads.map r70)[p2.toNat]? = some (r70 x4),Qa4 Tryz.prog 206 [(AV.agg ((Qbj p3)))] Z0,Qa3 Z0=true,AV.lit (.int .i64 Z2)=(I Z1)]
 have AP2:Qam P2:=⟨(rd0 hx4),(rdM r70 hx4),(Qhw hr5),rfl,(Qby Qae),trivial⟩
 rcases itS h with ⟨c6,h⟩ | ⟨c7,h⟩
 ·obtain rfl:=sj h
  exact gR hP hn (H1++[hO 23 (B true)]) [] .raw (P2++[Z3=(B true),(I 1)=(I 1),Qa3 (I 1)=true]) (Qa7 AP2 ⟨(Qau c6),rfl,rfl,trivial⟩)
 ·let P3:List Prop:=P2++[Z3=(B false),AV.lit (.int .i64 Z2)=(I Z1)]
  have AP3:Qam P3:=Qa7 AP2 ⟨(Qau c7),(Qby Qae),trivial⟩
  rcases itS h with ⟨c8,h⟩ | ⟨c9,h⟩
  ·obtain rfl:=sj h
   exact gR hP hn (H1++[hO 23 (B false),hO 26 (I Z1),hT 33]) [] .raw (P3++[Z4=true,(I 1)=(I 1),Qa3 (I 1)=true]) (Qa7 AP3 ⟨c8,rfl,rfl,trivial⟩)
  ·exact gT hP hn hx (H1++[hO 23 (B false),hO 26 (I Z1),hF 33]) [(1001,1),(1002,2)] [0,1,5,7] [] (P3++[Z4=false,Qa8 [(1001,1),(1002,2)] [((Qbj p3))],Qa8 [(1001,1),(1002,2)] [((r70 x4))]]) (Qa7 AP3 ⟨c9,(rok rfl),(rok (Qai t70 x4)),trivial⟩) (Qjb (W0:=W0) (W1:=W1) (W2:=W2) hP hn hx p1 p2 p3 x4  _ h)
end Go.Proofs.YtemmdkcpcjidmaaGreat
