/- Functions as plain data, and that the code comes to them; no condition. -/

import Derived.Test.YtdmmaanagmacjaaGA
set_option linter.unusedVariables false
set_option maxRecDepth 100000
namespace Go.Proofs.Ytdmmaanagmacjaa
open Go Go.T
noncomputable def Quu:Code:=match Try.f181.body with | some c=>c | none=>.skip
noncomputable def Qgl  (p1:Qa9) (p3:GOp) (v16:Bool) : Option Bool:=
 if v16=true then
  some (decide (p3.A<p1.Locks))
 else
  if (p3.Code == 14)=true then
   some (decide (p3.A<(p1.Routines.length:Int)))
  else
   if (p3.Code == 16)=true then
    if (decide (p3.A<p1.Conds))=true then
     some (decide (p3.B<p1.Locks))
    else
     some false
   else
    if (p3.Code == 17)=true then
     some (decide (p3.A<p1.Conds))
    else
     some true
theorem Qmv {E:Env} (hP:E.pk=pk0 Try.prog) (hn:E.n=64) (hx:FX E []) (p1:Qa9) (p3:GOp)  (v16:Bool) (r:Bool) (h:Qgl p1 p3 v16=some r) : WAt E Quu (FQ (Qdu Θ Try.f181.results.toList [] [] (B r) E)) [true,true,false,true,false,true,true,true,true,true] ⟨[(3,(AV.ptr 1 0 0)),(5,(AV.ptr 2 0 0)),(11,(I p3.Code)),(27,(B v16))],[(1,some ⟨136,4,[((Qhi p1))]⟩),(2,some ⟨158,4,[((Qcb p3))]⟩)],[1,2,JJ]⟩:=by
 unfold Qgl at h
 let Z0:=B (decide (p3.A<p1.Locks));let Z1:=(p1.Routines.length:Int);let Z2:=B (decide (p3.A<Z1));let Z3:=p3.Code == 16;let Z4:=B (decide (p3.A<p1.Conds));let Z5:=B (decide (p3.B<p1.Locks));let Z6:=B false
 rcases itS h with ⟨c17,h⟩ | ⟨c18,h⟩
 ·obtain rfl:=sj h
  exact gR hP hn [hT 0] [] .raw [v16=true,Z0=Z0,Qa8 Z0=true] ⟨c17,rfl,rfl,trivial⟩
 ·rcases itS h with ⟨c19,h⟩ | ⟨c20,h⟩
  ·obtain rfl:=sj h
   exact gR hP hn [hF 0,hT 3,hO 8 (I Z1)] [] .raw [v16=false,(p3.Code == 14)=true,AV.lit (.int .i64 (((p1.Routines.map Qtr).length:Nat) : Int))=(I Z1),Z2=Z2,Qa8 Z2=true] ⟨c18,c19,(Qfn Qtr),rfl,rfl,trivial⟩
  ·let P1:List Prop:=[v16=false,(p3.Code == 14)=false]
   have AP1:Qb0 P1:=⟨c18,c20,trivial⟩
   rcases itS h with ⟨c21,h⟩ | ⟨c24,h⟩
   ·rcases itS h with ⟨c22,h⟩ | ⟨c23,h⟩
    ·obtain rfl:=sj h
     exact gR hP hn [hF 0,hF 3,hT 6,hO 12 (B true)] [] .raw (P1++[Z3=true,Z4=(B true),Z5=Z5,Qa8 Z5=true]) (Qag AP1 ⟨c21,(Qb5 c22),rfl,rfl,trivial⟩)
    ·obtain rfl:=sj h
     exact gR hP hn [hF 0,hF 3,hT 6,hO 12 Z6] [] .raw (P1++[Z3=true,Z4=Z6,Z6=Z6,Qa8 Z6=true]) (Qag AP1 ⟨c21,(Qb5 c23),rfl,rfl,trivial⟩)
   ·rcases itS h with ⟨c25,h⟩ | ⟨c26,h⟩
    ·obtain rfl:=sj h
     exact gR hP hn [hF 0,hF 3,hF 6,hT 9] [] .raw (P1++[Z3=false,(p3.Code == 17)=true,Z4=Z4,Qa8 Z4=true]) (Qag AP1 ⟨c24,c25,rfl,rfl,trivial⟩)
    ·obtain rfl:=sj h
     exact gR hP hn [hF 0,hF 3,hF 6,hF 9] [] .raw (P1++[Z3=false,(p3.Code == 17)=false,(B true)=(B true),Qa8 (B true)=true]) (Qag AP1 ⟨c24,c26,rfl,rfl,trivial⟩)
noncomputable def Qgn  (p1:Qa9) (p2:Int) (p3:GOp) (v12:Bool) : Option Bool:=
 if v12=true then
  some (decide (p3.A≤p2))
 else
  if (p3.Code == 12)=true then
   Qgl p1 p3 (p3.Code == 12)
  else
   Qgl p1 p3 (p3.Code == 13)
theorem Qmx {E:Env} (hP:E.pk=pk0 Try.prog) (hn:E.n=64) (hx:FX E []) (p1:Qa9) (p2:Int) (p3:GOp)  (v12:Bool) (r:Bool) (h:Qgn p1 p2 p3 v12=some r) : WAt E Quu (FQ (Qdu Θ Try.f181.results.toList [] [] (B r) E)) [true,true,false,true,false,true,true,true] ⟨[(1,(I p2)),(3,(AV.ptr 1 0 0)),(5,(AV.ptr 2 0 0)),(11,(I p3.Code)),(20,(B v12))],[(1,some ⟨136,4,[((Qhi p1))]⟩),(2,some ⟨158,4,[((Qcb p3))]⟩)],[1,2,JJ]⟩:=by
 unfold Qgn at h
 let Z0:=B (decide (p3.A≤p2));let Z1:=p3.Code == 12
 rcases itS h with ⟨c13,h⟩ | ⟨c14,h⟩
 ·obtain rfl:=sj h
  exact gR hP hn [hT 0] [] .raw [v12=true,Z0=Z0,Qa8 Z0=true] ⟨c13,rfl,rfl,trivial⟩
 ·rcases itS h with ⟨c15,h⟩ | ⟨c27,h⟩
  ·exact gT hP hn hx [hF 0,hT 3] [(1,1),(2,2)] [3,5,11,27] [] [v12=false,Z1=true,Qa6 [(1,1),(2,2)] [((Qhi p1))],Qa6 [(1,1),(2,2)] [((Qcb p3))]] ⟨c14,c15,(rok (Qb1 Qit p1)),(rok rfl),trivial⟩ (Qmv hP hn hx p1 p3 Z1 _ h)
  ·exact gT hP hn hx [hF 0,hF 3] [(1,1),(2,2)] [3,5,11,27] [] [v12=false,Z1=false,Qa6 [(1,1),(2,2)] [((Qhi p1))],Qa6 [(1,1),(2,2)] [((Qcb p3))]] ⟨c14,c27,(rok (Qb1 Qit p1)),(rok rfl),trivial⟩ (Qmv hP hn hx p1 p3 (p3.Code == 13) _ h)
noncomputable def Qgj  (p1:Qa9) (p2:Int) (p3:GOp) (v8:Bool) : Option Bool:=
 if v8=true then
  some (decide (p3.A<p1.Cells))
 else
  if (p3.Code == 10)=true then
   Qgn p1 p2 p3 (p3.Code == 10)
  else
   Qgn p1 p2 p3 (p3.Code == 11)
theorem Qmr {E:Env} (hP:E.pk=pk0 Try.prog) (hn:E.n=64) (hx:FX E []) (p1:Qa9) (p2:Int) (p3:GOp)  (v8:Bool) (r:Bool) (h:Qgj p1 p2 p3 v8=some r) : WAt E Quu (FQ (Qdu Θ Try.f181.results.toList [] [] (B r) E)) [true,true,false,true,false,true] ⟨[(1,(I p2)),(3,(AV.ptr 1 0 0)),(5,(AV.ptr 2 0 0)),(11,(I p3.Code)),(12,(B v8))],[(1,some ⟨136,4,[((Qhi p1))]⟩),(2,some ⟨158,4,[((Qcb p3))]⟩)],[1,2,JJ]⟩:=by
 unfold Qgj at h
 let Z0:=B (decide (p3.A<p1.Cells));let Z1:=p3.Code == 10
 rcases itS h with ⟨c9,h⟩ | ⟨c10,h⟩
 ·obtain rfl:=sj h
  exact gR hP hn [hT 0] [] .raw [v8=true,Z0=Z0,Qa8 Z0=true] ⟨c9,rfl,rfl,trivial⟩
 ·rcases itS h with ⟨c11,h⟩ | ⟨c28,h⟩
  ·exact gT hP hn hx [hF 0,hT 3] [(1,1),(2,2)] [1,3,5,11,20] [] [v8=false,Z1=true,Qa6 [(1,1),(2,2)] [((Qhi p1))],Qa6 [(1,1),(2,2)] [((Qcb p3))]] ⟨c10,c11,(rok (Qb1 Qit p1)),(rok rfl),trivial⟩ (Qmx hP hn hx p1 p2 p3 Z1 _ h)
  ·exact gT hP hn hx [hF 0,hF 3] [(1,1),(2,2)] [1,3,5,11,20] [] [v8=false,Z1=false,Qa6 [(1,1),(2,2)] [((Qhi p1))],Qa6 [(1,1),(2,2)] [((Qcb p3))]] ⟨c10,c28,(rok (Qb1 Qit p1)),(rok rfl),trivial⟩ (Qmx hP hn hx p1 p2 p3 (p3.Code == 11) _ h)
noncomputable def Qhu (p1:Qa9) (p2:Int) (p3:GOp) : Option Bool:=
 Option.bind (Qgm p3) fun r4 =>
 if (!r4)=true then
  some false
 else
  if (p3.Code == 2)=true then
   Qgj p1 p2 p3 (p3.Code == 2)
  else
   Qgj p1 p2 p3 (p3.Code == 3)
theorem Qys {p1:Qa9} {p2:Int} {p3:GOp} {r:Bool} (h:Qhu p1 p2 p3=some r) : Qab Try.prog 181 [(AV.agg ((Qhi p1))),(I p2),(AV.agg ((Qcb p3)))] (B r):=by
 refine gM Try.func181 64 Quu fun E hP hn hx=>?_
 unfold Qhu at h
 obtain ⟨r4,hr4,h⟩:=bnS h
 let Z0:=p3.Code == 2
 let H1:List Hn:=[hW 0 1001,hW 1 1002,hh 4 (.callV [[]] (B r4))]
 let P2:List Prop:=[Qab Try.prog 188 [(AV.agg ((Qcb p3)))] (B r4),Qa8 (B r4)=true]
 have AP2:Qb0 P2:=⟨(Qsq hr4),rfl,trivial⟩
 rcases itS h with ⟨c5,h⟩ | ⟨c6,h⟩
 ·obtain rfl:=sj h
  exact gR hP hn (H1++[hT 6]) [] .raw (P2++[(!r4)=true,(B false)=(B false),Qa8 (B false)=true]) (Qag AP2 ⟨c5,rfl,rfl,trivial⟩)
 ·rcases itS h with ⟨c7,h⟩ | ⟨c29,h⟩
  ·exact gT hP hn hx (H1++[hF 6,hT 11]) [(1001,1),(1002,2)] [1,3,5,11,12] [] (P2++[(!r4)=false,Z0=true,Qa6 [(1001,1),(1002,2)] [((Qhi p1))],Qa6 [(1001,1),(1002,2)] [((Qcb p3))]]) (Qag AP2 ⟨c6,c7,(rok (Qb1 Qit p1)),(rok rfl),trivial⟩) (Qmr hP hn hx p1 p2 p3 Z0 _ h)
  ·exact gT hP hn hx (H1++[hF 6,hF 11]) [(1001,1),(1002,2)] [1,3,5,11,12] [] (P2++[(!r4)=false,Z0=false,Qa6 [(1001,1),(1002,2)] [((Qhi p1))],Qa6 [(1001,1),(1002,2)] [((Qcb p3))]]) (Qag AP2 ⟨c6,c29,(rok (Qb1 Qit p1)),(rok rfl),trivial⟩) (Qmr hP hn hx p1 p2 p3 (p3.Code == 3) _ h)
noncomputable def Qvu:Code:=match Try.f171.body with | some c=>c | none=>.skip
noncomputable def Qc0 (K0:Qa9→Int→Option Bool) (p1:Qa9) (v15:Int) (x17:(List GOp)) : Nat→Qa9→Int→Option Bool
 | 0,_,_=>none
 | n+1,a18,v19 =>
 if (decide (v19<(x17.length:Int)))=true then
  Option.bind (rd x17 v19) fun x21 =>
  Option.bind (Qhu a18 (x17.length:Int) x21) fun r23 =>
  if (!r23)=true then
   some false
  else
   Qc0 K0 p1 v15 x17 n a18 (w64 (v19+1))
 else
  if (decide ((x17.length:Int) > 24))=true then
   some false
  else
   K0 a18 (w64 (v15+1))
theorem Qo4 {E:Env} (hP:E.pk=pk0 Try.prog) (hn:E.n=54) (hx:FX E []) (p1:Qa9) (v15:Int) (x17:(List GOp)) {K0:Qa9→Int→Option Bool} (hK0 : ∀ (a14:Qa9) (v15:Int) (r:Bool),K0 a14 v15=some r→WAt E Qvu (FQ (Qdu Θ Try.f171.results.toList [] [] (B r) E)) [true,true,false,true,false] ⟨[(1,(AV.ptr 1 0 0)),(31,(AV.ro 1 (p1.Routines.map Qtr))),(32,(I (p1.Routines.length:Int))),(33,(I v15))],[(1,some ⟨136,4,[((Qhi a14))]⟩)],[1,JJ]⟩) : ∀ (n:Nat) (a18:Qa9) (v19:Int) (r:Bool),Qc0 K0 p1 v15 x17 n a18 v19=some r→WAt E Qvu (FQ (Qdu Θ Try.f171.results.toList [] [] (B r) E)) [true,true,false,true,false,false,true,true,false,false,true,false,true,false] ⟨[(1,(AV.ptr 1 0 0)),(4,(AV.ro 4 (x17.map Qcb))),(31,(AV.ro 1 (p1.Routines.map Qtr))),(32,(I (p1.Routines.length:Int))),(33,(I v15)),(37,(AV.ro 4 (x17.map Qcb))),(38,(I (x17.length:Int))),(39,(I v19))],[(1,some ⟨136,4,[((Qhi a18))]⟩)],[1,JJ]⟩:=by
 intro n
 induction n with
 | zero=>intro a18 v19 r h;simp only [Qc0] at h;cases h
 | succ n ih =>
  intro a18 v19 r h
  simp only [Qc0] at h
  let Z0:=(x17.length:Int);let Z1:=(((x17.map Qcb).length:Nat) : Int);let Z2:=B false
  rcases itS h with ⟨c20,h⟩ | ⟨c26,h⟩
  ·obtain ⟨x21,hx21,h⟩:=bnS h
   obtain ⟨r23,hr23,h⟩:=bnS h
   let H1:List Hn:=[hT 1,hh 2 (.row (Qcb x21)),hW 4 1001,hO 8 (I Z0),hh 10 (.callV [[],[]] (B r23))]
   let P2:List Prop:=[(decide (v19<Z0))=true,(0:Int)≤v19,(x17.map Qcb)[v19.toNat]? = some (Qcb x21),AV.lit (.int .i64 Z1)=(I Z0),Qab Try.prog 181 [(AV.agg ((Qhi a18))),(I Z0),(AV.agg ((Qcb x21)))] (B r23),Qa8 (B r23)=true]
   have AP2:Qb0 P2:=⟨c20,(rd0 hx21),(rdM Qcb hx21),(Qfn Qcb),(Qys hr23),rfl,trivial⟩
   rcases itS h with ⟨c24,h⟩ | ⟨c25,h⟩
   ·obtain rfl:=sj h
    exact gR hP hn (H1++[hT 12]) [] .raw (P2++[(!r23)=true,Z2=Z2,Qa8 Z2=true]) (Qag AP2 ⟨c24,rfl,rfl,trivial⟩)
   ·exact gT hP hn hx (H1++[hF 12]) [(1,1)] [1,4,31,32,33,37,38,39] [] (P2++[(!r23)=false,Qa6 [(1,1)] [((Qhi a18))]]) (Qag AP2 ⟨c25,(rok (Qb1 Qit a18)),trivial⟩) (ih a18 (w64 (v19+1)) _ h)
  ·let P3:List Prop:=[(decide (v19<Z0))=false,AV.lit (.int .i64 Z1)=(I Z0)]
   have AP3:Qb0 P3:=⟨c26,(Qfn Qcb),trivial⟩
   rcases itS h with ⟨c27,h⟩ | ⟨c28,h⟩
   ·obtain rfl:=sj h
    exact gR hP hn [hF 1,hO 3 (I Z0),hT 5] [] .raw (P3++[(decide (Z0 > 24))=true,Z2=Z2,Qa8 Z2=true]) (Qag AP3 ⟨c27,rfl,rfl,trivial⟩)
   ·exact gT hP hn hx [hF 1,hO 3 (I Z0),hF 5] [(1,1)] [1,31,32,33] [] (P3++[(decide (Z0 > 24))=false,Qa6 [(1,1)] [((Qhi a18))]]) (Qag AP3 ⟨c28,(rok (Qb1 Qit a18)),trivial⟩) (hK0 a18 (w64 (v15+1)) _ h)
noncomputable def Qd3  (p1:Qa9) : Nat→Qa9→Int→Option Bool
 | 0,_,_=>none
 | n+1,a14,v15 =>
 if (decide (v15<(p1.Routines.length:Int)))=true then
  Option.bind (rd p1.Routines v15) fun x17 =>
  Qc0 (Qd3 p1 n) p1 v15 x17 FU a14 0
 else
  some true
theorem Qom {E:Env} (hP:E.pk=pk0 Try.prog) (hn:E.n=54) (hx:FX E []) (p1:Qa9)  : ∀ (n:Nat) (a14:Qa9) (v15:Int) (r:Bool),Qd3 p1 n a14 v15=some r→WAt E Qvu (FQ (Qdu Θ Try.f171.results.toList [] [] (B r) E)) [true,true,false,true,false] ⟨[(1,(AV.ptr 1 0 0)),(31,(AV.ro 1 (p1.Routines.map Qtr))),(32,(I (p1.Routines.length:Int))),(33,(I v15))],[(1,some ⟨136,4,[((Qhi a14))]⟩)],[1,JJ]⟩:=by
 intro n
 induction n with
 | zero=>intro a14 v15 r h;simp only [Qd3] at h;cases h
 | succ n ih =>
  intro a14 v15 r h
  simp only [Qd3] at h
  let Z1:=(decide (v15<(p1.Routines.length:Int)))
  rcases itS h with ⟨c16,h⟩ | ⟨c29,h⟩
  ·obtain ⟨x17,hx17,h⟩:=bnS h
   exact (let Z0:=(I (x17.length:Int));gT hP hn hx [hT 1,hh 2 (.row (Qtr x17)),hO 6 Z0] [(1,1)] [1,4,31,32,33,37,38,39] [] [Z1=true,(0:Int)≤v15,(p1.Routines.map Qtr)[v15.toNat]? = some (Qtr x17),AV.lit (.int .i64 (((x17.map Qcb).length:Nat) : Int))=Z0,Qa6 [(1,1)] [((Qhi a14))]] ⟨c16,(rd0 hx17),(rdM Qtr hx17),(Qfn Qcb),(rok (Qb1 Qit a14)),trivial⟩ (Qo4 hP hn hx p1 v15 x17 ih FU a14 0 _ h))
  ·obtain rfl:=sj h
   exact gR hP hn [hF 1] [] .raw [Z1=false,(B true)=(B true),Qa8 (B true)=true] ⟨c29,rfl,rfl,trivial⟩
noncomputable def Qh4 (p1:Qa9) : Option Bool:=
 Option.bind (Qbu p1.Cells 0 4) fun r2 =>
 if (!r2)=true then
  some false
 else
  Option.bind (Qbu p1.Locks 0 4) fun r5 =>
  if (!r5)=true then
   some false
  else
   Option.bind (Qbu p1.Conds 0 2) fun r8 =>
   if (!r8)=true then
    some false
   else
    Option.bind (Qbu (p1.Routines.length:Int) 1 4) fun r11 =>
    if (!r11)=true then
     some false
    else
     Qd3 p1 FU p1 0
theorem Qra {p1:Qa9} {r:Bool} (h:Qh4 p1=some r) : Qab Try.prog 171 [(AV.agg ((Qhi p1)))] (B r):=by
 refine gM Try.func171 54 Qvu fun E hP hn hx=>?_
 unfold Qh4 at h
 obtain ⟨r2,hr2,h⟩:=bnS h
 let Z0:=B true;let Z1:=B false;let Z2:=(I (p1.Routines.length:Int));let Z3:=(((p1.Routines.map Qtr).length:Nat) : Int)
 let H1:List Hn:=[hW 0 1001,hh 4 (.callV [] (B r2))]
 let P2:List Prop:=[Qab Try.prog 81 [(I p1.Cells),(I 0),(I 4)] (B r2),Qa8 (B r2)=true]
 have AP2:Qb0 P2:=⟨(Qbj hr2),rfl,trivial⟩
 rcases itS h with ⟨c3,h⟩ | ⟨c4,h⟩
 ·obtain rfl:=sj h
  exact gR hP hn (H1++[hO 6 Z0]) [] .raw (P2++[(B (!r2))=Z0,Z1=Z1,Qa8 Z1=true]) (Qag AP2 ⟨(Qb5 c3),rfl,rfl,trivial⟩)
 ·obtain ⟨r5,hr5,h⟩:=bnS h
  let H3:List Hn:=H1++[hO 6 Z1,hh 9 (.callV [] (B r5))]
  let P4:List Prop:=P2++[(B (!r2))=Z1,Qab Try.prog 81 [(I p1.Locks),(I 0),(I 4)] (B r5),Qa8 (B r5)=true]
  have AP4:Qb0 P4:=Qag AP2 ⟨(Qb5 c4),(Qbj hr5),rfl,trivial⟩
  rcases itS h with ⟨c6,h⟩ | ⟨c7,h⟩
  ·obtain rfl:=sj h
   exact gR hP hn (H3++[hO 12 Z0]) [] .raw (P4++[(B (!r5))=Z0,Z1=Z1,Qa8 Z1=true]) (Qag AP4 ⟨(Qb5 c6),rfl,rfl,trivial⟩)
  ·obtain ⟨r8,hr8,h⟩:=bnS h
   let H5:List Hn:=H3++[hO 12 Z1,hh 15 (.callV [] (B r8))]
   let P6:List Prop:=P4++[(B (!r5))=Z1,Qab Try.prog 81 [(I p1.Conds),(I 0),(I 2)] (B r8),Qa8 (B r8)=true]
   have AP6:Qb0 P6:=Qag AP4 ⟨(Qb5 c7),(Qbj hr8),rfl,trivial⟩
   rcases itS h with ⟨c9,h⟩ | ⟨c10,h⟩
   ·obtain rfl:=sj h
    exact gR hP hn (H5++[hO 18 Z0]) [] .raw (P6++[(B (!r8))=Z0,Z1=Z1,Qa8 Z1=true]) (Qag AP6 ⟨(Qb5 c9),rfl,rfl,trivial⟩)
   ·obtain ⟨r11,hr11,h⟩:=bnS h
    let H7:List Hn:=H5++[hO 18 Z1,hO 21 Z2,hh 22 (.callV [] (B r11))]
    let P8:List Prop:=P6++[(B (!r8))=Z1,AV.lit (.int .i64 Z3)=Z2,Qab Try.prog 81 [Z2,(I 1),(I 4)] (B r11),Qa8 (B r11)=true]
    have AP8:Qb0 P8:=Qag AP6 ⟨(Qb5 c10),(Qfn Qtr),(Qbj hr11),rfl,trivial⟩
    rcases itS h with ⟨c12,h⟩ | ⟨c13,h⟩
    ·obtain rfl:=sj h
     exact gR hP hn (H7++[hT 25]) [] .raw (P8++[(!r11)=true,Z1=Z1,Qa8 Z1=true]) (Qag AP8 ⟨c12,rfl,rfl,trivial⟩)
    ·exact gT hP hn hx (H7++[hF 25,hO 28 Z2]) [(1001,1)] [1,31,32,33] [] (P8++[(!r11)=false,AV.lit (.int .i64 Z3)=Z2,Qa6 [(1001,1)] [((Qhi p1))]]) (Qag AP8 ⟨c13,(Qfn Qtr),(rok (Qb1 Qit p1)),trivial⟩) (Qom hP hn hx p1 FU p1 0 _ h)
noncomputable def Xd2:Code:=match Try.f182.body with | some c=>c | none=>.skip
noncomputable def Qf2  (p1:(List Int)) (p2:Int) (p3:Int) : Nat→Int→Option Bool
 | 0,_=>none
 | n+1,v4 =>
 if (decide (v4<(p1.length:Int)))=true then
  Option.bind (rd p1 v4) fun x6 =>
  Option.bind (Qbu x6 p2 p3) fun r7 =>
  if (!r7)=true then
   some false
  else
   Qf2 p1 p2 p3 n (w64 (v4+1))
 else
  some true
theorem Qrt {E:Env} (hP:E.pk=pk0 Try.prog) (hn:E.n=21) (hx:FX E []) (p1:(List Int)) (p2:Int) (p3:Int)  : ∀ (n:Nat) (v4:Int) (r:Bool),Qf2 p1 p2 p3 n v4=some r→WAt E Xd2 (FQ (Qdu Θ Try.f182.results.toList [] [] (B r) E)) [true,false,true,false] ⟨[(1,(I p2)),(2,(I p3)),(9,(AV.ro 1 (p1.map o3))),(10,(I (p1.length:Int))),(11,(I v4))],[],[JJ]⟩:=by
 intro n
 induction n with
 | zero=>intro v4 r h;simp only [Qf2] at h;cases h
 | succ n ih =>
  intro v4 r h
  simp only [Qf2] at h
  let Z0:=(decide (v4<(p1.length:Int)))
  rcases itS h with ⟨c5,h⟩ | ⟨c10,h⟩
  ·obtain ⟨x6,hx6,h⟩:=bnS h
   obtain ⟨r7,hr7,h⟩:=bnS h
   let P1:List Prop:=[Z0=true,(0:Int)≤v4,(p1.map o3)[v4.toNat]? = some (o3 x6),Qab Try.prog 81 [(I x6),(I p2),(I p3)] (B r7),Qa8 (B r7)=true]
   have AP1:Qb0 P1:=⟨c5,(rd0 hx6),(rdM o3 hx6),(Qbj hr7),rfl,trivial⟩
   rcases itS h with ⟨c8,h⟩ | ⟨c9,h⟩
   ·obtain rfl:=sj h
    exact gR hP hn [hT 1,hh 2 (.row (o3 x6)),hh 8 (.callV [] (B r7)),hT 10] [] .raw (P1++[(!r7)=true,(B false)=(B false),Qa8 (B false)=true]) (Qag AP1 ⟨c8,rfl,rfl,trivial⟩)
   ·exact gT hP hn hx [hT 1,hh 2 (.row (o3 x6)),hh 8 (.callV [] (B r7)),hF 10] [] [1,2,9,10,11] [] (P1++[(!r7)=false]) (Qag AP1 ⟨c9,trivial⟩) (ih (w64 (v4+1)) _ h)
  ·obtain rfl:=sj h
   exact gR hP hn [hF 1] [] .raw [Z0=false,(B true)=(B true),Qa8 (B true)=true] ⟨c10,rfl,rfl,trivial⟩
noncomputable def Qjv (p1:(List Int)) (p2:Int) (p3:Int) : Option Bool:=
 Qf2 p1 p2 p3 FU 0
theorem Qxq {p1:(List Int)} {p2:Int} {p3:Int} {r:Bool} (h:Qjv p1 p2 p3=some r) : Qab Try.prog 182 [(AV.ro 1 (p1.map o3)),(I p2),(I p3)] (B r):=by
 refine gM Try.func182 21 Xd2 fun E hP hn hx=>?_
 unfold Qjv at h
 exact (let Z0:=(I (p1.length:Int));gT hP hn hx [hO 2 Z0] [] [1,2,9,10,11] [] [AV.lit (.int .i64 (((p1.map o3).length:Nat) : Int))=Z0] ⟨(Qfn o3),trivial⟩ (Qrt hP hn hx p1 p2 p3 FU 0 _ h))
noncomputable def Xj8:Code:=match Try.f172.body with | some c=>c | none=>.skip
noncomputable def Qhy (p1:(List Int)) : Option Bool:=
 if (decide ((p1.length:Int)≤200))=true then
  Option.bind (Qjv p1 0 999) fun r3 =>
  some r3
 else
  some false
theorem Qsm {p1:(List Int)} {r:Bool} (h:Qhy p1=some r) : Qab Try.prog 172 [(AV.ro 1 (p1.map o3))] (B r):=by
 refine gM Try.func172 10 Xj8 fun E hP hn hx=>?_
 unfold Qhy at h
 let Z0:=(I (p1.length:Int));let Z1:=(((p1.map o3).length:Nat) : Int);let Z2:=(B (decide ((p1.length:Int)≤200)));let Z3:=B false
 rcases itS h with ⟨c2,h⟩ | ⟨c4,h⟩
 ·obtain ⟨r3,hr3,h⟩:=bnS h
  obtain rfl:=sj h
  exact gR hP hn [hO 2 Z0,hO 4 (B true),hh 6 (.callV [] (B r3))] [] .raw [AV.lit (.int .i64 Z1)=Z0,Z2=(B true),Qab Try.prog 182 [(AV.ro 1 (p1.map o3)),(I 0),(I 999)] (B r3),Qa8 (B r3)=true,(B r3)=(B r3),Qa8 (B r3)=true] ⟨(Qfn o3),(Qb5 c2),(Qxq hr3),rfl,rfl,rfl,trivial⟩
 ·obtain rfl:=sj h
  exact gR hP hn [hO 2 Z0,hO 4 Z3] [] .raw [AV.lit (.int .i64 Z1)=Z0,Z2=Z3,Z3=Z3,Qa8 Z3=true] ⟨(Qfn o3),(Qb5 c4),rfl,rfl,trivial⟩
noncomputable def Xh9:Code:=match Try.f203.body with | some c=>c | none=>.skip
noncomputable def Qhs (p1:Nat) (p2:Int) : Option (Int×Bool):=
 Option.bind (Qbu p2 1 1000) fun r3 =>
 if (!r3)=true then
  some (0,false)
 else
  if ((Qd9 p1 0) == some .lt)=true then
   some (0,false)
  else
   if (!((Qd9 p1 (fOf p2)) == some .lt))=true then
    some (0,false)
   else
    Option.bind (fTo p1) fun x10 =>
    if ((Qd9 (fOf x10) p1) != some .eq)=true then
     some (0,false)
    else
     Option.bind (fTo p1) fun x13 =>
     some (x13,true)
theorem Qt2 {p1:Nat} {p2:Int} {r:(Int×Bool)} (h:Qhs p1 p2=some r) : Qab Try.prog 203 [(FK p1),(I p2)] (AV.tup [(I r.1),(B r.2)]):=by
 refine gM Try.func203 29 Xh9 fun E hP hn hx=>?_
 unfold Qhs at h
 obtain ⟨r3,hr3,h⟩:=bnS h
 let Z0:=B true;let Z1:=B false;let Z2:=Qd9 p1 0;let Z3:=Qd9 p1 (fOf p2)
 let H1:List Hn:=[hh 3 (.callV [] (B r3))]
 let P2:List Prop:=[Qab Try.prog 81 [(I p2),(I 1),(I 1000)] (B r3),Qa8 (B r3)=true]
 have AP2:Qb0 P2:=⟨(Qbj hr3),rfl,trivial⟩
 rcases itS h with ⟨c4,h⟩ | ⟨c5,h⟩
 ·obtain rfl:=sj h
  exact gR hP hn (H1++[hO 5 Z0]) [] (.agg [.raw,.raw]) (P2++[(B (!r3))=Z0,(I 0)=(I 0),Qa8 (I 0)=true,Z1=Z1,Qa8 Z1=true]) (Qag AP2 ⟨(Qb5 c4),rfl,rfl,rfl,rfl,trivial⟩)
 ·let H3:List Hn:=H1++[hO 5 Z1,hh 7 (.bin (B (Z2 == some .lt)))]
  let P4:List Prop:=P2++[(B (!r3))=Z1,Qil Try.prog .lss 156 (FK p1) (FK 0) (B (Z2 == some .lt))]
  have AP4:Qb0 P4:=Qag AP2 ⟨(Qb5 c5),Xju,trivial⟩
  rcases itS h with ⟨c6,h⟩ | ⟨c7,h⟩
  ·obtain rfl:=sj h
   exact gR hP hn (H3++[hO 9 Z0]) [] (.agg [.raw,.raw]) (P4++[(B (Z2 == some .lt))=Z0,(I 0)=(I 0),Qa8 (I 0)=true,Z1=Z1,Qa8 Z1=true]) (Qag AP4 ⟨(Qb5 c6),rfl,rfl,rfl,rfl,trivial⟩)
  ·let H5:List Hn:=H3++[hO 9 Z1,hh 12 (.cnv (FK (fOf p2))),hh 13 (.bin (B (Z3 == some .lt)))]
   let P6:List Prop:=P4++[(B (Z2 == some .lt))=Z1,Xb9 Try.prog 3 156 (I p2) (FK (fOf p2)),Qil Try.prog .lss 156 (FK p1) (FK (fOf p2)) (B (Z3 == some .lt))]
   have AP6:Qb0 P6:=Qag AP4 ⟨(Qb5 c7),(cIF (P:=Try.prog) ty3 Qv6),Xju,trivial⟩
   rcases itS h with ⟨c8,h⟩ | ⟨c9,h⟩
   ·obtain rfl:=sj h
    exact gR hP hn (H5++[hO 16 Z0]) [] (.agg [.raw,.raw]) (P6++[(B (!(Z3 == some .lt)))=Z0,(I 0)=(I 0),Qa8 (I 0)=true,Z1=Z1,Qa8 Z1=true]) (Qag AP6 ⟨(Qb5 c8),rfl,rfl,rfl,rfl,trivial⟩)
   ·obtain ⟨x10,hx10,h⟩:=bnS h
    let Z4:=Qd9 (fOf x10) p1
    let H7:List Hn:=H5++[hO 16 Z1,hh 18 (.cnv (I x10)),hh 19 (.cnv (FK (fOf x10))),hh 21 (.bin (B (Z4 != some .eq)))]
    let P8:List Prop:=P6++[(B (!(Z3 == some .lt)))=Z1,Xb9 Try.prog 156 3 (FK p1) (I x10),Xb9 Try.prog 3 156 (I x10) (FK (fOf x10)),Qil Try.prog .neq 156 (FK (fOf x10)) (FK p1) (B (Z4 != some .eq))]
    have AP8:Qb0 P8:=Qag AP6 ⟨(Qb5 c9),(cFI (P:=Try.prog) Qv6 ty3 hx10),(cIF (P:=Try.prog) ty3 Qv6),fNeq,trivial⟩
    rcases itS h with ⟨c11,h⟩ | ⟨c12,h⟩
    ·obtain rfl:=sj h
     exact gR hP hn (H7++[hT 23]) [] (.agg [.raw,.raw]) (P8++[(Z4 != some .eq)=true,(I 0)=(I 0),Qa8 (I 0)=true,Z1=Z1,Qa8 Z1=true]) (Qag AP8 ⟨c11,rfl,rfl,rfl,rfl,trivial⟩)
    ·obtain ⟨x13,hx13,h⟩:=bnS h
     obtain rfl:=sj h
     exact gR hP hn (H7++[hF 23,hh 25 (.cnv (I x13))]) [] (.agg [.raw,.raw]) (P8++[(Z4 != some .eq)=false,Xb9 Try.prog 156 3 (FK p1) (I x13),(I x13)=(I x13),Qa8 (I x13)=true,Z0=Z0,Qa8 Z0=true]) (Qag AP8 ⟨c12,(cFI (P:=Try.prog) Qv6 ty3 hx13),rfl,rfl,rfl,rfl,trivial⟩)
noncomputable def Xh6:Code:=match Try.f198.body with | some c=>c | none=>.skip
noncomputable def Qcv (p1:Qa3) (p2:Qa2) : Option Int:=
 if ((p2.Stack.length:Int) == 0)=true then
  some (-1)
 else
  Option.bind (rd p2.Stack (w64 ((p2.Stack.length:Int) - 1))) fun x5 =>
  Option.bind (Qhs x5 (p1.Threads.length:Int)) fun r6 =>
  if (!r6.2)=true then
   some (-1)
  else
   some r6.1
theorem Qhm {p1:Qa3} {p2:Qa2} {r:Int} (h:Qcv p1 p2=some r) : Qab Try.prog 198 [(AV.agg ((Qmn p1))),(AV.agg ((Qg5 p2)))] (I r):=by
 refine gM Try.func198 29 Xh6 fun E hP hn hx=>?_
 unfold Qcv at h
 let Z0:=(p2.Stack.length:Int);let Z1:=(((p2.Stack.map Qb7).length:Nat) : Int);let Z2:=I (-1);let Z3:=(I (p1.Threads.length:Int))
 let H1:List Hn:=[hW 0 1001,hW 1 1002,hO 5 (I Z0)]
 let P2:List Prop:=[AV.lit (.int .i64 Z1)=(I Z0)]
 have AP2:Qb0 P2:=⟨(Qfn Qb7),trivial⟩
 rcases itS h with ⟨c3,h⟩ | ⟨c4,h⟩
 ·obtain rfl:=sj h
  exact gR hP hn (H1++[hT 7]) [] .raw (P2++[(Z0 == 0)=true,Z2=Z2,Qa8 Z2=true]) (Qag AP2 ⟨c3,rfl,rfl,trivial⟩)
 ·obtain ⟨x5,hx5,h⟩:=bnS h
  obtain ⟨r6,hr6,h⟩:=bnS h
  let Z4:=AV.tup [(I r6.1),(B r6.2)]
  let H3:List Hn:=H1++[hF 7,hO 12 (I Z0),hh 14 (.row (Qb7 x5)),hO 18 Z3,hh 19 (.callV [] Z4)]
  let P4:List Prop:=P2++[(Z0 == 0)=false,AV.lit (.int .i64 Z1)=(I Z0),(0:Int)≤(w64 (Z0 - 1)),(p2.Stack.map Qb7)[(w64 (Z0 - 1)).toNat]? = some (Qb7 x5),AV.lit (.int .i64 (((p1.Threads.map Qg5).length:Nat) : Int))=Z3,Qab Try.prog 203 [(FK x5),Z3] Z4,Qa8 Z4=true]
  have AP4:Qb0 P4:=Qag AP2 ⟨c4,(Qfn Qb7),(rd0 hx5),(rdM Qb7 hx5),(Qfn Qg5),(Qt2 hr6),rfl,trivial⟩
  rcases itS h with ⟨c7,h⟩ | ⟨c8,h⟩
  ·obtain rfl:=sj h
   exact gR hP hn (H3++[hT 27]) [] .raw (P4++[(!r6.2)=true,Z2=Z2,Qa8 Z2=true]) (Qag AP4 ⟨c7,rfl,rfl,trivial⟩)
  ·obtain rfl:=sj h
   exact gR hP hn (H3++[hF 27]) [] .raw (P4++[(!r6.2)=false,(I r6.1)=(I r6.1),Qa8 (I r6.1)=true]) (Qag AP4 ⟨c8,rfl,rfl,trivial⟩)
noncomputable def Xhk:Code:=match Try.f191.body with | some c=>c | none=>.skip
noncomputable def Qed (p1:Qa9) (p2:Qa2) : Option (GOp×Bool):=
 Option.bind (rd p1.Routines p2.Routine) fun x3 =>
 if (p2.Pc == (x3.length:Int))=true then
  some ((GOp.mk 0 0 0 0),false)
 else
  Option.bind (rd x3 p2.Pc) fun x6 =>
  some (x6,true)
theorem Qof {p1:Qa9} {p2:Qa2} {r:(GOp×Bool)} (h:Qed p1 p2=some r) : Qab Try.prog 191 [(AV.agg ((Qhi p1))),(AV.agg ((Qg5 p2)))] (AV.tup [(AV.agg (Qcb r.1)),(B r.2)]):=by
 refine gM Try.func191 24 Xhk fun E hP hn hx=>?_
 unfold Qed at h
 obtain ⟨x3,hx3,h⟩:=bnS h
 let Z0:=(I (x3.length:Int));let Z1:=(p2.Pc == (x3.length:Int));let Z2:=AV.agg [(I 0),(I 0),(I 0),(FK 0)]
 let H1:List Hn:=[hW 0 1001,hW 1 1002,hW 2 1003,hh 8 (.row (Qtr x3)),hO 14 Z0]
 let P2:List Prop:=[(0:Int)≤p2.Routine,(p1.Routines.map Qtr)[p2.Routine.toNat]? = some (Qtr x3),AV.lit (.int .i64 (((x3.map Qcb).length:Nat) : Int))=Z0]
 have AP2:Qb0 P2:=⟨(rd0 hx3),(rdM Qtr hx3),(Qfn Qcb),trivial⟩
 rcases itS h with ⟨c4,h⟩ | ⟨c5,h⟩
 ·obtain rfl:=sj h
  exact gR hP hn (H1++[hT 16]) [] (.agg [.raw,.raw]) (P2++[Z1=true,Z2=Z2,Qa8 Z2=true,(B false)=(B false),Qa8 (B false)=true]) (Qag AP2 ⟨c4,rfl,rfl,rfl,rfl,trivial⟩)
 ·obtain ⟨x6,hx6,h⟩:=bnS h
  obtain rfl:=sj h
  exact (let Z3:=AV.agg ((Qcb x6));gR hP hn (H1++[hF 16,hh 20 (.row (Qcb x6))]) [] (.agg [.raw,.raw]) (P2++[Z1=false,(0:Int)≤p2.Pc,(x3.map Qcb)[p2.Pc.toNat]? = some (Qcb x6),Z3=Z3,Qa8 Z3=true,(B true)=(B true),Qa8 (B true)=true]) (Qag AP2 ⟨c5,(rd0 hx6),(rdM Qcb hx6),rfl,rfl,rfl,rfl,trivial⟩))
noncomputable def Xct:Code:=match Try.f190.body with | some c=>c | none=>.skip
noncomputable def Qge  (p2:Qa3) (p3:Qa2) (r7:(GOp×Bool))  : Option Int:=
 if (r7.1.Code == 12)=true then
  Option.bind (rd p2.Owner r7.1.A) fun x13 =>
  some x13
 else
  if (r7.1.Code == 15)=true then
   Option.bind (Qcv p2 p3) fun r16 =>
   if (decide (r16 ≥ 0))=true then
    Option.bind (rd p2.Threads r16) fun x18 =>
    if (x18.State != 2)=true then
     some r16
    else
     some (-1)
   else
    some (-1)
  else
   some (-1)
theorem Qno {E:Env} (hP:E.pk=pk0 Try.prog) (hn:E.n=59) (hx:FX E []) (p2:Qa3) (p3:Qa2) (r7:(GOp×Bool))   (r:Int) (h:Qge p2 p3 r7  = some r) : WAt E Xct (FQ (Qdu Θ Try.f190.results.toList [] [] (I r) E)) [true,true,true,false,true,true] ⟨[(4,(AV.ptr 1 0 0)),(5,(AV.ptr 2 0 0)),(7,(AV.ptr 3 0 0))],[(1,some ⟨141,4,[((Qmn p2))]⟩),(2,some ⟨198,6,[((Qg5 p3))]⟩),(3,some ⟨158,4,[((Qcb r7.1))]⟩)],[1,2,3,JJ]⟩:=by
 unfold Qge at h
 let Z0:=r7.1.Code == 12;let Z2:=I (-1)
 rcases itS h with ⟨c12,h⟩ | ⟨c14,h⟩
 ·obtain ⟨x13,hx13,h⟩:=bnS h
  obtain rfl:=sj h
  exact gR hP hn [hT 4,hh 9 (.row (o3 x13))] [] .raw [Z0=true,(0:Int)≤r7.1.A,(p2.Owner.map o3)[r7.1.A.toNat]? = some (o3 x13),(I x13)=(I x13),Qa8 (I x13)=true] ⟨c12,(rd0 hx13),(rdM o3 hx13),rfl,rfl,trivial⟩
 ·rcases itS h with ⟨c15,h⟩ | ⟨c22,h⟩
  ·obtain ⟨r16,hr16,h⟩:=bnS h
   let Z1:=B (decide (r16 ≥ 0))
   let H1:List Hn:=[hF 4,hT 7,hh 10 (.callV [[],[]] (I r16))]
   let P2:List Prop:=[Z0=false,(r7.1.Code == 15)=true,Qab Try.prog 198 [(AV.agg ((Qmn p2))),(AV.agg ((Qg5 p3)))] (I r16),Qa8 (I r16)=true]
   have AP2:Qb0 P2:=⟨c14,c15,(Qhm hr16),rfl,trivial⟩
   rcases itS h with ⟨c17,h⟩ | ⟨c21,h⟩
   ·obtain ⟨x18,hx18,h⟩:=bnS h
    let P3:List Prop:=P2++[Z1=(B true),(0:Int)≤r16,(p2.Threads.map Qg5)[r16.toNat]? = some (Qg5 x18)]
    have AP3:Qb0 P3:=Qag AP2 ⟨(Qb5 c17),(rd0 hx18),(rdM Qg5 hx18),trivial⟩
    rcases itS h with ⟨c19,h⟩ | ⟨c20,h⟩
    ·obtain rfl:=sj h
     exact gR hP hn (H1++[hO 14 (B true),hh 18 (.row (Qg5 x18)),hT 23]) [] .raw (P3++[(x18.State != 2)=true,(I r16)=(I r16),Qa8 (I r16)=true]) (Qag AP3 ⟨c19,rfl,rfl,trivial⟩)
    ·obtain rfl:=sj h
     exact gR hP hn (H1++[hO 14 (B true),hh 18 (.row (Qg5 x18)),hF 23]) [] .raw (P3++[(x18.State != 2)=false,Z2=Z2,Qa8 Z2=true]) (Qag AP3 ⟨c20,rfl,rfl,trivial⟩)
   ·obtain rfl:=sj h
    exact gR hP hn (H1++[hO 14 (B false)]) [] .raw (P2++[Z1=(B false),Z2=Z2,Qa8 Z2=true]) (Qag AP2 ⟨(Qb5 c21),rfl,rfl,trivial⟩)
  ·obtain rfl:=sj h
   exact gR hP hn [hF 4,hF 7] [] .raw [Z0=false,(r7.1.Code == 15)=false,Z2=Z2,Qa8 Z2=true] ⟨c14,c22,rfl,rfl,trivial⟩
noncomputable def Qd8 (p1:Qa9) (p2:Qa3) (p3:Qa2) : Option Int:=
 if (p3.State == 4)=true then
  Option.bind (rd p2.Owner p3.Lock) fun x5 =>
  some x5
 else
  Option.bind (Qed p1 p3) fun r7 =>
  if (p3.State != 1)=true then
   some (-1)
  else
   if (!r7.2)=true then
    some (-1)
   else
    Qge p2 p3 r7
theorem Qll {p1:Qa9} {p2:Qa3} {p3:Qa2} {r:Int} (h:Qd8 p1 p2 p3=some r) : Qab Try.prog 190 [(AV.agg ((Qhi p1))),(AV.agg ((Qmn p2))),(AV.agg ((Qg5 p3)))] (I r):=by
 refine gM Try.func190 59 Xct fun E hP hn hx=>?_
 unfold Qd8 at h
 let Z1:=B (p3.State != 1);let Z2:=I (-1)
 let H1:List Hn:=[hW 0 1001,hW 1 1002,hW 2 1003]
 rcases itS h with ⟨c4,h⟩ | ⟨c6,h⟩
 ·obtain ⟨x5,hx5,h⟩:=bnS h
  obtain rfl:=sj h
  exact gR hP hn (H1++[hT 7,hh 12 (.row (o3 x5))]) [] .raw [(p3.State == 4)=true,(0:Int)≤p3.Lock,(p2.Owner.map o3)[p3.Lock.toNat]? = some (o3 x5),(I x5)=(I x5),Qa8 (I x5)=true] ⟨c4,(rd0 hx5),(rdM o3 hx5),rfl,rfl,trivial⟩
 ·obtain ⟨r7,hr7,h⟩:=bnS h
  let Z0:=AV.tup [(AV.agg (Qcb r7.1)),(B r7.2)]
  let H2:List Hn:=H1++[hF 7,hh 10 (.callV [[],[]] Z0),hW 14 1004]
  let P3:List Prop:=[(p3.State == 4)=false,Qab Try.prog 191 [(AV.agg ((Qhi p1))),(AV.agg ((Qg5 p3)))] Z0,Qa8 Z0=true]
  have AP3:Qb0 P3:=⟨c6,(Qof hr7),rfl,trivial⟩
  rcases itS h with ⟨c8,h⟩ | ⟨c9,h⟩
  ·obtain rfl:=sj h
   exact gR hP hn (H2++[hO 20 (B true)]) [] .raw (P3++[Z1=(B true),Z2=Z2,Qa8 Z2=true]) (Qag AP3 ⟨(Qb5 c8),rfl,rfl,trivial⟩)
  ·rcases itS h with ⟨c10,h⟩ | ⟨c11,h⟩
   ·obtain rfl:=sj h
    exact gR hP hn (H2++[hO 20 (B false),hT 24]) [] .raw (P3++[Z1=(B false),(!r7.2)=true,Z2=Z2,Qa8 Z2=true]) (Qag AP3 ⟨(Qb5 c9),c10,rfl,rfl,trivial⟩)
   ·exact gT hP hn hx (H2++[hO 20 (B false),hF 24]) [(1002,1),(1003,2),(1004,3)] [4,5,7] [] (P3++[Z1=(B false),(!r7.2)=false,Qa6 [(1002,1),(1003,2),(1004,3)] [((Qmn p2))],Qa6 [(1002,1),(1003,2),(1004,3)] [((Qg5 p3))],Qa6 [(1002,1),(1003,2),(1004,3)] [((Qcb r7.1))]]) (Qag AP3 ⟨(Qb5 c9),c11,(rok (Qb1 Qm2 p2)),(rok (Qb1 Qg7 p3)),(rok rfl),trivial⟩) (Qno hP hn hx p2 p3 r7  _ h)
noncomputable def Xdo:Code:=match Try.f185.body with | some c=>c | none=>.skip
noncomputable def Qb2  (p2:Qa3) : Nat→Qa9→Qa3→(List Int)→Int→Option (List Int)
 | 0,_,_,_,_=>none
 | n+1,a3,a4,a5,v6 =>
 if (decide (v6<(p2.Threads.length:Int)))=true then
  Option.bind (rd p2.Threads v6) fun x8 =>
  if (a4.Fault == 0)=true then
   if (x8.State == 1)=true then
    Option.bind (Qd8 a3 a4 x8) fun r11 =>
    if (decide (r11<0))=true then
     Option.bind (app a5 [v6]) fun l13 =>
     Qb2 p2 n a3 a4 l13 (w64 (v6+1))
    else
     Qb2 p2 n a3 a4 a5 (w64 (v6+1))
   else
    if (x8.State == 4)=true then
     Option.bind (Qd8 a3 a4 x8) fun r17 =>
     if (decide (r17<0))=true then
      Option.bind (app a5 [v6]) fun l19 =>
      Qb2 p2 n a3 a4 l19 (w64 (v6+1))
     else
      Qb2 p2 n a3 a4 a5 (w64 (v6+1))
    else
     Qb2 p2 n a3 a4 a5 (w64 (v6+1))
  else
   Qb2 p2 n a3 a4 a5 (w64 (v6+1))
 else
  some a5
theorem Qni {E:Env} (hP:E.pk=pk0 Try.prog) (hn:E.n=42) (hx:FX E []) (p2:Qa3)  : ∀ (n:Nat) (a3:Qa9) (a4:Qa3) (a5:(List Int)) (v6:Int) (r:(List Int)),Qb2 p2 n a3 a4 a5 v6=some r→WAt E Xdo (FQ (Qdu Θ Try.f185.results.toList [] [] (AV.own 3 1 (r.map o3)) E)) [true,true,false,true,false] ⟨[(2,(AV.ptr 1 0 0)),(3,(AV.ptr 2 0 0)),(5,(AV.sl 3 0 (List.length (a5.map o3)))),(9,(AV.ro 6 (p2.Threads.map Qg5))),(10,(I (p2.Threads.length:Int))),(11,(I v6))],[(1,some ⟨136,4,[((Qhi a3))]⟩),(2,some ⟨141,4,[((Qmn a4))]⟩),(3,some ⟨3,1,(a5.map o3)⟩)],[1,2,3,JJ]⟩:=by
 intro n
 induction n with
 | zero=>intro a3 a4 a5 v6 r h;simp only [Qb2] at h;cases h
 | succ n ih =>
  intro a3 a4 a5 v6 r h
  simp only [Qb2] at h
  let Z0:=(decide (v6<(p2.Threads.length:Int)));let Z1:=B true;let Z3:=Qhi a3;let Z4:=Qmn a4;let Z7:=a5.map o3;let Z8:=(([v6].map o3).drop 0).take ([v6].map o3).length;let Z9:=B false
  rcases itS h with ⟨c7,h⟩ | ⟨c23,h⟩
  ·obtain ⟨x8,hx8,h⟩:=bnS h
   let Z2:=B (x8.State == 1);let Z5:=[(AV.agg Z3),(AV.agg Z4),(AV.agg ((Qg5 x8)))]
   let H1:List Hn:=[hT 1,hh 3 (.row (Qg5 x8)),hW 5 1001]
   let P2:List Prop:=[Z0=true,(0:Int)≤v6,(p2.Threads.map Qg5)[v6.toNat]? = some (Qg5 x8)]
   have AP2:Qb0 P2:=⟨c7,(rd0 hx8),(rdM Qg5 hx8),trivial⟩
   rcases itS h with ⟨c9,h⟩ | ⟨c22,h⟩
   ·let P3:List Prop:=P2++[(B (a4.Fault == 0))=Z1]
    have AP3:Qb0 P3:=Qag AP2 ⟨(Qb5 c9),trivial⟩
    rcases itS h with ⟨c10,h⟩ | ⟨c15,h⟩
    ·obtain ⟨r11,hr11,h⟩:=bnS h
     let H4:List Hn:=H1++[hO 11 Z1,hO 15 Z1,hh 25 (.callV [[],[],[]] (I r11))]
     let P5:List Prop:=P3++[Z2=Z1,Qab Try.prog 190 Z5 (I r11),Qa8 (I r11)=true]
     have AP5:Qb0 P5:=Qag AP3 ⟨(Qb5 c10),(Qll hr11),rfl,trivial⟩
     rcases itS h with ⟨c12,h⟩ | ⟨c14,h⟩
     ·obtain ⟨l13,hl13,h⟩:=bnS h
      exact (let Z6:=l13.map o3;gT hP hn hx (H4++[hT 28,hW 31 1002,hh 32 (.app 1003 Z6)]) [(1,1),(2,2),(1003,3)] [2,3,5,9,10,11] [] (P5++[(decide (r11<0))=true,Z7.take Z7.length++Z8=Z6,Z8.all (fun r=>r.all AV.plain)=true,Z6.length * 8≤140737488355328,Z6.length≤140737488355328,Qa6 [(1,1),(2,2),(1003,3)] [Z3],Qa6 [(1,1),(2,2),(1003,3)] [Z4],Qa6 [(1,1),(2,2),(1003,3)] Z6]) (Qag AP5 ⟨c12,(Qiw o3 hl13),(plD pa3),(Qnn o3 hl13 (by decide)),(Qnm o3 hl13),(rok (Qb1 Qit a3)),(rok (Qb1 Qm2 a4)),(rok (Qa7 t3)),trivial⟩) (ih a3 a4 l13 (w64 (v6+1)) _ h))
     ·exact gT hP hn hx (H4++[hF 28]) [(1,1),(2,2),(3,3)] [2,3,5,9,10,11] [] (P5++[(decide (r11<0))=false,Qa6 [(1,1),(2,2),(3,3)] [Z3],Qa6 [(1,1),(2,2),(3,3)] [Z4],Qa6 [(1,1),(2,2),(3,3)] Z7]) (Qag AP5 ⟨c14,(rok (Qb1 Qit a3)),(rok (Qb1 Qm2 a4)),(rok (Qa7 t3)),trivial⟩) (ih a3 a4 a5 (w64 (v6+1)) _ h)
    ·rcases itS h with ⟨c16,h⟩ | ⟨c21,h⟩
     ·obtain ⟨r17,hr17,h⟩:=bnS h
      let H6:List Hn:=H1++[hO 11 Z1,hO 15 Z9,hO 21 Z1,hh 25 (.callV [[],[],[]] (I r17))]
      let P7:List Prop:=P3++[Z2=Z9,(B (x8.State == 4))=Z1,Qab Try.prog 190 Z5 (I r17),Qa8 (I r17)=true]
      have AP7:Qb0 P7:=Qag AP3 ⟨(Qb5 c15),(Qb5 c16),(Qll hr17),rfl,trivial⟩
      rcases itS h with ⟨c18,h⟩ | ⟨c20,h⟩
      ·obtain ⟨l19,hl19,h⟩:=bnS h
       exact (let Z10:=l19.map o3;gT hP hn hx (H6++[hT 28,hW 31 1004,hh 32 (.app 1005 Z10)]) [(1,1),(2,2),(1005,3)] [2,3,5,9,10,11] [] (P7++[(decide (r17<0))=true,Z7.take Z7.length++Z8=Z10,Z8.all (fun r=>r.all AV.plain)=true,Z10.length * 8≤140737488355328,Z10.length≤140737488355328,Qa6 [(1,1),(2,2),(1005,3)] [Z3],Qa6 [(1,1),(2,2),(1005,3)] [Z4],Qa6 [(1,1),(2,2),(1005,3)] Z10]) (Qag AP7 ⟨c18,(Qiw o3 hl19),(plD pa3),(Qnn o3 hl19 (by decide)),(Qnm o3 hl19),(rok (Qb1 Qit a3)),(rok (Qb1 Qm2 a4)),(rok (Qa7 t3)),trivial⟩) (ih a3 a4 l19 (w64 (v6+1)) _ h))
      ·exact gT hP hn hx (H6++[hF 28]) [(1,1),(2,2),(3,3)] [2,3,5,9,10,11] [] (P7++[(decide (r17<0))=false,Qa6 [(1,1),(2,2),(3,3)] [Z3],Qa6 [(1,1),(2,2),(3,3)] [Z4],Qa6 [(1,1),(2,2),(3,3)] Z7]) (Qag AP7 ⟨c20,(rok (Qb1 Qit a3)),(rok (Qb1 Qm2 a4)),(rok (Qa7 t3)),trivial⟩) (ih a3 a4 a5 (w64 (v6+1)) _ h)
     ·exact gT hP hn hx (H1++[hO 11 Z1,hO 15 Z9,hO 21 Z9]) [(1,1),(2,2),(3,3)] [2,3,5,9,10,11] [] (P3++[Z2=Z9,(B (x8.State == 4))=Z9,Qa6 [(1,1),(2,2),(3,3)] [Z3],Qa6 [(1,1),(2,2),(3,3)] [Z4],Qa6 [(1,1),(2,2),(3,3)] Z7]) (Qag AP3 ⟨(Qb5 c15),(Qb5 c21),(rok (Qb1 Qit a3)),(rok (Qb1 Qm2 a4)),(rok (Qa7 t3)),trivial⟩) (ih a3 a4 a5 (w64 (v6+1)) _ h)
   ·exact gT hP hn hx (H1++[hO 11 Z9]) [(1,1),(2,2),(3,3)] [2,3,5,9,10,11] [] (P2++[(B (a4.Fault == 0))=Z9,Qa6 [(1,1),(2,2),(3,3)] [Z3],Qa6 [(1,1),(2,2),(3,3)] [Z4],Qa6 [(1,1),(2,2),(3,3)] Z7]) (Qag AP2 ⟨(Qb5 c22),(rok (Qb1 Qit a3)),(rok (Qb1 Qm2 a4)),(rok (Qa7 t3)),trivial⟩) (ih a3 a4 a5 (w64 (v6+1)) _ h)
  ·obtain rfl:=sj h
   exact gR hP hn [hF 1] [] .own [Z0=false,Qa1 (Z7.take Z7.length)=true,Z7.take Z7.length=Z7,Qa4 Z7=true] ⟨c23,(Qay t3),Qax,(Qaa n3),trivial⟩
noncomputable def Qdd (p1:Qa9) (p2:Qa3) : Option (List Int):=
 Qb2 p2 FU p1 p2 [] 0
theorem Qkr {p1:Qa9} {p2:Qa3} {r:(List Int)} (h:Qdd p1 p2=some r) : Qab Try.prog 185 [(AV.agg ((Qhi p1))),(AV.agg ((Qmn p2)))] (AV.own 3 1 (r.map o3)):=by
 refine gM Try.func185 42 Xdo fun E hP hn hx=>?_
 unfold Qdd at h
 exact (let Z0:=(I (p2.Threads.length:Int));gT hP hn hx [hW 0 1001,hW 1 1002,hO 6 Z0,hh 8 (.nil 5 1003 3 1)] [(1001,1),(1002,2),(1003,3)] [2,3,5,9,10,11] [] [AV.lit (.int .i64 (((p2.Threads.map Qg5).length:Nat) : Int))=Z0,Qa6 [(1001,1),(1002,2),(1003,3)] [((Qhi p1))],Qa6 [(1001,1),(1002,2),(1003,3)] [((Qmn p2))],Qa6 [(1001,1),(1002,2),(1003,3)] ([].map o3)] ⟨(Qfn Qg5),(rok (Qb1 Qit p1)),(rok (Qb1 Qm2 p2)),(rok (Qa7 t3)),trivial⟩ (Qni hP hn hx p2 FU p1 p2 [] 0 _ h))
noncomputable def Xhn:Code:=match Try.f189.body with | some c=>c | none=>.skip
noncomputable def Qe1 (p1:Int) : Option Qa2:=
 some (Qa2.mk p1 0 1 (-1) (-1) [])
theorem Qje {p1:Int} {r:Qa2} (h:Qe1 p1=some r) : Qab Try.prog 189 [(I p1)] (AV.agg (Qap r)):=by
 refine gM Try.func189 5 Xhn fun E hP hn hx=>?_
 unfold Qe1 at h
 obtain rfl:=sj h
 exact (let Z0:=I (-1);gR hP hn [hW 0 1001] [] (.agg [.raw,.raw,.raw,.raw,.raw,.own]) [(I p1)=(I p1),Qa8 (I p1)=true,(I 0)=(I 0),Qa8 (I 0)=true,(I 1)=(I 1),Qa8 (I 1)=true,Z0=Z0,Qa8 Z0=true,Z0=Z0,Qa8 Z0=true] ⟨rfl,rfl,rfl,rfl,rfl,rfl,rfl,rfl,rfl,rfl,trivial⟩)
noncomputable def Qy5:Code:=match Try.f183.body with | some c=>c | none=>.skip
noncomputable def Qea   : Nat→Qa9→Qa3→Qa3→Int→Option Qa3
 | 0,_,_,_,_=>none
 | n+1,a10,a11,a12,v13 =>
 if (decide (v13<a10.Locks))=true then
  Option.bind (app a12.Owner [(-1)]) fun l15 =>
  Qea n a10 a11 (Qa3.mk a12.Threads a12.Cells l15 a12.Fault) (w64 (v13+1))
 else
  some (Qa3.mk a12.Threads a12.Cells a12.Owner a12.Fault)
theorem Qsb {E:Env} (hP:E.pk=pk0 Try.prog) (hn:E.n=32) (hx:FX E [])   : ∀ (n:Nat) (a10:Qa9) (a11:Qa3) (a12:Qa3) (v13:Int) (r:Qa3),Qea  n a10 a11 a12 v13=some r→WAt E Qy5 (FQ (Qdu Θ Try.f183.results.toList [] [] (AV.agg (Qj4 r)) E)) [true,true,true,false,true,false] ⟨[(1,(AV.ptr 1 0 0)),(2,(AV.ptr 2 0 0)),(3,(AV.ptr 3 0 0)),(5,(I v13))],[(1,some ⟨136,4,[((Qhi a10))]⟩),(2,some ⟨141,4,[((Qj4 a11))]⟩),(3,some ⟨141,4,[((Qj4 a12))]⟩)],[1,2,3,JJ]⟩:=by
 intro n
 induction n with
 | zero=>intro a10 a11 a12 v13 r h;simp only [Qea] at h;cases h
 | succ n ih =>
  intro a10 a11 a12 v13 r h
  simp only [Qea] at h
  let Z0:=Qj4 a12;let Z1:=a12.Owner.map o3;let Z2:=a12.Threads.map Qap;let Z3:=AV.own 198 6 Z2;let Z4:=a12.Cells.map Qb7;let Z5:=AV.own 156 1 Z4;let Z6:=AV.sl 1001 0 Z1.length;let Z7:=I a12.Fault;let Z12:=decide (v13<a10.Locks);let Z13:=AV.own 3 1 Z1;let Z14:=(([(-1)].map o3).drop 0).take ([(-1)].map o3).length;let Z16:=AV.sl 1004 0 Z2.length;let Z17:=[Z16,Z5,Z13,Z7];let Z18:=AV.sl 1005 0 Z4.length;let Z19:=[Z16,Z18,Z13,Z7];let Z20:=AV.sl 1006 0 Z1.length;let Z21:=[[Z16,Z18,Z20,Z7]]
  rcases itS h with ⟨c14,h⟩ | ⟨c16,h⟩
  ·obtain ⟨l15,hl15,h⟩:=bnS h
   exact (let Z8:=l15.map o3;let Z9:=AV.sl 1003 0 Z8.length;let Z10:=[Z3,Z5,Z9,Z7];let Z11:=[[Z3,Z5,(AV.own 3 1 Z8),Z7]];let Z15:=Qa3.mk a12.Threads a12.Cells l15 a12.Fault;gT hP hn hx [hT 4,hh 6 (.unpack 3 1001 0 2 Z0 3 1 Z1 [[Z3,Z5,Z6,Z7]]),hW 7 1002,hh 8 (.app 1003 Z8),hh 14 (.pack 3 1003 0 2 Z10 Z11)] [(1,1),(2,2),(3,3)] [1,2,3,5] [] [Z12=true,[Z0][0]? = some Z0,Z0[2]? = some Z13,0<1,[Z0].set 0 (Z0.set 2 Z6)=[[Z3,Z5,Z6,Z7]],Z1.take Z1.length++Z14=Z8,Z14.all (fun r=>r.all AV.plain)=true,Z8.length * 8≤140737488355328,Z8.length≤140737488355328,[Z10][0]? = some Z10,Z10[2]? = some Z9,Qa1 Z8=true,[Z10].set 0 (Z10.set 2 (AV.own 3 1 Z8))=Z11,Qa6 [(1,1),(2,2),(3,3)] [((Qhi a10))],Qa6 [(1,1),(2,2),(3,3)] [((Qj4 a11))],Qa6 [(1,1),(2,2),(3,3)] Z11] ⟨c14,rfl,rfl,(by decide),rfl,(Qiw o3 hl15),(plD pa3),(Qnn o3 hl15 (by decide)),(Qnm o3 hl15),rfl,rfl,(Qa7 t3),rfl,(rok (Qb1 Qit a10)),(rok (Qb1 Qm2 a11)),(rok (Qb1 Qm2 Z15)),trivial⟩ (ih a10 a11 Z15 (w64 (v13+1)) _ h))
  ·obtain rfl:=sj h
   exact gR hP hn [hF 4,hh 5 (.unpack 3 1004 0 0 Z0 198 6 Z2 [Z17]),hh 5 (.unpack 3 1005 0 1 Z17 156 1 Z4 [Z19]),hh 5 (.unpack 3 1006 0 2 Z19 3 1 Z1 Z21)] [] (.agg [.own,.own,.own,.raw]) [Z12=false,[Z0][0]? = some Z0,Z0[0]? = some Z3,0<6,[Z0].set 0 (Z0.set 0 Z16)=[Z17],[Z17][0]? = some Z17,Z17[1]? = some Z5,0<1,[Z17].set 0 (Z17.set 1 Z18)=[Z19],[Z19][0]? = some Z19,Z19[2]? = some Z13,0<1,[Z19].set 0 (Z19.set 2 Z20)=Z21,Qa1 (Z2.take Z2.length)=true,Z2.take Z2.length=Z2,Qa4 Z2=true,Qa1 (Z4.take Z4.length)=true,Z4.take Z4.length=Z4,Qa4 Z4=true,Qa1 (Z1.take Z1.length)=true,Z1.take Z1.length=Z1,Qa4 Z1=true,Z7=Z7,Qa8 Z7=true] ⟨c16,rfl,rfl,(by decide),rfl,rfl,rfl,(by decide),rfl,rfl,rfl,(by decide),rfl,(Qay Qg7),Qax,(Qaa Qi3),(Qay Qdh),Qax,(Qaa Qhh),(Qay t3),Qax,(Qaa n3),rfl,rfl,trivial⟩
noncomputable def Qe7   : Nat→Qa9→Qa3→Qa3→Int→Option Qa3
 | 0,_,_,_,_=>none
 | n+1,a3,a4,a5,v6 =>
 if (decide (v6<a3.Cells))=true then
  Option.bind (app a5.Cells [0]) fun l8 =>
  Qe7 n a3 a4 (Qa3.mk a5.Threads l8 a5.Owner a5.Fault) (w64 (v6+1))
 else
  Qea FU a3 a4 a5 0
theorem Qrn {E:Env} (hP:E.pk=pk0 Try.prog) (hn:E.n=32) (hx:FX E [])   : ∀ (n:Nat) (a3:Qa9) (a4:Qa3) (a5:Qa3) (v6:Int) (r:Qa3),Qe7  n a3 a4 a5 v6=some r→WAt E Qy5 (FQ (Qdu Θ Try.f183.results.toList [] [] (AV.agg (Qj4 r)) E)) [true,true,false,true,false] ⟨[(1,(AV.ptr 1 0 0)),(2,(AV.ptr 2 0 0)),(3,(AV.ptr 3 0 0)),(4,(I v6))],[(1,some ⟨136,4,[((Qhi a3))]⟩),(2,some ⟨141,4,[((Qj4 a4))]⟩),(3,some ⟨141,4,[((Qj4 a5))]⟩)],[1,2,3,JJ]⟩:=by
 intro n
 induction n with
 | zero=>intro a3 a4 a5 v6 r h;simp only [Qe7] at h;cases h
 | succ n ih =>
  intro a3 a4 a5 v6 r h
  simp only [Qe7] at h
  let Z0:=Qj4 a5;let Z1:=a5.Cells.map Qb7;let Z2:=AV.own 198 6 (a5.Threads.map Qap);let Z3:=AV.sl 1001 0 Z1.length;let Z4:=AV.own 3 1 (a5.Owner.map o3);let Z5:=[[Z2,Z3,Z4,(I a5.Fault)]];let Z10:=decide (v6<a3.Cells);let Z11:=(([0].map Qb7).drop 0).take ([0].map Qb7).length
  rcases itS h with ⟨c7,h⟩ | ⟨c9,h⟩
  ·obtain ⟨l8,hl8,h⟩:=bnS h
   exact (let Z6:=l8.map Qb7;let Z7:=AV.sl 1003 0 Z6.length;let Z8:=[Z2,Z7,Z4,(I a5.Fault)];let Z9:=[[Z2,(AV.own 156 1 Z6),Z4,(I a5.Fault)]];let Z12:=Qa3.mk a5.Threads l8 a5.Owner a5.Fault;gT hP hn hx [hT 4,hh 6 (.unpack 3 1001 0 1 Z0 156 1 Z1 Z5),hW 7 1002,hh 8 (.app 1003 Z6),hh 14 (.pack 3 1003 0 1 Z8 Z9)] [(1,1),(2,2),(3,3)] [1,2,3,4] [] [Z10=true,[Z0][0]? = some Z0,Z0[1]? = some (AV.own 156 1 Z1),0<1,[Z0].set 0 (Z0.set 1 Z3)=Z5,Z1.take Z1.length++Z11=Z6,Z11.all (fun r=>r.all AV.plain)=true,Z6.length * 8≤140737488355328,Z6.length≤140737488355328,[Z8][0]? = some Z8,Z8[1]? = some Z7,Qa1 Z6=true,[Z8].set 0 (Z8.set 1 (AV.own 156 1 Z6))=Z9,Qa6 [(1,1),(2,2),(3,3)] [((Qhi a3))],Qa6 [(1,1),(2,2),(3,3)] [((Qj4 a4))],Qa6 [(1,1),(2,2),(3,3)] Z9] ⟨c7,rfl,rfl,(by decide),rfl,(Qiw Qb7 hl8),(plD Qp6),(Qnn Qb7 hl8 (by decide)),(Qnm Qb7 hl8),rfl,rfl,(Qa7 Qdh),rfl,(rok (Qb1 Qit a3)),(rok (Qb1 Qm2 a4)),(rok (Qb1 Qm2 Z12)),trivial⟩ (ih a3 a4 Z12 (w64 (v6+1)) _ h))
  ·exact gT hP hn hx [hF 4] [(1,1),(2,2),(3,3)] [1,2,3,5] [] [Z10=false,Qa6 [(1,1),(2,2),(3,3)] [((Qhi a3))],Qa6 [(1,1),(2,2),(3,3)] [((Qj4 a4))],Qa6 [(1,1),(2,2),(3,3)] [Z0]] ⟨c9,(rok (Qb1 Qit a3)),(rok (Qb1 Qm2 a4)),(rok (Qb1 Qm2 a5)),trivial⟩ (Qsb hP hn hx FU a3 a4 a5 0 _ h)
noncomputable def Qha (p1:Qa9) : Option Qa3:=
 Option.bind (Qe1 0) fun r2 =>
 Qe7 FU p1 (Qa3.mk [] [] [] 0) (Qa3.mk [(Qa2.mk r2.Routine r2.Pc r2.State r2.Cond r2.Lock r2.Stack)] [] [] 0) 0
theorem Qx8 {p1:Qa9} {r:Qa3} (h:Qha p1=some r) : Qab Try.prog 183 [(AV.agg ((Qhi p1)))] (AV.agg (Qj4 r)):=by
 refine gM Try.func183 32 Qy5 fun E hP hn hx=>?_
 unfold Qha at h
 obtain ⟨r2,hr2,h⟩:=bnS h
 exact (let Z0:=AV.agg (Qap r2);let Z1:=I 0;let Z2:=AV.own 198 6 ([].map Qap);let Z3:=[[Z2,nS,nS,Z1]];let Z4:=AV.own 156 1 ([].map Qb7);let Z5:=[[Z2,Z4,nS,Z1]];let Z6:=AV.own 3 1 ([].map o3);let Z7:=[[Z2,Z4,Z6,Z1]];let Z8:=r2.Stack.map Qb7;let Z9:=AV.sl 1003 0 Z8.length;let Z10:=[(I r2.Routine),(I r2.Pc),(I r2.State),(I r2.Cond),(I r2.Lock),Z9];let Z11:=AV.sl 1004 0 [Z10].length;let Z12:=[[Z11,Z4,nS,Z1]];let Z13:=[Z11,Z4,Z6,Z1];let Z14:=[(Qa2.mk r2.Routine r2.Pc r2.State r2.Cond r2.Lock r2.Stack)].map Qap;let Z15:=[[(AV.own 198 6 Z14),Z4,Z6,Z1]];let Z16:=Qa3.mk [] [] [] 0;let Z17:=Qa3.mk [(Qa2.mk r2.Routine r2.Pc r2.State r2.Cond r2.Lock r2.Stack)] [] [] 0;gT hP hn hx [hW 0 1001,hW 1 1002,hh 2 (.call [] Z0 [1003]),hW 3 1004,hW 5 1005,hh 8 (.own0 1002 1 [] [nS,nS,Z1] 198 6 Z3),hh 8 (.own0 1002 1 [Z2] [nS,Z1] 156 1 Z5),hh 8 (.own0 1002 1 [Z2,Z4] [Z1] 3 1 Z7),hh 8 (.own0 1005 1 [Z11] [nS,Z1] 156 1 Z12),hh 8 (.own0 1005 1 [Z11,Z4] [Z1] 3 1 [Z13]),hh 8 (.pack 1004 1003 0 5 Z10 Z14),hh 8 (.pack 1005 1004 0 0 Z13 Z15)] [(1001,1),(1002,2),(1005,3)] [1,2,3,4] [] [Qab Try.prog 189 [Z1] Z0,Qez Z0=true,[[nS,nS,nS,Z1]]=List.replicate 1 ([]++AV.lit (.slice none 0 0) :: [nS,nS,Z1]),List.replicate 1 ([]++AV.own 198 6 [] :: [nS,nS,Z1])=Z3,Z3=List.replicate 1 ([Z2]++AV.lit (.slice none 0 0) :: [nS,Z1]),List.replicate 1 ([Z2]++AV.own 156 1 [] :: [nS,Z1])=Z5,Z5=List.replicate 1 ([Z2,Z4]++AV.lit (.slice none 0 0) :: [Z1]),List.replicate 1 ([Z2,Z4]++AV.own 3 1 [] :: [Z1])=Z7,[[Z11,nS,nS,Z1]]=List.replicate 1 ([Z11]++AV.lit (.slice none 0 0) :: [nS,Z1]),List.replicate 1 ([Z11]++AV.own 156 1 [] :: [nS,Z1])=Z12,Z12=List.replicate 1 ([Z11,Z4]++AV.lit (.slice none 0 0) :: [Z1]),List.replicate 1 ([Z11,Z4]++AV.own 3 1 [] :: [Z1])=[Z13],[Z10][0]? = some Z10,Z10[5]? = some Z9,Qa1 Z8=true,[Z10].set 0 (Z10.set 5 (AV.own 156 1 Z8))=Z14,[Z13][0]? = some Z13,Z13[0]? = some (AV.sl 1004 0 Z14.length),Qa1 Z14=true,[Z13].set 0 (Z13.set 0 (AV.own 198 6 Z14))=Z15,Qa6 [(1001,1),(1002,2),(1005,3)] [((Qhi p1))],Qa6 [(1001,1),(1002,2),(1005,3)] Z7,Qa6 [(1001,1),(1002,2),(1005,3)] Z15] ⟨(Qje hr2),(by simp +zetaDelta only [Qez,Qcw,Qaa Qhh,Qap,Bool.and_self]),rfl,rfl,rfl,rfl,rfl,rfl,rfl,rfl,rfl,rfl,rfl,rfl,(Qa7 Qdh),rfl,rfl,(pkS lnq),(Qa7 Qg7),rfl,(rok (Qb1 Qit p1)),(rok (Qb1 Qm2 Z16)),(rok (Qb1 Qm2 Z17)),trivial⟩ (Qrn hP hn hx FU p1 Z16 Z17 0 _ h))
noncomputable def Qyk:Code:=match Try.f199.body with | some c=>c | none=>.skip
noncomputable def Qev  (p1:Int) (v7:Bool) : Option (Int×Int):=
 if v7=true then
  some (1,0)
 else
  Option.bind (Qbu p1 4 9) fun r10 =>
  if r10=true then
   some (2,1)
  else
   some (0,0)
theorem Qhg {E:Env} (hP:E.pk=pk0 Try.prog) (hn:E.n=15) (hx:FX E []) (p1:Int)  (v7:Bool) (r:(Int×Int)) (h:Qev p1 v7=some r) : WAt E Qyk (FQ (Qdu Θ Try.f199.results.toList [] [] (AV.tup [(I r.1),(I r.2)]) E)) [true,false,true,false,true,true,true] ⟨[(0,(I p1)),(9,(B v7))],[],[JJ]⟩:=by
 unfold Qev at h
 let Z0:=[(I p1),(I 4),(I 9)]
 rcases itS h with ⟨c8,h⟩ | ⟨c9,h⟩
 ·obtain rfl:=sj h
  exact gR hP hn [hT 0] [] (.agg [.raw,.raw]) [v7=true,(I 1)=(I 1),Qa8 (I 1)=true,(I 0)=(I 0),Qa8 (I 0)=true] ⟨c8,rfl,rfl,rfl,rfl,trivial⟩
 ·obtain ⟨r10,hr10,h⟩:=bnS h
  rcases itS h with ⟨c11,h⟩ | ⟨c12,h⟩
  ·obtain rfl:=sj h
   exact gR hP hn [hF 0,hh 2 (.callV [] (B r10)),hT 3] [] (.agg [.raw,.raw]) [v7=false,Qab Try.prog 81 Z0 (B r10),Qa8 (B r10)=true,r10=true,(I 2)=(I 2),Qa8 (I 2)=true,(I 1)=(I 1),Qa8 (I 1)=true] ⟨c9,(Qbj hr10),rfl,c11,rfl,rfl,rfl,rfl,trivial⟩
  ·obtain rfl:=sj h
   exact gR hP hn [hF 0,hh 2 (.callV [] (B r10)),hF 3] [] (.agg [.raw,.raw]) [v7=false,Qab Try.prog 81 Z0 (B r10),Qa8 (B r10)=true,r10=false,(I 0)=(I 0),Qa8 (I 0)=true,(I 0)=(I 0),Qa8 (I 0)=true] ⟨c9,(Qbj hr10),rfl,c12,rfl,rfl,rfl,rfl,trivial⟩
noncomputable def Qes  (p1:Int) (v3:Bool) : Option (Int×Int):=
 if v3=true then
  some (0,1)
 else
  if (p1 == 3)=true then
   Qev p1 (p1 == 3)
  else
   if (p1 == 11)=true then
    Qev p1 (p1 == 11)
   else
    Qev p1 (p1 == 15)
theorem Qh7 {E:Env} (hP:E.pk=pk0 Try.prog) (hn:E.n=15) (hx:FX E []) (p1:Int)  (v3:Bool) (r:(Int×Int)) (h:Qes p1 v3=some r) : WAt E Qyk (FQ (Qdu Θ Try.f199.results.toList [] [] (AV.tup [(I r.1),(I r.2)]) E)) [true,false,true,false,true] ⟨[(0,(I p1)),(4,(I p1)),(5,(B v3))],[],[JJ]⟩:=by
 unfold Qes at h
 rcases itS h with ⟨c4,h⟩ | ⟨c5,h⟩
 ·obtain rfl:=sj h
  exact gR hP hn [hT 0] [] (.agg [.raw,.raw]) [v3=true,(I 0)=(I 0),Qa8 (I 0)=true,(I 1)=(I 1),Qa8 (I 1)=true] ⟨c4,rfl,rfl,rfl,rfl,trivial⟩
 ·rcases itS h with ⟨c6,h⟩ | ⟨c13,h⟩
  ·exact gT hP hn hx [hF 0,hT 3] [] [0,9] [] [v3=false,(p1 == 3)=true] ⟨c5,c6,trivial⟩ (Qhg hP hn hx p1 (p1 == 3) _ h)
  ·rcases itS h with ⟨c14,h⟩ | ⟨c15,h⟩
   ·exact gT hP hn hx [hF 0,hF 3,hT 6] [] [0,9] [] [v3=false,(p1 == 3)=false,(p1 == 11)=true] ⟨c5,c13,c14,trivial⟩ (Qhg hP hn hx p1 (p1 == 11) _ h)
   ·exact gT hP hn hx [hF 0,hF 3,hF 6] [] [0,9] [] [v3=false,(p1 == 3)=false,(p1 == 11)=false] ⟨c5,c13,c15,trivial⟩ (Qhg hP hn hx p1 (p1 == 15) _ h)
noncomputable def Qfr (p1:Int) : Option (Int×Int):=
 if (p1 == 1)=true then
  Qes p1 (p1 == 1)
 else
  if (p1 == 2)=true then
   Qes p1 (p1 == 2)
  else
   Qes p1 (p1 == 14)
theorem Qjn {p1:Int} {r:(Int×Int)} (h:Qfr p1=some r) : Qab Try.prog 199 [(I p1)] (AV.tup [(I r.1),(I r.2)]):=by
 refine gM Try.func199 15 Qyk fun E hP hn hx=>?_
 unfold Qfr at h
 rcases itS h with ⟨c2,h⟩ | ⟨c16,h⟩
 ·exact gT hP hn hx [hT 5] [] [0,4,5] [] [(p1 == 1)=true] ⟨c2,trivial⟩ (Qh7 hP hn hx p1 (p1 == 1) _ h)
 ·rcases itS h with ⟨c17,h⟩ | ⟨c18,h⟩
  ·exact gT hP hn hx [hF 5,hT 8] [] [0,4,5] [] [(p1 == 1)=false,(p1 == 2)=true] ⟨c16,c17,trivial⟩ (Qh7 hP hn hx p1 (p1 == 2) _ h)
  ·exact gT hP hn hx [hF 5,hF 8] [] [0,4,5] [] [(p1 == 1)=false,(p1 == 2)=false] ⟨c16,c18,trivial⟩ (Qh7 hP hn hx p1 (p1 == 14) _ h)
noncomputable def Qpx:Code:=match Try.f193.body with | some c=>c | none=>.skip
noncomputable def Qdf  (p1:Qa3) (p3:GOp)  : Option Int:=
 if (p3.Code == 14)=true then
  if ((p1.Threads.length:Int) == 5)=true then
   some 4
  else
   some 0
 else
  some 0
theorem Qkv {E:Env} (hP:E.pk=pk0 Try.prog) (hn:E.n=84) (hx:FX E []) (p1:Qa3) (p3:GOp)   (r:Int) (h:Qdf p1 p3  = some r) : WAt E Qpx (FQ (Qdu Θ Try.f193.results.toList [] [] (I r) E)) [true,true,true,false,false,true,true,true,true,true,true] ⟨[(3,(AV.ptr 1 0 0)),(5,(AV.ptr 2 0 0))],[(1,some ⟨141,4,[((Qmn p1))]⟩),(2,some ⟨158,4,[((Qcb p3))]⟩)],[1,2,JJ]⟩:=by
 unfold Qdf at h
 let Z0:=(p1.Threads.length:Int)
 rcases itS h with ⟨c21,h⟩ | ⟨c24,h⟩
 ·let P1:List Prop:=[(B (p3.Code == 14))=(B true),AV.lit (.int .i64 (((p1.Threads.map Qg5).length:Nat) : Int))=(I Z0)]
  have AP1:Qb0 P1:=⟨(Qb5 c21),(Qfn Qg5),trivial⟩
  rcases itS h with ⟨c22,h⟩ | ⟨c23,h⟩
  ·obtain rfl:=sj h
   exact gR hP hn [hO 3 (B true),hO 6 (I Z0),hT 10] [] .raw (P1++[(Z0 == 5)=true,(I 4)=(I 4),Qa8 (I 4)=true]) (Qag AP1 ⟨c22,rfl,rfl,trivial⟩)
  ·obtain rfl:=sj h
   exact gR hP hn [hO 3 (B true),hO 6 (I Z0),hF 10] [] .raw (P1++[(Z0 == 5)=false,(I 0)=(I 0),Qa8 (I 0)=true]) (Qag AP1 ⟨c23,rfl,rfl,trivial⟩)
 ·obtain rfl:=sj h
  exact gR hP hn [hO 3 (B false)] [] .raw [(B (p3.Code == 14))=(B false),(I 0)=(I 0),Qa8 (I 0)=true] ⟨(Qb5 c24),rfl,rfl,trivial⟩
noncomputable def Qcc  (p1:Qa3) (p3:GOp) (x4:Qa2) (v14:Bool) : Option Int:=
 if v14=true then
  some 2
 else
  if (p3.Code == 15)=true then
   Option.bind (Qcv p1 x4) fun r18 =>
   if (decide (r18<0))=true then
    some 3
   else
    Qdf p1 p3
  else
   Qdf p1 p3
theorem Qi9 {E:Env} (hP:E.pk=pk0 Try.prog) (hn:E.n=84) (hx:FX E []) (p1:Qa3) (p3:GOp) (x4:Qa2)  (v14:Bool) (r:Int) (h:Qcc p1 p3 x4 v14=some r) : WAt E Qpx (FQ (Qdu Θ Try.f193.results.toList [] [] (I r) E)) [true,true,true,false,false,true,true,true] ⟨[(3,(AV.ptr 1 0 0)),(5,(AV.ptr 2 0 0)),(7,(AV.ptr 3 0 0)),(37,(B v14))],[(1,some ⟨141,4,[((Qmn p1))]⟩),(2,some ⟨158,4,[((Qcb p3))]⟩),(3,some ⟨198,6,[((Qg5 x4))]⟩)],[1,2,3,JJ]⟩:=by
 unfold Qcc at h
 rcases itS h with ⟨c15,h⟩ | ⟨c16,h⟩
 ·obtain rfl:=sj h
  exact gR hP hn [hT 0] [] .raw [v14=true,(I 2)=(I 2),Qa8 (I 2)=true] ⟨c15,rfl,rfl,trivial⟩
 ·rcases itS h with ⟨c17,h⟩ | ⟨c25,h⟩
  ·obtain ⟨r18,hr18,h⟩:=bnS h
   let P1:List Prop:=[v14=false,(B (p3.Code == 15))=(B true),Qab Try.prog 198 [(AV.agg ((Qmn p1))),(AV.agg ((Qg5 x4)))] (I r18),Qa8 (I r18)=true]
   have AP1:Qb0 P1:=⟨c16,(Qb5 c17),(Qhm hr18),rfl,trivial⟩
   rcases itS h with ⟨c19,h⟩ | ⟨c20,h⟩
   ·obtain rfl:=sj h
    exact gR hP hn [hF 0,hO 4 (B true),hh 7 (.callV [[],[]] (I r18)),hT 11] [] .raw (P1++[(decide (r18<0))=true,(I 3)=(I 3),Qa8 (I 3)=true]) (Qag AP1 ⟨c19,rfl,rfl,trivial⟩)
   ·exact gT hP hn hx [hF 0,hO 4 (B true),hh 7 (.callV [[],[]] (I r18)),hF 11] [(1,1),(2,2)] [3,5] [] (P1++[(decide (r18<0))=false,Qa6 [(1,1),(2,2)] [((Qmn p1))],Qa6 [(1,1),(2,2)] [((Qcb p3))]]) (Qag AP1 ⟨c20,(rok (Qb1 Qm2 p1)),(rok rfl),trivial⟩) (Qkv hP hn hx p1 p3  _ h)
  ·exact gT hP hn hx [hF 0,hO 4 (B false)] [(1,1),(2,2)] [3,5] [] [v14=false,(B (p3.Code == 15))=(B false),Qa6 [(1,1),(2,2)] [((Qmn p1))],Qa6 [(1,1),(2,2)] [((Qcb p3))]] ⟨c16,(Qb5 c25),(rok (Qb1 Qm2 p1)),(rok rfl),trivial⟩ (Qkv hP hn hx p1 p3  _ h)
noncomputable def Qhj  (p1:Qa3) (p3:GOp) (x4:Qa2) (v13:Bool) : Option Int:=
 Qcc p1 p3 x4 v13
theorem Qqj {E:Env} (hP:E.pk=pk0 Try.prog) (hn:E.n=84) (hx:FX E []) (p1:Qa3) (p3:GOp) (x4:Qa2)  (v13:Bool) (r:Int) (h:Qhj p1 p3 x4 v13=some r) : WAt E Qpx (FQ (Qdu Θ Try.f193.results.toList [] [] (I r) E)) [true,true,true,false,false,true,true,false,true,false] ⟨[(3,(AV.ptr 1 0 0)),(5,(AV.ptr 2 0 0)),(7,(AV.ptr 3 0 0)),(37,(B v13))],[(1,some ⟨141,4,[((Qmn p1))]⟩),(2,some ⟨158,4,[((Qcb p3))]⟩),(3,some ⟨198,6,[((Qg5 x4))]⟩)],[1,2,3,JJ]⟩:=by
 unfold Qhj at h
 exact gT hP hn hx [] [(1,1),(2,2),(3,3)] [3,5,7,37] [] [Qa6 [(1,1),(2,2),(3,3)] [((Qmn p1))],Qa6 [(1,1),(2,2),(3,3)] [((Qcb p3))],Qa6 [(1,1),(2,2),(3,3)] [((Qg5 x4))]] ⟨(rok (Qb1 Qm2 p1)),(rok rfl),(rok (Qb1 Qg7 x4)),trivial⟩ (Qi9 hP hn hx p1 p3 x4 v13 _ h)
noncomputable def Qfg  (p1:Qa3) (p2:Int) (p3:GOp) (x4:Qa2)  : Option Int:=
 if (p3.Code == 16)=true then
  Option.bind (rd p1.Owner p3.B) fun x28 =>
  Qcc p1 p3 x4 (x28 != p2)
 else
  Qcc p1 p3 x4 false
theorem Qkt {E:Env} (hP:E.pk=pk0 Try.prog) (hn:E.n=84) (hx:FX E []) (p1:Qa3) (p2:Int) (p3:GOp) (x4:Qa2)   (r:Int) (h:Qfg p1 p2 p3 x4  = some r) : WAt E Qpx (FQ (Qdu Θ Try.f193.results.toList [] [] (I r) E)) [true,true,true,false,false,true,true,false,true,true] ⟨[(1,(I p2)),(3,(AV.ptr 1 0 0)),(5,(AV.ptr 2 0 0)),(7,(AV.ptr 3 0 0))],[(1,some ⟨141,4,[((Qmn p1))]⟩),(2,some ⟨158,4,[((Qcb p3))]⟩),(3,some ⟨198,6,[((Qg5 x4))]⟩)],[1,2,3,JJ]⟩:=by
 unfold Qfg at h
 rcases itS h with ⟨c27,h⟩ | ⟨c29,h⟩
 ·obtain ⟨x28,hx28,h⟩:=bnS h
  exact gT hP hn hx [hO 3 (B true),hh 8 (.row (o3 x28))] [(1,1),(2,2),(3,3)] [3,5,7,37] [] [(B (p3.Code == 16))=(B true),(0:Int)≤p3.B,(p1.Owner.map o3)[p3.B.toNat]? = some (o3 x28),Qa6 [(1,1),(2,2),(3,3)] [((Qmn p1))],Qa6 [(1,1),(2,2),(3,3)] [((Qcb p3))],Qa6 [(1,1),(2,2),(3,3)] [((Qg5 x4))]] ⟨(Qb5 c27),(rd0 hx28),(rdM o3 hx28),(rok (Qb1 Qm2 p1)),(rok rfl),(rok (Qb1 Qg7 x4)),trivial⟩ (Qi9 hP hn hx p1 p3 x4 (x28 != p2) _ h)
 ·exact gT hP hn hx [hO 3 (B false)] [(1,1),(2,2),(3,3)] [3,5,7,37] [] [(B (p3.Code == 16))=(B false),Qa6 [(1,1),(2,2),(3,3)] [((Qmn p1))],Qa6 [(1,1),(2,2),(3,3)] [((Qcb p3))],Qa6 [(1,1),(2,2),(3,3)] [((Qg5 x4))]] ⟨(Qb5 c29),(rok (Qb1 Qm2 p1)),(rok rfl),(rok (Qb1 Qg7 x4)),trivial⟩ (Qi9 hP hn hx p1 p3 x4 false _ h)
noncomputable def Qhk  (p1:Qa3) (p2:Int) (p3:GOp) (x4:Qa2)  : Option Int:=
 if (p3.Code == 13)=true then
  Option.bind (rd p1.Owner p3.A) fun x11 =>
  if (x11 != p2)=true then
   Qhj p1 p3 x4 (x11 != p2)
  else
   Qfg p1 p2 p3 x4
 else
  Qfg p1 p2 p3 x4
theorem Qqp {E:Env} (hP:E.pk=pk0 Try.prog) (hn:E.n=84) (hx:FX E []) (p1:Qa3) (p2:Int) (p3:GOp) (x4:Qa2)   (r:Int) (h:Qhk p1 p2 p3 x4  = some r) : WAt E Qpx (FQ (Qdu Θ Try.f193.results.toList [] [] (I r) E)) [true,true,true,false,false,true,true] ⟨[(1,(I p2)),(3,(AV.ptr 1 0 0)),(5,(AV.ptr 2 0 0)),(7,(AV.ptr 3 0 0))],[(1,some ⟨141,4,[((Qmn p1))]⟩),(2,some ⟨158,4,[((Qcb p3))]⟩),(3,some ⟨198,6,[((Qg5 x4))]⟩)],[1,2,3,JJ]⟩:=by
 unfold Qhk at h
 rcases itS h with ⟨c10,h⟩ | ⟨c30,h⟩
 ·obtain ⟨x11,hx11,h⟩:=bnS h
  let P1:List Prop:=[(B (p3.Code == 13))=(B true),(0:Int)≤p3.A,(p1.Owner.map o3)[p3.A.toNat]? = some (o3 x11)]
  have AP1:Qb0 P1:=⟨(Qb5 c10),(rd0 hx11),(rdM o3 hx11),trivial⟩
  rcases itS h with ⟨c12,h⟩ | ⟨c26,h⟩
  ·exact gT hP hn hx [hO 3 (B true),hh 8 (.row (o3 x11)),hT 14] [(1,1),(2,2),(3,3)] [3,5,7,37] [] (P1++[(x11 != p2)=true,Qa6 [(1,1),(2,2),(3,3)] [((Qmn p1))],Qa6 [(1,1),(2,2),(3,3)] [((Qcb p3))],Qa6 [(1,1),(2,2),(3,3)] [((Qg5 x4))]]) (Qag AP1 ⟨c12,(rok (Qb1 Qm2 p1)),(rok rfl),(rok (Qb1 Qg7 x4)),trivial⟩) (Qqj hP hn hx p1 p3 x4 (x11 != p2) _ h)
  ·exact gT hP hn hx [hO 3 (B true),hh 8 (.row (o3 x11)),hF 14] [(1,1),(2,2),(3,3)] [1,3,5,7] [] (P1++[(x11 != p2)=false,Qa6 [(1,1),(2,2),(3,3)] [((Qmn p1))],Qa6 [(1,1),(2,2),(3,3)] [((Qcb p3))],Qa6 [(1,1),(2,2),(3,3)] [((Qg5 x4))]]) (Qag AP1 ⟨c26,(rok (Qb1 Qm2 p1)),(rok rfl),(rok (Qb1 Qg7 x4)),trivial⟩) (Qkt hP hn hx p1 p2 p3 x4  _ h)
 ·exact gT hP hn hx [hO 3 (B false)] [(1,1),(2,2),(3,3)] [1,3,5,7] [] [(B (p3.Code == 13))=(B false),Qa6 [(1,1),(2,2),(3,3)] [((Qmn p1))],Qa6 [(1,1),(2,2),(3,3)] [((Qcb p3))],Qa6 [(1,1),(2,2),(3,3)] [((Qg5 x4))]] ⟨(Qb5 c30),(rok (Qb1 Qm2 p1)),(rok rfl),(rok (Qb1 Qg7 x4)),trivial⟩ (Qkt hP hn hx p1 p2 p3 x4  _ h)
noncomputable def Qir (p1:Qa3) (p2:Int) (p3:GOp) : Option Int:=
 Option.bind (rd p1.Threads p2) fun x4 =>
 Option.bind (Qfr p3.Code) fun r5 =>
 if (decide ((x4.Stack.length:Int)<r5.1))=true then
  some 1
 else
  if (decide ((w64 ((w64 ((x4.Stack.length:Int) - r5.1))+r5.2)) > 8))=true then
   some 1
  else
   Qhk p1 p2 p3 x4
theorem Qud {p1:Qa3} {p2:Int} {p3:GOp} {r:Int} (h:Qir p1 p2 p3=some r) : Qab Try.prog 193 [(AV.agg ((Qmn p1))),(I p2),(AV.agg ((Qcb p3)))] (I r):=by
 refine gM Try.func193 84 Qpx fun E hP hn hx=>?_
 unfold Qir at h
 obtain ⟨x4,hx4,h⟩:=bnS h
 obtain ⟨r5,hr5,h⟩:=bnS h
 let Z0:=AV.tup [(I r5.1),(I r5.2)];let Z1:=(x4.Stack.length:Int);let Z2:=(((x4.Stack.map Qb7).length:Nat) : Int);let Z3:=B (decide (Z1<r5.1));let Z4:=decide ((w64 ((w64 (Z1 - r5.1))+r5.2)) > 8)
 let H1:List Hn:=[hW 0 1001,hW 1 1002,hh 6 (.row (Qg5 x4)),hW 8 1003,hh 12 (.callV [] Z0),hO 20 (I Z1)]
 let P2:List Prop:=[(0:Int)≤p2,(p1.Threads.map Qg5)[p2.toNat]? = some (Qg5 x4),Qab Try.prog 199 [(I p3.Code)] Z0,Qa8 Z0=true,AV.lit (.int .i64 Z2)=(I Z1)]
 have AP2:Qb0 P2:=⟨(rd0 hx4),(rdM Qg5 hx4),(Qjn hr5),rfl,(Qfn Qb7),trivial⟩
 rcases itS h with ⟨c6,h⟩ | ⟨c7,h⟩
 ·obtain rfl:=sj h
  exact gR hP hn (H1++[hO 23 (B true)]) [] .raw (P2++[Z3=(B true),(I 1)=(I 1),Qa8 (I 1)=true]) (Qag AP2 ⟨(Qb5 c6),rfl,rfl,trivial⟩)
 ·let P3:List Prop:=P2++[Z3=(B false),AV.lit (.int .i64 Z2)=(I Z1)]
  have AP3:Qb0 P3:=Qag AP2 ⟨(Qb5 c7),(Qfn Qb7),trivial⟩
  rcases itS h with ⟨c8,h⟩ | ⟨c9,h⟩
  ·obtain rfl:=sj h
   exact gR hP hn (H1++[hO 23 (B false),hO 26 (I Z1),hT 34]) [] .raw (P3++[Z4=true,(I 1)=(I 1),Qa8 (I 1)=true]) (Qag AP3 ⟨c8,rfl,rfl,trivial⟩)
  ·exact gT hP hn hx (H1++[hO 23 (B false),hO 26 (I Z1),hF 34]) [(1001,1),(1002,2),(1003,3)] [1,3,5,7] [] (P3++[Z4=false,Qa6 [(1001,1),(1002,2),(1003,3)] [((Qmn p1))],Qa6 [(1001,1),(1002,2),(1003,3)] [((Qcb p3))],Qa6 [(1001,1),(1002,2),(1003,3)] [((Qg5 x4))]]) (Qag AP3 ⟨c9,(rok (Qb1 Qm2 p1)),(rok rfl),(rok (Qb1 Qg7 x4)),trivial⟩) (Qqp hP hn hx p1 p2 p3 x4  _ h)
noncomputable def Xd6:Code:=match Try.f201.body with | some c=>c | none=>.skip
noncomputable def Qck   (v13:Bool) : Option Nat:=
 if v13=true then
  some 4607182418800017408
 else
  some 0
theorem Qjl {E:Env} (hP:E.pk=pk0 Try.prog) (hn:E.n=38) (hx:FX E [])   (v13:Bool) (r:Nat) (h:Qck  v13=some r) : WAt E Xd6 (FQ (Qdu Θ Try.f201.results.toList [] [] (FK r) E)) [true,true,true] ⟨[(7,(B v13))],[],[JJ]⟩:=by
 unfold Qck at h
 rcases itS h with ⟨c14,h⟩ | ⟨c15,h⟩
 ·obtain rfl:=sj h
  exact gR hP hn [hT 1] [] .raw [v13=true,(FK 4607182418800017408)=(FK 4607182418800017408),Qa8 (FK 4607182418800017408)=true] ⟨c14,rfl,rfl,trivial⟩
 ·obtain rfl:=sj h
  exact gR hP hn [hF 1] [] .raw [v13=false,(FK 0)=(FK 0),Qa8 (FK 0)=true] ⟨c15,rfl,rfl,trivial⟩
noncomputable def Qec (p1:Int) (p2:Nat) (p3:Nat) : Option Nat:=
 if (p1 == 4)=true then
  some (fad p2 p3)
 else
  if (p1 == 5)=true then
   some (fsb p2 p3)
  else
   if (p1 == 6)=true then
    some (fml p2 p3)
   else
    if (p1 == 7)=true then
     some (fdv p2 p3)
    else
     if (p1 == 8)=true then
      Qck ((Qd9 p2 p3) == some .lt)
     else
      Option.bind (Qcr p2 p3) fun r17 =>
      Qck r17
theorem Ql5 {p1:Int} {p2:Nat} {p3:Nat} {r:Nat} (h:Qec p1 p2 p3=some r) : Qab Try.prog 201 [(I p1),(FK p2),(FK p3)] (FK r):=by
 refine gM Try.func201 38 Xd6 fun E hP hn hx=>?_
 unfold Qec at h
 let Z0:=fad p2 p3;let Z1:=fsb p2 p3;let Z2:=fml p2 p3;let Z3:=fdv p2 p3
 rcases itS h with ⟨c4,h⟩ | ⟨c5,h⟩
 ·obtain rfl:=sj h
  exact gR hP hn [hT 5,hh 8 (.bin (FK Z0))] [] .raw [(p1 == 4)=true,Qil Try.prog .add 156 (FK p2) (FK p3) (FK Z0),(FK Z0)=(FK Z0),Qa8 (FK Z0)=true] ⟨c4,fAdd,rfl,rfl,trivial⟩
 ·rcases itS h with ⟨c6,h⟩ | ⟨c7,h⟩
  ·obtain rfl:=sj h
   exact gR hP hn [hF 5,hT 8,hh 11 (.bin (FK Z1))] [] .raw [(p1 == 4)=false,(p1 == 5)=true,Qil Try.prog .sub 156 (FK p2) (FK p3) (FK Z1),(FK Z1)=(FK Z1),Qa8 (FK Z1)=true] ⟨c5,c6,fSub,rfl,rfl,trivial⟩
  ·let P1:List Prop:=[(p1 == 4)=false,(p1 == 5)=false]
   have AP1:Qb0 P1:=⟨c5,c7,trivial⟩
   rcases itS h with ⟨c8,h⟩ | ⟨c9,h⟩
   ·obtain rfl:=sj h
    exact gR hP hn [hF 5,hF 8,hT 11,hh 14 (.bin (FK Z2))] [] .raw (P1++[(p1 == 6)=true,Qil Try.prog .mul 156 (FK p2) (FK p3) (FK Z2),(FK Z2)=(FK Z2),Qa8 (FK Z2)=true]) (Qag AP1 ⟨c8,fMul,rfl,rfl,trivial⟩)
   ·rcases itS h with ⟨c10,h⟩ | ⟨c11,h⟩
    ·obtain rfl:=sj h
     exact gR hP hn [hF 5,hF 8,hF 11,hT 14,hh 17 (.bin (FK Z3))] [] .raw (P1++[(p1 == 6)=false,(p1 == 7)=true,Qil Try.prog .quo 156 (FK p2) (FK p3) (FK Z3),(FK Z3)=(FK Z3),Qa8 (FK Z3)=true]) (Qag AP1 ⟨c9,c10,Xje,rfl,rfl,trivial⟩)
    ·rcases itS h with ⟨c12,h⟩ | ⟨c16,h⟩
     ·exact gT hP hn hx [hF 5,hF 8,hF 11,hF 14,hT 17,hh 20 (.bin (B ((Qd9 p2 p3) == some .lt)))] [] [7] [] (P1++[(p1 == 6)=false,(p1 == 7)=false,(p1 == 8)=true,Qil Try.prog .lss 156 (FK p2) (FK p3) (B ((Qd9 p2 p3) == some .lt))]) (Qag AP1 ⟨c9,c11,c12,Xju,trivial⟩) (Qjl hP hn hx ((Qd9 p2 p3) == some .lt) _ h)
     ·obtain ⟨r17,hr17,h⟩:=bnS h
      exact gT hP hn hx [hF 5,hF 8,hF 11,hF 14,hF 17,hh 20 (.callV [] (B r17))] [] [7] [] (P1++[(p1 == 6)=false,(p1 == 7)=false,(p1 == 8)=false,Qab Try.prog 197 [(FK p2),(FK p3)] (B r17),Qa8 (B r17)=true]) (Qag AP1 ⟨c9,c11,c16,(Qkq hr17),rfl,trivial⟩) (Qjl hP hn hx r17 _ h)
noncomputable def Xi2:Code:=match Try.f195.body with | some c=>c | none=>.skip
noncomputable def Qbb (p1:(List Qa2)) (p2:(List Nat)) (p3:(List Int)) (p4:Int) (p5:Int) (p6:GOp) (p7:Qa5) : Option (Qa3×Qa5):=
 Option.bind (rd p1 p5) fun x8 =>
 Option.bind (Qfr p6.Code) fun r9 =>
 Option.bind (slc x8.Stack (w64 ((x8.Stack.length:Int) - r9.1)) (x8.Stack.length:Int)) fun l10 =>
 Option.bind (app [] l10) fun l11 =>
 Option.bind (Qcv (Qa3.mk (p1.set (Int.toNat p5) (Qa2.mk x8.Routine x8.Pc x8.State x8.Cond x8.Lock x8.Stack)) p2 p3 p4) (Qa2.mk x8.Routine x8.Pc x8.State x8.Cond x8.Lock x8.Stack)) fun r12 =>
 Option.bind (slc x8.Stack 0 (w64 ((x8.Stack.length:Int) - r9.1))) fun l13 =>
 if (p6.Code == 1)=true then
  Option.bind (app l13 [p6.V]) fun l15 =>
  some ((Qa3.mk (p1.set (Int.toNat p5) (Qa2.mk x8.Routine (w64 (x8.Pc+1)) x8.State x8.Cond x8.Lock l15)) p2 p3 p4),(Qa5.mk p7.Thread 1 p7.Obj p7.Lock p7.Pc))
 else
  if (p6.Code == 2)=true then
   Option.bind (rd p2 p6.A) fun x18 =>
   Option.bind (app l13 [x18]) fun l19 =>
   some ((Qa3.mk (p1.set (Int.toNat p5) (Qa2.mk x8.Routine (w64 (x8.Pc+1)) x8.State x8.Cond x8.Lock l19)) p2 p3 p4),(Qa5.mk p7.Thread 2 p6.A p7.Lock p7.Pc))
  else
   if (p6.Code == 3)=true then
    Option.bind (rd l11 0) fun x22 =>
    Option.bind (rd p2 p6.A) fun x23 =>
    some ((Qa3.mk (p1.set (Int.toNat p5) (Qa2.mk x8.Routine (w64 (x8.Pc+1)) x8.State x8.Cond x8.Lock l13)) (p2.set (Int.toNat p6.A) x22) p3 p4),(Qa5.mk p7.Thread 3 p6.A p7.Lock p7.Pc))
   else
    if (p6.Code == 10)=true then
     some ((Qa3.mk (p1.set (Int.toNat p5) (Qa2.mk x8.Routine p6.A x8.State x8.Cond x8.Lock l13)) p2 p3 p4),(Qa5.mk p7.Thread 1 p7.Obj p7.Lock p7.Pc))
    else
     if (p6.Code == 11)=true then
      Option.bind (rd l11 0) fun x28 =>
      Option.bind (Qdz x28) fun r29 =>
      if r29=true then
       some ((Qa3.mk (p1.set (Int.toNat p5) (Qa2.mk x8.Routine p6.A x8.State x8.Cond x8.Lock l13)) p2 p3 p4),(Qa5.mk p7.Thread 1 p7.Obj p7.Lock p7.Pc))
      else
       if ((Qd9 x28 0) == some .eq)=true then
        some ((Qa3.mk (p1.set (Int.toNat p5) (Qa2.mk x8.Routine p6.A x8.State x8.Cond x8.Lock l13)) p2 p3 p4),(Qa5.mk p7.Thread 1 p7.Obj p7.Lock p7.Pc))
       else
        some ((Qa3.mk (p1.set (Int.toNat p5) (Qa2.mk x8.Routine (w64 (x8.Pc+1)) x8.State x8.Cond x8.Lock l13)) p2 p3 p4),(Qa5.mk p7.Thread 1 p7.Obj p7.Lock p7.Pc))
     else
      if (p6.Code == 12)=true then
       Option.bind (rd p3 p6.A) fun x36 =>
       some ((Qa3.mk (p1.set (Int.toNat p5) (Qa2.mk x8.Routine (w64 (x8.Pc+1)) x8.State x8.Cond x8.Lock l13)) p2 (p3.set (Int.toNat p6.A) p5) p4),(Qa5.mk p7.Thread 4 p6.A p7.Lock p7.Pc))
      else
       if (p6.Code == 13)=true then
        Option.bind (rd p3 p6.A) fun x39 =>
        some ((Qa3.mk (p1.set (Int.toNat p5) (Qa2.mk x8.Routine (w64 (x8.Pc+1)) x8.State x8.Cond x8.Lock l13)) p2 (p3.set (Int.toNat p6.A) (-1)) p4),(Qa5.mk p7.Thread 5 p6.A p7.Lock p7.Pc))
       else
        if (p6.Code == 14)=true then
         Option.bind (app l13 [(fOf (p1.length:Int))]) fun l42 =>
         Option.bind (Qe1 p6.A) fun r43 =>
         Option.bind (app p1 [(Qa2.mk r43.Routine r43.Pc r43.State r43.Cond r43.Lock r43.Stack)]) fun l44 =>
         Option.bind (rd l44 p5) fun x45 =>
         some ((Qa3.mk (l44.set (Int.toNat p5) (Qa2.mk x8.Routine (w64 (x8.Pc+1)) x8.State x8.Cond x8.Lock l42)) p2 p3 p4),(Qa5.mk p7.Thread 6 (p1.length:Int) p7.Lock p7.Pc))
        else
         if (p6.Code == 15)=true then
          some ((Qa3.mk (p1.set (Int.toNat p5) (Qa2.mk x8.Routine (w64 (x8.Pc+1)) x8.State x8.Cond x8.Lock l13)) p2 p3 p4),(Qa5.mk p7.Thread 7 r12 p7.Lock p7.Pc))
         else
          if (p6.Code == 16)=true then
           Option.bind (rd p3 p6.B) fun x50 =>
           some ((Qa3.mk (p1.set (Int.toNat p5) (Qa2.mk x8.Routine (w64 ((w64 (x8.Pc+1)) - 1)) 3 p6.A p6.B l13)) p2 (p3.set (Int.toNat p6.B) (-1)) p4),(Qa5.mk p7.Thread 8 p6.A p6.B p7.Pc))
          else
           if (p6.Code == 17)=true then
            none
           else
            Option.bind (rd l11 0) fun x54 =>
            Option.bind (rd l11 1) fun x55 =>
            Option.bind (Qec p6.Code x54 x55) fun r56 =>
            Option.bind (app l13 [r56]) fun l57 =>
            some ((Qa3.mk (p1.set (Int.toNat p5) (Qa2.mk x8.Routine (w64 (x8.Pc+1)) x8.State x8.Cond x8.Lock l57)) p2 p3 p4),(Qa5.mk p7.Thread 1 p7.Obj p7.Lock p7.Pc))
theorem Qvv {p1:(List Qa2)} {p2:(List Nat)} {p3:(List Int)} {p4:Int} {p5:Int} {p6:GOp} {p7:Qa5} {r:(Qa3×Qa5)} (h:Qbb p1 p2 p3 p4 p5 p6 p7=some r) : Qxl Try.prog 195 [⟨198,6,(p1.map Qap)⟩,⟨156,1,(p2.map Qb7)⟩,⟨3,1,(p3.map o3)⟩] [(AV.agg [(AV.sl 0 0 (List.length (p1.map Qap))),(AV.sl 1 0 (List.length (p2.map Qb7))),(AV.sl 2 0 (List.length (p3.map o3))),(I p4)]),(I p5),(AV.agg ((Qcb p6))),(AV.agg ((o71 p7)))] [false,false,false] [⟨198,6,(p1.map Qap)⟩,⟨156,1,(p2.map Qb7)⟩,⟨3,1,(p3.map o3)⟩] (AV.tup [(AV.agg (Qj4 r.1)),(AV.agg (o71 r.2))]):=by
 refine Qxz Qxi Try.func195 rfl (c:=Xi2) (by kernel_rfl) (Nat.le_of_ble_eq_true rfl) rfl (Nat.le_of_ble_eq_true rfl) rfl (fr:=[]) (frI rfl) ?_
 intro E hP hn hx
 replace hn:E.n=247:=hn
 unfold Qbb at h
 obtain ⟨x8,hx8,h⟩:=bnS h
 obtain ⟨r9,hr9,h⟩:=bnS h
 obtain ⟨l10,hl10,h⟩:=bnS h
 obtain ⟨l11,hl11,h⟩:=bnS h
 obtain ⟨r12,hr12,h⟩:=bnS h
 obtain ⟨l13,hl13,h⟩:=bnS h
 let Z0:=I x8.Routine;let Z1:=I x8.State;let Z2:=I x8.Cond;let Z3:=I x8.Lock;let Z4:=x8.Stack.map Qb7;let Z5:=[Z0,(I x8.Pc),Z1,Z2,Z3,(AV.own 156 1 Z4)];let Z6:=p1.map Qap;let Z7:=AV.sl 1006 0 Z4.length;let Z8:=[Z0,(I x8.Pc),Z1,Z2,Z3,Z7];let Z9:=Z6.set p5.toNat Z8;let Z10:=AV.tup [(I r9.1),(I r9.2)];let Z11:=(x8.Stack.length:Int);let Z12:=l11.map Qb7;let Z13:=(p1.set p5.toNat (Qa2.mk x8.Routine x8.Pc x8.State x8.Cond x8.Lock x8.Stack)).map Qg5;let Z14:=p2.map Qb7;let Z15:=p3.map o3;let Z16:=[Z0,(I x8.Pc),Z1,Z2,Z3,AV.dead];let Z17:=Z6.set p5.toNat Z16;let Z18:=l13.map Qb7;let Z19:=((Z6.length:Nat) : Int);let Z20:=((Z4.length:Nat) : Int);let Z21:=w64 (Z11 - r9.1);let Z22:=(Z4.drop Z21.toNat).take (Xf0 Z20.toNat Z21.toNat);let Z23:=I p4;let Z24:=Qae.mk 156 1 Z4;let Z26:=x8.Pc+1;let Z27:=w64 Z26;let Z32:=(([p6.V].map Qb7).drop 0).take ([p6.V].map Qb7).length;let Z33:=((Z17.length:Nat) : Int);let Z34:=AV.sl 0 0 Z6.length;let Z35:=AV.sl 1 0 Z14.length;let Z36:=AV.sl 2 0 Z15.length;let Z37:=AV.agg [Z34,Z35,Z36,Z23];let Z38:=I p7.Thread;let Z39:=I p7.Lock;let Z40:=I p7.Pc;let Z41:=AV.agg [Z38,(I 1),(I p7.Obj),Z39,Z40];let Z42:=Qae.mk 141 4 [[Z34,Z35,Z36,Z23]];let Z43:=Z14.take Z14.length;let Z44:=Z15.take Z15.length;let Z50:=((Z14.length:Nat) : Int);let Z51:=AV.ptr 1007 0 5;let Z52:=AV.sl 1010 0 Z18.length;let Z54:=I p6.A;let Z55:=AV.agg [Z38,(I 2),Z54,Z39,Z40];let Z57:=[Z0,(I Z27),Z1,Z2,Z3,Z52];let Z58:=Z6.set p5.toNat Z57;let Z59:=(p1.set p5.toNat (Qa2.mk x8.Routine Z27 x8.State x8.Cond x8.Lock l13)).map Qap;let Z60:=((Z12.length:Nat) : Int);let Z61:=wr Z16 0 Z57;let Z62:=AV.agg [Z38,(I 3),Z54,Z39,Z40];let Z63:=AV.own 156 1 Z18;let Z64:=Z57.set 5 Z63;let Z65:=Z59.take Z6.length;let Z66:=Qa2.mk x8.Routine (w64 Z26) x8.State x8.Cond x8.Lock l13;let Z67:=[Z0,Z54,Z1,Z2,Z3,Z52];let Z68:=Z6.set p5.toNat Z67;let Z69:=(p1.set p5.toNat (Qa2.mk x8.Routine p6.A x8.State x8.Cond x8.Lock l13)).map Qap;let Z70:=wr Z16 0 Z67;let Z71:=Z67.set 5 Z63;let Z72:=Z69.take Z6.length;let Z73:=Qa2.mk x8.Routine p6.A x8.State x8.Cond x8.Lock l13;let Z75:=(p3.set p6.A.toNat p5).map o3;let Z76:=((Z15.length:Nat) : Int);let Z77:=AV.agg [Z38,(I 4),Z54,Z39,Z40];let Z78:=(p3.set p6.A.toNat (-1)).map o3;let Z79:=p6.Code == 13;let Z80:=[(I (-1))];let Z81:=AV.agg [Z38,(I 5),Z54,Z39,Z40];let Z82:=(I (p1.length:Int));let Z83:=(fOf (p1.length:Int));let Z95:=(([Z83].map Qb7).drop 0).take ([Z83].map Qb7).length;let Z96:=AV.ptr 1001 0 0;let Z98:=AV.agg [Z38,(I 6),Z82,Z39,Z40];let Z100:=p6.Code == 15;let Z101:=AV.agg [Z38,(I 7),(I r12),Z39,Z40];let Z102:=(p3.set p6.B.toNat (-1)).map o3;let Z103:=[Z0,(I (w64 (Z27 - 1))),(I 3),Z54,(I p6.B),Z52];let Z104:=Z6.set p5.toNat Z103;let Z105:=(p1.set p5.toNat (Qa2.mk x8.Routine (w64 (Z27 - 1)) 3 p6.A p6.B l13)).map Qap;let Z106:=AV.agg [Z38,(I 8),Z54,(I p6.B),Z40]
 let H1:List Hn:=[hW 0 1001,hW 1 1002,hW 2 1003,hW 3 1004,hW 4 1005,hh 9 (.unpack 0 1006 p5.toNat 5 Z5 156 1 Z4 Z9),hh 9 (.row Z8),hW 10 1007,hh 14 (.callV [] Z10),hW 20 1008,hO 25 (I Z11),hh 29 (.app 1009 Z12),hh 33 (.callD [1006] [Z13,Z14,Z15,Z4] (I r12) []),hO 39 (I Z11),hh 42 (.fgt 0 p5.toNat 5 Z8 Z17),hh 42 (.shr 1010 Z18)]
 let P2:List Prop:=[(0:Int)≤p5,p5<Z19,Z6[p5.toNat]? = some Z5,Z5[5]? = some (AV.own 156 1 Z4),0<1,Z6.set p5.toNat (Z5.set 5 Z7)=Z9,Z9[p5.toNat]? = some Z8,Qab Try.prog 199 [(I p6.Code)] Z10,Qa8 Z10=true,AV.lit (.int .i64 Z20)=(I Z11),(0:Int)≤Z21,Z21≤Z20,Z20≤Z20,([].map Qb7).take ([].map Qb7).length++Z22=Z12,Z22.all (fun r=>r.all AV.plain)=true,Z12.length * 8≤140737488355328,Z12.length≤140737488355328,Qab Try.prog 198 [(AV.agg [(AV.ro 6 Z13),(AV.ro 1 Z14),(AV.ro 1 Z15),Z23]),(AV.agg [Z0,(I x8.Pc),Z1,Z2,Z3,(AV.ro 1 Z4)])] (I r12),Qez (I r12)=true,Qq1 [(1006,Z24)] ((Z9.drop 0).take Z6.length)=some Z13,Qq1 [(1006,Z24)] ((Z14.drop 0).take Z14.length)=some Z14,Qq1 [(1006,Z24)] ((Z15.drop 0).take Z15.length)=some Z15,Qq1 [(1006,Z24)] ((Z4.drop 0).take Z4.length)=some Z4,AV.lit (.int .i64 Z20)=(I Z11),Z9[p5.toNat]? = some Z8,Z9.set p5.toNat (Z8.set 5 .dead)=Z17,(0:Int)≤Z21,Z21≤Z20,Z4.take Z21.toNat=Z18,Z4.length=Z4.length]
 have AP2:Qb0 P2:=⟨(rd0 hx8),(rdL Qap hx8),(rdM Qap hx8),rfl,(by decide),rfl,(Qcl (rdM Qap hx8)),(Qjn hr9),rfl,(Qfn Qb7),(sl0 hl10),(sl1e Qb7 hl10),(Int.le_refl _),(Xds Qb7 hl11 hl10),(plD Qp6),(Qnn Qb7 hl11 (by decide)),(Qnm Qb7 hl11),(Qhm hr12),rfl,(rsWn lnq (Xgk Qg7 Xgg (y:=(Qa2.mk x8.Routine x8.Pc x8.State x8.Cond x8.Lock x8.Stack)) (Qqm rfl (Qqm rfl (Qqm rfl (Qqm rfl (Qqm rfl (Qqm (Xgq (R:=⟨156,1,Z4⟩) rfl (Qlc Qdh Xb7)) rfl)))))))),(rsW (Qjf Qdh Xb7 _)),(rsW (Qjf t3 z3 _)),(rsW (Qjf Qdh Xb7 _)),(Qfn Qb7),(Qcl (rdM Qap hx8)),(Qfy rfl),(sl1 hl13),(sl2 Qb7 hl13),(shT Qb7 hl13),rfl,trivial⟩
 rcases itS h with ⟨c14,h⟩ | ⟨c16,h⟩
 ·obtain ⟨l15,hl15,h⟩:=bnS h
  obtain rfl:=sj h
  exact (let Z25:=l15.map Qb7;let Z28:=AV.sl 1012 0 Z25.length;let Z29:=[Z0,(I Z27),Z1,Z2,Z3,Z28];let Z30:=Z6.set p5.toNat Z29;let Z31:=(p1.set p5.toNat (Qa2.mk x8.Routine Z27 x8.State x8.Cond x8.Lock l15)).map Qap;gR hP hn (H1++[hT 56,hW 61 1011,hh 62 (.app 1012 Z25),hh 69 (.slen 241 Z17.length),hh 70 (.sto Z16 Z30),hh 75 (.pack 0 1012 p5.toNat 5 Z29 Z31)]) [] (.agg [.agg [.own,.own,.own,.raw],.raw]) (P2++[(p6.Code == 1)=true,Z18.take Z18.length++Z32=Z25,Z32.all (fun r=>r.all AV.plain)=true,Z25.length * 8≤140737488355328,Z25.length≤140737488355328,Z6.length=Z17.length,(0:Int)≤p5,p5<Z33,Z17[p5.toNat]? = some Z16,Z17.set p5.toNat (wr Z16 0 Z29)=Z30,Z29.length=6,0+Z29.length≤Z16.length,Z37=Z37,Z41=Z41,Z41=Z41,[(1004,some Z42)]=[(1004,some Z42)],Z30[p5.toNat]? = some Z29,Z29[5]? = some Z28,Qa1 Z25=true,Z30.set p5.toNat (Z29.set 5 (AV.own 156 1 Z25))=Z31,Qa1 (Z31.take Z6.length)=true,Z31.take Z6.length=Z31,Qa4 Z31=true,Qa1 Z43=true,Z14.take Z14.length=Z14,Qa4 Z14=true,Qa1 Z44=true,Z15.take Z15.length=Z15,Qa4 Z15=true,Z23=Z23,Qa8 Z23=true,Z41=Z41,Qa8 Z41=true]) (Qag AP2 ⟨c14,(Qiw Qb7 hl15),(plD Qp6),(Qnn Qb7 hl15 (by decide)),(Qnm Qb7 hl15),lnq,(rd0 hx8),(Qn1 Qap hx8),(Qcl (rdM Qap hx8)),(Qfy rfl),rfl,leB,rfl,rfl,rfl,rfl,(Qcl (rdM Qap hx8)),rfl,(Qa7 Qdh),(Qhd Qap (y:=(Qa2.mk x8.Routine (w64 Z26) x8.State x8.Cond x8.Lock l15)) rfl),(Qc8 lnq (Qa7 Qg7)),(Qep lnq),(Qaa Qi3),(Qay Qdh),Qax,(Qaa Qhh),(Qay t3),Qax,(Qaa n3),rfl,rfl,rfl,rfl,trivial⟩))
 ·let P3:List Prop:=P2++[(p6.Code == 1)=false]
  have AP3:Qb0 P3:=Qag AP2 ⟨c16,trivial⟩
  rcases itS h with ⟨c17,h⟩ | ⟨c20,h⟩
  ·obtain ⟨x18,hx18,h⟩:=bnS h
   obtain ⟨l19,hl19,h⟩:=bnS h
   obtain rfl:=sj h
   exact (let Z45:=l19.map Qb7;let Z46:=AV.sl 1014 0 Z45.length;let Z47:=[Z0,(I Z27),Z1,Z2,Z3,Z46];let Z48:=Z6.set p5.toNat Z47;let Z49:=(p1.set p5.toNat (Qa2.mk x8.Routine Z27 x8.State x8.Cond x8.Lock l19)).map Qap;let Z53:=(([x18].map Qb7).drop 0).take ([x18].map Qb7).length;gR hP hn (H1++[hF 56,hT 59,hh 73 (.row [(FK x18)]),hW 74 1013,hh 77 (.app 1014 Z45),hh 84 (.slen 241 Z17.length),hh 85 (.sto Z16 Z48),hh 90 (.pack 0 1014 p5.toNat 5 Z47 Z49)]) [] (.agg [.agg [.own,.own,.own,.raw],.raw]) (P3++[(p6.Code == 2)=true,(0:Int)≤p6.A,p6.A<Z50,Z14[p6.A.toNat]? = some [(FK x18)],Z51=Z51,Z52=Z52,Z18.take Z18.length++Z53=Z45,Z53.all (fun r=>r.all AV.plain)=true,Z45.length * 8≤140737488355328,Z45.length≤140737488355328,Z6.length=Z17.length,(0:Int)≤p5,p5<Z33,Z17[p5.toNat]? = some Z16,Z17.set p5.toNat (wr Z16 0 Z47)=Z48,Z47.length=6,0+Z47.length≤Z16.length,Z37=Z37,Z55=Z55,Z55=Z55,[(1004,some Z42)]=[(1004,some Z42)],Z48[p5.toNat]? = some Z47,Z47[5]? = some Z46,Qa1 Z45=true,Z48.set p5.toNat (Z47.set 5 (AV.own 156 1 Z45))=Z49,Qa1 (Z49.take Z6.length)=true,Z49.take Z6.length=Z49,Qa4 Z49=true,Qa1 Z43=true,Z14.take Z14.length=Z14,Qa4 Z14=true,Qa1 Z44=true,Z15.take Z15.length=Z15,Qa4 Z15=true,Z23=Z23,Qa8 Z23=true,Z55=Z55,Qa8 Z55=true]) (Qag AP3 ⟨c17,(rd0 hx18),(rdL Qb7 hx18),(rdM Qb7 hx18),rfl,rfl,(Qiw Qb7 hl19),(plD Qp6),(Qnn Qb7 hl19 (by decide)),(Qnm Qb7 hl19),lnq,(rd0 hx8),(Qn1 Qap hx8),(Qcl (rdM Qap hx8)),(Qfy rfl),rfl,leB,rfl,rfl,rfl,rfl,(Qcl (rdM Qap hx8)),rfl,(Qa7 Qdh),(Qhd Qap (y:=(Qa2.mk x8.Routine (w64 Z26) x8.State x8.Cond x8.Lock l19)) rfl),(Qc8 lnq (Qa7 Qg7)),(Qep lnq),(Qaa Qi3),(Qay Qdh),Qax,(Qaa Qhh),(Qay t3),Qax,(Qaa n3),rfl,rfl,rfl,rfl,trivial⟩))
  ·let H4:List Hn:=H1++[hF 56,hF 59]
   let P5:List Prop:=P3++[(p6.Code == 2)=false]
   have AP5:Qb0 P5:=Qag AP3 ⟨c20,trivial⟩
   rcases itS h with ⟨c21,h⟩ | ⟨c24,h⟩
   ·obtain ⟨x22,hx22,h⟩:=bnS h
    obtain ⟨x23,hx23,h⟩:=bnS h
    obtain rfl:=sj h
    exact (let Z56:=(p2.set p6.A.toNat x22).map Qb7;gR hP hn (H4++[hT 62,hh 75 (.row [(FK x22)]),hh 77 (.sto [(FK x23)] Z56),hh 82 (.slen 241 Z17.length),hh 83 (.sto Z16 Z58),hh 88 (.pack 0 1010 p5.toNat 5 Z57 Z59)]) [] (.agg [.agg [.own,.own,.own,.raw],.raw]) (P5++[(p6.Code == 3)=true,(0:Int)≤0,0<Z60,Z12[(Int.toNat 0)]? = some [(FK x22)],(0:Int)≤p6.A,p6.A<Z50,Z14[p6.A.toNat]? = some [(FK x23)],Z14.set p6.A.toNat (wr [(FK x23)] 0 [(FK x22)])=Z56,[(FK x22)].length=1,0 + [(FK x22)].length≤[(FK x23)].length,Z6.length=Z17.length,(0:Int)≤p5,p5<Z33,Z17[p5.toNat]? = some Z16,Z17.set p5.toNat Z61=Z58,Z57.length=6,0+Z57.length≤Z16.length,Z37=Z37,Z62=Z62,Z62=Z62,[(1004,some Z42)]=[(1004,some Z42)],Z58[p5.toNat]? = some Z57,Z57[5]? = some Z52,Qa1 Z18=true,Z58.set p5.toNat Z64=Z59,Qa1 Z65=true,Z59.take Z6.length=Z59,Qa4 Z59=true,Qa1 (Z56.take Z14.length)=true,Z56.take Z14.length=Z56,Qa4 Z56=true,Qa1 Z44=true,Z15.take Z15.length=Z15,Qa4 Z15=true,Z23=Z23,Qa8 Z23=true,Z62=Z62,Qa8 Z62=true]) (Qag AP5 ⟨c21,(rd0 hx22),(rdL Qb7 hx22),(rdM Qb7 hx22),(rd0 hx23),(rdL Qb7 hx23),(rdM Qb7 hx23),(Qyf Qb7),rfl,leB,lnq,(rd0 hx8),(Qn1 Qap hx8),(Qcl (rdM Qap hx8)),(Qfy rfl),rfl,leB,rfl,rfl,rfl,rfl,(Qcl (rdM Qap hx8)),rfl,(Qa7 Qdh),(Qhd Qap (y:=Z66) rfl),(Qc8 lnq (Qa7 Qg7)),(Qep lnq),(Qaa Qi3),(Qc8 lnq (Qa7 Qdh)),(Qep lnq),(Qaa Qhh),(Qay t3),Qax,(Qaa n3),rfl,rfl,rfl,rfl,trivial⟩))
   ·let P6:List Prop:=P5++[(p6.Code == 3)=false]
    have AP6:Qb0 P6:=Qag AP5 ⟨c24,trivial⟩
    rcases itS h with ⟨c25,h⟩ | ⟨c26,h⟩
    ·obtain rfl:=sj h
     exact gR hP hn (H4++[hF 62,hT 65,hh 74 (.slen 241 Z17.length),hh 75 (.sto Z16 Z68),hh 80 (.pack 0 1010 p5.toNat 5 Z67 Z69)]) [] (.agg [.agg [.own,.own,.own,.raw],.raw]) (P6++[(p6.Code == 10)=true,Z6.length=Z17.length,(0:Int)≤p5,p5<Z33,Z17[p5.toNat]? = some Z16,Z17.set p5.toNat Z70=Z68,Z67.length=6,0+Z67.length≤Z16.length,Z37=Z37,Z41=Z41,Z41=Z41,[(1004,some Z42)]=[(1004,some Z42)],Z68[p5.toNat]? = some Z67,Z67[5]? = some Z52,Qa1 Z18=true,Z68.set p5.toNat Z71=Z69,Qa1 Z72=true,Z69.take Z6.length=Z69,Qa4 Z69=true,Qa1 Z43=true,Z14.take Z14.length=Z14,Qa4 Z14=true,Qa1 Z44=true,Z15.take Z15.length=Z15,Qa4 Z15=true,Z23=Z23,Qa8 Z23=true,Z41=Z41,Qa8 Z41=true]) (Qag AP6 ⟨c25,lnq,(rd0 hx8),(Qn1 Qap hx8),(Qcl (rdM Qap hx8)),(Qfy rfl),rfl,leB,rfl,rfl,rfl,rfl,(Qcl (rdM Qap hx8)),rfl,(Qa7 Qdh),(Qhd Qap (y:=Z73) rfl),(Qc8 lnq (Qa7 Qg7)),(Qep lnq),(Qaa Qi3),(Qay Qdh),Qax,(Qaa Qhh),(Qay t3),Qax,(Qaa n3),rfl,rfl,rfl,rfl,trivial⟩)
    ·let H7:List Hn:=H4++[hF 62,hF 65]
     let P8:List Prop:=P6++[(p6.Code == 10)=false]
     have AP8:Qb0 P8:=Qag AP6 ⟨c26,trivial⟩
     rcases itS h with ⟨c27,h⟩ | ⟨c34,h⟩
     ·obtain ⟨x28,hx28,h⟩:=bnS h
      obtain ⟨r29,hr29,h⟩:=bnS h
      let Z74:=Qd9 x28 0
      let H9:List Hn:=H7++[hT 68,hh 71 (.row [(FK x28)]),hh 72 (.callV [] (B r29))]
      let P10:List Prop:=P8++[(p6.Code == 11)=true,(0:Int)≤0,0<Z60,Z12[(Int.toNat 0)]? = some [(FK x28)],Qab Try.prog 200 [(FK x28)] (B r29),Qa8 (B r29)=true]
      have AP10:Qb0 P10:=Qag AP8 ⟨c27,(rd0 hx28),(rdL Qb7 hx28),(rdM Qb7 hx28),(Qdc hr29),rfl,trivial⟩
      rcases itS h with ⟨c30,h⟩ | ⟨c31,h⟩
      ·obtain rfl:=sj h
       exact gR hP hn (H9++[hO 73 (B true),hh 88 (.slen 241 Z17.length),hh 89 (.sto Z16 Z68),hh 94 (.pack 0 1010 p5.toNat 5 Z67 Z69)]) [] (.agg [.agg [.own,.own,.own,.raw],.raw]) (P10++[(B r29)=(B true),Z6.length=Z17.length,(0:Int)≤p5,p5<Z33,Z17[p5.toNat]? = some Z16,Z17.set p5.toNat Z70=Z68,Z67.length=6,0+Z67.length≤Z16.length,Z37=Z37,Z41=Z41,Z41=Z41,[(1004,some Z42)]=[(1004,some Z42)],Z68[p5.toNat]? = some Z67,Z67[5]? = some Z52,Qa1 Z18=true,Z68.set p5.toNat Z71=Z69,Qa1 Z72=true,Z69.take Z6.length=Z69,Qa4 Z69=true,Qa1 Z43=true,Z14.take Z14.length=Z14,Qa4 Z14=true,Qa1 Z44=true,Z15.take Z15.length=Z15,Qa4 Z15=true,Z23=Z23,Qa8 Z23=true,Z41=Z41,Qa8 Z41=true]) (Qag AP10 ⟨(Qb5 c30),lnq,(rd0 hx8),(Qn1 Qap hx8),(Qcl (rdM Qap hx8)),(Qfy rfl),rfl,leB,rfl,rfl,rfl,rfl,(Qcl (rdM Qap hx8)),rfl,(Qa7 Qdh),(Qhd Qap (y:=Z73) rfl),(Qc8 lnq (Qa7 Qg7)),(Qep lnq),(Qaa Qi3),(Qay Qdh),Qax,(Qaa Qhh),(Qay t3),Qax,(Qaa n3),rfl,rfl,rfl,rfl,trivial⟩)
      ·let H11:List Hn:=H9++[hO 73 (B false),hh 76 (.row [(FK x28)]),hh 77 (.bin (B (Z74 == some .eq)))]
       let P12:List Prop:=P10++[(B r29)=(B false),(0:Int)≤0,0<Z60,Z12[(Int.toNat 0)]? = some [(FK x28)],Qil Try.prog .eql 156 (FK x28) (FK 0) (B (Z74 == some .eq))]
       have AP12:Qb0 P12:=Qag AP10 ⟨(Qb5 c31),(rd0 hx28),(rdL Qb7 hx28),(rdM Qb7 hx28),Xkg,trivial⟩
       rcases itS h with ⟨c32,h⟩ | ⟨c33,h⟩
       ·obtain rfl:=sj h
        exact gR hP hn (H11++[hT 79,hh 88 (.slen 241 Z17.length),hh 89 (.sto Z16 Z68),hh 94 (.pack 0 1010 p5.toNat 5 Z67 Z69)]) [] (.agg [.agg [.own,.own,.own,.raw],.raw]) (P12++[(Z74 == some .eq)=true,Z6.length=Z17.length,(0:Int)≤p5,p5<Z33,Z17[p5.toNat]? = some Z16,Z17.set p5.toNat Z70=Z68,Z67.length=6,0+Z67.length≤Z16.length,Z37=Z37,Z41=Z41,Z41=Z41,[(1004,some Z42)]=[(1004,some Z42)],Z68[p5.toNat]? = some Z67,Z67[5]? = some Z52,Qa1 Z18=true,Z68.set p5.toNat Z71=Z69,Qa1 Z72=true,Z69.take Z6.length=Z69,Qa4 Z69=true,Qa1 Z43=true,Z14.take Z14.length=Z14,Qa4 Z14=true,Qa1 Z44=true,Z15.take Z15.length=Z15,Qa4 Z15=true,Z23=Z23,Qa8 Z23=true,Z41=Z41,Qa8 Z41=true]) (Qag AP12 ⟨c32,lnq,(rd0 hx8),(Qn1 Qap hx8),(Qcl (rdM Qap hx8)),(Qfy rfl),rfl,leB,rfl,rfl,rfl,rfl,(Qcl (rdM Qap hx8)),rfl,(Qa7 Qdh),(Qhd Qap (y:=Z73) rfl),(Qc8 lnq (Qa7 Qg7)),(Qep lnq),(Qaa Qi3),(Qay Qdh),Qax,(Qaa Qhh),(Qay t3),Qax,(Qaa n3),rfl,rfl,rfl,rfl,trivial⟩)
       ·obtain rfl:=sj h
        exact gR hP hn (H11++[hF 79,hh 84 (.slen 241 Z17.length),hh 85 (.sto Z16 Z58),hh 90 (.pack 0 1010 p5.toNat 5 Z57 Z59)]) [] (.agg [.agg [.own,.own,.own,.raw],.raw]) (P12++[(Z74 == some .eq)=false,Z6.length=Z17.length,(0:Int)≤p5,p5<Z33,Z17[p5.toNat]? = some Z16,Z17.set p5.toNat Z61=Z58,Z57.length=6,0+Z57.length≤Z16.length,Z37=Z37,Z41=Z41,Z41=Z41,[(1004,some Z42)]=[(1004,some Z42)],Z58[p5.toNat]? = some Z57,Z57[5]? = some Z52,Qa1 Z18=true,Z58.set p5.toNat Z64=Z59,Qa1 Z65=true,Z59.take Z6.length=Z59,Qa4 Z59=true,Qa1 Z43=true,Z14.take Z14.length=Z14,Qa4 Z14=true,Qa1 Z44=true,Z15.take Z15.length=Z15,Qa4 Z15=true,Z23=Z23,Qa8 Z23=true,Z41=Z41,Qa8 Z41=true]) (Qag AP12 ⟨c33,lnq,(rd0 hx8),(Qn1 Qap hx8),(Qcl (rdM Qap hx8)),(Qfy rfl),rfl,leB,rfl,rfl,rfl,rfl,(Qcl (rdM Qap hx8)),rfl,(Qa7 Qdh),(Qhd Qap (y:=Z66) rfl),(Qc8 lnq (Qa7 Qg7)),(Qep lnq),(Qaa Qi3),(Qay Qdh),Qax,(Qaa Qhh),(Qay t3),Qax,(Qaa n3),rfl,rfl,rfl,rfl,trivial⟩)
     ·let P13:List Prop:=P8++[(p6.Code == 11)=false]
      have AP13:Qb0 P13:=Qag AP8 ⟨c34,trivial⟩
      rcases itS h with ⟨c35,h⟩ | ⟨c37,h⟩
      ·obtain ⟨x36,hx36,h⟩:=bnS h
       obtain rfl:=sj h
       exact gR hP hn (H7++[hF 68,hT 71,hh 84 (.sto [(I x36)] Z75),hh 89 (.slen 241 Z17.length),hh 90 (.sto Z16 Z58),hh 95 (.pack 0 1010 p5.toNat 5 Z57 Z59)]) [] (.agg [.agg [.own,.own,.own,.raw],.raw]) (P13++[(p6.Code == 12)=true,(0:Int)≤p6.A,p6.A<Z76,Z15[p6.A.toNat]? = some [(I x36)],Z15.set p6.A.toNat (wr [(I x36)] 0 [(I p5)])=Z75,[(I p5)].length=1,0 + [(I p5)].length≤[(I x36)].length,Z6.length=Z17.length,(0:Int)≤p5,p5<Z33,Z17[p5.toNat]? = some Z16,Z17.set p5.toNat Z61=Z58,Z57.length=6,0+Z57.length≤Z16.length,Z37=Z37,Z77=Z77,Z77=Z77,[(1004,some Z42)]=[(1004,some Z42)],Z58[p5.toNat]? = some Z57,Z57[5]? = some Z52,Qa1 Z18=true,Z58.set p5.toNat Z64=Z59,Qa1 Z65=true,Z59.take Z6.length=Z59,Qa4 Z59=true,Qa1 Z43=true,Z14.take Z14.length=Z14,Qa4 Z14=true,Qa1 (Z75.take Z15.length)=true,Z75.take Z15.length=Z75,Qa4 Z75=true,Z23=Z23,Qa8 Z23=true,Z77=Z77,Qa8 Z77=true]) (Qag AP13 ⟨c35,(rd0 hx36),(rdL o3 hx36),(rdM o3 hx36),(Qyf o3),rfl,leB,lnq,(rd0 hx8),(Qn1 Qap hx8),(Qcl (rdM Qap hx8)),(Qfy rfl),rfl,leB,rfl,rfl,rfl,rfl,(Qcl (rdM Qap hx8)),rfl,(Qa7 Qdh),(Qhd Qap (y:=Z66) rfl),(Qc8 lnq (Qa7 Qg7)),(Qep lnq),(Qaa Qi3),(Qay Qdh),Qax,(Qaa Qhh),(Qc8 lnq (Qa7 t3)),(Qep lnq),(Qaa n3),rfl,rfl,rfl,rfl,trivial⟩)
      ·let P14:List Prop:=P13++[(p6.Code == 12)=false]
       have AP14:Qb0 P14:=Qag AP13 ⟨c37,trivial⟩
       rcases itS h with ⟨c38,h⟩ | ⟨c40,h⟩
       ·obtain ⟨x39,hx39,h⟩:=bnS h
        obtain rfl:=sj h
        exact gR hP hn (H7++[hF 68,hF 71,hT 74,hh 86 (.sto [(I x39)] Z78),hh 91 (.slen 241 Z17.length),hh 92 (.sto Z16 Z58),hh 97 (.pack 0 1010 p5.toNat 5 Z57 Z59)]) [] (.agg [.agg [.own,.own,.own,.raw],.raw]) (P14++[Z79=true,(0:Int)≤p6.A,p6.A<Z76,Z15[p6.A.toNat]? = some [(I x39)],Z15.set p6.A.toNat (wr [(I x39)] 0 Z80)=Z78,Z80.length=1,0+Z80.length≤[(I x39)].length,Z6.length=Z17.length,(0:Int)≤p5,p5<Z33,Z17[p5.toNat]? = some Z16,Z17.set p5.toNat Z61=Z58,Z57.length=6,0+Z57.length≤Z16.length,Z37=Z37,Z81=Z81,Z81=Z81,[(1004,some Z42)]=[(1004,some Z42)],Z58[p5.toNat]? = some Z57,Z57[5]? = some Z52,Qa1 Z18=true,Z58.set p5.toNat Z64=Z59,Qa1 Z65=true,Z59.take Z6.length=Z59,Qa4 Z59=true,Qa1 Z43=true,Z14.take Z14.length=Z14,Qa4 Z14=true,Qa1 (Z78.take Z15.length)=true,Z78.take Z15.length=Z78,Qa4 Z78=true,Z23=Z23,Qa8 Z23=true,Z81=Z81,Qa8 Z81=true]) (Qag AP14 ⟨c38,(rd0 hx39),(rdL o3 hx39),(rdM o3 hx39),(Qyf o3),rfl,leB,lnq,(rd0 hx8),(Qn1 Qap hx8),(Qcl (rdM Qap hx8)),(Qfy rfl),rfl,leB,rfl,rfl,rfl,rfl,(Qcl (rdM Qap hx8)),rfl,(Qa7 Qdh),(Qhd Qap (y:=Z66) rfl),(Qc8 lnq (Qa7 Qg7)),(Qep lnq),(Qaa Qi3),(Qay Qdh),Qax,(Qaa Qhh),(Qc8 lnq (Qa7 t3)),(Qep lnq),(Qaa n3),rfl,rfl,rfl,rfl,trivial⟩)
       ·rcases itS h with ⟨c41,h⟩ | ⟨c46,h⟩
        ·obtain ⟨l42,hl42,h⟩:=bnS h
         obtain ⟨r43,hr43,h⟩:=bnS h
         obtain ⟨l44,hl44,h⟩:=bnS h
         obtain ⟨x45,hx45,h⟩:=bnS h
         obtain rfl:=sj h
         exact (let Z84:=l42.map Qb7;let Z85:=AV.agg (Qap r43);let Z86:=r43.Stack.map Qb7;let Z87:=AV.sl 1017 0 Z86.length;let Z88:=[(I r43.Routine),(I r43.Pc),(I r43.State),(I r43.Cond),(I r43.Lock),Z87];let Z89:=Z17++[Z88];let Z90:=(l44.map Qap).set p5.toNat Z16;let Z91:=AV.sl 1016 0 Z84.length;let Z92:=[Z0,(I Z27),Z1,Z2,Z3,Z91];let Z93:=(l44.map Qap).set p5.toNat Z92;let Z94:=(l44.set p5.toNat (Qa2.mk x8.Routine Z27 x8.State x8.Cond x8.Lock l42)).map Qap;let Z97:=[(AV.sl 1019 0 Z89.length),Z35,Z36,Z23];let Z99:=Qae.mk 141 4 [Z97];gR hP hn (H7++[hF 68,hF 71,hF 74,hT 77,hO 82 Z82,hO 89 Z82,hh 90 (.cnv (FK Z83)),hW 91 1015,hh 92 (.app 1016 Z84),hh 99 (.call [] Z85 [1017]),hW 100 1018,hh 105 (.app 1019 Z89),hh 106 (.pack 1019 1017 p1.length 5 Z88 Z90),hh 112 (.slen 241 Z90.length),hh 113 (.sto Z16 Z93),hh 118 (.pack 1019 1016 p5.toNat 5 Z92 Z94)]) [] (.agg [.agg [.own,.own,.own,.raw],.raw]) (P14++[Z79=false,(p6.Code == 14)=true,AV.lit (.int .i64 Z19)=Z82,AV.lit (.int .i64 Z19)=Z82,Xb9 Try.prog 3 156 Z82 (FK Z83),Z18.take Z18.length++Z95=Z84,Z95.all (fun r=>r.all AV.plain)=true,Z84.length * 8≤140737488355328,Z84.length≤140737488355328,Qab Try.prog 189 [Z54] Z85,Qez Z85=true,Z96=Z96,Z96=Z96,Z34=Z34,Z34=Z34,Z17.take Z6.length++[Z88]=Z89,[Z88].all (fun r=>r.all AV.plain)=true,Z89.length * 64≤140737488355328,Z89.length≤140737488355328,Z89[p1.length]? = some Z88,Z88[5]? = some Z87,Qa1 Z86=true,Z89.set p1.length (Z88.set 5 (AV.own 156 1 Z86))=Z90,Z89.length=Z90.length,(0:Int)≤p5,p5<((Z90.length:Nat) : Int),Z90[p5.toNat]? = some Z16,Z90.set p5.toNat (wr Z16 0 Z92)=Z93,Z92.length=6,0+Z92.length≤Z16.length,(AV.agg Z97)=(AV.agg Z97),Z98=Z98,Z98=Z98,[(1004,some Z99)]=[(1004,some Z99)],Z93[p5.toNat]? = some Z92,Z92[5]? = some Z91,Qa1 Z84=true,Z93.set p5.toNat (Z92.set 5 (AV.own 156 1 Z84))=Z94,Qa1 (Z94.take Z89.length)=true,Z94.take Z89.length=Z94,Qa4 Z94=true,Qa1 Z43=true,Z14.take Z14.length=Z14,Qa4 Z14=true,Qa1 Z44=true,Z15.take Z15.length=Z15,Qa4 Z15=true,Z23=Z23,Qa8 Z23=true,Z98=Z98,Qa8 Z98=true]) (Qag AP14 ⟨c40,c41,(by simp +zetaDelta only [List.length_set,List.length_map]),(by simp +zetaDelta only [List.length_set,List.length_map]),(cIF (P:=Try.prog) ty3 Qv6),(Qiw Qb7 hl42),(plD Qp6),(Qnn Qb7 hl42 (by decide)),(Qnm Qb7 hl42),(Qje hr43),(by simp +zetaDelta only [Qez,Qcw,Qaa Qhh,Qap,Bool.and_self]),rfl,rfl,rfl,rfl,(adT lnq),rfl,(adB Qap hl44 (by decide)),(adC Qap hl44),(adG Qap),rfl,(Qa7 Qdh),(adS Qap hl44 hx8),(adL Qap hl44),(rd0 hx45),(Qn1 Qap hx45),(Qcl (rdM Qap hx45)),(Qfy rfl),rfl,leB,rfl,rfl,rfl,rfl,(Qcl (rdM Qap hx45)),rfl,(Qa7 Qdh),(Qhd Qap (y:=(Qa2.mk x8.Routine (w64 Z26) x8.State x8.Cond x8.Lock l42)) rfl),(Qc8 (Eq.trans (adL Qap hl44) (Eq.trans (lnq:Z90.length=Z93.length) (lnq:Z93.length=Z94.length))) (Qa7 Qg7)),(Qep (Eq.trans (adL Qap hl44) (Eq.trans (lnq:Z90.length=Z93.length) (lnq:Z93.length=Z94.length)))),(Qaa Qi3),(Qay Qdh),Qax,(Qaa Qhh),(Qay t3),Qax,(Qaa n3),rfl,rfl,rfl,rfl,trivial⟩))
        ·let P15:List Prop:=P14++[Z79=false,(p6.Code == 14)=false]
         have AP15:Qb0 P15:=Qag AP14 ⟨c40,c46,trivial⟩
         rcases itS h with ⟨c47,h⟩ | ⟨c48,h⟩
         ·obtain rfl:=sj h
          exact gR hP hn (H7++[hF 68,hF 71,hF 74,hF 77,hT 80,hh 90 (.slen 241 Z17.length),hh 91 (.sto Z16 Z58),hh 96 (.pack 0 1010 p5.toNat 5 Z57 Z59)]) [] (.agg [.agg [.own,.own,.own,.raw],.raw]) (P15++[Z100=true,Z6.length=Z17.length,(0:Int)≤p5,p5<Z33,Z17[p5.toNat]? = some Z16,Z17.set p5.toNat Z61=Z58,Z57.length=6,0+Z57.length≤Z16.length,Z37=Z37,Z101=Z101,Z101=Z101,[(1004,some Z42)]=[(1004,some Z42)],Z58[p5.toNat]? = some Z57,Z57[5]? = some Z52,Qa1 Z18=true,Z58.set p5.toNat Z64=Z59,Qa1 Z65=true,Z59.take Z6.length=Z59,Qa4 Z59=true,Qa1 Z43=true,Z14.take Z14.length=Z14,Qa4 Z14=true,Qa1 Z44=true,Z15.take Z15.length=Z15,Qa4 Z15=true,Z23=Z23,Qa8 Z23=true,Z101=Z101,Qa8 Z101=true]) (Qag AP15 ⟨c47,lnq,(rd0 hx8),(Qn1 Qap hx8),(Qcl (rdM Qap hx8)),(Qfy rfl),rfl,leB,rfl,rfl,rfl,rfl,(Qcl (rdM Qap hx8)),rfl,(Qa7 Qdh),(Qhd Qap (y:=Z66) rfl),(Qc8 lnq (Qa7 Qg7)),(Qep lnq),(Qaa Qi3),(Qay Qdh),Qax,(Qaa Qhh),(Qay t3),Qax,(Qaa n3),rfl,rfl,rfl,rfl,trivial⟩)
         ·rcases itS h with ⟨c49,h⟩ | ⟨c51,h⟩
          ·obtain ⟨x50,hx50,h⟩:=bnS h
           obtain rfl:=sj h
           exact gR hP hn (H7++[hF 68,hF 71,hF 74,hF 77,hF 80,hT 83,hh 99 (.sto [(I x50)] Z102),hh 119 (.slen 241 Z17.length),hh 120 (.sto Z16 Z104),hh 125 (.pack 0 1010 p5.toNat 5 Z103 Z105)]) [] (.agg [.agg [.own,.own,.own,.raw],.raw]) (P15++[Z100=false,(p6.Code == 16)=true,(0:Int)≤p6.B,p6.B<Z76,Z15[p6.B.toNat]? = some [(I x50)],Z15.set p6.B.toNat (wr [(I x50)] 0 Z80)=Z102,Z80.length=1,0+Z80.length≤[(I x50)].length,Z6.length=Z17.length,(0:Int)≤p5,p5<Z33,Z17[p5.toNat]? = some Z16,Z17.set p5.toNat (wr Z16 0 Z103)=Z104,Z103.length=6,0+Z103.length≤Z16.length,Z37=Z37,Z106=Z106,Z106=Z106,[(1004,some Z42)]=[(1004,some Z42)],Z104[p5.toNat]? = some Z103,Z103[5]? = some Z52,Qa1 Z18=true,Z104.set p5.toNat (Z103.set 5 Z63)=Z105,Qa1 (Z105.take Z6.length)=true,Z105.take Z6.length=Z105,Qa4 Z105=true,Qa1 Z43=true,Z14.take Z14.length=Z14,Qa4 Z14=true,Qa1 (Z102.take Z15.length)=true,Z102.take Z15.length=Z102,Qa4 Z102=true,Z23=Z23,Qa8 Z23=true,Z106=Z106,Qa8 Z106=true]) (Qag AP15 ⟨c48,c49,(rd0 hx50),(rdL o3 hx50),(rdM o3 hx50),(Qyf o3),rfl,leB,lnq,(rd0 hx8),(Qn1 Qap hx8),(Qcl (rdM Qap hx8)),(Qfy rfl),rfl,leB,rfl,rfl,rfl,rfl,(Qcl (rdM Qap hx8)),rfl,(Qa7 Qdh),(Qhd Qap (y:=(Qa2.mk x8.Routine (w64 ((w64 Z26) - 1)) 3 p6.A p6.B l13)) rfl),(Qc8 lnq (Qa7 Qg7)),(Qep lnq),(Qaa Qi3),(Qay Qdh),Qax,(Qaa Qhh),(Qc8 lnq (Qa7 t3)),(Qep lnq),(Qaa n3),rfl,rfl,rfl,rfl,trivial⟩)
          ·rcases itS h with ⟨c52,h⟩ | ⟨c53,h⟩
           ·cases h
           ·obtain ⟨x54,hx54,h⟩:=bnS h
            obtain ⟨x55,hx55,h⟩:=bnS h
            obtain ⟨r56,hr56,h⟩:=bnS h
            obtain ⟨l57,hl57,h⟩:=bnS h
            obtain rfl:=sj h
            exact (let Z107:=l57.map Qb7;let Z108:=AV.sl 1021 0 Z107.length;let Z109:=[Z0,(I Z27),Z1,Z2,Z3,Z108];let Z110:=Z6.set p5.toNat Z109;let Z111:=(p1.set p5.toNat (Qa2.mk x8.Routine Z27 x8.State x8.Cond x8.Lock l57)).map Qap;let Z112:=(([r56].map Qb7).drop 0).take ([r56].map Qb7).length;gR hP hn (H7++[hF 68,hF 71,hF 74,hF 77,hF 80,hF 83,hF 86,hh 93 (.row [(FK x54)]),hh 96 (.row [(FK x55)]),hh 97 (.callV [] (FK r56)),hW 98 1020,hh 101 (.app 1021 Z107),hh 108 (.slen 241 Z17.length),hh 109 (.sto Z16 Z110),hh 114 (.pack 0 1021 p5.toNat 5 Z109 Z111)]) [] (.agg [.agg [.own,.own,.own,.raw],.raw]) (P15++[Z100=false,(p6.Code == 16)=false,(p6.Code == 17)=false,(0:Int)≤0,0<Z60,Z12[(Int.toNat 0)]? = some [(FK x54)],(0:Int)≤1,1<Z60,Z12[(Int.toNat 1)]? = some [(FK x55)],Qab Try.prog 201 [(I p6.Code),(FK x54),(FK x55)] (FK r56),Qa8 (FK r56)=true,Z51=Z51,Z52=Z52,Z18.take Z18.length++Z112=Z107,Z112.all (fun r=>r.all AV.plain)=true,Z107.length * 8≤140737488355328,Z107.length≤140737488355328,Z6.length=Z17.length,(0:Int)≤p5,p5<Z33,Z17[p5.toNat]? = some Z16,Z17.set p5.toNat (wr Z16 0 Z109)=Z110,Z109.length=6,0+Z109.length≤Z16.length,Z37=Z37,Z41=Z41,Z41=Z41,[(1004,some Z42)]=[(1004,some Z42)],Z110[p5.toNat]? = some Z109,Z109[5]? = some Z108,Qa1 Z107=true,Z110.set p5.toNat (Z109.set 5 (AV.own 156 1 Z107))=Z111,Qa1 (Z111.take Z6.length)=true,Z111.take Z6.length=Z111,Qa4 Z111=true,Qa1 Z43=true,Z14.take Z14.length=Z14,Qa4 Z14=true,Qa1 Z44=true,Z15.take Z15.length=Z15,Qa4 Z15=true,Z23=Z23,Qa8 Z23=true,Z41=Z41,Qa8 Z41=true]) (Qag AP15 ⟨c48,c51,c53,(rd0 hx54),(rdL Qb7 hx54),(rdM Qb7 hx54),(rd0 hx55),(rdL Qb7 hx55),(rdM Qb7 hx55),(Ql5 hr56),rfl,rfl,rfl,(Qiw Qb7 hl57),(plD Qp6),(Qnn Qb7 hl57 (by decide)),(Qnm Qb7 hl57),lnq,(rd0 hx8),(Qn1 Qap hx8),(Qcl (rdM Qap hx8)),(Qfy rfl),rfl,leB,rfl,rfl,rfl,rfl,(Qcl (rdM Qap hx8)),rfl,(Qa7 Qdh),(Qhd Qap (y:=(Qa2.mk x8.Routine (w64 Z26) x8.State x8.Cond x8.Lock l57)) rfl),(Qc8 lnq (Qa7 Qg7)),(Qep lnq),(Qaa Qi3),(Qay Qdh),Qax,(Qaa Qhh),(Qay t3),Qax,(Qaa n3),rfl,rfl,rfl,rfl,trivial⟩))
noncomputable def Qza:Code:=match Try.f195.body with | some c=>c | none=>.skip
noncomputable def Qbr  (p1:(List Qa2)) (p2:(List Nat)) (p3:(List Int)) (p5:Int) (x8:Qa2) : Nat→(List Qa2)→(List Nat)→(List Nat)→(List Int)→Int→GOp→Qa5→Qa3→Qa5→Int→Int→Int→Int→Int→Int→Option (Qa3×Qa5)
 | 0,_,_,_,_,_,_,_,_,_,_,_,_,_,_,_=>none
 | n+1,a51,a52,a53,a54,a55,a56,a57,a58,a59,a60,a61,a62,a63,a64,v65 =>
 if (decide (v65<(p1.length:Int)))=true then
  if (decide (v65=p5))=true then
   Option.bind (rd a51 p5) fun x68 =>
   if (x8.State == 3)=true then
    if (x8.Cond == a56.A)=true then
     none
    else
     Qbr p1 p2 p3 p5 x8 n a51 a52 a53 a54 a55 a56 a57 a58 a59 a60 a61 a62 a63 a64 (w64 (v65+1))
   else
    Qbr p1 p2 p3 p5 x8 n a51 a52 a53 a54 a55 a56 a57 a58 a59 a60 a61 a62 a63 a64 (w64 (v65+1))
  else
   Option.bind (rd a51 v65) fun x74 =>
   Option.bind (rd a51 p5) fun x75 =>
   if (x74.State == 3)=true then
    if (x74.Cond == a56.A)=true then
     Option.bind (rd (a51.set (Int.toNat v65) (Qa2.mk x74.Routine x74.Pc 4 x74.Cond x74.Lock x74.Stack)) p5) fun x78 =>
     some ((Qa3.mk ((a51.set (Int.toNat v65) (Qa2.mk x74.Routine x74.Pc 4 x74.Cond x74.Lock x74.Stack)).set (Int.toNat p5) (Qa2.mk a60 a61 a62 a63 a64 a52)) a53 a54 a55),(Qa5.mk a57.Thread a57.Kind a57.Obj v65 a57.Pc))
    else
     Qbr p1 p2 p3 p5 x8 n a51 a52 a53 a54 a55 a56 a57 a58 a59 a60 a61 a62 a63 a64 (w64 (v65+1))
   else
    Qbr p1 p2 p3 p5 x8 n a51 a52 a53 a54 a55 a56 a57 a58 a59 a60 a61 a62 a63 a64 (w64 (v65+1))
 else
  Option.bind (rd a51 p5) fun x82 =>
  some ((Qa3.mk (a51.set (Int.toNat p5) (Qa2.mk a60 a61 a62 a63 a64 a52)) a53 a54 a55),a57)
theorem Qql {E:Env} (hP:E.pk=pk0 Try.prog) (hn:E.n=247) (hx:FX E []) (p1:(List Qa2)) (p2:(List Nat)) (p3:(List Int)) (p5:Int) (x8:Qa2)  : ∀ (n:Nat) (a51:(List Qa2)) (a52:(List Nat)) (a53:(List Nat)) (a54:(List Int)) (a55:Int) (a56:GOp) (a57:Qa5) (a58:Qa3) (a59:Qa5) (a60:Int) (a61:Int) (a62:Int) (a63:Int) (a64:Int) (v65:Int) (r:(Qa3×Qa5)),Qbr p1 p2 p3 p5 x8 n a51 a52 a53 a54 a55 a56 a57 a58 a59 a60 a61 a62 a63 a64 v65=some r→WAt E Qza (FQ (Qdu Θ Try.f195.results.toList [false,false,false] [⟨198,6,(p1.map Qap)⟩,⟨156,1,(p2.map Qb7)⟩,⟨3,1,(p3.map o3)⟩] (AV.tup [(AV.agg (Qj4 r.1)),(AV.agg (o71 r.2))]) E)) [true,true,true,true,true,true,true,true,false,true,false,true,true,true,true,true,true,true,true,true,true,true,true,true,true,true,true,true,true,true,true,true,false,true,true,true,false] ⟨[(1,(I p5)),(4,(AV.ptr 3 0 0)),(6,(AV.ptr 4 0 0)),(7,(AV.ptr 5 0 0)),(8,(AV.ptr 6 0 0)),(9,(AV.ptr 7 0 0)),(10,(AV.ptr 8 0 0)),(215,(AV.sl 0 0 (List.length ((a51.map Qap).set (Int.toNat p5) [(I x8.Routine),(I x8.Pc),(I x8.State),(I x8.Cond),(I x8.Lock),(AV.sl 1006 0 (List.length (a52.map Qb7)))])))),(216,(I (p1.length:Int))),(217,(I v65))],[(3,some ⟨141,4,[[(AV.sl 0 0 (List.length ((a51.map Qap).set (Int.toNat p5) [(I x8.Routine),(I x8.Pc),(I x8.State),(I x8.Cond),(I x8.Lock),(AV.sl 1006 0 (List.length (a52.map Qb7)))]))),(AV.own 156 1 (a53.map Qb7)),(AV.own 3 1 (a54.map o3)),(I a55)]]⟩),(0,some ⟨198,6,((a51.map Qap).set (Int.toNat p5) [(I x8.Routine),(I x8.Pc),(I x8.State),(I x8.Cond),(I x8.Lock),(AV.sl 1006 0 (List.length (a52.map Qb7)))])⟩),(1006,some ⟨156,1,(a52.map Qb7)⟩),(4,some ⟨158,4,[((Qcb a56))]⟩),(5,some ⟨71,5,[((o71 a57))]⟩),(6,some ⟨141,4,[((Qj4 a58))]⟩),(7,some ⟨71,5,[((o71 a59))]⟩),(8,some ⟨198,6,[[(I a60),(I a61),(I a62),(I a63),(I a64),(AV.sl 1006 0 (List.length (a52.map Qb7)))]]⟩)],[3,0,1006,4,5,6,7,8,JJ]⟩:=by
 intro n
 induction n with
 | zero=>intro a51 a52 a53 a54 a55 a56 a57 a58 a59 a60 a61 a62 a63 a64 v65 r h;simp only [Qbr] at h;cases h
 | succ n ih =>
  intro a51 a52 a53 a54 a55 a56 a57 a58 a59 a60 a61 a62 a63 a64 v65 r h
  simp only [Qbr] at h
  let Z0:=(decide (v65<(p1.length:Int)));let Z1:=a52.map Qb7;let Z2:=AV.sl 1006 0 Z1.length;let Z3:=[(I x8.Routine),(I x8.Pc),(I x8.State),(I x8.Cond),(I x8.Lock),Z2];let Z4:=(a51.map Qap).set p5.toNat Z3;let Z5:=((Z4.length:Nat) : Int);let Z6:=B true;let Z7:=AV.sl 0 0 Z4.length;let Z8:=a53.map Qb7;let Z9:=AV.own 156 1 Z8;let Z10:=a54.map o3;let Z11:=AV.own 3 1 Z10;let Z12:=I a55;let Z13:=[Z7,Z9,Z11,Z12];let Z14:=Qcb a56;let Z15:=o71 a57;let Z16:=Qj4 a58;let Z17:=o71 a59;let Z18:=[(I a60),(I a61),(I a62),(I a63),(I a64),Z2];let Z29:=AV.sl 1004 0 Z8.length;let Z30:=[Z7,Z29,Z11,Z12];let Z31:=AV.sl 1005 0 Z10.length;let Z32:=[[Z7,Z29,Z31,Z12]];let Z36:=AV.agg [Z7,Z29,Z31,Z12];let Z37:=AV.agg [(I a57.Thread),(I a57.Kind),(I a57.Obj),(I v65),(I a57.Pc)];let Z38:=Z18.set 5 (AV.own 156 1 Z1);let Z39:=Z10.take Z10.length;let Z40:=Qa2.mk a60 a61 a62 a63 a64 a52;let Z41:=(a51.map Qap).set p5.toNat Z18;let Z42:=AV.sl 1007 0 Z8.length;let Z43:=[Z7,Z42,Z11,Z12];let Z44:=AV.sl 1008 0 Z10.length;let Z45:=[[Z7,Z42,Z44,Z12]];let Z46:=(a51.set p5.toNat (Qa2.mk a60 a61 a62 a63 a64 a52)).map Qap;let Z47:=AV.agg [Z7,Z42,Z44,Z12];let Z48:=AV.agg Z15
  rcases itS h with ⟨c66,h⟩ | ⟨c81,h⟩
  ·let P1:List Prop:=[Z0=true]
   have AP1:Qb0 P1:=⟨c66,trivial⟩
   rcases itS h with ⟨c67,h⟩ | ⟨c73,h⟩
   ·obtain ⟨x68,hx68,h⟩:=bnS h
    let H2:List Hn:=[hT 1,hh 4 (.row Z3),hW 5 1001]
    let P3:List Prop:=P1++[(0:Int)≤v65,v65<Z5,Z4[v65.toNat]? = some Z3]
    have AP3:Qb0 P3:=Qag AP1 ⟨(eqLe c67 (rd0 hx68)),(eqLt c67 (Qn1 Qap hx68)),(eqG c67 (Qcl (rdM Qap hx68))),trivial⟩
    rcases itS h with ⟨c69,h⟩ | ⟨c72,h⟩
    ·rcases itS h with ⟨c70,h⟩ | ⟨c71,h⟩
     ·cases h
     ·exact gT hP hn hx (H2++[hO 11 Z6,hF 18]) [(3,3),(0,0),(1006,1006),(4,4),(5,5),(6,6),(7,7),(8,8)] [1,4,6,7,8,9,10,215,216,217] [] (P3++[(B (x8.State == 3))=Z6,(x8.Cond == a56.A)=false,Qa6 [(3,3),(0,0),(1006,1006),(4,4),(5,5),(6,6),(7,7),(8,8)] [Z13],Qa6 [(3,3),(0,0),(1006,1006),(4,4),(5,5),(6,6),(7,7),(8,8)] Z4,Qa6 [(3,3),(0,0),(1006,1006),(4,4),(5,5),(6,6),(7,7),(8,8)] Z1,Qa6 [(3,3),(0,0),(1006,1006),(4,4),(5,5),(6,6),(7,7),(8,8)] [Z14],Qa6 [(3,3),(0,0),(1006,1006),(4,4),(5,5),(6,6),(7,7),(8,8)] [Z15],Qa6 [(3,3),(0,0),(1006,1006),(4,4),(5,5),(6,6),(7,7),(8,8)] [Z16],Qa6 [(3,3),(0,0),(1006,1006),(4,4),(5,5),(6,6),(7,7),(8,8)] [Z17],Qa6 [(3,3),(0,0),(1006,1006),(4,4),(5,5),(6,6),(7,7),(8,8)] [Z18]]) (Qag AP3 ⟨(Qb5 c69),c71,(.inr rfl),(Qg3 (rok (Qa7 Qg7)) rfl),(rok (Qa7 Qdh)),(rok rfl),(rok rfl),(rok (Qb1 Qm2 a58)),(rok rfl),(.inr rfl),trivial⟩) (ih a51 a52 a53 a54 a55 a56 a57 a58 a59 a60 a61 a62 a63 a64 (w64 (v65+1)) _ h)
    ·exact gT hP hn hx (H2++[hO 11 (B false)]) [(3,3),(0,0),(1006,1006),(4,4),(5,5),(6,6),(7,7),(8,8)] [1,4,6,7,8,9,10,215,216,217] [] (P3++[(B (x8.State == 3))=(B false),Qa6 [(3,3),(0,0),(1006,1006),(4,4),(5,5),(6,6),(7,7),(8,8)] [Z13],Qa6 [(3,3),(0,0),(1006,1006),(4,4),(5,5),(6,6),(7,7),(8,8)] Z4,Qa6 [(3,3),(0,0),(1006,1006),(4,4),(5,5),(6,6),(7,7),(8,8)] Z1,Qa6 [(3,3),(0,0),(1006,1006),(4,4),(5,5),(6,6),(7,7),(8,8)] [Z14],Qa6 [(3,3),(0,0),(1006,1006),(4,4),(5,5),(6,6),(7,7),(8,8)] [Z15],Qa6 [(3,3),(0,0),(1006,1006),(4,4),(5,5),(6,6),(7,7),(8,8)] [Z16],Qa6 [(3,3),(0,0),(1006,1006),(4,4),(5,5),(6,6),(7,7),(8,8)] [Z17],Qa6 [(3,3),(0,0),(1006,1006),(4,4),(5,5),(6,6),(7,7),(8,8)] [Z18]]) (Qag AP3 ⟨(Qb5 c72),(.inr rfl),(Qg3 (rok (Qa7 Qg7)) rfl),(rok (Qa7 Qdh)),(rok rfl),(rok rfl),(rok (Qb1 Qm2 a58)),(rok rfl),(.inr rfl),trivial⟩) (ih a51 a52 a53 a54 a55 a56 a57 a58 a59 a60 a61 a62 a63 a64 (w64 (v65+1)) _ h)
   ·obtain ⟨x74,hx74,h⟩:=bnS h
    obtain ⟨x75,hx75,h⟩:=bnS h
    let Z19:=x74.Stack.map Qb7;let Z20:=AV.own 156 1 Z19;let Z21:=[(I x74.Routine),(I x74.Pc),(I x74.State),(I x74.Cond),(I x74.Lock),Z20];let Z22:=AV.sl 1002 0 Z19.length;let Z23:=[(I x74.Routine),(I x74.Pc),(I x74.State),(I x74.Cond),(I x74.Lock),Z22];let Z24:=Z4.set v65.toNat Z23;let Z25:=Qap x74;let Z26:=a51.set v65.toNat (Qa2.mk x74.Routine x74.Pc 4 x74.Cond x74.Lock x74.Stack);let Z27:=(Z26.map Qap).set p5.toNat Z3;let Z28:=(Z26.map Qap).set p5.toNat Z18;let Z33:=(Z26.set p5.toNat (Qa2.mk a60 a61 a62 a63 a64 a52)).map Qap;let Z34:=B (x74.State == 3);let Z35:=Z23.set 5 Z20
    let H4:List Hn:=[hT 1,hh 4 (.unpack 0 1002 v65.toNat 5 Z21 156 1 Z19 Z24),hh 4 (.row Z23),hW 5 1003]
    let P5:List Prop:=P1++[(0:Int)≤v65,v65<Z5,Z4[v65.toNat]? = some Z21,Z21[5]? = some Z20,0<1,Z4.set v65.toNat (Z21.set 5 Z22)=Z24,Z24[v65.toNat]? = some Z23]
    have AP5:Qb0 P5:=Qag AP1 ⟨(rd0 hx74),(Qn1 Qap hx74),(Xad (neN (Xev c73) (rd0 hx75) (rd0 hx74)) (rdM Qap hx74)),rfl,(by decide),rfl,(Qcl (Xad (neN (Xev c73) (rd0 hx75) (rd0 hx74)) (rdM Qap hx74))),trivial⟩
    rcases itS h with ⟨c76,h⟩ | ⟨c80,h⟩
    ·rcases itS h with ⟨c77,h⟩ | ⟨c79,h⟩
     ·obtain ⟨x78,hx78,h⟩:=bnS h
      obtain rfl:=sj h
      exact gR hP hn (H4++[hO 11 Z6,hT 18,hh 22 (.slen 233 Z24.length),hh 24 (.pack 0 1002 v65.toNat 5 Z23 Z4),hh 24 (.sto Z25 Z27),hh 32 (.slen 241 Z27.length),hh 33 (.sto Z3 Z28),hh 34 (.unpack 3 1004 0 1 Z13 156 1 Z8 [Z30]),hh 34 (.unpack 3 1005 0 2 Z30 3 1 Z10 Z32),hh 38 (.pack 0 1006 p5.toNat 5 Z18 Z33)]) [] (.agg [.agg [.own,.own,.own,.raw],.raw]) (P5++[Z34=Z6,(x74.Cond == a56.A)=true,Z4.length=Z24.length,(0:Int)≤v65,v65<((Z24.length:Nat) : Int),Z24[v65.toNat]? = some Z23,Z23[5]? = some Z22,Qa1 Z19=true,Z24.set v65.toNat Z35=Z4,Z4[v65.toNat]? = some Z25,Z4.set v65.toNat (wr Z25 2 [(I 4)])=Z27,[(I 4)].length=1,2 + [(I 4)].length≤Z25.length,Z4.length=Z27.length,(0:Int)≤p5,p5<((Z27.length:Nat) : Int),Z27[p5.toNat]? = some Z3,Z27.set p5.toNat (wr Z3 0 Z18)=Z28,Z18.length=6,0+Z18.length≤Z3.length,[Z13][0]? = some Z13,Z13[1]? = some Z9,0<1,[Z13].set 0 (Z13.set 1 Z29)=[Z30],[Z30][0]? = some Z30,Z30[2]? = some Z11,0<1,[Z30].set 0 (Z30.set 2 Z31)=Z32,Z36=Z36,Z37=Z37,Z37=Z37,[(6,some (Qae.mk 141 4 Z32))]=[(6,some (Qae.mk 141 4 Z32))],Z28[p5.toNat]? = some Z18,Z18[5]? = some Z2,Qa1 Z1=true,Z28.set p5.toNat Z38=Z33,Qa1 (Z33.take Z4.length)=true,Z33.take Z4.length=Z33,Qa4 Z33=true,Qa1 (Z8.take Z8.length)=true,Z8.take Z8.length=Z8,Qa4 Z8=true,Qa1 Z39=true,Z10.take Z10.length=Z10,Qa4 Z10=true,Z12=Z12,Qa8 Z12=true,Z37=Z37,Qa8 Z37=true]) (Qag AP5 ⟨(Qb5 c76),c77,lnq,(rd0 hx74),(rdL2 Qap hx74),(Qcl (Xad (neN (Xev c73) (rd0 hx75) (rd0 hx74)) (rdM Qap hx74))),rfl,(Qa7 Qdh),(Qzz Qap (neN (Xev c73) (rd0 hx75) (rd0 hx74)) hx74),(Xad (neN (Xev c73) (rd0 hx75) (rd0 hx74)) (rdM Qap hx74)),(setND Qap (neN (Xev c73) (rd0 hx75) (rd0 hx74)) (y:=(Qa2.mk x74.Routine x74.Pc 4 x74.Cond x74.Lock x74.Stack)) (by kernel_rfl)),rfl,leB,lnq,(rd0 hx78),(Qn1 Qap hx78),(Qcl (rdM Qap hx78)),(Qfy rfl),rfl,leB,rfl,rfl,(by decide),rfl,rfl,rfl,(by decide),rfl,rfl,rfl,rfl,rfl,(Qcl (rdM Qap hx78)),rfl,(Qa7 Qdh),(Qhd Qap (y:=Z40) rfl),(Qc8 lnq (Qa7 Qg7)),(Qep lnq),(Qaa Qi3),(Qay Qdh),Qax,(Qaa Qhh),(Qay t3),Qax,(Qaa n3),rfl,rfl,rfl,rfl,trivial⟩)
     ·exact gT hP hn hx (H4++[hO 11 Z6,hF 18,hh 21 (.pack 0 1002 v65.toNat 5 Z23 Z4),hh 21 (.slen 215 Z4.length)]) [(3,3),(0,0),(1006,1006),(4,4),(5,5),(6,6),(7,7),(8,8)] [1,4,6,7,8,9,10,215,216,217] [] (P5++[Z34=Z6,(x74.Cond == a56.A)=false,Z24[v65.toNat]? = some Z23,Z23[5]? = some Z22,Qa1 Z19=true,Z24.set v65.toNat Z35=Z4,Z4.length=Z4.length,Qa6 [(3,3),(0,0),(1006,1006),(4,4),(5,5),(6,6),(7,7),(8,8)] [Z13],Qa6 [(3,3),(0,0),(1006,1006),(4,4),(5,5),(6,6),(7,7),(8,8)] Z4,Qa6 [(3,3),(0,0),(1006,1006),(4,4),(5,5),(6,6),(7,7),(8,8)] Z1,Qa6 [(3,3),(0,0),(1006,1006),(4,4),(5,5),(6,6),(7,7),(8,8)] [Z14],Qa6 [(3,3),(0,0),(1006,1006),(4,4),(5,5),(6,6),(7,7),(8,8)] [Z15],Qa6 [(3,3),(0,0),(1006,1006),(4,4),(5,5),(6,6),(7,7),(8,8)] [Z16],Qa6 [(3,3),(0,0),(1006,1006),(4,4),(5,5),(6,6),(7,7),(8,8)] [Z17],Qa6 [(3,3),(0,0),(1006,1006),(4,4),(5,5),(6,6),(7,7),(8,8)] [Z18]]) (Qag AP5 ⟨(Qb5 c76),c79,(Qcl (Xad (neN (Xev c73) (rd0 hx75) (rd0 hx74)) (rdM Qap hx74))),rfl,(Qa7 Qdh),(Qzz Qap (neN (Xev c73) (rd0 hx75) (rd0 hx74)) hx74),rfl,(.inr rfl),(Qg3 (rok (Qa7 Qg7)) rfl),(rok (Qa7 Qdh)),(rok rfl),(rok rfl),(rok (Qb1 Qm2 a58)),(rok rfl),(.inr rfl),trivial⟩) (ih a51 a52 a53 a54 a55 a56 a57 a58 a59 a60 a61 a62 a63 a64 (w64 (v65+1)) _ h)
    ·exact gT hP hn hx (H4++[hO 11 (B false),hh 21 (.pack 0 1002 v65.toNat 5 Z23 Z4),hh 21 (.slen 215 Z4.length)]) [(3,3),(0,0),(1006,1006),(4,4),(5,5),(6,6),(7,7),(8,8)] [1,4,6,7,8,9,10,215,216,217] [] (P5++[Z34=(B false),Z24[v65.toNat]? = some Z23,Z23[5]? = some Z22,Qa1 Z19=true,Z24.set v65.toNat Z35=Z4,Z4.length=Z4.length,Qa6 [(3,3),(0,0),(1006,1006),(4,4),(5,5),(6,6),(7,7),(8,8)] [Z13],Qa6 [(3,3),(0,0),(1006,1006),(4,4),(5,5),(6,6),(7,7),(8,8)] Z4,Qa6 [(3,3),(0,0),(1006,1006),(4,4),(5,5),(6,6),(7,7),(8,8)] Z1,Qa6 [(3,3),(0,0),(1006,1006),(4,4),(5,5),(6,6),(7,7),(8,8)] [Z14],Qa6 [(3,3),(0,0),(1006,1006),(4,4),(5,5),(6,6),(7,7),(8,8)] [Z15],Qa6 [(3,3),(0,0),(1006,1006),(4,4),(5,5),(6,6),(7,7),(8,8)] [Z16],Qa6 [(3,3),(0,0),(1006,1006),(4,4),(5,5),(6,6),(7,7),(8,8)] [Z17],Qa6 [(3,3),(0,0),(1006,1006),(4,4),(5,5),(6,6),(7,7),(8,8)] [Z18]]) (Qag AP5 ⟨(Qb5 c80),(Qcl (Xad (neN (Xev c73) (rd0 hx75) (rd0 hx74)) (rdM Qap hx74))),rfl,(Qa7 Qdh),(Qzz Qap (neN (Xev c73) (rd0 hx75) (rd0 hx74)) hx74),rfl,(.inr rfl),(Qg3 (rok (Qa7 Qg7)) rfl),(rok (Qa7 Qdh)),(rok rfl),(rok rfl),(rok (Qb1 Qm2 a58)),(rok rfl),(.inr rfl),trivial⟩) (ih a51 a52 a53 a54 a55 a56 a57 a58 a59 a60 a61 a62 a63 a64 (w64 (v65+1)) _ h)
  ·obtain ⟨x82,hx82,h⟩:=bnS h
   obtain rfl:=sj h
   exact gR hP hn [hF 1,hh 6 (.slen 241 Z4.length),hh 7 (.sto Z3 Z41),hh 8 (.unpack 3 1007 0 1 Z13 156 1 Z8 [Z43]),hh 8 (.unpack 3 1008 0 2 Z43 3 1 Z10 Z45),hh 12 (.pack 0 1006 p5.toNat 5 Z18 Z46)] [] (.agg [.agg [.own,.own,.own,.raw],.raw]) [Z0=false,Z4.length=Z4.length,(0:Int)≤p5,p5<Z5,Z4[p5.toNat]? = some Z3,Z4.set p5.toNat (wr Z3 0 Z18)=Z41,Z18.length=6,0+Z18.length≤Z3.length,[Z13][0]? = some Z13,Z13[1]? = some Z9,0<1,[Z13].set 0 (Z13.set 1 Z42)=[Z43],[Z43][0]? = some Z43,Z43[2]? = some Z11,0<1,[Z43].set 0 (Z43.set 2 Z44)=Z45,Z47=Z47,Z48=Z48,Z48=Z48,[(6,some (Qae.mk 141 4 Z45))]=[(6,some (Qae.mk 141 4 Z45))],Z41[p5.toNat]? = some Z18,Z18[5]? = some Z2,Qa1 Z1=true,Z41.set p5.toNat Z38=Z46,Qa1 (Z46.take Z4.length)=true,Z46.take Z4.length=Z46,Qa4 Z46=true,Qa1 (Z8.take Z8.length)=true,Z8.take Z8.length=Z8,Qa4 Z8=true,Qa1 Z39=true,Z10.take Z10.length=Z10,Qa4 Z10=true,Z12=Z12,Qa8 Z12=true,Z48=Z48,Qa8 Z48=true] ⟨c81,rfl,(rd0 hx82),(Qn1 Qap hx82),(Qcl (rdM Qap hx82)),(Qfy rfl),rfl,leB,rfl,rfl,(by decide),rfl,rfl,rfl,(by decide),rfl,rfl,rfl,rfl,rfl,(Qcl (rdM Qap hx82)),rfl,(Qa7 Qdh),(Qhd Qap (y:=Z40) rfl),(Qc8 lnq (Qa7 Qg7)),(Qep lnq),(Qaa Qi3),(Qay Qdh),Qax,(Qaa Qhh),(Qay t3),Qax,(Qaa n3),rfl,rfl,rfl,rfl,trivial⟩
noncomputable def Qkl (p1:(List Qa2)) (p2:(List Nat)) (p3:(List Int)) (p4:Int) (p5:Int) (p6:GOp) (p7:Qa5) : Option (Qa3×Qa5):=
 Option.bind (rd p1 p5) fun x8 =>
 Option.bind (Qfr p6.Code) fun r9 =>
 Option.bind (slc x8.Stack (w64 ((x8.Stack.length:Int) - r9.1)) (x8.Stack.length:Int)) fun l10 =>
 Option.bind (app [] l10) fun l11 =>
 Option.bind (Qcv (Qa3.mk (p1.set (Int.toNat p5) (Qa2.mk x8.Routine x8.Pc x8.State x8.Cond x8.Lock x8.Stack)) p2 p3 p4) (Qa2.mk x8.Routine x8.Pc x8.State x8.Cond x8.Lock x8.Stack)) fun r12 =>
 Option.bind (Qwe x8.Stack (w64 ((x8.Stack.length:Int) - r9.1))) fun q13 =>
 if (p6.Code == 1)=true then
  Option.bind (app x8.Stack [p6.V]) fun l15 =>
  some ((Qa3.mk (p1.set (Int.toNat p5) (Qa2.mk x8.Routine (w64 (x8.Pc+1)) x8.State x8.Cond x8.Lock l15)) p2 p3 p4),(Qa5.mk p7.Thread 1 p7.Obj p7.Lock p7.Pc))
 else
  if (p6.Code == 2)=true then
   Option.bind (rd p2 p6.A) fun x18 =>
   Option.bind (app x8.Stack [x18]) fun l19 =>
   some ((Qa3.mk (p1.set (Int.toNat p5) (Qa2.mk x8.Routine (w64 (x8.Pc+1)) x8.State x8.Cond x8.Lock l19)) p2 p3 p4),(Qa5.mk p7.Thread 2 p6.A p7.Lock p7.Pc))
  else
   if (p6.Code == 3)=true then
    Option.bind (rd l11 0) fun x22 =>
    Option.bind (rd p2 p6.A) fun x23 =>
    some ((Qa3.mk (p1.set (Int.toNat p5) (Qa2.mk x8.Routine (w64 (x8.Pc+1)) x8.State x8.Cond x8.Lock x8.Stack)) (p2.set (Int.toNat p6.A) x22) p3 p4),(Qa5.mk p7.Thread 3 p6.A p7.Lock p7.Pc))
   else
    if (p6.Code == 10)=true then
     some ((Qa3.mk (p1.set (Int.toNat p5) (Qa2.mk x8.Routine p6.A x8.State x8.Cond x8.Lock x8.Stack)) p2 p3 p4),(Qa5.mk p7.Thread 1 p7.Obj p7.Lock p7.Pc))
    else
     if (p6.Code == 11)=true then
      Option.bind (rd l11 0) fun x28 =>
      Option.bind (Qdz x28) fun r29 =>
      if r29=true then
       some ((Qa3.mk (p1.set (Int.toNat p5) (Qa2.mk x8.Routine p6.A x8.State x8.Cond x8.Lock x8.Stack)) p2 p3 p4),(Qa5.mk p7.Thread 1 p7.Obj p7.Lock p7.Pc))
      else
       if ((Qd9 x28 0) == some .eq)=true then
        some ((Qa3.mk (p1.set (Int.toNat p5) (Qa2.mk x8.Routine p6.A x8.State x8.Cond x8.Lock x8.Stack)) p2 p3 p4),(Qa5.mk p7.Thread 1 p7.Obj p7.Lock p7.Pc))
       else
        some ((Qa3.mk (p1.set (Int.toNat p5) (Qa2.mk x8.Routine (w64 (x8.Pc+1)) x8.State x8.Cond x8.Lock x8.Stack)) p2 p3 p4),(Qa5.mk p7.Thread 1 p7.Obj p7.Lock p7.Pc))
     else
      if (p6.Code == 12)=true then
       Option.bind (rd p3 p6.A) fun x36 =>
       some ((Qa3.mk (p1.set (Int.toNat p5) (Qa2.mk x8.Routine (w64 (x8.Pc+1)) x8.State x8.Cond x8.Lock x8.Stack)) p2 (p3.set (Int.toNat p6.A) p5) p4),(Qa5.mk p7.Thread 4 p6.A p7.Lock p7.Pc))
      else
       if (p6.Code == 13)=true then
        Option.bind (rd p3 p6.A) fun x39 =>
        some ((Qa3.mk (p1.set (Int.toNat p5) (Qa2.mk x8.Routine (w64 (x8.Pc+1)) x8.State x8.Cond x8.Lock x8.Stack)) p2 (p3.set (Int.toNat p6.A) (-1)) p4),(Qa5.mk p7.Thread 5 p6.A p7.Lock p7.Pc))
       else
        if (p6.Code == 14)=true then
         none
        else
         if (p6.Code == 15)=true then
          some ((Qa3.mk (p1.set (Int.toNat p5) (Qa2.mk x8.Routine (w64 (x8.Pc+1)) x8.State x8.Cond x8.Lock x8.Stack)) p2 p3 p4),(Qa5.mk p7.Thread 7 r12 p7.Lock p7.Pc))
         else
          if (p6.Code == 16)=true then
           Option.bind (rd p3 p6.B) fun x48 =>
           some ((Qa3.mk (p1.set (Int.toNat p5) (Qa2.mk x8.Routine (w64 ((w64 (x8.Pc+1)) - 1)) 3 p6.A p6.B x8.Stack)) p2 (p3.set (Int.toNat p6.B) (-1)) p4),(Qa5.mk p7.Thread 8 p6.A p6.B p7.Pc))
          else
           if (p6.Code == 17)=true then
            Qbr p1 p2 p3 p5 x8 FU p1 x8.Stack p2 p3 p4 p6 (Qa5.mk p7.Thread 10 p6.A p7.Lock p7.Pc) (Qa3.mk [] [] [] 0) (Qa5.mk 0 0 0 0 0) x8.Routine (w64 (x8.Pc+1)) x8.State x8.Cond x8.Lock 0
           else
            Option.bind (rd l11 0) fun x84 =>
            Option.bind (rd l11 1) fun x85 =>
            Option.bind (Qec p6.Code x84 x85) fun r86 =>
            Option.bind (app x8.Stack [r86]) fun l87 =>
            some ((Qa3.mk (p1.set (Int.toNat p5) (Qa2.mk x8.Routine (w64 (x8.Pc+1)) x8.State x8.Cond x8.Lock l87)) p2 p3 p4),(Qa5.mk p7.Thread 1 p7.Obj p7.Lock p7.Pc))
theorem Qve {p1:(List Qa2)} {p2:(List Nat)} {p3:(List Int)} {p4:Int} {p5:Int} {p6:GOp} {p7:Qa5} {r:(Qa3×Qa5)} (h:Qkl p1 p2 p3 p4 p5 p6 p7=some r) : Qxl Try.prog 195 [⟨198,6,(p1.map Qap)⟩,⟨156,1,(p2.map Qb7)⟩,⟨3,1,(p3.map o3)⟩] [(AV.agg [(AV.sl 0 0 (List.length (p1.map Qap))),(AV.sl 1 0 (List.length (p2.map Qb7))),(AV.sl 2 0 (List.length (p3.map o3))),(I p4)]),(I p5),(AV.agg ((Qcb p6))),(AV.agg ((o71 p7)))] [false,false,false] [⟨198,6,(p1.map Qap)⟩,⟨156,1,(p2.map Qb7)⟩,⟨3,1,(p3.map o3)⟩] (AV.tup [(AV.agg (Qj4 r.1)),(AV.agg (o71 r.2))]):=by
 refine Qxz Qxi Try.func195 rfl (c:=Qza) (by kernel_rfl) (Nat.le_of_ble_eq_true rfl) rfl (Nat.le_of_ble_eq_true rfl) rfl (fr:=[]) (frI rfl) ?_
 intro E hP hn hx
 replace hn:E.n=247:=hn
 unfold Qkl at h
 obtain ⟨x8,hx8,h⟩:=bnS h
 obtain ⟨r9,hr9,h⟩:=bnS h
 obtain ⟨l10,hl10,h⟩:=bnS h
 obtain ⟨l11,hl11,h⟩:=bnS h
 obtain ⟨r12,hr12,h⟩:=bnS h
 obtain ⟨q13,hq13,h⟩:=bnS h
 let Z0:=I x8.Routine;let Z1:=I x8.State;let Z2:=I x8.Cond;let Z3:=I x8.Lock;let Z4:=x8.Stack.map Qb7;let Z5:=AV.own 156 1 Z4;let Z6:=[Z0,(I x8.Pc),Z1,Z2,Z3,Z5];let Z7:=p1.map Qap;let Z8:=AV.sl 1006 0 Z4.length;let Z9:=[Z0,(I x8.Pc),Z1,Z2,Z3,Z8];let Z10:=Z7.set p5.toNat Z9;let Z11:=AV.tup [(I r9.1),(I r9.2)];let Z12:=(x8.Stack.length:Int);let Z13:=l11.map Qb7;let Z14:=(p1.set p5.toNat (Qa2.mk x8.Routine x8.Pc x8.State x8.Cond x8.Lock x8.Stack)).map Qg5;let Z15:=p2.map Qb7;let Z16:=p3.map o3;let Z17:=((Z7.length:Nat) : Int);let Z18:=((Z4.length:Nat) : Int);let Z19:=w64 (Z12 - r9.1);let Z20:=[].map Qb7;let Z21:=(Z4.drop Z19.toNat).take (Xf0 Z18.toNat Z19.toNat);let Z22:=I p4;let Z23:=Qae.mk 156 1 Z4;let Z25:=x8.Pc+1;let Z26:=w64 Z25;let Z31:=(([p6.V].map Qb7).drop 0).take ([p6.V].map Qb7).length;let Z32:=((Z10.length:Nat) : Int);let Z33:=AV.sl 1 0 Z15.length;let Z34:=AV.sl 2 0 Z16.length;let Z35:=[(AV.sl 0 0 Z7.length),Z33,Z34,Z22];let Z36:=AV.agg Z35;let Z37:=I p7.Thread;let Z38:=I p7.Lock;let Z39:=I p7.Pc;let Z40:=AV.agg [Z37,(I 1),(I p7.Obj),Z38,Z39];let Z41:=Qae.mk 141 4 [Z35];let Z42:=Z15.take Z15.length;let Z43:=Z16.take Z16.length;let Z49:=((Z15.length:Nat) : Int);let Z50:=AV.ptr 1007 0 5;let Z52:=I p6.A;let Z53:=AV.agg [Z37,(I 2),Z52,Z38,Z39];let Z55:=[Z0,(I Z26),Z1,Z2,Z3,Z8];let Z56:=Z7.set p5.toNat Z55;let Z57:=(p1.set p5.toNat (Qa2.mk x8.Routine Z26 x8.State x8.Cond x8.Lock x8.Stack)).map Qap;let Z58:=((Z13.length:Nat) : Int);let Z59:=wr Z9 0 Z55;let Z60:=AV.agg [Z37,(I 3),Z52,Z38,Z39];let Z61:=Z55.set 5 Z5;let Z62:=Z57.take Z7.length;let Z63:=Qa2.mk x8.Routine (w64 Z25) x8.State x8.Cond x8.Lock x8.Stack;let Z64:=[Z0,Z52,Z1,Z2,Z3,Z8];let Z65:=Z7.set p5.toNat Z64;let Z66:=(p1.set p5.toNat (Qa2.mk x8.Routine p6.A x8.State x8.Cond x8.Lock x8.Stack)).map Qap;let Z67:=wr Z9 0 Z64;let Z68:=Z64.set 5 Z5;let Z69:=Z66.take Z7.length;let Z70:=Qa2.mk x8.Routine p6.A x8.State x8.Cond x8.Lock x8.Stack;let Z72:=(p3.set p6.A.toNat p5).map o3;let Z73:=((Z16.length:Nat) : Int);let Z74:=AV.agg [Z37,(I 4),Z52,Z38,Z39];let Z75:=(p3.set p6.A.toNat (-1)).map o3;let Z76:=[(I (-1))];let Z77:=AV.agg [Z37,(I 5),Z52,Z38,Z39];let Z78:=p6.Code == 15;let Z79:=AV.agg [Z37,(I 7),(I r12),Z38,Z39];let Z80:=(p3.set p6.B.toNat (-1)).map o3;let Z81:=[Z0,(I (w64 (Z26 - 1))),(I 3),Z52,(I p6.B),Z8];let Z82:=Z7.set p5.toNat Z81;let Z83:=(p1.set p5.toNat (Qa2.mk x8.Routine (w64 (Z26 - 1)) 3 p6.A p6.B x8.Stack)).map Qap;let Z84:=p6.Code == 16;let Z85:=AV.agg [Z37,(I 8),Z52,(I p6.B),Z39];let Z86:=(I (p1.length:Int));let Z87:=AV.sl 0 0 Z10.length;let Z88:=[Z87,Z33,Z34,Z22];let Z89:=AV.own 156 1 Z15;let Z90:=[Z87,Z89,Z34,Z22];let Z91:=[[Z87,Z89,(AV.own 3 1 Z16),Z22]];let Z92:=AV.own 198 6 ([].map Qap);let Z93:=[[Z92,nS,nS,(I 0)]];let Z94:=AV.own 156 1 Z20;let Z95:=[[Z92,Z94,nS,(I 0)]];let Z96:=[[Z92,Z94,(AV.own 3 1 ([].map o3)),(I 0)]];let Z97:=Qa3.mk [] [] [] 0
 let H1:List Hn:=[hW 0 1001,hW 1 1002,hW 2 1003,hW 3 1004,hW 4 1005,hh 9 (.unpack 0 1006 p5.toNat 5 Z6 156 1 Z4 Z10),hh 9 (.row Z9),hW 10 1007,hh 14 (.callV [] Z11),hW 20 1008,hO 25 (I Z12),hh 29 (.app 1009 Z13),hh 33 (.callD [1006] [Z14,Z15,Z16,Z4] (I r12) []),hO 39 (I Z12),hO 42 Z8]
 let P2:List Prop:=[(0:Int)≤p5,p5<Z17,Z7[p5.toNat]? = some Z6,Z6[5]? = some Z5,0<1,Z7.set p5.toNat (Z6.set 5 Z8)=Z10,Z10[p5.toNat]? = some Z9,Qab Try.prog 199 [(I p6.Code)] Z11,Qa8 Z11=true,AV.lit (.int .i64 Z18)=(I Z12),(0:Int)≤Z19,Z19≤Z18,Z18≤Z18,Z20.take Z20.length++Z21=Z13,Z21.all (fun r=>r.all AV.plain)=true,Z13.length * 8≤140737488355328,Z13.length≤140737488355328,Qab Try.prog 198 [(AV.agg [(AV.ro 6 Z14),(AV.ro 1 Z15),(AV.ro 1 Z16),Z22]),(AV.agg [Z0,(I x8.Pc),Z1,Z2,Z3,(AV.ro 1 Z4)])] (I r12),Qez (I r12)=true,Qq1 [(1006,Z23)] ((Z10.drop 0).take Z7.length)=some Z14,Qq1 [(1006,Z23)] ((Z15.drop 0).take Z15.length)=some Z15,Qq1 [(1006,Z23)] ((Z16.drop 0).take Z16.length)=some Z16,Qq1 [(1006,Z23)] ((Z4.drop 0).take Z4.length)=some Z4,AV.lit (.int .i64 Z18)=(I Z12),(AV.sl 1006 0 Z19.toNat)=Z8,(0:Int)≤(0:Int),(0:Int)≤Z19,Z19≤Z18]
 have AP2:Qb0 P2:=⟨(rd0 hx8),(rdL Qap hx8),(rdM Qap hx8),rfl,(by decide),rfl,(Qcl (rdM Qap hx8)),(Qjn hr9),rfl,(Qfn Qb7),(sl0 hl10),(sl1e Qb7 hl10),(Int.le_refl _),(Xds Qb7 hl11 hl10),(plD Qp6),(Qnn Qb7 hl11 (by decide)),(Qnm Qb7 hl11),(Qhm hr12),rfl,(rsWn lnq (Xgk Qg7 Xgg (y:=(Qa2.mk x8.Routine x8.Pc x8.State x8.Cond x8.Lock x8.Stack)) (Qqm rfl (Qqm rfl (Qqm rfl (Qqm rfl (Qqm rfl (Qqm (Xgq (R:=⟨156,1,Z4⟩) rfl (Qlc Qdh Xb7)) rfl)))))))),(rsW (Qjf Qdh Xb7 _)),(rsW (Qjf t3 z3 _)),(rsW (Qjf Qdh Xb7 _)),(Qfn Qb7),(Xjp Qb7 hq13),(Int.le_refl _),(Xl4 hq13),(Xk6 Qb7 hq13),trivial⟩
 rcases itS h with ⟨c14,h⟩ | ⟨c16,h⟩
 ·obtain ⟨l15,hl15,h⟩:=bnS h
  obtain rfl:=sj h
  exact (let Z24:=l15.map Qb7;let Z27:=AV.sl 1011 0 Z24.length;let Z28:=[Z0,(I Z26),Z1,Z2,Z3,Z27];let Z29:=Z7.set p5.toNat Z28;let Z30:=(p1.set p5.toNat (Qa2.mk x8.Routine Z26 x8.State x8.Cond x8.Lock l15)).map Qap;gR hP hn (H1++[hT 56,hW 61 1010,hh 62 (.app 1011 Z24),hh 69 (.slen 241 Z10.length),hh 70 (.sto Z9 Z29),hh 75 (.pack 0 1011 p5.toNat 5 Z28 Z30)]) [] (.agg [.agg [.own,.own,.own,.raw],.raw]) (P2++[(p6.Code == 1)=true,Z4.take Z4.length++Z31=Z24,Z31.all (fun r=>r.all AV.plain)=true,Z24.length * 8≤140737488355328,Z24.length≤140737488355328,Z7.length=Z10.length,(0:Int)≤p5,p5<Z32,Z10[p5.toNat]? = some Z9,Z10.set p5.toNat (wr Z9 0 Z28)=Z29,Z28.length=6,0+Z28.length≤Z9.length,Z36=Z36,Z40=Z40,Z40=Z40,[(1004,some Z41)]=[(1004,some Z41)],Z29[p5.toNat]? = some Z28,Z28[5]? = some Z27,Qa1 Z24=true,Z29.set p5.toNat (Z28.set 5 (AV.own 156 1 Z24))=Z30,Qa1 (Z30.take Z7.length)=true,Z30.take Z7.length=Z30,Qa4 Z30=true,Qa1 Z42=true,Z15.take Z15.length=Z15,Qa4 Z15=true,Qa1 Z43=true,Z16.take Z16.length=Z16,Qa4 Z16=true,Z22=Z22,Qa8 Z22=true,Z40=Z40,Qa8 Z40=true]) (Qag AP2 ⟨c14,(Qiw Qb7 hl15),(plD Qp6),(Qnn Qb7 hl15 (by decide)),(Qnm Qb7 hl15),lnq,(rd0 hx8),(Qn1 Qap hx8),(Qcl (rdM Qap hx8)),(Qfy rfl),rfl,leB,rfl,rfl,rfl,rfl,(Qcl (rdM Qap hx8)),rfl,(Qa7 Qdh),(Qhd Qap (y:=(Qa2.mk x8.Routine (w64 Z25) x8.State x8.Cond x8.Lock l15)) rfl),(Qc8 lnq (Qa7 Qg7)),(Qep lnq),(Qaa Qi3),(Qay Qdh),Qax,(Qaa Qhh),(Qay t3),Qax,(Qaa n3),rfl,rfl,rfl,rfl,trivial⟩))
 ·let P3:List Prop:=P2++[(p6.Code == 1)=false]
  have AP3:Qb0 P3:=Qag AP2 ⟨c16,trivial⟩
  rcases itS h with ⟨c17,h⟩ | ⟨c20,h⟩
  ·obtain ⟨x18,hx18,h⟩:=bnS h
   obtain ⟨l19,hl19,h⟩:=bnS h
   obtain rfl:=sj h
   exact (let Z44:=l19.map Qb7;let Z45:=AV.sl 1013 0 Z44.length;let Z46:=[Z0,(I Z26),Z1,Z2,Z3,Z45];let Z47:=Z7.set p5.toNat Z46;let Z48:=(p1.set p5.toNat (Qa2.mk x8.Routine Z26 x8.State x8.Cond x8.Lock l19)).map Qap;let Z51:=(([x18].map Qb7).drop 0).take ([x18].map Qb7).length;gR hP hn (H1++[hF 56,hT 59,hh 73 (.row [(FK x18)]),hW 74 1012,hh 77 (.app 1013 Z44),hh 84 (.slen 241 Z10.length),hh 85 (.sto Z9 Z47),hh 90 (.pack 0 1013 p5.toNat 5 Z46 Z48)]) [] (.agg [.agg [.own,.own,.own,.raw],.raw]) (P3++[(p6.Code == 2)=true,(0:Int)≤p6.A,p6.A<Z49,Z15[p6.A.toNat]? = some [(FK x18)],Z50=Z50,Z8=Z8,Z4.take Z4.length++Z51=Z44,Z51.all (fun r=>r.all AV.plain)=true,Z44.length * 8≤140737488355328,Z44.length≤140737488355328,Z7.length=Z10.length,(0:Int)≤p5,p5<Z32,Z10[p5.toNat]? = some Z9,Z10.set p5.toNat (wr Z9 0 Z46)=Z47,Z46.length=6,0+Z46.length≤Z9.length,Z36=Z36,Z53=Z53,Z53=Z53,[(1004,some Z41)]=[(1004,some Z41)],Z47[p5.toNat]? = some Z46,Z46[5]? = some Z45,Qa1 Z44=true,Z47.set p5.toNat (Z46.set 5 (AV.own 156 1 Z44))=Z48,Qa1 (Z48.take Z7.length)=true,Z48.take Z7.length=Z48,Qa4 Z48=true,Qa1 Z42=true,Z15.take Z15.length=Z15,Qa4 Z15=true,Qa1 Z43=true,Z16.take Z16.length=Z16,Qa4 Z16=true,Z22=Z22,Qa8 Z22=true,Z53=Z53,Qa8 Z53=true]) (Qag AP3 ⟨c17,(rd0 hx18),(rdL Qb7 hx18),(rdM Qb7 hx18),rfl,rfl,(Qiw Qb7 hl19),(plD Qp6),(Qnn Qb7 hl19 (by decide)),(Qnm Qb7 hl19),lnq,(rd0 hx8),(Qn1 Qap hx8),(Qcl (rdM Qap hx8)),(Qfy rfl),rfl,leB,rfl,rfl,rfl,rfl,(Qcl (rdM Qap hx8)),rfl,(Qa7 Qdh),(Qhd Qap (y:=(Qa2.mk x8.Routine (w64 Z25) x8.State x8.Cond x8.Lock l19)) rfl),(Qc8 lnq (Qa7 Qg7)),(Qep lnq),(Qaa Qi3),(Qay Qdh),Qax,(Qaa Qhh),(Qay t3),Qax,(Qaa n3),rfl,rfl,rfl,rfl,trivial⟩))
  ·let H4:List Hn:=H1++[hF 56,hF 59]
   let P5:List Prop:=P3++[(p6.Code == 2)=false]
   have AP5:Qb0 P5:=Qag AP3 ⟨c20,trivial⟩
   rcases itS h with ⟨c21,h⟩ | ⟨c24,h⟩
   ·obtain ⟨x22,hx22,h⟩:=bnS h
    obtain ⟨x23,hx23,h⟩:=bnS h
    obtain rfl:=sj h
    exact (let Z54:=(p2.set p6.A.toNat x22).map Qb7;gR hP hn (H4++[hT 62,hh 75 (.row [(FK x22)]),hh 77 (.sto [(FK x23)] Z54),hh 82 (.slen 241 Z10.length),hh 83 (.sto Z9 Z56),hh 88 (.pack 0 1006 p5.toNat 5 Z55 Z57)]) [] (.agg [.agg [.own,.own,.own,.raw],.raw]) (P5++[(p6.Code == 3)=true,(0:Int)≤0,0<Z58,Z13[(Int.toNat 0)]? = some [(FK x22)],(0:Int)≤p6.A,p6.A<Z49,Z15[p6.A.toNat]? = some [(FK x23)],Z15.set p6.A.toNat (wr [(FK x23)] 0 [(FK x22)])=Z54,[(FK x22)].length=1,0 + [(FK x22)].length≤[(FK x23)].length,Z7.length=Z10.length,(0:Int)≤p5,p5<Z32,Z10[p5.toNat]? = some Z9,Z10.set p5.toNat Z59=Z56,Z55.length=6,0+Z55.length≤Z9.length,Z36=Z36,Z60=Z60,Z60=Z60,[(1004,some Z41)]=[(1004,some Z41)],Z56[p5.toNat]? = some Z55,Z55[5]? = some Z8,Qa1 Z4=true,Z56.set p5.toNat Z61=Z57,Qa1 Z62=true,Z57.take Z7.length=Z57,Qa4 Z57=true,Qa1 (Z54.take Z15.length)=true,Z54.take Z15.length=Z54,Qa4 Z54=true,Qa1 Z43=true,Z16.take Z16.length=Z16,Qa4 Z16=true,Z22=Z22,Qa8 Z22=true,Z60=Z60,Qa8 Z60=true]) (Qag AP5 ⟨c21,(rd0 hx22),(rdL Qb7 hx22),(rdM Qb7 hx22),(rd0 hx23),(rdL Qb7 hx23),(rdM Qb7 hx23),(Qyf Qb7),rfl,leB,lnq,(rd0 hx8),(Qn1 Qap hx8),(Qcl (rdM Qap hx8)),(Qfy rfl),rfl,leB,rfl,rfl,rfl,rfl,(Qcl (rdM Qap hx8)),rfl,(Qa7 Qdh),(Qhd Qap (y:=Z63) rfl),(Qc8 lnq (Qa7 Qg7)),(Qep lnq),(Qaa Qi3),(Qc8 lnq (Qa7 Qdh)),(Qep lnq),(Qaa Qhh),(Qay t3),Qax,(Qaa n3),rfl,rfl,rfl,rfl,trivial⟩))
   ·let P6:List Prop:=P5++[(p6.Code == 3)=false]
    have AP6:Qb0 P6:=Qag AP5 ⟨c24,trivial⟩
    rcases itS h with ⟨c25,h⟩ | ⟨c26,h⟩
    ·obtain rfl:=sj h
     exact gR hP hn (H4++[hF 62,hT 65,hh 74 (.slen 241 Z10.length),hh 75 (.sto Z9 Z65),hh 80 (.pack 0 1006 p5.toNat 5 Z64 Z66)]) [] (.agg [.agg [.own,.own,.own,.raw],.raw]) (P6++[(p6.Code == 10)=true,Z7.length=Z10.length,(0:Int)≤p5,p5<Z32,Z10[p5.toNat]? = some Z9,Z10.set p5.toNat Z67=Z65,Z64.length=6,0+Z64.length≤Z9.length,Z36=Z36,Z40=Z40,Z40=Z40,[(1004,some Z41)]=[(1004,some Z41)],Z65[p5.toNat]? = some Z64,Z64[5]? = some Z8,Qa1 Z4=true,Z65.set p5.toNat Z68=Z66,Qa1 Z69=true,Z66.take Z7.length=Z66,Qa4 Z66=true,Qa1 Z42=true,Z15.take Z15.length=Z15,Qa4 Z15=true,Qa1 Z43=true,Z16.take Z16.length=Z16,Qa4 Z16=true,Z22=Z22,Qa8 Z22=true,Z40=Z40,Qa8 Z40=true]) (Qag AP6 ⟨c25,lnq,(rd0 hx8),(Qn1 Qap hx8),(Qcl (rdM Qap hx8)),(Qfy rfl),rfl,leB,rfl,rfl,rfl,rfl,(Qcl (rdM Qap hx8)),rfl,(Qa7 Qdh),(Qhd Qap (y:=Z70) rfl),(Qc8 lnq (Qa7 Qg7)),(Qep lnq),(Qaa Qi3),(Qay Qdh),Qax,(Qaa Qhh),(Qay t3),Qax,(Qaa n3),rfl,rfl,rfl,rfl,trivial⟩)
    ·let H7:List Hn:=H4++[hF 62,hF 65]
     let P8:List Prop:=P6++[(p6.Code == 10)=false]
     have AP8:Qb0 P8:=Qag AP6 ⟨c26,trivial⟩
     rcases itS h with ⟨c27,h⟩ | ⟨c34,h⟩
     ·obtain ⟨x28,hx28,h⟩:=bnS h
      obtain ⟨r29,hr29,h⟩:=bnS h
      let Z71:=Qd9 x28 0
      let H9:List Hn:=H7++[hT 68,hh 71 (.row [(FK x28)]),hh 72 (.callV [] (B r29))]
      let P10:List Prop:=P8++[(p6.Code == 11)=true,(0:Int)≤0,0<Z58,Z13[(Int.toNat 0)]? = some [(FK x28)],Qab Try.prog 200 [(FK x28)] (B r29),Qa8 (B r29)=true]
      have AP10:Qb0 P10:=Qag AP8 ⟨c27,(rd0 hx28),(rdL Qb7 hx28),(rdM Qb7 hx28),(Qdc hr29),rfl,trivial⟩
      rcases itS h with ⟨c30,h⟩ | ⟨c31,h⟩
      ·obtain rfl:=sj h
       exact gR hP hn (H9++[hO 73 (B true),hh 88 (.slen 241 Z10.length),hh 89 (.sto Z9 Z65),hh 94 (.pack 0 1006 p5.toNat 5 Z64 Z66)]) [] (.agg [.agg [.own,.own,.own,.raw],.raw]) (P10++[(B r29)=(B true),Z7.length=Z10.length,(0:Int)≤p5,p5<Z32,Z10[p5.toNat]? = some Z9,Z10.set p5.toNat Z67=Z65,Z64.length=6,0+Z64.length≤Z9.length,Z36=Z36,Z40=Z40,Z40=Z40,[(1004,some Z41)]=[(1004,some Z41)],Z65[p5.toNat]? = some Z64,Z64[5]? = some Z8,Qa1 Z4=true,Z65.set p5.toNat Z68=Z66,Qa1 Z69=true,Z66.take Z7.length=Z66,Qa4 Z66=true,Qa1 Z42=true,Z15.take Z15.length=Z15,Qa4 Z15=true,Qa1 Z43=true,Z16.take Z16.length=Z16,Qa4 Z16=true,Z22=Z22,Qa8 Z22=true,Z40=Z40,Qa8 Z40=true]) (Qag AP10 ⟨(Qb5 c30),lnq,(rd0 hx8),(Qn1 Qap hx8),(Qcl (rdM Qap hx8)),(Qfy rfl),rfl,leB,rfl,rfl,rfl,rfl,(Qcl (rdM Qap hx8)),rfl,(Qa7 Qdh),(Qhd Qap (y:=Z70) rfl),(Qc8 lnq (Qa7 Qg7)),(Qep lnq),(Qaa Qi3),(Qay Qdh),Qax,(Qaa Qhh),(Qay t3),Qax,(Qaa n3),rfl,rfl,rfl,rfl,trivial⟩)
      ·let H11:List Hn:=H9++[hO 73 (B false),hh 76 (.row [(FK x28)]),hh 77 (.bin (B (Z71 == some .eq)))]
       let P12:List Prop:=P10++[(B r29)=(B false),(0:Int)≤0,0<Z58,Z13[(Int.toNat 0)]? = some [(FK x28)],Qil Try.prog .eql 156 (FK x28) (FK 0) (B (Z71 == some .eq))]
       have AP12:Qb0 P12:=Qag AP10 ⟨(Qb5 c31),(rd0 hx28),(rdL Qb7 hx28),(rdM Qb7 hx28),Xkg,trivial⟩
       rcases itS h with ⟨c32,h⟩ | ⟨c33,h⟩
       ·obtain rfl:=sj h
        exact gR hP hn (H11++[hT 79,hh 88 (.slen 241 Z10.length),hh 89 (.sto Z9 Z65),hh 94 (.pack 0 1006 p5.toNat 5 Z64 Z66)]) [] (.agg [.agg [.own,.own,.own,.raw],.raw]) (P12++[(Z71 == some .eq)=true,Z7.length=Z10.length,(0:Int)≤p5,p5<Z32,Z10[p5.toNat]? = some Z9,Z10.set p5.toNat Z67=Z65,Z64.length=6,0+Z64.length≤Z9.length,Z36=Z36,Z40=Z40,Z40=Z40,[(1004,some Z41)]=[(1004,some Z41)],Z65[p5.toNat]? = some Z64,Z64[5]? = some Z8,Qa1 Z4=true,Z65.set p5.toNat Z68=Z66,Qa1 Z69=true,Z66.take Z7.length=Z66,Qa4 Z66=true,Qa1 Z42=true,Z15.take Z15.length=Z15,Qa4 Z15=true,Qa1 Z43=true,Z16.take Z16.length=Z16,Qa4 Z16=true,Z22=Z22,Qa8 Z22=true,Z40=Z40,Qa8 Z40=true]) (Qag AP12 ⟨c32,lnq,(rd0 hx8),(Qn1 Qap hx8),(Qcl (rdM Qap hx8)),(Qfy rfl),rfl,leB,rfl,rfl,rfl,rfl,(Qcl (rdM Qap hx8)),rfl,(Qa7 Qdh),(Qhd Qap (y:=Z70) rfl),(Qc8 lnq (Qa7 Qg7)),(Qep lnq),(Qaa Qi3),(Qay Qdh),Qax,(Qaa Qhh),(Qay t3),Qax,(Qaa n3),rfl,rfl,rfl,rfl,trivial⟩)
       ·obtain rfl:=sj h
        exact gR hP hn (H11++[hF 79,hh 84 (.slen 241 Z10.length),hh 85 (.sto Z9 Z56),hh 90 (.pack 0 1006 p5.toNat 5 Z55 Z57)]) [] (.agg [.agg [.own,.own,.own,.raw],.raw]) (P12++[(Z71 == some .eq)=false,Z7.length=Z10.length,(0:Int)≤p5,p5<Z32,Z10[p5.toNat]? = some Z9,Z10.set p5.toNat Z59=Z56,Z55.length=6,0+Z55.length≤Z9.length,Z36=Z36,Z40=Z40,Z40=Z40,[(1004,some Z41)]=[(1004,some Z41)],Z56[p5.toNat]? = some Z55,Z55[5]? = some Z8,Qa1 Z4=true,Z56.set p5.toNat Z61=Z57,Qa1 Z62=true,Z57.take Z7.length=Z57,Qa4 Z57=true,Qa1 Z42=true,Z15.take Z15.length=Z15,Qa4 Z15=true,Qa1 Z43=true,Z16.take Z16.length=Z16,Qa4 Z16=true,Z22=Z22,Qa8 Z22=true,Z40=Z40,Qa8 Z40=true]) (Qag AP12 ⟨c33,lnq,(rd0 hx8),(Qn1 Qap hx8),(Qcl (rdM Qap hx8)),(Qfy rfl),rfl,leB,rfl,rfl,rfl,rfl,(Qcl (rdM Qap hx8)),rfl,(Qa7 Qdh),(Qhd Qap (y:=Z63) rfl),(Qc8 lnq (Qa7 Qg7)),(Qep lnq),(Qaa Qi3),(Qay Qdh),Qax,(Qaa Qhh),(Qay t3),Qax,(Qaa n3),rfl,rfl,rfl,rfl,trivial⟩)
     ·let P13:List Prop:=P8++[(p6.Code == 11)=false]
      have AP13:Qb0 P13:=Qag AP8 ⟨c34,trivial⟩
      rcases itS h with ⟨c35,h⟩ | ⟨c37,h⟩
      ·obtain ⟨x36,hx36,h⟩:=bnS h
       obtain rfl:=sj h
       exact gR hP hn (H7++[hF 68,hT 71,hh 84 (.sto [(I x36)] Z72),hh 89 (.slen 241 Z10.length),hh 90 (.sto Z9 Z56),hh 95 (.pack 0 1006 p5.toNat 5 Z55 Z57)]) [] (.agg [.agg [.own,.own,.own,.raw],.raw]) (P13++[(p6.Code == 12)=true,(0:Int)≤p6.A,p6.A<Z73,Z16[p6.A.toNat]? = some [(I x36)],Z16.set p6.A.toNat (wr [(I x36)] 0 [(I p5)])=Z72,[(I p5)].length=1,0 + [(I p5)].length≤[(I x36)].length,Z7.length=Z10.length,(0:Int)≤p5,p5<Z32,Z10[p5.toNat]? = some Z9,Z10.set p5.toNat Z59=Z56,Z55.length=6,0+Z55.length≤Z9.length,Z36=Z36,Z74=Z74,Z74=Z74,[(1004,some Z41)]=[(1004,some Z41)],Z56[p5.toNat]? = some Z55,Z55[5]? = some Z8,Qa1 Z4=true,Z56.set p5.toNat Z61=Z57,Qa1 Z62=true,Z57.take Z7.length=Z57,Qa4 Z57=true,Qa1 Z42=true,Z15.take Z15.length=Z15,Qa4 Z15=true,Qa1 (Z72.take Z16.length)=true,Z72.take Z16.length=Z72,Qa4 Z72=true,Z22=Z22,Qa8 Z22=true,Z74=Z74,Qa8 Z74=true]) (Qag AP13 ⟨c35,(rd0 hx36),(rdL o3 hx36),(rdM o3 hx36),(Qyf o3),rfl,leB,lnq,(rd0 hx8),(Qn1 Qap hx8),(Qcl (rdM Qap hx8)),(Qfy rfl),rfl,leB,rfl,rfl,rfl,rfl,(Qcl (rdM Qap hx8)),rfl,(Qa7 Qdh),(Qhd Qap (y:=Z63) rfl),(Qc8 lnq (Qa7 Qg7)),(Qep lnq),(Qaa Qi3),(Qay Qdh),Qax,(Qaa Qhh),(Qc8 lnq (Qa7 t3)),(Qep lnq),(Qaa n3),rfl,rfl,rfl,rfl,trivial⟩)
      ·let P14:List Prop:=P13++[(p6.Code == 12)=false]
       have AP14:Qb0 P14:=Qag AP13 ⟨c37,trivial⟩
       rcases itS h with ⟨c38,h⟩ | ⟨c40,h⟩
       ·obtain ⟨x39,hx39,h⟩:=bnS h
        obtain rfl:=sj h
        exact gR hP hn (H7++[hF 68,hF 71,hT 74,hh 86 (.sto [(I x39)] Z75),hh 91 (.slen 241 Z10.length),hh 92 (.sto Z9 Z56),hh 97 (.pack 0 1006 p5.toNat 5 Z55 Z57)]) [] (.agg [.agg [.own,.own,.own,.raw],.raw]) (P14++[(p6.Code == 13)=true,(0:Int)≤p6.A,p6.A<Z73,Z16[p6.A.toNat]? = some [(I x39)],Z16.set p6.A.toNat (wr [(I x39)] 0 Z76)=Z75,Z76.length=1,0+Z76.length≤[(I x39)].length,Z7.length=Z10.length,(0:Int)≤p5,p5<Z32,Z10[p5.toNat]? = some Z9,Z10.set p5.toNat Z59=Z56,Z55.length=6,0+Z55.length≤Z9.length,Z36=Z36,Z77=Z77,Z77=Z77,[(1004,some Z41)]=[(1004,some Z41)],Z56[p5.toNat]? = some Z55,Z55[5]? = some Z8,Qa1 Z4=true,Z56.set p5.toNat Z61=Z57,Qa1 Z62=true,Z57.take Z7.length=Z57,Qa4 Z57=true,Qa1 Z42=true,Z15.take Z15.length=Z15,Qa4 Z15=true,Qa1 (Z75.take Z16.length)=true,Z75.take Z16.length=Z75,Qa4 Z75=true,Z22=Z22,Qa8 Z22=true,Z77=Z77,Qa8 Z77=true]) (Qag AP14 ⟨c38,(rd0 hx39),(rdL o3 hx39),(rdM o3 hx39),(Qyf o3),rfl,leB,lnq,(rd0 hx8),(Qn1 Qap hx8),(Qcl (rdM Qap hx8)),(Qfy rfl),rfl,leB,rfl,rfl,rfl,rfl,(Qcl (rdM Qap hx8)),rfl,(Qa7 Qdh),(Qhd Qap (y:=Z63) rfl),(Qc8 lnq (Qa7 Qg7)),(Qep lnq),(Qaa Qi3),(Qay Qdh),Qax,(Qaa Qhh),(Qc8 lnq (Qa7 t3)),(Qep lnq),(Qaa n3),rfl,rfl,rfl,rfl,trivial⟩)
       ·rcases itS h with ⟨c41,h⟩ | ⟨c44,h⟩
        ·cases h
        ·let P15:List Prop:=P14++[(p6.Code == 13)=false,(p6.Code == 14)=false]
         have AP15:Qb0 P15:=Qag AP14 ⟨c40,c44,trivial⟩
         rcases itS h with ⟨c45,h⟩ | ⟨c46,h⟩
         ·obtain rfl:=sj h
          exact gR hP hn (H7++[hF 68,hF 71,hF 74,hF 77,hT 80,hh 90 (.slen 241 Z10.length),hh 91 (.sto Z9 Z56),hh 96 (.pack 0 1006 p5.toNat 5 Z55 Z57)]) [] (.agg [.agg [.own,.own,.own,.raw],.raw]) (P15++[Z78=true,Z7.length=Z10.length,(0:Int)≤p5,p5<Z32,Z10[p5.toNat]? = some Z9,Z10.set p5.toNat Z59=Z56,Z55.length=6,0+Z55.length≤Z9.length,Z36=Z36,Z79=Z79,Z79=Z79,[(1004,some Z41)]=[(1004,some Z41)],Z56[p5.toNat]? = some Z55,Z55[5]? = some Z8,Qa1 Z4=true,Z56.set p5.toNat Z61=Z57,Qa1 Z62=true,Z57.take Z7.length=Z57,Qa4 Z57=true,Qa1 Z42=true,Z15.take Z15.length=Z15,Qa4 Z15=true,Qa1 Z43=true,Z16.take Z16.length=Z16,Qa4 Z16=true,Z22=Z22,Qa8 Z22=true,Z79=Z79,Qa8 Z79=true]) (Qag AP15 ⟨c45,lnq,(rd0 hx8),(Qn1 Qap hx8),(Qcl (rdM Qap hx8)),(Qfy rfl),rfl,leB,rfl,rfl,rfl,rfl,(Qcl (rdM Qap hx8)),rfl,(Qa7 Qdh),(Qhd Qap (y:=Z63) rfl),(Qc8 lnq (Qa7 Qg7)),(Qep lnq),(Qaa Qi3),(Qay Qdh),Qax,(Qaa Qhh),(Qay t3),Qax,(Qaa n3),rfl,rfl,rfl,rfl,trivial⟩)
         ·rcases itS h with ⟨c47,h⟩ | ⟨c49,h⟩
          ·obtain ⟨x48,hx48,h⟩:=bnS h
           obtain rfl:=sj h
           exact gR hP hn (H7++[hF 68,hF 71,hF 74,hF 77,hF 80,hT 83,hh 99 (.sto [(I x48)] Z80),hh 119 (.slen 241 Z10.length),hh 120 (.sto Z9 Z82),hh 125 (.pack 0 1006 p5.toNat 5 Z81 Z83)]) [] (.agg [.agg [.own,.own,.own,.raw],.raw]) (P15++[Z78=false,Z84=true,(0:Int)≤p6.B,p6.B<Z73,Z16[p6.B.toNat]? = some [(I x48)],Z16.set p6.B.toNat (wr [(I x48)] 0 Z76)=Z80,Z76.length=1,0+Z76.length≤[(I x48)].length,Z7.length=Z10.length,(0:Int)≤p5,p5<Z32,Z10[p5.toNat]? = some Z9,Z10.set p5.toNat (wr Z9 0 Z81)=Z82,Z81.length=6,0+Z81.length≤Z9.length,Z36=Z36,Z85=Z85,Z85=Z85,[(1004,some Z41)]=[(1004,some Z41)],Z82[p5.toNat]? = some Z81,Z81[5]? = some Z8,Qa1 Z4=true,Z82.set p5.toNat (Z81.set 5 Z5)=Z83,Qa1 (Z83.take Z7.length)=true,Z83.take Z7.length=Z83,Qa4 Z83=true,Qa1 Z42=true,Z15.take Z15.length=Z15,Qa4 Z15=true,Qa1 (Z80.take Z16.length)=true,Z80.take Z16.length=Z80,Qa4 Z80=true,Z22=Z22,Qa8 Z22=true,Z85=Z85,Qa8 Z85=true]) (Qag AP15 ⟨c46,c47,(rd0 hx48),(rdL o3 hx48),(rdM o3 hx48),(Qyf o3),rfl,leB,lnq,(rd0 hx8),(Qn1 Qap hx8),(Qcl (rdM Qap hx8)),(Qfy rfl),rfl,leB,rfl,rfl,rfl,rfl,(Qcl (rdM Qap hx8)),rfl,(Qa7 Qdh),(Qhd Qap (y:=(Qa2.mk x8.Routine (w64 ((w64 Z25) - 1)) 3 p6.A p6.B x8.Stack)) rfl),(Qc8 lnq (Qa7 Qg7)),(Qep lnq),(Qaa Qi3),(Qay Qdh),Qax,(Qaa Qhh),(Qc8 lnq (Qa7 t3)),(Qep lnq),(Qaa n3),rfl,rfl,rfl,rfl,trivial⟩)
          ·rcases itS h with ⟨c50,h⟩ | ⟨c83,h⟩
           ·exact gT hP hn hx (H7++[hF 68,hF 71,hF 74,hF 77,hF 80,hF 83,hT 86,hO 95 Z86,hh 97 (.eqr 1001 [Z88]),hh 97 (.pack 1001 1 0 1 Z88 [Z90]),hh 97 (.pack 1001 2 0 2 Z90 Z91),hh 97 (.own0 1004 1 [] [nS,nS,(I 0)] 198 6 Z93),hh 97 (.own0 1004 1 [Z92] [nS,(I 0)] 156 1 Z95),hh 97 (.own0 1004 1 [Z92,Z94] [(I 0)] 3 1 Z96),hh 97 (.slen 215 Z10.length)]) [(1001,3),(0,0),(1006,1006),(1002,4),(1003,5),(1004,6),(1005,7),(1007,8)] [1,4,6,7,8,9,10,215,216,217] [] (P15++[Z78=false,Z84=false,(p6.Code == 17)=true,AV.lit (.int .i64 Z17)=Z86,[Z35]=[Z88],[Z88][0]? = some Z88,Z88[1]? = some Z33,Qa1 Z15=true,[Z88].set 0 (Z88.set 1 Z89)=[Z90],[Z90][0]? = some Z90,Z90[2]? = some Z34,Qa1 Z16=true,[Z90].set 0 (Z90.set 2 (AV.own 3 1 Z16))=Z91,[[nS,nS,nS,(I 0)]]=List.replicate 1 ([]++AV.lit (.slice none 0 0) :: [nS,nS,(I 0)]),List.replicate 1 ([]++AV.own 198 6 [] :: [nS,nS,(I 0)])=Z93,Z93=List.replicate 1 ([Z92]++AV.lit (.slice none 0 0) :: [nS,(I 0)]),List.replicate 1 ([Z92]++AV.own 156 1 [] :: [nS,(I 0)])=Z95,Z95=List.replicate 1 ([Z92,Z94]++AV.lit (.slice none 0 0) :: [(I 0)]),List.replicate 1 ([Z92,Z94]++AV.own 3 1 [] :: [(I 0)])=Z96,Z7.length=Z10.length,Qa6 [(1001,3),(0,0),(1006,1006),(1002,4),(1003,5),(1004,6),(1005,7),(1007,8)] Z91,Qa6 [(1001,3),(0,0),(1006,1006),(1002,4),(1003,5),(1004,6),(1005,7),(1007,8)] Z10,Qa6 [(1001,3),(0,0),(1006,1006),(1002,4),(1003,5),(1004,6),(1005,7),(1007,8)] Z4,Qa6 [(1001,3),(0,0),(1006,1006),(1002,4),(1003,5),(1004,6),(1005,7),(1007,8)] [((Qcb p6))],Qa6 [(1001,3),(0,0),(1006,1006),(1002,4),(1003,5),(1004,6),(1005,7),(1007,8)] [[Z37,(I 10),Z52,Z38,Z39]],Qa6 [(1001,3),(0,0),(1006,1006),(1002,4),(1003,5),(1004,6),(1005,7),(1007,8)] Z96,Qa6 [(1001,3),(0,0),(1006,1006),(1002,4),(1003,5),(1004,6),(1005,7),(1007,8)] [[(I 0),(I 0),(I 0),(I 0),(I 0)]],Qa6 [(1001,3),(0,0),(1006,1006),(1002,4),(1003,5),(1004,6),(1005,7),(1007,8)] [Z55]]) (Qag AP15 ⟨c46,c49,c50,(by simp +zetaDelta only [List.length_set,List.length_map]),(by try simp +zetaDelta only [];rw [show Z7.length=Z10.length from lnq]),rfl,rfl,(Qa7 Qdh),rfl,rfl,rfl,(Qa7 t3),rfl,rfl,rfl,rfl,rfl,rfl,rfl,lnq,(.inr rfl),(Qg3 (rok (Qa7 Qg7)) rfl),(rok (Qa7 Qdh)),(rok rfl),(rok rfl),(rok (Qb1 Qm2 Z97)),(rok rfl),(.inr rfl),trivial⟩) (Qql hP hn hx p1 p2 p3 p5 x8 FU p1 x8.Stack p2 p3 p4 p6 (Qa5.mk p7.Thread 10 p6.A p7.Lock p7.Pc) Z97 (Qa5.mk 0 0 0 0 0) x8.Routine (w64 Z25) x8.State x8.Cond x8.Lock 0 _ h)
           ·obtain ⟨x84,hx84,h⟩:=bnS h
            obtain ⟨x85,hx85,h⟩:=bnS h
            obtain ⟨r86,hr86,h⟩:=bnS h
            obtain ⟨l87,hl87,h⟩:=bnS h
            obtain rfl:=sj h
            exact (let Z98:=l87.map Qb7;let Z99:=AV.sl 1011 0 Z98.length;let Z100:=[Z0,(I Z26),Z1,Z2,Z3,Z99];let Z101:=Z7.set p5.toNat Z100;let Z102:=(p1.set p5.toNat (Qa2.mk x8.Routine Z26 x8.State x8.Cond x8.Lock l87)).map Qap;let Z103:=(([r86].map Qb7).drop 0).take ([r86].map Qb7).length;gR hP hn (H7++[hF 68,hF 71,hF 74,hF 77,hF 80,hF 83,hF 86,hh 93 (.row [(FK x84)]),hh 96 (.row [(FK x85)]),hh 97 (.callV [] (FK r86)),hW 98 1010,hh 101 (.app 1011 Z98),hh 108 (.slen 241 Z10.length),hh 109 (.sto Z9 Z101),hh 114 (.pack 0 1011 p5.toNat 5 Z100 Z102)]) [] (.agg [.agg [.own,.own,.own,.raw],.raw]) (P15++[Z78=false,Z84=false,(p6.Code == 17)=false,(0:Int)≤0,0<Z58,Z13[(Int.toNat 0)]? = some [(FK x84)],(0:Int)≤1,1<Z58,Z13[(Int.toNat 1)]? = some [(FK x85)],Qab Try.prog 201 [(I p6.Code),(FK x84),(FK x85)] (FK r86),Qa8 (FK r86)=true,Z50=Z50,Z8=Z8,Z4.take Z4.length++Z103=Z98,Z103.all (fun r=>r.all AV.plain)=true,Z98.length * 8≤140737488355328,Z98.length≤140737488355328,Z7.length=Z10.length,(0:Int)≤p5,p5<Z32,Z10[p5.toNat]? = some Z9,Z10.set p5.toNat (wr Z9 0 Z100)=Z101,Z100.length=6,0+Z100.length≤Z9.length,Z36=Z36,Z40=Z40,Z40=Z40,[(1004,some Z41)]=[(1004,some Z41)],Z101[p5.toNat]? = some Z100,Z100[5]? = some Z99,Qa1 Z98=true,Z101.set p5.toNat (Z100.set 5 (AV.own 156 1 Z98))=Z102,Qa1 (Z102.take Z7.length)=true,Z102.take Z7.length=Z102,Qa4 Z102=true,Qa1 Z42=true,Z15.take Z15.length=Z15,Qa4 Z15=true,Qa1 Z43=true,Z16.take Z16.length=Z16,Qa4 Z16=true,Z22=Z22,Qa8 Z22=true,Z40=Z40,Qa8 Z40=true]) (Qag AP15 ⟨c46,c49,c83,(rd0 hx84),(rdL Qb7 hx84),(rdM Qb7 hx84),(rd0 hx85),(rdL Qb7 hx85),(rdM Qb7 hx85),(Ql5 hr86),rfl,rfl,rfl,(Qiw Qb7 hl87),(plD Qp6),(Qnn Qb7 hl87 (by decide)),(Qnm Qb7 hl87),lnq,(rd0 hx8),(Qn1 Qap hx8),(Qcl (rdM Qap hx8)),(Qfy rfl),rfl,leB,rfl,rfl,rfl,rfl,(Qcl (rdM Qap hx8)),rfl,(Qa7 Qdh),(Qhd Qap (y:=(Qa2.mk x8.Routine (w64 Z25) x8.State x8.Cond x8.Lock l87)) rfl),(Qc8 lnq (Qa7 Qg7)),(Qep lnq),(Qaa Qi3),(Qay Qdh),Qax,(Qaa Qhh),(Qay t3),Qax,(Qaa n3),rfl,rfl,rfl,rfl,trivial⟩))
noncomputable def Qi2 (p1:(List Qa2)) (p2:(List Nat)) (p3:(List Int)) (p4:Int) (p5:Int) (p6:GOp) (p7:Qa5) : Option (Qa3×Qa5):=
 if (p6.Code == 17)=true then
  Qkl p1 p2 p3 p4 p5 p6 p7
 else
  Qbb p1 p2 p3 p4 p5 p6 p7
theorem Qz1 {p1:(List Qa2)} {p2:(List Nat)} {p3:(List Int)} {p4:Int} {p5:Int} {p6:GOp} {p7:Qa5} {r:(Qa3×Qa5)} (h:Qi2 p1 p2 p3 p4 p5 p6 p7=some r) : Qxl Try.prog 195 [⟨198,6,(p1.map Qap)⟩,⟨156,1,(p2.map Qb7)⟩,⟨3,1,(p3.map o3)⟩] [(AV.agg [(AV.sl 0 0 (List.length (p1.map Qap))),(AV.sl 1 0 (List.length (p2.map Qb7))),(AV.sl 2 0 (List.length (p3.map o3))),(I p4)]),(I p5),(AV.agg ((Qcb p6))),(AV.agg ((o71 p7)))] [false,false,false] [⟨198,6,(p1.map Qap)⟩,⟨156,1,(p2.map Qb7)⟩,⟨3,1,(p3.map o3)⟩] (AV.tup [(AV.agg (Qj4 r.1)),(AV.agg (o71 r.2))]):=by
 unfold Qi2 at h
 rcases itS h with ⟨_,h⟩ | ⟨_,h⟩
 ·exact Qve h
 ·exact Qvv h
noncomputable def Xho:Code:=match Try.f106.body with | some c=>c | none=>.skip
noncomputable def Qmf (p1:(List Int)) : Option (List Int):=
 Option.bind (app [] p1) fun l2 =>
 some l2
theorem Qqb {p1:(List Int)} {r:(List Int)} (h:Qmf p1=some r) : Qab Try.prog 106 [(AV.ro 1 (p1.map o3))] (AV.own 3 1 (r.map o3)):=by
 refine gM Try.func106 6 Xho fun E hP hn hx=>?_
 unfold Qmf at h
 obtain ⟨l2,hl2,h⟩:=bnS h
 obtain rfl:=sj h
 exact (let Z0:=l2.map o3;gR hP hn [hW 1 1001,hh 3 (.app 1002 Z0)] [] .own [([].map o3).take ([].map o3).length++(p1.map o3)=Z0,(p1.map o3).all (fun r=>r.all AV.plain)=true,Z0.length * 8≤140737488355328,Z0.length≤140737488355328,Qa1 (Z0.take Z0.length)=true,Z0.take Z0.length=Z0,Qa4 Z0=true] ⟨(appT o3 hl2),(plM pa3),(Qnn o3 hl2 (by decide)),(Qnm o3 hl2),(Qay t3),Qax,(Qaa n3),trivial⟩)
noncomputable def Xck:Code:=match Try.f192.body with | some c=>c | none=>.skip
noncomputable def Qew  (p1:Qa3) : Nat→Qa3→Qa3→Int→Option Qa3
 | 0,_,_,_=>none
 | n+1,a4,a5,v6 =>
 if (decide (v6<(p1.Threads.length:Int)))=true then
  Option.bind (rd p1.Threads v6) fun x8 =>
  Option.bind (app [] x8.Stack) fun l9 =>
  Option.bind (app a5.Threads [(Qa2.mk x8.Routine x8.Pc x8.State x8.Cond x8.Lock l9)]) fun l10 =>
  Qew p1 n a4 (Qa3.mk l10 a5.Cells a5.Owner a5.Fault) (w64 (v6+1))
 else
  some (Qa3.mk a5.Threads a5.Cells a5.Owner a5.Fault)
theorem Qr7 {E:Env} (hP:E.pk=pk0 Try.prog) (hn:E.n=36) (hx:FX E []) (p1:Qa3)  : ∀ (n:Nat) (a4:Qa3) (a5:Qa3) (v6:Int) (r:Qa3),Qew p1 n a4 a5 v6=some r→WAt E Xck (FQ (Qdu Θ Try.f192.results.toList [] [] (AV.agg (Qj4 r)) E)) [true,true,false,true,false] ⟨[(2,(AV.ptr 1 0 0)),(3,(AV.ptr 2 0 0)),(17,(AV.ro 6 (p1.Threads.map Qg5))),(18,(I (p1.Threads.length:Int))),(19,(I v6))],[(1,some ⟨141,4,[((Qj4 a4))]⟩),(2,some ⟨141,4,[((Qj4 a5))]⟩)],[1,2,JJ]⟩:=by
 intro n
 induction n with
 | zero=>intro a4 a5 v6 r h;simp only [Qew] at h;cases h
 | succ n ih =>
  intro a4 a5 v6 r h
  simp only [Qew] at h
  let Z1:=Qj4 a5;let Z2:=a5.Threads.map Qap;let Z3:=AV.sl 1004 0 Z2.length;let Z4:=a5.Cells.map Qb7;let Z5:=AV.own 156 1 Z4;let Z6:=a5.Owner.map o3;let Z7:=AV.own 3 1 Z6;let Z8:=I a5.Fault;let Z15:=(decide (v6<(p1.Threads.length:Int)));let Z17:=AV.sl 1007 0 Z2.length;let Z18:=[Z17,Z5,Z7,Z8];let Z19:=AV.sl 1008 0 Z4.length;let Z20:=[Z17,Z19,Z7,Z8];let Z21:=AV.sl 1009 0 Z6.length;let Z22:=[[Z17,Z19,Z21,Z8]]
  rcases itS h with ⟨c7,h⟩ | ⟨c11,h⟩
  ·obtain ⟨x8,hx8,h⟩:=bnS h
   obtain ⟨l9,hl9,h⟩:=bnS h
   obtain ⟨l10,hl10,h⟩:=bnS h
   exact (let Z0:=l9.map Qb7;let Z9:=AV.sl 1003 0 Z0.length;let Z10:=[(I x8.Routine),(I x8.Pc),(I x8.State),(I x8.Cond),(I x8.Lock),Z9];let Z11:=Z2++[Z10];let Z12:=l10.map Qap;let Z13:=[(AV.sl 1006 0 Z11.length),Z5,Z7,Z8];let Z14:=[[(AV.own 198 6 Z12),Z5,Z7,Z8]];let Z16:=Qa3.mk l10 a5.Cells a5.Owner a5.Fault;gT hP hn hx [hT 1,hh 2 (.row (Qg5 x8)),hW 4 1001,hW 6 1002,hh 9 (.app 1003 Z0),hh 13 (.unpack 2 1004 0 0 Z1 198 6 Z2 [[Z3,Z5,Z7,Z8]]),hW 15 1005,hh 16 (.app 1006 Z11),hh 17 (.pack 1006 1003 a5.Threads.length 5 Z10 Z12),hh 21 (.pack 2 1006 0 0 Z13 Z14)] [(1,1),(2,2)] [2,3,17,18,19] [] [Z15=true,(0:Int)≤v6,(p1.Threads.map Qg5)[v6.toNat]? = some (Qg5 x8),([].map Qb7).take ([].map Qb7).length++(x8.Stack.map Qb7)=Z0,(x8.Stack.map Qb7).all (fun r=>r.all AV.plain)=true,Z0.length * 8≤140737488355328,Z0.length≤140737488355328,[Z1][0]? = some Z1,Z1[0]? = some (AV.own 198 6 Z2),0<6,[Z1].set 0 (Z1.set 0 Z3)=[[Z3,Z5,Z7,Z8]],Z2.take Z2.length++[Z10]=Z11,[Z10].all (fun r=>r.all AV.plain)=true,Z11.length * 64≤140737488355328,Z11.length≤140737488355328,Z11[a5.Threads.length]? = some Z10,Z10[5]? = some Z9,Qa1 Z0=true,Z11.set a5.Threads.length (Z10.set 5 (AV.own 156 1 Z0))=Z12,[Z13][0]? = some Z13,Z13[0]? = some (AV.sl 1006 0 Z12.length),Qa1 Z12=true,[Z13].set 0 (Z13.set 0 (AV.own 198 6 Z12))=Z14,Qa6 [(1,1),(2,2)] [((Qj4 a4))],Qa6 [(1,1),(2,2)] Z14] ⟨c7,(rd0 hx8),(rdM Qg5 hx8),(appT Qb7 hl9),(plM Qp6),(Qnn Qb7 hl9 (by decide)),(Qnm Qb7 hl9),rfl,rfl,(by decide),rfl,(apT Qap),rfl,(apB Qap hl10 (by decide)),(apC Qap hl10),(apG Qap),rfl,(Qa7 Qdh),(apS Qap hl10),rfl,(pkS lnq),(Qa7 Qg7),rfl,(rok (Qb1 Qm2 a4)),(rok (Qb1 Qm2 Z16)),trivial⟩ (ih a4 Z16 (w64 (v6+1)) _ h))
  ·obtain rfl:=sj h
   exact gR hP hn [hF 1,hh 2 (.unpack 2 1007 0 0 Z1 198 6 Z2 [Z18]),hh 2 (.unpack 2 1008 0 1 Z18 156 1 Z4 [Z20]),hh 2 (.unpack 2 1009 0 2 Z20 3 1 Z6 Z22)] [] (.agg [.own,.own,.own,.raw]) [Z15=false,[Z1][0]? = some Z1,Z1[0]? = some (AV.own 198 6 Z2),0<6,[Z1].set 0 (Z1.set 0 Z17)=[Z18],[Z18][0]? = some Z18,Z18[1]? = some Z5,0<1,[Z18].set 0 (Z18.set 1 Z19)=[Z20],[Z20][0]? = some Z20,Z20[2]? = some Z7,0<1,[Z20].set 0 (Z20.set 2 Z21)=Z22,Qa1 (Z2.take Z2.length)=true,Z2.take Z2.length=Z2,Qa4 Z2=true,Qa1 (Z4.take Z4.length)=true,Z4.take Z4.length=Z4,Qa4 Z4=true,Qa1 (Z6.take Z6.length)=true,Z6.take Z6.length=Z6,Qa4 Z6=true,Z8=Z8,Qa8 Z8=true] ⟨c11,rfl,rfl,(by decide),rfl,rfl,rfl,(by decide),rfl,rfl,rfl,(by decide),rfl,(Qay Qg7),Qax,(Qaa Qi3),(Qay Qdh),Qax,(Qaa Qhh),(Qay t3),Qax,(Qaa n3),rfl,rfl,trivial⟩
noncomputable def Qgt (p1:Qa3) : Option Qa3:=
 Option.bind (app [] p1.Cells) fun l2 =>
 Option.bind (Qmf p1.Owner) fun r3 =>
 Qew p1 FU (Qa3.mk [] [] [] 0) (Qa3.mk [] l2 r3 p1.Fault) 0
theorem Qjc {p1:Qa3} {r:Qa3} (h:Qgt p1=some r) : Qab Try.prog 192 [(AV.agg ((Qmn p1)))] (AV.agg (Qj4 r)):=by
 refine gM Try.func192 36 Xck fun E hP hn hx=>?_
 unfold Qgt at h
 obtain ⟨l2,hl2,h⟩:=bnS h
 obtain ⟨r3,hr3,h⟩:=bnS h
 exact (let Z0:=l2.map Qb7;let Z1:=AV.own 3 1 (r3.map o3);let Z2:=(I (p1.Threads.length:Int));let Z3:=AV.own 198 6 ([].map Qap);let Z4:=[[Z3,nS,nS,(I 0)]];let Z5:=[].map Qb7;let Z6:=AV.own 156 1 Z5;let Z7:=[[Z3,Z6,nS,(I 0)]];let Z8:=[[Z3,Z6,(AV.own 3 1 ([].map o3)),(I 0)]];let Z9:=AV.sl 1004 0 Z0.length;let Z10:=AV.sl 1005 0 (r3.map o3).length;let Z11:=I p1.Fault;let Z12:=[Z9,Z10,Z11];let Z13:=[Z3,Z9,Z10,Z11];let Z14:=AV.own 156 1 Z0;let Z15:=[Z3,Z14,Z10,Z11];let Z16:=[[Z3,Z14,Z1,Z11]];let Z17:=AV.sl 1003 0 Z5.length;let Z18:=[(1003,(Qae.mk 156 1 Z5))].map sm;let Z19:=AV.ptr 1001 0 1;let Z20:=p1.Cells.map Qb7;let Z21:=AV.ro 1 Z20;let Z22:=Qae.mk 156 1 Z0;let Z23:=AV.ptr 1001 0 2;let Z24:=AV.ro 1 (p1.Owner.map o3);let Z25:=((rtf Z1 [1005]).2.1).map sm;let Z26:=AV.ptr 1001 0 3;let Z27:=AV.agg [nS,Z9,Z10,Z11];let Z28:=AV.ptr 1006 0 0;let Z29:=([(1006,(Qae.mk 141 4 [[nS,nS,nS,(I 0)]]))].map sm);let Z30:=Qa3.mk [] [] [] 0;let Z31:=Qa3.mk [] l2 r3 p1.Fault;gT hP hn hx [hW 0 1001,hW 1 1002,hW 2 1003,hh 5 (.app 1004 Z0),hh 8 (.call [] Z1 [1005]),hW 12 1006,hO 16 Z2,hh 18 (.own0 1002 1 [] [nS,nS,(I 0)] 198 6 Z4),hh 18 (.own0 1002 1 [Z3] [nS,(I 0)] 156 1 Z7),hh 18 (.own0 1002 1 [Z3,Z6] [(I 0)] 3 1 Z8),hh 18 (.own0 1006 1 [] Z12 198 6 [Z13]),hh 18 (.pack 1006 1004 0 1 Z13 [Z15]),hh 18 (.pack 1006 1005 0 2 Z15 Z16)] [(1002,1),(1006,2)] [2,3,17,18,19] [] [Z17=Z17,Z18=Z18,Z17=Z17,Z18=Z18,Z19=Z19,Z19=Z19,Z19=Z19,Z19=Z19,Z21=Z21,Z21=Z21,Z21=Z21,Z21=Z21,Z9=Z9,[(1003,none),(1004,some Z22)]=[(1003,none),(1004,some Z22)],Z5.take Z5.length++Z20=Z0,Z20.all (fun r=>r.all AV.plain)=true,Z0.length * 8≤140737488355328,Z0.length≤140737488355328,Z9=Z9,[(1003,none),(1004,some Z22)]=[(1003,none),(1004,some Z22)],Z5.take Z5.length++Z20=Z0,Z20.all (fun r=>r.all AV.plain)=true,Z0.length * 8≤140737488355328,Z0.length≤140737488355328,Z23=Z23,Z23=Z23,Z23=Z23,Z23=Z23,Z23=Z23,Z23=Z23,Z24=Z24,Z24=Z24,Z24=Z24,Z24=Z24,Z24=Z24,Z24=Z24,Z10=Z10,Z25=Z25,Qab Try.prog 106 [Z24] Z1,Qez Z1=true,Z10=Z10,Z25=Z25,Qab Try.prog 106 [Z24] Z1,Qez Z1=true,Z26=Z26,Z26=Z26,Z26=Z26,Z26=Z26,Z26=Z26,Z26=Z26,Z26=Z26,Z26=Z26,Z11=Z11,Z11=Z11,Z11=Z11,Z11=Z11,Z11=Z11,Z11=Z11,Z11=Z11,Z11=Z11,Z27=Z27,Z27=Z27,Z28=Z28,Z29=Z29,Z28=Z28,Z29=Z29,Z28=Z28,Z29=Z29,Z28=Z28,Z29=Z29,AV.lit (.int .i64 (((p1.Threads.map Qg5).length:Nat) : Int))=Z2,[[nS,nS,nS,(I 0)]]=List.replicate 1 ([]++AV.lit (.slice none 0 0) :: [nS,nS,(I 0)]),List.replicate 1 ([]++AV.own 198 6 [] :: [nS,nS,(I 0)])=Z4,Z4=List.replicate 1 ([Z3]++AV.lit (.slice none 0 0) :: [nS,(I 0)]),List.replicate 1 ([Z3]++AV.own 156 1 [] :: [nS,(I 0)])=Z7,Z7=List.replicate 1 ([Z3,Z6]++AV.lit (.slice none 0 0) :: [(I 0)]),List.replicate 1 ([Z3,Z6]++AV.own 3 1 [] :: [(I 0)])=Z8,[[nS,Z9,Z10,Z11]]=List.replicate 1 ([]++AV.lit (.slice none 0 0) :: Z12),List.replicate 1 ([]++AV.own 198 6 [] :: Z12)=[Z13],[Z13][0]? = some Z13,Z13[1]? = some Z9,Qa1 Z0=true,[Z13].set 0 (Z13.set 1 Z14)=[Z15],[Z15][0]? = some Z15,Z15[2]? = some Z10,Qa1 (r3.map o3)=true,[Z15].set 0 (Z15.set 2 Z1)=Z16,Qa6 [(1002,1),(1006,2)] Z8,Qa6 [(1002,1),(1006,2)] Z16] ⟨rfl,rfl,rfl,rfl,rfl,rfl,rfl,rfl,rfl,rfl,rfl,rfl,rfl,rfl,(appT Qb7 hl2),(plM Qp6),(Qnn Qb7 hl2 (by decide)),(Qnm Qb7 hl2),rfl,rfl,(appT Qb7 hl2),(plM Qp6),(Qnn Qb7 hl2 (by decide)),(Qnm Qb7 hl2),rfl,rfl,rfl,rfl,rfl,rfl,rfl,rfl,rfl,rfl,rfl,rfl,rfl,rfl,(Qqb hr3),(by simp +zetaDelta only [Qez,Qcw,Qaa n3,Bool.and_self]),rfl,rfl,(Qqb hr3),(by simp +zetaDelta only [Qez,Qcw,Qaa n3,Bool.and_self]),rfl,rfl,rfl,rfl,rfl,rfl,rfl,rfl,rfl,rfl,rfl,rfl,rfl,rfl,rfl,rfl,rfl,rfl,rfl,rfl,rfl,rfl,rfl,rfl,rfl,rfl,(Qfn Qg5),rfl,rfl,rfl,rfl,rfl,rfl,rfl,rfl,rfl,rfl,(Qa7 Qdh),rfl,rfl,rfl,(Qa7 t3),rfl,(rok (Qb1 Qm2 Z30)),(rok (Qb1 Qm2 Z31)),trivial⟩ (Qr7 hP hn hx p1 FU Z30 Z31 0 _ h))
noncomputable def Xio:Code:=match Try.f194.body with | some c=>c | none=>.skip
noncomputable def Qjj (p1:Qa3) (p2:Qa5) (p3:Int) : Option (Qa3×Qa5):=
 Option.bind (Qgt p1) fun r4 =>
 some ((Qa3.mk r4.Threads r4.Cells r4.Owner p3),(Qa5.mk p2.Thread 12 p3 p2.Lock p2.Pc))
theorem Qsx {p1:Qa3} {p2:Qa5} {p3:Int} {r:(Qa3×Qa5)} (h:Qjj p1 p2 p3=some r) : Qab Try.prog 194 [(AV.agg ((Qmn p1))),(AV.agg ((o71 p2))),(I p3)] (AV.tup [(AV.agg (Qj4 r.1)),(AV.agg (o71 r.2))]):=by
 refine gM Try.func194 18 Xio fun E hP hn hx=>?_
 unfold Qjj at h
 obtain ⟨r4,hr4,h⟩:=bnS h
 obtain rfl:=sj h
 exact (let Z0:=AV.agg (Qj4 r4);let Z1:=r4.Threads.map Qap;let Z2:=r4.Cells.map Qb7;let Z3:=r4.Owner.map o3;let Z4:=[(AV.sl 1005 0 Z1.length),(AV.sl 1006 0 Z2.length),(AV.sl 1007 0 Z3.length),(I p3)];let Z5:=AV.agg [(I p2.Thread),(I 12),(I p3),(I p2.Lock),(I p2.Pc)];gR hP hn [hW 0 1001,hW 1 1002,hW 2 1003,hW 3 1004,hh 5 (.call [[]] Z0 [1005,1006,1007]),hW 6 1008] [] (.agg [.agg [.own,.own,.own,.raw],.raw]) [Qab Try.prog 192 [(AV.agg ((Qmn p1)))] Z0,Qez Z0=true,(AV.agg Z4)=(AV.agg Z4),Z5=Z5,Z5=Z5,[(1003,some (Qae.mk 141 4 [Z4]))]=[(1003,some (Qae.mk 141 4 [Z4]))],Qa1 (Z1.take Z1.length)=true,Z1.take Z1.length=Z1,Qa4 Z1=true,Qa1 (Z2.take Z2.length)=true,Z2.take Z2.length=Z2,Qa4 Z2=true,Qa1 (Z3.take Z3.length)=true,Z3.take Z3.length=Z3,Qa4 Z3=true,(I p3)=(I p3),Qa8 (I p3)=true,Z5=Z5,Qa8 Z5=true] ⟨(Qjc hr4),(by simp +zetaDelta only [Qez,Qcw,Qaa n3,Qaa Qhh,Qaa Qi3,Qj4,Bool.and_self]),rfl,rfl,rfl,rfl,(Qay Qg7),Qax,(Qaa Qi3),(Qay Qdh),Qax,(Qaa Qhh),(Qay t3),Qax,(Qaa n3),rfl,rfl,rfl,rfl,trivial⟩)
noncomputable def Xj7:Code:=match Try.f186.body with | some c=>c | none=>.skip
noncomputable def Qgi (p1:Qa9) (p2:Qa3) (p3:Int) : Option (Qa3×Qa5):=
 Option.bind (rd p2.Threads p3) fun x4 =>
 Option.bind (Qed p1 x4) fun r5 =>
 if (x4.State == 4)=true then
  Option.bind (Qgt p2) fun r7 =>
  Option.bind (rd r7.Owner x4.Lock) fun x8 =>
  Option.bind (rd r7.Threads p3) fun x9 =>
  if r5.2=true then
   some ((Qa3.mk (r7.Threads.set (Int.toNat p3) (Qa2.mk x9.Routine (w64 (x9.Pc+1)) 1 (-1) (-1) x9.Stack)) r7.Cells (r7.Owner.set (Int.toNat x4.Lock) p3) r7.Fault),(Qa5.mk p3 9 x4.Cond x4.Lock x4.Pc))
  else
   some ((Qa3.mk (r7.Threads.set (Int.toNat p3) (Qa2.mk x9.Routine x9.Pc 1 (-1) (-1) x9.Stack)) r7.Cells (r7.Owner.set (Int.toNat x4.Lock) p3) r7.Fault),(Qa5.mk p3 9 x4.Cond x4.Lock x4.Pc))
 else
  if (!r5.2)=true then
   Option.bind (Qgt p2) fun r14 =>
   Option.bind (rd r14.Threads p3) fun x15 =>
   some ((Qa3.mk (r14.Threads.set (Int.toNat p3) (Qa2.mk x15.Routine x15.Pc 2 x15.Cond x15.Lock x15.Stack)) r14.Cells r14.Owner r14.Fault),(Qa5.mk p3 11 (-1) (-1) x4.Pc))
  else
   Option.bind (Qir p2 p3 r5.1) fun r17 =>
   if (r17 != 0)=true then
    Option.bind (Qjj p2 (Qa5.mk p3 0 (-1) (-1) x4.Pc) r17) fun r19 =>
    some ((Qa3.mk r19.1.Threads r19.1.Cells r19.1.Owner r19.1.Fault),r19.2)
   else
    Option.bind (Qgt p2) fun r21 =>
    Option.bind (Qi2 r21.Threads r21.Cells r21.Owner r21.Fault p3 r5.1 (Qa5.mk p3 0 (-1) (-1) x4.Pc)) fun r23 =>
    some ((Qa3.mk r23.1.Threads r23.1.Cells r23.1.Owner r23.1.Fault),r23.2)
theorem Qig {p1:Qa9} {p2:Qa3} {p3:Int} {r:(Qa3×Qa5)} (h:Qgi p1 p2 p3=some r) : Qab Try.prog 186 [(AV.agg ((Qhi p1))),(AV.agg ((Qmn p2))),(I p3)] (AV.tup [(AV.agg (Qj4 r.1)),(AV.agg (o71 r.2))]):=by
 refine gM Try.func186 109 Xj7 fun E hP hn hx=>?_
 unfold Qgi at h
 obtain ⟨x4,hx4,h⟩:=bnS h
 obtain ⟨r5,hr5,h⟩:=bnS h
 let Z0:=AV.tup [(AV.agg (Qcb r5.1)),(B r5.2)];let Z9:=I (-1);let Z12:=x4.State == 4;let Z13:=AV.agg ((Qmn p2));let Z26:=AV.agg [(I p3),(I 9),(I x4.Cond),(I x4.Lock),(I x4.Pc)];let Z38:=AV.agg [(I p3),(I 11),Z9,Z9,(I x4.Pc)];let Z40:=AV.agg ((Qcb r5.1));let Z42:=AV.agg [(I p3),(I 0),Z9,Z9,(I x4.Pc)]
 let H1:List Hn:=[hW 0 1001,hW 1 1002,hW 2 1003,hW 3 1004,hh 7 (.row (Qg5 x4)),hW 9 1005,hW 15 1006,hh 19 (.callV [[],[]] Z0),hW 23 1007]
 let P2:List Prop:=[(0:Int)≤p3,(p2.Threads.map Qg5)[p3.toNat]? = some (Qg5 x4),Qab Try.prog 191 [(AV.agg ((Qhi p1))),(AV.agg ((Qg5 x4)))] Z0,Qa8 Z0=true]
 have AP2:Qb0 P2:=⟨(rd0 hx4),(rdM Qg5 hx4),(Qof hr5),rfl,trivial⟩
 rcases itS h with ⟨c6,h⟩ | ⟨c12,h⟩
 ·obtain ⟨r7,hr7,h⟩:=bnS h
  obtain ⟨x8,hx8,h⟩:=bnS h
  obtain ⟨x9,hx9,h⟩:=bnS h
  let Z1:=AV.agg (Qj4 r7);let Z2:=(r7.Owner.set x4.Lock.toNat p3).map o3;let Z3:=Qap x9;let Z4:=(r7.Threads.set p3.toNat (Qa2.mk x9.Routine x9.Pc 1 x9.Cond x9.Lock x9.Stack)).map Qap;let Z5:=I x9.Routine;let Z6:=AV.own 156 1 (x9.Stack.map Qb7);let Z7:=[Z5,(I x9.Pc),(I 1),(I x9.Cond),(I x9.Lock),Z6];let Z8:=(r7.Threads.set p3.toNat (Qa2.mk x9.Routine x9.Pc 1 (-1) x9.Lock x9.Stack)).map Qap;let Z10:=[Z5,(I x9.Pc),(I 1),Z9,(I x9.Lock),Z6];let Z11:=(r7.Threads.set p3.toNat (Qa2.mk x9.Routine x9.Pc 1 (-1) (-1) x9.Stack)).map Qap;let Z14:=r7.Owner.map o3;let Z15:=r7.Threads.map Qap;let Z16:=Qa2.mk x9.Routine x9.Pc 1 x9.Cond x9.Lock x9.Stack;let Z17:=Qa2.mk x9.Routine x9.Pc 1 (-1) x9.Lock x9.Stack;let Z18:=[Z5,(I x9.Pc),(I 1),Z9,Z9,Z6];let Z19:=(r7.Threads.set p3.toNat (Qa2.mk x9.Routine (w64 (x9.Pc+1)) 1 (-1) (-1) x9.Stack)).map Qap;let Z20:=((Z11.length:Nat) : Int);let Z21:=[(I (w64 (x9.Pc+1)))];let Z22:=r7.Cells.map Qb7;let Z23:=I r7.Fault;let Z24:=[(AV.sl 1008 0 Z15.length),(AV.sl 1009 0 Z22.length),(AV.sl 1010 0 Z14.length),Z23];let Z25:=AV.agg Z24;let Z27:=Qae.mk 141 4 [Z24];let Z28:=Z22.take Z22.length;let Z29:=Qa2.mk x9.Routine x9.Pc 1 (-1) (-1) x9.Stack
  let H3:List Hn:=H1++[hT 30,hh 42 (.call [[]] Z1 [1008,1009,1010]),hW 43 1011,hh 51 (.sto [(I x8)] Z2),hh 57 (.sto Z3 Z4),hh 61 (.slen 55 Z4.length),hh 63 (.sto Z7 Z8),hh 67 (.slen 60 Z8.length),hh 69 (.sto Z10 Z11)]
  let P4:List Prop:=P2++[Z12=true,Qab Try.prog 192 [Z13] Z1,Qez Z1=true,(0:Int)≤x4.Lock,x4.Lock<((Z14.length:Nat) : Int),Z14[x4.Lock.toNat]? = some [(I x8)],Z14.set x4.Lock.toNat (wr [(I x8)] 0 [(I p3)])=Z2,[(I p3)].length=1,0 + [(I p3)].length≤[(I x8)].length,(0:Int)≤p3,p3<((Z15.length:Nat) : Int),Z15[p3.toNat]? = some Z3,Z15.set p3.toNat (wr Z3 2 [(I 1)])=Z4,[(I 1)].length=1,2 + [(I 1)].length≤Z3.length,Z15.length=Z4.length,(0:Int)≤p3,p3<((Z4.length:Nat) : Int),Z4[p3.toNat]? = some Z7,Z4.set p3.toNat (wr Z7 3 [Z9])=Z8,[Z9].length=1,3 + [Z9].length≤Z7.length,Z15.length=Z8.length,(0:Int)≤p3,p3<((Z8.length:Nat) : Int),Z8[p3.toNat]? = some Z10,Z8.set p3.toNat (wr Z10 4 [Z9])=Z11,[Z9].length=1,4 + [Z9].length≤Z10.length]
  have AP4:Qb0 P4:=Qag AP2 ⟨c6,(Qjc hr7),(by simp +zetaDelta only [Qez,Qcw,Qaa n3,Qaa Qhh,Qaa Qi3,Qj4,Bool.and_self]),(rd0 hx8),(rdL o3 hx8),(rdM o3 hx8),(Qyf o3),rfl,leB,(rd0 hx9),(rdL Qap hx9),(rdM Qap hx9),(Qt6 Qap),rfl,leB,lnq,(rd0 hx9),(rdL Qap (rdS (y:=Z16) hx9)),(rdM Qap (rdS (y:=Z16) hx9)),(Xe0 Qap),rfl,leB,lnq,(rd0 hx9),(rdL Qap (rdS (y:=Z17) hx9)),(rdM Qap (rdS (y:=Z17) hx9)),(Xe0 Qap),rfl,leB,trivial⟩
  rcases itS h with ⟨c10,h⟩ | ⟨c11,h⟩
  ·obtain rfl:=sj h
   exact gR hP hn (H3++[hT 71,hh 75 (.slen 66 Z11.length),hh 77 (.row Z18),hh 81 (.sto Z18 Z19)]) [] (.agg [.agg [.own,.own,.own,.raw],.raw]) (P4++[r5.2=true,Z15.length=Z11.length,(0:Int)≤p3,p3<Z20,Z11[p3.toNat]? = some Z18,(0:Int)≤p3,p3<Z20,Z11[p3.toNat]? = some Z18,Z11.set p3.toNat (wr Z18 1 Z21)=Z19,Z21.length=1,1+Z21.length≤Z18.length,Z25=Z25,Z26=Z26,Z26=Z26,[(1003,some Z27)]=[(1003,some Z27)],Qa1 (Z19.take Z15.length)=true,Z19.take Z15.length=Z19,Qa4 Z19=true,Qa1 Z28=true,Z22.take Z22.length=Z22,Qa4 Z22=true,Qa1 (Z2.take Z14.length)=true,Z2.take Z14.length=Z2,Qa4 Z2=true,Z23=Z23,Qa8 Z23=true,Z26=Z26,Qa8 Z26=true]) (Qag AP4 ⟨c10,lnq,(rd0 hx9),(rdL Qap (rdS (y:=Z29) hx9)),(rdM Qap (rdS (y:=Z29) hx9)),(rd0 hx9),(rdL Qap (rdS (y:=Z29) hx9)),(rdM Qap (rdS (y:=Z29) hx9)),(Xe0 Qap),rfl,leB,rfl,rfl,rfl,rfl,(Qc8 lnq (Qa7 Qg7)),(Qep lnq),(Qaa Qi3),(Qay Qdh),Qax,(Qaa Qhh),(Qc8 lnq (Qa7 t3)),(Qep lnq),(Qaa n3),rfl,rfl,rfl,rfl,trivial⟩)
  ·obtain rfl:=sj h
   exact gR hP hn (H3++[hF 71]) [] (.agg [.agg [.own,.own,.own,.raw],.raw]) (P4++[r5.2=false,Z25=Z25,Z26=Z26,Z26=Z26,[(1003,some Z27)]=[(1003,some Z27)],Qa1 (Z11.take Z15.length)=true,Z11.take Z15.length=Z11,Qa4 Z11=true,Qa1 Z28=true,Z22.take Z22.length=Z22,Qa4 Z22=true,Qa1 (Z2.take Z14.length)=true,Z2.take Z14.length=Z2,Qa4 Z2=true,Z23=Z23,Qa8 Z23=true,Z26=Z26,Qa8 Z26=true]) (Qag AP4 ⟨c11,rfl,rfl,rfl,rfl,(Qc8 lnq (Qa7 Qg7)),(Qep lnq),(Qaa Qi3),(Qay Qdh),Qax,(Qaa Qhh),(Qc8 lnq (Qa7 t3)),(Qep lnq),(Qaa n3),rfl,rfl,rfl,rfl,trivial⟩)
 ·rcases itS h with ⟨c13,h⟩ | ⟨c16,h⟩
  ·obtain ⟨r14,hr14,h⟩:=bnS h
   obtain ⟨x15,hx15,h⟩:=bnS h
   obtain rfl:=sj h
   exact (let Z30:=AV.agg (Qj4 r14);let Z31:=Qap x15;let Z32:=(r14.Threads.set p3.toNat (Qa2.mk x15.Routine x15.Pc 2 x15.Cond x15.Lock x15.Stack)).map Qap;let Z33:=r14.Threads.map Qap;let Z34:=r14.Cells.map Qb7;let Z35:=r14.Owner.map o3;let Z36:=I r14.Fault;let Z37:=[(AV.sl 1012 0 Z33.length),(AV.sl 1013 0 Z34.length),(AV.sl 1014 0 Z35.length),Z36];let Z39:=Qae.mk 141 4 [Z37];gR hP hn (H1++[hF 30,hT 34,hh 38 (.call [[]] Z30 [1012,1013,1014]),hW 39 1015,hh 46 (.sto Z31 Z32)]) [] (.agg [.agg [.own,.own,.own,.raw],.raw]) (P2++[Z12=false,(!r5.2)=true,Qab Try.prog 192 [Z13] Z30,Qez Z30=true,(0:Int)≤p3,p3<((Z33.length:Nat) : Int),Z33[p3.toNat]? = some Z31,Z33.set p3.toNat (wr Z31 2 [(I 2)])=Z32,[(I 2)].length=1,2 + [(I 2)].length≤Z31.length,(AV.agg Z37)=(AV.agg Z37),Z38=Z38,Z38=Z38,[(1003,some Z39)]=[(1003,some Z39)],Qa1 (Z32.take Z33.length)=true,Z32.take Z33.length=Z32,Qa4 Z32=true,Qa1 (Z34.take Z34.length)=true,Z34.take Z34.length=Z34,Qa4 Z34=true,Qa1 (Z35.take Z35.length)=true,Z35.take Z35.length=Z35,Qa4 Z35=true,Z36=Z36,Qa8 Z36=true,Z38=Z38,Qa8 Z38=true]) (Qag AP2 ⟨c12,c13,(Qjc hr14),(by simp +zetaDelta only [Qez,Qcw,Qaa n3,Qaa Qhh,Qaa Qi3,Qj4,Bool.and_self]),(rd0 hx15),(rdL Qap hx15),(rdM Qap hx15),(Qt6 Qap),rfl,leB,rfl,rfl,rfl,rfl,(Qc8 lnq (Qa7 Qg7)),(Qep lnq),(Qaa Qi3),(Qay Qdh),Qax,(Qaa Qhh),(Qay t3),Qax,(Qaa n3),rfl,rfl,rfl,rfl,trivial⟩))
  ·obtain ⟨r17,hr17,h⟩:=bnS h
   let P5:List Prop:=P2++[Z12=false,(!r5.2)=false,Qab Try.prog 193 [Z13,(I p3),Z40] (I r17),Qa8 (I r17)=true]
   have AP5:Qb0 P5:=Qag AP2 ⟨c12,c16,(Qud hr17),rfl,trivial⟩
   rcases itS h with ⟨c18,h⟩ | ⟨c20,h⟩
   ·obtain ⟨r19,hr19,h⟩:=bnS h
    obtain rfl:=sj h
    exact (let Z41:=AV.tup [(AV.agg (Qj4 r19.1)),(AV.agg (o71 r19.2))];let Z43:=r19.1.Threads.map Qap;let Z44:=r19.1.Cells.map Qb7;let Z45:=r19.1.Owner.map o3;let Z46:=I r19.1.Fault;let Z47:=AV.agg ((o71 r19.2));gR hP hn (H1++[hF 30,hF 34,hh 38 (.callV [[],[]] (I r17)),hT 42,hh 46 (.call [[],[]] Z41 [1016,1017,1018])]) [] (.agg [.agg [.own,.own,.own,.raw],.raw]) (P5++[(r17 != 0)=true,Qab Try.prog 194 [Z13,Z42,(I r17)] Z41,Qez Z41=true,Qa1 (Z43.take Z43.length)=true,Z43.take Z43.length=Z43,Qa4 Z43=true,Qa1 (Z44.take Z44.length)=true,Z44.take Z44.length=Z44,Qa4 Z44=true,Qa1 (Z45.take Z45.length)=true,Z45.take Z45.length=Z45,Qa4 Z45=true,Z46=Z46,Qa8 Z46=true,Z47=Z47,Qa8 Z47=true]) (Qag AP5 ⟨c18,(Qsx hr19),(by simp +zetaDelta only [Qez,Qcw,Qaa n3,Qaa Qhh,Qaa Qi3,Qj4,o71,Bool.and_self]),(Qay Qg7),Qax,(Qaa Qi3),(Qay Qdh),Qax,(Qaa Qhh),(Qay t3),Qax,(Qaa n3),rfl,rfl,rfl,rfl,trivial⟩))
   ·obtain ⟨r21,hr21,h⟩:=bnS h
    obtain ⟨r23,hr23,h⟩:=bnS h
    obtain rfl:=sj h
    exact (let Z48:=AV.agg (Qj4 r21);let Z49:=r21.Threads.map Qap;let Z50:=r21.Cells.map Qb7;let Z51:=r21.Owner.map o3;let Z52:=AV.tup [(AV.agg (Qj4 r23.1)),(AV.agg (o71 r23.2))];let Z53:=r23.1.Threads.map Qap;let Z54:=r23.1.Cells.map Qb7;let Z55:=r23.1.Owner.map o3;let Z56:=I r23.1.Fault;let Z57:=AV.agg ((o71 r23.2));let Z58:=(AV.tup [(AV.agg [(AV.sl 1022 0 Z53.length),(AV.sl 1023 0 Z54.length),(AV.sl 1024 0 Z55.length),Z56]),Z57]);let Z59:=rtf (Qe3 [] Z52) [1022,1023,1024];gR hP hn (H1++[hF 30,hF 34,hh 38 (.callV [[],[]] (I r17)),hF 42,hh 44 (.call [[]] Z48 [1019,1020,1021]),hh 48 (.callX [1019,1020,1021] [false,false,false] [⟨198,6,Z49⟩,⟨156,1,Z50⟩,⟨3,1,Z51⟩] [⟨198,6,Z49⟩,⟨156,1,Z50⟩,⟨3,1,Z51⟩] [[],[],[]] Z52 [1022,1023,1024] Z58 [(1022,⟨198,6,Z53⟩),(1023,⟨156,1,Z54⟩),(1024,⟨3,1,Z55⟩)])]) [] (.agg [.agg [.own,.own,.own,.raw],.raw]) (P5++[(r17 != 0)=false,Qab Try.prog 192 [Z13] Z48,Qez Z48=true,Qaw (pk0 Try.prog) 195 [⟨198,6,Z49⟩,⟨156,1,Z50⟩,⟨3,1,Z51⟩] [(AV.agg [(AV.sl 0 0 Z49.length),(AV.sl 1 0 Z50.length),(AV.sl 2 0 Z51.length),(I r21.Fault)]),(I p3),Z40,Z42] [false,false,false] [⟨198,6,Z49⟩,⟨156,1,Z50⟩,⟨3,1,Z51⟩] Z52,(some (Qae.mk 198 6 Z49)=some (Qae.mk 198 6 Z49))∧(some (Qae.mk 156 1 Z50)=some (Qae.mk 156 1 Z50))∧(some (Qae.mk 3 1 Z51)=some (Qae.mk 3 1 Z51))∧True,(Qa1 Z49=true∧Qa4 Z49=true)∧(Qa1 Z50=true∧Qa4 Z50=true)∧(Qa1 Z51=true∧Qa4 Z51=true)∧True,(Z49.length=Z49.length)∧(Z50.length=Z50.length)∧(Z51.length=Z51.length)∧True,Z59.1=Z58,Z59.2.1=[(1022,⟨198,6,Z53⟩),(1023,⟨156,1,Z54⟩),(1024,⟨3,1,Z55⟩)],(I p3)=(I p3),Z40=Z40,Z42=Z42,Qa1 (Z53.take Z53.length)=true,Z53.take Z53.length=Z53,Qa4 Z53=true,Qa1 (Z54.take Z54.length)=true,Z54.take Z54.length=Z54,Qa4 Z54=true,Qa1 (Z55.take Z55.length)=true,Z55.take Z55.length=Z55,Qa4 Z55=true,Z56=Z56,Qa8 Z56=true,Z57=Z57,Qa8 Z57=true]) (Qag AP5 ⟨c20,(Qjc hr21),(by simp +zetaDelta only [Qez,Qcw,Qaa n3,Qaa Qhh,Qaa Qi3,Qj4,Bool.and_self]),(mK (Qz1 hr23)),⟨rfl,rfl,rfl,trivial⟩,⟨⟨Qa7 Qg7,Qaa Qi3⟩,⟨Qa7 Qdh,Qaa Qhh⟩,⟨Qa7 t3,Qaa n3⟩,trivial⟩,⟨rfl,rfl,rfl,trivial⟩,rfl,rfl,rfl,rfl,rfl,(Qay Qg7),Qax,(Qaa Qi3),(Qay Qdh),Qax,(Qaa Qhh),(Qay t3),Qax,(Qaa n3),rfl,rfl,rfl,rfl,trivial⟩))
noncomputable def Xco:Code:=match Try.f184.body with | some c=>c | none=>.skip
noncomputable def Qef  (p2:Qa3) : Nat→Int→Option Int
 | 0,_=>none
 | n+1,v9 =>
 if (decide (v9<(p2.Threads.length:Int)))=true then
  Option.bind (rd p2.Threads v9) fun x11 =>
  if (x11.State != 2)=true then
   some 3
  else
   Qef p2 n (w64 (v9+1))
 else
  some 1
theorem Qqo {E:Env} (hP:E.pk=pk0 Try.prog) (hn:E.n=33) (hx:FX E []) (p2:Qa3)  : ∀ (n:Nat) (v9:Int) (r:Int),Qef p2 n v9=some r→WAt E Xco (FQ (Qdu Θ Try.f184.results.toList [] [] (I r) E)) [true,true,false,true,false,false,true,false] ⟨[(20,(AV.ro 6 (p2.Threads.map Qg5))),(21,(I (p2.Threads.length:Int))),(22,(I v9))],[],[JJ]⟩:=by
 intro n
 induction n with
 | zero=>intro v9 r h;simp only [Qef] at h;cases h
 | succ n ih =>
  intro v9 r h
  simp only [Qef] at h
  let Z0:=(decide (v9<(p2.Threads.length:Int)))
  rcases itS h with ⟨c10,h⟩ | ⟨c14,h⟩
  ·obtain ⟨x11,hx11,h⟩:=bnS h
   let P1:List Prop:=[Z0=true,(0:Int)≤v9,(p2.Threads.map Qg5)[v9.toNat]? = some (Qg5 x11)]
   have AP1:Qb0 P1:=⟨c10,(rd0 hx11),(rdM Qg5 hx11),trivial⟩
   rcases itS h with ⟨c12,h⟩ | ⟨c13,h⟩
   ·obtain rfl:=sj h
    exact gR hP hn [hT 1,hh 2 (.row (Qg5 x11)),hW 4 1001,hT 9] [] .raw (P1++[(x11.State != 2)=true,(I 3)=(I 3),Qa8 (I 3)=true]) (Qag AP1 ⟨c12,rfl,rfl,trivial⟩)
   ·exact gT hP hn hx [hT 1,hh 2 (.row (Qg5 x11)),hW 4 1001,hF 9] [] [20,21,22] [] (P1++[(x11.State != 2)=false]) (Qag AP1 ⟨c13,trivial⟩) (ih (w64 (v9+1)) _ h)
  ·obtain rfl:=sj h
   exact gR hP hn [hF 1] [] .raw [Z0=false,(I 1)=(I 1),Qa8 (I 1)=true] ⟨c14,rfl,rfl,trivial⟩
noncomputable def Qiv (p1:Qa9) (p2:Qa3) (p3:Int) (p4:Int) : Option Int:=
 if (p2.Fault != 0)=true then
  some 2
 else
  Option.bind (Qdd p1 p2) fun r7 =>
  if ((r7.length:Int) == 0)=true then
   Qef p2 FU 0
  else
   if (p3 == p4)=true then
    some 4
   else
    some 0
theorem Qw4 {p1:Qa9} {p2:Qa3} {p3:Int} {p4:Int} {r:Int} (h:Qiv p1 p2 p3 p4=some r) : Qab Try.prog 184 [(AV.agg ((Qhi p1))),(AV.agg ((Qmn p2))),(I p3),(I p4)] (I r):=by
 refine gM Try.func184 33 Xco fun E hP hn hx=>?_
 unfold Qiv at h
 let Z2:=(I (p2.Threads.length:Int))
 rcases itS h with ⟨c5,h⟩ | ⟨c6,h⟩
 ·obtain rfl:=sj h
  exact gR hP hn [hW 0 1001,hW 1 1002,hT 6] [] .raw [(p2.Fault != 0)=true,(I 2)=(I 2),Qa8 (I 2)=true] ⟨c5,rfl,rfl,trivial⟩
 ·obtain ⟨r7,hr7,h⟩:=bnS h
  let Z0:=AV.own 3 1 (r7.map o3);let Z1:=(I (r7.length:Int));let Z3:=((r7.length:Int) == 0)
  let H1:List Hn:=[hW 0 1001,hW 1 1002,hF 6,hh 9 (.call [[],[]] Z0 [1003]),hO 10 Z1]
  let P2:List Prop:=[(p2.Fault != 0)=false,Qab Try.prog 185 [(AV.agg ((Qhi p1))),(AV.agg ((Qmn p2)))] Z0,Qez Z0=true,AV.lit (.int .i64 (((r7.map o3).length:Nat) : Int))=Z1]
  have AP2:Qb0 P2:=⟨c6,(Qkr hr7),(by simp +zetaDelta only [Qez,Qcw,Qaa n3,Bool.and_self]),(Qfn o3),trivial⟩
  rcases itS h with ⟨c8,h⟩ | ⟨c15,h⟩
  ·exact gT hP hn hx (H1++[hT 12,hO 15 Z2]) [] [20,21,22] [] (P2++[Z3=true,AV.lit (.int .i64 (((p2.Threads.map Qg5).length:Nat) : Int))=Z2]) (Qag AP2 ⟨c8,(Qfn Qg5),trivial⟩) (Qqo hP hn hx p2 FU 0 _ h)
  ·rcases itS h with ⟨c16,h⟩ | ⟨c17,h⟩
   ·obtain rfl:=sj h
    exact gR hP hn (H1++[hF 12,hT 16]) [] .raw (P2++[Z3=false,(p3 == p4)=true,(I 4)=(I 4),Qa8 (I 4)=true]) (Qag AP2 ⟨c15,c16,rfl,rfl,trivial⟩)
   ·obtain rfl:=sj h
    exact gR hP hn (H1++[hF 12,hF 16]) [] .raw (P2++[Z3=false,(p3 == p4)=false,(I 0)=(I 0),Qa8 (I 0)=true]) (Qag AP2 ⟨c15,c17,rfl,rfl,trivial⟩)
noncomputable def Qv0:Code:=match Try.f173.body with | some c=>c | none=>.skip
noncomputable def Qg2 (K0:Qa9→Qgp→Qgp→Option Qgp) (p2:(List Int)) (p3:Int) (a5:Qa9) (a6:Qgp) (a7:Qgp) (r8:Int) (r11:(List Int)) (v15:Int) : Option Qgp:=
 Option.bind (rd r11 v15) fun x16 =>
 Option.bind (Qgi a5 (Qa3.mk a7.End.Threads a7.End.Cells a7.End.Owner a7.End.Fault) x16) fun r17 =>
 Option.bind (app a7.Trace [r17.2]) fun l18 =>
 Option.bind (app a7.Picks [v15]) fun l19 =>
 K0 a5 a6 (Qgp.mk r8 l18 l19 (Qa3.mk r17.1.Threads r17.1.Cells r17.1.Owner r17.1.Fault))
theorem Ql2 {E:Env} (hP:E.pk=pk0 Try.prog) (hn:E.n=72) (hx:FX E []) (p2:(List Int)) (p3:Int) (a5:Qa9) (a6:Qgp) (a7:Qgp) (r8:Int) (r11:(List Int)) {K0:Qa9→Qgp→Qgp→Option Qgp} (hK0 : ∀ (a5:Qa9) (a6:Qgp) (a7:Qgp) (r:Qgp),K0 a5 a6 a7=some r→WAt E Qv0 (FQ (Qdu Θ Try.f173.results.toList [] [] (AV.agg (Qsl r)) E)) [true,true,false] ⟨[(1,(AV.ro 1 (p2.map o3))),(2,(I p3)),(3,(AV.ptr 1 0 0)),(6,(AV.ptr 2 0 0)),(7,(AV.ptr 3 0 0))],[(1,some ⟨136,4,[((Qhi a5))]⟩),(2,some ⟨143,7,[((Qsl a6))]⟩),(3,some ⟨143,7,[((Qsl a7))]⟩)],[1,2,3,JJ]⟩) (v15:Int) (r:Qgp) (h:Qg2 K0 p2 p3 a5 a6 a7 r8 r11 v15=some r) : WAt E Qv0 (FQ (Qdu Θ Try.f173.results.toList [] [] (AV.agg (Qsl r)) E)) [true,true,false,false,false,true,true,true,true,true] ⟨[(1,(AV.ro 1 (p2.map o3))),(2,(I p3)),(3,(AV.ptr 1 0 0)),(6,(AV.ptr 2 0 0)),(7,(AV.ptr 3 0 0)),(8,(AV.sl 4 0 (List.length (r11.map o3)))),(9,(I v15))],[(1,some ⟨136,4,[((Qhi a5))]⟩),(2,some ⟨143,7,[((Qsl a6))]⟩),(3,some ⟨143,7,[[(I r8),(AV.own 71 5 (a7.Trace.map o71)),(AV.own 3 1 (a7.Picks.map o3)),(AV.own 198 6 (a7.End.Threads.map Qap)),(AV.own 156 1 (a7.End.Cells.map Qb7)),(AV.own 3 1 (a7.End.Owner.map o3)),(I a7.End.Fault)]]⟩),(4,some ⟨3,1,(r11.map o3)⟩)],[1,2,3,4,JJ]⟩:=by
 unfold Qg2 at h
 obtain ⟨x16,hx16,h⟩:=bnS h
 obtain ⟨r17,hr17,h⟩:=bnS h
 obtain ⟨l18,hl18,h⟩:=bnS h
 obtain ⟨l19,hl19,h⟩:=bnS h
 exact (let Z0:=I r8;let Z1:=a7.Trace.map o71;let Z2:=a7.Picks.map o3;let Z3:=AV.own 3 1 Z2;let Z4:=a7.End.Threads.map Qap;let Z5:=AV.own 198 6 Z4;let Z6:=a7.End.Cells.map Qb7;let Z7:=AV.own 156 1 Z6;let Z8:=a7.End.Owner.map o3;let Z9:=AV.own 3 1 Z8;let Z10:=I a7.End.Fault;let Z11:=[Z0,(AV.own 71 5 Z1),Z3,Z5,Z7,Z9,Z10];let Z12:=AV.sl 1001 0 Z1.length;let Z13:=[Z0,Z12,Z3,Z5,Z7,Z9,Z10];let Z14:=AV.sl 1002 0 Z2.length;let Z15:=[Z0,Z12,Z14,Z5,Z7,Z9,Z10];let Z16:=AV.sl 1003 0 Z4.length;let Z17:=[Z0,Z12,Z14,Z16,Z7,Z9,Z10];let Z18:=AV.sl 1004 0 Z6.length;let Z19:=[Z0,Z12,Z14,Z16,Z18,Z9,Z10];let Z20:=AV.sl 1005 0 Z8.length;let Z21:=[[Z0,Z12,Z14,Z16,Z18,Z20,Z10]];let Z22:=I x16;let Z23:=a7.End.Threads.map Qg5;let Z24:=AV.tup [(AV.agg (Qj4 r17.1)),(AV.agg (o71 r17.2))];let Z25:=l18.map o71;let Z26:=l19.map o3;let Z27:=AV.sl 1012 0 Z25.length;let Z28:=AV.sl 1014 0 Z26.length;let Z29:=r17.1.Threads.map Qap;let Z30:=AV.sl 1006 0 Z29.length;let Z31:=r17.1.Cells.map Qb7;let Z32:=AV.sl 1007 0 Z31.length;let Z33:=r17.1.Owner.map o3;let Z34:=AV.sl 1008 0 Z33.length;let Z35:=I r17.1.Fault;let Z36:=[Z0,Z27,Z28,Z30,Z32,Z34,Z35];let Z37:=AV.own 71 5 Z25;let Z38:=[Z0,Z37,Z28,Z30,Z32,Z34,Z35];let Z39:=AV.own 3 1 Z26;let Z40:=[Z0,Z37,Z39,Z30,Z32,Z34,Z35];let Z41:=AV.own 198 6 Z29;let Z42:=[Z0,Z37,Z39,Z41,Z32,Z34,Z35];let Z43:=AV.own 156 1 Z31;let Z44:=[Z0,Z37,Z39,Z41,Z43,Z34,Z35];let Z45:=[[Z0,Z37,Z39,Z41,Z43,(AV.own 3 1 Z33),Z35]];let Z46:=AV.agg ((Qhi a5));let Z47:=AV.ptr 3 0 3;let Z48:=AV.agg [Z16,Z18,Z20,Z10];let Z49:=r11.map o3;let Z50:=AV.sl 4 0 Z49.length;let Z51:=I v15;let Z52:=AV.ptr 4 v15.toNat 0;let Z53:=((Z49.length:Nat) : Int);let Z54:=AV.agg [Z30,Z32,Z34,Z35];let Z55:=AV.agg ((o71 r17.2));let Z56:=AV.tup [Z54,Z55];let Z57:=((rtf Z24 [1006,1007,1008]).2.1).map sm;let Z58:=[Z46,(AV.agg [(AV.ro 6 Z23),(AV.ro 1 Z6),(AV.ro 1 Z8),Z10]),Z22];let Z59:=(Z4.drop 0).take Z4.length;let Z60:=(Z6.drop 0).take Z6.length;let Z61:=(Z8.drop 0).take Z8.length;let Z62:=AV.ptr 1009 0 0;let Z63:=([(1009,(Qae.mk 141 4 [[nS,nS,nS,(I 0)]]))].map sm);let Z64:=AV.ptr 1010 0 0;let Z65:=([(1010,(Qae.mk 71 5 [[(I 0),(I 0),(I 0),(I 0),(I 0)]]))].map sm);let Z66:=Qae.mk 141 4 [[Z30,Z32,Z34,Z35]];let Z67:=(([r17.2].map o71).drop 0).take ([r17.2].map o71).length;let Z68:=(([v15].map o3).drop 0).take ([v15].map o3).length;let Z69:=Qgp.mk r8 l18 l19 (Qa3.mk r17.1.Threads r17.1.Cells r17.1.Owner r17.1.Fault);gT hP hn hx [hh 0 (.unpack 3 1001 0 1 Z11 71 5 Z1 [Z13]),hh 0 (.unpack 3 1002 0 2 Z13 3 1 Z2 [Z15]),hh 0 (.unpack 3 1003 0 3 Z15 198 6 Z4 [Z17]),hh 0 (.unpack 3 1004 0 4 Z17 156 1 Z6 [Z19]),hh 0 (.unpack 3 1005 0 5 Z19 3 1 Z8 Z21),hh 6 (.row [Z22]),hh 7 (.call [[],[],Z23,Z6,Z8] Z24 [1006,1007,1008]),hW 11 1009,hW 12 1010,hW 21 1011,hh 22 (.app 1012 Z25),hW 28 1013,hh 29 (.app 1014 Z26),hh 32 (.pack 3 1012 0 1 Z36 [Z38]),hh 32 (.pack 3 1014 0 2 Z38 [Z40]),hh 32 (.pack 3 1006 0 3 Z40 [Z42]),hh 32 (.pack 3 1007 0 4 Z42 [Z44]),hh 32 (.pack 3 1008 0 5 Z44 Z45)] [(1,1),(2,2),(3,3)] [1,2,3,6,7] [] [[Z11][0]? = some Z11,Z11[1]? = some (AV.own 71 5 Z1),0<5,[Z11].set 0 (Z11.set 1 Z12)=[Z13],[Z13][0]? = some Z13,Z13[2]? = some Z3,0<1,[Z13].set 0 (Z13.set 2 Z14)=[Z15],[Z15][0]? = some Z15,Z15[3]? = some Z5,0<6,[Z15].set 0 (Z15.set 3 Z16)=[Z17],[Z17][0]? = some Z17,Z17[4]? = some Z7,0<1,[Z17].set 0 (Z17.set 4 Z18)=[Z19],[Z19][0]? = some Z19,Z19[5]? = some Z9,0<1,[Z19].set 0 (Z19.set 5 Z20)=Z21,Z46=Z46,Z46=Z46,Z46=Z46,Z46=Z46,Z47=Z47,Z47=Z47,Z47=Z47,Z47=Z47,Z48=Z48,Z48=Z48,Z48=Z48,Z48=Z48,Z50=Z50,Z50=Z50,Z50=Z50,Z50=Z50,Z51=Z51,Z51=Z51,Z51=Z51,Z51=Z51,Z52=Z52,(0:Int)≤v15,v15<Z53,Z52=Z52,(0:Int)≤v15,v15<Z53,Z52=Z52,(0:Int)≤v15,v15<Z53,Z52=Z52,(0:Int)≤v15,v15<Z53,Z22=Z22,Z49[v15.toNat]? = some [Z22],Z22=Z22,Z49[v15.toNat]? = some [Z22],Z22=Z22,Z49[v15.toNat]? = some [Z22],Z22=Z22,Z49[v15.toNat]? = some [Z22],Z56=Z56,Z57=Z57,Qab Try.prog 186 Z58 Z24,Qez Z24=true,Frz Z59 Z23,Frz Z60 Z6,Frz Z61 Z8,Z56=Z56,Z57=Z57,Qab Try.prog 186 Z58 Z24,Qez Z24=true,Frz Z59 Z23,Frz Z60 Z6,Frz Z61 Z8,Z56=Z56,Z57=Z57,Qab Try.prog 186 Z58 Z24,Qez Z24=true,Frz Z59 Z23,Frz Z60 Z6,Frz Z61 Z8,Z56=Z56,Z57=Z57,Qab Try.prog 186 Z58 Z24,Qez Z24=true,Frz Z59 Z23,Frz Z60 Z6,Frz Z61 Z8,Z56=Z56,Z56=Z56,Z56=Z56,Z56=Z56,Z54=Z54,Z54=Z54,Z54=Z54,Z54=Z54,Z55=Z55,Z55=Z55,Z55=Z55,Z55=Z55,Z55=Z55,Z62=Z62,Z63=Z63,Z62=Z62,Z63=Z63,Z62=Z62,Z63=Z63,Z62=Z62,Z63=Z63,Z64=Z64,Z65=Z65,Z64=Z64,Z65=Z65,Z64=Z64,Z65=Z65,Z64=Z64,Z65=Z65,[(1009,some Z66)]=[(1009,some Z66)],Z1.take Z1.length++Z67=Z25,Z67.all (fun r=>r.all AV.plain)=true,Z25.length * 40≤140737488355328,Z25.length≤140737488355328,Z2.take Z2.length++Z68=Z26,Z68.all (fun r=>r.all AV.plain)=true,Z26.length * 8≤140737488355328,Z26.length≤140737488355328,[Z36][0]? = some Z36,Z36[1]? = some Z27,Qa1 Z25=true,[Z36].set 0 (Z36.set 1 Z37)=[Z38],[Z38][0]? = some Z38,Z38[2]? = some Z28,Qa1 Z26=true,[Z38].set 0 (Z38.set 2 Z39)=[Z40],[Z40][0]? = some Z40,Z40[3]? = some Z30,Qa1 Z29=true,[Z40].set 0 (Z40.set 3 Z41)=[Z42],[Z42][0]? = some Z42,Z42[4]? = some Z32,Qa1 Z31=true,[Z42].set 0 (Z42.set 4 Z43)=[Z44],[Z44][0]? = some Z44,Z44[5]? = some Z34,Qa1 Z33=true,[Z44].set 0 (Z44.set 5 (AV.own 3 1 Z33))=Z45,Qa6 [(1,1),(2,2),(3,3)] [((Qhi a5))],Qa6 [(1,1),(2,2),(3,3)] [((Qsl a6))],Qa6 [(1,1),(2,2),(3,3)] Z45] ⟨rfl,rfl,(by decide),rfl,rfl,rfl,(by decide),rfl,rfl,rfl,(by decide),rfl,rfl,rfl,(by decide),rfl,rfl,rfl,(by decide),rfl,rfl,rfl,rfl,rfl,rfl,rfl,rfl,rfl,rfl,rfl,rfl,rfl,rfl,rfl,rfl,rfl,rfl,rfl,rfl,rfl,rfl,(rd0 hx16),(rdL o3 hx16),rfl,(rd0 hx16),(rdL o3 hx16),rfl,(rd0 hx16),(rdL o3 hx16),rfl,(rd0 hx16),(rdL o3 hx16),rfl,(rdM o3 hx16),rfl,(rdM o3 hx16),rfl,(rdM o3 hx16),rfl,(rdM o3 hx16),rfl,rfl,(Qig hr17),(by simp +zetaDelta only [Qez,Qcw,Qaa n3,Qaa Qhh,Qaa Qi3,Qj4,o71,Bool.and_self]),(Qlc Qg7 Xgg),(Qlc Qdh Xb7),(Qlc t3 z3),rfl,rfl,(Qig hr17),(by simp +zetaDelta only [Qez,Qcw,Qaa n3,Qaa Qhh,Qaa Qi3,Qj4,o71,Bool.and_self]),(Qlc Qg7 Xgg),(Qlc Qdh Xb7),(Qlc t3 z3),rfl,rfl,(Qig hr17),(by simp +zetaDelta only [Qez,Qcw,Qaa n3,Qaa Qhh,Qaa Qi3,Qj4,o71,Bool.and_self]),(Qlc Qg7 Xgg),(Qlc Qdh Xb7),(Qlc t3 z3),rfl,rfl,(Qig hr17),(by simp +zetaDelta only [Qez,Qcw,Qaa n3,Qaa Qhh,Qaa Qi3,Qj4,o71,Bool.and_self]),(Qlc Qg7 Xgg),(Qlc Qdh Xb7),(Qlc t3 z3),rfl,rfl,rfl,rfl,rfl,rfl,rfl,rfl,rfl,rfl,rfl,rfl,rfl,rfl,rfl,rfl,rfl,rfl,rfl,rfl,rfl,rfl,rfl,rfl,rfl,rfl,rfl,rfl,rfl,rfl,(Qiw o71 hl18),(plD pa71),(Qnn o71 hl18 (by decide)),(Qnm o71 hl18),(Qiw o3 hl19),(plD pa3),(Qnn o3 hl19 (by decide)),(Qnm o3 hl19),rfl,rfl,(Qa7 t71),rfl,rfl,rfl,(Qa7 t3),rfl,rfl,rfl,(Qa7 Qg7),rfl,rfl,rfl,(Qa7 Qdh),rfl,rfl,rfl,(Qa7 t3),rfl,(rok (Qb1 Qit a5)),(rok (Qb1 Xgt a6)),(rok (Qb1 Xgt Z69)),trivial⟩ (hK0 a5 a6 Z69 _ h))
noncomputable def Qd7  (p2:(List Int)) (p3:Int) : Nat→Qa9→Qgp→Qgp→Option Qgp
 | 0,_,_,_=>none
 | n+1,a5,a6,a7 =>
 Option.bind (Qiv a5 (Qa3.mk a7.End.Threads a7.End.Cells a7.End.Owner a7.End.Fault) (a7.Trace.length:Int) p3) fun r8 =>
 if (decide (r8 > 0))=true then
  some (Qgp.mk r8 a7.Trace a7.Picks (Qa3.mk a7.End.Threads a7.End.Cells a7.End.Owner a7.End.Fault))
 else
  Option.bind (Qdd a5 (Qa3.mk a7.End.Threads a7.End.Cells a7.End.Owner a7.End.Fault)) fun r11 =>
  if (decide ((a7.Picks.length:Int)<(p2.length:Int)))=true then
   Option.bind (rd p2 (a7.Picks.length:Int)) fun x13 =>
   Option.bind (nz (r11.length:Int)) fun q14 =>
   Qg2 (Qd7 p2 p3 n) p2 p3 a5 a6 a7 r8 r11 (Int.tmod x13 (r11.length:Int))
  else
   Qg2 (Qd7 p2 p3 n) p2 p3 a5 a6 a7 r8 r11 0
theorem Qrg {E:Env} (hP:E.pk=pk0 Try.prog) (hn:E.n=72) (hx:FX E []) (p2:(List Int)) (p3:Int)  : ∀ (n:Nat) (a5:Qa9) (a6:Qgp) (a7:Qgp) (r:Qgp),Qd7 p2 p3 n a5 a6 a7=some r→WAt E Qv0 (FQ (Qdu Θ Try.f173.results.toList [] [] (AV.agg (Qsl r)) E)) [true,true,false] ⟨[(1,(AV.ro 1 (p2.map o3))),(2,(I p3)),(3,(AV.ptr 1 0 0)),(6,(AV.ptr 2 0 0)),(7,(AV.ptr 3 0 0))],[(1,some ⟨136,4,[((Qhi a5))]⟩),(2,some ⟨143,7,[((Qsl a6))]⟩),(3,some ⟨143,7,[((Qsl a7))]⟩)],[1,2,3,JJ]⟩:=by
 intro n
 induction n with
 | zero=>intro a5 a6 a7 r h;simp only [Qd7] at h;cases h
 | succ n ih =>
  intro a5 a6 a7 r h
  simp only [Qd7] at h
  obtain ⟨r8,hr8,h⟩:=bnS h
  let Z0:=Qsl a7;let Z1:=a7.Trace.map o71;let Z2:=I a7.Code;let Z3:=AV.sl 1001 0 Z1.length;let Z4:=a7.Picks.map o3;let Z5:=AV.own 3 1 Z4;let Z6:=[Z2,Z3,Z5]++(Qj4 a7.End);let Z7:=AV.sl 1002 0 Z4.length;let Z8:=[Z2,Z3,Z7]++(Qj4 a7.End);let Z9:=a7.End.Threads.map Qap;let Z10:=AV.sl 1003 0 Z9.length;let Z11:=a7.End.Cells.map Qb7;let Z12:=AV.own 156 1 Z11;let Z13:=a7.End.Owner.map o3;let Z14:=AV.own 3 1 Z13;let Z15:=I a7.End.Fault;let Z16:=[Z2,Z3,Z7,Z10,Z12,Z14,Z15];let Z17:=AV.sl 1004 0 Z11.length;let Z18:=[Z2,Z3,Z7,Z10,Z17,Z14,Z15];let Z19:=AV.sl 1005 0 Z13.length;let Z20:=[[Z2,Z3,Z7,Z10,Z17,Z19,Z15]];let Z21:=(I (a7.Trace.length:Int));let Z22:=a7.End.Threads.map Qg5;let Z23:=I r8;let Z24:=AV.own 71 5 Z1;let Z25:=AV.own 198 6 Z9;let Z26:=AV.agg [(AV.ro 6 Z22),(AV.ro 1 Z11),(AV.ro 1 Z13),Z15];let Z27:=(Z9.drop 0).take Z9.length;let Z28:=(Z11.drop 0).take Z11.length;let Z29:=(Z13.drop 0).take Z13.length;let Z32:=(a7.Picks.length:Int);let Z33:=(I (p2.length:Int));let Z34:=((Z4.length:Nat) : Int);let Z36:=[Z23,Z3,Z7,Z10,Z17,Z19,Z15];let Z37:=[Z23,Z24,Z7,Z10,Z17,Z19,Z15];let Z38:=[Z23,Z24,Z5,Z10,Z17,Z19,Z15];let Z39:=[Z23,Z24,Z5,Z25,Z17,Z19,Z15];let Z40:=[Z23,Z24,Z5,Z25,Z12,Z19,Z15];let Z41:=[[Z23,Z24,Z5,Z25,Z12,Z14,Z15]];let Z42:=(decide (Z32<(p2.length:Int)));let Z43:=Qgp.mk r8 a7.Trace a7.Picks (Qa3.mk a7.End.Threads a7.End.Cells a7.End.Owner a7.End.Fault)
  let H1:List Hn:=[hh 2 (.unpack 3 1001 0 1 Z0 71 5 Z1 [Z6]),hh 2 (.unpack 3 1002 0 2 Z6 3 1 Z4 [Z8]),hh 2 (.unpack 3 1003 0 3 Z8 198 6 Z9 [Z16]),hh 2 (.unpack 3 1004 0 4 Z16 156 1 Z11 [Z18]),hh 2 (.unpack 3 1005 0 5 Z18 3 1 Z13 Z20),hO 5 Z21,hh 7 (.callV [[],[],Z22,Z11,Z13] Z23)]
  let P2:List Prop:=[[Z0][0]? = some Z0,Z0[1]? = some Z24,0<5,[Z0].set 0 (Z0.set 1 Z3)=[Z6],[Z6][0]? = some Z6,Z6[2]? = some Z5,0<1,[Z6].set 0 (Z6.set 2 Z7)=[Z8],[Z8][0]? = some Z8,Z8[3]? = some Z25,0<6,[Z8].set 0 (Z8.set 3 Z10)=[Z16],[Z16][0]? = some Z16,Z16[4]? = some Z12,0<1,[Z16].set 0 (Z16.set 4 Z17)=[Z18],[Z18][0]? = some Z18,Z18[5]? = some Z14,0<1,[Z18].set 0 (Z18.set 5 Z19)=Z20,AV.lit (.int .i64 ((Z1.length:Nat) : Int))=Z21,Qab Try.prog 184 [(AV.agg ((Qhi a5))),Z26,Z21,(I p3)] Z23,Qa8 Z23=true,Frz Z27 Z22,Frz Z28 Z11,Frz Z29 Z13]
  have AP2:Qb0 P2:=⟨rfl,rfl,(by decide),rfl,rfl,rfl,(by decide),rfl,rfl,rfl,(by decide),rfl,rfl,rfl,(by decide),rfl,rfl,rfl,(by decide),rfl,(Qfn o71),(Qw4 hr8),rfl,(Qlc Qg7 Xgg),(Qlc Qdh Xb7),(Qlc t3 z3),trivial⟩
  rcases itS h with ⟨c9,h⟩ | ⟨c10,h⟩
  ·obtain rfl:=sj h
   exact gR hP hn (H1++[hT 13]) [] (.agg [.raw,.own,.own,.own,.own,.own,.raw]) (P2++[(decide (r8 > 0))=true,Z23=Z23,Qa8 Z23=true,Qa1 (Z1.take Z1.length)=true,Z1.take Z1.length=Z1,Qa4 Z1=true,Qa1 (Z4.take Z4.length)=true,Z4.take Z4.length=Z4,Qa4 Z4=true,Qa1 (Z9.take Z9.length)=true,Z9.take Z9.length=Z9,Qa4 Z9=true,Qa1 (Z11.take Z11.length)=true,Z11.take Z11.length=Z11,Qa4 Z11=true,Qa1 (Z13.take Z13.length)=true,Z13.take Z13.length=Z13,Qa4 Z13=true,Z15=Z15,Qa8 Z15=true]) (Qag AP2 ⟨c9,rfl,rfl,(Qay t71),Qax,(Qaa n71),(Qay t3),Qax,(Qaa n3),(Qay Qg7),Qax,(Qaa Qi3),(Qay Qdh),Qax,(Qaa Qhh),(Qay t3),Qax,(Qaa n3),rfl,rfl,trivial⟩)
  ·obtain ⟨r11,hr11,h⟩:=bnS h
   let Z30:=r11.map o3;let Z31:=AV.own 3 1 Z30;let Z35:=(r11.length:Int)
   let H3:List Hn:=H1++[hF 13,hh 17 (.call [[],[],Z22,Z11,Z13] Z31 [1006]),hO 22 (I Z32),hO 24 Z33]
   let P4:List Prop:=P2++[(decide (r8 > 0))=false,Qab Try.prog 185 [(AV.agg ((Qhi a5))),Z26] Z31,Qez Z31=true,Frz Z27 Z22,Frz Z28 Z11,Frz Z29 Z13,AV.lit (.int .i64 Z34)=(I Z32),AV.lit (.int .i64 (((p2.map o3).length:Nat) : Int))=Z33]
   have AP4:Qb0 P4:=Qag AP2 ⟨c10,(Qkr hr11),(by simp +zetaDelta only [Qez,Qcw,Qaa n3,Bool.and_self]),(Qlc Qg7 Xgg),(Qlc Qdh Xb7),(Qlc t3 z3),(Qfn o3),(Qfn o3),trivial⟩
   rcases itS h with ⟨c12,h⟩ | ⟨c20,h⟩
   ·obtain ⟨x13,hx13,h⟩:=bnS h
    obtain ⟨q14,hq14,h⟩:=bnS h
    exact gT hP hn hx (H3++[hT 26,hO 30 (I Z32),hh 31 (.row (o3 x13)),hO 34 (I Z35),hh 37 (.pack 3 1001 0 1 Z36 [Z37]),hh 37 (.pack 3 1002 0 2 Z37 [Z38]),hh 37 (.pack 3 1003 0 3 Z38 [Z39]),hh 37 (.pack 3 1004 0 4 Z39 [Z40]),hh 37 (.pack 3 1005 0 5 Z40 Z41)]) [(1,1),(2,2),(3,3),(1006,4)] [1,2,3,6,7,8,9] [] (P4++[Z42=true,AV.lit (.int .i64 Z34)=(I Z32),(0:Int)≤Z32,(p2.map o3)[Z32.toNat]? = some (o3 x13),AV.lit (.int .i64 ((Z30.length:Nat) : Int))=(I Z35),Z35≠(0:Int),[Z36][0]? = some Z36,Z36[1]? = some Z3,Qa1 Z1=true,[Z36].set 0 (Z36.set 1 Z24)=[Z37],[Z37][0]? = some Z37,Z37[2]? = some Z7,Qa1 Z4=true,[Z37].set 0 (Z37.set 2 Z5)=[Z38],[Z38][0]? = some Z38,Z38[3]? = some Z10,Qa1 Z9=true,[Z38].set 0 (Z38.set 3 Z25)=[Z39],[Z39][0]? = some Z39,Z39[4]? = some Z17,Qa1 Z11=true,[Z39].set 0 (Z39.set 4 Z12)=[Z40],[Z40][0]? = some Z40,Z40[5]? = some Z19,Qa1 Z13=true,[Z40].set 0 (Z40.set 5 Z14)=Z41,Qa6 [(1,1),(2,2),(3,3),(1006,4)] [((Qhi a5))],Qa6 [(1,1),(2,2),(3,3),(1006,4)] [((Qsl a6))],Qa6 [(1,1),(2,2),(3,3),(1006,4)] Z41,Qa6 [(1,1),(2,2),(3,3),(1006,4)] Z30]) (Qag AP4 ⟨c12,(Qfn o3),(rd0 hx13),(rdM o3 hx13),(Qfn o3),(nzE hq14),rfl,rfl,(Qa7 t71),rfl,rfl,rfl,(Qa7 t3),rfl,rfl,rfl,(Qa7 Qg7),rfl,rfl,rfl,(Qa7 Qdh),rfl,rfl,rfl,(Qa7 t3),rfl,(rok (Qb1 Qit a5)),(rok (Qb1 Xgt a6)),(rok (Qb1 Xgt Z43)),(rok (Qa7 t3)),trivial⟩) (Ql2 hP hn hx p2 p3 a5 a6 a7 r8 r11 ih (Int.tmod x13 Z35) _ h)
   ·exact gT hP hn hx (H3++[hF 26,hh 27 (.pack 3 1001 0 1 Z36 [Z37]),hh 27 (.pack 3 1002 0 2 Z37 [Z38]),hh 27 (.pack 3 1003 0 3 Z38 [Z39]),hh 27 (.pack 3 1004 0 4 Z39 [Z40]),hh 27 (.pack 3 1005 0 5 Z40 Z41)]) [(1,1),(2,2),(3,3),(1006,4)] [1,2,3,6,7,8,9] [] (P4++[Z42=false,[Z36][0]? = some Z36,Z36[1]? = some Z3,Qa1 Z1=true,[Z36].set 0 (Z36.set 1 Z24)=[Z37],[Z37][0]? = some Z37,Z37[2]? = some Z7,Qa1 Z4=true,[Z37].set 0 (Z37.set 2 Z5)=[Z38],[Z38][0]? = some Z38,Z38[3]? = some Z10,Qa1 Z9=true,[Z38].set 0 (Z38.set 3 Z25)=[Z39],[Z39][0]? = some Z39,Z39[4]? = some Z17,Qa1 Z11=true,[Z39].set 0 (Z39.set 4 Z12)=[Z40],[Z40][0]? = some Z40,Z40[5]? = some Z19,Qa1 Z13=true,[Z40].set 0 (Z40.set 5 Z14)=Z41,Qa6 [(1,1),(2,2),(3,3),(1006,4)] [((Qhi a5))],Qa6 [(1,1),(2,2),(3,3),(1006,4)] [((Qsl a6))],Qa6 [(1,1),(2,2),(3,3),(1006,4)] Z41,Qa6 [(1,1),(2,2),(3,3),(1006,4)] Z30]) (Qag AP4 ⟨c20,rfl,rfl,(Qa7 t71),rfl,rfl,rfl,(Qa7 t3),rfl,rfl,rfl,(Qa7 Qg7),rfl,rfl,rfl,(Qa7 Qdh),rfl,rfl,rfl,(Qa7 t3),rfl,(rok (Qb1 Qit a5)),(rok (Qb1 Xgt a6)),(rok (Qb1 Xgt Z43)),(rok (Qa7 t3)),trivial⟩) (Ql2 hP hn hx p2 p3 a5 a6 a7 r8 r11 ih 0 _ h)
noncomputable def Qjw (p1:Qa9) (p2:(List Int)) (p3:Int) : Option Qgp:=
 Option.bind (Qha p1) fun r4 =>
 Qd7 p2 p3 FU p1 (Qgp.mk 0 [] [] (Qa3.mk [] [] [] 0)) (Qgp.mk 0 [] [] (Qa3.mk r4.Threads r4.Cells r4.Owner r4.Fault))
theorem Qy2 {p1:Qa9} {p2:(List Int)} {p3:Int} {r:Qgp} (h:Qjw p1 p2 p3=some r) : Qab Try.prog 173 [(AV.agg ((Qhi p1))),(AV.ro 1 (p2.map o3)),(I p3)] (AV.agg (Qsl r)):=by
 refine gM Try.func173 72 Qv0 fun E hP hn hx=>?_
 unfold Qjw at h
 obtain ⟨r4,hr4,h⟩:=bnS h
 exact (let Z0:=AV.agg (Qj4 r4);let Z1:=I 0;let Z2:=AV.own 71 5 ([].map o71);let Z3:=[[Z1,Z2,nS,nS,nS,nS,Z1]];let Z4:=[Z1,Z2];let Z5:=AV.own 3 1 ([].map o3);let Z6:=[[Z1,Z2,Z5,nS,nS,nS,Z1]];let Z7:=AV.own 198 6 ([].map Qap);let Z8:=[[Z1,Z2,Z5,Z7,nS,nS,Z1]];let Z9:=[Z1,Z2,Z5,Z7];let Z10:=AV.own 156 1 ([].map Qb7);let Z11:=[[Z1,Z2,Z5,Z7,Z10,nS,Z1]];let Z12:=[Z1,Z2,Z5,Z7,Z10];let Z13:=[[Z1,Z2,Z5,Z7,Z10,Z5,Z1]];let Z14:=r4.Threads.map Qap;let Z15:=AV.sl 1003 0 Z14.length;let Z16:=r4.Cells.map Qb7;let Z17:=AV.sl 1004 0 Z16.length;let Z18:=r4.Owner.map o3;let Z19:=AV.sl 1005 0 Z18.length;let Z20:=I r4.Fault;let Z21:=[[Z1,Z2,nS,Z15,Z17,Z19,Z20]];let Z22:=[Z15,Z17,Z19,Z20];let Z23:=[Z1,Z2,Z5,Z15,Z17,Z19,Z20];let Z24:=AV.own 198 6 Z14;let Z25:=[Z1,Z2,Z5,Z24,Z17,Z19,Z20];let Z26:=AV.own 156 1 Z16;let Z27:=[Z1,Z2,Z5,Z24,Z26,Z19,Z20];let Z28:=[[Z1,Z2,Z5,Z24,Z26,(AV.own 3 1 Z18),Z20]];let Z29:=Qgp.mk 0 [] [] (Qa3.mk [] [] [] 0);let Z30:=Qgp.mk 0 [] [] (Qa3.mk r4.Threads r4.Cells r4.Owner r4.Fault);gT hP hn hx [hW 0 1001,hW 1 1002,hh 3 (.call [[]] Z0 [1003,1004,1005]),hW 5 1006,hh 7 (.own0 1002 1 [Z1] [nS,nS,nS,nS,Z1] 71 5 Z3),hh 7 (.own0 1002 1 Z4 [nS,nS,nS,Z1] 3 1 Z6),hh 7 (.own0 1002 1 [Z1,Z2,Z5] [nS,nS,Z1] 198 6 Z8),hh 7 (.own0 1002 1 Z9 [nS,Z1] 156 1 Z11),hh 7 (.own0 1002 1 Z12 [Z1] 3 1 Z13),hh 7 (.own0 1006 1 [Z1] [nS,Z15,Z17,Z19,Z20] 71 5 Z21),hh 7 (.own0 1006 1 Z4 Z22 3 1 [Z23]),hh 7 (.pack 1006 1003 0 3 Z23 [Z25]),hh 7 (.pack 1006 1004 0 4 Z25 [Z27]),hh 7 (.pack 1006 1005 0 5 Z27 Z28)] [(1001,1),(1002,2),(1006,3)] [1,2,3,6,7] [] [Qab Try.prog 183 [(AV.agg ((Qhi p1)))] Z0,Qez Z0=true,[[Z1,nS,nS,nS,nS,nS,Z1]]=List.replicate 1 ([Z1]++AV.lit (.slice none 0 0) :: [nS,nS,nS,nS,Z1]),List.replicate 1 ([Z1]++AV.own 71 5 [] :: [nS,nS,nS,nS,Z1])=Z3,Z3=List.replicate 1 (Z4++AV.lit (.slice none 0 0) :: [nS,nS,nS,Z1]),List.replicate 1 (Z4++AV.own 3 1 [] :: [nS,nS,nS,Z1])=Z6,Z6=List.replicate 1 ([Z1,Z2,Z5]++AV.lit (.slice none 0 0) :: [nS,nS,Z1]),List.replicate 1 ([Z1,Z2,Z5]++AV.own 198 6 [] :: [nS,nS,Z1])=Z8,Z8=List.replicate 1 (Z9++AV.lit (.slice none 0 0) :: [nS,Z1]),List.replicate 1 (Z9++AV.own 156 1 [] :: [nS,Z1])=Z11,Z11=List.replicate 1 (Z12++AV.lit (.slice none 0 0) :: [Z1]),List.replicate 1 (Z12++AV.own 3 1 [] :: [Z1])=Z13,[[Z1,nS,nS,Z15,Z17,Z19,Z20]]=List.replicate 1 ([Z1]++AV.lit (.slice none 0 0) :: [nS,Z15,Z17,Z19,Z20]),List.replicate 1 ([Z1]++AV.own 71 5 [] :: [nS,Z15,Z17,Z19,Z20])=Z21,Z21=List.replicate 1 (Z4++AV.lit (.slice none 0 0) :: Z22),List.replicate 1 (Z4++AV.own 3 1 [] :: Z22)=[Z23],[Z23][0]? = some Z23,Z23[3]? = some Z15,Qa1 Z14=true,[Z23].set 0 (Z23.set 3 Z24)=[Z25],[Z25][0]? = some Z25,Z25[4]? = some Z17,Qa1 Z16=true,[Z25].set 0 (Z25.set 4 Z26)=[Z27],[Z27][0]? = some Z27,Z27[5]? = some Z19,Qa1 Z18=true,[Z27].set 0 (Z27.set 5 (AV.own 3 1 Z18))=Z28,Qa6 [(1001,1),(1002,2),(1006,3)] [((Qhi p1))],Qa6 [(1001,1),(1002,2),(1006,3)] Z13,Qa6 [(1001,1),(1002,2),(1006,3)] Z28] ⟨(Qx8 hr4),(by simp +zetaDelta only [Qez,Qcw,Qaa n3,Qaa Qhh,Qaa Qi3,Qj4,Bool.and_self]),rfl,rfl,rfl,rfl,rfl,rfl,rfl,rfl,rfl,rfl,rfl,rfl,rfl,rfl,rfl,rfl,(Qa7 Qg7),rfl,rfl,rfl,(Qa7 Qdh),rfl,rfl,rfl,(Qa7 t3),rfl,(rok (Qb1 Qit p1)),(rok (Qb1 Xgt Z29)),(rok (Qb1 Xgt Z30)),trivial⟩ (Qrg hP hn hx p2 p3 FU p1 Z29 Z30 _ h))
noncomputable def Xj6:Code:=match Try.f152.body with | some c=>c | none=>.skip
noncomputable def Qgx (p1:Qa9) (p2:(List Int)) (p3:Int) : Option (Qgp×Bool):=
 Option.bind (Qh4 p1) fun r4 =>
 if (!r4)=true then
  some ((Qgp.mk 0 [] [] (Qa3.mk [] [] [] 0)),false)
 else
  Option.bind (Qhy p2) fun r7 =>
  if (!r7)=true then
   some ((Qgp.mk 0 [] [] (Qa3.mk [] [] [] 0)),false)
  else
   Option.bind (Qbu p3 0 200) fun r10 =>
   if (!r10)=true then
    some ((Qgp.mk 0 [] [] (Qa3.mk [] [] [] 0)),false)
   else
    Option.bind (Qjw p1 p2 p3) fun r13 =>
    some ((Qgp.mk r13.Code r13.Trace r13.Picks (Qa3.mk r13.End.Threads r13.End.Cells r13.End.Owner r13.End.Fault)),true)
theorem Qls {p1:Qa9} {p2:(List Int)} {p3:Int} {r:(Qgp×Bool)} (h:Qgx p1 p2 p3=some r) : Qab Try.prog 152 [(AV.agg ((Qhi p1))),(AV.ro 1 (p2.map o3)),(I p3)] (AV.tup [(AV.agg (Qsl r.1)),(B r.2)]):=by
 refine gM Try.func152 26 Xj6 fun E hP hn hx=>?_
 unfold Qgx at h
 obtain ⟨r4,hr4,h⟩:=bnS h
 let Z0:=B true;let Z1:=I 0;let Z2:=B false;let Z3:=AV.ro 1 (p2.map o3)
 let H1:List Hn:=[hW 0 1001,hW 1 1002,hh 4 (.callV [[]] (B r4))]
 let P2:List Prop:=[Qab Try.prog 171 [(AV.agg ((Qhi p1)))] (B r4),Qa8 (B r4)=true]
 have AP2:Qb0 P2:=⟨(Qra hr4),rfl,trivial⟩
 rcases itS h with ⟨c5,h⟩ | ⟨c6,h⟩
 ·obtain rfl:=sj h
  exact gR hP hn (H1++[hO 6 Z0]) [] (.agg [.agg [.raw,.own,.own,.own,.own,.own,.raw],.raw]) (P2++[(B (!r4))=Z0,Z1=Z1,Qa8 Z1=true,Z1=Z1,Qa8 Z1=true,Z2=Z2,Qa8 Z2=true]) (Qag AP2 ⟨(Qb5 c5),rfl,rfl,rfl,rfl,rfl,rfl,trivial⟩)
 ·obtain ⟨r7,hr7,h⟩:=bnS h
  let H3:List Hn:=H1++[hO 6 Z2,hh 8 (.callV [] (B r7))]
  let P4:List Prop:=P2++[(B (!r4))=Z2,Qab Try.prog 172 [Z3] (B r7),Qa8 (B r7)=true]
  have AP4:Qb0 P4:=Qag AP2 ⟨(Qb5 c6),(Qsm hr7),rfl,trivial⟩
  rcases itS h with ⟨c8,h⟩ | ⟨c9,h⟩
  ·obtain rfl:=sj h
   exact gR hP hn (H3++[hO 11 Z0]) [] (.agg [.agg [.raw,.own,.own,.own,.own,.own,.raw],.raw]) (P4++[(B (!r7))=Z0,Z1=Z1,Qa8 Z1=true,Z1=Z1,Qa8 Z1=true,Z2=Z2,Qa8 Z2=true]) (Qag AP4 ⟨(Qb5 c8),rfl,rfl,rfl,rfl,rfl,rfl,trivial⟩)
  ·obtain ⟨r10,hr10,h⟩:=bnS h
   let P5:List Prop:=P4++[(B (!r7))=Z2,Qab Try.prog 81 [(I p3),Z1,(I 200)] (B r10),Qa8 (B r10)=true]
   have AP5:Qb0 P5:=Qag AP4 ⟨(Qb5 c9),(Qbj hr10),rfl,trivial⟩
   rcases itS h with ⟨c11,h⟩ | ⟨c12,h⟩
   ·obtain rfl:=sj h
    exact gR hP hn (H3++[hO 11 Z2,hh 13 (.callV [] (B r10)),hT 16]) [] (.agg [.agg [.raw,.own,.own,.own,.own,.own,.raw],.raw]) (P5++[(!r10)=true,Z1=Z1,Qa8 Z1=true,Z1=Z1,Qa8 Z1=true,Z2=Z2,Qa8 Z2=true]) (Qag AP5 ⟨c11,rfl,rfl,rfl,rfl,rfl,rfl,trivial⟩)
   ·obtain ⟨r13,hr13,h⟩:=bnS h
    obtain rfl:=sj h
    exact (let Z4:=AV.agg (Qsl r13);let Z5:=r13.Trace.map o71;let Z6:=r13.Picks.map o3;let Z7:=r13.End.Threads.map Qap;let Z8:=r13.End.Cells.map Qb7;let Z9:=r13.End.Owner.map o3;let Z10:=I r13.End.Fault;gR hP hn (H3++[hO 11 Z2,hh 13 (.callV [] (B r10)),hF 16,hh 20 (.call [[]] Z4 [1003,1004,1005,1006,1007])]) [] (.agg [.agg [.raw,.own,.own,.own,.own,.own,.raw],.raw]) (P5++[(!r10)=false,Qab Try.prog 173 [(AV.agg ((Qhi p1))),Z3,(I p3)] Z4,Qez Z4=true,(I r13.Code)=(I r13.Code),Qa8 (I r13.Code)=true,Qa1 (Z5.take Z5.length)=true,Z5.take Z5.length=Z5,Qa4 Z5=true,Qa1 (Z6.take Z6.length)=true,Z6.take Z6.length=Z6,Qa4 Z6=true,Qa1 (Z7.take Z7.length)=true,Z7.take Z7.length=Z7,Qa4 Z7=true,Qa1 (Z8.take Z8.length)=true,Z8.take Z8.length=Z8,Qa4 Z8=true,Qa1 (Z9.take Z9.length)=true,Z9.take Z9.length=Z9,Qa4 Z9=true,Z10=Z10,Qa8 Z10=true,Z0=Z0,Qa8 Z0=true]) (Qag AP5 ⟨c12,(Qy2 hr13),(by simp +zetaDelta only [Qez,Qcw,Qaa n3,Qaa n71,Qaa Qhh,Qaa Qi3,Qsl,Bool.and_self]),rfl,rfl,(Qay t71),Qax,(Qaa n71),(Qay t3),Qax,(Qaa n3),(Qay Qg7),Qax,(Qaa Qi3),(Qay Qdh),Qax,(Qaa Qhh),(Qay t3),Qax,(Qaa n3),rfl,rfl,rfl,rfl,trivial⟩))
end Go.Proofs.Ytdmmaanagmacjaa
