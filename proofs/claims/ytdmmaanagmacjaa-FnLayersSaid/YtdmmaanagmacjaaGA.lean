/- Functions as plain data, and that the code comes to them; no condition. -/

import Derived.Test.YtdmmaanagmacjaaGT
set_option linter.unusedVariables false
set_option maxRecDepth 100000
namespace Go.Proofs.Ytdmmaanagmacjaa
open Go Go.T
noncomputable def Xjy:Code:=match Try.f79.body with | some c=>c | none=>.skip
noncomputable def Qi8 (p1:Int) (p2:Int) (p3:Int) : Option Bool:=
 if (decide (p2≤p1))=true then
  some (decide (p1≤p3))
 else
  some false
theorem Qj0 {p1:Int} {p2:Int} {p3:Int} {r:Bool} (h:Qi8 p1 p2 p3=some r) : Qab Try.prog 79 [(I p1),(I p2),(I p3)] (B r):=by
 refine gM Try.func79 15 Xjy fun E hP hn hx=>?_
 unfold Qi8 at h
 let Z0:=B (decide (p2≤p1));let Z1:=B (decide (p1≤p3));let Z2:=B false
 rcases itS h with ⟨c4,h⟩ | ⟨c5,h⟩
 ·obtain rfl:=sj h
  exact gR hP hn [hO 4 (B true)] [] .raw [Z0=(B true),Z1=Z1,Qa8 Z1=true] ⟨(Qb5 c4),rfl,rfl,trivial⟩
 ·obtain rfl:=sj h
  exact gR hP hn [hO 4 Z2] [] .raw [Z0=Z2,Z2=Z2,Qa8 Z2=true] ⟨(Qb5 c5),rfl,rfl,trivial⟩
noncomputable def Xek:Code:=match Try.f101.body with | some c=>c | none=>.skip
noncomputable def Qej  (p1:Qa5)  : Option Bool:=
 if (decide (p1.Obj ≥ 0))=true then
  if (decide (p1.Lock ≥ 0))=true then
   some true
  else
   if (p1.Kind != 8)=true then
    some (p1.Kind != 9)
   else
    some false
 else
  Option.bind (Qi8 p1.Kind 2 10) fun r23 =>
  if (!r23)=true then
   if (decide (p1.Lock ≥ 0))=true then
    some true
   else
    if (p1.Kind != 8)=true then
     some (p1.Kind != 9)
    else
     some false
  else
   some false
theorem Qky {E:Env} (hP:E.pk=pk0 Try.prog) (hn:E.n=55) (hx:FX E []) (p1:Qa5)   (r:Bool) (h:Qej p1  = some r) : WAt E Xek (FQ (Qdu Θ Try.f101.results.toList [] [] (B r) E)) [true,false,true,true] ⟨[(1,(AV.ptr 1 0 0))],[(1,some ⟨71,5,[((o71 p1))]⟩)],[1,JJ]⟩:=by
 unfold Qej at h
 let Z0:=B true;let Z1:=B (decide (p1.Obj ≥ 0));let Z2:=B (decide (p1.Lock ≥ 0));let Z3:=B false;let Z4:=B (p1.Kind != 8);let Z5:=B (p1.Kind != 9)
 rcases itS h with ⟨c17,h⟩ | ⟨c22,h⟩
 ·rcases itS h with ⟨c18,h⟩ | ⟨c19,h⟩
  ·obtain rfl:=sj h
   exact gR hP hn [hO 3 Z0,hO 13 Z0] [] .raw [Z1=Z0,Z2=Z0,Z0=Z0,Qa8 Z0=true] ⟨(Qb5 c17),(Qb5 c18),rfl,rfl,trivial⟩
  ·rcases itS h with ⟨c20,h⟩ | ⟨c21,h⟩
   ·obtain rfl:=sj h
    exact gR hP hn [hO 3 Z0,hO 13 Z3,hO 17 Z0] [] .raw [Z1=Z0,Z2=Z3,Z4=Z0,Z5=Z5,Qa8 Z5=true] ⟨(Qb5 c17),(Qb5 c19),(Qb5 c20),rfl,rfl,trivial⟩
   ·obtain rfl:=sj h
    exact gR hP hn [hO 3 Z0,hO 13 Z3,hO 17 Z3] [] .raw [Z1=Z0,Z2=Z3,Z4=Z3,Z3=Z3,Qa8 Z3=true] ⟨(Qb5 c17),(Qb5 c19),(Qb5 c21),rfl,rfl,trivial⟩
 ·obtain ⟨r23,hr23,h⟩:=bnS h
  let Z6:=B (!r23)
  let H1:List Hn:=[hO 3 Z3,hh 6 (.callV [] (B r23))]
  let P2:List Prop:=[Z1=Z3,Qab Try.prog 79 [(I p1.Kind),(I 2),(I 10)] (B r23),Qa8 (B r23)=true]
  have AP2:Qb0 P2:=⟨(Qb5 c22),(Qj0 hr23),rfl,trivial⟩
  rcases itS h with ⟨c24,h⟩ | ⟨c29,h⟩
  ·rcases itS h with ⟨c25,h⟩ | ⟨c26,h⟩
   ·obtain rfl:=sj h
    exact gR hP hn (H1++[hO 9 Z0,hO 13 Z0]) [] .raw (P2++[Z6=Z0,Z2=Z0,Z0=Z0,Qa8 Z0=true]) (Qag AP2 ⟨(Qb5 c24),(Qb5 c25),rfl,rfl,trivial⟩)
   ·rcases itS h with ⟨c27,h⟩ | ⟨c28,h⟩
    ·obtain rfl:=sj h
     exact gR hP hn (H1++[hO 9 Z0,hO 13 Z3,hO 17 Z0]) [] .raw (P2++[Z6=Z0,Z2=Z3,Z4=Z0,Z5=Z5,Qa8 Z5=true]) (Qag AP2 ⟨(Qb5 c24),(Qb5 c26),(Qb5 c27),rfl,rfl,trivial⟩)
    ·obtain rfl:=sj h
     exact gR hP hn (H1++[hO 9 Z0,hO 13 Z3,hO 17 Z3]) [] .raw (P2++[Z6=Z0,Z2=Z3,Z4=Z3,Z3=Z3,Qa8 Z3=true]) (Qag AP2 ⟨(Qb5 c24),(Qb5 c26),(Qb5 c28),rfl,rfl,trivial⟩)
  ·obtain rfl:=sj h
   exact gR hP hn (H1++[hO 9 Z3]) [] .raw (P2++[Z6=Z3,Z3=Z3,Qa8 Z3=true]) (Qag AP2 ⟨(Qb5 c29),rfl,rfl,trivial⟩)
noncomputable def Qeu (p1:Qa5) : Option Bool:=
 Option.bind (Qi8 p1.Thread 0 4) fun r2 =>
 if (!r2)=true then
  some false
 else
  Option.bind (Qi8 p1.Kind 1 12) fun r5 =>
  if (!r5)=true then
   some false
  else
   Option.bind (Qi8 p1.Obj (-1) 99) fun r8 =>
   if (!r8)=true then
    some false
   else
    Option.bind (Qi8 p1.Lock (-1) 99) fun r11 =>
    if (!r11)=true then
     some false
    else
     Option.bind (Qi8 p1.Pc 0 99) fun r14 =>
     if (!r14)=true then
      some false
     else
      Qej p1
theorem Qnb {p1:Qa5} {r:Bool} (h:Qeu p1=some r) : Qab Try.prog 101 [(AV.agg ((o71 p1)))] (B r):=by
 refine gM Try.func101 55 Xek fun E hP hn hx=>?_
 unfold Qeu at h
 obtain ⟨r2,hr2,h⟩:=bnS h
 let Z0:=B true;let Z1:=B false
 let H1:List Hn:=[hW 0 1001,hh 4 (.callV [] (B r2))]
 let P2:List Prop:=[Qab Try.prog 79 [(I p1.Thread),(I 0),(I 4)] (B r2),Qa8 (B r2)=true]
 have AP2:Qb0 P2:=⟨(Qj0 hr2),rfl,trivial⟩
 rcases itS h with ⟨c3,h⟩ | ⟨c4,h⟩
 ·obtain rfl:=sj h
  exact gR hP hn (H1++[hO 6 Z0]) [] .raw (P2++[(B (!r2))=Z0,Z1=Z1,Qa8 Z1=true]) (Qag AP2 ⟨(Qb5 c3),rfl,rfl,trivial⟩)
 ·obtain ⟨r5,hr5,h⟩:=bnS h
  let H3:List Hn:=H1++[hO 6 Z1,hh 9 (.callV [] (B r5))]
  let P4:List Prop:=P2++[(B (!r2))=Z1,Qab Try.prog 79 [(I p1.Kind),(I 1),(I 12)] (B r5),Qa8 (B r5)=true]
  have AP4:Qb0 P4:=Qag AP2 ⟨(Qb5 c4),(Qj0 hr5),rfl,trivial⟩
  rcases itS h with ⟨c6,h⟩ | ⟨c7,h⟩
  ·obtain rfl:=sj h
   exact gR hP hn (H3++[hO 12 Z0]) [] .raw (P4++[(B (!r5))=Z0,Z1=Z1,Qa8 Z1=true]) (Qag AP4 ⟨(Qb5 c6),rfl,rfl,trivial⟩)
  ·obtain ⟨r8,hr8,h⟩:=bnS h
   let H5:List Hn:=H3++[hO 12 Z1,hh 15 (.callV [] (B r8))]
   let P6:List Prop:=P4++[(B (!r5))=Z1,Qab Try.prog 79 [(I p1.Obj),(I (-1)),(I 99)] (B r8),Qa8 (B r8)=true]
   have AP6:Qb0 P6:=Qag AP4 ⟨(Qb5 c7),(Qj0 hr8),rfl,trivial⟩
   rcases itS h with ⟨c9,h⟩ | ⟨c10,h⟩
   ·obtain rfl:=sj h
    exact gR hP hn (H5++[hO 18 Z0]) [] .raw (P6++[(B (!r8))=Z0,Z1=Z1,Qa8 Z1=true]) (Qag AP6 ⟨(Qb5 c9),rfl,rfl,trivial⟩)
   ·obtain ⟨r11,hr11,h⟩:=bnS h
    let H7:List Hn:=H5++[hO 18 Z1,hh 21 (.callV [] (B r11))]
    let P8:List Prop:=P6++[(B (!r8))=Z1,Qab Try.prog 79 [(I p1.Lock),(I (-1)),(I 99)] (B r11),Qa8 (B r11)=true]
    have AP8:Qb0 P8:=Qag AP6 ⟨(Qb5 c10),(Qj0 hr11),rfl,trivial⟩
    rcases itS h with ⟨c12,h⟩ | ⟨c13,h⟩
    ·obtain rfl:=sj h
     exact gR hP hn (H7++[hO 24 Z0]) [] .raw (P8++[(B (!r11))=Z0,Z1=Z1,Qa8 Z1=true]) (Qag AP8 ⟨(Qb5 c12),rfl,rfl,trivial⟩)
    ·obtain ⟨r14,hr14,h⟩:=bnS h
     let P9:List Prop:=P8++[(B (!r11))=Z1,Qab Try.prog 79 [(I p1.Pc),(I 0),(I 99)] (B r14),Qa8 (B r14)=true]
     have AP9:Qb0 P9:=Qag AP8 ⟨(Qb5 c13),(Qj0 hr14),rfl,trivial⟩
     rcases itS h with ⟨c15,h⟩ | ⟨c16,h⟩
     ·obtain rfl:=sj h
      exact gR hP hn (H7++[hO 24 Z1,hh 27 (.callV [] (B r14)),hT 30]) [] .raw (P9++[(!r14)=true,Z1=Z1,Qa8 Z1=true]) (Qag AP9 ⟨c15,rfl,rfl,trivial⟩)
     ·exact gT hP hn hx (H7++[hO 24 Z1,hh 27 (.callV [] (B r14)),hF 30]) [(1001,1)] [1] [] (P9++[(!r14)=false,Qa6 [(1001,1)] [((o71 p1))]]) (Qag AP9 ⟨c16,(rok rfl),trivial⟩) (Qky hP hn hx p1  _ h)
noncomputable def Xhq:Code:=match Try.f100.body with | some c=>c | none=>.skip
noncomputable def Qgf (p1:Qa5) : Option Bool:=
 Option.bind (Qeu p1) fun r2 =>
 some (!r2)
theorem Qo1 {p1:Qa5} {r:Bool} (h:Qgf p1=some r) : Qab Try.prog 100 [(AV.agg ((o71 p1)))] (B r):=by
 refine gM Try.func100 6 Xhq fun E hP hn hx=>?_
 unfold Qgf at h
 obtain ⟨r2,hr2,h⟩:=bnS h
 obtain rfl:=sj h
 exact gR hP hn [hW 0 1001,hh 3 (.callV [[]] (B r2))] [] .raw [Qab Try.prog 101 [(AV.agg ((o71 p1)))] (B r2),Qa8 (B r2)=true,(B (!r2))=(B (!r2)),Qa8 (B (!r2))=true] ⟨(Qnb hr2),rfl,rfl,rfl,trivial⟩
noncomputable def Xd4:Code:=match Try.f133.body with | some c=>c | none=>.skip
noncomputable def Qad  (p1:(List Qa5)) : Nat→Int→Option Int
 | 0,_=>none
 | n+1,v2 =>
 if (decide (v2<(p1.length:Int)))=true then
  Option.bind (rd p1 v2) fun x4 =>
  Option.bind (Qgf x4) fun r5 =>
  if r5=true then
   some v2
  else
   Qad p1 n (w64 (v2+1))
 else
  some (-1)
theorem Qdp {E:Env} (hP:E.pk=pk0 Try.prog) (hn:E.n=19) (hx:FX E []) (p1:(List Qa5))  : ∀ (n:Nat) (v2:Int) (r:Int),Qad p1 n v2=some r→WAt E Xd4 (FQ (Qdu Θ Try.f133.results.toList [] [] (I r) E)) [true,false,true,false] ⟨[(0,(AV.ro 5 (p1.map o71))),(1,(AV.fn 100 [])),(7,(I (p1.length:Int))),(8,(I v2))],[],[JJ]⟩:=by
 intro n
 induction n with
 | zero=>intro v2 r h;simp only [Qad] at h;cases h
 | succ n ih =>
  intro v2 r h
  simp only [Qad] at h
  let Z0:=(decide (v2<(p1.length:Int)))
  rcases itS h with ⟨c3,h⟩ | ⟨c8,h⟩
  ·obtain ⟨x4,hx4,h⟩:=bnS h
   obtain ⟨r5,hr5,h⟩:=bnS h
   let P1:List Prop:=[Z0=true,(0:Int)≤v2,(p1.map o71)[v2.toNat]? = some (o71 x4),Qab Try.prog 100 [(AV.agg ((o71 x4)))] (B r5),Qa8 (B r5)=true]
   have AP1:Qb0 P1:=⟨c3,(rd0 hx4),(rdM o71 hx4),(Qo1 hr5),rfl,trivial⟩
   rcases itS h with ⟨c6,h⟩ | ⟨c7,h⟩
   ·obtain rfl:=sj h
    exact gR hP hn [hT 1,hh 7 (.row (o71 x4)),hh 9 (.callV [[]] (B r5)),hT 10] [] .raw (P1++[r5=true,(I v2)=(I v2),Qa8 (I v2)=true]) (Qag AP1 ⟨c6,rfl,rfl,trivial⟩)
   ·exact gT hP hn hx [hT 1,hh 7 (.row (o71 x4)),hh 9 (.callV [[]] (B r5)),hF 10] [] [0,1,7,8] [] (P1++[r5=false]) (Qag AP1 ⟨c7,trivial⟩) (ih (w64 (v2+1)) _ h)
  ·obtain rfl:=sj h
   exact gR hP hn [hF 1] [] .raw [Z0=false,(I (-1))=(I (-1)),Qa8 (I (-1))=true] ⟨c8,rfl,rfl,trivial⟩
noncomputable def Qaz (p1:(List Qa5)) : Option Int:=
 Qad p1 FU 0
theorem Qe5 {p1:(List Qa5)} {r:Int} (h:Qaz p1=some r) : Qab Try.prog 133 [(AV.ro 5 (p1.map o71)),(AV.fn 100 [])] (I r):=by
 refine gM Try.func133 19 Xd4 fun E hP hn hx=>?_
 unfold Qaz at h
 exact (let Z0:=(I (p1.length:Int));gT hP hn hx [hO 2 Z0] [] [0,1,7,8] [] [AV.lit (.int .i64 (((p1.map o71).length:Nat) : Int))=Z0] ⟨(Qfn o71),trivial⟩ (Qdp hP hn hx p1 FU 0 _ h))
noncomputable def Xjq:Code:=match Try.f99.body with | some c=>c | none=>.skip
noncomputable def Qat (p1:(List Qa5)) : Option Bool:=
 Option.bind (Qaz p1) fun r2 =>
 some (decide (r2 ≥ 0))
theorem Qdj {p1:(List Qa5)} {r:Bool} (h:Qat p1=some r) : Qab Try.prog 99 [(AV.ro 5 (p1.map o71)),(AV.fn 100 [])] (B r):=by
 refine gM Try.func99 9 Xjq fun E hP hn hx=>?_
 unfold Qat at h
 obtain ⟨r2,hr2,h⟩:=bnS h
 obtain rfl:=sj h
 exact (let Z0:=B (decide (r2 ≥ 0));gR hP hn [hh 3 (.callV [] (I r2))] [] .raw [Qab Try.prog 133 [(AV.ro 5 (p1.map o71)),(AV.fn 100 [])] (I r2),Qa8 (I r2)=true,Z0=Z0,Qa8 Z0=true] ⟨(Qe5 hr2),rfl,rfl,rfl,trivial⟩)
noncomputable def Xld:Code:=match Try.f51.body with | some c=>c | none=>.skip
noncomputable def Qfi (p1:(List Qa5)) : Option Bool:=
 if (decide ((p1.length:Int)≤200))=true then
  Option.bind (Qat p1) fun r3 =>
  some (!r3)
 else
  some false
theorem Qi7 {p1:(List Qa5)} {r:Bool} (h:Qfi p1=some r) : Qab Try.prog 51 [(AV.ro 5 (p1.map o71))] (B r):=by
 refine gM Try.func51 11 Xld fun E hP hn hx=>?_
 unfold Qfi at h
 let Z0:=(I (p1.length:Int));let Z1:=(((p1.map o71).length:Nat) : Int);let Z2:=(B (decide ((p1.length:Int)≤200)));let Z3:=B false
 rcases itS h with ⟨c2,h⟩ | ⟨c4,h⟩
 ·obtain ⟨r3,hr3,h⟩:=bnS h
  obtain rfl:=sj h
  exact gR hP hn [hO 2 Z0,hO 4 (B true),hh 6 (.callV [] (B r3))] [] .raw [AV.lit (.int .i64 Z1)=Z0,Z2=(B true),Qab Try.prog 99 [(AV.ro 5 (p1.map o71)),(AV.fn 100 [])] (B r3),Qa8 (B r3)=true,(B (!r3))=(B (!r3)),Qa8 (B (!r3))=true] ⟨(Qfn o71),(Qb5 c2),(Qdj hr3),rfl,rfl,rfl,trivial⟩
 ·obtain rfl:=sj h
  exact gR hP hn [hO 2 Z0,hO 4 Z3] [] .raw [AV.lit (.int .i64 Z1)=Z0,Z2=Z3,Z3=Z3,Qa8 Z3=true] ⟨(Qfn o71),(Qb5 c4),rfl,rfl,trivial⟩
noncomputable def Xi5:Code:=match Try.f134.body with | some c=>c | none=>.skip
noncomputable def Qe0 (p1:Qa5) : Option Int:=
 if (p1.Kind == 5)=true then
  some p1.Obj
 else
  if (p1.Kind == 8)=true then
   some p1.Lock
  else
   some (-1)
theorem Qjh {p1:Qa5} {r:Int} (h:Qe0 p1=some r) : Qab Try.prog 134 [(AV.agg ((o71 p1)))] (I r):=by
 refine gM Try.func134 13 Xi5 fun E hP hn hx=>?_
 unfold Qe0 at h
 let Z0:=p1.Kind == 5
 rcases itS h with ⟨c2,h⟩ | ⟨c3,h⟩
 ·obtain rfl:=sj h
  exact gR hP hn [hW 0 1001,hT 6] [] .raw [Z0=true,(I p1.Obj)=(I p1.Obj),Qa8 (I p1.Obj)=true] ⟨c2,rfl,rfl,trivial⟩
 ·rcases itS h with ⟨c4,h⟩ | ⟨c5,h⟩
  ·obtain rfl:=sj h
   exact gR hP hn [hW 0 1001,hF 6,hT 9] [] .raw [Z0=false,(p1.Kind == 8)=true,(I p1.Lock)=(I p1.Lock),Qa8 (I p1.Lock)=true] ⟨c3,c4,rfl,rfl,trivial⟩
  ·obtain rfl:=sj h
   exact gR hP hn [hW 0 1001,hF 6,hF 9] [] .raw [Z0=false,(p1.Kind == 8)=false,(I (-1))=(I (-1)),Qa8 (I (-1))=true] ⟨c3,c5,rfl,rfl,trivial⟩
noncomputable def Xiv:Code:=match Try.f135.body with | some c=>c | none=>.skip
noncomputable def Qfa (p1:Qa5) : Option Int:=
 if (p1.Kind == 4)=true then
  some p1.Obj
 else
  if (p1.Kind == 9)=true then
   some p1.Lock
  else
   some (-1)
theorem Qo7 {p1:Qa5} {r:Int} (h:Qfa p1=some r) : Qab Try.prog 135 [(AV.agg ((o71 p1)))] (I r):=by
 refine gM Try.func135 13 Xiv fun E hP hn hx=>?_
 unfold Qfa at h
 let Z0:=p1.Kind == 4
 rcases itS h with ⟨c2,h⟩ | ⟨c3,h⟩
 ·obtain rfl:=sj h
  exact gR hP hn [hW 0 1001,hT 6] [] .raw [Z0=true,(I p1.Obj)=(I p1.Obj),Qa8 (I p1.Obj)=true] ⟨c2,rfl,rfl,trivial⟩
 ·rcases itS h with ⟨c4,h⟩ | ⟨c5,h⟩
  ·obtain rfl:=sj h
   exact gR hP hn [hW 0 1001,hF 6,hT 9] [] .raw [Z0=false,(p1.Kind == 9)=true,(I p1.Lock)=(I p1.Lock),Qa8 (I p1.Lock)=true] ⟨c3,c4,rfl,rfl,trivial⟩
  ·obtain rfl:=sj h
   exact gR hP hn [hW 0 1001,hF 6,hF 9] [] .raw [Z0=false,(p1.Kind == 9)=false,(I (-1))=(I (-1)),Qa8 (I (-1))=true] ⟨c3,c5,rfl,rfl,trivial⟩
noncomputable def Xcu:Code:=match Try.f102.body with | some c=>c | none=>.skip
noncomputable def Qg1  (p1:Qa5) (p2:Qa5)  : Option Bool:=
 if (p1.Kind == 6)=true then
  some (p1.Obj == p2.Thread)
 else
  if (p1.Kind == 11)=true then
   if (p2.Kind == 7)=true then
    some (p2.Obj == p1.Thread)
   else
    some false
  else
   if (p1.Kind == 10)=true then
    if (p2.Kind == 9)=true then
     some (p1.Lock == p2.Thread)
    else
     some false
   else
    some false
theorem Qlk {E:Env} (hP:E.pk=pk0 Try.prog) (hn:E.n=60) (hx:FX E []) (p1:Qa5) (p2:Qa5)   (r:Bool) (h:Qg1 p1 p2  = some r) : WAt E Xcu (FQ (Qdu Θ Try.f102.results.toList [] [] (B r) E)) [true,false,false,true,true] ⟨[(2,(AV.ptr 1 0 0)),(3,(AV.ptr 2 0 0))],[(1,some ⟨71,5,[((o71 p1))]⟩),(2,some ⟨71,5,[((o71 p2))]⟩)],[1,2,JJ]⟩:=by
 unfold Qg1 at h
 let Z0:=p1.Kind == 6;let Z1:=B (p1.Obj == p2.Thread);let Z2:=p1.Kind == 11;let Z3:=B (p2.Obj == p1.Thread);let Z4:=B false;let Z5:=p1.Kind == 10;let Z6:=B (p1.Lock == p2.Thread)
 rcases itS h with ⟨c11,h⟩ | ⟨c12,h⟩
 ·obtain rfl:=sj h
  exact gR hP hn [hT 4] [] .raw [Z0=true,Z1=Z1,Qa8 Z1=true] ⟨c11,rfl,rfl,trivial⟩
 ·rcases itS h with ⟨c13,h⟩ | ⟨c16,h⟩
  ·rcases itS h with ⟨c14,h⟩ | ⟨c15,h⟩
   ·obtain rfl:=sj h
    exact gR hP hn [hF 4,hT 9,hO 13 (B true)] [] .raw [Z0=false,Z2=true,(B (p2.Kind == 7))=(B true),Z3=Z3,Qa8 Z3=true] ⟨c12,c13,(Qb5 c14),rfl,rfl,trivial⟩
   ·obtain rfl:=sj h
    exact gR hP hn [hF 4,hT 9,hO 13 Z4] [] .raw [Z0=false,Z2=true,(B (p2.Kind == 7))=Z4,Z4=Z4,Qa8 Z4=true] ⟨c12,c13,(Qb5 c15),rfl,rfl,trivial⟩
  ·let P1:List Prop:=[Z0=false,Z2=false]
   have AP1:Qb0 P1:=⟨c12,c16,trivial⟩
   rcases itS h with ⟨c17,h⟩ | ⟨c20,h⟩
   ·rcases itS h with ⟨c18,h⟩ | ⟨c19,h⟩
    ·obtain rfl:=sj h
     exact gR hP hn [hF 4,hF 9,hT 14,hO 18 (B true)] [] .raw (P1++[Z5=true,(B (p2.Kind == 9))=(B true),Z6=Z6,Qa8 Z6=true]) (Qag AP1 ⟨c17,(Qb5 c18),rfl,rfl,trivial⟩)
    ·obtain rfl:=sj h
     exact gR hP hn [hF 4,hF 9,hT 14,hO 18 Z4] [] .raw (P1++[Z5=true,(B (p2.Kind == 9))=Z4,Z4=Z4,Qa8 Z4=true]) (Qag AP1 ⟨c17,(Qb5 c19),rfl,rfl,trivial⟩)
   ·obtain rfl:=sj h
    exact gR hP hn [hF 4,hF 9,hF 14] [] .raw (P1++[Z5=false,Z4=Z4,Qa8 Z4=true]) (Qag AP1 ⟨c20,rfl,rfl,trivial⟩)
noncomputable def Qk7 (p1:Qa5) (p2:Qa5) : Option Bool:=
 if (p1.Thread == p2.Thread)=true then
  some true
 else
  Option.bind (Qe0 p1) fun r5 =>
  if (decide (r5 ≥ 0))=true then
   Option.bind (Qe0 p1) fun r7 =>
   Option.bind (Qfa p2) fun r8 =>
   if (r7 == r8)=true then
    some true
   else
    Qg1 p1 p2
  else
   Qg1 p1 p2
theorem Qw9 {p1:Qa5} {p2:Qa5} {r:Bool} (h:Qk7 p1 p2=some r) : Qab Try.prog 102 [(AV.agg ((o71 p1))),(AV.agg ((o71 p2)))] (B r):=by
 refine gM Try.func102 60 Xcu fun E hP hn hx=>?_
 unfold Qk7 at h
 let Z0:=B true;let Z1:=B (p1.Thread == p2.Thread);let Z2:=[(AV.agg ((o71 p1)))]
 rcases itS h with ⟨c3,h⟩ | ⟨c4,h⟩
 ·obtain rfl:=sj h
  exact gR hP hn [hW 0 1001,hW 1 1002,hO 8 Z0] [] .raw [Z1=Z0,Z0=Z0,Qa8 Z0=true] ⟨(Qb5 c3),rfl,rfl,trivial⟩
 ·obtain ⟨r5,hr5,h⟩:=bnS h
  let Z3:=B (decide (r5 ≥ 0))
  let H1:List Hn:=[hW 0 1001,hW 1 1002,hO 8 (B false),hh 10 (.callV [[]] (I r5))]
  let P2:List Prop:=[Z1=(B false),Qab Try.prog 134 Z2 (I r5),Qa8 (I r5)=true]
  have AP2:Qb0 P2:=⟨(Qb5 c4),(Qjh hr5),rfl,trivial⟩
  rcases itS h with ⟨c6,h⟩ | ⟨c21,h⟩
  ·obtain ⟨r7,hr7,h⟩:=bnS h
   obtain ⟨r8,hr8,h⟩:=bnS h
   let H3:List Hn:=H1++[hO 12 Z0,hh 14 (.callV [[]] (I r7)),hh 16 (.callV [[]] (I r8))]
   let P4:List Prop:=P2++[Z3=Z0,Qab Try.prog 134 Z2 (I r7),Qa8 (I r7)=true,Qab Try.prog 135 [(AV.agg ((o71 p2)))] (I r8),Qa8 (I r8)=true]
   have AP4:Qb0 P4:=Qag AP2 ⟨(Qb5 c6),(Qjh hr7),rfl,(Qo7 hr8),rfl,trivial⟩
   rcases itS h with ⟨c9,h⟩ | ⟨c10,h⟩
   ·obtain rfl:=sj h
    exact gR hP hn (H3++[hT 21]) [] .raw (P4++[(r7 == r8)=true,Z0=Z0,Qa8 Z0=true]) (Qag AP4 ⟨c9,rfl,rfl,trivial⟩)
   ·exact gT hP hn hx (H3++[hF 21]) [(1001,1),(1002,2)] [2,3] [] (P4++[(r7 == r8)=false,Qa6 [(1001,1),(1002,2)] [((o71 p1))],Qa6 [(1001,1),(1002,2)] [((o71 p2))]]) (Qag AP4 ⟨c10,(rok rfl),(rok rfl),trivial⟩) (Qlk hP hn hx p1 p2  _ h)
  ·exact gT hP hn hx (H1++[hO 12 (B false)]) [(1001,1),(1002,2)] [2,3] [] (P2++[Z3=(B false),Qa6 [(1001,1),(1002,2)] [((o71 p1))],Qa6 [(1001,1),(1002,2)] [((o71 p2))]]) (Qag AP2 ⟨(Qb5 c21),(rok rfl),(rok rfl),trivial⟩) (Qlk hP hn hx p1 p2  _ h)
noncomputable def Xdi:Code:=match Try.f129.body with | some c=>c | none=>.skip
noncomputable def Qbm   : Nat→(Vector Int 4)→(Vector Int 4)→(Vector Int 4)→Int→Option (Vector Int 4)
 | 0,_,_,_,_=>none
 | n+1,a3,a4,a5,v6 =>
 if (decide (v6<4))=true then
  Option.bind (rdv a3 v6) fun x8 =>
  Option.bind (rdv a4 v6) fun x9 =>
  Option.bind (rdv a3 v6) fun x10 =>
  Qbm n (a3.setIfInBounds (Int.toNat v6) (ior .u64 x8 x9)) a4 a5 (w64 (v6+1))
 else
  some a3
theorem Qko {E:Env} (hP:E.pk=pk0 Try.prog) (hn:E.n=19) (hx:FX E [])   : ∀ (n:Nat) (a3:(Vector Int 4)) (a4:(Vector Int 4)) (a5:(Vector Int 4)) (v6:Int) (r:(Vector Int 4)),Qbm  n a3 a4 a5 v6=some r→WAt E Xdi (FQ (Qdu Θ Try.f129.results.toList [] [] (AV.agg (Qct r)) E)) [true,false,true,false] ⟨[(2,(AV.ptr 1 0 0)),(3,(AV.ptr 2 0 0)),(4,(AV.ptr 3 0 0)),(6,(I v6))],[(1,some ⟨104,4,[((Qct a3))]⟩),(2,some ⟨104,4,[((Qct a4))]⟩),(3,some ⟨104,4,[((Qct a5))]⟩)],[1,2,3,JJ]⟩:=by
 intro n
 induction n with
 | zero=>intro a3 a4 a5 v6 r h;simp only [Qbm] at h;cases h
 | succ n ih =>
  intro a3 a4 a5 v6 r h
  simp only [Qbm] at h
  let Z0:=Qct a3;let Z1:=Qct a4;let Z2:=((4:Nat) : Int);let Z3:=Qct a5
  rcases itS h with ⟨c7,h⟩ | ⟨c11,h⟩
  ·obtain ⟨x8,hx8,h⟩:=bnS h
   obtain ⟨x9,hx9,h⟩:=bnS h
   obtain ⟨x10,hx10,h⟩:=bnS h
   exact gT hP hn hx [hT 1,hh 6 (.cel Z0 (IK .u64 x8)),hh 9 (.cel Z1 (IK .u64 x9)),hh 12 (.sto Z0 [((Qct (a3.setIfInBounds v6.toNat (ior .u64 x8 x9))))])] [(1,1),(2,2),(3,3)] [2,3,4,6] [] [(decide (v6<4))=true,(0:Int)≤v6,v6<Z2,Z0[v6.toNat]? = some (IK .u64 x8),[Z0][0]? = some Z0,(0:Int)≤v6,v6<Z2,Z1[v6.toNat]? = some (IK .u64 x9),[Z1][0]? = some Z1,(0:Int)≤v6,v6<Z2,[Z0][0]? = some Z0,[Z0].set 0 (wr Z0 v6.toNat [(IK .u64 (ior .u64 x8 x9))])=[((Qct (a3.setIfInBounds v6.toNat (ior .u64 x8 x9))))],[(IK .u64 (ior .u64 x8 x9))].length=1,v6.toNat + [(IK .u64 (ior .u64 x8 x9))].length≤Z0.length,Qa6 [(1,1),(2,2),(3,3)] [((Qct (a3.setIfInBounds v6.toNat (ior .u64 x8 x9))))],Qa6 [(1,1),(2,2),(3,3)] [Z1],Qa6 [(1,1),(2,2),(3,3)] [Z3]] ⟨c7,(rv0 hx8),(rvL hx8),(rvM k86 hx8),rfl,(rv0 hx9),(rvL hx9),(rvM k86 hx9),rfl,(rv0 hx10),(rvL hx10),rfl,(Xkv k86 _ (rvLt hx10)),rfl,(Xk4 k86 hx10),(rok (Qb1 Qsk (a3.setIfInBounds v6.toNat (ior .u64 x8 x9)))),(rok (Qb1 Qsk a4)),(rok (Qb1 Qsk a5)),trivial⟩ (ih (a3.setIfInBounds v6.toNat (ior .u64 x8 x9)) a4 a5 (w64 (v6+1)) _ h)
  ·obtain rfl:=sj h
   exact gR hP hn [hF 1,hh 2 (.agg Z0 Z0),hh 3 (.stoS Z3 [Z0])] [.agg Z0 Z0] .raw [(decide (v6<4))=false,0+4≤Z0.length,(Z0.drop 0).take 4=Z0,Z0.all AV.plain=true,[Z0][0]? = some Z0,[Z3][0]? = some Z3,[Z3].set 0 (wr Z3 0 Z0)=[Z0],Z0.length=4,0+Z0.length≤Z3.length,Z0.all Qjb=true,0+4≤Z0.length,(Z0.drop 0).take 4=Z0,Z0.all AV.plain=true,[Z0][0]? = some Z0,(AV.agg Z0)=(AV.agg Z0),Qa8 (AV.agg Z0)=true] ⟨c11,(Qnt k86),(Qor k86),(Qu8 _),rfl,rfl,(Xie k86 k86),(Qq9 k86),(Xg1 k86 k86),(Qji k86 (fun _=>rfl)),(Qnt k86),(Qor k86),(Qu8 _),rfl,rfl,(Xac k86 (fun _=>rfl)),trivial⟩
noncomputable def Qeb (p1:(Vector Int 4)) (p2:(Vector Int 4)) : Option (Vector Int 4):=
 Qbm FU p1 p2 (Vector.replicate 4 0) 0
theorem Qmh {p1:(Vector Int 4)} {p2:(Vector Int 4)} {r:(Vector Int 4)} (h:Qeb p1 p2=some r) : Qab Try.prog 129 [(AV.agg ((Qct p1))),(AV.agg ((Qct p2)))] (AV.agg (Qct r)):=by
 refine gM Try.func129 19 Xdi fun E hP hn hx=>?_
 unfold Qeb at h
 exact (let Z0:=Qct p1;let Z1:=Qct p2;let Z2:=Qct (Vector.replicate 4 0);gT hP hn hx [hh 0 (.nw 1001 [Z0]),hh 1 (.nw 1002 [Z1]),hh 2 (.nw 1003 [Z2])] [(1001,1),(1002,2),(1003,3)] [2,3,4,6] [] [[Z0]=[Z0],Z0.length=4,Z0.all Qjb=true,0<Z0.length,[Z1]=[Z1],Z1.length=4,Z1.all Qjb=true,0<Z1.length,[Qp2 [.int .u64 0,.int .u64 0,.int .u64 0,.int .u64 0]]=[Z2],Qa6 [(1001,1),(1002,2),(1003,3)] [Z0],Qa6 [(1001,1),(1002,2),(1003,3)] [Z1],Qa6 [(1001,1),(1002,2),(1003,3)] [Z2]] ⟨rfl,(Qq9 k86),(Qji k86 (fun _=>rfl)),(Qzj k86 (by decide)),rfl,(Qq9 k86),(Qji k86 (fun _=>rfl)),(Qzj k86 (by decide)),rfl,(rok (Qb1 Qsk p1)),(rok (Qb1 Qsk p2)),(rok (Qb1 Qsk (Vector.replicate 4 0))),trivial⟩ (Qko hP hn hx FU p1 p2 (Vector.replicate 4 0) 0 _ h))
noncomputable def Xhm:Code:=match Try.f128.body with | some c=>c | none=>.skip
noncomputable def Qfb (p1:(Vector Int 4)) (p2:Int) : Option (Vector Int 4):=
 Option.bind (rdv p1 (w64 (Int.tdiv p2 64))) fun x3 =>
 Option.bind (ge0 (Int.tmod p2 64)) fun q4 =>
 Option.bind (rdv p1 (w64 (Int.tdiv p2 64))) fun x5 =>
 some (p1.setIfInBounds (Int.toNat (w64 (Int.tdiv p2 64))) (ior .u64 x3 (IntKind.wrap .u64 (1 * 2 ^ (min (Int.toNat (Int.tmod p2 64)) 64)))))
theorem Qo9 {p1:(Vector Int 4)} {p2:Int} {r:(Vector Int 4)} (h:Qfb p1 p2=some r) : Qab Try.prog 128 [(AV.agg ((Qct p1))),(I p2)] (AV.agg (Qct r)):=by
 refine gM Try.func128 15 Xhm fun E hP hn hx=>?_
 unfold Qfb at h
 obtain ⟨x3,hx3,h⟩:=bnS h
 obtain ⟨q4,hq4,h⟩:=bnS h
 obtain ⟨x5,hx5,h⟩:=bnS h
 obtain rfl:=sj h
 exact (let Z0:=Qct p1;let Z1:=Qct (Vector.replicate 4 0);let Z2:=w64 (Int.tdiv p2 64);let Z3:=min (Int.tmod p2 64).toNat 64;gR hP hn [hh 0 (.nw 1001 [Z0]),hh 1 (.nw 1002 [Z1]),hh 5 (.cel Z0 (IK .u64 x3)),hh 11 (.sto Z0 [((Qct (p1.setIfInBounds Z2.toNat (ior .u64 x3 (IntKind.wrap .u64 (1 * 2 ^ Z3))))))]),hh 12 (.agg ((Qct (p1.setIfInBounds Z2.toNat (ior .u64 x3 (IntKind.wrap .u64 (1 * 2 ^ Z3)))))) ((Qct (p1.setIfInBounds Z2.toNat (ior .u64 x3 (IntKind.wrap .u64 (1 * 2 ^ Z3))))))),hh 13 (.stoS Z1 [((Qct (p1.setIfInBounds Z2.toNat (ior .u64 x3 (IntKind.wrap .u64 (1 * 2 ^ Z3))))))])] [.agg ((Qct (p1.setIfInBounds Z2.toNat (ior .u64 x3 (IntKind.wrap .u64 (1 * 2 ^ Z3)))))) ((Qct (p1.setIfInBounds Z2.toNat (ior .u64 x3 (IntKind.wrap .u64 (1 * 2 ^ Z3))))))] .raw [[Z0]=[Z0],Z0.length=4,Z0.all Qjb=true,0<Z0.length,[Qp2 [.int .u64 0,.int .u64 0,.int .u64 0,.int .u64 0]]=[Z1],64≠(0:Int),(0:Int)≤Z2,Z2<((4:Nat) : Int),Z0[Z2.toNat]? = some (IK .u64 x3),[Z0][0]? = some Z0,64≠(0:Int),¬ (Int.tmod p2 64)<(0:Int),(0:Int)≤Z2,Z2<((4:Nat) : Int),[Z0][0]? = some Z0,[Z0].set 0 (wr Z0 Z2.toNat [(IK .u64 (ior .u64 x3 (IntKind.wrap .u64 (1 * 2 ^ Z3))))])=[((Qct (p1.setIfInBounds Z2.toNat (ior .u64 x3 (IntKind.wrap .u64 (1 * 2 ^ Z3))))))],[(IK .u64 (ior .u64 x3 (IntKind.wrap .u64 (1 * 2 ^ Z3))))].length=1,Z2.toNat + [(IK .u64 (ior .u64 x3 (IntKind.wrap .u64 (1 * 2 ^ Z3))))].length≤Z0.length,0+4≤((Qct (p1.setIfInBounds Z2.toNat (ior .u64 x3 (IntKind.wrap .u64 (1 * 2 ^ Z3)))))).length,(((Qct (p1.setIfInBounds Z2.toNat (ior .u64 x3 (IntKind.wrap .u64 (1 * 2 ^ Z3)))))).drop 0).take 4=((Qct (p1.setIfInBounds Z2.toNat (ior .u64 x3 (IntKind.wrap .u64 (1 * 2 ^ Z3)))))),((Qct (p1.setIfInBounds Z2.toNat (ior .u64 x3 (IntKind.wrap .u64 (1 * 2 ^ Z3)))))).all AV.plain=true,[((Qct (p1.setIfInBounds Z2.toNat (ior .u64 x3 (IntKind.wrap .u64 (1 * 2 ^ Z3))))))][0]? = some ((Qct (p1.setIfInBounds Z2.toNat (ior .u64 x3 (IntKind.wrap .u64 (1 * 2 ^ Z3)))))),[Z1][0]? = some Z1,[Z1].set 0 (wr Z1 0 ((Qct (p1.setIfInBounds Z2.toNat (ior .u64 x3 (IntKind.wrap .u64 (1 * 2 ^ Z3)))))))=[((Qct (p1.setIfInBounds Z2.toNat (ior .u64 x3 (IntKind.wrap .u64 (1 * 2 ^ Z3))))))],((Qct (p1.setIfInBounds Z2.toNat (ior .u64 x3 (IntKind.wrap .u64 (1 * 2 ^ Z3)))))).length=4,0+((Qct (p1.setIfInBounds Z2.toNat (ior .u64 x3 (IntKind.wrap .u64 (1 * 2 ^ Z3)))))).length≤Z1.length,((Qct (p1.setIfInBounds Z2.toNat (ior .u64 x3 (IntKind.wrap .u64 (1 * 2 ^ Z3)))))).all Qjb=true,0+4≤((Qct (p1.setIfInBounds Z2.toNat (ior .u64 x3 (IntKind.wrap .u64 (1 * 2 ^ Z3)))))).length,(((Qct (p1.setIfInBounds Z2.toNat (ior .u64 x3 (IntKind.wrap .u64 (1 * 2 ^ Z3)))))).drop 0).take 4=((Qct (p1.setIfInBounds Z2.toNat (ior .u64 x3 (IntKind.wrap .u64 (1 * 2 ^ Z3)))))),((Qct (p1.setIfInBounds Z2.toNat (ior .u64 x3 (IntKind.wrap .u64 (1 * 2 ^ Z3)))))).all AV.plain=true,[((Qct (p1.setIfInBounds Z2.toNat (ior .u64 x3 (IntKind.wrap .u64 (1 * 2 ^ Z3))))))][0]? = some ((Qct (p1.setIfInBounds Z2.toNat (ior .u64 x3 (IntKind.wrap .u64 (1 * 2 ^ Z3)))))),(AV.agg ((Qct (p1.setIfInBounds Z2.toNat (ior .u64 x3 (IntKind.wrap .u64 (1 * 2 ^ Z3)))))))=(AV.agg ((Qct (p1.setIfInBounds Z2.toNat (ior .u64 x3 (IntKind.wrap .u64 (1 * 2 ^ Z3))))))),Qa8 (AV.agg ((Qct (p1.setIfInBounds Z2.toNat (ior .u64 x3 (IntKind.wrap .u64 (1 * 2 ^ Z3)))))))=true] ⟨rfl,(Qq9 k86),(Qji k86 (fun _=>rfl)),(Qzj k86 (by decide)),rfl,(by decide),(rv0 hx3),(rvL hx3),(rvM k86 hx3),rfl,(by decide),(ge0E hq4),(rv0 hx5),(rvL hx5),rfl,(Xkv k86 _ (rvLt hx5)),rfl,(Xk4 k86 hx5),(Qnt k86),(Qor k86),(Qu8 _),rfl,rfl,(Xie k86 k86),(Qq9 k86),(Xg1 k86 k86),(Qji k86 (fun _=>rfl)),(Qnt k86),(Qor k86),(Qu8 _),rfl,rfl,(Xac k86 (fun _=>rfl)),trivial⟩)
noncomputable def Qz6:Code:=match Try.f90.body with | some c=>c | none=>.skip
noncomputable def Qby (K0:(List (Vector Int 4))→Int→Option (List (Vector Int 4))) (p1:(List Qa5)) (v4:Int) : Nat→(List (Vector Int 4))→Int→Option (List (Vector Int 4))
 | 0,_,_=>none
 | n+1,a6,v7 =>
 if (decide (v7<v4))=true then
  Option.bind (rd p1 v7) fun x9 =>
  Option.bind (rd p1 v4) fun x10 =>
  Option.bind (Qk7 x9 x10) fun r11 =>
  if r11=true then
   Option.bind (rd a6 v4) fun x13 =>
   Option.bind (Qfb x13 v7) fun r14 =>
   Option.bind (rd a6 v7) fun x15 =>
   Option.bind (Qeb r14 x15) fun r16 =>
   Qby K0 p1 v4 n (a6.set (Int.toNat v4) r16) (w64 (v7+1))
  else
   Qby K0 p1 v4 n a6 (w64 (v7+1))
 else
  K0 a6 (w64 (v4+1))
theorem Qps {E:Env} (hP:E.pk=pk0 Try.prog) (hn:E.n=44) (hx:FX E []) (p1:(List Qa5)) (v4:Int) {K0:(List (Vector Int 4))→Int→Option (List (Vector Int 4))} (hK0 : ∀ (a3:(List (Vector Int 4))) (v4:Int) (r:(List (Vector Int 4))),K0 a3 v4=some r→WAt E Qz6 (FQ (Qdu Θ Try.f90.results.toList [] [] (AV.own 104 4 (r.map Qct)) E)) [true,true,false,true,false] ⟨[(0,(AV.ro 5 (p1.map o71))),(3,(AV.sl 1 0 (List.length (a3.map Qct)))),(10,(I (p1.length:Int))),(11,(I v4))],[(1,some ⟨104,4,(a3.map Qct)⟩)],[1,JJ]⟩) : ∀ (n:Nat) (a6:(List (Vector Int 4))) (v7:Int) (r:(List (Vector Int 4))),Qby K0 p1 v4 n a6 v7=some r→WAt E Qz6 (FQ (Qdu Θ Try.f90.results.toList [] [] (AV.own 104 4 (r.map Qct)) E)) [true,true,false,true,false,false,true,true,false,false,true,true,false] ⟨[(0,(AV.ro 5 (p1.map o71))),(3,(AV.sl 1 0 (List.length (a6.map Qct)))),(4,(I v4)),(10,(I (p1.length:Int))),(11,(I v4)),(14,(I v4)),(15,(I v7))],[(1,some ⟨104,4,(a6.map Qct)⟩)],[1,JJ]⟩:=by
 intro n
 induction n with
 | zero=>intro a6 v7 r h;simp only [Qby] at h;cases h
 | succ n ih =>
  intro a6 v7 r h
  simp only [Qby] at h
  let Z6:=a6.map Qct;let Z7:=((Z6.length:Nat) : Int)
  rcases itS h with ⟨c8,h⟩ | ⟨c18,h⟩
  ·obtain ⟨x9,hx9,h⟩:=bnS h
   obtain ⟨x10,hx10,h⟩:=bnS h
   obtain ⟨r11,hr11,h⟩:=bnS h
   let H1:List Hn:=[hT 1,hh 6 (.row (o71 x9)),hh 10 (.row (o71 x10)),hh 12 (.callV [[],[]] (B r11))]
   let P2:List Prop:=[(decide (v7<v4))=true,(0:Int)≤v7,(p1.map o71)[v7.toNat]? = some (o71 x9),(0:Int)≤v4,(p1.map o71)[v4.toNat]? = some (o71 x10),Qab Try.prog 102 [(AV.agg ((o71 x9))),(AV.agg ((o71 x10)))] (B r11),Qa8 (B r11)=true]
   have AP2:Qb0 P2:=⟨c8,(rd0 hx9),(rdM o71 hx9),(rd0 hx10),(rdM o71 hx10),(Qw9 hr11),rfl,trivial⟩
   rcases itS h with ⟨c12,h⟩ | ⟨c17,h⟩
   ·obtain ⟨x13,hx13,h⟩:=bnS h
    obtain ⟨r14,hr14,h⟩:=bnS h
    obtain ⟨x15,hx15,h⟩:=bnS h
    obtain ⟨r16,hr16,h⟩:=bnS h
    exact (let Z0:=Qct x13;let Z1:=AV.agg (Qct r14);let Z2:=Qct x15;let Z3:=AV.agg (Qct r16);let Z4:=a6.set v4.toNat r16;let Z5:=Z4.map Qct;let Z8:=Qct r16;gT hP hn hx (H1++[hT 13,hh 19 (.agg Z0 Z0),hh 21 (.callV [[[AV.dead]]] Z1),hh 25 (.agg Z2 Z2),hh 26 (.callV [[[AV.dead]],[[AV.dead]]] Z3),hh 28 (.stoS Z0 Z5),hh 31 (.slen 3 Z5.length)]) [(1,1)] [0,3,4,10,11,14,15] [] (P2++[r11=true,(0:Int)≤v4,v4<Z7,0+4≤Z0.length,(Z0.drop 0).take 4=Z0,Z0.all AV.plain=true,Z6[v4.toNat]? = some Z0,Qab Try.prog 128 [(AV.agg Z0),(I v7)] Z1,Qa8 Z1=true,Z0.all Qjb=true,(0:Int)≤v7,v7<Z7,0+4≤Z2.length,(Z2.drop 0).take 4=Z2,Z2.all AV.plain=true,Z6[v7.toNat]? = some Z2,Qab Try.prog 129 [(AV.agg ((Qct r14))),(AV.agg Z2)] Z3,Qa8 Z3=true,((Qct r14)).all Qjb=true,Z2.all Qjb=true,(0:Int)≤v4,v4<Z7,Z6[v4.toNat]? = some Z0,Z6.set v4.toNat (wr Z0 0 Z8)=Z5,Z8.length=4,0+Z8.length≤Z0.length,Z8.all Qjb=true,Z6.length=Z5.length,Qa6 [(1,1)] Z5]) (Qag AP2 ⟨c12,(rd0 hx13),(rdL Qct hx13),(Qnt k86),(Qor k86),(Qu8 _),(rdM Qct hx13),(Qo9 hr14),(Xac k86 (fun _=>rfl)),(Qji k86 (fun _=>rfl)),(rd0 hx15),(rdL Qct hx15),(Qnt k86),(Qor k86),(Qu8 _),(rdM Qct hx15),(Qmh hr16),(Xac k86 (fun _=>rfl)),(Qji k86 (fun _=>rfl)),(Qji k86 (fun _=>rfl)),(rd0 hx13),(rdL Qct hx13),(rdM Qct hx13),(setV k86 (fun _=>rfl)),(Qq9 k86),(Xg1 k86 k86),(Qji k86 (fun _=>rfl)),lnq,(rok (Qa7 Qsk)),trivial⟩) (ih Z4 (w64 (v7+1)) _ h))
   ·exact gT hP hn hx (H1++[hF 13]) [(1,1)] [0,3,4,10,11,14,15] [] (P2++[r11=false,Qa6 [(1,1)] Z6]) (Qag AP2 ⟨c17,(rok (Qa7 Qsk)),trivial⟩) (ih a6 (w64 (v7+1)) _ h)
  ·exact gT hP hn hx [hF 1] [(1,1)] [0,3,10,11] [] [(decide (v7<v4))=false,Qa6 [(1,1)] Z6] ⟨c18,(rok (Qa7 Qsk)),trivial⟩ (hK0 a6 (w64 (v4+1)) _ h)
noncomputable def Qbx  (p1:(List Qa5)) : Nat→(List (Vector Int 4))→Int→Option (List (Vector Int 4))
 | 0,_,_=>none
 | n+1,a3,v4 =>
 if (decide (v4<(p1.length:Int)))=true then
  Qby (Qbx p1 n) p1 v4 FU a3 0
 else
  some a3
theorem Qp7 {E:Env} (hP:E.pk=pk0 Try.prog) (hn:E.n=44) (hx:FX E []) (p1:(List Qa5))  : ∀ (n:Nat) (a3:(List (Vector Int 4))) (v4:Int) (r:(List (Vector Int 4))),Qbx p1 n a3 v4=some r→WAt E Qz6 (FQ (Qdu Θ Try.f90.results.toList [] [] (AV.own 104 4 (r.map Qct)) E)) [true,true,false,true,false] ⟨[(0,(AV.ro 5 (p1.map o71))),(3,(AV.sl 1 0 (List.length (a3.map Qct)))),(10,(I (p1.length:Int))),(11,(I v4))],[(1,some ⟨104,4,(a3.map Qct)⟩)],[1,JJ]⟩:=by
 intro n
 induction n with
 | zero=>intro a3 v4 r h;simp only [Qbx] at h;cases h
 | succ n ih =>
  intro a3 v4 r h
  simp only [Qbx] at h
  let Z0:=(decide (v4<(p1.length:Int)));let Z1:=a3.map Qct
  rcases itS h with ⟨c5,h⟩ | ⟨c19,h⟩
  ·exact gT hP hn hx [hT 1] [(1,1)] [0,3,4,10,11,14,15] [] [Z0=true,Qa6 [(1,1)] Z1] ⟨c5,(rok (Qa7 Qsk)),trivial⟩ (Qps hP hn hx p1 v4 ih FU a3 0 _ h)
  ·obtain rfl:=sj h
   exact gR hP hn [hF 1] [] .own [Z0=false,Qa1 (Z1.take Z1.length)=true,Z1.take Z1.length=Z1,Qa4 Z1=true] ⟨c19,(Qay Qsk),Qax,(Qaa n104),trivial⟩
noncomputable def Qgo (p1:(List Qa5)) : Option (List (Vector Int 4)):=
 Option.bind (mk (Vector.replicate 4 0) (p1.length:Int)) fun l2 =>
 Qbx p1 FU l2 0
theorem Qmp {p1:(List Qa5)} {r:(List (Vector Int 4))} (h:Qgo p1=some r) : Qab Try.prog 90 [(AV.ro 5 (p1.map o71))] (AV.own 104 4 (r.map Qct)):=by
 refine gM Try.func90 44 Qz6 fun E hP hn hx=>?_
 unfold Qgo at h
 obtain ⟨l2,hl2,h⟩:=bnS h
 exact (let Z0:=(p1.length:Int);let Z1:=l2.map Qct;let Z2:=AV.sl 1001 0 Z1.length;let Z3:=(((p1.map o71).length:Nat) : Int);gT hP hn hx [hO 2 (I Z0),⟨3,.nw 1001 Z1,some Z2⟩,hO 6 (I Z0)] [(1001,1)] [0,3,10,11] [] [AV.lit (.int .i64 Z3)=(I Z0),List.replicate Z0.toNat [.lit (.int .u64 0),.lit (.int .u64 0),.lit (.int .u64 0),.lit (.int .u64 0)]=Z1,AV.sl 1001 0 Z0.toNat=Z2,Z0=Z0,(0:Int)≤Z0,Z0 * ((32:Nat) : Int)≤140737488355328,Z0≤140737488355328,AV.lit (.int .i64 Z3)=(I Z0),Qa6 [(1001,1)] Z1] ⟨(Qfn o71),(mkM Qct hl2),(mkS Qct hl2),rfl,(mk0 hl2),(mkB hl2 (by decide)),(mkC hl2),(Qfn o71),(rok (Qa7 Qsk)),trivial⟩ (Qp7 hP hn hx p1 FU l2 0 _ h))
noncomputable def Xli:Code:=match Try.f91.body with | some c=>c | none=>.skip
noncomputable def Qeo (p1:(Vector Int 4)) (p2:Int) : Option Bool:=
 Option.bind (rdv p1 (w64 (Int.tdiv p2 64))) fun x3 =>
 Option.bind (ge0 (Int.tmod p2 64)) fun q4 =>
 some ((Xbn .u64 (Int.fdiv x3 (2 ^ (min (Int.toNat (Int.tmod p2 64)) 64))) 1) == 1)
theorem Qk5 {p1:(Vector Int 4)} {p2:Int} {r:Bool} (h:Qeo p1 p2=some r) : Qab Try.prog 91 [(AV.agg ((Qct p1))),(I p2)] (B r):=by
 refine gM Try.func91 14 Xli fun E hP hn hx=>?_
 unfold Qeo at h
 obtain ⟨x3,hx3,h⟩:=bnS h
 obtain ⟨q4,hq4,h⟩:=bnS h
 obtain rfl:=sj h
 exact (let Z0:=Qct p1;let Z1:=w64 (Int.tdiv p2 64);let Z2:=min (Int.tmod p2 64).toNat 64;gR hP hn [hh 0 (.nw 1001 [Z0]),hh 5 (.cel Z0 (IK .u64 x3))] [] .raw [[Z0]=[Z0],Z0.length=4,Z0.all Qjb=true,0<Z0.length,64≠(0:Int),(0:Int)≤Z1,Z1<((4:Nat) : Int),Z0[Z1.toNat]? = some (IK .u64 x3),[Z0][0]? = some Z0,64≠(0:Int),¬ (Int.tmod p2 64)<(0:Int),(B ((Xbn .u64 (Int.fdiv x3 (2 ^ Z2)) 1) == 1))=(B ((Xbn .u64 (Int.fdiv x3 (2 ^ Z2)) 1) == 1)),Qa8 (B ((Xbn .u64 (Int.fdiv x3 (2 ^ Z2)) 1) == 1))=true] ⟨rfl,(Qq9 k86),(Qji k86 (fun _=>rfl)),(Qzj k86 (by decide)),(by decide),(rv0 hx3),(rvL hx3),(rvM k86 hx3),rfl,(by decide),(ge0E hq4),rfl,rfl,trivial⟩)
noncomputable def Xjo:Code:=match Try.f95.body with | some c=>c | none=>.skip
noncomputable def Qh2 (p1:(List Qa5)) (p2:Int) : Option Bool:=
 Option.bind (Qi8 p2 0 (w64 ((p1.length:Int) - 1))) fun r3 =>
 some r3
theorem Qlp {p1:(List Qa5)} {p2:Int} {r:Bool} (h:Qh2 p1 p2=some r) : Qab Try.prog 95 [(AV.ro 5 (p1.map o71)),(I p2)] (B r):=by
 refine gM Try.func95 10 Xjo fun E hP hn hx=>?_
 unfold Qh2 at h
 obtain ⟨r3,hr3,h⟩:=bnS h
 obtain rfl:=sj h
 exact (let Z0:=(I (p1.length:Int));gR hP hn [hO 3 Z0,hh 5 (.callV [] (B r3))] [] .raw [AV.lit (.int .i64 (((p1.map o71).length:Nat) : Int))=Z0,Qab Try.prog 79 [(I p2),(I 0),(I (w64 ((p1.length:Int) - 1)))] (B r3),Qa8 (B r3)=true,(B r3)=(B r3),Qa8 (B r3)=true] ⟨(Qfn o71),(Qj0 hr3),rfl,rfl,rfl,trivial⟩)
noncomputable def Xlg:Code:=match Try.f46.body with | some c=>c | none=>.skip
noncomputable def Qde (p1:(List Qa5)) (p2:Int) (p3:Int) : Option (Bool×Bool):=
 Option.bind (Qfi p1) fun r4 =>
 if (!r4)=true then
  some (false,false)
 else
  Option.bind (Qh2 p1 p2) fun r7 =>
  if (!r7)=true then
   some (false,false)
  else
   Option.bind (Qh2 p1 p3) fun r10 =>
   if (!r10)=true then
    some (false,false)
   else
    Option.bind (Qgo p1) fun r13 =>
    Option.bind (rd r13 p3) fun x14 =>
    Option.bind (Qeo x14 p2) fun r15 =>
    some (r15,true)
theorem Qmu {p1:(List Qa5)} {p2:Int} {p3:Int} {r:(Bool×Bool)} (h:Qde p1 p2 p3=some r) : Qab Try.prog 46 [(AV.ro 5 (p1.map o71)),(I p2),(I p3)] (AV.tup [(B r.1),(B r.2)]):=by
 refine gM Try.func46 30 Xlg fun E hP hn hx=>?_
 unfold Qde at h
 obtain ⟨r4,hr4,h⟩:=bnS h
 let Z0:=AV.ro 5 (p1.map o71);let Z1:=B true;let Z2:=B false
 let H1:List Hn:=[hh 3 (.callV [] (B r4))]
 let P2:List Prop:=[Qab Try.prog 51 [Z0] (B r4),Qa8 (B r4)=true]
 have AP2:Qb0 P2:=⟨(Qi7 hr4),rfl,trivial⟩
 rcases itS h with ⟨c5,h⟩ | ⟨c6,h⟩
 ·obtain rfl:=sj h
  exact gR hP hn (H1++[hO 5 Z1]) [] (.agg [.raw,.raw]) (P2++[(B (!r4))=Z1,Z2=Z2,Qa8 Z2=true,Z2=Z2,Qa8 Z2=true]) (Qag AP2 ⟨(Qb5 c5),rfl,rfl,rfl,rfl,trivial⟩)
 ·obtain ⟨r7,hr7,h⟩:=bnS h
  let H3:List Hn:=H1++[hO 5 Z2,hh 8 (.callV [] (B r7))]
  let P4:List Prop:=P2++[(B (!r4))=Z2,Qab Try.prog 95 [Z0,(I p2)] (B r7),Qa8 (B r7)=true]
  have AP4:Qb0 P4:=Qag AP2 ⟨(Qb5 c6),(Qlp hr7),rfl,trivial⟩
  rcases itS h with ⟨c8,h⟩ | ⟨c9,h⟩
  ·obtain rfl:=sj h
   exact gR hP hn (H3++[hO 11 Z1]) [] (.agg [.raw,.raw]) (P4++[(B (!r7))=Z1,Z2=Z2,Qa8 Z2=true,Z2=Z2,Qa8 Z2=true]) (Qag AP4 ⟨(Qb5 c8),rfl,rfl,rfl,rfl,trivial⟩)
  ·obtain ⟨r10,hr10,h⟩:=bnS h
   let P5:List Prop:=P4++[(B (!r7))=Z2,Qab Try.prog 95 [Z0,(I p3)] (B r10),Qa8 (B r10)=true]
   have AP5:Qb0 P5:=Qag AP4 ⟨(Qb5 c9),(Qlp hr10),rfl,trivial⟩
   rcases itS h with ⟨c11,h⟩ | ⟨c12,h⟩
   ·obtain rfl:=sj h
    exact gR hP hn (H3++[hO 11 Z2,hh 14 (.callV [] (B r10)),hT 17]) [] (.agg [.raw,.raw]) (P5++[(!r10)=true,Z2=Z2,Qa8 Z2=true,Z2=Z2,Qa8 Z2=true]) (Qag AP5 ⟨c11,rfl,rfl,rfl,rfl,trivial⟩)
   ·obtain ⟨r13,hr13,h⟩:=bnS h
    obtain ⟨x14,hx14,h⟩:=bnS h
    obtain ⟨r15,hr15,h⟩:=bnS h
    obtain rfl:=sj h
    exact (let Z3:=r13.map Qct;let Z4:=AV.own 104 4 Z3;let Z5:=Qct x14;gR hP hn (H3++[hO 11 Z2,hh 14 (.callV [] (B r10)),hF 17,hh 19 (.call [] Z4 [1001]),hh 22 (.agg Z5 Z5),hh 24 (.callV [[[AV.dead]]] (B r15))]) [] (.agg [.raw,.raw]) (P5++[(!r10)=false,Qab Try.prog 90 [Z0] Z4,Qez Z4=true,(0:Int)≤p3,p3<((Z3.length:Nat) : Int),0+4≤Z5.length,(Z5.drop 0).take 4=Z5,Z5.all AV.plain=true,Z3[p3.toNat]? = some Z5,Qab Try.prog 91 [(AV.agg Z5),(I p2)] (B r15),Qa8 (B r15)=true,Z5.all Qjb=true,(B r15)=(B r15),Qa8 (B r15)=true,Z1=Z1,Qa8 Z1=true]) (Qag AP5 ⟨c12,(Qmp hr13),(by simp +zetaDelta only [Qez,Qcw,Qaa n104,Bool.and_self]),(rd0 hx14),(rdL Qct hx14),(Qnt k86),(Qor k86),(Qu8 _),(rdM Qct hx14),(Qk5 hr15),rfl,(Qji k86 (fun _=>rfl)),rfl,rfl,rfl,rfl,trivial⟩))
noncomputable def Qtl:Code:=match Try.f43.body with | some c=>c | none=>.skip
noncomputable def Qbf (K0:(List (List Int))→(List Int)→(List (Vector Int 4))→Int→Option ((List (List Int))×Bool)) (r6:(List (Vector Int 4))) (v10:Int) : Nat→(List (List Int))→(List Int)→(List (Vector Int 4))→Option ((List (List Int))×Bool)
 | 0,_,_,_=>none
 | n+1,a25,a26,a27 =>
 Option.bind (rd a26 v10) fun x28 =>
 if (decide ((a25.length:Int)≤x28))=true then
  Option.bind (app a25 [[]]) fun l30 =>
  Qbf K0 r6 v10 n l30 a26 a27
 else
  Option.bind (rd a25 x28) fun x32 =>
  Option.bind (app x32 [v10]) fun l33 =>
  K0 (a25.set (Int.toNat x28) l33) a26 a27 (w64 (v10+1))
theorem Qou {E:Env} (hP:E.pk=pk0 Try.prog) (hn:E.n=74) (hx:FX E []) (r6:(List (Vector Int 4))) (v10:Int) {K0:(List (List Int))→(List Int)→(List (Vector Int 4))→Int→Option ((List (List Int))×Bool)} (hK0 : ∀ (a7:(List (List Int))) (a8:(List Int)) (a9:(List (Vector Int 4))) (v10:Int) (r:((List (List Int))×Bool)),K0 a7 a8 a9 v10=some r→WAt E Qtl (FQ (Qdu Θ Try.f43.results.toList [] [] (AV.tup [(AV.own 34 1 (r.1.map o34)),(B r.2)]) E)) [true,true,true,false,true,false] ⟨[(4,(AV.sl 1 0 (List.length (a7.map o34)))),(5,(AV.sl 2 0 (List.length (a8.map o3)))),(17,(AV.sl 3 0 (List.length (a9.map Qct)))),(18,(I (r6.length:Int))),(19,(I v10))],[(1,some ⟨34,1,(a7.map o34)⟩),(2,some ⟨3,1,(a8.map o3)⟩),(3,some ⟨104,4,(a9.map Qct)⟩)],[1,2,3,JJ]⟩) : ∀ (n:Nat) (a25:(List (List Int))) (a26:(List Int)) (a27:(List (Vector Int 4))) (r:((List (List Int))×Bool)),Qbf K0 r6 v10 n a25 a26 a27=some r→WAt E Qtl (FQ (Qdu Θ Try.f43.results.toList [] [] (AV.tup [(AV.own 34 1 (r.1.map o34)),(B r.2)]) E)) [true,true,true,false,true,false,false,true,true,false,false,true,true,false,false] ⟨[(4,(AV.sl 1 0 (List.length (a25.map o34)))),(5,(AV.sl 2 0 (List.length (a26.map o3)))),(6,(I v10)),(17,(AV.sl 3 0 (List.length (a27.map Qct)))),(18,(I (r6.length:Int))),(19,(I v10))],[(1,some ⟨34,1,(a25.map o34)⟩),(2,some ⟨3,1,(a26.map o3)⟩),(3,some ⟨104,4,(a27.map Qct)⟩)],[1,2,3,JJ]⟩:=by
 intro n
 induction n with
 | zero=>intro a25 a26 a27 r h;simp only [Qbf] at h;cases h
 | succ n ih =>
  intro a25 a26 a27 r h
  simp only [Qbf] at h
  obtain ⟨x28,hx28,h⟩:=bnS h
  let Z0:=a25.map o34;let Z1:=((Z0.length:Nat) : Int);let Z2:=(I (a25.length:Int));let Z3:=a26.map o3;let Z4:=((Z3.length:Nat) : Int);let Z5:=I x28;let Z6:=AV.sl 1001 0 ([].map o3).length;let Z7:=Z0++[[Z6]];let Z9:=(decide ((a25.length:Int)≤x28));let Z19:=(([v10].map o3).drop 0).take ([v10].map o3).length;let Z20:=AV.sl 1 0 Z0.length;let Z21:=AV.sl 2 0 Z3.length;let Z22:=AV.ptr 2 v10.toNat 0;let Z23:=AV.ptr 1 x28.toNat 0
  let P1:List Prop:=[AV.lit (.int .i64 Z1)=Z2,(0:Int)≤v10,v10<Z4,Z3[v10.toNat]? = some [Z5]]
  have AP1:Qb0 P1:=⟨(Qfn o34),(rd0 hx28),(rdL o3 hx28),(rdM o3 hx28),trivial⟩
  rcases itS h with ⟨c29,h⟩ | ⟨c31,h⟩
  ·obtain ⟨l30,hl30,h⟩:=bnS h
   exact (let Z8:=l30.map o34;gT hP hn hx [hO 1 Z2,hh 5 (.row [Z5]),hT 7,hW 9 1001,hW 10 1002,hh 11 (.app 1003 Z7),hh 12 (.pack 1003 1001 a25.length 0 [Z6] Z8),hh 13 (.slen 4 Z8.length)] [(1003,1),(2,2),(3,3)] [4,5,6,17,18,19] [] (P1++[Z9=true,Z0.take Z0.length++[[Z6]]=Z7,[[Z6]].all (fun r=>r.all AV.plain)=true,Z7.length * 24≤140737488355328,Z7.length≤140737488355328,Z7[a25.length]? = some [Z6],[Z6][0]? = some Z6,Qa1 ([].map o3)=true,Z7.set a25.length ([Z6].set 0 (AV.own 3 1 ([].map o3)))=Z8,Z7.length=Z8.length,Qa6 [(1003,1),(2,2),(3,3)] Z8,Qa6 [(1003,1),(2,2),(3,3)] Z3,Qa6 [(1003,1),(2,2),(3,3)] (a27.map Qct)]) (Qag AP1 ⟨c29,(apT o34),rfl,(apB o34 hl30 (by decide)),(apC o34 hl30),(apG o34),rfl,(Qa7 t3),(apS o34 hl30),(apLn o34 hl30),(rok (Qa7 t34)),(rok (Qa7 t3)),(rok (Qa7 Qsk)),trivial⟩) (ih l30 a26 a27 _ h))
  ·obtain ⟨x32,hx32,h⟩:=bnS h
   obtain ⟨l33,hl33,h⟩:=bnS h
   exact (let Z10:=x32.map o3;let Z11:=[(AV.own 3 1 Z10)];let Z12:=AV.sl 1004 0 Z10.length;let Z13:=Z0.set x28.toNat [Z12];let Z14:=l33.map o3;let Z15:=AV.sl 1006 0 Z14.length;let Z16:=Z0.set x28.toNat [Z15];let Z17:=a25.set x28.toNat l33;let Z18:=Z17.map o34;gT hP hn hx [hO 1 Z2,hh 5 (.row [Z5]),hF 7,hh 8 (.unpack 1 1004 x28.toNat 0 Z11 3 1 Z10 Z13),hh 12 (.row [Z5]),hh 17 (.row [Z5]),hh 19 (.row [Z12]),hW 21 1005,hh 22 (.app 1006 Z14),hh 31 (.row [Z5]),hh 32 (.row [Z5]),hh 37 (.row [Z5]),hh 39 (.row [Z12]),hh 41 (.sto [Z12] Z16),hh 44 (.pack 1 1006 x28.toNat 0 [Z15] Z18),hh 44 (.slen 4 Z18.length)] [(1,1),(2,2),(3,3)] [4,5,17,18,19] [] (P1++[Z9=false,Z0[x28.toNat]? = some Z11,Z11[0]? = some (AV.own 3 1 Z10),0<1,Z0.set x28.toNat (Z11.set 0 Z12)=Z13,(0:Int)≤v10,v10<Z4,Z3[v10.toNat]? = some [Z5],(0:Int)≤v10,v10<Z4,Z3[v10.toNat]? = some [Z5],(0:Int)≤x28,x28<Z1,Z13[x28.toNat]? = some [Z12],Z10.take Z10.length++Z19=Z14,Z19.all (fun r=>r.all AV.plain)=true,Z14.length * 8≤140737488355328,Z14.length≤140737488355328,Z20=Z20,Z20=Z20,Z21=Z21,Z21=Z21,(I v10)=(I v10),(I v10)=(I v10),Z22=Z22,(0:Int)≤v10,v10<Z4,Z22=Z22,(0:Int)≤v10,v10<Z4,Z5=Z5,Z3[v10.toNat]? = some [Z5],Z5=Z5,Z3[v10.toNat]? = some [Z5],Z20=Z20,Z21=Z21,(I v10)=(I v10),Z22=Z22,(0:Int)≤v10,v10<Z4,Z5=Z5,Z3[v10.toNat]? = some [Z5],Z23=Z23,(0:Int)≤x28,x28<Z1,Z12=Z12,Z13[x28.toNat]? = some [Z12],(0:Int)≤x28,x28<Z1,Z13[x28.toNat]? = some [Z12],Z13.set x28.toNat (wr [Z12] 0 [Z15])=Z16,[Z15].length=1,0 + [Z15].length≤[Z12].length,Z16[x28.toNat]? = some [Z15],[Z15][0]? = some Z15,Qa1 Z14=true,Z16.set x28.toNat ([Z15].set 0 (AV.own 3 1 Z14))=Z18,Z0.length=Z18.length,Qa6 [(1,1),(2,2),(3,3)] Z18,Qa6 [(1,1),(2,2),(3,3)] Z3,Qa6 [(1,1),(2,2),(3,3)] (a27.map Qct)]) (Qag AP1 ⟨c31,(rdM o34 hx32),rfl,(by decide),rfl,(rd0 hx28),(rdL o3 hx28),(rdM o3 hx28),(rd0 hx28),(rdL o3 hx28),(rdM o3 hx28),(rd0 hx32),(rdL o34 hx32),(Qcl (rdM o34 hx32)),(Qiw o3 hl33),(plD pa3),(Qnn o3 hl33 (by decide)),(Qnm o3 hl33),rfl,rfl,rfl,rfl,rfl,rfl,rfl,(rd0 hx28),(rdL o3 hx28),rfl,(rd0 hx28),(rdL o3 hx28),rfl,(rdM o3 hx28),rfl,(rdM o3 hx28),rfl,rfl,rfl,rfl,(rd0 hx28),(rdL o3 hx28),rfl,(rdM o3 hx28),rfl,(rd0 hx32),(rdL o34 hx32),rfl,(Qcl (rdM o34 hx32)),(rd0 hx32),(rdL o34 hx32),(Qcl (rdM o34 hx32)),(Qfy rfl),rfl,leB,(Qcl (rdM o34 hx32)),rfl,(Qa7 t3),(Xe9 o34),lnq,(rok (Qa7 t34)),(rok (Qa7 t3)),(rok (Qa7 Qsk)),trivial⟩) (hK0 Z17 a26 a27 (w64 (v10+1)) _ h))
noncomputable def Qba (K0:(List (List Int))→(List Int)→(List (Vector Int 4))→Int→Option ((List (List Int))×Bool)) (r6:(List (Vector Int 4))) (v10:Int) : Nat→(List (List Int))→(List Int)→(Vector Int 4)→(List (Vector Int 4))→Int→Option ((List (List Int))×Bool)
 | 0,_,_,_,_,_=>none
 | n+1,a13,a14,a15,a16,v17 =>
 if (decide (v17<v10))=true then
  Option.bind (Qeo a15 v17) fun r19 =>
  if r19=true then
   Option.bind (rd a14 v10) fun x21 =>
   Option.bind (rd a14 v17) fun x22 =>
   Qba K0 r6 v10 n a13 (a14.set (Int.toNat v10) (imax x21 (w64 (x22+1)))) a15 a16 (w64 (v17+1))
  else
   Qba K0 r6 v10 n a13 a14 a15 a16 (w64 (v17+1))
 else
  Qbf K0 r6 v10 FU a13 a14 a16
theorem Qns {E:Env} (hP:E.pk=pk0 Try.prog) (hn:E.n=74) (hx:FX E []) (r6:(List (Vector Int 4))) (v10:Int) {K0:(List (List Int))→(List Int)→(List (Vector Int 4))→Int→Option ((List (List Int))×Bool)} (hK0 : ∀ (a7:(List (List Int))) (a8:(List Int)) (a9:(List (Vector Int 4))) (v10:Int) (r:((List (List Int))×Bool)),K0 a7 a8 a9 v10=some r→WAt E Qtl (FQ (Qdu Θ Try.f43.results.toList [] [] (AV.tup [(AV.own 34 1 (r.1.map o34)),(B r.2)]) E)) [true,true,true,false,true,false] ⟨[(4,(AV.sl 1 0 (List.length (a7.map o34)))),(5,(AV.sl 2 0 (List.length (a8.map o3)))),(17,(AV.sl 3 0 (List.length (a9.map Qct)))),(18,(I (r6.length:Int))),(19,(I v10))],[(1,some ⟨34,1,(a7.map o34)⟩),(2,some ⟨3,1,(a8.map o3)⟩),(3,some ⟨104,4,(a9.map Qct)⟩)],[1,2,3,JJ]⟩) : ∀ (n:Nat) (a13:(List (List Int))) (a14:(List Int)) (a15:(Vector Int 4)) (a16:(List (Vector Int 4))) (v17:Int) (r:((List (List Int))×Bool)),Qba K0 r6 v10 n a13 a14 a15 a16 v17=some r→WAt E Qtl (FQ (Qdu Θ Try.f43.results.toList [] [] (AV.tup [(AV.own 34 1 (r.1.map o34)),(B r.2)]) E)) [true,true,true,false,true,false,false,true,true,false,false,true,false,true,false] ⟨[(4,(AV.sl 1 0 (List.length (a13.map o34)))),(5,(AV.sl 2 0 (List.length (a14.map o3)))),(6,(I v10)),(7,(AV.ptr 3 0 0)),(17,(AV.sl 4 0 (List.length (a16.map Qct)))),(18,(I (r6.length:Int))),(19,(I v10)),(24,(I v10)),(25,(I v17))],[(1,some ⟨34,1,(a13.map o34)⟩),(2,some ⟨3,1,(a14.map o3)⟩),(3,some ⟨104,4,[((Qct a15))]⟩),(4,some ⟨104,4,(a16.map Qct)⟩)],[1,2,3,4,JJ]⟩:=by
 intro n
 induction n with
 | zero=>intro a13 a14 a15 a16 v17 r h;simp only [Qba] at h;cases h
 | succ n ih =>
  intro a13 a14 a15 a16 v17 r h
  simp only [Qba] at h
  let Z0:=Qct a15;let Z5:=a14.map o3;let Z6:=((Z5.length:Nat) : Int);let Z7:=a13.map o34;let Z8:=a16.map Qct
  rcases itS h with ⟨c18,h⟩ | ⟨c24,h⟩
  ·obtain ⟨r19,hr19,h⟩:=bnS h
   let H1:List Hn:=[hT 1,hh 4 (.agg Z0 Z0),hh 6 (.callV [[[AV.dead]]] (B r19))]
   let P2:List Prop:=[(decide (v17<v10))=true,0+4≤Z0.length,(Z0.drop 0).take 4=Z0,Z0.all AV.plain=true,[Z0][0]? = some Z0,Qab Try.prog 91 [(AV.agg Z0),(I v17)] (B r19),Qa8 (B r19)=true,Z0.all Qjb=true]
   have AP2:Qb0 P2:=⟨c18,(Qnt k86),(Qor k86),(Qu8 _),rfl,(Qk5 hr19),rfl,(Qji k86 (fun _=>rfl)),trivial⟩
   rcases itS h with ⟨c20,h⟩ | ⟨c23,h⟩
   ·obtain ⟨x21,hx21,h⟩:=bnS h
    obtain ⟨x22,hx22,h⟩:=bnS h
    exact (let Z1:=[(I x21)];let Z2:=imax x21 (w64 (x22+1));let Z3:=a14.set v10.toNat Z2;let Z4:=Z3.map o3;gT hP hn hx (H1++[hT 7,hh 13 (.row Z1),hh 17 (.row [(I x22)]),hh 21 (.sto Z1 Z4),hh 24 (.slen 5 Z4.length)]) [(1,1),(2,2),(3,3),(4,4)] [4,5,6,7,17,18,19,24,25] [] (P2++[r19=true,(0:Int)≤v10,v10<Z6,Z5[v10.toNat]? = some Z1,(0:Int)≤v17,v17<Z6,Z5[v17.toNat]? = some [(I x22)],(0:Int)≤v10,v10<Z6,Z5[v10.toNat]? = some Z1,Z5.set v10.toNat (wr Z1 0 [(I Z2)])=Z4,[(I Z2)].length=1,0 + [(I Z2)].length≤Z1.length,Z5.length=Z4.length,Qa6 [(1,1),(2,2),(3,3),(4,4)] Z7,Qa6 [(1,1),(2,2),(3,3),(4,4)] Z4,Qa6 [(1,1),(2,2),(3,3),(4,4)] [Z0],Qa6 [(1,1),(2,2),(3,3),(4,4)] Z8]) (Qag AP2 ⟨c20,(rd0 hx21),(rdL o3 hx21),(rdM o3 hx21),(rd0 hx22),(rdL o3 hx22),(rdM o3 hx22),(rd0 hx21),(rdL o3 hx21),(rdM o3 hx21),(Qyf o3),rfl,leB,lnq,(rok (Qa7 t34)),(rok (Qa7 t3)),(rok (Qb1 Qsk a15)),(rok (Qa7 Qsk)),trivial⟩) (ih a13 Z3 a15 a16 (w64 (v17+1)) _ h))
   ·exact gT hP hn hx (H1++[hF 7]) [(1,1),(2,2),(3,3),(4,4)] [4,5,6,7,17,18,19,24,25] [] (P2++[r19=false,Qa6 [(1,1),(2,2),(3,3),(4,4)] Z7,Qa6 [(1,1),(2,2),(3,3),(4,4)] Z5,Qa6 [(1,1),(2,2),(3,3),(4,4)] [Z0],Qa6 [(1,1),(2,2),(3,3),(4,4)] Z8]) (Qag AP2 ⟨c23,(rok (Qa7 t34)),(rok (Qa7 t3)),(rok (Qb1 Qsk a15)),(rok (Qa7 Qsk)),trivial⟩) (ih a13 a14 a15 a16 (w64 (v17+1)) _ h)
  ·exact gT hP hn hx [hF 1] [(1,1),(2,2),(4,3)] [4,5,6,17,18,19] [] [(decide (v17<v10))=false,Qa6 [(1,1),(2,2),(4,3)] Z7,Qa6 [(1,1),(2,2),(4,3)] Z5,Qa6 [(1,1),(2,2),(4,3)] Z8] ⟨c24,(rok (Qa7 t34)),(rok (Qa7 t3)),(rok (Qa7 Qsk)),trivial⟩ (Qou hP hn hx r6 v10 hK0 FU a13 a14 a16 _ h)
noncomputable def Qb3  (r6:(List (Vector Int 4))) : Nat→(List (List Int))→(List Int)→(List (Vector Int 4))→Int→Option ((List (List Int))×Bool)
 | 0,_,_,_,_=>none
 | n+1,a7,a8,a9,v10 =>
 if (decide (v10<(r6.length:Int)))=true then
  Option.bind (rd a9 v10) fun x12 =>
  Qba (Qb3 r6 n) r6 v10 FU a7 a8 x12 a9 0
 else
  some (a7,true)
theorem Qon {E:Env} (hP:E.pk=pk0 Try.prog) (hn:E.n=74) (hx:FX E []) (r6:(List (Vector Int 4)))  : ∀ (n:Nat) (a7:(List (List Int))) (a8:(List Int)) (a9:(List (Vector Int 4))) (v10:Int) (r:((List (List Int))×Bool)),Qb3 r6 n a7 a8 a9 v10=some r→WAt E Qtl (FQ (Qdu Θ Try.f43.results.toList [] [] (AV.tup [(AV.own 34 1 (r.1.map o34)),(B r.2)]) E)) [true,true,true,false,true,false] ⟨[(4,(AV.sl 1 0 (List.length (a7.map o34)))),(5,(AV.sl 2 0 (List.length (a8.map o3)))),(17,(AV.sl 3 0 (List.length (a9.map Qct)))),(18,(I (r6.length:Int))),(19,(I v10))],[(1,some ⟨34,1,(a7.map o34)⟩),(2,some ⟨3,1,(a8.map o3)⟩),(3,some ⟨104,4,(a9.map Qct)⟩)],[1,2,3,JJ]⟩:=by
 intro n
 induction n with
 | zero=>intro a7 a8 a9 v10 r h;simp only [Qb3] at h;cases h
 | succ n ih =>
  intro a7 a8 a9 v10 r h
  simp only [Qb3] at h
  let Z1:=Qct (Vector.replicate 4 0);let Z2:=(decide (v10<(r6.length:Int)));let Z3:=a9.map Qct;let Z4:=a7.map o34
  rcases itS h with ⟨c11,h⟩ | ⟨c34,h⟩
  ·obtain ⟨x12,hx12,h⟩:=bnS h
   exact (let Z0:=Qct x12;gT hP hn hx [hT 1,hh 4 (.agg Z0 Z0),hh 5 (.nw 1001 [Z1]),hh 7 (.stoS Z1 [Z0])] [(1,1),(2,2),(1001,3),(3,4)] [4,5,6,7,17,18,19,24,25] [] [Z2=true,(0:Int)≤v10,v10<((Z3.length:Nat) : Int),0+4≤Z0.length,(Z0.drop 0).take 4=Z0,Z0.all AV.plain=true,Z3[v10.toNat]? = some Z0,[Qp2 [.int .u64 0,.int .u64 0,.int .u64 0,.int .u64 0]]=[Z1],[Z1][0]? = some Z1,[Z1].set 0 (wr Z1 0 Z0)=[Z0],Z0.length=4,0+Z0.length≤Z1.length,Z0.all Qjb=true,Qa6 [(1,1),(2,2),(1001,3),(3,4)] Z4,Qa6 [(1,1),(2,2),(1001,3),(3,4)] (a8.map o3),Qa6 [(1,1),(2,2),(1001,3),(3,4)] [Z0],Qa6 [(1,1),(2,2),(1001,3),(3,4)] Z3] ⟨c11,(rd0 hx12),(rdL Qct hx12),(Qnt k86),(Qor k86),(Qu8 _),(rdM Qct hx12),rfl,rfl,(Xie k86 k86),(Qq9 k86),(Xg1 k86 k86),(Qji k86 (fun _=>rfl)),(rok (Qa7 t34)),(rok (Qa7 t3)),(rok (Qb1 Qsk x12)),(rok (Qa7 Qsk)),trivial⟩ (Qns hP hn hx r6 v10 ih FU a7 a8 x12 a9 0 _ h))
  ·obtain rfl:=sj h
   exact gR hP hn [hF 1] [] (.agg [.own,.raw]) [Z2=false,Qa1 (Z4.take Z4.length)=true,Z4.take Z4.length=Z4,Qa4 Z4=true,(B true)=(B true),Qa8 (B true)=true] ⟨c34,(Qay t34),Qax,(Qaa n34),rfl,rfl,trivial⟩
noncomputable def Qim (p1:(List Qa5)) : Option ((List (List Int))×Bool):=
 Option.bind (Qfi p1) fun r2 =>
 if (!r2)=true then
  some ([],false)
 else
  Option.bind (mk 0 (p1.length:Int)) fun l5 =>
  Option.bind (Qgo p1) fun r6 =>
  Qb3 r6 FU [] l5 r6 0
theorem Qsc {p1:(List Qa5)} {r:((List (List Int))×Bool)} (h:Qim p1=some r) : Qab Try.prog 43 [(AV.ro 5 (p1.map o71))] (AV.tup [(AV.own 34 1 (r.1.map o34)),(B r.2)]):=by
 refine gM Try.func43 74 Qtl fun E hP hn hx=>?_
 unfold Qim at h
 obtain ⟨r2,hr2,h⟩:=bnS h
 let Z0:=AV.ro 5 (p1.map o71);let Z1:=(p1.length:Int);let Z7:=AV.sl 1001 0 ([].map o34).length;let Z8:=([(1001,(Qae.mk 34 1 ([].map o34)))].map sm);let Z9:=(((p1.map o71).length:Nat) : Int)
 rcases itS h with ⟨c3,h⟩ | ⟨c4,h⟩
 ·obtain rfl:=sj h
  exact gR hP hn [hh 3 (.callV [] (B r2)),hT 5] [] (.agg [.own,.raw]) [Qab Try.prog 51 [Z0] (B r2),Qa8 (B r2)=true,(!r2)=true,(B false)=(B false),Qa8 (B false)=true] ⟨(Qi7 hr2),rfl,c3,rfl,rfl,trivial⟩
 ·obtain ⟨l5,hl5,h⟩:=bnS h
  obtain ⟨r6,hr6,h⟩:=bnS h
  exact (let Z2:=l5.map o3;let Z3:=AV.sl 1002 0 Z2.length;let Z4:=r6.map Qct;let Z5:=AV.own 104 4 Z4;let Z6:=(I (r6.length:Int));let Z10:=[(1002,(Qae.mk 3 1 Z2))].map sm;gT hP hn hx [hh 3 (.callV [] (B r2)),hF 5,hW 6 1001,hO 8 (I Z1),⟨9,.nw 1002 Z2,some Z3⟩,hh 13 (.call [] Z5 [1003]),hO 14 Z6] [(1001,1),(1002,2),(1003,3)] [4,5,17,18,19] [] [Qab Try.prog 51 [Z0] (B r2),Qa8 (B r2)=true,(!r2)=false,Z7=Z7,Z8=Z8,Z7=Z7,Z8=Z8,Z0=Z0,Z0=Z0,(I Z1)=(I Z1),AV.lit (.int .i64 Z9)=(I Z1),(I Z1)=(I Z1),AV.lit (.int .i64 Z9)=(I Z1),Z3=Z3,Z10=Z10,List.replicate Z1.toNat [.lit (.int .i64 0)]=Z2,AV.sl 1002 0 Z1.toNat=Z3,Z1=Z1,(0:Int)≤Z1,Z1 * ((8:Nat) : Int)≤140737488355328,Z1≤140737488355328,Z3=Z3,Z10=Z10,List.replicate Z1.toNat [.lit (.int .i64 0)]=Z2,AV.sl 1002 0 Z1.toNat=Z3,Z1=Z1,(0:Int)≤Z1,Z1 * ((8:Nat) : Int)≤140737488355328,Z1≤140737488355328,Z7=Z7,Z7=Z7,Qab Try.prog 90 [Z0] Z5,Qez Z5=true,AV.lit (.int .i64 ((Z4.length:Nat) : Int))=Z6,Qa6 [(1001,1),(1002,2),(1003,3)] ([].map o34),Qa6 [(1001,1),(1002,2),(1003,3)] Z2,Qa6 [(1001,1),(1002,2),(1003,3)] Z4] ⟨(Qi7 hr2),rfl,c4,rfl,rfl,rfl,rfl,rfl,rfl,rfl,(Qfn o71),rfl,(Qfn o71),rfl,rfl,(mkM o3 hl5),(mkS o3 hl5),rfl,(mk0 hl5),(mkB hl5 (by decide)),(mkC hl5),rfl,rfl,(mkM o3 hl5),(mkS o3 hl5),rfl,(mk0 hl5),(mkB hl5 (by decide)),(mkC hl5),rfl,rfl,(Qmp hr6),(by simp +zetaDelta only [Qez,Qcw,Qaa n104,Bool.and_self]),(Qfn Qct),(rok (Qa7 t34)),(rok (Qa7 t3)),(rok (Qa7 Qsk)),trivial⟩ (Qon hP hn hx r6 FU [] l5 r6 0 _ h))
noncomputable def Xlk:Code:=match Try.f22.body with | some c=>c | none=>.skip
noncomputable def Qol (p1:(List Int)) (p2:(List Int)) : Option Bool:=
 if (decide ((p1.length:Int) > 1048576))=true then
  some true
 else
  some (decide ((p2.length:Int) > (w64 (1048576 - (p1.length:Int)))))
theorem Xak {p1:(List Int)} {p2:(List Int)} {r:Bool} (h:Qol p1 p2=some r) : Qab Try.prog 22 [(AV.ro 1 (p1.map o5)),(AV.ro 1 (p2.map o5))] (B r):=by
 refine gM Try.func22 16 Xlk fun E hP hn hx=>?_
 unfold Qol at h
 let Z0:=(p1.length:Int);let Z1:=(((p1.map o5).length:Nat) : Int);let Z2:=B (decide (Z0 > 1048576));let Z3:=(I (p2.length:Int));let Z4:=(B (decide ((p2.length:Int) > (w64 (1048576 - Z0)))))
 rcases itS h with ⟨c3,h⟩ | ⟨c4,h⟩
 ·obtain rfl:=sj h
  exact gR hP hn [hO 2 (I Z0),hO 4 (B true)] [] .raw [AV.lit (.int .i64 Z1)=(I Z0),Z2=(B true),(B true)=(B true),Qa8 (B true)=true] ⟨(Qfn o5),(Qb5 c3),rfl,rfl,trivial⟩
 ·obtain rfl:=sj h
  exact gR hP hn [hO 2 (I Z0),hO 4 (B false),hO 6 Z3,hO 8 (I Z0)] [] .raw [AV.lit (.int .i64 Z1)=(I Z0),Z2=(B false),AV.lit (.int .i64 (((p2.map o5).length:Nat) : Int))=Z3,AV.lit (.int .i64 Z1)=(I Z0),Z4=Z4,Qa8 Z4=true] ⟨(Qfn o5),(Qb5 c4),(Qfn o5),(Qfn o5),rfl,rfl,trivial⟩
noncomputable def Xgx:Code:=match Try.f94.body with | some c=>c | none=>.skip
noncomputable def Qd2  (p1:(List Int)) (p2:(List Int)) : Nat→Int→Option Bool
 | 0,_=>none
 | n+1,v5 =>
 if (decide (v5<(p1.length:Int)))=true then
  Option.bind (rd p1 v5) fun x7 =>
  Option.bind (rd p2 v5) fun x8 =>
  if (x7 != x8)=true then
   some false
  else
   Qd2 p1 p2 n (w64 (v5+1))
 else
  some true
theorem Qod {E:Env} (hP:E.pk=pk0 Try.prog) (hn:E.n=26) (hx:FX E []) (p1:(List Int)) (p2:(List Int))  : ∀ (n:Nat) (v5:Int) (r:Bool),Qd2 p1 p2 n v5=some r→WAt E Xgx (FQ (Qdu Θ Try.f94.results.toList [] [] (B r) E)) [true,true,false,true,false] ⟨[(0,(AV.ro 1 (p1.map o3))),(1,(AV.ro 1 (p2.map o3))),(12,(I (p1.length:Int))),(13,(I v5))],[],[JJ]⟩:=by
 intro n
 induction n with
 | zero=>intro v5 r h;simp only [Qd2] at h;cases h
 | succ n ih =>
  intro v5 r h
  simp only [Qd2] at h
  let Z0:=(decide (v5<(p1.length:Int)))
  rcases itS h with ⟨c6,h⟩ | ⟨c11,h⟩
  ·obtain ⟨x7,hx7,h⟩:=bnS h
   obtain ⟨x8,hx8,h⟩:=bnS h
   let P1:List Prop:=[Z0=true,(0:Int)≤v5,(p1.map o3)[v5.toNat]? = some (o3 x7),(0:Int)≤v5,(p2.map o3)[v5.toNat]? = some (o3 x8)]
   have AP1:Qb0 P1:=⟨c6,(rd0 hx7),(rdM o3 hx7),(rd0 hx8),(rdM o3 hx8),trivial⟩
   rcases itS h with ⟨c9,h⟩ | ⟨c10,h⟩
   ·obtain rfl:=sj h
    exact gR hP hn [hT 1,hh 6 (.row (o3 x7)),hh 10 (.row (o3 x8)),hT 13] [] .raw (P1++[(x7 != x8)=true,(B false)=(B false),Qa8 (B false)=true]) (Qag AP1 ⟨c9,rfl,rfl,trivial⟩)
   ·exact gT hP hn hx [hT 1,hh 6 (.row (o3 x7)),hh 10 (.row (o3 x8)),hF 13] [] [0,1,12,13] [] (P1++[(x7 != x8)=false]) (Qag AP1 ⟨c10,trivial⟩) (ih (w64 (v5+1)) _ h)
  ·obtain rfl:=sj h
   exact gR hP hn [hF 1] [] .raw [Z0=false,(B true)=(B true),Qa8 (B true)=true] ⟨c11,rfl,rfl,trivial⟩
noncomputable def Qgu (p1:(List Int)) (p2:(List Int)) : Option Bool:=
 if ((p1.length:Int) != (p2.length:Int))=true then
  some false
 else
  Qd2 p1 p2 FU 0
theorem Qrr {p1:(List Int)} {p2:(List Int)} {r:Bool} (h:Qgu p1 p2=some r) : Qab Try.prog 94 [(AV.ro 1 (p1.map o3)),(AV.ro 1 (p2.map o3))] (B r):=by
 refine gM Try.func94 26 Xgx fun E hP hn hx=>?_
 unfold Qgu at h
 let Z0:=(((p1.map o3).length:Nat) : Int);let Z1:=(I (p1.length:Int));let Z2:=(I (p2.length:Int));let Z3:=((p1.length:Int) != (p2.length:Int))
 let P1:List Prop:=[AV.lit (.int .i64 Z0)=Z1,AV.lit (.int .i64 (((p2.map o3).length:Nat) : Int))=Z2]
 have AP1:Qb0 P1:=⟨(Qfn o3),(Qfn o3),trivial⟩
 rcases itS h with ⟨c3,h⟩ | ⟨c4,h⟩
 ·obtain rfl:=sj h
  exact gR hP hn [hO 2 Z1,hO 4 Z2,hT 6] [] .raw (P1++[Z3=true,(B false)=(B false),Qa8 (B false)=true]) (Qag AP1 ⟨c3,rfl,rfl,trivial⟩)
 ·exact gT hP hn hx [hO 2 Z1,hO 4 Z2,hF 6,hO 8 Z1] [] [0,1,12,13] [] (P1++[Z3=false,AV.lit (.int .i64 Z0)=Z1]) (Qag AP1 ⟨c4,(Qfn o3),trivial⟩) (Qod hP hn hx p1 p2 FU 0 _ h)
noncomputable def Xgv:Code:=match Try.f45.body with | some c=>c | none=>.skip
noncomputable def Qcp  (p1:(List (List Int))) (p2:(List (List Int))) : Nat→Int→Option Bool
 | 0,_=>none
 | n+1,v5 =>
 if (decide (v5<(p1.length:Int)))=true then
  Option.bind (rd p1 v5) fun x7 =>
  Option.bind (rd p2 v5) fun x8 =>
  Option.bind (Qgu x7 x8) fun r9 =>
  if (!r9)=true then
   some false
  else
   Qcp p1 p2 n (w64 (v5+1))
 else
  some true
theorem Qng {E:Env} (hP:E.pk=pk0 Try.prog) (hn:E.n=27) (hx:FX E []) (p1:(List (List Int))) (p2:(List (List Int)))  : ∀ (n:Nat) (v5:Int) (r:Bool),Qcp p1 p2 n v5=some r→WAt E Xgv (FQ (Qdu Θ Try.f45.results.toList [] [] (B r) E)) [true,true,false,true,false] ⟨[(0,(AV.ro 1 (p1.map r34))),(1,(AV.ro 1 (p2.map r34))),(12,(I (p1.length:Int))),(13,(I v5))],[],[JJ]⟩:=by
 intro n
 induction n with
 | zero=>intro v5 r h;simp only [Qcp] at h;cases h
 | succ n ih =>
  intro v5 r h
  simp only [Qcp] at h
  let Z0:=(decide (v5<(p1.length:Int)))
  rcases itS h with ⟨c6,h⟩ | ⟨c12,h⟩
  ·obtain ⟨x7,hx7,h⟩:=bnS h
   obtain ⟨x8,hx8,h⟩:=bnS h
   obtain ⟨r9,hr9,h⟩:=bnS h
   let H1:List Hn:=[hT 1,hh 6 (.row (r34 x7)),hh 10 (.row (r34 x8)),hh 12 (.callV [] (B r9))]
   let P2:List Prop:=[Z0=true,(0:Int)≤v5,(p1.map r34)[v5.toNat]? = some (r34 x7),(0:Int)≤v5,(p2.map r34)[v5.toNat]? = some (r34 x8),Qab Try.prog 94 [(AV.ro 1 (x7.map o3)),(AV.ro 1 (x8.map o3))] (B r9),Qa8 (B r9)=true]
   have AP2:Qb0 P2:=⟨c6,(rd0 hx7),(rdM r34 hx7),(rd0 hx8),(rdM r34 hx8),(Qrr hr9),rfl,trivial⟩
   rcases itS h with ⟨c10,h⟩ | ⟨c11,h⟩
   ·obtain rfl:=sj h
    exact gR hP hn (H1++[hT 14]) [] .raw (P2++[(!r9)=true,(B false)=(B false),Qa8 (B false)=true]) (Qag AP2 ⟨c10,rfl,rfl,trivial⟩)
   ·exact gT hP hn hx (H1++[hF 14]) [] [0,1,12,13] [] (P2++[(!r9)=false]) (Qag AP2 ⟨c11,trivial⟩) (ih (w64 (v5+1)) _ h)
  ·obtain rfl:=sj h
   exact gR hP hn [hF 1] [] .raw [Z0=false,(B true)=(B true),Qa8 (B true)=true] ⟨c12,rfl,rfl,trivial⟩
noncomputable def Qgb (p1:(List (List Int))) (p2:(List (List Int))) : Option Bool:=
 if ((p1.length:Int) != (p2.length:Int))=true then
  some false
 else
  Qcp p1 p2 FU 0
theorem Qqn {p1:(List (List Int))} {p2:(List (List Int))} {r:Bool} (h:Qgb p1 p2=some r) : Qab Try.prog 45 [(AV.ro 1 (p1.map r34)),(AV.ro 1 (p2.map r34))] (B r):=by
 refine gM Try.func45 27 Xgv fun E hP hn hx=>?_
 unfold Qgb at h
 let Z0:=(((p1.map r34).length:Nat) : Int);let Z1:=(I (p1.length:Int));let Z2:=(I (p2.length:Int));let Z3:=((p1.length:Int) != (p2.length:Int))
 let P1:List Prop:=[AV.lit (.int .i64 Z0)=Z1,AV.lit (.int .i64 (((p2.map r34).length:Nat) : Int))=Z2]
 have AP1:Qb0 P1:=⟨(Qfn r34),(Qfn r34),trivial⟩
 rcases itS h with ⟨c3,h⟩ | ⟨c4,h⟩
 ·obtain rfl:=sj h
  exact gR hP hn [hO 2 Z1,hO 4 Z2,hT 6] [] .raw (P1++[Z3=true,(B false)=(B false),Qa8 (B false)=true]) (Qag AP1 ⟨c3,rfl,rfl,trivial⟩)
 ·exact gT hP hn hx [hO 2 Z1,hO 4 Z2,hF 6,hO 8 Z1] [] [0,1,12,13] [] (P1++[Z3=false,AV.lit (.int .i64 Z0)=Z1]) (Qag AP1 ⟨c4,(Qfn r34),trivial⟩) (Qng hP hn hx p1 p2 FU 0 _ h)
noncomputable def Xd8:Code:=match Try.f123.body with | some c=>c | none=>.skip
noncomputable def Qcy  (cd:(List Int)) (p1:Qa0) (v4:Int) : Option (Int×Qa0):=
 if (decide ((w64 (p1.at_+1))≤(cd.length:Int)))=true then
  some (v4,(Qa0.mk (w64 (p1.at_+1)) (IntKind.wrap .u64 ((IntKind.wrap .u64 ((IntKind.wrap .u64 (p1.seed * 6364136223846793005))+(IntKind.wrap .u64 v4)))+1442695040888963407))))
 else
  some ((w64 (Xbn .u64 (Int.fdiv (IntKind.wrap .u64 ((IntKind.wrap .u64 ((IntKind.wrap .u64 (p1.seed * 6364136223846793005))+(IntKind.wrap .u64 v4)))+1442695040888963407)) (2 ^ (min (Int.toNat 40) 64))) 255)),(Qa0.mk (w64 (p1.at_+1)) (IntKind.wrap .u64 ((IntKind.wrap .u64 ((IntKind.wrap .u64 (p1.seed * 6364136223846793005))+(IntKind.wrap .u64 v4)))+1442695040888963407))))
theorem Qic {A0:Option Addr} {c0:Nat} {cd:(List Int)} {E:Env} (hP:E.pk=PK.mk Try.prog (kv A0 cd)) (hn:E.n=62) (hx : ∀ p,p∈E.fx→p.1∈([0] : List Nat)) (p1:Qa0)  (v4:Int) (r:(Int×Qa0)) (h:Qcy cd p1 v4=some r) : WAt E Xd8 (FQ (Qdu Θ Try.f123.results.toList [true] [⟨88,3,[[(AV.lit (.slice A0 (List.length cd) c0)),(I r.2.at_),(IK .u64 r.2.seed)]]⟩] (I r.1) E)) [true,true,true] ⟨[(0,(AV.ptr 0 0 0)),(3,(I v4))],[(0,some ⟨88,3,[[(AV.lit (.slice A0 (List.length cd) c0)),(I p1.at_),(IK .u64 p1.seed)]]⟩)],[0,JJ]⟩:=by
 unfold Qcy at h
 let Z0:=p1.seed * 6364136223846793005;let Z1:=min (Int.toNat 40) 64
 rcases itS h with ⟨c5,h⟩ | ⟨c6,h⟩
 ·obtain rfl:=sj h
  exact gR hP hn [hT 31] [] .raw [(decide ((w64 (p1.at_+1))≤(cd.length:Int)))=true,[[(AV.lit (.slice A0 cd.length c0)),(I (w64 (p1.at_+1))),(IK .u64 (IntKind.wrap .u64 ((IntKind.wrap .u64 ((IntKind.wrap .u64 Z0)+(IntKind.wrap .u64 v4)))+1442695040888963407)))]]=[[(AV.lit (.slice A0 cd.length c0)),(I (Qa0.mk (w64 (p1.at_+1)) (IntKind.wrap .u64 ((IntKind.wrap .u64 ((IntKind.wrap .u64 Z0)+(IntKind.wrap .u64 v4)))+1442695040888963407))).at_),(IK .u64 (Qa0.mk (w64 (p1.at_+1)) (IntKind.wrap .u64 ((IntKind.wrap .u64 ((IntKind.wrap .u64 Z0)+(IntKind.wrap .u64 v4)))+1442695040888963407))).seed)]],Qa1 [[(AV.lit (.slice A0 cd.length c0)),(I (Qa0.mk (w64 (p1.at_+1)) (IntKind.wrap .u64 ((IntKind.wrap .u64 ((IntKind.wrap .u64 Z0)+(IntKind.wrap .u64 v4)))+1442695040888963407))).at_),(IK .u64 (Qa0.mk (w64 (p1.at_+1)) (IntKind.wrap .u64 ((IntKind.wrap .u64 ((IntKind.wrap .u64 Z0)+(IntKind.wrap .u64 v4)))+1442695040888963407))).seed)]]=true,Qa4 [[(AV.lit (.slice A0 cd.length c0)),(I (Qa0.mk (w64 (p1.at_+1)) (IntKind.wrap .u64 ((IntKind.wrap .u64 ((IntKind.wrap .u64 Z0)+(IntKind.wrap .u64 v4)))+1442695040888963407))).at_),(IK .u64 (Qa0.mk (w64 (p1.at_+1)) (IntKind.wrap .u64 ((IntKind.wrap .u64 ((IntKind.wrap .u64 Z0)+(IntKind.wrap .u64 v4)))+1442695040888963407))).seed)]]=true,(I v4)=(I v4),Qa8 (I v4)=true] ⟨c5,rfl,rfl,rfl,rfl,rfl,trivial⟩
 ·obtain rfl:=sj h
  exact gR hP hn [hF 31] [] .raw [(decide ((w64 (p1.at_+1))≤(cd.length:Int)))=false,¬ 40<(0:Int),[[(AV.lit (.slice A0 cd.length c0)),(I (w64 (p1.at_+1))),(IK .u64 (IntKind.wrap .u64 ((IntKind.wrap .u64 ((IntKind.wrap .u64 Z0)+(IntKind.wrap .u64 v4)))+1442695040888963407)))]]=[[(AV.lit (.slice A0 cd.length c0)),(I (Qa0.mk (w64 (p1.at_+1)) (IntKind.wrap .u64 ((IntKind.wrap .u64 ((IntKind.wrap .u64 Z0)+(IntKind.wrap .u64 v4)))+1442695040888963407))).at_),(IK .u64 (Qa0.mk (w64 (p1.at_+1)) (IntKind.wrap .u64 ((IntKind.wrap .u64 ((IntKind.wrap .u64 Z0)+(IntKind.wrap .u64 v4)))+1442695040888963407))).seed)]],Qa1 [[(AV.lit (.slice A0 cd.length c0)),(I (Qa0.mk (w64 (p1.at_+1)) (IntKind.wrap .u64 ((IntKind.wrap .u64 ((IntKind.wrap .u64 Z0)+(IntKind.wrap .u64 v4)))+1442695040888963407))).at_),(IK .u64 (Qa0.mk (w64 (p1.at_+1)) (IntKind.wrap .u64 ((IntKind.wrap .u64 ((IntKind.wrap .u64 Z0)+(IntKind.wrap .u64 v4)))+1442695040888963407))).seed)]]=true,Qa4 [[(AV.lit (.slice A0 cd.length c0)),(I (Qa0.mk (w64 (p1.at_+1)) (IntKind.wrap .u64 ((IntKind.wrap .u64 ((IntKind.wrap .u64 Z0)+(IntKind.wrap .u64 v4)))+1442695040888963407))).at_),(IK .u64 (Qa0.mk (w64 (p1.at_+1)) (IntKind.wrap .u64 ((IntKind.wrap .u64 ((IntKind.wrap .u64 Z0)+(IntKind.wrap .u64 v4)))+1442695040888963407))).seed)]]=true,(I (w64 (Xbn .u64 (Int.fdiv (IntKind.wrap .u64 ((IntKind.wrap .u64 ((IntKind.wrap .u64 Z0)+(IntKind.wrap .u64 v4)))+1442695040888963407)) (2 ^ Z1)) 255)))=(I (w64 (Xbn .u64 (Int.fdiv (IntKind.wrap .u64 ((IntKind.wrap .u64 ((IntKind.wrap .u64 Z0)+(IntKind.wrap .u64 v4)))+1442695040888963407)) (2 ^ Z1)) 255))),Qa8 (I (w64 (Xbn .u64 (Int.fdiv (IntKind.wrap .u64 ((IntKind.wrap .u64 ((IntKind.wrap .u64 Z0)+(IntKind.wrap .u64 v4)))+1442695040888963407)) (2 ^ Z1)) 255)))=true] ⟨c6,(by decide),rfl,rfl,rfl,rfl,rfl,trivial⟩
noncomputable def Qer (cd:(List Int)) (p1:Qa0) : Option (Int×Qa0):=
 if (decide (p1.at_<(cd.length:Int)))=true then
  Option.bind (rd cd p1.at_) fun x3 =>
  Qcy cd p1 (w64 x3)
 else
  Qcy cd p1 0
theorem Qk8 {cd:(List Int)} {p1:Qa0} {A0:Option Addr} {c0:Nat} {r:(Int×Qa0)} (h:Qer cd p1=some r) : Qaw (PK.mk Try.prog (kv A0 cd)) 123 [⟨88,3,[[(AV.lit (.slice A0 (List.length cd) c0)),(I p1.at_),(IK .u64 p1.seed)]]⟩] [(AV.ptr 0 0 0)] [true] [⟨88,3,[[(AV.lit (.slice A0 (List.length cd) c0)),(I r.2.at_),(IK .u64 r.2.seed)]]⟩] (I r.1):=by
 refine Qfc (X:=PK.mk Try.prog (kv A0 cd)) Qxi Try.func123 rfl (c:=Xd8) (by kernel_rfl) (Nat.le_of_ble_eq_true rfl) rfl (Nat.le_of_ble_eq_true rfl) rfl (fr:=[0]) (frI rfl) ?_
 intro E hP hn hx
 replace hn:E.n=62:=hn
 unfold Qer at h
 rcases itS h with ⟨c2,h⟩ | ⟨c7,h⟩
 ·obtain ⟨x3,hx3,h⟩:=bnS h
  exact gT hP hn hx [hT 12,hh 21 (.cnv (AV.lit (zAt A0 p1.at_))),hh 22 (.cnv (IK .u8 x3))] [(0,0)] [0,3] [] [(decide (p1.at_<(cd.length:Int)))=true,IaS (PK.mk Try.prog (kv A0 cd)) 39 (AV.lit (.slice A0 cd.length c0)) (I p1.at_) (AV.lit (zAt A0 p1.at_)),LdS (PK.mk Try.prog (kv A0 cd)) 5 (AV.lit (zAt A0 p1.at_)) (IK .u8 x3),Qa6 [(0,0)] [[(AV.lit (.slice A0 cd.length c0)),(I p1.at_),(IK .u64 p1.seed)]]] ⟨c2,(zIdx Xki ty5 hx3),(zLd ty5 hx3),(rok rfl),trivial⟩ (Qic (A0:=A0) (c0:=c0) hP hn hx p1 (w64 x3) _ h)
 ·exact gT hP hn hx [hF 12] [(0,0)] [0,3] [] [(decide (p1.at_<(cd.length:Int)))=false,Qa6 [(0,0)] [[(AV.lit (.slice A0 cd.length c0)),(I p1.at_),(IK .u64 p1.seed)]]] ⟨c7,(rok rfl),trivial⟩ (Qic (A0:=A0) (c0:=c0) hP hn hx p1 0 _ h)
noncomputable def Xl6:Code:=match Try.f77.body with | some c=>c | none=>.skip
noncomputable def Qai (cd:(List Int)) (p1:Qa0) (p2:Int) : Option (Int×Qa0):=
 if (decide (p2≤1))=true then
  some (0,(Qa0.mk p1.at_ p1.seed))
 else
  Option.bind (Qer cd (Qa0.mk p1.at_ p1.seed)) fun r5 =>
  if (decide (p2 > 200))=true then
   Option.bind (Qer cd (Qa0.mk r5.2.at_ r5.2.seed)) fun r7 =>
   Option.bind (nz p2) fun q8 =>
   some ((Int.tmod (w64 ((w64 (r5.1 * 256))+r7.1)) p2),(Qa0.mk r7.2.at_ r7.2.seed))
  else
   Option.bind (nz p2) fun q10 =>
   some ((Int.tmod r5.1 p2),(Qa0.mk r5.2.at_ r5.2.seed))
theorem Qaj {cd:(List Int)} {p1:Qa0} {p2:Int} {A0:Option Addr} {c0:Nat} {r:(Int×Qa0)} (h:Qai cd p1 p2=some r) : Qaw (PK.mk Try.prog (kv A0 cd)) 77 [⟨88,3,[[(AV.lit (.slice A0 (List.length cd) c0)),(I p1.at_),(IK .u64 p1.seed)]]⟩] [(AV.ptr 0 0 0),(I p2)] [true] [⟨88,3,[[(AV.lit (.slice A0 (List.length cd) c0)),(I r.2.at_),(IK .u64 r.2.seed)]]⟩] (I r.1):=by
 refine Qfc (X:=PK.mk Try.prog (kv A0 cd)) Qxi Try.func77 rfl (c:=Xl6) (by kernel_rfl) (Nat.le_of_ble_eq_true rfl) rfl (Nat.le_of_ble_eq_true rfl) rfl (fr:=[0]) (frI rfl) ?_
 intro E hP hn hx
 replace hn:E.n=20:=hn
 unfold Qai at h
 rcases itS h with ⟨c3,h⟩ | ⟨c4,h⟩
 ·obtain rfl:=sj h
  exact gR hP hn [hT 3] [] .raw [(decide (p2≤1))=true,[[(AV.lit (.slice A0 cd.length c0)),(I p1.at_),(IK .u64 p1.seed)]]=[[(AV.lit (.slice A0 cd.length c0)),(I (Qa0.mk p1.at_ p1.seed).at_),(IK .u64 (Qa0.mk p1.at_ p1.seed).seed)]],Qa1 [[(AV.lit (.slice A0 cd.length c0)),(I (Qa0.mk p1.at_ p1.seed).at_),(IK .u64 (Qa0.mk p1.at_ p1.seed).seed)]]=true,Qa4 [[(AV.lit (.slice A0 cd.length c0)),(I (Qa0.mk p1.at_ p1.seed).at_),(IK .u64 (Qa0.mk p1.at_ p1.seed).seed)]]=true,(I 0)=(I 0),Qa8 (I 0)=true] ⟨c3,rfl,rfl,rfl,rfl,rfl,trivial⟩
 ·obtain ⟨r5,hr5,h⟩:=bnS h
  let Z0:=rtf (Qe3 [(0,0)] (I r5.1)) [];let Z3:=I (Int.tmod r5.1 p2)
  let H1:List Hn:=[hF 3,hh 5 (.callX [0] [true] [⟨88,3,[[(AV.lit (.slice A0 cd.length c0)),(I (Qa0.mk p1.at_ p1.seed).at_),(IK .u64 (Qa0.mk p1.at_ p1.seed).seed)]]⟩] [⟨88,3,[[(AV.lit (.slice A0 cd.length c0)),(I r5.2.at_),(IK .u64 r5.2.seed)]]⟩] [] (I r5.1) [] (I r5.1) [])]
  let P2:List Prop:=[(decide (p2≤1))=false,Qaw (PK.mk Try.prog (kv A0 cd)) 123 [⟨88,3,[[(AV.lit (.slice A0 cd.length c0)),(I (Qa0.mk p1.at_ p1.seed).at_),(IK .u64 (Qa0.mk p1.at_ p1.seed).seed)]]⟩] [(AV.ptr 0 0 0)] [true] [⟨88,3,[[(AV.lit (.slice A0 cd.length c0)),(I r5.2.at_),(IK .u64 r5.2.seed)]]⟩] (I r5.1),(some (Qae.mk 88 3 [[(AV.lit (.slice A0 cd.length c0)),(I p1.at_),(IK .u64 p1.seed)]])=some (Qae.mk 88 3 [[(AV.lit (.slice A0 cd.length c0)),(I (Qa0.mk p1.at_ p1.seed).at_),(IK .u64 (Qa0.mk p1.at_ p1.seed).seed)]]))∧True,(Qa1 [[(AV.lit (.slice A0 cd.length c0)),(I (Qa0.mk p1.at_ p1.seed).at_),(IK .u64 (Qa0.mk p1.at_ p1.seed).seed)]]=true∧Qa4 [[(AV.lit (.slice A0 cd.length c0)),(I (Qa0.mk p1.at_ p1.seed).at_),(IK .u64 (Qa0.mk p1.at_ p1.seed).seed)]]=true)∧True,([[(AV.lit (.slice A0 cd.length c0)),(I r5.2.at_),(IK .u64 r5.2.seed)]].length=[[(AV.lit (.slice A0 cd.length c0)),(I (Qa0.mk p1.at_ p1.seed).at_),(IK .u64 (Qa0.mk p1.at_ p1.seed).seed)]].length)∧True,Z0.1=(I r5.1),Z0.2.1=[]]
  have AP2:Qb0 P2:=⟨c4,(Qk8 hr5),⟨rfl,trivial⟩,⟨⟨rfl,rfl⟩,trivial⟩,⟨rfl,trivial⟩,rfl,rfl,trivial⟩
  rcases itS h with ⟨c6,h⟩ | ⟨c9,h⟩
  ·obtain ⟨r7,hr7,h⟩:=bnS h
   obtain ⟨q8,hq8,h⟩:=bnS h
   obtain rfl:=sj h
   exact (let Z1:=rtf (Qe3 [(0,0)] (I r7.1)) [];let Z2:=I (Int.tmod (w64 ((w64 (r5.1 * 256))+r7.1)) p2);gR hP hn (H1++[hT 9,hh 13 (.callX [0] [true] [⟨88,3,[[(AV.lit (.slice A0 cd.length c0)),(I (Qa0.mk r5.2.at_ r5.2.seed).at_),(IK .u64 (Qa0.mk r5.2.at_ r5.2.seed).seed)]]⟩] [⟨88,3,[[(AV.lit (.slice A0 cd.length c0)),(I r7.2.at_),(IK .u64 r7.2.seed)]]⟩] [] (I r7.1) [] (I r7.1) [])]) [] .raw (P2++[(decide (p2 > 200))=true,Qaw (PK.mk Try.prog (kv A0 cd)) 123 [⟨88,3,[[(AV.lit (.slice A0 cd.length c0)),(I (Qa0.mk r5.2.at_ r5.2.seed).at_),(IK .u64 (Qa0.mk r5.2.at_ r5.2.seed).seed)]]⟩] [(AV.ptr 0 0 0)] [true] [⟨88,3,[[(AV.lit (.slice A0 cd.length c0)),(I r7.2.at_),(IK .u64 r7.2.seed)]]⟩] (I r7.1),(some (Qae.mk 88 3 [[(AV.lit (.slice A0 cd.length c0)),(I r5.2.at_),(IK .u64 r5.2.seed)]])=some (Qae.mk 88 3 [[(AV.lit (.slice A0 cd.length c0)),(I (Qa0.mk r5.2.at_ r5.2.seed).at_),(IK .u64 (Qa0.mk r5.2.at_ r5.2.seed).seed)]]))∧True,(Qa1 [[(AV.lit (.slice A0 cd.length c0)),(I (Qa0.mk r5.2.at_ r5.2.seed).at_),(IK .u64 (Qa0.mk r5.2.at_ r5.2.seed).seed)]]=true∧Qa4 [[(AV.lit (.slice A0 cd.length c0)),(I (Qa0.mk r5.2.at_ r5.2.seed).at_),(IK .u64 (Qa0.mk r5.2.at_ r5.2.seed).seed)]]=true)∧True,([[(AV.lit (.slice A0 cd.length c0)),(I r7.2.at_),(IK .u64 r7.2.seed)]].length=[[(AV.lit (.slice A0 cd.length c0)),(I (Qa0.mk r5.2.at_ r5.2.seed).at_),(IK .u64 (Qa0.mk r5.2.at_ r5.2.seed).seed)]].length)∧True,Z1.1=(I r7.1),Z1.2.1=[],p2≠(0:Int),[[(AV.lit (.slice A0 cd.length c0)),(I r7.2.at_),(IK .u64 r7.2.seed)]]=[[(AV.lit (.slice A0 cd.length c0)),(I (Qa0.mk r7.2.at_ r7.2.seed).at_),(IK .u64 (Qa0.mk r7.2.at_ r7.2.seed).seed)]],Qa1 [[(AV.lit (.slice A0 cd.length c0)),(I (Qa0.mk r7.2.at_ r7.2.seed).at_),(IK .u64 (Qa0.mk r7.2.at_ r7.2.seed).seed)]]=true,Qa4 [[(AV.lit (.slice A0 cd.length c0)),(I (Qa0.mk r7.2.at_ r7.2.seed).at_),(IK .u64 (Qa0.mk r7.2.at_ r7.2.seed).seed)]]=true,Z2=Z2,Qa8 Z2=true]) (Qag AP2 ⟨c6,(Qk8 hr7),⟨rfl,trivial⟩,⟨⟨rfl,rfl⟩,trivial⟩,⟨rfl,trivial⟩,rfl,rfl,(nzE hq8),rfl,rfl,rfl,rfl,rfl,trivial⟩))
  ·obtain ⟨q10,hq10,h⟩:=bnS h
   obtain rfl:=sj h
   exact gR hP hn (H1++[hF 9]) [] .raw (P2++[(decide (p2 > 200))=false,p2≠(0:Int),[[(AV.lit (.slice A0 cd.length c0)),(I r5.2.at_),(IK .u64 r5.2.seed)]]=[[(AV.lit (.slice A0 cd.length c0)),(I (Qa0.mk r5.2.at_ r5.2.seed).at_),(IK .u64 (Qa0.mk r5.2.at_ r5.2.seed).seed)]],Qa1 [[(AV.lit (.slice A0 cd.length c0)),(I (Qa0.mk r5.2.at_ r5.2.seed).at_),(IK .u64 (Qa0.mk r5.2.at_ r5.2.seed).seed)]]=true,Qa4 [[(AV.lit (.slice A0 cd.length c0)),(I (Qa0.mk r5.2.at_ r5.2.seed).at_),(IK .u64 (Qa0.mk r5.2.at_ r5.2.seed).seed)]]=true,Z3=Z3,Qa8 Z3=true]) (Qag AP2 ⟨c9,(nzE hq10),rfl,rfl,rfl,rfl,rfl,trivial⟩)
noncomputable def Xla:Code:=match Try.f84.body with | some c=>c | none=>.skip
noncomputable def Qbz (cd:(List Int)) (p1:Qa0) (p2:(List Int)) : Option (Int×Qa0):=
 Option.bind (Qai cd (Qa0.mk p1.at_ p1.seed) (p2.length:Int)) fun r3 =>
 Option.bind (rd p2 r3.1) fun x4 =>
 some (x4,(Qa0.mk r3.2.at_ r3.2.seed))
theorem Qcz {cd:(List Int)} {p1:Qa0} {p2:(List Int)} {A0:Option Addr} {c0:Nat} {r:(Int×Qa0)} (h:Qbz cd p1 p2=some r) : Qaw (PK.mk Try.prog (kv A0 cd)) 84 [⟨88,3,[[(AV.lit (.slice A0 (List.length cd) c0)),(I p1.at_),(IK .u64 p1.seed)]]⟩] [(AV.ptr 0 0 0),(AV.ro 1 (p2.map o3))] [true] [⟨88,3,[[(AV.lit (.slice A0 (List.length cd) c0)),(I r.2.at_),(IK .u64 r.2.seed)]]⟩] (I r.1):=by
 refine Qfc (X:=PK.mk Try.prog (kv A0 cd)) Qxi Try.func84 rfl (c:=Xla) (by kernel_rfl) (Nat.le_of_ble_eq_true rfl) rfl (Nat.le_of_ble_eq_true rfl) rfl (fr:=[0]) (frI rfl) ?_
 intro E hP hn hx
 replace hn:E.n=12:=hn
 unfold Qbz at h
 obtain ⟨r3,hr3,h⟩:=bnS h
 obtain ⟨x4,hx4,h⟩:=bnS h
 obtain rfl:=sj h
 exact (let Z0:=(I (p2.length:Int));let Z1:=rtf (Qe3 [(0,0)] (I r3.1)) [];gR hP hn [hO 4 Z0,hh 5 (.callX [0] [true] [⟨88,3,[[(AV.lit (.slice A0 cd.length c0)),(I (Qa0.mk p1.at_ p1.seed).at_),(IK .u64 (Qa0.mk p1.at_ p1.seed).seed)]]⟩] [⟨88,3,[[(AV.lit (.slice A0 cd.length c0)),(I r3.2.at_),(IK .u64 r3.2.seed)]]⟩] [] (I r3.1) [] (I r3.1) []),hh 6 (.row (o3 x4))] [] .raw [AV.lit (.int .i64 (((p2.map o3).length:Nat) : Int))=Z0,Qaw (PK.mk Try.prog (kv A0 cd)) 77 [⟨88,3,[[(AV.lit (.slice A0 cd.length c0)),(I (Qa0.mk p1.at_ p1.seed).at_),(IK .u64 (Qa0.mk p1.at_ p1.seed).seed)]]⟩] [(AV.ptr 0 0 0),Z0] [true] [⟨88,3,[[(AV.lit (.slice A0 cd.length c0)),(I r3.2.at_),(IK .u64 r3.2.seed)]]⟩] (I r3.1),(some (Qae.mk 88 3 [[(AV.lit (.slice A0 cd.length c0)),(I p1.at_),(IK .u64 p1.seed)]])=some (Qae.mk 88 3 [[(AV.lit (.slice A0 cd.length c0)),(I (Qa0.mk p1.at_ p1.seed).at_),(IK .u64 (Qa0.mk p1.at_ p1.seed).seed)]]))∧True,(Qa1 [[(AV.lit (.slice A0 cd.length c0)),(I (Qa0.mk p1.at_ p1.seed).at_),(IK .u64 (Qa0.mk p1.at_ p1.seed).seed)]]=true∧Qa4 [[(AV.lit (.slice A0 cd.length c0)),(I (Qa0.mk p1.at_ p1.seed).at_),(IK .u64 (Qa0.mk p1.at_ p1.seed).seed)]]=true)∧True,([[(AV.lit (.slice A0 cd.length c0)),(I r3.2.at_),(IK .u64 r3.2.seed)]].length=[[(AV.lit (.slice A0 cd.length c0)),(I (Qa0.mk p1.at_ p1.seed).at_),(IK .u64 (Qa0.mk p1.at_ p1.seed).seed)]].length)∧True,Z1.1=(I r3.1),Z1.2.1=[],(0:Int)≤r3.1,(p2.map o3)[r3.1.toNat]? = some (o3 x4),[[(AV.lit (.slice A0 cd.length c0)),(I r3.2.at_),(IK .u64 r3.2.seed)]]=[[(AV.lit (.slice A0 cd.length c0)),(I (Qa0.mk r3.2.at_ r3.2.seed).at_),(IK .u64 (Qa0.mk r3.2.at_ r3.2.seed).seed)]],Qa1 [[(AV.lit (.slice A0 cd.length c0)),(I (Qa0.mk r3.2.at_ r3.2.seed).at_),(IK .u64 (Qa0.mk r3.2.at_ r3.2.seed).seed)]]=true,Qa4 [[(AV.lit (.slice A0 cd.length c0)),(I (Qa0.mk r3.2.at_ r3.2.seed).at_),(IK .u64 (Qa0.mk r3.2.at_ r3.2.seed).seed)]]=true,(I x4)=(I x4),Qa8 (I x4)=true] ⟨(Qfn o3),(Qaj hr3),⟨rfl,trivial⟩,⟨⟨rfl,rfl⟩,trivial⟩,⟨rfl,trivial⟩,rfl,rfl,(rd0 hx4),(rdM o3 hx4),rfl,rfl,rfl,rfl,rfl,trivial⟩)
noncomputable def Xkz:Code:=match Try.f83.body with | some c=>c | none=>.skip
noncomputable def Qbh (cd:(List Int)) (p1:Qa0) (p2:Int) : Option (Bool×Qa0):=
 Option.bind (Qai cd (Qa0.mk p1.at_ p1.seed) p2) fun r3 =>
 some ((r3.1 == 0),(Qa0.mk r3.2.at_ r3.2.seed))
theorem Qc3 {cd:(List Int)} {p1:Qa0} {p2:Int} {A0:Option Addr} {c0:Nat} {r:(Bool×Qa0)} (h:Qbh cd p1 p2=some r) : Qaw (PK.mk Try.prog (kv A0 cd)) 83 [⟨88,3,[[(AV.lit (.slice A0 (List.length cd) c0)),(I p1.at_),(IK .u64 p1.seed)]]⟩] [(AV.ptr 0 0 0),(I p2)] [true] [⟨88,3,[[(AV.lit (.slice A0 (List.length cd) c0)),(I r.2.at_),(IK .u64 r.2.seed)]]⟩] (B r.1):=by
 refine Qfc (X:=PK.mk Try.prog (kv A0 cd)) Qxi Try.func83 rfl (c:=Xkz) (by kernel_rfl) (Nat.le_of_ble_eq_true rfl) rfl (Nat.le_of_ble_eq_true rfl) rfl (fr:=[0]) (frI rfl) ?_
 intro E hP hn hx
 replace hn:E.n=9:=hn
 unfold Qbh at h
 obtain ⟨r3,hr3,h⟩:=bnS h
 obtain rfl:=sj h
 exact (let Z0:=rtf (Qe3 [(0,0)] (I r3.1)) [];let Z1:=B (r3.1 == 0);gR hP hn [hh 3 (.callX [0] [true] [⟨88,3,[[(AV.lit (.slice A0 cd.length c0)),(I (Qa0.mk p1.at_ p1.seed).at_),(IK .u64 (Qa0.mk p1.at_ p1.seed).seed)]]⟩] [⟨88,3,[[(AV.lit (.slice A0 cd.length c0)),(I r3.2.at_),(IK .u64 r3.2.seed)]]⟩] [] (I r3.1) [] (I r3.1) [])] [] .raw [Qaw (PK.mk Try.prog (kv A0 cd)) 77 [⟨88,3,[[(AV.lit (.slice A0 cd.length c0)),(I (Qa0.mk p1.at_ p1.seed).at_),(IK .u64 (Qa0.mk p1.at_ p1.seed).seed)]]⟩] [(AV.ptr 0 0 0),(I p2)] [true] [⟨88,3,[[(AV.lit (.slice A0 cd.length c0)),(I r3.2.at_),(IK .u64 r3.2.seed)]]⟩] (I r3.1),(some (Qae.mk 88 3 [[(AV.lit (.slice A0 cd.length c0)),(I p1.at_),(IK .u64 p1.seed)]])=some (Qae.mk 88 3 [[(AV.lit (.slice A0 cd.length c0)),(I (Qa0.mk p1.at_ p1.seed).at_),(IK .u64 (Qa0.mk p1.at_ p1.seed).seed)]]))∧True,(Qa1 [[(AV.lit (.slice A0 cd.length c0)),(I (Qa0.mk p1.at_ p1.seed).at_),(IK .u64 (Qa0.mk p1.at_ p1.seed).seed)]]=true∧Qa4 [[(AV.lit (.slice A0 cd.length c0)),(I (Qa0.mk p1.at_ p1.seed).at_),(IK .u64 (Qa0.mk p1.at_ p1.seed).seed)]]=true)∧True,([[(AV.lit (.slice A0 cd.length c0)),(I r3.2.at_),(IK .u64 r3.2.seed)]].length=[[(AV.lit (.slice A0 cd.length c0)),(I (Qa0.mk p1.at_ p1.seed).at_),(IK .u64 (Qa0.mk p1.at_ p1.seed).seed)]].length)∧True,Z0.1=(I r3.1),Z0.2.1=[],[[(AV.lit (.slice A0 cd.length c0)),(I r3.2.at_),(IK .u64 r3.2.seed)]]=[[(AV.lit (.slice A0 cd.length c0)),(I (Qa0.mk r3.2.at_ r3.2.seed).at_),(IK .u64 (Qa0.mk r3.2.at_ r3.2.seed).seed)]],Qa1 [[(AV.lit (.slice A0 cd.length c0)),(I (Qa0.mk r3.2.at_ r3.2.seed).at_),(IK .u64 (Qa0.mk r3.2.at_ r3.2.seed).seed)]]=true,Qa4 [[(AV.lit (.slice A0 cd.length c0)),(I (Qa0.mk r3.2.at_ r3.2.seed).at_),(IK .u64 (Qa0.mk r3.2.at_ r3.2.seed).seed)]]=true,Z1=Z1,Qa8 Z1=true] ⟨(Qaj hr3),⟨rfl,trivial⟩,⟨⟨rfl,rfl⟩,trivial⟩,⟨rfl,trivial⟩,rfl,rfl,rfl,rfl,rfl,rfl,rfl,trivial⟩)
noncomputable def Xik:Code:=match Try.f169.body with | some c=>c | none=>.skip
noncomputable def Qjp  : Option Nat:=
 some (fng 0)
theorem Qqk  {r:Nat} (h:Qjp  = some r) : Qab Try.prog 169 [] (FK r):=by
 refine gM Try.func169 4 Xik fun E hP hn hx=>?_
 unfold Qjp at h
 obtain rfl:=sj h
 exact gR hP hn [hh 3 (.cnv (FK (fng 0)))] [] .raw [UnS Try.prog .neg (FK 0) (FK (fng 0)),(FK (fng 0))=(FK (fng 0)),Qa8 (FK (fng 0))=true] ⟨uNeg,rfl,rfl,trivial⟩
noncomputable def Qyl:Code:=match Try.f170.body with | some c=>c | none=>.skip
noncomputable def Qd4   : Nat→Nat→Int→Option Nat
 | 0,_,_=>none
 | n+1,v7,v8 =>
 if (decide (v8<0))=true then
  Qd4 n (fdv v7 4611686018427387904) (w64 (v8+1))
 else
  some v7
theorem Qny {E:Env} (hP:E.pk=pk0 Try.prog) (hn:E.n=18) (hx:FX E [])   : ∀ (n:Nat) (v7:Nat) (v8:Int) (r:Nat),Qd4  n v7 v8=some r→WAt E Qyl (FQ (Qdu Θ Try.f170.results.toList [] [] (FK r) E)) [true,true,false,false] ⟨[(0,(FK v7)),(1,(I v8))],[],[JJ]⟩:=by
 intro n
 induction n with
 | zero=>intro v7 v8 r h;simp only [Qd4] at h;cases h
 | succ n ih =>
  intro v7 v8 r h
  simp only [Qd4] at h
  let Z0:=fdv v7 4611686018427387904
  rcases itS h with ⟨c9,h⟩ | ⟨c10,h⟩
  ·exact gT hP hn hx [hT 2,hh 4 (.bin (FK Z0))] [] [0,1] [] [(decide (v8<0))=true,Qil Try.prog .quo 156 (FK v7) (FK 4611686018427387904) (FK Z0)] ⟨c9,Xje,trivial⟩ (ih (fdv v7 4611686018427387904) (w64 (v8+1)) _ h)
  ·obtain rfl:=sj h
   exact gR hP hn [hF 2] [] .raw [(decide (v8<0))=false,(FK v7)=(FK v7),Qa8 (FK v7)=true] ⟨c10,rfl,rfl,trivial⟩
noncomputable def Qd1   : Nat→Nat→Int→Option Nat
 | 0,_,_=>none
 | n+1,v3,v4 =>
 if (decide (v4 > 0))=true then
  Qd1 n (fml v3 4611686018427387904) (w64 (v4 - 1))
 else
  Qd4 FU v3 v4
theorem Qoa {E:Env} (hP:E.pk=pk0 Try.prog) (hn:E.n=18) (hx:FX E [])   : ∀ (n:Nat) (v3:Nat) (v4:Int) (r:Nat),Qd1  n v3 v4=some r→WAt E Qyl (FQ (Qdu Θ Try.f170.results.toList [] [] (FK r) E)) [true,false,false] ⟨[(0,(FK v3)),(1,(I v4))],[],[JJ]⟩:=by
 intro n
 induction n with
 | zero=>intro v3 v4 r h;simp only [Qd1] at h;cases h
 | succ n ih =>
  intro v3 v4 r h
  simp only [Qd1] at h
  let Z0:=fml v3 4611686018427387904
  rcases itS h with ⟨c5,h⟩ | ⟨c6,h⟩
  ·exact gT hP hn hx [hT 2,hh 4 (.bin (FK Z0))] [] [0,1] [] [(decide (v4 > 0))=true,Qil Try.prog .mul 156 (FK v3) (FK 4611686018427387904) (FK Z0)] ⟨c5,fMul,trivial⟩ (ih (fml v3 4611686018427387904) (w64 (v4 - 1)) _ h)
  ·exact gT hP hn hx [hF 2] [] [0,1] [] [(decide (v4 > 0))=false] ⟨c6,trivial⟩ (Qny hP hn hx FU v3 v4 _ h)
noncomputable def Qg0 (p1:Nat) (p2:Int) : Option Nat:=
 Qd1 FU p1 p2
theorem Qld {p1:Nat} {p2:Int} {r:Nat} (h:Qg0 p1 p2=some r) : Qab Try.prog 170 [(FK p1),(I p2)] (FK r):=by
 refine gM Try.func170 18 Qyl fun E hP hn hx=>?_
 unfold Qg0 at h
 exact gT hP hn hx [] [] [0,1] [] [] trivial (Qoa hP hn hx FU p1 p2 _ h)
noncomputable def Xin:Code:=match Try.f151.body with | some c=>c | none=>.skip
noncomputable def Qee (cd:(List Int)) (p1:Qa0) : Option (Nat×Qa0):=
 Option.bind (Qai cd (Qa0.mk p1.at_ p1.seed) 12) fun r2 =>
 if (r2.1 == 0)=true then
  some ((fdv 0 0),(Qa0.mk r2.2.at_ r2.2.seed))
 else
  if (r2.1 == 1)=true then
   some ((fdv 4607182418800017408 0),(Qa0.mk r2.2.at_ r2.2.seed))
  else
   if (r2.1 == 2)=true then
    some ((fdv 13830554455654793216 0),(Qa0.mk r2.2.at_ r2.2.seed))
   else
    if (r2.1 == 3)=true then
     Option.bind (Qjp) fun r10 =>
     some (r10,(Qa0.mk r2.2.at_ r2.2.seed))
    else
     if (r2.1 == 4)=true then
      Option.bind (Qai cd (Qa0.mk r2.2.at_ r2.2.seed) 9) fun r13 =>
      Option.bind (Qbz cd (Qa0.mk r13.2.at_ r13.2.seed) [(-1074),(-1070),(-1022),1019,1020,(-3),52]) fun r14 =>
      Option.bind (Qg0 (fad 4607182418800017408 (fOf r13.1)) r14.1) fun r15 =>
      some (r15,(Qa0.mk r14.2.at_ r14.2.seed))
     else
      if (r2.1 == 5)=true then
       Option.bind (Qai cd (Qa0.mk r2.2.at_ r2.2.seed) 99) fun r18 =>
       Option.bind (Qai cd (Qa0.mk r18.2.at_ r18.2.seed) 9) fun r19 =>
       Option.bind (Qg0 (fad 4607182418800017408 (fOf r18.1)) (w64 (r19.1 - 4))) fun r20 =>
       some ((fng r20),(Qa0.mk r19.2.at_ r19.2.seed))
      else
       Option.bind (Qai cd (Qa0.mk r2.2.at_ r2.2.seed) 5) fun r23 =>
       some ((fOf (w64 (r23.1 - 1))),(Qa0.mk r23.2.at_ r23.2.seed))
theorem Qi5 {cd:(List Int)} {p1:Qa0} {A0:Option Addr} {c0:Nat} {r:(Nat×Qa0)} (h:Qee cd p1=some r) : Qaw (PK.mk Try.prog (kv A0 cd)) 151 [⟨88,3,[[(AV.lit (.slice A0 (List.length cd) c0)),(I p1.at_),(IK .u64 p1.seed)]]⟩] [(AV.ptr 0 0 0)] [true] [⟨88,3,[[(AV.lit (.slice A0 (List.length cd) c0)),(I r.2.at_),(IK .u64 r.2.seed)]]⟩] (FK r.1):=by
 refine Qfc (X:=PK.mk Try.prog (kv A0 cd)) Qxi Try.func151 rfl (c:=Xin) (by kernel_rfl) (Nat.le_of_ble_eq_true rfl) rfl (Nat.le_of_ble_eq_true rfl) rfl (fr:=[0]) (frI rfl) ?_
 intro E hP hn hx
 replace hn:E.n=47:=hn
 unfold Qee at h
 obtain ⟨r2,hr2,h⟩:=bnS h
 let Z0:=kv A0 cd;let Z1:=AV.ptr 0 0 0;let Z2:=rtf (Qe3 [(0,0)] (I r2.1)) [];let Z3:=fdv 0 0;let Z4:=fdv 4607182418800017408 0;let Z5:=fdv 13830554455654793216 0;let Z6:=r2.1 == 3;let Z10:=[(-1074),(-1070),(-1022),1019,1020,(-3),52].map o3
 let H1:List Hn:=[hh 3 (.callX [0] [true] [⟨88,3,[[(AV.lit (.slice A0 cd.length c0)),(I (Qa0.mk p1.at_ p1.seed).at_),(IK .u64 (Qa0.mk p1.at_ p1.seed).seed)]]⟩] [⟨88,3,[[(AV.lit (.slice A0 cd.length c0)),(I r2.2.at_),(IK .u64 r2.2.seed)]]⟩] [] (I r2.1) [] (I r2.1) [])]
 let P2:List Prop:=[Qaw (PK.mk Try.prog Z0) 77 [⟨88,3,[[(AV.lit (.slice A0 cd.length c0)),(I (Qa0.mk p1.at_ p1.seed).at_),(IK .u64 (Qa0.mk p1.at_ p1.seed).seed)]]⟩] [Z1,(I 12)] [true] [⟨88,3,[[(AV.lit (.slice A0 cd.length c0)),(I r2.2.at_),(IK .u64 r2.2.seed)]]⟩] (I r2.1),(some (Qae.mk 88 3 [[(AV.lit (.slice A0 cd.length c0)),(I p1.at_),(IK .u64 p1.seed)]])=some (Qae.mk 88 3 [[(AV.lit (.slice A0 cd.length c0)),(I (Qa0.mk p1.at_ p1.seed).at_),(IK .u64 (Qa0.mk p1.at_ p1.seed).seed)]]))∧True,(Qa1 [[(AV.lit (.slice A0 cd.length c0)),(I (Qa0.mk p1.at_ p1.seed).at_),(IK .u64 (Qa0.mk p1.at_ p1.seed).seed)]]=true∧Qa4 [[(AV.lit (.slice A0 cd.length c0)),(I (Qa0.mk p1.at_ p1.seed).at_),(IK .u64 (Qa0.mk p1.at_ p1.seed).seed)]]=true)∧True,([[(AV.lit (.slice A0 cd.length c0)),(I r2.2.at_),(IK .u64 r2.2.seed)]].length=[[(AV.lit (.slice A0 cd.length c0)),(I (Qa0.mk p1.at_ p1.seed).at_),(IK .u64 (Qa0.mk p1.at_ p1.seed).seed)]].length)∧True,Z2.1=(I r2.1),Z2.2.1=[]]
 have AP2:Qb0 P2:=⟨(Qaj hr2),⟨rfl,trivial⟩,⟨⟨rfl,rfl⟩,trivial⟩,⟨rfl,trivial⟩,rfl,rfl,trivial⟩
 rcases itS h with ⟨c3,h⟩ | ⟨c4,h⟩
 ·obtain rfl:=sj h
  exact gR hP hn (H1++[hT 6,hh 9 (.bin (FK Z3))]) [] .raw (P2++[(r2.1 == 0)=true,Qil Try.prog .quo 156 (FK 0) (FK 0) (FK Z3),[[(AV.lit (.slice A0 cd.length c0)),(I r2.2.at_),(IK .u64 r2.2.seed)]]=[[(AV.lit (.slice A0 cd.length c0)),(I (Qa0.mk r2.2.at_ r2.2.seed).at_),(IK .u64 (Qa0.mk r2.2.at_ r2.2.seed).seed)]],Qa1 [[(AV.lit (.slice A0 cd.length c0)),(I (Qa0.mk r2.2.at_ r2.2.seed).at_),(IK .u64 (Qa0.mk r2.2.at_ r2.2.seed).seed)]]=true,Qa4 [[(AV.lit (.slice A0 cd.length c0)),(I (Qa0.mk r2.2.at_ r2.2.seed).at_),(IK .u64 (Qa0.mk r2.2.at_ r2.2.seed).seed)]]=true,(FK Z3)=(FK Z3),Qa8 (FK Z3)=true]) (Qag AP2 ⟨c3,Xje,rfl,rfl,rfl,rfl,rfl,trivial⟩)
 ·let P3:List Prop:=P2++[(r2.1 == 0)=false]
  have AP3:Qb0 P3:=Qag AP2 ⟨c4,trivial⟩
  rcases itS h with ⟨c5,h⟩ | ⟨c6,h⟩
  ·obtain rfl:=sj h
   exact gR hP hn (H1++[hF 6,hT 9,hh 11 (.bin (FK Z4))]) [] .raw (P3++[(r2.1 == 1)=true,Qil Try.prog .quo 156 (FK 4607182418800017408) (FK 0) (FK Z4),[[(AV.lit (.slice A0 cd.length c0)),(I r2.2.at_),(IK .u64 r2.2.seed)]]=[[(AV.lit (.slice A0 cd.length c0)),(I (Qa0.mk r2.2.at_ r2.2.seed).at_),(IK .u64 (Qa0.mk r2.2.at_ r2.2.seed).seed)]],Qa1 [[(AV.lit (.slice A0 cd.length c0)),(I (Qa0.mk r2.2.at_ r2.2.seed).at_),(IK .u64 (Qa0.mk r2.2.at_ r2.2.seed).seed)]]=true,Qa4 [[(AV.lit (.slice A0 cd.length c0)),(I (Qa0.mk r2.2.at_ r2.2.seed).at_),(IK .u64 (Qa0.mk r2.2.at_ r2.2.seed).seed)]]=true,(FK Z4)=(FK Z4),Qa8 (FK Z4)=true]) (Qag AP3 ⟨c5,Xje,rfl,rfl,rfl,rfl,rfl,trivial⟩)
  ·rcases itS h with ⟨c7,h⟩ | ⟨c8,h⟩
   ·obtain rfl:=sj h
    exact gR hP hn (H1++[hF 6,hF 9,hT 12,hh 14 (.bin (FK Z5))]) [] .raw (P3++[(r2.1 == 1)=false,(r2.1 == 2)=true,Qil Try.prog .quo 156 (FK 13830554455654793216) (FK 0) (FK Z5),[[(AV.lit (.slice A0 cd.length c0)),(I r2.2.at_),(IK .u64 r2.2.seed)]]=[[(AV.lit (.slice A0 cd.length c0)),(I (Qa0.mk r2.2.at_ r2.2.seed).at_),(IK .u64 (Qa0.mk r2.2.at_ r2.2.seed).seed)]],Qa1 [[(AV.lit (.slice A0 cd.length c0)),(I (Qa0.mk r2.2.at_ r2.2.seed).at_),(IK .u64 (Qa0.mk r2.2.at_ r2.2.seed).seed)]]=true,Qa4 [[(AV.lit (.slice A0 cd.length c0)),(I (Qa0.mk r2.2.at_ r2.2.seed).at_),(IK .u64 (Qa0.mk r2.2.at_ r2.2.seed).seed)]]=true,(FK Z5)=(FK Z5),Qa8 (FK Z5)=true]) (Qag AP3 ⟨c6,c7,Xje,rfl,rfl,rfl,rfl,rfl,trivial⟩)
   ·let P4:List Prop:=P3++[(r2.1 == 1)=false,(r2.1 == 2)=false]
    have AP4:Qb0 P4:=Qag AP3 ⟨c6,c8,trivial⟩
    rcases itS h with ⟨c9,h⟩ | ⟨c11,h⟩
    ·obtain ⟨r10,hr10,h⟩:=bnS h
     obtain rfl:=sj h
     exact gR hP hn (H1++[hF 6,hF 9,hF 12,hT 15,hh 16 (.callV [] (FK r10))]) [] .raw (P4++[Z6=true,Qab Try.prog 169 [] (FK r10),Qa8 (FK r10)=true,[[(AV.lit (.slice A0 cd.length c0)),(I r2.2.at_),(IK .u64 r2.2.seed)]]=[[(AV.lit (.slice A0 cd.length c0)),(I (Qa0.mk r2.2.at_ r2.2.seed).at_),(IK .u64 (Qa0.mk r2.2.at_ r2.2.seed).seed)]],Qa1 [[(AV.lit (.slice A0 cd.length c0)),(I (Qa0.mk r2.2.at_ r2.2.seed).at_),(IK .u64 (Qa0.mk r2.2.at_ r2.2.seed).seed)]]=true,Qa4 [[(AV.lit (.slice A0 cd.length c0)),(I (Qa0.mk r2.2.at_ r2.2.seed).at_),(IK .u64 (Qa0.mk r2.2.at_ r2.2.seed).seed)]]=true,(FK r10)=(FK r10),Qa8 (FK r10)=true]) (Qag AP4 ⟨c9,(Qqk hr10),rfl,rfl,rfl,rfl,rfl,rfl,trivial⟩)
    ·rcases itS h with ⟨c12,h⟩ | ⟨c16,h⟩
     ·obtain ⟨r13,hr13,h⟩:=bnS h
      obtain ⟨r14,hr14,h⟩:=bnS h
      obtain ⟨r15,hr15,h⟩:=bnS h
      obtain rfl:=sj h
      exact (let Z7:=I r13.1;let Z8:=fOf r13.1;let Z9:=fad 4607182418800017408 Z8;let Z11:=I r14.1;let Z12:=rtf (Qe3 [(0,0)] Z7) [];let Z13:=rtf (Qe3 [(0,0)] Z11) [];gR hP hn (H1++[hF 6,hF 9,hF 12,hF 15,hT 18,hh 20 (.callX [0] [true] [⟨88,3,[[(AV.lit (.slice A0 cd.length c0)),(I (Qa0.mk r2.2.at_ r2.2.seed).at_),(IK .u64 (Qa0.mk r2.2.at_ r2.2.seed).seed)]]⟩] [⟨88,3,[[(AV.lit (.slice A0 cd.length c0)),(I r13.2.at_),(IK .u64 r13.2.seed)]]⟩] [] Z7 [] Z7 []),hh 21 (.cnv (FK Z8)),hh 22 (.bin (FK Z9)),hW 24 1001,hh 25 (.callX [0] [true] [⟨88,3,[[(AV.lit (.slice A0 cd.length c0)),(I (Qa0.mk r13.2.at_ r13.2.seed).at_),(IK .u64 (Qa0.mk r13.2.at_ r13.2.seed).seed)]]⟩] [⟨88,3,[[(AV.lit (.slice A0 cd.length c0)),(I r14.2.at_),(IK .u64 r14.2.seed)]]⟩] [Z10] Z11 [] Z11 []),hh 26 (.callV [] (FK r15))]) [] .raw (P4++[Z6=false,(r2.1 == 4)=true,Qaw (PK.mk Try.prog Z0) 77 [⟨88,3,[[(AV.lit (.slice A0 cd.length c0)),(I (Qa0.mk r2.2.at_ r2.2.seed).at_),(IK .u64 (Qa0.mk r2.2.at_ r2.2.seed).seed)]]⟩] [Z1,(I 9)] [true] [⟨88,3,[[(AV.lit (.slice A0 cd.length c0)),(I r13.2.at_),(IK .u64 r13.2.seed)]]⟩] Z7,(some (Qae.mk 88 3 [[(AV.lit (.slice A0 cd.length c0)),(I r2.2.at_),(IK .u64 r2.2.seed)]])=some (Qae.mk 88 3 [[(AV.lit (.slice A0 cd.length c0)),(I (Qa0.mk r2.2.at_ r2.2.seed).at_),(IK .u64 (Qa0.mk r2.2.at_ r2.2.seed).seed)]]))∧True,(Qa1 [[(AV.lit (.slice A0 cd.length c0)),(I (Qa0.mk r2.2.at_ r2.2.seed).at_),(IK .u64 (Qa0.mk r2.2.at_ r2.2.seed).seed)]]=true∧Qa4 [[(AV.lit (.slice A0 cd.length c0)),(I (Qa0.mk r2.2.at_ r2.2.seed).at_),(IK .u64 (Qa0.mk r2.2.at_ r2.2.seed).seed)]]=true)∧True,([[(AV.lit (.slice A0 cd.length c0)),(I r13.2.at_),(IK .u64 r13.2.seed)]].length=[[(AV.lit (.slice A0 cd.length c0)),(I (Qa0.mk r2.2.at_ r2.2.seed).at_),(IK .u64 (Qa0.mk r2.2.at_ r2.2.seed).seed)]].length)∧True,Z12.1=Z7,Z12.2.1=[],Xb9 Try.prog 3 156 Z7 (FK Z8),Qil Try.prog .add 156 (FK 4607182418800017408) (FK Z8) (FK Z9),Qaw (PK.mk Try.prog Z0) 84 [⟨88,3,[[(AV.lit (.slice A0 cd.length c0)),(I (Qa0.mk r13.2.at_ r13.2.seed).at_),(IK .u64 (Qa0.mk r13.2.at_ r13.2.seed).seed)]]⟩] [Z1,(AV.ro 1 Z10)] [true] [⟨88,3,[[(AV.lit (.slice A0 cd.length c0)),(I r14.2.at_),(IK .u64 r14.2.seed)]]⟩] Z11,(some (Qae.mk 88 3 [[(AV.lit (.slice A0 cd.length c0)),(I r13.2.at_),(IK .u64 r13.2.seed)]])=some (Qae.mk 88 3 [[(AV.lit (.slice A0 cd.length c0)),(I (Qa0.mk r13.2.at_ r13.2.seed).at_),(IK .u64 (Qa0.mk r13.2.at_ r13.2.seed).seed)]]))∧True,(Qa1 [[(AV.lit (.slice A0 cd.length c0)),(I (Qa0.mk r13.2.at_ r13.2.seed).at_),(IK .u64 (Qa0.mk r13.2.at_ r13.2.seed).seed)]]=true∧Qa4 [[(AV.lit (.slice A0 cd.length c0)),(I (Qa0.mk r13.2.at_ r13.2.seed).at_),(IK .u64 (Qa0.mk r13.2.at_ r13.2.seed).seed)]]=true)∧True,([[(AV.lit (.slice A0 cd.length c0)),(I r14.2.at_),(IK .u64 r14.2.seed)]].length=[[(AV.lit (.slice A0 cd.length c0)),(I (Qa0.mk r13.2.at_ r13.2.seed).at_),(IK .u64 (Qa0.mk r13.2.at_ r13.2.seed).seed)]].length)∧True,Z13.1=Z11,Z13.2.1=[],Frz ((Z10.drop 0).take Z10.length) Z10,Qab Try.prog 170 [(FK Z9),Z11] (FK r15),Qa8 (FK r15)=true,[[(AV.lit (.slice A0 cd.length c0)),(I r14.2.at_),(IK .u64 r14.2.seed)]]=[[(AV.lit (.slice A0 cd.length c0)),(I (Qa0.mk r14.2.at_ r14.2.seed).at_),(IK .u64 (Qa0.mk r14.2.at_ r14.2.seed).seed)]],Qa1 [[(AV.lit (.slice A0 cd.length c0)),(I (Qa0.mk r14.2.at_ r14.2.seed).at_),(IK .u64 (Qa0.mk r14.2.at_ r14.2.seed).seed)]]=true,Qa4 [[(AV.lit (.slice A0 cd.length c0)),(I (Qa0.mk r14.2.at_ r14.2.seed).at_),(IK .u64 (Qa0.mk r14.2.at_ r14.2.seed).seed)]]=true,(FK r15)=(FK r15),Qa8 (FK r15)=true]) (Qag AP4 ⟨c11,c12,(Qaj hr13),⟨rfl,trivial⟩,⟨⟨rfl,rfl⟩,trivial⟩,⟨rfl,trivial⟩,rfl,rfl,(cIF (P:=Try.prog) ty3 Qv6),fAdd,(Qcz hr14),⟨rfl,trivial⟩,⟨⟨rfl,rfl⟩,trivial⟩,⟨rfl,trivial⟩,rfl,rfl,(Qlc t3 z3),(Qld hr15),rfl,rfl,rfl,rfl,rfl,rfl,trivial⟩))
     ·rcases itS h with ⟨c17,h⟩ | ⟨c21,h⟩
      ·obtain ⟨r18,hr18,h⟩:=bnS h
       obtain ⟨r19,hr19,h⟩:=bnS h
       obtain ⟨r20,hr20,h⟩:=bnS h
       obtain rfl:=sj h
       exact (let Z14:=I r18.1;let Z15:=fOf r18.1;let Z16:=fad 4607182418800017408 Z15;let Z17:=I r19.1;let Z18:=fng r20;let Z19:=rtf (Qe3 [(0,0)] Z14) [];let Z20:=rtf (Qe3 [(0,0)] Z17) [];gR hP hn (H1++[hF 6,hF 9,hF 12,hF 15,hF 18,hT 21,hh 23 (.callX [0] [true] [⟨88,3,[[(AV.lit (.slice A0 cd.length c0)),(I (Qa0.mk r2.2.at_ r2.2.seed).at_),(IK .u64 (Qa0.mk r2.2.at_ r2.2.seed).seed)]]⟩] [⟨88,3,[[(AV.lit (.slice A0 cd.length c0)),(I r18.2.at_),(IK .u64 r18.2.seed)]]⟩] [] Z14 [] Z14 []),hh 24 (.cnv (FK Z15)),hh 25 (.bin (FK Z16)),hh 27 (.callX [0] [true] [⟨88,3,[[(AV.lit (.slice A0 cd.length c0)),(I (Qa0.mk r18.2.at_ r18.2.seed).at_),(IK .u64 (Qa0.mk r18.2.at_ r18.2.seed).seed)]]⟩] [⟨88,3,[[(AV.lit (.slice A0 cd.length c0)),(I r19.2.at_),(IK .u64 r19.2.seed)]]⟩] [] Z17 [] Z17 []),hh 29 (.callV [] (FK r20)),hh 30 (.cnv (FK Z18))]) [] .raw (P4++[Z6=false,(r2.1 == 4)=false,(r2.1 == 5)=true,Qaw (PK.mk Try.prog Z0) 77 [⟨88,3,[[(AV.lit (.slice A0 cd.length c0)),(I (Qa0.mk r2.2.at_ r2.2.seed).at_),(IK .u64 (Qa0.mk r2.2.at_ r2.2.seed).seed)]]⟩] [Z1,(I 99)] [true] [⟨88,3,[[(AV.lit (.slice A0 cd.length c0)),(I r18.2.at_),(IK .u64 r18.2.seed)]]⟩] Z14,(some (Qae.mk 88 3 [[(AV.lit (.slice A0 cd.length c0)),(I r2.2.at_),(IK .u64 r2.2.seed)]])=some (Qae.mk 88 3 [[(AV.lit (.slice A0 cd.length c0)),(I (Qa0.mk r2.2.at_ r2.2.seed).at_),(IK .u64 (Qa0.mk r2.2.at_ r2.2.seed).seed)]]))∧True,(Qa1 [[(AV.lit (.slice A0 cd.length c0)),(I (Qa0.mk r2.2.at_ r2.2.seed).at_),(IK .u64 (Qa0.mk r2.2.at_ r2.2.seed).seed)]]=true∧Qa4 [[(AV.lit (.slice A0 cd.length c0)),(I (Qa0.mk r2.2.at_ r2.2.seed).at_),(IK .u64 (Qa0.mk r2.2.at_ r2.2.seed).seed)]]=true)∧True,([[(AV.lit (.slice A0 cd.length c0)),(I r18.2.at_),(IK .u64 r18.2.seed)]].length=[[(AV.lit (.slice A0 cd.length c0)),(I (Qa0.mk r2.2.at_ r2.2.seed).at_),(IK .u64 (Qa0.mk r2.2.at_ r2.2.seed).seed)]].length)∧True,Z19.1=Z14,Z19.2.1=[],Xb9 Try.prog 3 156 Z14 (FK Z15),Qil Try.prog .add 156 (FK 4607182418800017408) (FK Z15) (FK Z16),Qaw (PK.mk Try.prog Z0) 77 [⟨88,3,[[(AV.lit (.slice A0 cd.length c0)),(I (Qa0.mk r18.2.at_ r18.2.seed).at_),(IK .u64 (Qa0.mk r18.2.at_ r18.2.seed).seed)]]⟩] [Z1,(I 9)] [true] [⟨88,3,[[(AV.lit (.slice A0 cd.length c0)),(I r19.2.at_),(IK .u64 r19.2.seed)]]⟩] Z17,(some (Qae.mk 88 3 [[(AV.lit (.slice A0 cd.length c0)),(I r18.2.at_),(IK .u64 r18.2.seed)]])=some (Qae.mk 88 3 [[(AV.lit (.slice A0 cd.length c0)),(I (Qa0.mk r18.2.at_ r18.2.seed).at_),(IK .u64 (Qa0.mk r18.2.at_ r18.2.seed).seed)]]))∧True,(Qa1 [[(AV.lit (.slice A0 cd.length c0)),(I (Qa0.mk r18.2.at_ r18.2.seed).at_),(IK .u64 (Qa0.mk r18.2.at_ r18.2.seed).seed)]]=true∧Qa4 [[(AV.lit (.slice A0 cd.length c0)),(I (Qa0.mk r18.2.at_ r18.2.seed).at_),(IK .u64 (Qa0.mk r18.2.at_ r18.2.seed).seed)]]=true)∧True,([[(AV.lit (.slice A0 cd.length c0)),(I r19.2.at_),(IK .u64 r19.2.seed)]].length=[[(AV.lit (.slice A0 cd.length c0)),(I (Qa0.mk r18.2.at_ r18.2.seed).at_),(IK .u64 (Qa0.mk r18.2.at_ r18.2.seed).seed)]].length)∧True,Z20.1=Z17,Z20.2.1=[],Qab Try.prog 170 [(FK Z16),(I (w64 (r19.1 - 4)))] (FK r20),Qa8 (FK r20)=true,UnS Try.prog .neg (FK r20) (FK Z18),[[(AV.lit (.slice A0 cd.length c0)),(I r19.2.at_),(IK .u64 r19.2.seed)]]=[[(AV.lit (.slice A0 cd.length c0)),(I (Qa0.mk r19.2.at_ r19.2.seed).at_),(IK .u64 (Qa0.mk r19.2.at_ r19.2.seed).seed)]],Qa1 [[(AV.lit (.slice A0 cd.length c0)),(I (Qa0.mk r19.2.at_ r19.2.seed).at_),(IK .u64 (Qa0.mk r19.2.at_ r19.2.seed).seed)]]=true,Qa4 [[(AV.lit (.slice A0 cd.length c0)),(I (Qa0.mk r19.2.at_ r19.2.seed).at_),(IK .u64 (Qa0.mk r19.2.at_ r19.2.seed).seed)]]=true,(FK Z18)=(FK Z18),Qa8 (FK Z18)=true]) (Qag AP4 ⟨c11,c16,c17,(Qaj hr18),⟨rfl,trivial⟩,⟨⟨rfl,rfl⟩,trivial⟩,⟨rfl,trivial⟩,rfl,rfl,(cIF (P:=Try.prog) ty3 Qv6),fAdd,(Qaj hr19),⟨rfl,trivial⟩,⟨⟨rfl,rfl⟩,trivial⟩,⟨rfl,trivial⟩,rfl,rfl,(Qld hr20),rfl,uNeg,rfl,rfl,rfl,rfl,rfl,trivial⟩))
      ·obtain ⟨r23,hr23,h⟩:=bnS h
       obtain rfl:=sj h
       exact (let Z21:=I r23.1;let Z22:=fOf (w64 (r23.1 - 1));let Z23:=rtf (Qe3 [(0,0)] Z21) [];gR hP hn (H1++[hF 6,hF 9,hF 12,hF 15,hF 18,hF 21,hh 23 (.callX [0] [true] [⟨88,3,[[(AV.lit (.slice A0 cd.length c0)),(I (Qa0.mk r2.2.at_ r2.2.seed).at_),(IK .u64 (Qa0.mk r2.2.at_ r2.2.seed).seed)]]⟩] [⟨88,3,[[(AV.lit (.slice A0 cd.length c0)),(I r23.2.at_),(IK .u64 r23.2.seed)]]⟩] [] Z21 [] Z21 []),hh 25 (.cnv (FK Z22))]) [] .raw (P4++[Z6=false,(r2.1 == 4)=false,(r2.1 == 5)=false,Qaw (PK.mk Try.prog Z0) 77 [⟨88,3,[[(AV.lit (.slice A0 cd.length c0)),(I (Qa0.mk r2.2.at_ r2.2.seed).at_),(IK .u64 (Qa0.mk r2.2.at_ r2.2.seed).seed)]]⟩] [Z1,(I 5)] [true] [⟨88,3,[[(AV.lit (.slice A0 cd.length c0)),(I r23.2.at_),(IK .u64 r23.2.seed)]]⟩] Z21,(some (Qae.mk 88 3 [[(AV.lit (.slice A0 cd.length c0)),(I r2.2.at_),(IK .u64 r2.2.seed)]])=some (Qae.mk 88 3 [[(AV.lit (.slice A0 cd.length c0)),(I (Qa0.mk r2.2.at_ r2.2.seed).at_),(IK .u64 (Qa0.mk r2.2.at_ r2.2.seed).seed)]]))∧True,(Qa1 [[(AV.lit (.slice A0 cd.length c0)),(I (Qa0.mk r2.2.at_ r2.2.seed).at_),(IK .u64 (Qa0.mk r2.2.at_ r2.2.seed).seed)]]=true∧Qa4 [[(AV.lit (.slice A0 cd.length c0)),(I (Qa0.mk r2.2.at_ r2.2.seed).at_),(IK .u64 (Qa0.mk r2.2.at_ r2.2.seed).seed)]]=true)∧True,([[(AV.lit (.slice A0 cd.length c0)),(I r23.2.at_),(IK .u64 r23.2.seed)]].length=[[(AV.lit (.slice A0 cd.length c0)),(I (Qa0.mk r2.2.at_ r2.2.seed).at_),(IK .u64 (Qa0.mk r2.2.at_ r2.2.seed).seed)]].length)∧True,Z23.1=Z21,Z23.2.1=[],Xb9 Try.prog 3 156 (I (w64 (r23.1 - 1))) (FK Z22),[[(AV.lit (.slice A0 cd.length c0)),(I r23.2.at_),(IK .u64 r23.2.seed)]]=[[(AV.lit (.slice A0 cd.length c0)),(I (Qa0.mk r23.2.at_ r23.2.seed).at_),(IK .u64 (Qa0.mk r23.2.at_ r23.2.seed).seed)]],Qa1 [[(AV.lit (.slice A0 cd.length c0)),(I (Qa0.mk r23.2.at_ r23.2.seed).at_),(IK .u64 (Qa0.mk r23.2.at_ r23.2.seed).seed)]]=true,Qa4 [[(AV.lit (.slice A0 cd.length c0)),(I (Qa0.mk r23.2.at_ r23.2.seed).at_),(IK .u64 (Qa0.mk r23.2.at_ r23.2.seed).seed)]]=true,(FK Z22)=(FK Z22),Qa8 (FK Z22)=true]) (Qag AP4 ⟨c11,c16,c21,(Qaj hr23),⟨rfl,trivial⟩,⟨⟨rfl,rfl⟩,trivial⟩,⟨rfl,trivial⟩,rfl,rfl,(cIF (P:=Try.prog) ty3 Qv6),rfl,rfl,rfl,rfl,rfl,trivial⟩))
noncomputable def Xhd:Code:=match Try.f150.body with | some c=>c | none=>.skip
noncomputable def Qdo (cd:(List Int)) (p1:Qa0) (p2:Int) : Option ((List GOp)×Qa0):=
 Option.bind (Qai cd (Qa0.mk p1.at_ p1.seed) 8) fun r3 =>
 if (r3.1 == 0)=true then
  some ([(GOp.mk 12 0 0 0),(GOp.mk 2 p2 0 0),(GOp.mk 1 0 0 4607182418800017408),(GOp.mk 4 0 0 0),(GOp.mk 3 p2 0 0),(GOp.mk 13 0 0 0)],(Qa0.mk r3.2.at_ r3.2.seed))
 else
  if (r3.1 == 1)=true then
   some ([(GOp.mk 12 1 0 0),(GOp.mk 12 0 0 0),(GOp.mk 13 0 0 0),(GOp.mk 13 1 0 0)],(Qa0.mk r3.2.at_ r3.2.seed))
  else
   if (r3.1 == 2)=true then
    some ([(GOp.mk 12 0 0 0),(GOp.mk 12 1 0 0),(GOp.mk 13 1 0 0),(GOp.mk 13 0 0 0)],(Qa0.mk r3.2.at_ r3.2.seed))
   else
    if (r3.1 == 3)=true then
     some ([(GOp.mk 12 0 0 0),(GOp.mk 16 0 0 0),(GOp.mk 13 0 0 0)],(Qa0.mk r3.2.at_ r3.2.seed))
    else
     if (r3.1 == 4)=true then
      some ([(GOp.mk 17 0 0 0)],(Qa0.mk r3.2.at_ r3.2.seed))
     else
      if (r3.1 == 5)=true then
       Option.bind (Qee cd (Qa0.mk r3.2.at_ r3.2.seed)) fun r15 =>
       Option.bind (Qbz cd (Qa0.mk r15.2.at_ r15.2.seed) [4,5,6,7,8,9]) fun r16 =>
       some ([(GOp.mk 2 p2 0 0),(GOp.mk 1 0 0 r15.1),(GOp.mk r16.1 0 0 0),(GOp.mk 3 p2 0 0)],(Qa0.mk r16.2.at_ r16.2.seed))
      else
       if (r3.1 == 6)=true then
        Option.bind (Qee cd (Qa0.mk r3.2.at_ r3.2.seed)) fun r19 =>
        some ([(GOp.mk 1 0 0 r19.1),(GOp.mk 3 p2 0 0)],(Qa0.mk r19.2.at_ r19.2.seed))
       else
        some ([(GOp.mk 2 p2 0 0),(GOp.mk 3 (w64 (1 - (Int.tmod p2 2))) 0 0)],(Qa0.mk r3.2.at_ r3.2.seed))
theorem Qh6 {cd:(List Int)} {p1:Qa0} {p2:Int} {A0:Option Addr} {c0:Nat} {r:((List GOp)×Qa0)} (h:Qdo cd p1 p2=some r) : Qaw (PK.mk Try.prog (kv A0 cd)) 150 [⟨88,3,[[(AV.lit (.slice A0 (List.length cd) c0)),(I p1.at_),(IK .u64 p1.seed)]]⟩] [(AV.ptr 0 0 0),(I p2)] [true] [⟨88,3,[[(AV.lit (.slice A0 (List.length cd) c0)),(I r.2.at_),(IK .u64 r.2.seed)]]⟩] (AV.own 158 4 (r.1.map Qcb)):=by
 refine Qfc (X:=PK.mk Try.prog (kv A0 cd)) Qxi Try.func150 rfl (c:=Xhd) (by kernel_rfl) (Nat.le_of_ble_eq_true rfl) rfl (Nat.le_of_ble_eq_true rfl) rfl (fr:=[0]) (frI rfl) ?_
 intro E hP hn hx
 replace hn:E.n=71:=hn
 unfold Qdo at h
 obtain ⟨r3,hr3,h⟩:=bnS h
 let Z0:=kv A0 cd;let Z1:=AV.ptr 0 0 0;let Z2:=rtf (Qe3 [(0,0)] (I r3.1)) [];let Z3:=[(GOp.mk 12 0 0 0),(GOp.mk 2 p2 0 0),(GOp.mk 1 0 0 4607182418800017408),(GOp.mk 4 0 0 0),(GOp.mk 3 p2 0 0),(GOp.mk 13 0 0 0)].map Qcb;let Z4:=[(GOp.mk 12 1 0 0),(GOp.mk 12 0 0 0),(GOp.mk 13 0 0 0),(GOp.mk 13 1 0 0)].map Qcb;let Z5:=[(GOp.mk 12 0 0 0),(GOp.mk 12 1 0 0),(GOp.mk 13 1 0 0),(GOp.mk 13 0 0 0)].map Qcb;let Z6:=[(GOp.mk 12 0 0 0),(GOp.mk 16 0 0 0),(GOp.mk 13 0 0 0)].map Qcb;let Z7:=r3.1 == 4;let Z8:=[(GOp.mk 17 0 0 0)].map Qcb;let Z9:=[4,5,6,7,8,9].map o3;let Z16:=[(GOp.mk 2 p2 0 0),(GOp.mk 3 (w64 (1 - (Int.tmod p2 2))) 0 0)].map Qcb
 let H1:List Hn:=[hh 2 (.callX [0] [true] [⟨88,3,[[(AV.lit (.slice A0 cd.length c0)),(I (Qa0.mk p1.at_ p1.seed).at_),(IK .u64 (Qa0.mk p1.at_ p1.seed).seed)]]⟩] [⟨88,3,[[(AV.lit (.slice A0 cd.length c0)),(I r3.2.at_),(IK .u64 r3.2.seed)]]⟩] [] (I r3.1) [] (I r3.1) [])]
 let P2:List Prop:=[Qaw (PK.mk Try.prog Z0) 77 [⟨88,3,[[(AV.lit (.slice A0 cd.length c0)),(I (Qa0.mk p1.at_ p1.seed).at_),(IK .u64 (Qa0.mk p1.at_ p1.seed).seed)]]⟩] [Z1,(I 8)] [true] [⟨88,3,[[(AV.lit (.slice A0 cd.length c0)),(I r3.2.at_),(IK .u64 r3.2.seed)]]⟩] (I r3.1),(some (Qae.mk 88 3 [[(AV.lit (.slice A0 cd.length c0)),(I p1.at_),(IK .u64 p1.seed)]])=some (Qae.mk 88 3 [[(AV.lit (.slice A0 cd.length c0)),(I (Qa0.mk p1.at_ p1.seed).at_),(IK .u64 (Qa0.mk p1.at_ p1.seed).seed)]]))∧True,(Qa1 [[(AV.lit (.slice A0 cd.length c0)),(I (Qa0.mk p1.at_ p1.seed).at_),(IK .u64 (Qa0.mk p1.at_ p1.seed).seed)]]=true∧Qa4 [[(AV.lit (.slice A0 cd.length c0)),(I (Qa0.mk p1.at_ p1.seed).at_),(IK .u64 (Qa0.mk p1.at_ p1.seed).seed)]]=true)∧True,([[(AV.lit (.slice A0 cd.length c0)),(I r3.2.at_),(IK .u64 r3.2.seed)]].length=[[(AV.lit (.slice A0 cd.length c0)),(I (Qa0.mk p1.at_ p1.seed).at_),(IK .u64 (Qa0.mk p1.at_ p1.seed).seed)]].length)∧True,Z2.1=(I r3.1),Z2.2.1=[]]
 have AP2:Qb0 P2:=⟨(Qaj hr3),⟨rfl,trivial⟩,⟨⟨rfl,rfl⟩,trivial⟩,⟨rfl,trivial⟩,rfl,rfl,trivial⟩
 rcases itS h with ⟨c4,h⟩ | ⟨c5,h⟩
 ·obtain rfl:=sj h
  exact gR hP hn (H1++[hT 5,hW 14 1001]) [] .own (P2++[(r3.1 == 0)=true,[[(AV.lit (.slice A0 cd.length c0)),(I r3.2.at_),(IK .u64 r3.2.seed)]]=[[(AV.lit (.slice A0 cd.length c0)),(I (Qa0.mk r3.2.at_ r3.2.seed).at_),(IK .u64 (Qa0.mk r3.2.at_ r3.2.seed).seed)]],Qa1 [[(AV.lit (.slice A0 cd.length c0)),(I (Qa0.mk r3.2.at_ r3.2.seed).at_),(IK .u64 (Qa0.mk r3.2.at_ r3.2.seed).seed)]]=true,Qa4 [[(AV.lit (.slice A0 cd.length c0)),(I (Qa0.mk r3.2.at_ r3.2.seed).at_),(IK .u64 (Qa0.mk r3.2.at_ r3.2.seed).seed)]]=true,Qa1 (Z3.take Z3.length)=true,Z3.take Z3.length=Z3,Qa4 Z3=true]) (Qag AP2 ⟨c4,rfl,rfl,rfl,(Qay Qqs),Qax,(Qaa Xg9),trivial⟩)
 ·let P3:List Prop:=P2++[(r3.1 == 0)=false]
  have AP3:Qb0 P3:=Qag AP2 ⟨c5,trivial⟩
  rcases itS h with ⟨c6,h⟩ | ⟨c7,h⟩
  ·obtain rfl:=sj h
   exact gR hP hn (H1++[hF 5,hT 8,hW 13 1002]) [] .own (P3++[(r3.1 == 1)=true,[[(AV.lit (.slice A0 cd.length c0)),(I r3.2.at_),(IK .u64 r3.2.seed)]]=[[(AV.lit (.slice A0 cd.length c0)),(I (Qa0.mk r3.2.at_ r3.2.seed).at_),(IK .u64 (Qa0.mk r3.2.at_ r3.2.seed).seed)]],Qa1 [[(AV.lit (.slice A0 cd.length c0)),(I (Qa0.mk r3.2.at_ r3.2.seed).at_),(IK .u64 (Qa0.mk r3.2.at_ r3.2.seed).seed)]]=true,Qa4 [[(AV.lit (.slice A0 cd.length c0)),(I (Qa0.mk r3.2.at_ r3.2.seed).at_),(IK .u64 (Qa0.mk r3.2.at_ r3.2.seed).seed)]]=true,Qa1 (Z4.take Z4.length)=true,Z4.take Z4.length=Z4,Qa4 Z4=true]) (Qag AP3 ⟨c6,rfl,rfl,rfl,(Qay Qqs),Qax,(Qaa Xg9),trivial⟩)
  ·let P4:List Prop:=P3++[(r3.1 == 1)=false]
   have AP4:Qb0 P4:=Qag AP3 ⟨c7,trivial⟩
   rcases itS h with ⟨c8,h⟩ | ⟨c9,h⟩
   ·obtain rfl:=sj h
    exact gR hP hn (H1++[hF 5,hF 8,hT 11,hW 16 1003]) [] .own (P4++[(r3.1 == 2)=true,[[(AV.lit (.slice A0 cd.length c0)),(I r3.2.at_),(IK .u64 r3.2.seed)]]=[[(AV.lit (.slice A0 cd.length c0)),(I (Qa0.mk r3.2.at_ r3.2.seed).at_),(IK .u64 (Qa0.mk r3.2.at_ r3.2.seed).seed)]],Qa1 [[(AV.lit (.slice A0 cd.length c0)),(I (Qa0.mk r3.2.at_ r3.2.seed).at_),(IK .u64 (Qa0.mk r3.2.at_ r3.2.seed).seed)]]=true,Qa4 [[(AV.lit (.slice A0 cd.length c0)),(I (Qa0.mk r3.2.at_ r3.2.seed).at_),(IK .u64 (Qa0.mk r3.2.at_ r3.2.seed).seed)]]=true,Qa1 (Z5.take Z5.length)=true,Z5.take Z5.length=Z5,Qa4 Z5=true]) (Qag AP4 ⟨c8,rfl,rfl,rfl,(Qay Qqs),Qax,(Qaa Xg9),trivial⟩)
   ·rcases itS h with ⟨c10,h⟩ | ⟨c11,h⟩
    ·obtain rfl:=sj h
     exact gR hP hn (H1++[hF 5,hF 8,hF 11,hT 14,hW 18 1004]) [] .own (P4++[(r3.1 == 2)=false,(r3.1 == 3)=true,[[(AV.lit (.slice A0 cd.length c0)),(I r3.2.at_),(IK .u64 r3.2.seed)]]=[[(AV.lit (.slice A0 cd.length c0)),(I (Qa0.mk r3.2.at_ r3.2.seed).at_),(IK .u64 (Qa0.mk r3.2.at_ r3.2.seed).seed)]],Qa1 [[(AV.lit (.slice A0 cd.length c0)),(I (Qa0.mk r3.2.at_ r3.2.seed).at_),(IK .u64 (Qa0.mk r3.2.at_ r3.2.seed).seed)]]=true,Qa4 [[(AV.lit (.slice A0 cd.length c0)),(I (Qa0.mk r3.2.at_ r3.2.seed).at_),(IK .u64 (Qa0.mk r3.2.at_ r3.2.seed).seed)]]=true,Qa1 (Z6.take Z6.length)=true,Z6.take Z6.length=Z6,Qa4 Z6=true]) (Qag AP4 ⟨c9,c10,rfl,rfl,rfl,(Qay Qqs),Qax,(Qaa Xg9),trivial⟩)
    ·let P5:List Prop:=P4++[(r3.1 == 2)=false,(r3.1 == 3)=false]
     have AP5:Qb0 P5:=Qag AP4 ⟨c9,c11,trivial⟩
     rcases itS h with ⟨c12,h⟩ | ⟨c13,h⟩
     ·obtain rfl:=sj h
      exact gR hP hn (H1++[hF 5,hF 8,hF 11,hF 14,hT 17,hW 19 1005]) [] .own (P5++[Z7=true,[[(AV.lit (.slice A0 cd.length c0)),(I r3.2.at_),(IK .u64 r3.2.seed)]]=[[(AV.lit (.slice A0 cd.length c0)),(I (Qa0.mk r3.2.at_ r3.2.seed).at_),(IK .u64 (Qa0.mk r3.2.at_ r3.2.seed).seed)]],Qa1 [[(AV.lit (.slice A0 cd.length c0)),(I (Qa0.mk r3.2.at_ r3.2.seed).at_),(IK .u64 (Qa0.mk r3.2.at_ r3.2.seed).seed)]]=true,Qa4 [[(AV.lit (.slice A0 cd.length c0)),(I (Qa0.mk r3.2.at_ r3.2.seed).at_),(IK .u64 (Qa0.mk r3.2.at_ r3.2.seed).seed)]]=true,Qa1 (Z8.take Z8.length)=true,Z8.take Z8.length=Z8,Qa4 Z8=true]) (Qag AP5 ⟨c12,rfl,rfl,rfl,(Qay Qqs),Qax,(Qaa Xg9),trivial⟩)
     ·rcases itS h with ⟨c14,h⟩ | ⟨c17,h⟩
      ·obtain ⟨r15,hr15,h⟩:=bnS h
       obtain ⟨r16,hr16,h⟩:=bnS h
       obtain rfl:=sj h
       exact (let Z10:=I r16.1;let Z11:=rtf (Qe3 [(0,0)] (FK r15.1)) [];let Z12:=rtf (Qe3 [(0,0)] Z10) [];let Z13:=[(GOp.mk 2 p2 0 0),(GOp.mk 1 0 0 r15.1),(GOp.mk r16.1 0 0 0),(GOp.mk 3 p2 0 0)].map Qcb;gR hP hn (H1++[hF 5,hF 8,hF 11,hF 14,hF 17,hT 20,hh 24 (.callX [0] [true] [⟨88,3,[[(AV.lit (.slice A0 cd.length c0)),(I (Qa0.mk r3.2.at_ r3.2.seed).at_),(IK .u64 (Qa0.mk r3.2.at_ r3.2.seed).seed)]]⟩] [⟨88,3,[[(AV.lit (.slice A0 cd.length c0)),(I r15.2.at_),(IK .u64 r15.2.seed)]]⟩] [] (FK r15.1) [] (FK r15.1) []),hW 27 1006,hh 28 (.callX [0] [true] [⟨88,3,[[(AV.lit (.slice A0 cd.length c0)),(I (Qa0.mk r15.2.at_ r15.2.seed).at_),(IK .u64 (Qa0.mk r15.2.at_ r15.2.seed).seed)]]⟩] [⟨88,3,[[(AV.lit (.slice A0 cd.length c0)),(I r16.2.at_),(IK .u64 r16.2.seed)]]⟩] [Z9] Z10 [] Z10 []),hW 32 1007]) [] .own (P5++[Z7=false,(r3.1 == 5)=true,Qaw (PK.mk Try.prog Z0) 151 [⟨88,3,[[(AV.lit (.slice A0 cd.length c0)),(I (Qa0.mk r3.2.at_ r3.2.seed).at_),(IK .u64 (Qa0.mk r3.2.at_ r3.2.seed).seed)]]⟩] [Z1] [true] [⟨88,3,[[(AV.lit (.slice A0 cd.length c0)),(I r15.2.at_),(IK .u64 r15.2.seed)]]⟩] (FK r15.1),(some (Qae.mk 88 3 [[(AV.lit (.slice A0 cd.length c0)),(I r3.2.at_),(IK .u64 r3.2.seed)]])=some (Qae.mk 88 3 [[(AV.lit (.slice A0 cd.length c0)),(I (Qa0.mk r3.2.at_ r3.2.seed).at_),(IK .u64 (Qa0.mk r3.2.at_ r3.2.seed).seed)]]))∧True,(Qa1 [[(AV.lit (.slice A0 cd.length c0)),(I (Qa0.mk r3.2.at_ r3.2.seed).at_),(IK .u64 (Qa0.mk r3.2.at_ r3.2.seed).seed)]]=true∧Qa4 [[(AV.lit (.slice A0 cd.length c0)),(I (Qa0.mk r3.2.at_ r3.2.seed).at_),(IK .u64 (Qa0.mk r3.2.at_ r3.2.seed).seed)]]=true)∧True,([[(AV.lit (.slice A0 cd.length c0)),(I r15.2.at_),(IK .u64 r15.2.seed)]].length=[[(AV.lit (.slice A0 cd.length c0)),(I (Qa0.mk r3.2.at_ r3.2.seed).at_),(IK .u64 (Qa0.mk r3.2.at_ r3.2.seed).seed)]].length)∧True,Z11.1=(FK r15.1),Z11.2.1=[],Qaw (PK.mk Try.prog Z0) 84 [⟨88,3,[[(AV.lit (.slice A0 cd.length c0)),(I (Qa0.mk r15.2.at_ r15.2.seed).at_),(IK .u64 (Qa0.mk r15.2.at_ r15.2.seed).seed)]]⟩] [Z1,(AV.ro 1 Z9)] [true] [⟨88,3,[[(AV.lit (.slice A0 cd.length c0)),(I r16.2.at_),(IK .u64 r16.2.seed)]]⟩] Z10,(some (Qae.mk 88 3 [[(AV.lit (.slice A0 cd.length c0)),(I r15.2.at_),(IK .u64 r15.2.seed)]])=some (Qae.mk 88 3 [[(AV.lit (.slice A0 cd.length c0)),(I (Qa0.mk r15.2.at_ r15.2.seed).at_),(IK .u64 (Qa0.mk r15.2.at_ r15.2.seed).seed)]]))∧True,(Qa1 [[(AV.lit (.slice A0 cd.length c0)),(I (Qa0.mk r15.2.at_ r15.2.seed).at_),(IK .u64 (Qa0.mk r15.2.at_ r15.2.seed).seed)]]=true∧Qa4 [[(AV.lit (.slice A0 cd.length c0)),(I (Qa0.mk r15.2.at_ r15.2.seed).at_),(IK .u64 (Qa0.mk r15.2.at_ r15.2.seed).seed)]]=true)∧True,([[(AV.lit (.slice A0 cd.length c0)),(I r16.2.at_),(IK .u64 r16.2.seed)]].length=[[(AV.lit (.slice A0 cd.length c0)),(I (Qa0.mk r15.2.at_ r15.2.seed).at_),(IK .u64 (Qa0.mk r15.2.at_ r15.2.seed).seed)]].length)∧True,Z12.1=Z10,Z12.2.1=[],Frz ((Z9.drop 0).take Z9.length) Z9,[[(AV.lit (.slice A0 cd.length c0)),(I r16.2.at_),(IK .u64 r16.2.seed)]]=[[(AV.lit (.slice A0 cd.length c0)),(I (Qa0.mk r16.2.at_ r16.2.seed).at_),(IK .u64 (Qa0.mk r16.2.at_ r16.2.seed).seed)]],Qa1 [[(AV.lit (.slice A0 cd.length c0)),(I (Qa0.mk r16.2.at_ r16.2.seed).at_),(IK .u64 (Qa0.mk r16.2.at_ r16.2.seed).seed)]]=true,Qa4 [[(AV.lit (.slice A0 cd.length c0)),(I (Qa0.mk r16.2.at_ r16.2.seed).at_),(IK .u64 (Qa0.mk r16.2.at_ r16.2.seed).seed)]]=true,Qa1 (Z13.take Z13.length)=true,Z13.take Z13.length=Z13,Qa4 Z13=true]) (Qag AP5 ⟨c13,c14,(Qi5 hr15),⟨rfl,trivial⟩,⟨⟨rfl,rfl⟩,trivial⟩,⟨rfl,trivial⟩,rfl,rfl,(Qcz hr16),⟨rfl,trivial⟩,⟨⟨rfl,rfl⟩,trivial⟩,⟨rfl,trivial⟩,rfl,rfl,(Qlc t3 z3),rfl,rfl,rfl,(Qay Qqs),Qax,(Qaa Xg9),trivial⟩))
      ·rcases itS h with ⟨c18,h⟩ | ⟨c20,h⟩
       ·obtain ⟨r19,hr19,h⟩:=bnS h
        obtain rfl:=sj h
        exact (let Z14:=rtf (Qe3 [(0,0)] (FK r19.1)) [];let Z15:=[(GOp.mk 1 0 0 r19.1),(GOp.mk 3 p2 0 0)].map Qcb;gR hP hn (H1++[hF 5,hF 8,hF 11,hF 14,hF 17,hF 20,hT 23,hh 25 (.callX [0] [true] [⟨88,3,[[(AV.lit (.slice A0 cd.length c0)),(I (Qa0.mk r3.2.at_ r3.2.seed).at_),(IK .u64 (Qa0.mk r3.2.at_ r3.2.seed).seed)]]⟩] [⟨88,3,[[(AV.lit (.slice A0 cd.length c0)),(I r19.2.at_),(IK .u64 r19.2.seed)]]⟩] [] (FK r19.1) [] (FK r19.1) []),hW 29 1008]) [] .own (P5++[Z7=false,(r3.1 == 5)=false,(r3.1 == 6)=true,Qaw (PK.mk Try.prog Z0) 151 [⟨88,3,[[(AV.lit (.slice A0 cd.length c0)),(I (Qa0.mk r3.2.at_ r3.2.seed).at_),(IK .u64 (Qa0.mk r3.2.at_ r3.2.seed).seed)]]⟩] [Z1] [true] [⟨88,3,[[(AV.lit (.slice A0 cd.length c0)),(I r19.2.at_),(IK .u64 r19.2.seed)]]⟩] (FK r19.1),(some (Qae.mk 88 3 [[(AV.lit (.slice A0 cd.length c0)),(I r3.2.at_),(IK .u64 r3.2.seed)]])=some (Qae.mk 88 3 [[(AV.lit (.slice A0 cd.length c0)),(I (Qa0.mk r3.2.at_ r3.2.seed).at_),(IK .u64 (Qa0.mk r3.2.at_ r3.2.seed).seed)]]))∧True,(Qa1 [[(AV.lit (.slice A0 cd.length c0)),(I (Qa0.mk r3.2.at_ r3.2.seed).at_),(IK .u64 (Qa0.mk r3.2.at_ r3.2.seed).seed)]]=true∧Qa4 [[(AV.lit (.slice A0 cd.length c0)),(I (Qa0.mk r3.2.at_ r3.2.seed).at_),(IK .u64 (Qa0.mk r3.2.at_ r3.2.seed).seed)]]=true)∧True,([[(AV.lit (.slice A0 cd.length c0)),(I r19.2.at_),(IK .u64 r19.2.seed)]].length=[[(AV.lit (.slice A0 cd.length c0)),(I (Qa0.mk r3.2.at_ r3.2.seed).at_),(IK .u64 (Qa0.mk r3.2.at_ r3.2.seed).seed)]].length)∧True,Z14.1=(FK r19.1),Z14.2.1=[],[[(AV.lit (.slice A0 cd.length c0)),(I r19.2.at_),(IK .u64 r19.2.seed)]]=[[(AV.lit (.slice A0 cd.length c0)),(I (Qa0.mk r19.2.at_ r19.2.seed).at_),(IK .u64 (Qa0.mk r19.2.at_ r19.2.seed).seed)]],Qa1 [[(AV.lit (.slice A0 cd.length c0)),(I (Qa0.mk r19.2.at_ r19.2.seed).at_),(IK .u64 (Qa0.mk r19.2.at_ r19.2.seed).seed)]]=true,Qa4 [[(AV.lit (.slice A0 cd.length c0)),(I (Qa0.mk r19.2.at_ r19.2.seed).at_),(IK .u64 (Qa0.mk r19.2.at_ r19.2.seed).seed)]]=true,Qa1 (Z15.take Z15.length)=true,Z15.take Z15.length=Z15,Qa4 Z15=true]) (Qag AP5 ⟨c13,c17,c18,(Qi5 hr19),⟨rfl,trivial⟩,⟨⟨rfl,rfl⟩,trivial⟩,⟨rfl,trivial⟩,rfl,rfl,rfl,rfl,rfl,(Qay Qqs),Qax,(Qaa Xg9),trivial⟩))
       ·obtain rfl:=sj h
        exact gR hP hn (H1++[hF 5,hF 8,hF 11,hF 14,hF 17,hF 20,hF 23,hW 30 1009]) [] .own (P5++[Z7=false,(r3.1 == 5)=false,(r3.1 == 6)=false,2≠(0:Int),[[(AV.lit (.slice A0 cd.length c0)),(I r3.2.at_),(IK .u64 r3.2.seed)]]=[[(AV.lit (.slice A0 cd.length c0)),(I (Qa0.mk r3.2.at_ r3.2.seed).at_),(IK .u64 (Qa0.mk r3.2.at_ r3.2.seed).seed)]],Qa1 [[(AV.lit (.slice A0 cd.length c0)),(I (Qa0.mk r3.2.at_ r3.2.seed).at_),(IK .u64 (Qa0.mk r3.2.at_ r3.2.seed).seed)]]=true,Qa4 [[(AV.lit (.slice A0 cd.length c0)),(I (Qa0.mk r3.2.at_ r3.2.seed).at_),(IK .u64 (Qa0.mk r3.2.at_ r3.2.seed).seed)]]=true,Qa1 (Z16.take Z16.length)=true,Z16.take Z16.length=Z16,Qa4 Z16=true]) (Qag AP5 ⟨c13,c17,c20,(by decide),rfl,rfl,rfl,(Qay Qqs),Qax,(Qaa Xg9),trivial⟩)
noncomputable def Xc7:Code:=match Try.f131.body with | some c=>c | none=>.skip
noncomputable def Qcg  (cd:(List Int)) (a6:Qa0) (a7:Qa9) (a8:Qa9) : Option (Qa9×Qa0):=
 Option.bind (Qbh cd (Qa0.mk a6.at_ a6.seed) 4) fun r9 =>
 if r9.1=true then
  Option.bind (Qdo cd (Qa0.mk r9.2.at_ r9.2.seed) 0) fun r11 =>
  Option.bind (rd a8.Routines 2) fun x12 =>
  some ((Qa9.mk a8.Cells a8.Locks a8.Conds (a8.Routines.set (Int.toNat 2) r11.1)),(Qa0.mk r11.2.at_ r11.2.seed))
 else
  some ((Qa9.mk a8.Cells a8.Locks a8.Conds a8.Routines),(Qa0.mk r9.2.at_ r9.2.seed))
theorem Qh5 {A0:Option Addr} {c0:Nat} {cd:(List Int)} {E:Env} (hP:E.pk=PK.mk Try.prog (kv A0 cd)) (hn:E.n=43) (hx : ∀ p,p∈E.fx→p.1∈([0] : List Nat))   (a6:Qa0) (a7:Qa9) (a8:Qa9) (r:(Qa9×Qa0)) (h:Qcg cd a6 a7 a8=some r) : WAt E Xc7 (FQ (Qdu Θ Try.f131.results.toList [true] [⟨88,3,[[(AV.lit (.slice A0 (List.length cd) c0)),(I r.2.at_),(IK .u64 r.2.seed)]]⟩] (AV.agg (Qkw r.1)) E)) [true,true,true,true,true] ⟨[(0,(AV.ptr 0 0 0)),(2,(AV.ptr 1 0 0)),(5,(AV.ptr 2 0 0))],[(0,some ⟨88,3,[[(AV.lit (.slice A0 (List.length cd) c0)),(I a6.at_),(IK .u64 a6.seed)]]⟩),(1,some ⟨136,4,[((Qkw a7))]⟩),(2,some ⟨136,4,[((Qkw a8))]⟩)],[0,1,2,JJ]⟩:=by
 unfold Qcg at h
 obtain ⟨r9,hr9,h⟩:=bnS h
 let Z0:=rtf (Qe3 [(0,0)] (B r9.1)) [];let Z1:=Qkw a8;let Z2:=a8.Routines.map Qdw;let Z3:=I a8.Cells;let Z4:=I a8.Locks;let Z5:=I a8.Conds;let Z6:=AV.sl 1001 0 Z2.length;let Z7:=[[Z3,Z4,Z5,Z6]];let Z16:=AV.sl 1003 0 Z2.length
 let H1:List Hn:=[hh 1 (.callX [0] [true] [⟨88,3,[[(AV.lit (.slice A0 cd.length c0)),(I (Qa0.mk a6.at_ a6.seed).at_),(IK .u64 (Qa0.mk a6.at_ a6.seed).seed)]]⟩] [⟨88,3,[[(AV.lit (.slice A0 cd.length c0)),(I r9.2.at_),(IK .u64 r9.2.seed)]]⟩] [] (B r9.1) [] (B r9.1) [])]
 let P2:List Prop:=[Qaw (PK.mk Try.prog (kv A0 cd)) 83 [⟨88,3,[[(AV.lit (.slice A0 cd.length c0)),(I (Qa0.mk a6.at_ a6.seed).at_),(IK .u64 (Qa0.mk a6.at_ a6.seed).seed)]]⟩] [(AV.ptr 0 0 0),(I 4)] [true] [⟨88,3,[[(AV.lit (.slice A0 cd.length c0)),(I r9.2.at_),(IK .u64 r9.2.seed)]]⟩] (B r9.1),(some (Qae.mk 88 3 [[(AV.lit (.slice A0 cd.length c0)),(I a6.at_),(IK .u64 a6.seed)]])=some (Qae.mk 88 3 [[(AV.lit (.slice A0 cd.length c0)),(I (Qa0.mk a6.at_ a6.seed).at_),(IK .u64 (Qa0.mk a6.at_ a6.seed).seed)]]))∧True,(Qa1 [[(AV.lit (.slice A0 cd.length c0)),(I (Qa0.mk a6.at_ a6.seed).at_),(IK .u64 (Qa0.mk a6.at_ a6.seed).seed)]]=true∧Qa4 [[(AV.lit (.slice A0 cd.length c0)),(I (Qa0.mk a6.at_ a6.seed).at_),(IK .u64 (Qa0.mk a6.at_ a6.seed).seed)]]=true)∧True,([[(AV.lit (.slice A0 cd.length c0)),(I r9.2.at_),(IK .u64 r9.2.seed)]].length=[[(AV.lit (.slice A0 cd.length c0)),(I (Qa0.mk a6.at_ a6.seed).at_),(IK .u64 (Qa0.mk a6.at_ a6.seed).seed)]].length)∧True,Z0.1=(B r9.1),Z0.2.1=[]]
 have AP2:Qb0 P2:=⟨(Qc3 hr9),⟨rfl,trivial⟩,⟨⟨rfl,rfl⟩,trivial⟩,⟨rfl,trivial⟩,rfl,rfl,trivial⟩
 rcases itS h with ⟨c10,h⟩ | ⟨c13,h⟩
 ·obtain ⟨r11,hr11,h⟩:=bnS h
  obtain ⟨x12,hx12,h⟩:=bnS h
  obtain rfl:=sj h
  exact (let Z8:=r11.1.map Qcb;let Z9:=AV.own 158 4 Z8;let Z10:=AV.sl 1002 0 Z8.length;let Z11:=[(AV.own 158 4 (x12.map Qcb))];let Z12:=Z2.set (Int.toNat 2) [Z10];let Z13:=(a8.Routines.set (Int.toNat 2) r11.1).map Qdw;let Z14:=[[Z3,Z4,Z5,(AV.sl 1001 0 Z13.length)]];let Z15:=rtf (Qe3 [(0,0)] Z9) [1002];gR hP hn (H1++[hT 2,hh 3 (.unpack 2 1001 0 3 Z1 155 1 Z2 Z7),hh 6 (.callX [0] [true] [⟨88,3,[[(AV.lit (.slice A0 cd.length c0)),(I (Qa0.mk r9.2.at_ r9.2.seed).at_),(IK .u64 (Qa0.mk r9.2.at_ r9.2.seed).seed)]]⟩] [⟨88,3,[[(AV.lit (.slice A0 cd.length c0)),(I r11.2.at_),(IK .u64 r11.2.seed)]]⟩] [] Z9 [1002] Z10 [(1002,⟨158,4,Z8⟩)]),hh 10 (.sto Z11 Z12),hh 11 (.pack 1001 1002 (Int.toNat 2) 0 [Z10] Z13),hh 11 (.eqr 2 Z14)]) [] (.agg [.raw,.raw,.raw,.own]) (P2++[r9.1=true,[Z1][0]? = some Z1,Z1[3]? = some (AV.own 155 1 Z2),0<1,[Z1].set 0 (Z1.set 3 Z6)=Z7,Qaw (PK.mk Try.prog (kv A0 cd)) 150 [⟨88,3,[[(AV.lit (.slice A0 cd.length c0)),(I (Qa0.mk r9.2.at_ r9.2.seed).at_),(IK .u64 (Qa0.mk r9.2.at_ r9.2.seed).seed)]]⟩] [(AV.ptr 0 0 0),(I 0)] [true] [⟨88,3,[[(AV.lit (.slice A0 cd.length c0)),(I r11.2.at_),(IK .u64 r11.2.seed)]]⟩] Z9,(some (Qae.mk 88 3 [[(AV.lit (.slice A0 cd.length c0)),(I r9.2.at_),(IK .u64 r9.2.seed)]])=some (Qae.mk 88 3 [[(AV.lit (.slice A0 cd.length c0)),(I (Qa0.mk r9.2.at_ r9.2.seed).at_),(IK .u64 (Qa0.mk r9.2.at_ r9.2.seed).seed)]]))∧True,(Qa1 [[(AV.lit (.slice A0 cd.length c0)),(I (Qa0.mk r9.2.at_ r9.2.seed).at_),(IK .u64 (Qa0.mk r9.2.at_ r9.2.seed).seed)]]=true∧Qa4 [[(AV.lit (.slice A0 cd.length c0)),(I (Qa0.mk r9.2.at_ r9.2.seed).at_),(IK .u64 (Qa0.mk r9.2.at_ r9.2.seed).seed)]]=true)∧True,([[(AV.lit (.slice A0 cd.length c0)),(I r11.2.at_),(IK .u64 r11.2.seed)]].length=[[(AV.lit (.slice A0 cd.length c0)),(I (Qa0.mk r9.2.at_ r9.2.seed).at_),(IK .u64 (Qa0.mk r9.2.at_ r9.2.seed).seed)]].length)∧True,Z15.1=Z10,Z15.2.1=[(1002,⟨158,4,Z8⟩)],(AV.ptr 2 0 3)=(AV.ptr 2 0 3),Z6=Z6,(0:Int)≤2,2<((Z2.length:Nat) : Int),Z2[(Int.toNat 2)]? = some Z11,Z2.set (Int.toNat 2) (wr Z11 0 [Z10])=Z12,[Z10].length=1,0 + [Z10].length≤Z11.length,Z12[(Int.toNat 2)]? = some [Z10],[Z10][0]? = some Z10,Qa1 Z8=true,Z12.set (Int.toNat 2) ([Z10].set 0 Z9)=Z13,Z7=Z14,[[(AV.lit (.slice A0 cd.length c0)),(I r11.2.at_),(IK .u64 r11.2.seed)]]=[[(AV.lit (.slice A0 cd.length c0)),(I (Qa0.mk r11.2.at_ r11.2.seed).at_),(IK .u64 (Qa0.mk r11.2.at_ r11.2.seed).seed)]],Qa1 [[(AV.lit (.slice A0 cd.length c0)),(I (Qa0.mk r11.2.at_ r11.2.seed).at_),(IK .u64 (Qa0.mk r11.2.at_ r11.2.seed).seed)]]=true,Qa4 [[(AV.lit (.slice A0 cd.length c0)),(I (Qa0.mk r11.2.at_ r11.2.seed).at_),(IK .u64 (Qa0.mk r11.2.at_ r11.2.seed).seed)]]=true,Z3=Z3,Qa8 Z3=true,Z4=Z4,Qa8 Z4=true,Z5=Z5,Qa8 Z5=true,Qa1 (Z13.take Z13.length)=true,Z13.take Z13.length=Z13,Qa4 Z13=true]) (Qag AP2 ⟨c10,rfl,rfl,(by decide),rfl,(Qh6 hr11),⟨rfl,trivial⟩,⟨⟨rfl,rfl⟩,trivial⟩,⟨rfl,trivial⟩,rfl,rfl,rfl,rfl,(rd0 hx12),(rdL Qdw hx12),(rdM Qdw hx12),rfl,rfl,leB,(Qcl (rdM Qdw hx12)),rfl,(Qa7 Qqs),(Xe9 Qdw),(congrArg (fun nn=>[[(I a8.Cells),(I a8.Locks),(I a8.Conds),(AV.sl 1001 0 nn)]]) (show Z2.length=Z13.length from lnq)),rfl,rfl,rfl,rfl,rfl,rfl,rfl,rfl,rfl,(Qay Xa3),Qax,(Qaa n155),trivial⟩))
 ·obtain rfl:=sj h
  exact gR hP hn (H1++[hF 2,hh 3 (.unpack 2 1003 0 3 Z1 155 1 Z2 [[Z3,Z4,Z5,Z16]])]) [] (.agg [.raw,.raw,.raw,.own]) (P2++[r9.1=false,[Z1][0]? = some Z1,Z1[3]? = some (AV.own 155 1 Z2),0<1,[Z1].set 0 (Z1.set 3 Z16)=[[Z3,Z4,Z5,Z16]],[[(AV.lit (.slice A0 cd.length c0)),(I r9.2.at_),(IK .u64 r9.2.seed)]]=[[(AV.lit (.slice A0 cd.length c0)),(I (Qa0.mk r9.2.at_ r9.2.seed).at_),(IK .u64 (Qa0.mk r9.2.at_ r9.2.seed).seed)]],Qa1 [[(AV.lit (.slice A0 cd.length c0)),(I (Qa0.mk r9.2.at_ r9.2.seed).at_),(IK .u64 (Qa0.mk r9.2.at_ r9.2.seed).seed)]]=true,Qa4 [[(AV.lit (.slice A0 cd.length c0)),(I (Qa0.mk r9.2.at_ r9.2.seed).at_),(IK .u64 (Qa0.mk r9.2.at_ r9.2.seed).seed)]]=true,Z3=Z3,Qa8 Z3=true,Z4=Z4,Qa8 Z4=true,Z5=Z5,Qa8 Z5=true,Qa1 (Z2.take Z2.length)=true,Z2.take Z2.length=Z2,Qa4 Z2=true]) (Qag AP2 ⟨c13,rfl,rfl,(by decide),rfl,rfl,rfl,rfl,rfl,rfl,rfl,rfl,rfl,rfl,(Qay Xa3),Qax,(Qaa n155),trivial⟩)
noncomputable def Qem (cd:(List Int)) (p1:Qa0) : Option (Qa9×Qa0):=
 Option.bind (Qbh cd (Qa0.mk p1.at_ p1.seed) 2) fun r2 =>
 if r2.1=true then
  Option.bind (rd [[(GOp.mk 14 1 0 0),(GOp.mk 14 2 0 0)],[(GOp.mk 12 0 0 0),(GOp.mk 12 1 0 0),(GOp.mk 13 1 0 0),(GOp.mk 13 0 0 0)],[(GOp.mk 12 1 0 0),(GOp.mk 12 0 0 0),(GOp.mk 13 0 0 0),(GOp.mk 13 1 0 0)]] 0) fun x4 =>
  Option.bind (app x4 [(GOp.mk 15 0 0 0)]) fun l5 =>
  Qcg cd (Qa0.mk r2.2.at_ r2.2.seed) (Qa9.mk 0 0 0 []) (Qa9.mk 1 2 1 ([[(GOp.mk 14 1 0 0),(GOp.mk 14 2 0 0)],[(GOp.mk 12 0 0 0),(GOp.mk 12 1 0 0),(GOp.mk 13 1 0 0),(GOp.mk 13 0 0 0)],[(GOp.mk 12 1 0 0),(GOp.mk 12 0 0 0),(GOp.mk 13 0 0 0),(GOp.mk 13 1 0 0)]].set (Int.toNat 0) l5))
 else
  Qcg cd (Qa0.mk r2.2.at_ r2.2.seed) (Qa9.mk 0 0 0 []) (Qa9.mk 1 2 1 [[(GOp.mk 14 1 0 0),(GOp.mk 14 2 0 0)],[(GOp.mk 12 0 0 0),(GOp.mk 12 1 0 0),(GOp.mk 13 1 0 0),(GOp.mk 13 0 0 0)],[(GOp.mk 12 1 0 0),(GOp.mk 12 0 0 0),(GOp.mk 13 0 0 0),(GOp.mk 13 1 0 0)]])
theorem Qnj {cd:(List Int)} {p1:Qa0} {A0:Option Addr} {c0:Nat} {r:(Qa9×Qa0)} (h:Qem cd p1=some r) : Qaw (PK.mk Try.prog (kv A0 cd)) 131 [⟨88,3,[[(AV.lit (.slice A0 (List.length cd) c0)),(I p1.at_),(IK .u64 p1.seed)]]⟩] [(AV.ptr 0 0 0)] [true] [⟨88,3,[[(AV.lit (.slice A0 (List.length cd) c0)),(I r.2.at_),(IK .u64 r.2.seed)]]⟩] (AV.agg (Qkw r.1)):=by
 refine Qfc (X:=PK.mk Try.prog (kv A0 cd)) Qxi Try.func131 rfl (c:=Xc7) (by kernel_rfl) (Nat.le_of_ble_eq_true rfl) rfl (Nat.le_of_ble_eq_true rfl) rfl (fr:=[0]) (frI rfl) ?_
 intro E hP hn hx
 replace hn:E.n=43:=hn
 unfold Qem at h
 obtain ⟨r2,hr2,h⟩:=bnS h
 let Z0:=rtf (Qe3 [(0,0)] (B r2.1)) [];let Z1:=[(GOp.mk 14 1 0 0),(GOp.mk 14 2 0 0)].map Qcb;let Z2:=AV.sl 1004 0 Z1.length;let Z3:=[(GOp.mk 12 0 0 0),(GOp.mk 12 1 0 0),(GOp.mk 13 1 0 0),(GOp.mk 13 0 0 0)].map Qcb;let Z4:=AV.sl 1002 0 Z3.length;let Z5:=[(GOp.mk 12 1 0 0),(GOp.mk 12 0 0 0),(GOp.mk 13 0 0 0),(GOp.mk 13 1 0 0)].map Qcb;let Z6:=AV.sl 1003 0 Z5.length;let Z7:=[[(AV.own 158 4 Z1)],[Z4],[Z6]];let Z8:=[[(AV.own 158 4 Z1)],[(AV.own 158 4 Z3)],[Z6]];let Z9:=([[(GOp.mk 14 1 0 0),(GOp.mk 14 2 0 0)],[(GOp.mk 12 0 0 0),(GOp.mk 12 1 0 0),(GOp.mk 13 1 0 0),(GOp.mk 13 0 0 0)],[(GOp.mk 12 1 0 0),(GOp.mk 12 0 0 0),(GOp.mk 13 0 0 0),(GOp.mk 13 1 0 0)]].map Qdw);let Z10:=AV.sl 1005 0 Z9.length;let Z11:=[(I 1),(I 2),(I 1),Z10];let Z20:=[(I 0),(I 0),(I 0)];let Z21:=[[(I 0),(I 0),(I 0),(AV.own 155 1 ([].map Qdw))]];let Z23:=[[Z2],[Z4],[Z6]];let Z24:=[Z2].set 0 (AV.own 158 4 Z1);let Z25:=[Z4].set 0 (AV.own 158 4 Z3);let Z26:=[Z6].set 0 (AV.own 158 4 Z5);let Z27:=[(I 1),(I 2),(I 1),(AV.sl 1005 0 Z23.length)];let Z28:=((Z9.length:Nat) : Int);let Z29:=[(GOp.mk 15 0 0 0)].map Qcb;let Z30:=(Z29.drop 0).take Z29.length;let Z31:=AV.ptr 1006 0 3;let Z32:=AV.ptr 1005 (Int.toNat 0) 0;let Z33:=[[(I 0),(I 0),(I 0),nS]];let Z34:=GOp.mk 14 1 0 0;let Z35:=GOp.mk 14 2 0 0;let Z36:=GOp.mk 12 0 0 0;let Z37:=GOp.mk 12 1 0 0;let Z38:=GOp.mk 13 1 0 0;let Z39:=GOp.mk 13 0 0 0;let Z40:=Qa9.mk 0 0 0 [];let Z42:=[[(I 1),(I 2),(I 1),(AV.own 155 1 Z9)]];let Z43:=(Qa9.mk 1 2 1 [[Z34,Z35],[Z36,Z37,Z38,Z39],[Z37,Z36,Z39,Z38]])
 let H1:List Hn:=[hW 0 1001,hW 5 1002,hW 11 1003,hW 15 1004,hW 18 1005,hW 20 1006,hh 23 (.callX [0] [true] [⟨88,3,[[(AV.lit (.slice A0 cd.length c0)),(I (Qa0.mk p1.at_ p1.seed).at_),(IK .u64 (Qa0.mk p1.at_ p1.seed).seed)]]⟩] [⟨88,3,[[(AV.lit (.slice A0 cd.length c0)),(I r2.2.at_),(IK .u64 r2.2.seed)]]⟩] [] (B r2.1) [] (B r2.1) [])]
 let P2:List Prop:=[Qaw (PK.mk Try.prog (kv A0 cd)) 83 [⟨88,3,[[(AV.lit (.slice A0 cd.length c0)),(I (Qa0.mk p1.at_ p1.seed).at_),(IK .u64 (Qa0.mk p1.at_ p1.seed).seed)]]⟩] [(AV.ptr 0 0 0),(I 2)] [true] [⟨88,3,[[(AV.lit (.slice A0 cd.length c0)),(I r2.2.at_),(IK .u64 r2.2.seed)]]⟩] (B r2.1),(some (Qae.mk 88 3 [[(AV.lit (.slice A0 cd.length c0)),(I p1.at_),(IK .u64 p1.seed)]])=some (Qae.mk 88 3 [[(AV.lit (.slice A0 cd.length c0)),(I (Qa0.mk p1.at_ p1.seed).at_),(IK .u64 (Qa0.mk p1.at_ p1.seed).seed)]]))∧True,(Qa1 [[(AV.lit (.slice A0 cd.length c0)),(I (Qa0.mk p1.at_ p1.seed).at_),(IK .u64 (Qa0.mk p1.at_ p1.seed).seed)]]=true∧Qa4 [[(AV.lit (.slice A0 cd.length c0)),(I (Qa0.mk p1.at_ p1.seed).at_),(IK .u64 (Qa0.mk p1.at_ p1.seed).seed)]]=true)∧True,([[(AV.lit (.slice A0 cd.length c0)),(I r2.2.at_),(IK .u64 r2.2.seed)]].length=[[(AV.lit (.slice A0 cd.length c0)),(I (Qa0.mk p1.at_ p1.seed).at_),(IK .u64 (Qa0.mk p1.at_ p1.seed).seed)]].length)∧True,Z0.1=(B r2.1),Z0.2.1=[]]
 have AP2:Qb0 P2:=⟨(Qc3 hr2),⟨rfl,trivial⟩,⟨⟨rfl,rfl⟩,trivial⟩,⟨rfl,trivial⟩,rfl,rfl,trivial⟩
 rcases itS h with ⟨c3,h⟩ | ⟨c14,h⟩
 ·obtain ⟨x4,hx4,h⟩:=bnS h
  obtain ⟨l5,hl5,h⟩:=bnS h
  exact (let Z12:=x4.map Qcb;let Z13:=[(AV.own 158 4 Z12)];let Z14:=AV.sl 1007 0 Z12.length;let Z15:=Z9.set (Int.toNat 0) [Z14];let Z16:=l5.map Qcb;let Z17:=AV.sl 1009 0 Z16.length;let Z18:=Z9.set (Int.toNat 0) [Z17];let Z19:=(([[(GOp.mk 14 1 0 0),(GOp.mk 14 2 0 0)],[(GOp.mk 12 0 0 0),(GOp.mk 12 1 0 0),(GOp.mk 13 1 0 0),(GOp.mk 13 0 0 0)],[(GOp.mk 12 1 0 0),(GOp.mk 12 0 0 0),(GOp.mk 13 0 0 0),(GOp.mk 13 1 0 0)]].set (Int.toNat 0) l5).map Qdw);let Z22:=[[(I 1),(I 2),(I 1),(AV.own 155 1 Z19)]];let Z41:=(Qa9.mk 1 2 1 ([[Z34,Z35],[Z36,Z37,Z38,Z39],[Z37,Z36,Z39,Z38]].set (Int.toNat 0) l5));gT hP hn hx (H1++[hT 24,hh 25 (.pack 1005 1004 0 0 [Z2] Z7),hh 25 (.pack 1005 1002 1 0 [Z4] Z8),hh 25 (.pack 1005 1003 2 0 [Z6] Z9),hh 25 (.eqr 1006 [Z11]),hh 25 (.unpack 1005 1007 (Int.toNat 0) 0 Z13 158 4 Z12 Z15),hh 30 (.row [Z14]),hW 32 1008,hh 33 (.app 1009 Z16),hh 41 (.row [Z14]),hh 43 (.sto [Z14] Z18),hh 44 (.pack 1005 1009 (Int.toNat 0) 0 [Z17] Z19),hh 44 (.own0 1001 1 Z20 [] 155 1 Z21),hh 44 (.pack 1006 1005 0 3 Z11 Z22)]) [(0,0),(1001,1),(1006,2)] [0,2,5] [] (P2++[r2.1=true,Z23[0]? = some [Z2],[Z2][0]? = some Z2,Qa1 Z1=true,Z23.set 0 Z24=Z7,Z7[1]? = some [Z4],[Z4][0]? = some Z4,Qa1 Z3=true,Z7.set 1 Z25=Z8,Z8[2]? = some [Z6],[Z6][0]? = some Z6,Qa1 Z5=true,Z8.set 2 Z26=Z9,[Z27]=[Z11],Z9[(Int.toNat 0)]? = some Z13,Z13[0]? = some (AV.own 158 4 Z12),0<4,Z9.set (Int.toNat 0) (Z13.set 0 Z14)=Z15,(0:Int)≤0,0<Z28,Z15[(Int.toNat 0)]? = some [Z14],Z12.take Z12.length++Z30=Z16,Z30.all (fun r=>r.all AV.plain)=true,Z16.length * 32≤140737488355328,Z16.length≤140737488355328,Z31=Z31,Z31=Z31,Z10=Z10,Z10=Z10,Z31=Z31,Z10=Z10,Z32=Z32,(0:Int)≤0,0<Z28,Z14=Z14,Z15[(Int.toNat 0)]? = some [Z14],(0:Int)≤0,0<Z28,Z15[(Int.toNat 0)]? = some [Z14],Z15.set (Int.toNat 0) (wr [Z14] 0 [Z17])=Z18,[Z17].length=1,0 + [Z17].length≤[Z14].length,Z18[(Int.toNat 0)]? = some [Z17],[Z17][0]? = some Z17,Qa1 Z16=true,Z18.set (Int.toNat 0) ([Z17].set 0 (AV.own 158 4 Z16))=Z19,Z33=List.replicate 1 (Z20++AV.lit (.slice none 0 0) :: []),List.replicate 1 (Z20++AV.own 155 1 [] :: [])=Z21,[Z11][0]? = some Z11,Z11[3]? = some (AV.sl 1005 0 Z19.length),Qa1 Z19=true,[Z11].set 0 (Z11.set 3 (AV.own 155 1 Z19))=Z22,Qa6 [(0,0),(1001,1),(1006,2)] [[(AV.lit (.slice A0 cd.length c0)),(I r2.2.at_),(IK .u64 r2.2.seed)]],Qa6 [(0,0),(1001,1),(1006,2)] Z21,Qa6 [(0,0),(1001,1),(1006,2)] Z22]) (Qag AP2 ⟨c3,rfl,rfl,(Qa7 Qqs),rfl,rfl,rfl,(Qa7 Qqs),rfl,rfl,rfl,(Qa7 Qqs),rfl,(congrArg (fun nn=>[[(I 1),(I 2),(I 1),(AV.sl 1005 0 nn)]]) (show Z23.length=([[Z34,Z35],[Z36,Z37,Z38,Z39],[Z37,Z36,Z39,Z38]].map Qdw).length from lnq)),(rdM Qdw hx4),rfl,(by decide),rfl,(rd0 hx4),(rdL Qdw hx4),(Qcl (rdM Qdw hx4)),(Qiw Qcb hl5),(plD Xah),(Qnn Qcb hl5 (by decide)),(Qnm Qcb hl5),rfl,rfl,rfl,rfl,rfl,rfl,rfl,(rd0 hx4),(rdL Qdw hx4),rfl,(Qcl (rdM Qdw hx4)),(rd0 hx4),(rdL Qdw hx4),(Qcl (rdM Qdw hx4)),(Qfy rfl),rfl,leB,(Qcl (rdM Qdw hx4)),rfl,(Qa7 Qqs),(Xe9 Qdw),rfl,rfl,rfl,(pkS lnq),(Qa7 Xa3),rfl,(rok rfl),(rok (Qb1 Qit Z40)),(rok (Qb1 Qit Z41)),trivial⟩) (Qh5 (A0:=A0) (c0:=c0) hP hn hx (Qa0.mk r2.2.at_ r2.2.seed) Z40 Z41 _ h))
 ·exact gT hP hn hx (H1++[hF 24,hh 25 (.own0 1001 1 Z20 [] 155 1 Z21),hh 25 (.pack 1005 1004 0 0 [Z2] Z7),hh 25 (.pack 1005 1002 1 0 [Z4] Z8),hh 25 (.pack 1005 1003 2 0 [Z6] Z9),hh 25 (.pack 1006 1005 0 3 Z27 Z42)]) [(0,0),(1001,1),(1006,2)] [0,2,5] [] (P2++[r2.1=false,Z33=List.replicate 1 (Z20++AV.lit (.slice none 0 0) :: []),List.replicate 1 (Z20++AV.own 155 1 [] :: [])=Z21,Z23[0]? = some [Z2],[Z2][0]? = some Z2,Qa1 Z1=true,Z23.set 0 Z24=Z7,Z7[1]? = some [Z4],[Z4][0]? = some Z4,Qa1 Z3=true,Z7.set 1 Z25=Z8,Z8[2]? = some [Z6],[Z6][0]? = some Z6,Qa1 Z5=true,Z8.set 2 Z26=Z9,[Z27][0]? = some Z27,Z27[3]? = some Z10,Qa1 Z9=true,[Z27].set 0 (Z27.set 3 (AV.own 155 1 Z9))=Z42,Qa6 [(0,0),(1001,1),(1006,2)] [[(AV.lit (.slice A0 cd.length c0)),(I r2.2.at_),(IK .u64 r2.2.seed)]],Qa6 [(0,0),(1001,1),(1006,2)] Z21,Qa6 [(0,0),(1001,1),(1006,2)] Z42]) (Qag AP2 ⟨c14,rfl,rfl,rfl,rfl,(Qa7 Qqs),rfl,rfl,rfl,(Qa7 Qqs),rfl,rfl,rfl,(Qa7 Qqs),rfl,rfl,(pkS lnq),(Qa7 Xa3),rfl,(rok rfl),(rok (Qb1 Qit Z40)),(rok (Qb1 Qit Z43)),trivial⟩) (Qh5 (A0:=A0) (c0:=c0) hP hn hx (Qa0.mk r2.2.at_ r2.2.seed) Z40 Z43 _ h)
noncomputable def Qp4:Code:=match Try.f130.body with | some c=>c | none=>.skip
noncomputable def Qbt (K0:Qa0→Qa9→Qa9→Int→Option (Qa9×Qa0)) (cd:(List Int)) (r2:(Int×Qa0)) (v6:Int) : Nat→Qa0→Qa9→Qa9→(List GOp)→Int→Option (Qa9×Qa0)
 | 0,_,_,_,_,_=>none
 | n+1,a11,a12,a13,a14,v15 =>
 if (decide (v15 > 0))=true then
  Option.bind (Qai cd (Qa0.mk a11.at_ a11.seed) 2) fun r17 =>
  Option.bind (Qdo cd (Qa0.mk r17.2.at_ r17.2.seed) r17.1) fun r18 =>
  Option.bind (app a14 r18.1) fun l19 =>
  Qbt K0 cd r2 v6 n (Qa0.mk r18.2.at_ r18.2.seed) a12 a13 l19 (w64 (v15 - 1))
 else
  Option.bind (app a13.Routines [a14]) fun l21 =>
  K0 (Qa0.mk a11.at_ a11.seed) a12 (Qa9.mk a13.Cells a13.Locks a13.Conds l21) (w64 (v6+1))
theorem Qmj {A0:Option Addr} {c0:Nat} {cd:(List Int)} {E:Env} (hP:E.pk=PK.mk Try.prog (kv A0 cd)) (hn:E.n=108) (hx : ∀ p,p∈E.fx→p.1∈([0] : List Nat)) (r2:(Int×Qa0)) (v6:Int) {K0:Qa0→Qa9→Qa9→Int→Option (Qa9×Qa0)} (hK0 : ∀ (a3:Qa0) (a4:Qa9) (a5:Qa9) (v6:Int) (r:(Qa9×Qa0)),K0 a3 a4 a5 v6=some r→WAt E Qp4 (FQ (Qdu Θ Try.f130.results.toList [true] [⟨88,3,[[(AV.lit (.slice A0 (List.length cd) c0)),(I r.2.at_),(IK .u64 r.2.seed)]]⟩] (AV.agg (Qkw r.1)) E)) [true,true,true,false,true,false] ⟨[(0,(AV.ptr 0 0 0)),(2,(AV.ptr 1 0 0)),(3,(AV.ptr 2 0 0)),(4,(I (w64 (1+r2.1)))),(5,(I v6))],[(0,some ⟨88,3,[[(AV.lit (.slice A0 (List.length cd) c0)),(I a3.at_),(IK .u64 a3.seed)]]⟩),(1,some ⟨136,4,[((Qkw a4))]⟩),(2,some ⟨136,4,[((Qkw a5))]⟩)],[0,1,2,JJ]⟩) : ∀ (n:Nat) (a11:Qa0) (a12:Qa9) (a13:Qa9) (a14:(List GOp)) (v15:Int) (r:(Qa9×Qa0)),Qbt K0 cd r2 v6 n a11 a12 a13 a14 v15=some r→WAt E Qp4 (FQ (Qdu Θ Try.f130.results.toList [true] [⟨88,3,[[(AV.lit (.slice A0 (List.length cd) c0)),(I r.2.at_),(IK .u64 r.2.seed)]]⟩] (AV.agg (Qkw r.1)) E)) [true,true,true,false,true,false,false,true,false,false,true,true,false,true,false] ⟨[(0,(AV.ptr 0 0 0)),(2,(AV.ptr 1 0 0)),(3,(AV.ptr 2 0 0)),(4,(I (w64 (1+r2.1)))),(5,(I v6)),(6,(AV.sl 3 0 (List.length (a14.map Qcb)))),(7,(I v15))],[(0,some ⟨88,3,[[(AV.lit (.slice A0 (List.length cd) c0)),(I a11.at_),(IK .u64 a11.seed)]]⟩),(1,some ⟨136,4,[((Qkw a12))]⟩),(2,some ⟨136,4,[((Qkw a13))]⟩),(3,some ⟨158,4,(a14.map Qcb)⟩)],[0,1,2,3,JJ]⟩:=by
 intro n
 induction n with
 | zero=>intro a11 a12 a13 a14 v15 r h;simp only [Qbt] at h;cases h
 | succ n ih =>
  intro a11 a12 a13 a14 v15 r h
  simp only [Qbt] at h
  let Z7:=a14.map Qcb;let Z9:=Qkw a13;let Z10:=a13.Routines.map Qdw;let Z11:=I a13.Cells;let Z12:=I a13.Locks;let Z13:=I a13.Conds;let Z14:=AV.sl 1003 0 Z10.length;let Z15:=[[Z11,Z12,Z13,Z14]];let Z16:=AV.sl 3 0 Z7.length;let Z17:=Z10++[[Z16]];let Z19:=[Z11,Z12,Z13,(AV.sl 1005 0 Z17.length)]
  rcases itS h with ⟨c16,h⟩ | ⟨c20,h⟩
  ·obtain ⟨r17,hr17,h⟩:=bnS h
   obtain ⟨r18,hr18,h⟩:=bnS h
   obtain ⟨l19,hl19,h⟩:=bnS h
   exact (let Z0:=I r17.1;let Z1:=r18.1.map Qcb;let Z2:=AV.own 158 4 Z1;let Z3:=AV.sl 1001 0 Z1.length;let Z4:=l19.map Qcb;let Z5:=rtf (Qe3 [(0,0)] Z0) [];let Z6:=rtf (Qe3 [(0,0)] Z2) [1001];let Z8:=(Z1.drop 0).take Z1.length;gT hP hn hx [hT 2,hh 6 (.callX [0] [true] [⟨88,3,[[(AV.lit (.slice A0 cd.length c0)),(I (Qa0.mk a11.at_ a11.seed).at_),(IK .u64 (Qa0.mk a11.at_ a11.seed).seed)]]⟩] [⟨88,3,[[(AV.lit (.slice A0 cd.length c0)),(I r17.2.at_),(IK .u64 r17.2.seed)]]⟩] [] Z0 [] Z0 []),hh 7 (.callX [0] [true] [⟨88,3,[[(AV.lit (.slice A0 cd.length c0)),(I (Qa0.mk r17.2.at_ r17.2.seed).at_),(IK .u64 (Qa0.mk r17.2.at_ r17.2.seed).seed)]]⟩] [⟨88,3,[[(AV.lit (.slice A0 cd.length c0)),(I r18.2.at_),(IK .u64 r18.2.seed)]]⟩] [] Z2 [1001] Z3 [(1001,⟨158,4,Z1⟩)]),hh 8 (.app 1002 Z4)] [(0,0),(1,1),(2,2),(1002,3)] [0,2,3,4,5,6,7] [] [(decide (v15 > 0))=true,Qaw (PK.mk Try.prog (kv A0 cd)) 77 [⟨88,3,[[(AV.lit (.slice A0 cd.length c0)),(I (Qa0.mk a11.at_ a11.seed).at_),(IK .u64 (Qa0.mk a11.at_ a11.seed).seed)]]⟩] [(AV.ptr 0 0 0),(I 2)] [true] [⟨88,3,[[(AV.lit (.slice A0 cd.length c0)),(I r17.2.at_),(IK .u64 r17.2.seed)]]⟩] Z0,(some (Qae.mk 88 3 [[(AV.lit (.slice A0 cd.length c0)),(I a11.at_),(IK .u64 a11.seed)]])=some (Qae.mk 88 3 [[(AV.lit (.slice A0 cd.length c0)),(I (Qa0.mk a11.at_ a11.seed).at_),(IK .u64 (Qa0.mk a11.at_ a11.seed).seed)]]))∧True,(Qa1 [[(AV.lit (.slice A0 cd.length c0)),(I (Qa0.mk a11.at_ a11.seed).at_),(IK .u64 (Qa0.mk a11.at_ a11.seed).seed)]]=true∧Qa4 [[(AV.lit (.slice A0 cd.length c0)),(I (Qa0.mk a11.at_ a11.seed).at_),(IK .u64 (Qa0.mk a11.at_ a11.seed).seed)]]=true)∧True,([[(AV.lit (.slice A0 cd.length c0)),(I r17.2.at_),(IK .u64 r17.2.seed)]].length=[[(AV.lit (.slice A0 cd.length c0)),(I (Qa0.mk a11.at_ a11.seed).at_),(IK .u64 (Qa0.mk a11.at_ a11.seed).seed)]].length)∧True,Z5.1=Z0,Z5.2.1=[],Qaw (PK.mk Try.prog (kv A0 cd)) 150 [⟨88,3,[[(AV.lit (.slice A0 cd.length c0)),(I (Qa0.mk r17.2.at_ r17.2.seed).at_),(IK .u64 (Qa0.mk r17.2.at_ r17.2.seed).seed)]]⟩] [(AV.ptr 0 0 0),Z0] [true] [⟨88,3,[[(AV.lit (.slice A0 cd.length c0)),(I r18.2.at_),(IK .u64 r18.2.seed)]]⟩] Z2,(some (Qae.mk 88 3 [[(AV.lit (.slice A0 cd.length c0)),(I r17.2.at_),(IK .u64 r17.2.seed)]])=some (Qae.mk 88 3 [[(AV.lit (.slice A0 cd.length c0)),(I (Qa0.mk r17.2.at_ r17.2.seed).at_),(IK .u64 (Qa0.mk r17.2.at_ r17.2.seed).seed)]]))∧True,(Qa1 [[(AV.lit (.slice A0 cd.length c0)),(I (Qa0.mk r17.2.at_ r17.2.seed).at_),(IK .u64 (Qa0.mk r17.2.at_ r17.2.seed).seed)]]=true∧Qa4 [[(AV.lit (.slice A0 cd.length c0)),(I (Qa0.mk r17.2.at_ r17.2.seed).at_),(IK .u64 (Qa0.mk r17.2.at_ r17.2.seed).seed)]]=true)∧True,([[(AV.lit (.slice A0 cd.length c0)),(I r18.2.at_),(IK .u64 r18.2.seed)]].length=[[(AV.lit (.slice A0 cd.length c0)),(I (Qa0.mk r17.2.at_ r17.2.seed).at_),(IK .u64 (Qa0.mk r17.2.at_ r17.2.seed).seed)]].length)∧True,Z6.1=Z3,Z6.2.1=[(1001,⟨158,4,Z1⟩)],Z7.take Z7.length++Z8=Z4,Z8.all (fun r=>r.all AV.plain)=true,Z4.length * 32≤140737488355328,Z4.length≤140737488355328,Qa6 [(0,0),(1,1),(2,2),(1002,3)] [[(AV.lit (.slice A0 cd.length c0)),(I r18.2.at_),(IK .u64 r18.2.seed)]],Qa6 [(0,0),(1,1),(2,2),(1002,3)] [((Qkw a12))],Qa6 [(0,0),(1,1),(2,2),(1002,3)] [Z9],Qa6 [(0,0),(1,1),(2,2),(1002,3)] Z4] ⟨c16,(Qaj hr17),⟨rfl,trivial⟩,⟨⟨rfl,rfl⟩,trivial⟩,⟨rfl,trivial⟩,rfl,rfl,(Qh6 hr18),⟨rfl,trivial⟩,⟨⟨rfl,rfl⟩,trivial⟩,⟨rfl,trivial⟩,rfl,rfl,(Qiw Qcb hl19),(plD Xah),(Qnn Qcb hl19 (by decide)),(Qnm Qcb hl19),(rok rfl),(rok (Qb1 Qit a12)),(rok (Qb1 Qit a13)),(rok (Qa7 Qqs)),trivial⟩ (ih (Qa0.mk r18.2.at_ r18.2.seed) a12 a13 l19 (w64 (v15 - 1)) _ h))
  ·obtain ⟨l21,hl21,h⟩:=bnS h
   exact (let Z18:=l21.map Qdw;let Z20:=[[Z11,Z12,Z13,(AV.own 155 1 Z18)]];let Z21:=Qa9.mk a13.Cells a13.Locks a13.Conds l21;gT hP hn hx [hF 2,hh 4 (.unpack 2 1003 0 3 Z9 155 1 Z10 Z15),hW 6 1004,hh 7 (.app 1005 Z17),hh 8 (.pack 1005 3 a13.Routines.length 0 [Z16] Z18),hh 13 (.pack 2 1005 0 3 Z19 Z20)] [(0,0),(1,1),(2,2)] [0,2,3,4,5] [] [(decide (v15 > 0))=false,[Z9][0]? = some Z9,Z9[3]? = some (AV.own 155 1 Z10),0<1,[Z9].set 0 (Z9.set 3 Z14)=Z15,Z10.take Z10.length++[[Z16]]=Z17,[[Z16]].all (fun r=>r.all AV.plain)=true,Z17.length * 24≤140737488355328,Z17.length≤140737488355328,Z17[a13.Routines.length]? = some [Z16],[Z16][0]? = some Z16,Qa1 Z7=true,Z17.set a13.Routines.length ([Z16].set 0 (AV.own 158 4 Z7))=Z18,[Z19][0]? = some Z19,Z19[3]? = some (AV.sl 1005 0 Z18.length),Qa1 Z18=true,[Z19].set 0 (Z19.set 3 (AV.own 155 1 Z18))=Z20,Qa6 [(0,0),(1,1),(2,2)] [[(AV.lit (.slice A0 cd.length c0)),(I a11.at_),(IK .u64 a11.seed)]],Qa6 [(0,0),(1,1),(2,2)] [((Qkw a12))],Qa6 [(0,0),(1,1),(2,2)] Z20] ⟨c20,rfl,rfl,(by decide),rfl,(apT Qdw),rfl,(apB Qdw hl21 (by decide)),(apC Qdw hl21),(apG Qdw),rfl,(Qa7 Qqs),(apS Qdw hl21),rfl,(pkS lnq),(Qa7 Xa3),rfl,(rok rfl),(rok (Qb1 Qit a12)),(rok (Qb1 Qit Z21)),trivial⟩ (hK0 (Qa0.mk a11.at_ a11.seed) a12 Z21 (w64 (v6+1)) _ h))
noncomputable def Qd0  (cd:(List Int)) (a37:Qa0) (a38:Qa9) (a39:Qa9) : Option (Qa9×Qa0):=
 Option.bind (Qbh cd (Qa0.mk a37.at_ a37.seed) 6) fun r40 =>
 if r40.1=true then
  Option.bind (Qai cd (Qa0.mk r40.2.at_ r40.2.seed) (a39.Routines.length:Int)) fun r42 =>
  Option.bind (rd a39.Routines r42.1) fun x43 =>
  Option.bind (Qee cd (Qa0.mk r42.2.at_ r42.2.seed)) fun r44 =>
  Option.bind (Qai cd (Qa0.mk r44.2.at_ r44.2.seed) (w64 ((x43.length:Int)+1))) fun r45 =>
  Option.bind (app x43 [(GOp.mk 1 0 0 r44.1),(GOp.mk 11 r45.1 0 0)]) fun l46 =>
  some ((Qa9.mk a39.Cells a39.Locks a39.Conds (a39.Routines.set (Int.toNat r42.1) l46)),(Qa0.mk r45.2.at_ r45.2.seed))
 else
  some ((Qa9.mk a39.Cells a39.Locks a39.Conds a39.Routines),(Qa0.mk r40.2.at_ r40.2.seed))
theorem Qia {A0:Option Addr} {c0:Nat} {cd:(List Int)} {E:Env} (hP:E.pk=PK.mk Try.prog (kv A0 cd)) (hn:E.n=108) (hx : ∀ p,p∈E.fx→p.1∈([0] : List Nat))   (a37:Qa0) (a38:Qa9) (a39:Qa9) (r:(Qa9×Qa0)) (h:Qd0 cd a37 a38 a39=some r) : WAt E Qp4 (FQ (Qdu Θ Try.f130.results.toList [true] [⟨88,3,[[(AV.lit (.slice A0 (List.length cd) c0)),(I r.2.at_),(IK .u64 r.2.seed)]]⟩] (AV.agg (Qkw r.1)) E)) [true,true,true,true,true,true] ⟨[(0,(AV.ptr 0 0 0)),(2,(AV.ptr 1 0 0)),(3,(AV.ptr 2 0 0))],[(0,some ⟨88,3,[[(AV.lit (.slice A0 (List.length cd) c0)),(I a37.at_),(IK .u64 a37.seed)]]⟩),(1,some ⟨136,4,[((Qkw a38))]⟩),(2,some ⟨136,4,[((Qkw a39))]⟩)],[0,1,2,JJ]⟩:=by
 unfold Qd0 at h
 obtain ⟨r40,hr40,h⟩:=bnS h
 let Z0:=B r40.1;let Z1:=kv A0 cd;let Z2:=AV.ptr 0 0 0;let Z3:=rtf (Qe3 [(0,0)] Z0) [];let Z4:=Qkw a39;let Z5:=a39.Routines.map Qdw;let Z6:=I a39.Cells;let Z7:=I a39.Locks;let Z8:=I a39.Conds;let Z9:=AV.sl 1001 0 Z5.length;let Z10:=[[Z6,Z7,Z8,Z9]];let Z11:=(I (a39.Routines.length:Int));let Z24:=((Z5.length:Nat) : Int);let Z32:=AV.ptr 2 0 3;let Z35:=AV.sl 1005 0 Z5.length
 let H1:List Hn:=[hh 1 (.callX [0] [true] [⟨88,3,[[(AV.lit (.slice A0 cd.length c0)),(I (Qa0.mk a37.at_ a37.seed).at_),(IK .u64 (Qa0.mk a37.at_ a37.seed).seed)]]⟩] [⟨88,3,[[(AV.lit (.slice A0 cd.length c0)),(I r40.2.at_),(IK .u64 r40.2.seed)]]⟩] [] Z0 [] Z0 [])]
 let P2:List Prop:=[Qaw (PK.mk Try.prog Z1) 83 [⟨88,3,[[(AV.lit (.slice A0 cd.length c0)),(I (Qa0.mk a37.at_ a37.seed).at_),(IK .u64 (Qa0.mk a37.at_ a37.seed).seed)]]⟩] [Z2,(I 6)] [true] [⟨88,3,[[(AV.lit (.slice A0 cd.length c0)),(I r40.2.at_),(IK .u64 r40.2.seed)]]⟩] Z0,(some (Qae.mk 88 3 [[(AV.lit (.slice A0 cd.length c0)),(I a37.at_),(IK .u64 a37.seed)]])=some (Qae.mk 88 3 [[(AV.lit (.slice A0 cd.length c0)),(I (Qa0.mk a37.at_ a37.seed).at_),(IK .u64 (Qa0.mk a37.at_ a37.seed).seed)]]))∧True,(Qa1 [[(AV.lit (.slice A0 cd.length c0)),(I (Qa0.mk a37.at_ a37.seed).at_),(IK .u64 (Qa0.mk a37.at_ a37.seed).seed)]]=true∧Qa4 [[(AV.lit (.slice A0 cd.length c0)),(I (Qa0.mk a37.at_ a37.seed).at_),(IK .u64 (Qa0.mk a37.at_ a37.seed).seed)]]=true)∧True,([[(AV.lit (.slice A0 cd.length c0)),(I r40.2.at_),(IK .u64 r40.2.seed)]].length=[[(AV.lit (.slice A0 cd.length c0)),(I (Qa0.mk a37.at_ a37.seed).at_),(IK .u64 (Qa0.mk a37.at_ a37.seed).seed)]].length)∧True,Z3.1=Z0,Z3.2.1=[]]
 have AP2:Qb0 P2:=⟨(Qc3 hr40),⟨rfl,trivial⟩,⟨⟨rfl,rfl⟩,trivial⟩,⟨rfl,trivial⟩,rfl,rfl,trivial⟩
 rcases itS h with ⟨c41,h⟩ | ⟨c47,h⟩
 ·obtain ⟨r42,hr42,h⟩:=bnS h
  obtain ⟨x43,hx43,h⟩:=bnS h
  obtain ⟨r44,hr44,h⟩:=bnS h
  obtain ⟨r45,hr45,h⟩:=bnS h
  obtain ⟨l46,hl46,h⟩:=bnS h
  obtain rfl:=sj h
  exact (let Z12:=I r42.1;let Z13:=x43.map Qcb;let Z14:=[(AV.own 158 4 Z13)];let Z15:=AV.sl 1002 0 Z13.length;let Z16:=Z5.set r42.1.toNat [Z15];let Z17:=(I (x43.length:Int));let Z18:=I r45.1;let Z19:=l46.map Qcb;let Z20:=AV.sl 1004 0 Z19.length;let Z21:=Z5.set r42.1.toNat [Z20];let Z22:=[[Z6,Z7,Z8,(AV.sl 1001 0 Z21.length)]];let Z23:=(a39.Routines.set r42.1.toNat l46).map Qdw;let Z25:=rtf (Qe3 [(0,0)] Z12) [];let Z26:=rtf (Qe3 [(0,0)] (FK r44.1)) [];let Z27:=((Z13.length:Nat) : Int);let Z28:=(I (w64 ((x43.length:Int)+1)));let Z29:=rtf (Qe3 [(0,0)] Z18) [];let Z30:=[(GOp.mk 1 0 0 r44.1),(GOp.mk 11 r45.1 0 0)].map Qcb;let Z31:=(Z30.drop 0).take Z30.length;let Z33:=AV.ptr 1001 r42.1.toNat 0;let Z34:=AV.agg [(I 1),(I 0),(I 0),(FK r44.1)];gR hP hn (H1++[hT 2,hh 5 (.unpack 2 1001 0 3 Z4 155 1 Z5 Z10),hO 6 Z11,hh 7 (.callX [0] [true] [⟨88,3,[[(AV.lit (.slice A0 cd.length c0)),(I (Qa0.mk r40.2.at_ r40.2.seed).at_),(IK .u64 (Qa0.mk r40.2.at_ r40.2.seed).seed)]]⟩] [⟨88,3,[[(AV.lit (.slice A0 cd.length c0)),(I r42.2.at_),(IK .u64 r42.2.seed)]]⟩] [] Z12 [] Z12 []),hh 9 (.unpack 1001 1002 r42.1.toNat 0 Z14 158 4 Z13 Z16),hh 16 (.row [Z15]),hh 18 (.callX [0] [true] [⟨88,3,[[(AV.lit (.slice A0 cd.length c0)),(I (Qa0.mk r42.2.at_ r42.2.seed).at_),(IK .u64 (Qa0.mk r42.2.at_ r42.2.seed).seed)]]⟩] [⟨88,3,[[(AV.lit (.slice A0 cd.length c0)),(I r44.2.at_),(IK .u64 r44.2.seed)]]⟩] [] (FK r44.1) [] (FK r44.1) []),hh 25 (.row [Z15]),hO 26 Z17,hh 28 (.callX [0] [true] [⟨88,3,[[(AV.lit (.slice A0 cd.length c0)),(I (Qa0.mk r44.2.at_ r44.2.seed).at_),(IK .u64 (Qa0.mk r44.2.at_ r44.2.seed).seed)]]⟩] [⟨88,3,[[(AV.lit (.slice A0 cd.length c0)),(I r45.2.at_),(IK .u64 r45.2.seed)]]⟩] [] Z18 [] Z18 []),hW 30 1003,hh 31 (.app 1004 Z19),hh 56 (.row [Z15]),hh 57 (.row [Z15]),hh 58 (.row [Z15]),hh 65 (.row [Z15]),hO 66 Z17,hh 69 (.sto [Z15] Z21),hh 70 (.eqr 2 Z22),hh 72 (.pack 1001 1004 r42.1.toNat 0 [Z20] Z23)]) [] (.agg [.raw,.raw,.raw,.own]) (P2++[r40.1=true,[Z4][0]? = some Z4,Z4[3]? = some (AV.own 155 1 Z5),0<1,[Z4].set 0 (Z4.set 3 Z9)=Z10,AV.lit (.int .i64 Z24)=Z11,Qaw (PK.mk Try.prog Z1) 77 [⟨88,3,[[(AV.lit (.slice A0 cd.length c0)),(I (Qa0.mk r40.2.at_ r40.2.seed).at_),(IK .u64 (Qa0.mk r40.2.at_ r40.2.seed).seed)]]⟩] [Z2,Z11] [true] [⟨88,3,[[(AV.lit (.slice A0 cd.length c0)),(I r42.2.at_),(IK .u64 r42.2.seed)]]⟩] Z12,(some (Qae.mk 88 3 [[(AV.lit (.slice A0 cd.length c0)),(I r40.2.at_),(IK .u64 r40.2.seed)]])=some (Qae.mk 88 3 [[(AV.lit (.slice A0 cd.length c0)),(I (Qa0.mk r40.2.at_ r40.2.seed).at_),(IK .u64 (Qa0.mk r40.2.at_ r40.2.seed).seed)]]))∧True,(Qa1 [[(AV.lit (.slice A0 cd.length c0)),(I (Qa0.mk r40.2.at_ r40.2.seed).at_),(IK .u64 (Qa0.mk r40.2.at_ r40.2.seed).seed)]]=true∧Qa4 [[(AV.lit (.slice A0 cd.length c0)),(I (Qa0.mk r40.2.at_ r40.2.seed).at_),(IK .u64 (Qa0.mk r40.2.at_ r40.2.seed).seed)]]=true)∧True,([[(AV.lit (.slice A0 cd.length c0)),(I r42.2.at_),(IK .u64 r42.2.seed)]].length=[[(AV.lit (.slice A0 cd.length c0)),(I (Qa0.mk r40.2.at_ r40.2.seed).at_),(IK .u64 (Qa0.mk r40.2.at_ r40.2.seed).seed)]].length)∧True,Z25.1=Z12,Z25.2.1=[],Z5[r42.1.toNat]? = some Z14,Z14[0]? = some (AV.own 158 4 Z13),0<4,Z5.set r42.1.toNat (Z14.set 0 Z15)=Z16,(0:Int)≤r42.1,r42.1<Z24,Z16[r42.1.toNat]? = some [Z15],Qaw (PK.mk Try.prog Z1) 151 [⟨88,3,[[(AV.lit (.slice A0 cd.length c0)),(I (Qa0.mk r42.2.at_ r42.2.seed).at_),(IK .u64 (Qa0.mk r42.2.at_ r42.2.seed).seed)]]⟩] [Z2] [true] [⟨88,3,[[(AV.lit (.slice A0 cd.length c0)),(I r44.2.at_),(IK .u64 r44.2.seed)]]⟩] (FK r44.1),(some (Qae.mk 88 3 [[(AV.lit (.slice A0 cd.length c0)),(I r42.2.at_),(IK .u64 r42.2.seed)]])=some (Qae.mk 88 3 [[(AV.lit (.slice A0 cd.length c0)),(I (Qa0.mk r42.2.at_ r42.2.seed).at_),(IK .u64 (Qa0.mk r42.2.at_ r42.2.seed).seed)]]))∧True,(Qa1 [[(AV.lit (.slice A0 cd.length c0)),(I (Qa0.mk r42.2.at_ r42.2.seed).at_),(IK .u64 (Qa0.mk r42.2.at_ r42.2.seed).seed)]]=true∧Qa4 [[(AV.lit (.slice A0 cd.length c0)),(I (Qa0.mk r42.2.at_ r42.2.seed).at_),(IK .u64 (Qa0.mk r42.2.at_ r42.2.seed).seed)]]=true)∧True,([[(AV.lit (.slice A0 cd.length c0)),(I r44.2.at_),(IK .u64 r44.2.seed)]].length=[[(AV.lit (.slice A0 cd.length c0)),(I (Qa0.mk r42.2.at_ r42.2.seed).at_),(IK .u64 (Qa0.mk r42.2.at_ r42.2.seed).seed)]].length)∧True,Z26.1=(FK r44.1),Z26.2.1=[],(0:Int)≤r42.1,r42.1<Z24,Z16[r42.1.toNat]? = some [Z15],AV.lit (.int .i64 Z27)=Z17,Qaw (PK.mk Try.prog Z1) 77 [⟨88,3,[[(AV.lit (.slice A0 cd.length c0)),(I (Qa0.mk r44.2.at_ r44.2.seed).at_),(IK .u64 (Qa0.mk r44.2.at_ r44.2.seed).seed)]]⟩] [Z2,Z28] [true] [⟨88,3,[[(AV.lit (.slice A0 cd.length c0)),(I r45.2.at_),(IK .u64 r45.2.seed)]]⟩] Z18,(some (Qae.mk 88 3 [[(AV.lit (.slice A0 cd.length c0)),(I r44.2.at_),(IK .u64 r44.2.seed)]])=some (Qae.mk 88 3 [[(AV.lit (.slice A0 cd.length c0)),(I (Qa0.mk r44.2.at_ r44.2.seed).at_),(IK .u64 (Qa0.mk r44.2.at_ r44.2.seed).seed)]]))∧True,(Qa1 [[(AV.lit (.slice A0 cd.length c0)),(I (Qa0.mk r44.2.at_ r44.2.seed).at_),(IK .u64 (Qa0.mk r44.2.at_ r44.2.seed).seed)]]=true∧Qa4 [[(AV.lit (.slice A0 cd.length c0)),(I (Qa0.mk r44.2.at_ r44.2.seed).at_),(IK .u64 (Qa0.mk r44.2.at_ r44.2.seed).seed)]]=true)∧True,([[(AV.lit (.slice A0 cd.length c0)),(I r45.2.at_),(IK .u64 r45.2.seed)]].length=[[(AV.lit (.slice A0 cd.length c0)),(I (Qa0.mk r44.2.at_ r44.2.seed).at_),(IK .u64 (Qa0.mk r44.2.at_ r44.2.seed).seed)]].length)∧True,Z29.1=Z18,Z29.2.1=[],Z13.take Z13.length++Z31=Z19,Z31.all (fun r=>r.all AV.plain)=true,Z19.length * 32≤140737488355328,Z19.length≤140737488355328,Z32=Z32,Z32=Z32,Z32=Z32,Z32=Z32,Z9=Z9,Z9=Z9,Z9=Z9,Z9=Z9,Z12=Z12,Z12=Z12,Z12=Z12,Z12=Z12,Z32=Z32,Z32=Z32,Z32=Z32,Z9=Z9,Z9=Z9,Z9=Z9,Z12=Z12,Z12=Z12,Z12=Z12,Z33=Z33,(0:Int)≤r42.1,r42.1<Z24,Z33=Z33,(0:Int)≤r42.1,r42.1<Z24,Z33=Z33,(0:Int)≤r42.1,r42.1<Z24,Z15=Z15,Z16[r42.1.toNat]? = some [Z15],Z15=Z15,Z16[r42.1.toNat]? = some [Z15],Z15=Z15,Z16[r42.1.toNat]? = some [Z15],Z34=Z34,Z2=Z2,Z32=Z32,Z9=Z9,Z12=Z12,Z33=Z33,(0:Int)≤r42.1,r42.1<Z24,Z15=Z15,Z16[r42.1.toNat]? = some [Z15],Z17=Z17,AV.lit (.int .i64 Z27)=Z17,Z28=Z28,(0:Int)≤r42.1,r42.1<Z24,Z16[r42.1.toNat]? = some [Z15],Z16.set r42.1.toNat (wr [Z15] 0 [Z20])=Z21,[Z20].length=1,0 + [Z20].length≤[Z15].length,Z10=Z22,Z21[r42.1.toNat]? = some [Z20],[Z20][0]? = some Z20,Qa1 Z19=true,Z21.set r42.1.toNat ([Z20].set 0 (AV.own 158 4 Z19))=Z23,[[(AV.lit (.slice A0 cd.length c0)),(I r45.2.at_),(IK .u64 r45.2.seed)]]=[[(AV.lit (.slice A0 cd.length c0)),(I (Qa0.mk r45.2.at_ r45.2.seed).at_),(IK .u64 (Qa0.mk r45.2.at_ r45.2.seed).seed)]],Qa1 [[(AV.lit (.slice A0 cd.length c0)),(I (Qa0.mk r45.2.at_ r45.2.seed).at_),(IK .u64 (Qa0.mk r45.2.at_ r45.2.seed).seed)]]=true,Qa4 [[(AV.lit (.slice A0 cd.length c0)),(I (Qa0.mk r45.2.at_ r45.2.seed).at_),(IK .u64 (Qa0.mk r45.2.at_ r45.2.seed).seed)]]=true,Z6=Z6,Qa8 Z6=true,Z7=Z7,Qa8 Z7=true,Z8=Z8,Qa8 Z8=true,Qa1 (Z23.take Z21.length)=true,Z23.take Z21.length=Z23,Qa4 Z23=true]) (Qag AP2 ⟨c41,rfl,rfl,(by decide),rfl,(Qfn Qdw),(Qaj hr42),⟨rfl,trivial⟩,⟨⟨rfl,rfl⟩,trivial⟩,⟨rfl,trivial⟩,rfl,rfl,(rdM Qdw hx43),rfl,(by decide),rfl,(rd0 hx43),(rdL Qdw hx43),(Qcl (rdM Qdw hx43)),(Qi5 hr44),⟨rfl,trivial⟩,⟨⟨rfl,rfl⟩,trivial⟩,⟨rfl,trivial⟩,rfl,rfl,(rd0 hx43),(rdL Qdw hx43),(Qcl (rdM Qdw hx43)),(Qfn Qcb),(Qaj hr45),⟨rfl,trivial⟩,⟨⟨rfl,rfl⟩,trivial⟩,⟨rfl,trivial⟩,rfl,rfl,(Qiw Qcb hl46),(plD Xah),(Qnn Qcb hl46 (by decide)),(Qnm Qcb hl46),rfl,rfl,rfl,rfl,rfl,rfl,rfl,rfl,rfl,rfl,rfl,rfl,rfl,rfl,rfl,rfl,rfl,rfl,rfl,rfl,rfl,rfl,(rd0 hx43),(rdL Qdw hx43),rfl,(rd0 hx43),(rdL Qdw hx43),rfl,(rd0 hx43),(rdL Qdw hx43),rfl,(Qcl (rdM Qdw hx43)),rfl,(Qcl (rdM Qdw hx43)),rfl,(Qcl (rdM Qdw hx43)),rfl,rfl,rfl,rfl,rfl,rfl,(rd0 hx43),(rdL Qdw hx43),rfl,(Qcl (rdM Qdw hx43)),rfl,(Qfn Qcb),rfl,(rd0 hx43),(rdL Qdw hx43),(Qcl (rdM Qdw hx43)),(Qfy rfl),rfl,leB,(congrArg (fun nn=>[[(I a39.Cells),(I a39.Locks),(I a39.Conds),(AV.sl 1001 0 nn)]]) (show Z5.length=Z21.length from lnq)),(Qcl (rdM Qdw hx43)),rfl,(Qa7 Qqs),(Xe9 Qdw),rfl,rfl,rfl,rfl,rfl,rfl,rfl,rfl,rfl,(Qc8 lnq (Qa7 Xa3)),(Qep lnq),(Qaa n155),trivial⟩))
 ·obtain rfl:=sj h
  exact gR hP hn (H1++[hF 2,hh 3 (.unpack 2 1005 0 3 Z4 155 1 Z5 [[Z6,Z7,Z8,Z35]])]) [] (.agg [.raw,.raw,.raw,.own]) (P2++[r40.1=false,[Z4][0]? = some Z4,Z4[3]? = some (AV.own 155 1 Z5),0<1,[Z4].set 0 (Z4.set 3 Z35)=[[Z6,Z7,Z8,Z35]],[[(AV.lit (.slice A0 cd.length c0)),(I r40.2.at_),(IK .u64 r40.2.seed)]]=[[(AV.lit (.slice A0 cd.length c0)),(I (Qa0.mk r40.2.at_ r40.2.seed).at_),(IK .u64 (Qa0.mk r40.2.at_ r40.2.seed).seed)]],Qa1 [[(AV.lit (.slice A0 cd.length c0)),(I (Qa0.mk r40.2.at_ r40.2.seed).at_),(IK .u64 (Qa0.mk r40.2.at_ r40.2.seed).seed)]]=true,Qa4 [[(AV.lit (.slice A0 cd.length c0)),(I (Qa0.mk r40.2.at_ r40.2.seed).at_),(IK .u64 (Qa0.mk r40.2.at_ r40.2.seed).seed)]]=true,Z6=Z6,Qa8 Z6=true,Z7=Z7,Qa8 Z7=true,Z8=Z8,Qa8 Z8=true,Qa1 (Z5.take Z5.length)=true,Z5.take Z5.length=Z5,Qa4 Z5=true]) (Qag AP2 ⟨c47,rfl,rfl,(by decide),rfl,rfl,rfl,rfl,rfl,rfl,rfl,rfl,rfl,rfl,(Qay Xa3),Qax,(Qaa n155),trivial⟩)
noncomputable def Qcx  (cd:(List Int)) (a30:Qa0) (a31:Qa9) (a32:Qa9) : Option (Qa9×Qa0):=
 Option.bind (Qbh cd (Qa0.mk a30.at_ a30.seed) 2) fun r33 =>
 if r33.1=true then
  Option.bind (rd a32.Routines 0) fun x35 =>
  Option.bind (app x35 [(GOp.mk 15 0 0 0)]) fun l36 =>
  Qd0 cd (Qa0.mk r33.2.at_ r33.2.seed) a31 (Qa9.mk a32.Cells a32.Locks a32.Conds (a32.Routines.set (Int.toNat 0) l36))
 else
  Qd0 cd (Qa0.mk r33.2.at_ r33.2.seed) a31 a32
theorem Qib {A0:Option Addr} {c0:Nat} {cd:(List Int)} {E:Env} (hP:E.pk=PK.mk Try.prog (kv A0 cd)) (hn:E.n=108) (hx : ∀ p,p∈E.fx→p.1∈([0] : List Nat))   (a30:Qa0) (a31:Qa9) (a32:Qa9) (r:(Qa9×Qa0)) (h:Qcx cd a30 a31 a32=some r) : WAt E Qp4 (FQ (Qdu Θ Try.f130.results.toList [true] [⟨88,3,[[(AV.lit (.slice A0 (List.length cd) c0)),(I r.2.at_),(IK .u64 r.2.seed)]]⟩] (AV.agg (Qkw r.1)) E)) [true,true,true,true,true] ⟨[(0,(AV.ptr 0 0 0)),(2,(AV.ptr 1 0 0)),(3,(AV.ptr 2 0 0))],[(0,some ⟨88,3,[[(AV.lit (.slice A0 (List.length cd) c0)),(I a30.at_),(IK .u64 a30.seed)]]⟩),(1,some ⟨136,4,[((Qkw a31))]⟩),(2,some ⟨136,4,[((Qkw a32))]⟩)],[0,1,2,JJ]⟩:=by
 unfold Qcx at h
 obtain ⟨r33,hr33,h⟩:=bnS h
 let Z0:=B r33.1;let Z1:=rtf (Qe3 [(0,0)] Z0) [];let Z2:=Qkw a32;let Z3:=a32.Routines.map Qdw;let Z4:=AV.sl 1001 0 Z3.length;let Z5:=[(I a32.Cells),(I a32.Locks),(I a32.Conds),Z4];let Z16:=((Z3.length:Nat) : Int);let Z17:=[(GOp.mk 15 0 0 0)].map Qcb;let Z18:=(Z17.drop 0).take Z17.length;let Z19:=AV.ptr 2 0 3;let Z20:=AV.ptr 1001 (Int.toNat 0) 0
 let H1:List Hn:=[hh 1 (.callX [0] [true] [⟨88,3,[[(AV.lit (.slice A0 cd.length c0)),(I (Qa0.mk a30.at_ a30.seed).at_),(IK .u64 (Qa0.mk a30.at_ a30.seed).seed)]]⟩] [⟨88,3,[[(AV.lit (.slice A0 cd.length c0)),(I r33.2.at_),(IK .u64 r33.2.seed)]]⟩] [] Z0 [] Z0 [])]
 let P2:List Prop:=[Qaw (PK.mk Try.prog (kv A0 cd)) 83 [⟨88,3,[[(AV.lit (.slice A0 cd.length c0)),(I (Qa0.mk a30.at_ a30.seed).at_),(IK .u64 (Qa0.mk a30.at_ a30.seed).seed)]]⟩] [(AV.ptr 0 0 0),(I 2)] [true] [⟨88,3,[[(AV.lit (.slice A0 cd.length c0)),(I r33.2.at_),(IK .u64 r33.2.seed)]]⟩] Z0,(some (Qae.mk 88 3 [[(AV.lit (.slice A0 cd.length c0)),(I a30.at_),(IK .u64 a30.seed)]])=some (Qae.mk 88 3 [[(AV.lit (.slice A0 cd.length c0)),(I (Qa0.mk a30.at_ a30.seed).at_),(IK .u64 (Qa0.mk a30.at_ a30.seed).seed)]]))∧True,(Qa1 [[(AV.lit (.slice A0 cd.length c0)),(I (Qa0.mk a30.at_ a30.seed).at_),(IK .u64 (Qa0.mk a30.at_ a30.seed).seed)]]=true∧Qa4 [[(AV.lit (.slice A0 cd.length c0)),(I (Qa0.mk a30.at_ a30.seed).at_),(IK .u64 (Qa0.mk a30.at_ a30.seed).seed)]]=true)∧True,([[(AV.lit (.slice A0 cd.length c0)),(I r33.2.at_),(IK .u64 r33.2.seed)]].length=[[(AV.lit (.slice A0 cd.length c0)),(I (Qa0.mk a30.at_ a30.seed).at_),(IK .u64 (Qa0.mk a30.at_ a30.seed).seed)]].length)∧True,Z1.1=Z0,Z1.2.1=[]]
 have AP2:Qb0 P2:=⟨(Qc3 hr33),⟨rfl,trivial⟩,⟨⟨rfl,rfl⟩,trivial⟩,⟨rfl,trivial⟩,rfl,rfl,trivial⟩
 rcases itS h with ⟨c34,h⟩ | ⟨c48,h⟩
 ·obtain ⟨x35,hx35,h⟩:=bnS h
  obtain ⟨l36,hl36,h⟩:=bnS h
  exact (let Z6:=x35.map Qcb;let Z7:=[(AV.own 158 4 Z6)];let Z8:=AV.sl 1002 0 Z6.length;let Z9:=Z3.set (Int.toNat 0) [Z8];let Z10:=l36.map Qcb;let Z11:=AV.sl 1004 0 Z10.length;let Z12:=Z3.set (Int.toNat 0) [Z11];let Z13:=a32.Routines.set (Int.toNat 0) l36;let Z14:=Z13.map Qdw;let Z15:=[[(I a32.Cells),(I a32.Locks),(I a32.Conds),(AV.own 155 1 Z14)]];let Z21:=Qa9.mk a32.Cells a32.Locks a32.Conds Z13;gT hP hn hx (H1++[hT 2,hh 3 (.unpack 2 1001 0 3 Z2 155 1 Z3 [Z5]),hh 3 (.unpack 1001 1002 (Int.toNat 0) 0 Z7 158 4 Z6 Z9),hh 8 (.row [Z8]),hW 10 1003,hh 11 (.app 1004 Z10),hh 19 (.row [Z8]),hh 21 (.sto [Z8] Z12),hh 22 (.pack 1001 1004 (Int.toNat 0) 0 [Z11] Z14),hh 22 (.pack 2 1001 0 3 Z5 Z15)]) [(0,0),(1,1),(2,2)] [0,2,3] [] (P2++[r33.1=true,[Z2][0]? = some Z2,Z2[3]? = some (AV.own 155 1 Z3),0<1,[Z2].set 0 (Z2.set 3 Z4)=[Z5],Z3[(Int.toNat 0)]? = some Z7,Z7[0]? = some (AV.own 158 4 Z6),0<4,Z3.set (Int.toNat 0) (Z7.set 0 Z8)=Z9,(0:Int)≤0,0<Z16,Z9[(Int.toNat 0)]? = some [Z8],Z6.take Z6.length++Z18=Z10,Z18.all (fun r=>r.all AV.plain)=true,Z10.length * 32≤140737488355328,Z10.length≤140737488355328,Z19=Z19,Z19=Z19,Z4=Z4,Z4=Z4,Z19=Z19,Z4=Z4,Z20=Z20,(0:Int)≤0,0<Z16,Z8=Z8,Z9[(Int.toNat 0)]? = some [Z8],(0:Int)≤0,0<Z16,Z9[(Int.toNat 0)]? = some [Z8],Z9.set (Int.toNat 0) (wr [Z8] 0 [Z11])=Z12,[Z11].length=1,0 + [Z11].length≤[Z8].length,Z12[(Int.toNat 0)]? = some [Z11],[Z11][0]? = some Z11,Qa1 Z10=true,Z12.set (Int.toNat 0) ([Z11].set 0 (AV.own 158 4 Z10))=Z14,[Z5][0]? = some Z5,Z5[3]? = some (AV.sl 1001 0 Z14.length),Qa1 Z14=true,[Z5].set 0 (Z5.set 3 (AV.own 155 1 Z14))=Z15,Qa6 [(0,0),(1,1),(2,2)] [[(AV.lit (.slice A0 cd.length c0)),(I r33.2.at_),(IK .u64 r33.2.seed)]],Qa6 [(0,0),(1,1),(2,2)] [((Qkw a31))],Qa6 [(0,0),(1,1),(2,2)] Z15]) (Qag AP2 ⟨c34,rfl,rfl,(by decide),rfl,(rdM Qdw hx35),rfl,(by decide),rfl,(rd0 hx35),(rdL Qdw hx35),(Qcl (rdM Qdw hx35)),(Qiw Qcb hl36),(plD Xah),(Qnn Qcb hl36 (by decide)),(Qnm Qcb hl36),rfl,rfl,rfl,rfl,rfl,rfl,rfl,(rd0 hx35),(rdL Qdw hx35),rfl,(Qcl (rdM Qdw hx35)),(rd0 hx35),(rdL Qdw hx35),(Qcl (rdM Qdw hx35)),(Qfy rfl),rfl,leB,(Qcl (rdM Qdw hx35)),rfl,(Qa7 Qqs),(Xe9 Qdw),rfl,(pkS lnq),(Qa7 Xa3),rfl,(rok rfl),(rok (Qb1 Qit a31)),(rok (Qb1 Qit Z21)),trivial⟩) (Qia (A0:=A0) (c0:=c0) hP hn hx (Qa0.mk r33.2.at_ r33.2.seed) a31 Z21 _ h))
 ·exact gT hP hn hx (H1++[hF 2]) [(0,0),(1,1),(2,2)] [0,2,3] [] (P2++[r33.1=false,Qa6 [(0,0),(1,1),(2,2)] [[(AV.lit (.slice A0 cd.length c0)),(I r33.2.at_),(IK .u64 r33.2.seed)]],Qa6 [(0,0),(1,1),(2,2)] [((Qkw a31))],Qa6 [(0,0),(1,1),(2,2)] [Z2]]) (Qag AP2 ⟨c48,(rok rfl),(rok (Qb1 Qit a31)),(rok (Qb1 Qit a32)),trivial⟩) (Qia (A0:=A0) (c0:=c0) hP hn hx (Qa0.mk r33.2.at_ r33.2.seed) a31 a32 _ h)
noncomputable def Qbs  (cd:(List Int)) (r2:(Int×Qa0)) : Nat→Qa0→Qa9→Qa9→Int→Option (Qa9×Qa0)
 | 0,_,_,_,_=>none
 | n+1,a3,a4,a5,v6 =>
 if (decide (v6<(w64 (1+r2.1))))=true then
  Option.bind (rd a5.Routines 0) fun x8 =>
  Option.bind (app x8 [(GOp.mk 14 (w64 (v6+1)) 0 0)]) fun l9 =>
  Option.bind (Qai cd (Qa0.mk a3.at_ a3.seed) 2) fun r10 =>
  Qbt (Qbs cd r2 n) cd r2 v6 FU (Qa0.mk r10.2.at_ r10.2.seed) a4 (Qa9.mk a5.Cells a5.Locks a5.Conds (a5.Routines.set (Int.toNat 0) l9)) [] (w64 (1+r10.1))
 else
  Option.bind (Qbh cd (Qa0.mk a3.at_ a3.seed) 2) fun r23 =>
  if r23.1=true then
   Option.bind (rd a5.Routines 0) fun x25 =>
   Option.bind (Qai cd (Qa0.mk r23.2.at_ r23.2.seed) 2) fun r26 =>
   Option.bind (Qdo cd (Qa0.mk r26.2.at_ r26.2.seed) r26.1) fun r28 =>
   Option.bind (app x25 r28.1) fun l29 =>
   Qcx cd (Qa0.mk r28.2.at_ r28.2.seed) a4 (Qa9.mk a5.Cells a5.Locks a5.Conds (a5.Routines.set (Int.toNat 0) l29))
  else
   Qcx cd (Qa0.mk r23.2.at_ r23.2.seed) a4 a5
theorem Qmk {A0:Option Addr} {c0:Nat} {cd:(List Int)} {E:Env} (hP:E.pk=PK.mk Try.prog (kv A0 cd)) (hn:E.n=108) (hx : ∀ p,p∈E.fx→p.1∈([0] : List Nat)) (r2:(Int×Qa0))  : ∀ (n:Nat) (a3:Qa0) (a4:Qa9) (a5:Qa9) (v6:Int) (r:(Qa9×Qa0)),Qbs cd r2 n a3 a4 a5 v6=some r→WAt E Qp4 (FQ (Qdu Θ Try.f130.results.toList [true] [⟨88,3,[[(AV.lit (.slice A0 (List.length cd) c0)),(I r.2.at_),(IK .u64 r.2.seed)]]⟩] (AV.agg (Qkw r.1)) E)) [true,true,true,false,true,false] ⟨[(0,(AV.ptr 0 0 0)),(2,(AV.ptr 1 0 0)),(3,(AV.ptr 2 0 0)),(4,(I (w64 (1+r2.1)))),(5,(I v6))],[(0,some ⟨88,3,[[(AV.lit (.slice A0 (List.length cd) c0)),(I a3.at_),(IK .u64 a3.seed)]]⟩),(1,some ⟨136,4,[((Qkw a4))]⟩),(2,some ⟨136,4,[((Qkw a5))]⟩)],[0,1,2,JJ]⟩:=by
 intro n
 induction n with
 | zero=>intro a3 a4 a5 v6 r h;simp only [Qbs] at h;cases h
 | succ n ih =>
  intro a3 a4 a5 v6 r h
  simp only [Qbs] at h
  let Z0:=Qkw a5;let Z1:=a5.Routines.map Qdw;let Z2:=I a5.Cells;let Z3:=I a5.Locks;let Z4:=I a5.Conds;let Z5:=AV.sl 1001 0 Z1.length;let Z6:=[Z2,Z3,Z4,Z5];let Z18:=decide (v6<(w64 (1+r2.1)));let Z19:=((Z1.length:Nat) : Int);let Z20:=[(GOp.mk 14 (w64 (v6+1)) 0 0)].map Qcb;let Z21:=(Z20.drop 0).take Z20.length;let Z22:=AV.ptr 2 0 3;let Z23:=AV.ptr 1001 (Int.toNat 0) 0;let Z24:=kv A0 cd;let Z25:=AV.ptr 0 0 0;let Z30:=AV.sl 1006 0 Z1.length;let Z31:=[Z2,Z3,Z4,Z30];let Z49:=AV.ptr 1006 (Int.toNat 0) 0
  rcases itS h with ⟨c7,h⟩ | ⟨c22,h⟩
  ·obtain ⟨x8,hx8,h⟩:=bnS h
   obtain ⟨l9,hl9,h⟩:=bnS h
   obtain ⟨r10,hr10,h⟩:=bnS h
   exact (let Z7:=x8.map Qcb;let Z8:=[(AV.own 158 4 Z7)];let Z9:=AV.sl 1002 0 Z7.length;let Z10:=Z1.set (Int.toNat 0) [Z9];let Z11:=l9.map Qcb;let Z12:=AV.sl 1004 0 Z11.length;let Z13:=Z1.set (Int.toNat 0) [Z12];let Z14:=I r10.1;let Z15:=a5.Routines.set (Int.toNat 0) l9;let Z16:=Z15.map Qdw;let Z17:=[[Z2,Z3,Z4,(AV.own 155 1 Z16)]];let Z26:=rtf (Qe3 [(0,0)] Z14) [];let Z27:=Qa9.mk a5.Cells a5.Locks a5.Conds Z15;gT hP hn hx [hT 3,hh 4 (.unpack 2 1001 0 3 Z0 155 1 Z1 [Z6]),hh 4 (.unpack 1001 1002 (Int.toNat 0) 0 Z8 158 4 Z7 Z10),hh 9 (.row [Z9]),hW 13 1003,hh 14 (.app 1004 Z11),hh 22 (.row [Z9]),hh 24 (.sto [Z9] Z13),hh 27 (.callX [0] [true] [⟨88,3,[[(AV.lit (.slice A0 cd.length c0)),(I (Qa0.mk a3.at_ a3.seed).at_),(IK .u64 (Qa0.mk a3.at_ a3.seed).seed)]]⟩] [⟨88,3,[[(AV.lit (.slice A0 cd.length c0)),(I r10.2.at_),(IK .u64 r10.2.seed)]]⟩] [] Z14 [] Z14 []),hh 30 (.pack 1001 1004 (Int.toNat 0) 0 [Z12] Z16),hh 30 (.pack 2 1001 0 3 Z6 Z17),hh 30 (.nil 6 1005 158 4)] [(0,0),(1,1),(2,2),(1005,3)] [0,2,3,4,5,6,7] [] [Z18=true,[Z0][0]? = some Z0,Z0[3]? = some (AV.own 155 1 Z1),0<1,[Z0].set 0 (Z0.set 3 Z5)=[Z6],Z1[(Int.toNat 0)]? = some Z8,Z8[0]? = some (AV.own 158 4 Z7),0<4,Z1.set (Int.toNat 0) (Z8.set 0 Z9)=Z10,(0:Int)≤0,0<Z19,Z10[(Int.toNat 0)]? = some [Z9],Z7.take Z7.length++Z21=Z11,Z21.all (fun r=>r.all AV.plain)=true,Z11.length * 32≤140737488355328,Z11.length≤140737488355328,Z22=Z22,Z22=Z22,Z5=Z5,Z5=Z5,Z22=Z22,Z5=Z5,Z23=Z23,(0:Int)≤0,0<Z19,Z9=Z9,Z10[(Int.toNat 0)]? = some [Z9],(0:Int)≤0,0<Z19,Z10[(Int.toNat 0)]? = some [Z9],Z10.set (Int.toNat 0) (wr [Z9] 0 [Z12])=Z13,[Z12].length=1,0 + [Z12].length≤[Z9].length,Qaw (PK.mk Try.prog Z24) 77 [⟨88,3,[[(AV.lit (.slice A0 cd.length c0)),(I (Qa0.mk a3.at_ a3.seed).at_),(IK .u64 (Qa0.mk a3.at_ a3.seed).seed)]]⟩] [Z25,(I 2)] [true] [⟨88,3,[[(AV.lit (.slice A0 cd.length c0)),(I r10.2.at_),(IK .u64 r10.2.seed)]]⟩] Z14,(some (Qae.mk 88 3 [[(AV.lit (.slice A0 cd.length c0)),(I a3.at_),(IK .u64 a3.seed)]])=some (Qae.mk 88 3 [[(AV.lit (.slice A0 cd.length c0)),(I (Qa0.mk a3.at_ a3.seed).at_),(IK .u64 (Qa0.mk a3.at_ a3.seed).seed)]]))∧True,(Qa1 [[(AV.lit (.slice A0 cd.length c0)),(I (Qa0.mk a3.at_ a3.seed).at_),(IK .u64 (Qa0.mk a3.at_ a3.seed).seed)]]=true∧Qa4 [[(AV.lit (.slice A0 cd.length c0)),(I (Qa0.mk a3.at_ a3.seed).at_),(IK .u64 (Qa0.mk a3.at_ a3.seed).seed)]]=true)∧True,([[(AV.lit (.slice A0 cd.length c0)),(I r10.2.at_),(IK .u64 r10.2.seed)]].length=[[(AV.lit (.slice A0 cd.length c0)),(I (Qa0.mk a3.at_ a3.seed).at_),(IK .u64 (Qa0.mk a3.at_ a3.seed).seed)]].length)∧True,Z26.1=Z14,Z26.2.1=[],Z13[(Int.toNat 0)]? = some [Z12],[Z12][0]? = some Z12,Qa1 Z11=true,Z13.set (Int.toNat 0) ([Z12].set 0 (AV.own 158 4 Z11))=Z16,[Z6][0]? = some Z6,Z6[3]? = some (AV.sl 1001 0 Z16.length),Qa1 Z16=true,[Z6].set 0 (Z6.set 3 (AV.own 155 1 Z16))=Z17,Qa6 [(0,0),(1,1),(2,2),(1005,3)] [[(AV.lit (.slice A0 cd.length c0)),(I r10.2.at_),(IK .u64 r10.2.seed)]],Qa6 [(0,0),(1,1),(2,2),(1005,3)] [((Qkw a4))],Qa6 [(0,0),(1,1),(2,2),(1005,3)] Z17,Qa6 [(0,0),(1,1),(2,2),(1005,3)] ([].map Qcb)] ⟨c7,rfl,rfl,(by decide),rfl,(rdM Qdw hx8),rfl,(by decide),rfl,(rd0 hx8),(rdL Qdw hx8),(Qcl (rdM Qdw hx8)),(Qiw Qcb hl9),(plD Xah),(Qnn Qcb hl9 (by decide)),(Qnm Qcb hl9),rfl,rfl,rfl,rfl,rfl,rfl,rfl,(rd0 hx8),(rdL Qdw hx8),rfl,(Qcl (rdM Qdw hx8)),(rd0 hx8),(rdL Qdw hx8),(Qcl (rdM Qdw hx8)),(Qfy rfl),rfl,leB,(Qaj hr10),⟨rfl,trivial⟩,⟨⟨rfl,rfl⟩,trivial⟩,⟨rfl,trivial⟩,rfl,rfl,(Qcl (rdM Qdw hx8)),rfl,(Qa7 Qqs),(Xe9 Qdw),rfl,(pkS lnq),(Qa7 Xa3),rfl,(rok rfl),(rok (Qb1 Qit a4)),(rok (Qb1 Qit Z27)),(rok (Qa7 Qqs)),trivial⟩ (Qmj (A0:=A0) (c0:=c0) hP hn hx r2 v6 ih FU (Qa0.mk r10.2.at_ r10.2.seed) a4 Z27 [] (w64 (1+r10.1)) _ h))
  ·obtain ⟨r23,hr23,h⟩:=bnS h
   let Z28:=B r23.1;let Z29:=rtf (Qe3 [(0,0)] Z28) []
   let H1:List Hn:=[hF 3,hh 5 (.callX [0] [true] [⟨88,3,[[(AV.lit (.slice A0 cd.length c0)),(I (Qa0.mk a3.at_ a3.seed).at_),(IK .u64 (Qa0.mk a3.at_ a3.seed).seed)]]⟩] [⟨88,3,[[(AV.lit (.slice A0 cd.length c0)),(I r23.2.at_),(IK .u64 r23.2.seed)]]⟩] [] Z28 [] Z28 [])]
   let P2:List Prop:=[Z18=false,Qaw (PK.mk Try.prog Z24) 83 [⟨88,3,[[(AV.lit (.slice A0 cd.length c0)),(I (Qa0.mk a3.at_ a3.seed).at_),(IK .u64 (Qa0.mk a3.at_ a3.seed).seed)]]⟩] [Z25,(I 2)] [true] [⟨88,3,[[(AV.lit (.slice A0 cd.length c0)),(I r23.2.at_),(IK .u64 r23.2.seed)]]⟩] Z28,(some (Qae.mk 88 3 [[(AV.lit (.slice A0 cd.length c0)),(I a3.at_),(IK .u64 a3.seed)]])=some (Qae.mk 88 3 [[(AV.lit (.slice A0 cd.length c0)),(I (Qa0.mk a3.at_ a3.seed).at_),(IK .u64 (Qa0.mk a3.at_ a3.seed).seed)]]))∧True,(Qa1 [[(AV.lit (.slice A0 cd.length c0)),(I (Qa0.mk a3.at_ a3.seed).at_),(IK .u64 (Qa0.mk a3.at_ a3.seed).seed)]]=true∧Qa4 [[(AV.lit (.slice A0 cd.length c0)),(I (Qa0.mk a3.at_ a3.seed).at_),(IK .u64 (Qa0.mk a3.at_ a3.seed).seed)]]=true)∧True,([[(AV.lit (.slice A0 cd.length c0)),(I r23.2.at_),(IK .u64 r23.2.seed)]].length=[[(AV.lit (.slice A0 cd.length c0)),(I (Qa0.mk a3.at_ a3.seed).at_),(IK .u64 (Qa0.mk a3.at_ a3.seed).seed)]].length)∧True,Z29.1=Z28,Z29.2.1=[]]
   have AP2:Qb0 P2:=⟨c22,(Qc3 hr23),⟨rfl,trivial⟩,⟨⟨rfl,rfl⟩,trivial⟩,⟨rfl,trivial⟩,rfl,rfl,trivial⟩
   rcases itS h with ⟨c24,h⟩ | ⟨c49,h⟩
   ·obtain ⟨x25,hx25,h⟩:=bnS h
    obtain ⟨r26,hr26,h⟩:=bnS h
    obtain ⟨r28,hr28,h⟩:=bnS h
    obtain ⟨l29,hl29,h⟩:=bnS h
    exact (let Z32:=x25.map Qcb;let Z33:=[(AV.own 158 4 Z32)];let Z34:=AV.sl 1007 0 Z32.length;let Z35:=Z1.set (Int.toNat 0) [Z34];let Z36:=I r26.1;let Z37:=r28.1.map Qcb;let Z38:=AV.own 158 4 Z37;let Z39:=AV.sl 1008 0 Z37.length;let Z40:=l29.map Qcb;let Z41:=AV.sl 1009 0 Z40.length;let Z42:=Z1.set (Int.toNat 0) [Z41];let Z43:=a5.Routines.set (Int.toNat 0) l29;let Z44:=Z43.map Qdw;let Z45:=[[Z2,Z3,Z4,(AV.own 155 1 Z44)]];let Z46:=rtf (Qe3 [(0,0)] Z36) [];let Z47:=rtf (Qe3 [(0,0)] Z38) [1008];let Z48:=(Z37.drop 0).take Z37.length;let Z50:=Qa9.mk a5.Cells a5.Locks a5.Conds Z43;gT hP hn hx (H1++[hT 6,hh 7 (.unpack 2 1006 0 3 Z0 155 1 Z1 [Z31]),hh 7 (.unpack 1006 1007 (Int.toNat 0) 0 Z33 158 4 Z32 Z35),hh 12 (.row [Z34]),hh 15 (.callX [0] [true] [⟨88,3,[[(AV.lit (.slice A0 cd.length c0)),(I (Qa0.mk r23.2.at_ r23.2.seed).at_),(IK .u64 (Qa0.mk r23.2.at_ r23.2.seed).seed)]]⟩] [⟨88,3,[[(AV.lit (.slice A0 cd.length c0)),(I r26.2.at_),(IK .u64 r26.2.seed)]]⟩] [] Z36 [] Z36 []),hh 16 (.callX [0] [true] [⟨88,3,[[(AV.lit (.slice A0 cd.length c0)),(I (Qa0.mk r26.2.at_ r26.2.seed).at_),(IK .u64 (Qa0.mk r26.2.at_ r26.2.seed).seed)]]⟩] [⟨88,3,[[(AV.lit (.slice A0 cd.length c0)),(I r28.2.at_),(IK .u64 r28.2.seed)]]⟩] [] Z38 [1008] Z39 [(1008,⟨158,4,Z37⟩)]),hh 17 (.app 1009 Z40),hh 30 (.row [Z34]),hh 31 (.row [Z34]),hh 34 (.sto [Z34] Z42),hh 35 (.pack 1006 1009 (Int.toNat 0) 0 [Z41] Z44),hh 35 (.pack 2 1006 0 3 Z31 Z45)]) [(0,0),(1,1),(2,2)] [0,2,3] [] (P2++[r23.1=true,[Z0][0]? = some Z0,Z0[3]? = some (AV.own 155 1 Z1),0<1,[Z0].set 0 (Z0.set 3 Z30)=[Z31],Z1[(Int.toNat 0)]? = some Z33,Z33[0]? = some (AV.own 158 4 Z32),0<4,Z1.set (Int.toNat 0) (Z33.set 0 Z34)=Z35,(0:Int)≤0,0<Z19,Z35[(Int.toNat 0)]? = some [Z34],Qaw (PK.mk Try.prog Z24) 77 [⟨88,3,[[(AV.lit (.slice A0 cd.length c0)),(I (Qa0.mk r23.2.at_ r23.2.seed).at_),(IK .u64 (Qa0.mk r23.2.at_ r23.2.seed).seed)]]⟩] [Z25,(I 2)] [true] [⟨88,3,[[(AV.lit (.slice A0 cd.length c0)),(I r26.2.at_),(IK .u64 r26.2.seed)]]⟩] Z36,(some (Qae.mk 88 3 [[(AV.lit (.slice A0 cd.length c0)),(I r23.2.at_),(IK .u64 r23.2.seed)]])=some (Qae.mk 88 3 [[(AV.lit (.slice A0 cd.length c0)),(I (Qa0.mk r23.2.at_ r23.2.seed).at_),(IK .u64 (Qa0.mk r23.2.at_ r23.2.seed).seed)]]))∧True,(Qa1 [[(AV.lit (.slice A0 cd.length c0)),(I (Qa0.mk r23.2.at_ r23.2.seed).at_),(IK .u64 (Qa0.mk r23.2.at_ r23.2.seed).seed)]]=true∧Qa4 [[(AV.lit (.slice A0 cd.length c0)),(I (Qa0.mk r23.2.at_ r23.2.seed).at_),(IK .u64 (Qa0.mk r23.2.at_ r23.2.seed).seed)]]=true)∧True,([[(AV.lit (.slice A0 cd.length c0)),(I r26.2.at_),(IK .u64 r26.2.seed)]].length=[[(AV.lit (.slice A0 cd.length c0)),(I (Qa0.mk r23.2.at_ r23.2.seed).at_),(IK .u64 (Qa0.mk r23.2.at_ r23.2.seed).seed)]].length)∧True,Z46.1=Z36,Z46.2.1=[],Qaw (PK.mk Try.prog Z24) 150 [⟨88,3,[[(AV.lit (.slice A0 cd.length c0)),(I (Qa0.mk r26.2.at_ r26.2.seed).at_),(IK .u64 (Qa0.mk r26.2.at_ r26.2.seed).seed)]]⟩] [Z25,Z36] [true] [⟨88,3,[[(AV.lit (.slice A0 cd.length c0)),(I r28.2.at_),(IK .u64 r28.2.seed)]]⟩] Z38,(some (Qae.mk 88 3 [[(AV.lit (.slice A0 cd.length c0)),(I r26.2.at_),(IK .u64 r26.2.seed)]])=some (Qae.mk 88 3 [[(AV.lit (.slice A0 cd.length c0)),(I (Qa0.mk r26.2.at_ r26.2.seed).at_),(IK .u64 (Qa0.mk r26.2.at_ r26.2.seed).seed)]]))∧True,(Qa1 [[(AV.lit (.slice A0 cd.length c0)),(I (Qa0.mk r26.2.at_ r26.2.seed).at_),(IK .u64 (Qa0.mk r26.2.at_ r26.2.seed).seed)]]=true∧Qa4 [[(AV.lit (.slice A0 cd.length c0)),(I (Qa0.mk r26.2.at_ r26.2.seed).at_),(IK .u64 (Qa0.mk r26.2.at_ r26.2.seed).seed)]]=true)∧True,([[(AV.lit (.slice A0 cd.length c0)),(I r28.2.at_),(IK .u64 r28.2.seed)]].length=[[(AV.lit (.slice A0 cd.length c0)),(I (Qa0.mk r26.2.at_ r26.2.seed).at_),(IK .u64 (Qa0.mk r26.2.at_ r26.2.seed).seed)]].length)∧True,Z47.1=Z39,Z47.2.1=[(1008,⟨158,4,Z37⟩)],Z32.take Z32.length++Z48=Z40,Z48.all (fun r=>r.all AV.plain)=true,Z40.length * 32≤140737488355328,Z40.length≤140737488355328,Z22=Z22,Z22=Z22,Z22=Z22,Z30=Z30,Z30=Z30,Z30=Z30,Z22=Z22,Z22=Z22,Z30=Z30,Z30=Z30,Z49=Z49,(0:Int)≤0,0<Z19,Z49=Z49,(0:Int)≤0,0<Z19,Z34=Z34,Z35[(Int.toNat 0)]? = some [Z34],Z34=Z34,Z35[(Int.toNat 0)]? = some [Z34],Z25=Z25,(0:Int)≤0,0<Z19,Z35[(Int.toNat 0)]? = some [Z34],Z35.set (Int.toNat 0) (wr [Z34] 0 [Z41])=Z42,[Z41].length=1,0 + [Z41].length≤[Z34].length,Z42[(Int.toNat 0)]? = some [Z41],[Z41][0]? = some Z41,Qa1 Z40=true,Z42.set (Int.toNat 0) ([Z41].set 0 (AV.own 158 4 Z40))=Z44,[Z31][0]? = some Z31,Z31[3]? = some (AV.sl 1006 0 Z44.length),Qa1 Z44=true,[Z31].set 0 (Z31.set 3 (AV.own 155 1 Z44))=Z45,Qa6 [(0,0),(1,1),(2,2)] [[(AV.lit (.slice A0 cd.length c0)),(I r28.2.at_),(IK .u64 r28.2.seed)]],Qa6 [(0,0),(1,1),(2,2)] [((Qkw a4))],Qa6 [(0,0),(1,1),(2,2)] Z45]) (Qag AP2 ⟨c24,rfl,rfl,(by decide),rfl,(rdM Qdw hx25),rfl,(by decide),rfl,(rd0 hx25),(rdL Qdw hx25),(Qcl (rdM Qdw hx25)),(Qaj hr26),⟨rfl,trivial⟩,⟨⟨rfl,rfl⟩,trivial⟩,⟨rfl,trivial⟩,rfl,rfl,(Qh6 hr28),⟨rfl,trivial⟩,⟨⟨rfl,rfl⟩,trivial⟩,⟨rfl,trivial⟩,rfl,rfl,(Qiw Qcb hl29),(plD Xah),(Qnn Qcb hl29 (by decide)),(Qnm Qcb hl29),rfl,rfl,rfl,rfl,rfl,rfl,rfl,rfl,rfl,rfl,rfl,(rd0 hx25),(rdL Qdw hx25),rfl,(rd0 hx25),(rdL Qdw hx25),rfl,(Qcl (rdM Qdw hx25)),rfl,(Qcl (rdM Qdw hx25)),rfl,(rd0 hx25),(rdL Qdw hx25),(Qcl (rdM Qdw hx25)),(Qfy rfl),rfl,leB,(Qcl (rdM Qdw hx25)),rfl,(Qa7 Qqs),(Xe9 Qdw),rfl,(pkS lnq),(Qa7 Xa3),rfl,(rok rfl),(rok (Qb1 Qit a4)),(rok (Qb1 Qit Z50)),trivial⟩) (Qib (A0:=A0) (c0:=c0) hP hn hx (Qa0.mk r28.2.at_ r28.2.seed) a4 Z50 _ h))
   ·exact gT hP hn hx (H1++[hF 6]) [(0,0),(1,1),(2,2)] [0,2,3] [] (P2++[r23.1=false,Qa6 [(0,0),(1,1),(2,2)] [[(AV.lit (.slice A0 cd.length c0)),(I r23.2.at_),(IK .u64 r23.2.seed)]],Qa6 [(0,0),(1,1),(2,2)] [((Qkw a4))],Qa6 [(0,0),(1,1),(2,2)] [Z0]]) (Qag AP2 ⟨c49,(rok rfl),(rok (Qb1 Qit a4)),(rok (Qb1 Qit a5)),trivial⟩) (Qib (A0:=A0) (c0:=c0) hP hn hx (Qa0.mk r23.2.at_ r23.2.seed) a4 a5 _ h)
noncomputable def Qfu (cd:(List Int)) (p1:Qa0) : Option (Qa9×Qa0):=
 Option.bind (Qai cd (Qa0.mk p1.at_ p1.seed) 2) fun r2 =>
 Qbs cd r2 FU (Qa0.mk r2.2.at_ r2.2.seed) (Qa9.mk 0 0 0 []) (Qa9.mk 2 2 1 [[]]) 0
theorem Qp5 {cd:(List Int)} {p1:Qa0} {A0:Option Addr} {c0:Nat} {r:(Qa9×Qa0)} (h:Qfu cd p1=some r) : Qaw (PK.mk Try.prog (kv A0 cd)) 130 [⟨88,3,[[(AV.lit (.slice A0 (List.length cd) c0)),(I p1.at_),(IK .u64 p1.seed)]]⟩] [(AV.ptr 0 0 0)] [true] [⟨88,3,[[(AV.lit (.slice A0 (List.length cd) c0)),(I r.2.at_),(IK .u64 r.2.seed)]]⟩] (AV.agg (Qkw r.1)):=by
 refine Qfc (X:=PK.mk Try.prog (kv A0 cd)) Qxi Try.func130 rfl (c:=Qp4) (by kernel_rfl) (Nat.le_of_ble_eq_true rfl) rfl (Nat.le_of_ble_eq_true rfl) rfl (fr:=[0]) (frI rfl) ?_
 intro E hP hn hx
 replace hn:E.n=108:=hn
 unfold Qfu at h
 obtain ⟨r2,hr2,h⟩:=bnS h
 exact (let Z0:=[(AV.own 158 4 [])];let Z1:=[].map Qcb;let Z2:=AV.sl 1003 0 Z1.length;let Z3:=[(I 0),(I 0),(I 0)];let Z4:=[[(I 0),(I 0),(I 0),(AV.own 155 1 ([].map Qdw))]];let Z5:=[[]].map Qdw;let Z6:=[(I 2),(I 2),(I 1),(AV.sl 1002 0 [[Z2]].length)];let Z7:=[[(I 2),(I 2),(I 1),(AV.own 155 1 Z5)]];let Z8:=rtf (Qe3 [(0,0)] (I r2.1)) [];let Z9:=Qa9.mk 2 2 1 [[]];gT hP hn hx [hW 0 1001,hW 1 1002,hh 2 (.own0 1002 1 [] [] 158 4 [Z0]),hh 2 (.unpack 1002 1003 0 0 Z0 158 4 Z1 [[Z2]]),hW 3 1004,hh 6 (.callX [0] [true] [⟨88,3,[[(AV.lit (.slice A0 cd.length c0)),(I (Qa0.mk p1.at_ p1.seed).at_),(IK .u64 (Qa0.mk p1.at_ p1.seed).seed)]]⟩] [⟨88,3,[[(AV.lit (.slice A0 cd.length c0)),(I r2.2.at_),(IK .u64 r2.2.seed)]]⟩] [] (I r2.1) [] (I r2.1) []),hh 10 (.own0 1001 1 Z3 [] 155 1 Z4),hh 10 (.pack 1002 1003 0 0 [Z2] Z5),hh 10 (.pack 1004 1002 0 3 Z6 Z7)] [(0,0),(1001,1),(1004,2)] [0,2,3,4,5] [] [[[nS]]=List.replicate 1 ([]++nS :: []),List.replicate 1 ([]++(AV.own 158 4 []) :: [])=[Z0],[Z0][0]? = some Z0,Z0[0]? = some (AV.own 158 4 Z1),0<4,[Z0].set 0 (Z0.set 0 Z2)=[[Z2]],Qaw (PK.mk Try.prog (kv A0 cd)) 77 [⟨88,3,[[(AV.lit (.slice A0 cd.length c0)),(I (Qa0.mk p1.at_ p1.seed).at_),(IK .u64 (Qa0.mk p1.at_ p1.seed).seed)]]⟩] [(AV.ptr 0 0 0),(I 2)] [true] [⟨88,3,[[(AV.lit (.slice A0 cd.length c0)),(I r2.2.at_),(IK .u64 r2.2.seed)]]⟩] (I r2.1),(some (Qae.mk 88 3 [[(AV.lit (.slice A0 cd.length c0)),(I p1.at_),(IK .u64 p1.seed)]])=some (Qae.mk 88 3 [[(AV.lit (.slice A0 cd.length c0)),(I (Qa0.mk p1.at_ p1.seed).at_),(IK .u64 (Qa0.mk p1.at_ p1.seed).seed)]]))∧True,(Qa1 [[(AV.lit (.slice A0 cd.length c0)),(I (Qa0.mk p1.at_ p1.seed).at_),(IK .u64 (Qa0.mk p1.at_ p1.seed).seed)]]=true∧Qa4 [[(AV.lit (.slice A0 cd.length c0)),(I (Qa0.mk p1.at_ p1.seed).at_),(IK .u64 (Qa0.mk p1.at_ p1.seed).seed)]]=true)∧True,([[(AV.lit (.slice A0 cd.length c0)),(I r2.2.at_),(IK .u64 r2.2.seed)]].length=[[(AV.lit (.slice A0 cd.length c0)),(I (Qa0.mk p1.at_ p1.seed).at_),(IK .u64 (Qa0.mk p1.at_ p1.seed).seed)]].length)∧True,Z8.1=(I r2.1),Z8.2.1=[],[[(I 0),(I 0),(I 0),nS]]=List.replicate 1 (Z3++AV.lit (.slice none 0 0) :: []),List.replicate 1 (Z3++AV.own 155 1 [] :: [])=Z4,[[Z2]][0]? = some [Z2],[Z2][0]? = some Z2,Qa1 Z1=true,[[Z2]].set 0 ([Z2].set 0 (AV.own 158 4 Z1))=Z5,[Z6][0]? = some Z6,Z6[3]? = some (AV.sl 1002 0 Z5.length),Qa1 Z5=true,[Z6].set 0 (Z6.set 3 (AV.own 155 1 Z5))=Z7,Qa6 [(0,0),(1001,1),(1004,2)] [[(AV.lit (.slice A0 cd.length c0)),(I r2.2.at_),(IK .u64 r2.2.seed)]],Qa6 [(0,0),(1001,1),(1004,2)] Z4,Qa6 [(0,0),(1001,1),(1004,2)] Z7] ⟨rfl,rfl,rfl,rfl,(by decide),rfl,(Qaj hr2),⟨rfl,trivial⟩,⟨⟨rfl,rfl⟩,trivial⟩,⟨rfl,trivial⟩,rfl,rfl,rfl,rfl,rfl,rfl,(Qa7 Qqs),rfl,rfl,(pkS lnq),(Qa7 Xa3),rfl,(rok rfl),(rok (Qb1 Qit (Qa9.mk 0 0 0 []))),(rok (Qb1 Qit Z9)),trivial⟩ (Qmk (A0:=A0) (c0:=c0) hP hn hx r2 FU (Qa0.mk r2.2.at_ r2.2.seed) (Qa9.mk 0 0 0 []) Z9 0 _ h))
noncomputable def Xk3:Code:=match Try.f81.body with | some c=>c | none=>.skip
noncomputable def Qbu (p1:Int) (p2:Int) (p3:Int) : Option Bool:=
 if (decide (p1 ≥ p2))=true then
  some (decide (p1≤p3))
 else
  some false
theorem Qbj {p1:Int} {p2:Int} {p3:Int} {r:Bool} (h:Qbu p1 p2 p3=some r) : Qab Try.prog 81 [(I p1),(I p2),(I p3)] (B r):=by
 refine gM Try.func81 15 Xk3 fun E hP hn hx=>?_
 unfold Qbu at h
 let Z0:=B (decide (p1 ≥ p2));let Z1:=B (decide (p1≤p3));let Z2:=B false
 rcases itS h with ⟨c4,h⟩ | ⟨c5,h⟩
 ·obtain rfl:=sj h
  exact gR hP hn [hO 4 (B true)] [] .raw [Z0=(B true),Z1=Z1,Qa8 Z1=true] ⟨(Qb5 c4),rfl,rfl,trivial⟩
 ·obtain rfl:=sj h
  exact gR hP hn [hO 4 Z2] [] .raw [Z0=Z2,Z2=Z2,Qa8 Z2=true] ⟨(Qb5 c5),rfl,rfl,trivial⟩
noncomputable def Xhg:Code:=match Try.f202.body with | some c=>c | none=>.skip
noncomputable def Qdb (p1:Nat) : Option Bool:=
 if ((Qd9 p1 0) == some .lt)=true then
  some true
 else
  if ((Qd9 p1 0) == some .eq)=true then
   some ((Qd9 (fdv 4607182418800017408 p1) 0) == some .lt)
  else
   some false
theorem Qmy {p1:Nat} {r:Bool} (h:Qdb p1=some r) : Qab Try.prog 202 [(FK p1)] (B r):=by
 refine gM Try.func202 14 Xhg fun E hP hn hx=>?_
 unfold Qdb at h
 let Z0:=Qd9 p1 0;let Z1:=B true;let Z2:=B false;let Z3:=fdv 4607182418800017408 p1;let Z4:=Qd9 Z3 0
 let H1:List Hn:=[hh 2 (.bin (B (Z0 == some .lt)))]
 let P2:List Prop:=[Qil Try.prog .lss 156 (FK p1) (FK 0) (B (Z0 == some .lt))]
 have AP2:Qb0 P2:=⟨Xju,trivial⟩
 rcases itS h with ⟨c2,h⟩ | ⟨c3,h⟩
 ·obtain rfl:=sj h
  exact gR hP hn (H1++[hO 3 Z1]) [] .raw (P2++[(B (Z0 == some .lt))=Z1,Z1=Z1,Qa8 Z1=true]) (Qag AP2 ⟨(Qb5 c2),rfl,rfl,trivial⟩)
 ·let P3:List Prop:=P2++[(B (Z0 == some .lt))=Z2,Qil Try.prog .eql 156 (FK p1) (FK 0) (B (Z0 == some .eq))]
  have AP3:Qb0 P3:=Qag AP2 ⟨(Qb5 c3),Xkg,trivial⟩
  rcases itS h with ⟨c4,h⟩ | ⟨c5,h⟩
  ·obtain rfl:=sj h
   exact gR hP hn (H1++[hO 3 Z2,hh 5 (.bin (B (Z0 == some .eq))),hO 6 Z1,hh 8 (.bin (FK Z3)),hh 9 (.bin (B (Z4 == some .lt)))]) [] .raw (P3++[(B (Z0 == some .eq))=Z1,Qil Try.prog .quo 156 (FK 4607182418800017408) (FK p1) (FK Z3),Qil Try.prog .lss 156 (FK Z3) (FK 0) (B (Z4 == some .lt)),(B (Z4 == some .lt))=(B (Z4 == some .lt)),Qa8 (B (Z4 == some .lt))=true]) (Qag AP3 ⟨(Qb5 c4),Xje,Xju,rfl,rfl,trivial⟩)
  ·obtain rfl:=sj h
   exact gR hP hn (H1++[hO 3 Z2,hh 5 (.bin (B (Z0 == some .eq))),hO 6 Z2]) [] .raw (P3++[(B (Z0 == some .eq))=Z2,Z2=Z2,Qa8 Z2=true]) (Qag AP3 ⟨(Qb5 c5),rfl,rfl,trivial⟩)
noncomputable def Xi1:Code:=match Try.f200.body with | some c=>c | none=>.skip
noncomputable def Qdz (p1:Nat) : Option Bool:=
 some ((Qd9 p1 p1) != some .eq)
theorem Qdc {p1:Nat} {r:Bool} (h:Qdz p1=some r) : Qab Try.prog 200 [(FK p1)] (B r):=by
 refine gM Try.func200 6 Xi1 fun E hP hn hx=>?_
 unfold Qdz at h
 obtain rfl:=sj h
 exact (let Z0:=Qd9 p1 p1;gR hP hn [hh 3 (.bin (B (Z0 != some .eq)))] [] .raw [Qil Try.prog .neq 156 (FK p1) (FK p1) (B (Z0 != some .eq)),(B (Z0 != some .eq))=(B (Z0 != some .eq)),Qa8 (B (Z0 != some .eq))=true] ⟨fNeq,rfl,rfl,trivial⟩)
noncomputable def Xdr:Code:=match Try.f197.body with | some c=>c | none=>.skip
noncomputable def Qel  (p1:Nat) (p2:Nat)  : Option Bool:=
 if ((Qd9 p1 p2) == some .eq)=true then
  Option.bind (Qdb p1) fun r18 =>
  Option.bind (Qdb p2) fun r19 =>
  some (r18 == r19)
 else
  some false
theorem Qnd {E:Env} (hP:E.pk=pk0 Try.prog) (hn:E.n=27) (hx:FX E []) (p1:Nat) (p2:Nat)   (r:Bool) (h:Qel p1 p2  = some r) : WAt E Xdr (FQ (Qdu Θ Try.f197.results.toList [] [] (B r) E)) [true,false,true,true] ⟨[(0,(FK p1)),(1,(FK p2))],[],[JJ]⟩:=by
 unfold Qel at h
 let Z0:=Qd9 p1 p2;let Z2:=B false
 rcases itS h with ⟨c17,h⟩ | ⟨c20,h⟩
 ·obtain ⟨r18,hr18,h⟩:=bnS h
  obtain ⟨r19,hr19,h⟩:=bnS h
  obtain rfl:=sj h
  exact (let Z1:=B (r18 == r19);gR hP hn [hh 2 (.bin (B (Z0 == some .eq))),hO 3 (B true),hh 5 (.callV [] (B r18)),hh 7 (.callV [] (B r19))] [] .raw [Qil Try.prog .eql 156 (FK p1) (FK p2) (B (Z0 == some .eq)),(B (Z0 == some .eq))=(B true),Qab Try.prog 202 [(FK p1)] (B r18),Qa8 (B r18)=true,Qab Try.prog 202 [(FK p2)] (B r19),Qa8 (B r19)=true,Z1=Z1,Qa8 Z1=true] ⟨Xkg,(Qb5 c17),(Qmy hr18),rfl,(Qmy hr19),rfl,rfl,rfl,trivial⟩)
 ·obtain rfl:=sj h
  exact gR hP hn [hh 2 (.bin (B (Z0 == some .eq))),hO 3 Z2] [] .raw [Qil Try.prog .eql 156 (FK p1) (FK p2) (B (Z0 == some .eq)),(B (Z0 == some .eq))=Z2,Z2=Z2,Qa8 Z2=true] ⟨Xkg,(Qb5 c20),rfl,rfl,trivial⟩
noncomputable def Qcr (p1:Nat) (p2:Nat) : Option Bool:=
 Option.bind (Qdz p1) fun r3 =>
 if r3=true then
  Option.bind (Qdz p1) fun r5 =>
  if r5=true then
   Option.bind (Qdz p2) fun r7 =>
   some r7
  else
   some false
 else
  Option.bind (Qdz p2) fun r10 =>
  if r10=true then
   Option.bind (Qdz p1) fun r12 =>
   if r12=true then
    Option.bind (Qdz p2) fun r14 =>
    some r14
   else
    some false
  else
   Qel p1 p2
theorem Qkq {p1:Nat} {p2:Nat} {r:Bool} (h:Qcr p1 p2=some r) : Qab Try.prog 197 [(FK p1),(FK p2)] (B r):=by
 refine gM Try.func197 27 Xdr fun E hP hn hx=>?_
 unfold Qcr at h
 obtain ⟨r3,hr3,h⟩:=bnS h
 let Z0:=B true;let Z1:=B false
 let H1:List Hn:=[hh 2 (.callV [] (B r3))]
 let P2:List Prop:=[Qab Try.prog 200 [(FK p1)] (B r3),Qa8 (B r3)=true]
 have AP2:Qb0 P2:=⟨(Qdc hr3),rfl,trivial⟩
 rcases itS h with ⟨c4,h⟩ | ⟨c9,h⟩
 ·obtain ⟨r5,hr5,h⟩:=bnS h
  rcases itS h with ⟨c6,h⟩ | ⟨c8,h⟩
  ·obtain ⟨r7,hr7,h⟩:=bnS h
   obtain rfl:=sj h
   exact gR hP hn (H1++[hO 3 Z0,hh 9 (.callV [] (B r5)),hO 10 Z0,hh 12 (.callV [] (B r7))]) [] .raw (P2++[(B r3)=Z0,Qab Try.prog 200 [(FK p1)] (B r5),Qa8 (B r5)=true,(B r5)=Z0,Qab Try.prog 200 [(FK p2)] (B r7),Qa8 (B r7)=true,(B r7)=(B r7),Qa8 (B r7)=true]) (Qag AP2 ⟨(Qb5 c4),(Qdc hr5),rfl,(Qb5 c6),(Qdc hr7),rfl,rfl,rfl,trivial⟩)
  ·obtain rfl:=sj h
   exact gR hP hn (H1++[hO 3 Z0,hh 9 (.callV [] (B r5)),hO 10 Z1]) [] .raw (P2++[(B r3)=Z0,Qab Try.prog 200 [(FK p1)] (B r5),Qa8 (B r5)=true,(B r5)=Z1,Z1=Z1,Qa8 Z1=true]) (Qag AP2 ⟨(Qb5 c4),(Qdc hr5),rfl,(Qb5 c8),rfl,rfl,trivial⟩)
 ·obtain ⟨r10,hr10,h⟩:=bnS h
  let H3:List Hn:=H1++[hO 3 Z1,hh 5 (.callV [] (B r10))]
  let P4:List Prop:=P2++[(B r3)=Z1,Qab Try.prog 200 [(FK p2)] (B r10),Qa8 (B r10)=true]
  have AP4:Qb0 P4:=Qag AP2 ⟨(Qb5 c9),(Qdc hr10),rfl,trivial⟩
  rcases itS h with ⟨c11,h⟩ | ⟨c16,h⟩
  ·obtain ⟨r12,hr12,h⟩:=bnS h
   let Z2:=B r12
   rcases itS h with ⟨c13,h⟩ | ⟨c15,h⟩
   ·obtain ⟨r14,hr14,h⟩:=bnS h
    obtain rfl:=sj h
    exact gR hP hn (H3++[hT 7,hh 9 (.callV [] Z2),hO 10 Z0,hh 12 (.callV [] (B r14))]) [] .raw (P4++[r10=true,Qab Try.prog 200 [(FK p1)] Z2,Qa8 Z2=true,Z2=Z0,Qab Try.prog 200 [(FK p2)] (B r14),Qa8 (B r14)=true,(B r14)=(B r14),Qa8 (B r14)=true]) (Qag AP4 ⟨c11,(Qdc hr12),rfl,(Qb5 c13),(Qdc hr14),rfl,rfl,rfl,trivial⟩)
   ·obtain rfl:=sj h
    exact gR hP hn (H3++[hT 7,hh 9 (.callV [] Z2),hO 10 Z1]) [] .raw (P4++[r10=true,Qab Try.prog 200 [(FK p1)] Z2,Qa8 Z2=true,Z2=Z1,Z1=Z1,Qa8 Z1=true]) (Qag AP4 ⟨c11,(Qdc hr12),rfl,(Qb5 c15),rfl,rfl,trivial⟩)
  ·exact gT hP hn hx (H3++[hF 7]) [] [0,1] [] (P4++[r10=false]) (Qag AP4 ⟨c16,trivial⟩) (Qnd hP hn hx p1 p2  _ h)
noncomputable def Xce:Code:=match Try.f196.body with | some c=>c | none=>.skip
noncomputable def Qbi  (p1:Int) (v5:Bool) : Option Str:=
 if v5=true then
  some [97]
 else
  if (p1 == 16)=true then
   some [97,98]
  else
   some []
theorem Qcj {E:Env} (hP:E.pk=pk0 Try.prog) (hn:E.n=17) (hx:FX E []) (p1:Int)  (v5:Bool) (r:Str) (h:Qbi p1 v5=some r) : WAt E Xce (FQ (Qdu Θ Try.f196.results.toList [] [] (SK r) E)) [true,false,true,false,true,true,true] ⟨[(3,(I p1)),(6,(B v5))],[],[JJ]⟩:=by
 unfold Qbi at h
 rcases itS h with ⟨c6,h⟩ | ⟨c7,h⟩
 ·obtain rfl:=sj h
  exact gR hP hn [hT 0] [] .raw [v5=true,(SK [97])=(SK [97]),Qa8 (SK [97])=true] ⟨c6,rfl,rfl,trivial⟩
 ·rcases itS h with ⟨c8,h⟩ | ⟨c9,h⟩
  ·obtain rfl:=sj h
   exact gR hP hn [hF 0,hT 3] [] .raw [v5=false,(p1 == 16)=true,(SK [97,98])=(SK [97,98]),Qa8 (SK [97,98])=true] ⟨c7,c8,rfl,rfl,trivial⟩
  ·obtain rfl:=sj h
   exact gR hP hn [hF 0,hF 3] [] .raw [v5=false,(p1 == 16)=false,(SK [])=(SK []),Qa8 (SK [])=true] ⟨c7,c9,rfl,rfl,trivial⟩
noncomputable def Qgg (p1:Int) : Option Str:=
 if (p1 == 1)=true then
  some [118]
 else
  if (p1 == 2)=true then
   Qbi p1 (p1 == 2)
  else
   if (p1 == 3)=true then
    Qbi p1 (p1 == 3)
   else
    if (p1 == 10)=true then
     Qbi p1 (p1 == 10)
    else
     if (p1 == 11)=true then
      Qbi p1 (p1 == 11)
     else
      if (p1 == 12)=true then
       Qbi p1 (p1 == 12)
      else
       if (p1 == 13)=true then
        Qbi p1 (p1 == 13)
       else
        if (p1 == 14)=true then
         Qbi p1 (p1 == 14)
        else
         Qbi p1 (p1 == 17)
theorem Qv8 {p1:Int} {r:Str} (h:Qgg p1=some r) : Qab Try.prog 196 [(I p1)] (SK r):=by
 refine gM Try.func196 17 Xce fun E hP hn hx=>?_
 unfold Qgg at h
 let Z0:=p1 == 11;let Z1:=p1 == 12
 rcases itS h with ⟨c2,h⟩ | ⟨c3,h⟩
 ·obtain rfl:=sj h
  exact gR hP hn [hT 4] [] .raw [(p1 == 1)=true,(SK [118])=(SK [118]),Qa8 (SK [118])=true] ⟨c2,rfl,rfl,trivial⟩
 ·let P1:List Prop:=[(p1 == 1)=false]
  have AP1:Qb0 P1:=⟨c3,trivial⟩
  rcases itS h with ⟨c4,h⟩ | ⟨c10,h⟩
  ·exact gT hP hn hx [hF 4,hT 7] [] [3,6] [] (P1++[(p1 == 2)=true]) (Qag AP1 ⟨c4,trivial⟩) (Qcj hP hn hx p1 (p1 == 2) _ h)
  ·let P2:List Prop:=P1++[(p1 == 2)=false]
   have AP2:Qb0 P2:=Qag AP1 ⟨c10,trivial⟩
   rcases itS h with ⟨c11,h⟩ | ⟨c12,h⟩
   ·exact gT hP hn hx [hF 4,hF 7,hT 10] [] [3,6] [] (P2++[(p1 == 3)=true]) (Qag AP2 ⟨c11,trivial⟩) (Qcj hP hn hx p1 (p1 == 3) _ h)
   ·let H3:List Hn:=[hF 4,hF 7,hF 10]
    rcases itS h with ⟨c13,h⟩ | ⟨c14,h⟩
    ·exact gT hP hn hx (H3++[hT 13]) [] [3,6] [] (P2++[(p1 == 3)=false,(p1 == 10)=true]) (Qag AP2 ⟨c12,c13,trivial⟩) (Qcj hP hn hx p1 (p1 == 10) _ h)
    ·let P4:List Prop:=P2++[(p1 == 3)=false,(p1 == 10)=false]
     have AP4:Qb0 P4:=Qag AP2 ⟨c12,c14,trivial⟩
     rcases itS h with ⟨c15,h⟩ | ⟨c16,h⟩
     ·exact gT hP hn hx (H3++[hF 13,hT 16]) [] [3,6] [] (P4++[Z0=true]) (Qag AP4 ⟨c15,trivial⟩) (Qcj hP hn hx p1 (p1 == 11) _ h)
     ·rcases itS h with ⟨c17,h⟩ | ⟨c18,h⟩
      ·exact gT hP hn hx (H3++[hF 13,hF 16,hT 19]) [] [3,6] [] (P4++[Z0=false,Z1=true]) (Qag AP4 ⟨c16,c17,trivial⟩) (Qcj hP hn hx p1 (p1 == 12) _ h)
      ·rcases itS h with ⟨c19,h⟩ | ⟨c20,h⟩
       ·exact gT hP hn hx (H3++[hF 13,hF 16,hF 19,hT 22]) [] [3,6] [] (P4++[Z0=false,Z1=false,(p1 == 13)=true]) (Qag AP4 ⟨c16,c18,c19,trivial⟩) (Qcj hP hn hx p1 (p1 == 13) _ h)
       ·rcases itS h with ⟨c21,h⟩ | ⟨c22,h⟩
        ·exact gT hP hn hx (H3++[hF 13,hF 16,hF 19,hF 22,hT 25]) [] [3,6] [] (P4++[Z0=false,Z1=false,(p1 == 13)=false,(p1 == 14)=true]) (Qag AP4 ⟨c16,c18,c20,c21,trivial⟩) (Qcj hP hn hx p1 (p1 == 14) _ h)
        ·exact gT hP hn hx (H3++[hF 13,hF 16,hF 19,hF 22,hF 25]) [] [3,6] [] (P4++[Z0=false,Z1=false,(p1 == 13)=false,(p1 == 14)=false]) (Qag AP4 ⟨c16,c18,c20,c22,trivial⟩) (Qcj hP hn hx p1 (p1 == 17) _ h)
noncomputable def Xdg:Code:=match Try.f188.body with | some c=>c | none=>.skip
noncomputable def Qfv  (p1:GOp) (r2:Str)  : Option Bool:=
 if (r2 == [118])=true then
  if (r2 == [97])=true then
   if (r2 == [97,98])=true then
    some true
   else
    some (p1.B == 0)
  else
   if (r2 == [97,98])=true then
    if (r2 == [97,98])=true then
     some true
    else
     some (p1.B == 0)
   else
    if (p1.A == 0)=true then
     if (r2 == [97,98])=true then
      some true
     else
      some (p1.B == 0)
    else
     some false
 else
  Option.bind (Qcr p1.V 0) fun r26 =>
  if r26=true then
   if (r2 == [97])=true then
    if (r2 == [97,98])=true then
     some true
    else
     some (p1.B == 0)
   else
    if (r2 == [97,98])=true then
     if (r2 == [97,98])=true then
      some true
     else
      some (p1.B == 0)
    else
     if (p1.A == 0)=true then
      if (r2 == [97,98])=true then
       some true
      else
       some (p1.B == 0)
     else
      some false
  else
   some false
theorem Qp3 {E:Env} (hP:E.pk=pk0 Try.prog) (hn:E.n=52) (hx:FX E []) (p1:GOp) (r2:Str)   (r:Bool) (h:Qfv p1 r2  = some r) : WAt E Xdg (FQ (Qdu Θ Try.f188.results.toList [] [] (B r) E)) [true,true,false,true,true] ⟨[(1,(AV.ptr 1 0 0)),(3,(SK r2))],[(1,some ⟨158,4,[((Qcb p1))]⟩)],[1,JJ]⟩:=by
 unfold Qfv at h
 let Z0:=B (r2 == [118]);let Z1:=B true;let Z2:=B (r2 == [97]);let Z3:=B (r2 == [97,98]);let Z4:=B false;let Z5:=B (p1.B == 0);let Z6:=B (p1.A == 0)
 let H1:List Hn:=[hh 1 (.bin Z0)]
 let P2:List Prop:=[Qil Try.prog .eql 9 (SK r2) (SK [118]) Z0]
 have AP2:Qb0 P2:=⟨Xei,trivial⟩
 rcases itS h with ⟨c12,h⟩ | ⟨c25,h⟩
 ·let H3:List Hn:=H1++[hO 2 Z1,hh 9 (.bin Z2)]
  let P4:List Prop:=P2++[Z0=Z1,Qil Try.prog .eql 9 (SK r2) (SK [97]) Z2]
  have AP4:Qb0 P4:=Qag AP2 ⟨(Qb5 c12),Xei,trivial⟩
  rcases itS h with ⟨c13,h⟩ | ⟨c16,h⟩
  ·let P5:List Prop:=P4++[Z2=Z1,Qil Try.prog .eql 9 (SK r2) (SK [97,98]) Z3]
   have AP5:Qb0 P5:=Qag AP4 ⟨(Qb5 c13),Xei,trivial⟩
   rcases itS h with ⟨c14,h⟩ | ⟨c15,h⟩
   ·obtain rfl:=sj h
    exact gR hP hn (H3++[hO 10 Z1,hh 22 (.bin Z3),hO 23 Z1]) [] .raw (P5++[Z3=Z1,Z1=Z1,Qa8 Z1=true]) (Qag AP5 ⟨(Qb5 c14),rfl,rfl,trivial⟩)
   ·obtain rfl:=sj h
    exact gR hP hn (H3++[hO 10 Z1,hh 22 (.bin Z3),hO 23 Z4]) [] .raw (P5++[Z3=Z4,Z5=Z5,Qa8 Z5=true]) (Qag AP5 ⟨(Qb5 c15),rfl,rfl,trivial⟩)
  ·let H6:List Hn:=H3++[hO 10 Z4,hh 12 (.bin Z3)]
   let P7:List Prop:=P4++[Z2=Z4,Qil Try.prog .eql 9 (SK r2) (SK [97,98]) Z3]
   have AP7:Qb0 P7:=Qag AP4 ⟨(Qb5 c16),Xei,trivial⟩
   rcases itS h with ⟨c17,h⟩ | ⟨c20,h⟩
   ·let P8:List Prop:=P7++[Z3=Z1,Qil Try.prog .eql 9 (SK r2) (SK [97,98]) Z3]
    have AP8:Qb0 P8:=Qag AP7 ⟨(Qb5 c17),Xei,trivial⟩
    rcases itS h with ⟨c18,h⟩ | ⟨c19,h⟩
    ·obtain rfl:=sj h
     exact gR hP hn (H6++[hO 14 Z1,hh 22 (.bin Z3),hO 23 Z1]) [] .raw (P8++[Z3=Z1,Z1=Z1,Qa8 Z1=true]) (Qag AP8 ⟨(Qb5 c18),rfl,rfl,trivial⟩)
    ·obtain rfl:=sj h
     exact gR hP hn (H6++[hO 14 Z1,hh 22 (.bin Z3),hO 23 Z4]) [] .raw (P8++[Z3=Z4,Z5=Z5,Qa8 Z5=true]) (Qag AP8 ⟨(Qb5 c19),rfl,rfl,trivial⟩)
   ·rcases itS h with ⟨c21,h⟩ | ⟨c24,h⟩
    ·let H9:List Hn:=H6++[hO 14 Z4,hO 20 Z1,hh 22 (.bin Z3)]
     let P10:List Prop:=P7++[Z3=Z4,Z6=Z1,Qil Try.prog .eql 9 (SK r2) (SK [97,98]) Z3]
     have AP10:Qb0 P10:=Qag AP7 ⟨(Qb5 c20),(Qb5 c21),Xei,trivial⟩
     rcases itS h with ⟨c22,h⟩ | ⟨c23,h⟩
     ·obtain rfl:=sj h
      exact gR hP hn (H9++[hO 23 Z1]) [] .raw (P10++[Z3=Z1,Z1=Z1,Qa8 Z1=true]) (Qag AP10 ⟨(Qb5 c22),rfl,rfl,trivial⟩)
     ·obtain rfl:=sj h
      exact gR hP hn (H9++[hO 23 Z4]) [] .raw (P10++[Z3=Z4,Z5=Z5,Qa8 Z5=true]) (Qag AP10 ⟨(Qb5 c23),rfl,rfl,trivial⟩)
    ·obtain rfl:=sj h
     exact gR hP hn (H6++[hO 14 Z4,hO 20 Z4]) [] .raw (P7++[Z3=Z4,Z6=Z4,Z4=Z4,Qa8 Z4=true]) (Qag AP7 ⟨(Qb5 c20),(Qb5 c24),rfl,rfl,trivial⟩)
 ·obtain ⟨r26,hr26,h⟩:=bnS h
  let H11:List Hn:=H1++[hO 2 Z4,hh 5 (.callV [] (B r26))]
  let P12:List Prop:=P2++[Z0=Z4,Qab Try.prog 197 [(FK p1.V),(FK 0)] (B r26),Qa8 (B r26)=true]
  have AP12:Qb0 P12:=Qag AP2 ⟨(Qb5 c25),(Qkq hr26),rfl,trivial⟩
  rcases itS h with ⟨c27,h⟩ | ⟨c40,h⟩
  ·let H13:List Hn:=H11++[hO 7 Z1,hh 9 (.bin Z2)]
   let P14:List Prop:=P12++[(B r26)=Z1,Qil Try.prog .eql 9 (SK r2) (SK [97]) Z2]
   have AP14:Qb0 P14:=Qag AP12 ⟨(Qb5 c27),Xei,trivial⟩
   rcases itS h with ⟨c28,h⟩ | ⟨c31,h⟩
   ·let P15:List Prop:=P14++[Z2=Z1,Qil Try.prog .eql 9 (SK r2) (SK [97,98]) Z3]
    have AP15:Qb0 P15:=Qag AP14 ⟨(Qb5 c28),Xei,trivial⟩
    rcases itS h with ⟨c29,h⟩ | ⟨c30,h⟩
    ·obtain rfl:=sj h
     exact gR hP hn (H13++[hO 10 Z1,hh 22 (.bin Z3),hO 23 Z1]) [] .raw (P15++[Z3=Z1,Z1=Z1,Qa8 Z1=true]) (Qag AP15 ⟨(Qb5 c29),rfl,rfl,trivial⟩)
    ·obtain rfl:=sj h
     exact gR hP hn (H13++[hO 10 Z1,hh 22 (.bin Z3),hO 23 Z4]) [] .raw (P15++[Z3=Z4,Z5=Z5,Qa8 Z5=true]) (Qag AP15 ⟨(Qb5 c30),rfl,rfl,trivial⟩)
   ·let H16:List Hn:=H13++[hO 10 Z4,hh 12 (.bin Z3)]
    let P17:List Prop:=P14++[Z2=Z4,Qil Try.prog .eql 9 (SK r2) (SK [97,98]) Z3]
    have AP17:Qb0 P17:=Qag AP14 ⟨(Qb5 c31),Xei,trivial⟩
    rcases itS h with ⟨c32,h⟩ | ⟨c35,h⟩
    ·let P18:List Prop:=P17++[Z3=Z1,Qil Try.prog .eql 9 (SK r2) (SK [97,98]) Z3]
     have AP18:Qb0 P18:=Qag AP17 ⟨(Qb5 c32),Xei,trivial⟩
     rcases itS h with ⟨c33,h⟩ | ⟨c34,h⟩
     ·obtain rfl:=sj h
      exact gR hP hn (H16++[hO 14 Z1,hh 22 (.bin Z3),hO 23 Z1]) [] .raw (P18++[Z3=Z1,Z1=Z1,Qa8 Z1=true]) (Qag AP18 ⟨(Qb5 c33),rfl,rfl,trivial⟩)
     ·obtain rfl:=sj h
      exact gR hP hn (H16++[hO 14 Z1,hh 22 (.bin Z3),hO 23 Z4]) [] .raw (P18++[Z3=Z4,Z5=Z5,Qa8 Z5=true]) (Qag AP18 ⟨(Qb5 c34),rfl,rfl,trivial⟩)
    ·rcases itS h with ⟨c36,h⟩ | ⟨c39,h⟩
     ·let H19:List Hn:=H16++[hO 14 Z4,hO 20 Z1,hh 22 (.bin Z3)]
      let P20:List Prop:=P17++[Z3=Z4,Z6=Z1,Qil Try.prog .eql 9 (SK r2) (SK [97,98]) Z3]
      have AP20:Qb0 P20:=Qag AP17 ⟨(Qb5 c35),(Qb5 c36),Xei,trivial⟩
      rcases itS h with ⟨c37,h⟩ | ⟨c38,h⟩
      ·obtain rfl:=sj h
       exact gR hP hn (H19++[hO 23 Z1]) [] .raw (P20++[Z3=Z1,Z1=Z1,Qa8 Z1=true]) (Qag AP20 ⟨(Qb5 c37),rfl,rfl,trivial⟩)
      ·obtain rfl:=sj h
       exact gR hP hn (H19++[hO 23 Z4]) [] .raw (P20++[Z3=Z4,Z5=Z5,Qa8 Z5=true]) (Qag AP20 ⟨(Qb5 c38),rfl,rfl,trivial⟩)
     ·obtain rfl:=sj h
      exact gR hP hn (H16++[hO 14 Z4,hO 20 Z4]) [] .raw (P17++[Z3=Z4,Z6=Z4,Z4=Z4,Qa8 Z4=true]) (Qag AP17 ⟨(Qb5 c35),(Qb5 c39),rfl,rfl,trivial⟩)
  ·obtain rfl:=sj h
   exact gR hP hn (H11++[hO 7 Z4]) [] .raw (P12++[(B r26)=Z4,Z4=Z4,Qa8 Z4=true]) (Qag AP12 ⟨(Qb5 c40),rfl,rfl,trivial⟩)
noncomputable def Qgm (p1:GOp) : Option Bool:=
 Option.bind (Qgg p1.Code) fun r2 =>
 Option.bind (Qbu p1.Code 1 17) fun r3 =>
 if (!r3)=true then
  some false
 else
  Option.bind (Qbu p1.A 0 999) fun r6 =>
  if (!r6)=true then
   some false
  else
   Option.bind (Qbu p1.B 0 999) fun r9 =>
   if (!r9)=true then
    some false
   else
    Qfv p1 r2
theorem Qsq {p1:GOp} {r:Bool} (h:Qgm p1=some r) : Qab Try.prog 188 [(AV.agg ((Qcb p1)))] (B r):=by
 refine gM Try.func188 52 Xdg fun E hP hn hx=>?_
 unfold Qgm at h
 obtain ⟨r2,hr2,h⟩:=bnS h
 obtain ⟨r3,hr3,h⟩:=bnS h
 let Z0:=B false
 let H1:List Hn:=[hW 0 1001,hh 4 (.callV [] (SK r2)),hh 8 (.callV [] (B r3))]
 let P2:List Prop:=[Qab Try.prog 196 [(I p1.Code)] (SK r2),Qa8 (SK r2)=true,Qab Try.prog 81 [(I p1.Code),(I 1),(I 17)] (B r3),Qa8 (B r3)=true]
 have AP2:Qb0 P2:=⟨(Qv8 hr2),rfl,(Qbj hr3),rfl,trivial⟩
 rcases itS h with ⟨c4,h⟩ | ⟨c5,h⟩
 ·obtain rfl:=sj h
  exact gR hP hn (H1++[hO 10 (B true)]) [] .raw (P2++[(B (!r3))=(B true),Z0=Z0,Qa8 Z0=true]) (Qag AP2 ⟨(Qb5 c4),rfl,rfl,trivial⟩)
 ·obtain ⟨r6,hr6,h⟩:=bnS h
  let H3:List Hn:=H1++[hO 10 Z0,hh 13 (.callV [] (B r6))]
  let P4:List Prop:=P2++[(B (!r3))=Z0,Qab Try.prog 81 [(I p1.A),(I 0),(I 999)] (B r6),Qa8 (B r6)=true]
  have AP4:Qb0 P4:=Qag AP2 ⟨(Qb5 c5),(Qbj hr6),rfl,trivial⟩
  rcases itS h with ⟨c7,h⟩ | ⟨c8,h⟩
  ·obtain rfl:=sj h
   exact gR hP hn (H3++[hO 16 (B true)]) [] .raw (P4++[(B (!r6))=(B true),Z0=Z0,Qa8 Z0=true]) (Qag AP4 ⟨(Qb5 c7),rfl,rfl,trivial⟩)
  ·obtain ⟨r9,hr9,h⟩:=bnS h
   let P5:List Prop:=P4++[(B (!r6))=Z0,Qab Try.prog 81 [(I p1.B),(I 0),(I 999)] (B r9),Qa8 (B r9)=true]
   have AP5:Qb0 P5:=Qag AP4 ⟨(Qb5 c8),(Qbj hr9),rfl,trivial⟩
   rcases itS h with ⟨c10,h⟩ | ⟨c11,h⟩
   ·obtain rfl:=sj h
    exact gR hP hn (H3++[hO 16 Z0,hh 19 (.callV [] (B r9)),hT 22]) [] .raw (P5++[(!r9)=true,Z0=Z0,Qa8 Z0=true]) (Qag AP5 ⟨c10,rfl,rfl,trivial⟩)
   ·exact gT hP hn hx (H3++[hO 16 Z0,hh 19 (.callV [] (B r9)),hF 22]) [(1001,1)] [1,3] [] (P5++[(!r9)=false,Qa6 [(1001,1)] [((Qcb p1))]]) (Qag AP5 ⟨c11,(rok rfl),trivial⟩) (Qp3 hP hn hx p1 r2  _ h)
end Go.Proofs.Ytdmmaanagmacjaa
