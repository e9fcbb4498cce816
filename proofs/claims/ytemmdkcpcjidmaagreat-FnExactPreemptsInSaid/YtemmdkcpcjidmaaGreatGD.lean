/- Functions as plain data, and that the code comes to them; no condition. -/

import Derived.Test.YtemmdkcpcjidmaaGreatGC
set_option linter.unusedVariables false
set_option maxRecDepth 100000
namespace Go.Proofs.YtemmdkcpcjidmaaGreat
open Go Go.T
noncomputable def Qn8:Code:=match Tryz.f82.body with | some c=>c | none=>.skip
noncomputable def Qd9 (K0:Qaf→Qbi→Qa1→Int→Int→Option Int) (p2:Qbi) (a4:Qaf) (a5:Qbi) (a6:Qa1) (v8:Int) (x10:Qaa) (v17:Int) : Option Int:=
 Option.bind (Qfw a4 (Qa1.mk a6.Threads a6.Cells a6.Owner a6.Fault) x10.Thread) fun r18 =>
 K0 a4 a5 (Qa1.mk r18.1.Threads r18.1.Cells r18.1.Owner r18.1.Fault) v17 (w64 (v8+1))
theorem Qj3 {E:Env} (hP:E.pk=pk0 Tryz.prog) (hn:E.n=61) (hx:FX E []) (p2:Qbi) (a4:Qaf) (a5:Qbi) (a6:Qa1) (v8:Int) (x10:Qaa) {K0:Qaf→Qbi→Qa1→Int→Int→Option Int} (hK0 : ∀ (a4:Qaf) (a5:Qbi) (a6:Qa1) (v7:Int) (v8:Int) (r:Int),K0 a4 a5 a6 v7 v8=some r→WAt E Qn8 (FQ (Qdj Θ Tryz.f82.results.toList [] [] (I r) E)) [true,true,true,false,true,false] ⟨[(2,(AV.ptr 1 0 0)),(3,(AV.ptr 2 0 0)),(5,(AV.ptr 3 0 0)),(6,(I v7)),(14,(AV.ro 5 (p2.Trace.map o60))),(15,(I (p2.Trace.length:Int))),(16,(I v8))],[(1,some ⟨39,4,[((r39 a4))]⟩),(2,some ⟨46,7,[((r46 a5))]⟩),(3,some ⟨44,4,[((o44 a6))]⟩)],[1,2,3,JJ]⟩) (v17:Int) (r:Int) (h:Qd9 K0 p2 a4 a5 a6 v8 x10 v17=some r) : WAt E Qn8 (FQ (Qdj Θ Tryz.f82.results.toList [] [] (I r) E)) [true,true,true,false,true,false,false,true,true,false,false,true,true] ⟨[(2,(AV.ptr 1 0 0)),(3,(AV.ptr 2 0 0)),(5,(AV.ptr 3 0 0)),(6,(I v17)),(8,(AV.ptr 4 0 0)),(14,(AV.ro 5 (p2.Trace.map o60))),(15,(I (p2.Trace.length:Int))),(16,(I v8))],[(1,some ⟨39,4,[((r39 a4))]⟩),(2,some ⟨46,7,[((r46 a5))]⟩),(3,some ⟨44,4,[[(AV.own 70 6 (a6.Threads.map o70)),(AV.own 132 1 (a6.Cells.map Qae)),(AV.own 3 1 (a6.Owner.map o3)),(I a6.Fault)]]⟩),(4,some ⟨60,5,[((o60 x10))]⟩)],[1,2,3,4,JJ]⟩:=by
 unfold Qd9 at h
 obtain ⟨r18,hr18,h⟩:=bnS h
 exact (let Z0:=a6.Threads.map o70;let Z1:=a6.Cells.map Qae;let Z2:=AV.own 132 1 Z1;let Z3:=a6.Owner.map o3;let Z4:=AV.own 3 1 Z3;let Z5:=I a6.Fault;let Z6:=[(AV.own 70 6 Z0),Z2,Z4,Z5];let Z7:=AV.sl 1001 0 Z0.length;let Z8:=[Z7,Z2,Z4,Z5];let Z9:=AV.sl 1002 0 Z1.length;let Z10:=[Z7,Z9,Z4,Z5];let Z11:=AV.sl 1003 0 Z3.length;let Z12:=a6.Threads.map r70;let Z13:=AV.tup [(AV.agg (o44 r18.1)),(AV.agg (o60 r18.2))];let Z14:=r18.1.Threads.map o70;let Z15:=AV.sl 1004 0 Z14.length;let Z16:=r18.1.Cells.map Qae;let Z17:=AV.sl 1005 0 Z16.length;let Z18:=r18.1.Owner.map o3;let Z19:=AV.sl 1006 0 Z18.length;let Z20:=I r18.1.Fault;let Z21:=[Z15,Z17,Z19,Z20];let Z22:=AV.own 70 6 Z14;let Z23:=[Z22,Z17,Z19,Z20];let Z24:=AV.own 132 1 Z16;let Z25:=[Z22,Z24,Z19,Z20];let Z26:=[[Z22,Z24,(AV.own 3 1 Z18),Z20]];let Z27:=Qa1.mk r18.1.Threads r18.1.Cells r18.1.Owner r18.1.Fault;gT hP hn hx [hh 1 (.unpack 3 1001 0 0 Z6 70 6 Z0 [Z8]),hh 1 (.unpack 3 1002 0 1 Z8 132 1 Z1 [Z10]),hh 1 (.unpack 3 1003 0 2 Z10 3 1 Z3 [[Z7,Z9,Z11,Z5]]),hh 4 (.call [[],[],Z12,Z1,Z3] Z13 [1004,1005,1006]),hW 8 1007,hW 9 1008,hh 16 (.pack 3 1004 0 0 Z21 [Z23]),hh 16 (.pack 3 1005 0 1 Z23 [Z25]),hh 16 (.pack 3 1006 0 2 Z25 Z26)] [(1,1),(2,2),(3,3)] [2,3,5,6,14,15,16] [] [[Z6][0]? = some Z6,Z6[0]? = some (AV.own 70 6 Z0),0<6,[Z6].set 0 (Z6.set 0 Z7)=[Z8],[Z8][0]? = some Z8,Z8[1]? = some Z2,0<1,[Z8].set 0 (Z8.set 1 Z9)=[Z10],[Z10][0]? = some Z10,Z10[2]? = some Z4,0<1,[Z10].set 0 (Z10.set 2 Z11)=[[Z7,Z9,Z11,Z5]],Qa4 Tryz.prog 94 [(AV.agg ((r39 a4))),(AV.agg [(AV.ro 6 Z12),(AV.ro 1 Z1),(AV.ro 1 Z3),Z5]),(I x10.Thread)] Z13,Qc2 Z13=true,Frz ((Z0.drop 0).take Z0.length) Z12,Frz ((Z1.drop 0).take Z1.length) Z1,Frz ((Z3.drop 0).take Z3.length) Z3,[Z21][0]? = some Z21,Z21[0]? = some Z15,Qa2 Z14=true,[Z21].set 0 (Z21.set 0 Z22)=[Z23],[Z23][0]? = some Z23,Z23[1]? = some Z17,Qa2 Z16=true,[Z23].set 0 (Z23.set 1 Z24)=[Z25],[Z25][0]? = some Z25,Z25[2]? = some Z19,Qa2 Z18=true,[Z25].set 0 (Z25.set 2 (AV.own 3 1 Z18))=Z26,Qa8 [(1,1),(2,2),(3,3)] [((r39 a4))],Qa8 [(1,1),(2,2),(3,3)] [((r46 a5))],Qa8 [(1,1),(2,2),(3,3)] Z26] ⟨rfl,rfl,(by decide),rfl,rfl,rfl,(by decide),rfl,rfl,rfl,(by decide),rfl,(Qh0 hr18),(by simp +zetaDelta only [Qc2,Qbm,Qa9 n3,Qa9 n70,Qa9 Qe7,o44,o60,Bool.and_self]),(Qfx t70 z70),(Qfx Qbs Qqn),(Qfx t3 z3),rfl,rfl,(Qab t70),rfl,rfl,rfl,(Qab Qbs),rfl,rfl,rfl,(Qab t3),rfl,(rok (Qai t39 a4)),(rok (Qai t46 a5)),(rok (Qai t44 Z27)),trivial⟩ (hK0 a4 a5 Z27 v17 (w64 (v8+1)) _ h))
noncomputable def Qfn (K0:Qaf→Qbi→Qa1→Int→Int→Option Int) (p2:Qbi) (a4:Qaf) (a5:Qbi) (a6:Qa1) (v7:Int) (v8:Int) (x10:Qaa)  : Option Int:=
 Qd9 K0 p2 a4 a5 a6 v8 x10 (w64 (v7+1))
theorem Qob {E:Env} (hP:E.pk=pk0 Tryz.prog) (hn:E.n=61) (hx:FX E []) (p2:Qbi) (a4:Qaf) (a5:Qbi) (a6:Qa1) (v7:Int) (v8:Int) (x10:Qaa) {K0:Qaf→Qbi→Qa1→Int→Int→Option Int} (hK0 : ∀ (a4:Qaf) (a5:Qbi) (a6:Qa1) (v7:Int) (v8:Int) (r:Int),K0 a4 a5 a6 v7 v8=some r→WAt E Qn8 (FQ (Qdj Θ Tryz.f82.results.toList [] [] (I r) E)) [true,true,true,false,true,false] ⟨[(2,(AV.ptr 1 0 0)),(3,(AV.ptr 2 0 0)),(5,(AV.ptr 3 0 0)),(6,(I v7)),(14,(AV.ro 5 (p2.Trace.map o60))),(15,(I (p2.Trace.length:Int))),(16,(I v8))],[(1,some ⟨39,4,[((r39 a4))]⟩),(2,some ⟨46,7,[((r46 a5))]⟩),(3,some ⟨44,4,[((o44 a6))]⟩)],[1,2,3,JJ]⟩)  (r:Int) (h:Qfn K0 p2 a4 a5 a6 v7 v8 x10  = some r) : WAt E Qn8 (FQ (Qdj Θ Tryz.f82.results.toList [] [] (I r) E)) [true,true,true,false,true,false,false,true,true,false,false,true,false,true,false] ⟨[(2,(AV.ptr 1 0 0)),(3,(AV.ptr 2 0 0)),(5,(AV.ptr 3 0 0)),(6,(I v7)),(8,(AV.ptr 4 0 0)),(14,(AV.ro 5 (p2.Trace.map o60))),(15,(I (p2.Trace.length:Int))),(16,(I v8))],[(1,some ⟨39,4,[((r39 a4))]⟩),(2,some ⟨46,7,[((r46 a5))]⟩),(3,some ⟨44,4,[[(AV.own 70 6 (a6.Threads.map o70)),(AV.own 132 1 (a6.Cells.map Qae)),(AV.own 3 1 (a6.Owner.map o3)),(I a6.Fault)]]⟩),(4,some ⟨60,5,[((o60 x10))]⟩)],[1,2,3,4,JJ]⟩:=by
 unfold Qfn at h
 exact gT hP hn hx [] [(1,1),(2,2),(3,3),(4,4)] [2,3,5,6,8,14,15,16] [] [Qa8 [(1,1),(2,2),(3,3),(4,4)] [((r39 a4))],Qa8 [(1,1),(2,2),(3,3),(4,4)] [((r46 a5))],Qa8 [(1,1),(2,2),(3,3),(4,4)] [[(AV.own 70 6 (a6.Threads.map o70)),(AV.own 132 1 (a6.Cells.map Qae)),(AV.own 3 1 (a6.Owner.map o3)),(I a6.Fault)]],Qa8 [(1,1),(2,2),(3,3),(4,4)] [((o60 x10))]] ⟨(rok (Qai t39 a4)),(rok (Qai t46 a5)),(rok (Qai t44 (Qa1.mk a6.Threads a6.Cells a6.Owner a6.Fault))),(rok rfl),trivial⟩ (Qj3 hP hn hx p2 a4 a5 a6 v8 x10 hK0 (w64 (v7+1)) _ h)
noncomputable def Qd7 (K0:Qaf→Qbi→Qa1→Int→Int→Option Int) (p2:Qbi) (a4:Qaf) (a5:Qbi) (a6:Qa1) (v8:Int) (x10:Qaa) (v20:Int) : Option Int:=
 Qd9 K0 p2 a4 a5 a6 v8 x10 v20
theorem Qo5 {E:Env} (hP:E.pk=pk0 Tryz.prog) (hn:E.n=61) (hx:FX E []) (p2:Qbi) (a4:Qaf) (a5:Qbi) (a6:Qa1) (v8:Int) (x10:Qaa) {K0:Qaf→Qbi→Qa1→Int→Int→Option Int} (hK0 : ∀ (a4:Qaf) (a5:Qbi) (a6:Qa1) (v7:Int) (v8:Int) (r:Int),K0 a4 a5 a6 v7 v8=some r→WAt E Qn8 (FQ (Qdj Θ Tryz.f82.results.toList [] [] (I r) E)) [true,true,true,false,true,false] ⟨[(2,(AV.ptr 1 0 0)),(3,(AV.ptr 2 0 0)),(5,(AV.ptr 3 0 0)),(6,(I v7)),(14,(AV.ro 5 (p2.Trace.map o60))),(15,(I (p2.Trace.length:Int))),(16,(I v8))],[(1,some ⟨39,4,[((r39 a4))]⟩),(2,some ⟨46,7,[((r46 a5))]⟩),(3,some ⟨44,4,[((o44 a6))]⟩)],[1,2,3,JJ]⟩) (v20:Int) (r:Int) (h:Qd7 K0 p2 a4 a5 a6 v8 x10 v20=some r) : WAt E Qn8 (FQ (Qdj Θ Tryz.f82.results.toList [] [] (I r) E)) [true,true,true,false,true,false,false,true,true,false,false,true,false,true,true] ⟨[(2,(AV.ptr 1 0 0)),(3,(AV.ptr 2 0 0)),(5,(AV.ptr 3 0 0)),(6,(I v20)),(8,(AV.ptr 4 0 0)),(14,(AV.ro 5 (p2.Trace.map o60))),(15,(I (p2.Trace.length:Int))),(16,(I v8))],[(1,some ⟨39,4,[((r39 a4))]⟩),(2,some ⟨46,7,[((r46 a5))]⟩),(3,some ⟨44,4,[[(AV.own 70 6 (a6.Threads.map o70)),(AV.own 132 1 (a6.Cells.map Qae)),(AV.own 3 1 (a6.Owner.map o3)),(I a6.Fault)]]⟩),(4,some ⟨60,5,[((o60 x10))]⟩)],[1,2,3,4,JJ]⟩:=by
 unfold Qd7 at h
 exact gT hP hn hx [] [(1,1),(2,2),(3,3),(4,4)] [2,3,5,6,8,14,15,16] [] [Qa8 [(1,1),(2,2),(3,3),(4,4)] [((r39 a4))],Qa8 [(1,1),(2,2),(3,3),(4,4)] [((r46 a5))],Qa8 [(1,1),(2,2),(3,3),(4,4)] [[(AV.own 70 6 (a6.Threads.map o70)),(AV.own 132 1 (a6.Cells.map Qae)),(AV.own 3 1 (a6.Owner.map o3)),(I a6.Fault)]],Qa8 [(1,1),(2,2),(3,3),(4,4)] [((o60 x10))]] ⟨(rok (Qai t39 a4)),(rok (Qai t46 a5)),(rok (Qai t44 (Qa1.mk a6.Threads a6.Cells a6.Owner a6.Fault))),(rok rfl),trivial⟩ (Qj3 hP hn hx p2 a4 a5 a6 v8 x10 hK0 v20 _ h)
noncomputable def Qhi (K0:Qaf→Qbi→Qa1→Int→Int→Option Int) (p2:Qbi) (a4:Qaf) (a5:Qbi) (a6:Qa1) (v8:Int) (x10:Qaa) (v23:Int) : Option Int:=
 Option.bind (Qfw a4 (Qa1.mk a6.Threads a6.Cells a6.Owner a6.Fault) x10.Thread) fun r33 =>
 K0 a4 a5 (Qa1.mk r33.1.Threads r33.1.Cells r33.1.Owner r33.1.Fault) v23 (w64 (v8+1))
theorem Qo2 {E:Env} (hP:E.pk=pk0 Tryz.prog) (hn:E.n=61) (hx:FX E []) (p2:Qbi) (a4:Qaf) (a5:Qbi) (a6:Qa1) (v8:Int) (x10:Qaa) {K0:Qaf→Qbi→Qa1→Int→Int→Option Int} (hK0 : ∀ (a4:Qaf) (a5:Qbi) (a6:Qa1) (v7:Int) (v8:Int) (r:Int),K0 a4 a5 a6 v7 v8=some r→WAt E Qn8 (FQ (Qdj Θ Tryz.f82.results.toList [] [] (I r) E)) [true,true,true,false,true,false] ⟨[(2,(AV.ptr 1 0 0)),(3,(AV.ptr 2 0 0)),(5,(AV.ptr 3 0 0)),(6,(I v7)),(14,(AV.ro 5 (p2.Trace.map o60))),(15,(I (p2.Trace.length:Int))),(16,(I v8))],[(1,some ⟨39,4,[((r39 a4))]⟩),(2,some ⟨46,7,[((r46 a5))]⟩),(3,some ⟨44,4,[((o44 a6))]⟩)],[1,2,3,JJ]⟩) (v23:Int) (r:Int) (h:Qhi K0 p2 a4 a5 a6 v8 x10 v23=some r) : WAt E Qn8 (FQ (Qdj Θ Tryz.f82.results.toList [] [] (I r) E)) [true,true,true,false,true,false,false,true,true,false,false,true,true] ⟨[(2,(AV.ptr 1 0 0)),(3,(AV.ptr 2 0 0)),(5,(AV.ptr 3 0 0)),(6,(I v23)),(8,(AV.ptr 4 0 0)),(14,(AV.ro 5 (p2.Trace.map o60))),(15,(I (p2.Trace.length:Int))),(16,(I v8))],[(1,some ⟨39,4,[((r39 a4))]⟩),(2,some ⟨46,7,[((r46 a5))]⟩),(3,some ⟨44,4,[((o44 a6))]⟩),(4,some ⟨60,5,[((o60 x10))]⟩)],[1,2,3,4,JJ]⟩:=by
 unfold Qhi at h
 obtain ⟨r33,hr33,h⟩:=bnS h
 exact (let Z0:=o44 a6;let Z1:=a6.Threads.map o70;let Z2:=AV.sl 1001 0 Z1.length;let Z3:=a6.Cells.map Qae;let Z4:=a6.Owner.map o3;let Z5:=AV.own 3 1 Z4;let Z6:=I a6.Fault;let Z7:=[Z2,(AV.own 132 1 Z3),Z5,Z6];let Z8:=AV.sl 1002 0 Z3.length;let Z9:=[Z2,Z8,Z5,Z6];let Z10:=AV.sl 1003 0 Z4.length;let Z11:=a6.Threads.map r70;let Z12:=AV.tup [(AV.agg (o44 r33.1)),(AV.agg (o60 r33.2))];let Z13:=r33.1.Threads.map o70;let Z14:=AV.sl 1004 0 Z13.length;let Z15:=r33.1.Cells.map Qae;let Z16:=AV.sl 1005 0 Z15.length;let Z17:=r33.1.Owner.map o3;let Z18:=AV.sl 1006 0 Z17.length;let Z19:=I r33.1.Fault;let Z20:=[Z14,Z16,Z18,Z19];let Z21:=AV.own 70 6 Z13;let Z22:=[Z21,Z16,Z18,Z19];let Z23:=AV.own 132 1 Z15;let Z24:=[Z21,Z23,Z18,Z19];let Z25:=[[Z21,Z23,(AV.own 3 1 Z17),Z19]];let Z26:=Qa1.mk r33.1.Threads r33.1.Cells r33.1.Owner r33.1.Fault;gT hP hn hx [hh 1 (.unpack 3 1001 0 0 Z0 70 6 Z1 [Z7]),hh 1 (.unpack 3 1002 0 1 Z7 132 1 Z3 [Z9]),hh 1 (.unpack 3 1003 0 2 Z9 3 1 Z4 [[Z2,Z8,Z10,Z6]]),hh 4 (.call [[],[],Z11,Z3,Z4] Z12 [1004,1005,1006]),hW 8 1007,hW 9 1008,hh 16 (.pack 3 1004 0 0 Z20 [Z22]),hh 16 (.pack 3 1005 0 1 Z22 [Z24]),hh 16 (.pack 3 1006 0 2 Z24 Z25)] [(1,1),(2,2),(3,3)] [2,3,5,6,14,15,16] [] [[Z0][0]? = some Z0,Z0[0]? = some (AV.own 70 6 Z1),0<6,[Z0].set 0 (Z0.set 0 Z2)=[Z7],[Z7][0]? = some Z7,Z7[1]? = some (AV.own 132 1 Z3),0<1,[Z7].set 0 (Z7.set 1 Z8)=[Z9],[Z9][0]? = some Z9,Z9[2]? = some Z5,0<1,[Z9].set 0 (Z9.set 2 Z10)=[[Z2,Z8,Z10,Z6]],Qa4 Tryz.prog 94 [(AV.agg ((r39 a4))),(AV.agg [(AV.ro 6 Z11),(AV.ro 1 Z3),(AV.ro 1 Z4),Z6]),(I x10.Thread)] Z12,Qc2 Z12=true,Frz ((Z1.drop 0).take Z1.length) Z11,Frz ((Z3.drop 0).take Z3.length) Z3,Frz ((Z4.drop 0).take Z4.length) Z4,[Z20][0]? = some Z20,Z20[0]? = some Z14,Qa2 Z13=true,[Z20].set 0 (Z20.set 0 Z21)=[Z22],[Z22][0]? = some Z22,Z22[1]? = some Z16,Qa2 Z15=true,[Z22].set 0 (Z22.set 1 Z23)=[Z24],[Z24][0]? = some Z24,Z24[2]? = some Z18,Qa2 Z17=true,[Z24].set 0 (Z24.set 2 (AV.own 3 1 Z17))=Z25,Qa8 [(1,1),(2,2),(3,3)] [((r39 a4))],Qa8 [(1,1),(2,2),(3,3)] [((r46 a5))],Qa8 [(1,1),(2,2),(3,3)] Z25] ⟨rfl,rfl,(by decide),rfl,rfl,rfl,(by decide),rfl,rfl,rfl,(by decide),rfl,(Qh0 hr33),(by simp +zetaDelta only [Qc2,Qbm,Qa9 n3,Qa9 n70,Qa9 Qe7,o44,o60,Bool.and_self]),(Qfx t70 z70),(Qfx Qbs Qqn),(Qfx t3 z3),rfl,rfl,(Qab t70),rfl,rfl,rfl,(Qab Qbs),rfl,rfl,rfl,(Qab t3),rfl,(rok (Qai t39 a4)),(rok (Qai t46 a5)),(rok (Qai t44 Z26)),trivial⟩ (hK0 a4 a5 Z26 v23 (w64 (v8+1)) _ h))
noncomputable def Qcp (K0:Qaf→Qbi→Qa1→Int→Int→Option Int) (p2:Qbi) (a4:Qaf) (a5:Qbi) (a6:Qa1) (v8:Int) (x10:Qaa) (v22:Int) : Option Int:=
 Qhi K0 p2 a4 a5 a6 v8 x10 v22
theorem Qjm {E:Env} (hP:E.pk=pk0 Tryz.prog) (hn:E.n=61) (hx:FX E []) (p2:Qbi) (a4:Qaf) (a5:Qbi) (a6:Qa1) (v8:Int) (x10:Qaa) {K0:Qaf→Qbi→Qa1→Int→Int→Option Int} (hK0 : ∀ (a4:Qaf) (a5:Qbi) (a6:Qa1) (v7:Int) (v8:Int) (r:Int),K0 a4 a5 a6 v7 v8=some r→WAt E Qn8 (FQ (Qdj Θ Tryz.f82.results.toList [] [] (I r) E)) [true,true,true,false,true,false] ⟨[(2,(AV.ptr 1 0 0)),(3,(AV.ptr 2 0 0)),(5,(AV.ptr 3 0 0)),(6,(I v7)),(14,(AV.ro 5 (p2.Trace.map o60))),(15,(I (p2.Trace.length:Int))),(16,(I v8))],[(1,some ⟨39,4,[((r39 a4))]⟩),(2,some ⟨46,7,[((r46 a5))]⟩),(3,some ⟨44,4,[((o44 a6))]⟩)],[1,2,3,JJ]⟩) (v22:Int) (r:Int) (h:Qcp K0 p2 a4 a5 a6 v8 x10 v22=some r) : WAt E Qn8 (FQ (Qdj Θ Tryz.f82.results.toList [] [] (I r) E)) [true,true,true,false,true,false,false,true,true,false,false,true,false,true,true] ⟨[(2,(AV.ptr 1 0 0)),(3,(AV.ptr 2 0 0)),(5,(AV.ptr 3 0 0)),(6,(I v22)),(8,(AV.ptr 4 0 0)),(14,(AV.ro 5 (p2.Trace.map o60))),(15,(I (p2.Trace.length:Int))),(16,(I v8))],[(1,some ⟨39,4,[((r39 a4))]⟩),(2,some ⟨46,7,[((r46 a5))]⟩),(3,some ⟨44,4,[((o44 a6))]⟩),(4,some ⟨60,5,[((o60 x10))]⟩)],[1,2,3,4,JJ]⟩:=by
 unfold Qcp at h
 exact gT hP hn hx [] [(1,1),(2,2),(3,3),(4,4)] [2,3,5,6,8,14,15,16] [] [Qa8 [(1,1),(2,2),(3,3),(4,4)] [((r39 a4))],Qa8 [(1,1),(2,2),(3,3),(4,4)] [((r46 a5))],Qa8 [(1,1),(2,2),(3,3),(4,4)] [((o44 a6))],Qa8 [(1,1),(2,2),(3,3),(4,4)] [((o60 x10))]] ⟨(rok (Qai t39 a4)),(rok (Qai t46 a5)),(rok (Qai t44 a6)),(rok rfl),trivial⟩ (Qo2 hP hn hx p2 a4 a5 a6 v8 x10 hK0 v22 _ h)
noncomputable def Qba  (p2:Qbi) : Nat→Qaf→Qbi→Qa1→Int→Int→Option Int
 | 0,_,_,_,_,_=>none
 | n+1,a4,a5,a6,v7,v8 =>
 if (decide (v8<(p2.Trace.length:Int)))=true then
  Option.bind (rd p2.Trace v8) fun x10 =>
  if (decide (v8 > 0))=true then
   Option.bind (rd a5.Trace (w64 (v8 - 1))) fun x12 =>
   if (x12.Thread != x10.Thread)=true then
    Option.bind (Qdd a4 (Qa1.mk a6.Threads a6.Cells a6.Owner a6.Fault)) fun r14 =>
    Option.bind (Qm0 r14 x12.Thread) fun r15 =>
    if r15=true then
     Qfn (Qba p2 n) p2 a4 a5 a6 v7 v8 x10
    else
     Qd7 (Qba p2 n) p2 a4 a5 a6 v8 x10 v7
   else
    Qcp (Qba p2 n) p2 a4 a5 a6 v8 x10 v7
  else
   Qcp (Qba p2 n) p2 a4 a5 a6 v8 x10 v7
 else
  some v7
theorem Qp4 {E:Env} (hP:E.pk=pk0 Tryz.prog) (hn:E.n=61) (hx:FX E []) (p2:Qbi)  : ∀ (n:Nat) (a4:Qaf) (a5:Qbi) (a6:Qa1) (v7:Int) (v8:Int) (r:Int),Qba p2 n a4 a5 a6 v7 v8=some r→WAt E Qn8 (FQ (Qdj Θ Tryz.f82.results.toList [] [] (I r) E)) [true,true,true,false,true,false] ⟨[(2,(AV.ptr 1 0 0)),(3,(AV.ptr 2 0 0)),(5,(AV.ptr 3 0 0)),(6,(I v7)),(14,(AV.ro 5 (p2.Trace.map o60))),(15,(I (p2.Trace.length:Int))),(16,(I v8))],[(1,some ⟨39,4,[((r39 a4))]⟩),(2,some ⟨46,7,[((r46 a5))]⟩),(3,some ⟨44,4,[((o44 a6))]⟩)],[1,2,3,JJ]⟩:=by
 intro n
 induction n with
 | zero=>intro a4 a5 a6 v7 v8 r h;simp only [Qba] at h;cases h
 | succ n ih =>
  intro a4 a5 a6 v7 v8 r h
  simp only [Qba] at h
  let Z0:=(decide (v8<(p2.Trace.length:Int)));let Z1:=o44 a6;let Z2:=a6.Threads.map o70;let Z3:=AV.sl 1002 0 Z2.length;let Z4:=a6.Cells.map Qae;let Z5:=AV.own 132 1 Z4;let Z6:=a6.Owner.map o3;let Z7:=AV.own 3 1 Z6;let Z8:=I a6.Fault;let Z9:=[Z3,Z5,Z7,Z8];let Z10:=AV.sl 1003 0 Z4.length;let Z11:=[Z3,Z10,Z7,Z8];let Z12:=AV.sl 1004 0 Z6.length;let Z13:=[Z3,Z10,Z12,Z8];let Z14:=B true;let Z16:=a6.Threads.map r70;let Z19:=AV.own 70 6 Z2;let Z20:=B (decide (v8 > 0));let Z21:=w64 (v8 - 1);let Z22:=a5.Trace.map o60;let Z24:=r39 a4;let Z27:=[Z19,Z10,Z12,Z8];let Z28:=[Z19,Z5,Z12,Z8];let Z29:=[[Z19,Z5,Z7,Z8]];let Z30:=r46 a5;let Z32:=Qa1.mk a6.Threads a6.Cells a6.Owner a6.Fault
  rcases itS h with ⟨c9,h⟩ | ⟨c35,h⟩
  ·obtain ⟨x10,hx10,h⟩:=bnS h
   let Z31:=o60 x10
   let H1:List Hn:=[hT 1,hh 3 (.row (o60 x10)),hW 5 1001]
   let P2:List Prop:=[Z0=true,(0:Int)≤v8,(p2.Trace.map o60)[v8.toNat]? = some (o60 x10)]
   have AP2:Qam P2:=⟨c9,(rd0 hx10),(rdM o60 hx10),trivial⟩
   rcases itS h with ⟨c11,h⟩ | ⟨c34,h⟩
   ·obtain ⟨x12,hx12,h⟩:=bnS h
    let Z15:=o60 x12;let Z23:=B (x12.Thread != x10.Thread);let Z25:=AV.rop Z15 0;let Z26:=I x12.Thread
    rcases itS h with ⟨c13,h⟩ | ⟨c21,h⟩
    ·obtain ⟨r14,hr14,h⟩:=bnS h
     obtain ⟨r15,hr15,h⟩:=bnS h
     let Z17:=r14.map o3;let Z18:=AV.own 3 1 Z17
     let H3:List Hn:=H1++[hh 8 (.unpack 3 1002 0 0 Z1 70 6 Z2 [Z9]),hh 8 (.unpack 3 1003 0 1 Z9 132 1 Z4 [Z11]),hh 8 (.unpack 3 1004 0 2 Z11 3 1 Z6 [Z13]),hO 10 Z14,hh 15 (.row Z15),hO 22 Z14,hh 25 (.call [[],[],Z16,Z4,Z6] Z18 [1005]),hh 30 (.row Z15),hh 37 (.row Z15),hh 40 (.callV [Z17] (B r15))]
     let P4:List Prop:=P2++[[Z1][0]? = some Z1,Z1[0]? = some Z19,0<6,[Z1].set 0 (Z1.set 0 Z3)=[Z9],[Z9][0]? = some Z9,Z9[1]? = some Z5,0<1,[Z9].set 0 (Z9.set 1 Z10)=[Z11],[Z11][0]? = some Z11,Z11[2]? = some Z7,0<1,[Z11].set 0 (Z11.set 2 Z12)=[Z13],Z20=Z14,(0:Int)≤Z21,Z22[Z21.toNat]? = some Z15,Z23=Z14,Qa4 Tryz.prog 93 [(AV.agg Z24),(AV.agg [(AV.ro 6 Z16),(AV.ro 1 Z4),(AV.ro 1 Z6),Z8])] Z18,Qc2 Z18=true,Frz ((Z2.drop 0).take Z2.length) Z16,Frz ((Z4.drop 0).take Z4.length) Z4,Frz ((Z6.drop 0).take Z6.length) Z6,(0:Int)≤Z21,Z22[Z21.toNat]? = some Z15,(AV.ptr 2 0 1)=(AV.ptr 2 0 1),(AV.ro 5 Z22)=(AV.ro 5 Z22),(I v8)=(I v8),(I Z21)=(I Z21),Z25=Z25,(0:Int)≤Z21,Z22[Z21.toNat]? = some Z15,Z25=Z25,Z26=Z26,Qa4 Tryz.prog 92 [(AV.ro 1 Z17),Z26] (B r15),Qa3 (B r15)=true,Frz ((Z17.drop 0).take Z17.length) Z17]
     have AP4:Qam P4:=Qa7 AP2 ⟨rfl,rfl,(by decide),rfl,rfl,rfl,(by decide),rfl,rfl,rfl,(by decide),rfl,(Qau c11),(rd0 hx12),(rdM o60 hx12),(Qau c13),(Qjq hr14),(by simp +zetaDelta only [Qc2,Qbm,Qa9 n3,Bool.and_self]),(Qfx t70 z70),(Qfx Qbs Qqn),(Qfx t3 z3),(rd0 hx12),(rdM o60 hx12),rfl,rfl,rfl,rfl,rfl,(rd0 hx12),(rdM o60 hx12),rfl,rfl,(Qz3 hr15),rfl,(Qfx t3 z3),trivial⟩
     rcases itS h with ⟨c16,h⟩ | ⟨c19,h⟩
     ·exact gT hP hn hx (H3++[hT 42,hh 43 (.pack 3 1002 0 0 Z13 [Z27]),hh 43 (.pack 3 1003 0 1 Z27 [Z28]),hh 43 (.pack 3 1004 0 2 Z28 Z29)]) [(1,1),(2,2),(3,3),(1001,4)] [2,3,5,6,8,14,15,16] [] (P4++[r15=true,[Z13][0]? = some Z13,Z13[0]? = some Z3,Qa2 Z2=true,[Z13].set 0 (Z13.set 0 Z19)=[Z27],[Z27][0]? = some Z27,Z27[1]? = some Z10,Qa2 Z4=true,[Z27].set 0 (Z27.set 1 Z5)=[Z28],[Z28][0]? = some Z28,Z28[2]? = some Z12,Qa2 Z6=true,[Z28].set 0 (Z28.set 2 Z7)=Z29,Qa8 [(1,1),(2,2),(3,3),(1001,4)] [Z24],Qa8 [(1,1),(2,2),(3,3),(1001,4)] [Z30],Qa8 [(1,1),(2,2),(3,3),(1001,4)] Z29,Qa8 [(1,1),(2,2),(3,3),(1001,4)] [Z31]]) (Qa7 AP4 ⟨c16,rfl,rfl,(Qab t70),rfl,rfl,rfl,(Qab Qbs),rfl,rfl,rfl,(Qab t3),rfl,(rok (Qai t39 a4)),(rok (Qai t46 a5)),(rok (Qai t44 Z32)),(rok rfl),trivial⟩) (Qob hP hn hx p2 a4 a5 a6 v7 v8 x10 ih  _ h)
     ·exact gT hP hn hx (H3++[hF 42,hh 43 (.pack 3 1002 0 0 Z13 [Z27]),hh 43 (.pack 3 1003 0 1 Z27 [Z28]),hh 43 (.pack 3 1004 0 2 Z28 Z29)]) [(1,1),(2,2),(3,3),(1001,4)] [2,3,5,6,8,14,15,16] [] (P4++[r15=false,[Z13][0]? = some Z13,Z13[0]? = some Z3,Qa2 Z2=true,[Z13].set 0 (Z13.set 0 Z19)=[Z27],[Z27][0]? = some Z27,Z27[1]? = some Z10,Qa2 Z4=true,[Z27].set 0 (Z27.set 1 Z5)=[Z28],[Z28][0]? = some Z28,Z28[2]? = some Z12,Qa2 Z6=true,[Z28].set 0 (Z28.set 2 Z7)=Z29,Qa8 [(1,1),(2,2),(3,3),(1001,4)] [Z24],Qa8 [(1,1),(2,2),(3,3),(1001,4)] [Z30],Qa8 [(1,1),(2,2),(3,3),(1001,4)] Z29,Qa8 [(1,1),(2,2),(3,3),(1001,4)] [Z31]]) (Qa7 AP4 ⟨c19,rfl,rfl,(Qab t70),rfl,rfl,rfl,(Qab Qbs),rfl,rfl,rfl,(Qab t3),rfl,(rok (Qai t39 a4)),(rok (Qai t46 a5)),(rok (Qai t44 Z32)),(rok rfl),trivial⟩) (Qo5 hP hn hx p2 a4 a5 a6 v8 x10 ih v7 _ h)
    ·exact gT hP hn hx (H1++[hO 10 Z14,hh 15 (.row Z15),hO 22 (B false)]) [(1,1),(2,2),(3,3),(1001,4)] [2,3,5,6,8,14,15,16] [] (P2++[Z20=Z14,(0:Int)≤Z21,Z22[Z21.toNat]? = some Z15,Z23=(B false),Qa8 [(1,1),(2,2),(3,3),(1001,4)] [Z24],Qa8 [(1,1),(2,2),(3,3),(1001,4)] [Z30],Qa8 [(1,1),(2,2),(3,3),(1001,4)] [Z1],Qa8 [(1,1),(2,2),(3,3),(1001,4)] [Z31]]) (Qa7 AP2 ⟨(Qau c11),(rd0 hx12),(rdM o60 hx12),(Qau c21),(rok (Qai t39 a4)),(rok (Qai t46 a5)),(rok (Qai t44 a6)),(rok rfl),trivial⟩) (Qjm hP hn hx p2 a4 a5 a6 v8 x10 ih v7 _ h)
   ·exact gT hP hn hx (H1++[hO 10 (B false)]) [(1,1),(2,2),(3,3),(1001,4)] [2,3,5,6,8,14,15,16] [] (P2++[Z20=(B false),Qa8 [(1,1),(2,2),(3,3),(1001,4)] [Z24],Qa8 [(1,1),(2,2),(3,3),(1001,4)] [Z30],Qa8 [(1,1),(2,2),(3,3),(1001,4)] [Z1],Qa8 [(1,1),(2,2),(3,3),(1001,4)] [Z31]]) (Qa7 AP2 ⟨(Qau c34),(rok (Qai t39 a4)),(rok (Qai t46 a5)),(rok (Qai t44 a6)),(rok rfl),trivial⟩) (Qjm hP hn hx p2 a4 a5 a6 v8 x10 ih v7 _ h)
  ·obtain rfl:=sj h
   exact gR hP hn [hF 1] [] .raw [Z0=false,(I v7)=(I v7),Qa3 (I v7)=true] ⟨c35,rfl,rfl,trivial⟩
noncomputable def Qhh (p1:Qaf) (p2:Qbi) : Option Int:=
 Option.bind (Qg6 p1) fun r3 =>
 Qba p2 FU p1 p2 (Qa1.mk r3.Threads r3.Cells r3.Owner r3.Fault) 0 0
theorem Qri {p1:Qaf} {p2:Qbi} {r:Int} (h:Qhh p1 p2=some r) : Qa4 Tryz.prog 82 [(AV.agg ((r39 p1))),(AV.agg ((r46 p2)))] (I r):=by
 refine gM Tryz.func82 61 Qn8 fun E hP hn hx=>?_
 unfold Qhh at h
 obtain ⟨r3,hr3,h⟩:=bnS h
 exact (let Z0:=AV.agg (o44 r3);let Z1:=(I (p2.Trace.length:Int));let Z2:=r3.Threads.map o70;let Z3:=AV.sl 1003 0 Z2.length;let Z4:=r3.Cells.map Qae;let Z5:=AV.sl 1004 0 Z4.length;let Z6:=r3.Owner.map o3;let Z7:=AV.sl 1005 0 Z6.length;let Z8:=I r3.Fault;let Z9:=[Z3,Z5,Z7,Z8];let Z10:=AV.own 70 6 Z2;let Z11:=[Z10,Z5,Z7,Z8];let Z12:=AV.own 132 1 Z4;let Z13:=[Z10,Z12,Z7,Z8];let Z14:=[[Z10,Z12,(AV.own 3 1 Z6),Z8]];let Z15:=Qa1.mk r3.Threads r3.Cells r3.Owner r3.Fault;gT hP hn hx [hW 0 1001,hW 1 1002,hh 4 (.call [[]] Z0 [1003,1004,1005]),hW 5 1006,hO 10 Z1,hh 12 (.pack 1006 1003 0 0 Z9 [Z11]),hh 12 (.pack 1006 1004 0 1 Z11 [Z13]),hh 12 (.pack 1006 1005 0 2 Z13 Z14)] [(1001,1),(1002,2),(1006,3)] [2,3,5,6,14,15,16] [] [Qa4 Tryz.prog 109 [(AV.agg ((r39 p1)))] Z0,Qc2 Z0=true,AV.lit (.int .i64 (((p2.Trace.map o60).length:Nat) : Int))=Z1,[Z9][0]? = some Z9,Z9[0]? = some Z3,Qa2 Z2=true,[Z9].set 0 (Z9.set 0 Z10)=[Z11],[Z11][0]? = some Z11,Z11[1]? = some Z5,Qa2 Z4=true,[Z11].set 0 (Z11.set 1 Z12)=[Z13],[Z13][0]? = some Z13,Z13[2]? = some Z7,Qa2 Z6=true,[Z13].set 0 (Z13.set 2 (AV.own 3 1 Z6))=Z14,Qa8 [(1001,1),(1002,2),(1006,3)] [((r39 p1))],Qa8 [(1001,1),(1002,2),(1006,3)] [((r46 p2))],Qa8 [(1001,1),(1002,2),(1006,3)] Z14] ⟨(Qt1 hr3),(by simp +zetaDelta only [Qc2,Qbm,Qa9 n3,Qa9 n70,Qa9 Qe7,o44,Bool.and_self]),(Qby o60),rfl,rfl,(Qab t70),rfl,rfl,rfl,(Qab Qbs),rfl,rfl,rfl,(Qab t3),rfl,(rok (Qai t39 p1)),(rok (Qai t46 p2)),(rok (Qai t44 Z15)),trivial⟩ (Qp4 hP hn hx p2 FU p1 p2 Z15 0 0 _ h))
noncomputable def Xfl:Code:=match Tryz.f142.body with | some c=>c | none=>.skip
noncomputable def Qfu  (p1:(List Int)) (p2:Int) (p3:Int) : Nat→Int→Option Bool
 | 0,_=>none
 | n+1,v4 =>
 if (decide (v4<(p1.length:Int)))=true then
  Option.bind (rd p1 v4) fun x6 =>
  Option.bind (Qen x6 p2 p3) fun r7 =>
  if (!r7)=true then
   some false
  else
   Qfu p1 p2 p3 n (w64 (v4+1))
 else
  some true
theorem Quw {E:Env} (hP:E.pk=pk0 Tryz.prog) (hn:E.n=21) (hx:FX E []) (p1:(List Int)) (p2:Int) (p3:Int)  : ∀ (n:Nat) (v4:Int) (r:Bool),Qfu p1 p2 p3 n v4=some r→WAt E Xfl (FQ (Qdj Θ Tryz.f142.results.toList [] [] (B r) E)) [true,false,true,false] ⟨[(1,(I p2)),(2,(I p3)),(9,(AV.ro 1 (p1.map o3))),(10,(I (p1.length:Int))),(11,(I v4))],[],[JJ]⟩:=by
 intro n
 induction n with
 | zero=>intro v4 r h;simp only [Qfu] at h;cases h
 | succ n ih =>
  intro v4 r h
  simp only [Qfu] at h
  let Z0:=(decide (v4<(p1.length:Int)))
  rcases itS h with ⟨c5,h⟩ | ⟨c10,h⟩
  ·obtain ⟨x6,hx6,h⟩:=bnS h
   obtain ⟨r7,hr7,h⟩:=bnS h
   let P1:List Prop:=[Z0=true,(0:Int)≤v4,(p1.map o3)[v4.toNat]? = some (o3 x6),Qa4 Tryz.prog 77 [(I x6),(I p2),(I p3)] (B r7),Qa3 (B r7)=true]
   have AP1:Qam P1:=⟨c5,(rd0 hx6),(rdM o3 hx6),(Qet hr7),rfl,trivial⟩
   rcases itS h with ⟨c8,h⟩ | ⟨c9,h⟩
   ·obtain rfl:=sj h
    exact gR hP hn [hT 1,hh 2 (.row (o3 x6)),hh 8 (.callV [] (B r7)),hT 10] [] .raw (P1++[(!r7)=true,(B false)=(B false),Qa3 (B false)=true]) (Qa7 AP1 ⟨c8,rfl,rfl,trivial⟩)
   ·exact gT hP hn hx [hT 1,hh 2 (.row (o3 x6)),hh 8 (.callV [] (B r7)),hF 10] [] [1,2,9,10,11] [] (P1++[(!r7)=false]) (Qa7 AP1 ⟨c9,trivial⟩) (ih (w64 (v4+1)) _ h)
  ·obtain rfl:=sj h
   exact gR hP hn [hF 1] [] .raw [Z0=false,(B true)=(B true),Qa3 (B true)=true] ⟨c10,rfl,rfl,trivial⟩
noncomputable def Qlw (p1:(List Int)) (p2:Int) (p3:Int) : Option Bool:=
 Qfu p1 p2 p3 FU 0
theorem Qz9 {p1:(List Int)} {p2:Int} {p3:Int} {r:Bool} (h:Qlw p1 p2 p3=some r) : Qa4 Tryz.prog 142 [(AV.ro 1 (p1.map o3)),(I p2),(I p3)] (B r):=by
 refine gM Tryz.func142 21 Xfl fun E hP hn hx=>?_
 unfold Qlw at h
 exact (let Z0:=(I (p1.length:Int));gT hP hn hx [hO 2 Z0] [] [1,2,9,10,11] [] [AV.lit (.int .i64 (((p1.map o3).length:Nat) : Int))=Z0] ⟨(Qby o3),trivial⟩ (Quw hP hn hx p1 p2 p3 FU 0 _ h))
noncomputable def Xol:Code:=match Tryz.f63.body with | some c=>c | none=>.skip
noncomputable def Qjk (p1:(List Int)) : Option Bool:=
 if (decide ((p1.length:Int)≤200))=true then
  Option.bind (Qlw p1 0 999) fun r3 =>
  some r3
 else
  some false
theorem Qwj {p1:(List Int)} {r:Bool} (h:Qjk p1=some r) : Qa4 Tryz.prog 63 [(AV.ro 1 (p1.map o3))] (B r):=by
 refine gM Tryz.func63 10 Xol fun E hP hn hx=>?_
 unfold Qjk at h
 let Z0:=(I (p1.length:Int));let Z1:=(((p1.map o3).length:Nat) : Int);let Z2:=(B (decide ((p1.length:Int)≤200)));let Z3:=B false
 rcases itS h with ⟨c2,h⟩ | ⟨c4,h⟩
 ·obtain ⟨r3,hr3,h⟩:=bnS h
  obtain rfl:=sj h
  exact gR hP hn [hO 2 Z0,hO 4 (B true),hh 6 (.callV [] (B r3))] [] .raw [AV.lit (.int .i64 Z1)=Z0,Z2=(B true),Qa4 Tryz.prog 142 [(AV.ro 1 (p1.map o3)),(I 0),(I 999)] (B r3),Qa3 (B r3)=true,(B r3)=(B r3),Qa3 (B r3)=true] ⟨(Qby o3),(Qau c2),(Qz9 hr3),rfl,rfl,rfl,trivial⟩
 ·obtain rfl:=sj h
  exact gR hP hn [hO 2 Z0,hO 4 Z3] [] .raw [AV.lit (.int .i64 Z1)=Z0,Z2=Z3,Z3=Z3,Qa3 Z3=true] ⟨(Qby o3),(Qau c4),rfl,rfl,trivial⟩
noncomputable def Xgl:Code:=match Tryz.f183.body with | some c=>c | none=>.skip
noncomputable def Qf0  (p2:Qa1) : Nat→Int→Option Int
 | 0,_=>none
 | n+1,v9 =>
 if (decide (v9<(p2.Threads.length:Int)))=true then
  Option.bind (rd p2.Threads v9) fun x11 =>
  if (x11.State != 2)=true then
   some 3
  else
   Qf0 p2 n (w64 (v9+1))
 else
  some 1
theorem Qtc {E:Env} (hP:E.pk=pk0 Tryz.prog) (hn:E.n=33) (hx:FX E []) (p2:Qa1)  : ∀ (n:Nat) (v9:Int) (r:Int),Qf0 p2 n v9=some r→WAt E Xgl (FQ (Qdj Θ Tryz.f183.results.toList [] [] (I r) E)) [true,true,false,true,false,false,true,false] ⟨[(20,(AV.ro 6 (p2.Threads.map r70))),(21,(I (p2.Threads.length:Int))),(22,(I v9))],[],[JJ]⟩:=by
 intro n
 induction n with
 | zero=>intro v9 r h;simp only [Qf0] at h;cases h
 | succ n ih =>
  intro v9 r h
  simp only [Qf0] at h
  let Z0:=(decide (v9<(p2.Threads.length:Int)))
  rcases itS h with ⟨c10,h⟩ | ⟨c14,h⟩
  ·obtain ⟨x11,hx11,h⟩:=bnS h
   let P1:List Prop:=[Z0=true,(0:Int)≤v9,(p2.Threads.map r70)[v9.toNat]? = some (r70 x11)]
   have AP1:Qam P1:=⟨c10,(rd0 hx11),(rdM r70 hx11),trivial⟩
   rcases itS h with ⟨c12,h⟩ | ⟨c13,h⟩
   ·obtain rfl:=sj h
    exact gR hP hn [hT 1,hh 2 (.row (r70 x11)),hW 4 1001,hT 9] [] .raw (P1++[(x11.State != 2)=true,(I 3)=(I 3),Qa3 (I 3)=true]) (Qa7 AP1 ⟨c12,rfl,rfl,trivial⟩)
   ·exact gT hP hn hx [hT 1,hh 2 (.row (r70 x11)),hW 4 1001,hF 9] [] [20,21,22] [] (P1++[(x11.State != 2)=false]) (Qa7 AP1 ⟨c13,trivial⟩) (ih (w64 (v9+1)) _ h)
  ·obtain rfl:=sj h
   exact gR hP hn [hF 1] [] .raw [Z0=false,(I 1)=(I 1),Qa3 (I 1)=true] ⟨c14,rfl,rfl,trivial⟩
noncomputable def Qkv (p1:Qaf) (p2:Qa1) (p3:Int) (p4:Int) : Option Int:=
 if (p2.Fault != 0)=true then
  some 2
 else
  Option.bind (Qdd p1 p2) fun r7 =>
  if ((r7.length:Int) == 0)=true then
   Qf0 p2 FU 0
  else
   if (p3 == p4)=true then
    some 4
   else
    some 0
theorem Qyr {p1:Qaf} {p2:Qa1} {p3:Int} {p4:Int} {r:Int} (h:Qkv p1 p2 p3 p4=some r) : Qa4 Tryz.prog 183 [(AV.agg ((r39 p1))),(AV.agg ((r44 p2))),(I p3),(I p4)] (I r):=by
 refine gM Tryz.func183 33 Xgl fun E hP hn hx=>?_
 unfold Qkv at h
 let Z2:=(I (p2.Threads.length:Int))
 rcases itS h with ⟨c5,h⟩ | ⟨c6,h⟩
 ·obtain rfl:=sj h
  exact gR hP hn [hW 0 1001,hW 1 1002,hT 6] [] .raw [(p2.Fault != 0)=true,(I 2)=(I 2),Qa3 (I 2)=true] ⟨c5,rfl,rfl,trivial⟩
 ·obtain ⟨r7,hr7,h⟩:=bnS h
  let Z0:=AV.own 3 1 (r7.map o3);let Z1:=(I (r7.length:Int));let Z3:=((r7.length:Int) == 0)
  let H1:List Hn:=[hW 0 1001,hW 1 1002,hF 6,hh 9 (.call [[],[]] Z0 [1003]),hO 10 Z1]
  let P2:List Prop:=[(p2.Fault != 0)=false,Qa4 Tryz.prog 93 [(AV.agg ((r39 p1))),(AV.agg ((r44 p2)))] Z0,Qc2 Z0=true,AV.lit (.int .i64 (((r7.map o3).length:Nat) : Int))=Z1]
  have AP2:Qam P2:=⟨c6,(Qjq hr7),(by simp +zetaDelta only [Qc2,Qbm,Qa9 n3,Bool.and_self]),(Qby o3),trivial⟩
  rcases itS h with ⟨c8,h⟩ | ⟨c15,h⟩
  ·exact gT hP hn hx (H1++[hT 12,hO 15 Z2]) [] [20,21,22] [] (P2++[Z3=true,AV.lit (.int .i64 (((p2.Threads.map r70).length:Nat) : Int))=Z2]) (Qa7 AP2 ⟨c8,(Qby r70),trivial⟩) (Qtc hP hn hx p2 FU 0 _ h)
  ·rcases itS h with ⟨c16,h⟩ | ⟨c17,h⟩
   ·obtain rfl:=sj h
    exact gR hP hn (H1++[hF 12,hT 16]) [] .raw (P2++[Z3=false,(p3 == p4)=true,(I 4)=(I 4),Qa3 (I 4)=true]) (Qa7 AP2 ⟨c15,c16,rfl,rfl,trivial⟩)
   ·obtain rfl:=sj h
    exact gR hP hn (H1++[hF 12,hF 16]) [] .raw (P2++[Z3=false,(p3 == p4)=false,(I 0)=(I 0),Qa3 (I 0)=true]) (Qa7 AP2 ⟨c15,c17,rfl,rfl,trivial⟩)
noncomputable def Qxt:Code:=match Tryz.f119.body with | some c=>c | none=>.skip
noncomputable def Qgw (K0:Qaf→Qbi→Qbi→Option Qbi) (p2:(List Int)) (p3:Int) (a5:Qaf) (a6:Qbi) (a7:Qbi) (r8:Int) (r11:(List Int)) (v15:Int) : Option Qbi:=
 Option.bind (rd r11 v15) fun x16 =>
 Option.bind (Qfw a5 (Qa1.mk a7.End.Threads a7.End.Cells a7.End.Owner a7.End.Fault) x16) fun r17 =>
 Option.bind (app a7.Trace [r17.2]) fun l18 =>
 Option.bind (app a7.Picks [v15]) fun l19 =>
 K0 a5 a6 (Qbi.mk r8 l18 l19 (Qa1.mk r17.1.Threads r17.1.Cells r17.1.Owner r17.1.Fault))
theorem Qo6 {E:Env} (hP:E.pk=pk0 Tryz.prog) (hn:E.n=72) (hx:FX E []) (p2:(List Int)) (p3:Int) (a5:Qaf) (a6:Qbi) (a7:Qbi) (r8:Int) (r11:(List Int)) {K0:Qaf→Qbi→Qbi→Option Qbi} (hK0 : ∀ (a5:Qaf) (a6:Qbi) (a7:Qbi) (r:Qbi),K0 a5 a6 a7=some r→WAt E Qxt (FQ (Qdj Θ Tryz.f119.results.toList [] [] (AV.agg (o46 r)) E)) [true,true,false] ⟨[(1,(AV.ro 1 (p2.map o3))),(2,(I p3)),(3,(AV.ptr 1 0 0)),(6,(AV.ptr 2 0 0)),(7,(AV.ptr 3 0 0))],[(1,some ⟨39,4,[((r39 a5))]⟩),(2,some ⟨46,7,[((o46 a6))]⟩),(3,some ⟨46,7,[((o46 a7))]⟩)],[1,2,3,JJ]⟩) (v15:Int) (r:Qbi) (h:Qgw K0 p2 p3 a5 a6 a7 r8 r11 v15=some r) : WAt E Qxt (FQ (Qdj Θ Tryz.f119.results.toList [] [] (AV.agg (o46 r)) E)) [true,true,false,false,false,true,true,true,true,true] ⟨[(1,(AV.ro 1 (p2.map o3))),(2,(I p3)),(3,(AV.ptr 1 0 0)),(6,(AV.ptr 2 0 0)),(7,(AV.ptr 3 0 0)),(8,(AV.sl 4 0 (List.length (r11.map o3)))),(9,(I v15))],[(1,some ⟨39,4,[((r39 a5))]⟩),(2,some ⟨46,7,[((o46 a6))]⟩),(3,some ⟨46,7,[[(I r8),(AV.own 60 5 (a7.Trace.map o60)),(AV.own 3 1 (a7.Picks.map o3)),(AV.own 70 6 (a7.End.Threads.map o70)),(AV.own 132 1 (a7.End.Cells.map Qae)),(AV.own 3 1 (a7.End.Owner.map o3)),(I a7.End.Fault)]]⟩),(4,some ⟨3,1,(r11.map o3)⟩)],[1,2,3,4,JJ]⟩:=by
 unfold Qgw at h
 obtain ⟨x16,hx16,h⟩:=bnS h
 obtain ⟨r17,hr17,h⟩:=bnS h
 obtain ⟨l18,hl18,h⟩:=bnS h
 obtain ⟨l19,hl19,h⟩:=bnS h
 exact (let Z0:=I r8;let Z1:=a7.Trace.map o60;let Z2:=a7.Picks.map o3;let Z3:=AV.own 3 1 Z2;let Z4:=a7.End.Threads.map o70;let Z5:=AV.own 70 6 Z4;let Z6:=a7.End.Cells.map Qae;let Z7:=AV.own 132 1 Z6;let Z8:=a7.End.Owner.map o3;let Z9:=AV.own 3 1 Z8;let Z10:=I a7.End.Fault;let Z11:=[Z0,(AV.own 60 5 Z1),Z3,Z5,Z7,Z9,Z10];let Z12:=AV.sl 1001 0 Z1.length;let Z13:=[Z0,Z12,Z3,Z5,Z7,Z9,Z10];let Z14:=AV.sl 1002 0 Z2.length;let Z15:=[Z0,Z12,Z14,Z5,Z7,Z9,Z10];let Z16:=AV.sl 1003 0 Z4.length;let Z17:=[Z0,Z12,Z14,Z16,Z7,Z9,Z10];let Z18:=AV.sl 1004 0 Z6.length;let Z19:=[Z0,Z12,Z14,Z16,Z18,Z9,Z10];let Z20:=AV.sl 1005 0 Z8.length;let Z21:=[[Z0,Z12,Z14,Z16,Z18,Z20,Z10]];let Z22:=I x16;let Z23:=a7.End.Threads.map r70;let Z24:=AV.tup [(AV.agg (o44 r17.1)),(AV.agg (o60 r17.2))];let Z25:=l18.map o60;let Z26:=l19.map o3;let Z27:=AV.sl 1012 0 Z25.length;let Z28:=AV.sl 1014 0 Z26.length;let Z29:=r17.1.Threads.map o70;let Z30:=AV.sl 1006 0 Z29.length;let Z31:=r17.1.Cells.map Qae;let Z32:=AV.sl 1007 0 Z31.length;let Z33:=r17.1.Owner.map o3;let Z34:=AV.sl 1008 0 Z33.length;let Z35:=I r17.1.Fault;let Z36:=[Z0,Z27,Z28,Z30,Z32,Z34,Z35];let Z37:=AV.own 60 5 Z25;let Z38:=[Z0,Z37,Z28,Z30,Z32,Z34,Z35];let Z39:=AV.own 3 1 Z26;let Z40:=[Z0,Z37,Z39,Z30,Z32,Z34,Z35];let Z41:=AV.own 70 6 Z29;let Z42:=[Z0,Z37,Z39,Z41,Z32,Z34,Z35];let Z43:=AV.own 132 1 Z31;let Z44:=[Z0,Z37,Z39,Z41,Z43,Z34,Z35];let Z45:=[[Z0,Z37,Z39,Z41,Z43,(AV.own 3 1 Z33),Z35]];let Z46:=AV.agg ((r39 a5));let Z47:=AV.ptr 3 0 3;let Z48:=AV.agg [Z16,Z18,Z20,Z10];let Z49:=r11.map o3;let Z50:=AV.sl 4 0 Z49.length;let Z51:=I v15;let Z52:=AV.ptr 4 v15.toNat 0;let Z53:=((Z49.length:Nat) : Int);let Z54:=AV.agg [Z30,Z32,Z34,Z35];let Z55:=AV.agg ((o60 r17.2));let Z56:=AV.tup [Z54,Z55];let Z57:=((rtf Z24 [1006,1007,1008]).2.1).map sm;let Z58:=[Z46,(AV.agg [(AV.ro 6 Z23),(AV.ro 1 Z6),(AV.ro 1 Z8),Z10]),Z22];let Z59:=(Z4.drop 0).take Z4.length;let Z60:=(Z6.drop 0).take Z6.length;let Z61:=(Z8.drop 0).take Z8.length;let Z62:=AV.ptr 1009 0 0;let Z63:=([(1009,(Qas.mk 44 4 [[nS,nS,nS,(I 0)]]))].map sm);let Z64:=AV.ptr 1010 0 0;let Z65:=([(1010,(Qas.mk 60 5 [[(I 0),(I 0),(I 0),(I 0),(I 0)]]))].map sm);let Z66:=Qas.mk 44 4 [[Z30,Z32,Z34,Z35]];let Z67:=(([r17.2].map o60).drop 0).take ([r17.2].map o60).length;let Z68:=(([v15].map o3).drop 0).take ([v15].map o3).length;let Z69:=Qbi.mk r8 l18 l19 (Qa1.mk r17.1.Threads r17.1.Cells r17.1.Owner r17.1.Fault);gT hP hn hx [hh 0 (.unpack 3 1001 0 1 Z11 60 5 Z1 [Z13]),hh 0 (.unpack 3 1002 0 2 Z13 3 1 Z2 [Z15]),hh 0 (.unpack 3 1003 0 3 Z15 70 6 Z4 [Z17]),hh 0 (.unpack 3 1004 0 4 Z17 132 1 Z6 [Z19]),hh 0 (.unpack 3 1005 0 5 Z19 3 1 Z8 Z21),hh 6 (.row [Z22]),hh 7 (.call [[],[],Z23,Z6,Z8] Z24 [1006,1007,1008]),hW 11 1009,hW 12 1010,hW 21 1011,hh 22 (.app 1012 Z25),hW 28 1013,hh 29 (.app 1014 Z26),hh 32 (.pack 3 1012 0 1 Z36 [Z38]),hh 32 (.pack 3 1014 0 2 Z38 [Z40]),hh 32 (.pack 3 1006 0 3 Z40 [Z42]),hh 32 (.pack 3 1007 0 4 Z42 [Z44]),hh 32 (.pack 3 1008 0 5 Z44 Z45)] [(1,1),(2,2),(3,3)] [1,2,3,6,7] [] [[Z11][0]? = some Z11,Z11[1]? = some (AV.own 60 5 Z1),0<5,[Z11].set 0 (Z11.set 1 Z12)=[Z13],[Z13][0]? = some Z13,Z13[2]? = some Z3,0<1,[Z13].set 0 (Z13.set 2 Z14)=[Z15],[Z15][0]? = some Z15,Z15[3]? = some Z5,0<6,[Z15].set 0 (Z15.set 3 Z16)=[Z17],[Z17][0]? = some Z17,Z17[4]? = some Z7,0<1,[Z17].set 0 (Z17.set 4 Z18)=[Z19],[Z19][0]? = some Z19,Z19[5]? = some Z9,0<1,[Z19].set 0 (Z19.set 5 Z20)=Z21,Z46=Z46,Z46=Z46,Z46=Z46,Z46=Z46,Z47=Z47,Z47=Z47,Z47=Z47,Z47=Z47,Z48=Z48,Z48=Z48,Z48=Z48,Z48=Z48,Z50=Z50,Z50=Z50,Z50=Z50,Z50=Z50,Z51=Z51,Z51=Z51,Z51=Z51,Z51=Z51,Z52=Z52,(0:Int)≤v15,v15<Z53,Z52=Z52,(0:Int)≤v15,v15<Z53,Z52=Z52,(0:Int)≤v15,v15<Z53,Z52=Z52,(0:Int)≤v15,v15<Z53,Z22=Z22,Z49[v15.toNat]? = some [Z22],Z22=Z22,Z49[v15.toNat]? = some [Z22],Z22=Z22,Z49[v15.toNat]? = some [Z22],Z22=Z22,Z49[v15.toNat]? = some [Z22],Z56=Z56,Z57=Z57,Qa4 Tryz.prog 94 Z58 Z24,Qc2 Z24=true,Frz Z59 Z23,Frz Z60 Z6,Frz Z61 Z8,Z56=Z56,Z57=Z57,Qa4 Tryz.prog 94 Z58 Z24,Qc2 Z24=true,Frz Z59 Z23,Frz Z60 Z6,Frz Z61 Z8,Z56=Z56,Z57=Z57,Qa4 Tryz.prog 94 Z58 Z24,Qc2 Z24=true,Frz Z59 Z23,Frz Z60 Z6,Frz Z61 Z8,Z56=Z56,Z57=Z57,Qa4 Tryz.prog 94 Z58 Z24,Qc2 Z24=true,Frz Z59 Z23,Frz Z60 Z6,Frz Z61 Z8,Z56=Z56,Z56=Z56,Z56=Z56,Z56=Z56,Z54=Z54,Z54=Z54,Z54=Z54,Z54=Z54,Z55=Z55,Z55=Z55,Z55=Z55,Z55=Z55,Z55=Z55,Z62=Z62,Z63=Z63,Z62=Z62,Z63=Z63,Z62=Z62,Z63=Z63,Z62=Z62,Z63=Z63,Z64=Z64,Z65=Z65,Z64=Z64,Z65=Z65,Z64=Z64,Z65=Z65,Z64=Z64,Z65=Z65,[(1009,some Z66)]=[(1009,some Z66)],Z1.take Z1.length++Z67=Z25,Z67.all (fun r=>r.all AV.plain)=true,Z25.length * 40≤140737488355328,Z25.length≤140737488355328,Z2.take Z2.length++Z68=Z26,Z68.all (fun r=>r.all AV.plain)=true,Z26.length * 8≤140737488355328,Z26.length≤140737488355328,[Z36][0]? = some Z36,Z36[1]? = some Z27,Qa2 Z25=true,[Z36].set 0 (Z36.set 1 Z37)=[Z38],[Z38][0]? = some Z38,Z38[2]? = some Z28,Qa2 Z26=true,[Z38].set 0 (Z38.set 2 Z39)=[Z40],[Z40][0]? = some Z40,Z40[3]? = some Z30,Qa2 Z29=true,[Z40].set 0 (Z40.set 3 Z41)=[Z42],[Z42][0]? = some Z42,Z42[4]? = some Z32,Qa2 Z31=true,[Z42].set 0 (Z42.set 4 Z43)=[Z44],[Z44][0]? = some Z44,Z44[5]? = some Z34,Qa2 Z33=true,[Z44].set 0 (Z44.set 5 (AV.own 3 1 Z33))=Z45,Qa8 [(1,1),(2,2),(3,3)] [((r39 a5))],Qa8 [(1,1),(2,2),(3,3)] [((o46 a6))],Qa8 [(1,1),(2,2),(3,3)] Z45] ⟨rfl,rfl,(by decide),rfl,rfl,rfl,(by decide),rfl,rfl,rfl,(by decide),rfl,rfl,rfl,(by decide),rfl,rfl,rfl,(by decide),rfl,rfl,rfl,rfl,rfl,rfl,rfl,rfl,rfl,rfl,rfl,rfl,rfl,rfl,rfl,rfl,rfl,rfl,rfl,rfl,rfl,rfl,(rd0 hx16),(rdL o3 hx16),rfl,(rd0 hx16),(rdL o3 hx16),rfl,(rd0 hx16),(rdL o3 hx16),rfl,(rd0 hx16),(rdL o3 hx16),rfl,(rdM o3 hx16),rfl,(rdM o3 hx16),rfl,(rdM o3 hx16),rfl,(rdM o3 hx16),rfl,rfl,(Qh0 hr17),(by simp +zetaDelta only [Qc2,Qbm,Qa9 n3,Qa9 n70,Qa9 Qe7,o44,o60,Bool.and_self]),(Qfx t70 z70),(Qfx Qbs Qqn),(Qfx t3 z3),rfl,rfl,(Qh0 hr17),(by simp +zetaDelta only [Qc2,Qbm,Qa9 n3,Qa9 n70,Qa9 Qe7,o44,o60,Bool.and_self]),(Qfx t70 z70),(Qfx Qbs Qqn),(Qfx t3 z3),rfl,rfl,(Qh0 hr17),(by simp +zetaDelta only [Qc2,Qbm,Qa9 n3,Qa9 n70,Qa9 Qe7,o44,o60,Bool.and_self]),(Qfx t70 z70),(Qfx Qbs Qqn),(Qfx t3 z3),rfl,rfl,(Qh0 hr17),(by simp +zetaDelta only [Qc2,Qbm,Qa9 n3,Qa9 n70,Qa9 Qe7,o44,o60,Bool.and_self]),(Qfx t70 z70),(Qfx Qbs Qqn),(Qfx t3 z3),rfl,rfl,rfl,rfl,rfl,rfl,rfl,rfl,rfl,rfl,rfl,rfl,rfl,rfl,rfl,rfl,rfl,rfl,rfl,rfl,rfl,rfl,rfl,rfl,rfl,rfl,rfl,rfl,rfl,rfl,(Qix o60 hl18),(plD pa60),(Qn2 o60 hl18 (by decide)),(Qn1 o60 hl18),(Qix o3 hl19),(plD pa3),(Qn2 o3 hl19 (by decide)),(Qn1 o3 hl19),rfl,rfl,(Qab t60),rfl,rfl,rfl,(Qab t3),rfl,rfl,rfl,(Qab t70),rfl,rfl,rfl,(Qab Qbs),rfl,rfl,rfl,(Qab t3),rfl,(rok (Qai t39 a5)),(rok (Qai t46 a6)),(rok (Qai t46 Z69)),trivial⟩ (hK0 a5 a6 Z69 _ h))
noncomputable def Qdu  (p2:(List Int)) (p3:Int) : Nat→Qaf→Qbi→Qbi→Option Qbi
 | 0,_,_,_=>none
 | n+1,a5,a6,a7 =>
 Option.bind (Qkv a5 (Qa1.mk a7.End.Threads a7.End.Cells a7.End.Owner a7.End.Fault) (a7.Trace.length:Int) p3) fun r8 =>
 if (decide (r8 > 0))=true then
  some (Qbi.mk r8 a7.Trace a7.Picks (Qa1.mk a7.End.Threads a7.End.Cells a7.End.Owner a7.End.Fault))
 else
  Option.bind (Qdd a5 (Qa1.mk a7.End.Threads a7.End.Cells a7.End.Owner a7.End.Fault)) fun r11 =>
  if (decide ((a7.Picks.length:Int)<(p2.length:Int)))=true then
   Option.bind (rd p2 (a7.Picks.length:Int)) fun x13 =>
   Option.bind (nz (r11.length:Int)) fun q14 =>
   Qgw (Qdu p2 p3 n) p2 p3 a5 a6 a7 r8 r11 (Int.tmod x13 (r11.length:Int))
  else
   Qgw (Qdu p2 p3 n) p2 p3 a5 a6 a7 r8 r11 0
theorem Qw1 {E:Env} (hP:E.pk=pk0 Tryz.prog) (hn:E.n=72) (hx:FX E []) (p2:(List Int)) (p3:Int)  : ∀ (n:Nat) (a5:Qaf) (a6:Qbi) (a7:Qbi) (r:Qbi),Qdu p2 p3 n a5 a6 a7=some r→WAt E Qxt (FQ (Qdj Θ Tryz.f119.results.toList [] [] (AV.agg (o46 r)) E)) [true,true,false] ⟨[(1,(AV.ro 1 (p2.map o3))),(2,(I p3)),(3,(AV.ptr 1 0 0)),(6,(AV.ptr 2 0 0)),(7,(AV.ptr 3 0 0))],[(1,some ⟨39,4,[((r39 a5))]⟩),(2,some ⟨46,7,[((o46 a6))]⟩),(3,some ⟨46,7,[((o46 a7))]⟩)],[1,2,3,JJ]⟩:=by
 intro n
 induction n with
 | zero=>intro a5 a6 a7 r h;simp only [Qdu] at h;cases h
 | succ n ih =>
  intro a5 a6 a7 r h
  simp only [Qdu] at h
  obtain ⟨r8,hr8,h⟩:=bnS h
  let Z0:=o46 a7;let Z1:=a7.Trace.map o60;let Z2:=I a7.Code;let Z3:=AV.sl 1001 0 Z1.length;let Z4:=a7.Picks.map o3;let Z5:=AV.own 3 1 Z4;let Z6:=[Z2,Z3,Z5]++(o44 a7.End);let Z7:=AV.sl 1002 0 Z4.length;let Z8:=[Z2,Z3,Z7]++(o44 a7.End);let Z9:=a7.End.Threads.map o70;let Z10:=AV.sl 1003 0 Z9.length;let Z11:=a7.End.Cells.map Qae;let Z12:=AV.own 132 1 Z11;let Z13:=a7.End.Owner.map o3;let Z14:=AV.own 3 1 Z13;let Z15:=I a7.End.Fault;let Z16:=[Z2,Z3,Z7,Z10,Z12,Z14,Z15];let Z17:=AV.sl 1004 0 Z11.length;let Z18:=[Z2,Z3,Z7,Z10,Z17,Z14,Z15];let Z19:=AV.sl 1005 0 Z13.length;let Z20:=[[Z2,Z3,Z7,Z10,Z17,Z19,Z15]];let Z21:=(I (a7.Trace.length:Int));let Z22:=a7.End.Threads.map r70;let Z23:=I r8;let Z24:=AV.own 60 5 Z1;let Z25:=AV.own 70 6 Z9;let Z26:=AV.agg [(AV.ro 6 Z22),(AV.ro 1 Z11),(AV.ro 1 Z13),Z15];let Z27:=(Z9.drop 0).take Z9.length;let Z28:=(Z11.drop 0).take Z11.length;let Z29:=(Z13.drop 0).take Z13.length;let Z32:=(a7.Picks.length:Int);let Z33:=(I (p2.length:Int));let Z34:=((Z4.length:Nat) : Int);let Z36:=[Z23,Z3,Z7,Z10,Z17,Z19,Z15];let Z37:=[Z23,Z24,Z7,Z10,Z17,Z19,Z15];let Z38:=[Z23,Z24,Z5,Z10,Z17,Z19,Z15];let Z39:=[Z23,Z24,Z5,Z25,Z17,Z19,Z15];let Z40:=[Z23,Z24,Z5,Z25,Z12,Z19,Z15];let Z41:=[[Z23,Z24,Z5,Z25,Z12,Z14,Z15]];let Z42:=(decide (Z32<(p2.length:Int)));let Z43:=Qbi.mk r8 a7.Trace a7.Picks (Qa1.mk a7.End.Threads a7.End.Cells a7.End.Owner a7.End.Fault)
  let H1:List Hn:=[hh 2 (.unpack 3 1001 0 1 Z0 60 5 Z1 [Z6]),hh 2 (.unpack 3 1002 0 2 Z6 3 1 Z4 [Z8]),hh 2 (.unpack 3 1003 0 3 Z8 70 6 Z9 [Z16]),hh 2 (.unpack 3 1004 0 4 Z16 132 1 Z11 [Z18]),hh 2 (.unpack 3 1005 0 5 Z18 3 1 Z13 Z20),hO 5 Z21,hh 7 (.callV [[],[],Z22,Z11,Z13] Z23)]
  let P2:List Prop:=[[Z0][0]? = some Z0,Z0[1]? = some Z24,0<5,[Z0].set 0 (Z0.set 1 Z3)=[Z6],[Z6][0]? = some Z6,Z6[2]? = some Z5,0<1,[Z6].set 0 (Z6.set 2 Z7)=[Z8],[Z8][0]? = some Z8,Z8[3]? = some Z25,0<6,[Z8].set 0 (Z8.set 3 Z10)=[Z16],[Z16][0]? = some Z16,Z16[4]? = some Z12,0<1,[Z16].set 0 (Z16.set 4 Z17)=[Z18],[Z18][0]? = some Z18,Z18[5]? = some Z14,0<1,[Z18].set 0 (Z18.set 5 Z19)=Z20,AV.lit (.int .i64 ((Z1.length:Nat) : Int))=Z21,Qa4 Tryz.prog 183 [(AV.agg ((r39 a5))),Z26,Z21,(I p3)] Z23,Qa3 Z23=true,Frz Z27 Z22,Frz Z28 Z11,Frz Z29 Z13]
  have AP2:Qam P2:=⟨rfl,rfl,(by decide),rfl,rfl,rfl,(by decide),rfl,rfl,rfl,(by decide),rfl,rfl,rfl,(by decide),rfl,rfl,rfl,(by decide),rfl,(Qby o60),(Qyr hr8),rfl,(Qfx t70 z70),(Qfx Qbs Qqn),(Qfx t3 z3),trivial⟩
  rcases itS h with ⟨c9,h⟩ | ⟨c10,h⟩
  ·obtain rfl:=sj h
   exact gR hP hn (H1++[hT 13]) [] (.agg [.raw,.own,.own,.own,.own,.own,.raw]) (P2++[(decide (r8 > 0))=true,Z23=Z23,Qa3 Z23=true,Qa2 (Z1.take Z1.length)=true,Z1.take Z1.length=Z1,Qa6 Z1=true,Qa2 (Z4.take Z4.length)=true,Z4.take Z4.length=Z4,Qa6 Z4=true,Qa2 (Z9.take Z9.length)=true,Z9.take Z9.length=Z9,Qa6 Z9=true,Qa2 (Z11.take Z11.length)=true,Z11.take Z11.length=Z11,Qa6 Z11=true,Qa2 (Z13.take Z13.length)=true,Z13.take Z13.length=Z13,Qa6 Z13=true,Z15=Z15,Qa3 Z15=true]) (Qa7 AP2 ⟨c9,rfl,rfl,(Qb7 t60),Qb6,(Qa9 n60),(Qb7 t3),Qb6,(Qa9 n3),(Qb7 t70),Qb6,(Qa9 n70),(Qb7 Qbs),Qb6,(Qa9 Qe7),(Qb7 t3),Qb6,(Qa9 n3),rfl,rfl,trivial⟩)
  ·obtain ⟨r11,hr11,h⟩:=bnS h
   let Z30:=r11.map o3;let Z31:=AV.own 3 1 Z30;let Z35:=(r11.length:Int)
   let H3:List Hn:=H1++[hF 13,hh 17 (.call [[],[],Z22,Z11,Z13] Z31 [1006]),hO 22 (I Z32),hO 24 Z33]
   let P4:List Prop:=P2++[(decide (r8 > 0))=false,Qa4 Tryz.prog 93 [(AV.agg ((r39 a5))),Z26] Z31,Qc2 Z31=true,Frz Z27 Z22,Frz Z28 Z11,Frz Z29 Z13,AV.lit (.int .i64 Z34)=(I Z32),AV.lit (.int .i64 (((p2.map o3).length:Nat) : Int))=Z33]
   have AP4:Qam P4:=Qa7 AP2 ⟨c10,(Qjq hr11),(by simp +zetaDelta only [Qc2,Qbm,Qa9 n3,Bool.and_self]),(Qfx t70 z70),(Qfx Qbs Qqn),(Qfx t3 z3),(Qby o3),(Qby o3),trivial⟩
   rcases itS h with ⟨c12,h⟩ | ⟨c20,h⟩
   ·obtain ⟨x13,hx13,h⟩:=bnS h
    obtain ⟨q14,hq14,h⟩:=bnS h
    exact gT hP hn hx (H3++[hT 26,hO 30 (I Z32),hh 31 (.row (o3 x13)),hO 34 (I Z35),hh 37 (.pack 3 1001 0 1 Z36 [Z37]),hh 37 (.pack 3 1002 0 2 Z37 [Z38]),hh 37 (.pack 3 1003 0 3 Z38 [Z39]),hh 37 (.pack 3 1004 0 4 Z39 [Z40]),hh 37 (.pack 3 1005 0 5 Z40 Z41)]) [(1,1),(2,2),(3,3),(1006,4)] [1,2,3,6,7,8,9] [] (P4++[Z42=true,AV.lit (.int .i64 Z34)=(I Z32),(0:Int)≤Z32,(p2.map o3)[Z32.toNat]? = some (o3 x13),AV.lit (.int .i64 ((Z30.length:Nat) : Int))=(I Z35),Z35≠(0:Int),[Z36][0]? = some Z36,Z36[1]? = some Z3,Qa2 Z1=true,[Z36].set 0 (Z36.set 1 Z24)=[Z37],[Z37][0]? = some Z37,Z37[2]? = some Z7,Qa2 Z4=true,[Z37].set 0 (Z37.set 2 Z5)=[Z38],[Z38][0]? = some Z38,Z38[3]? = some Z10,Qa2 Z9=true,[Z38].set 0 (Z38.set 3 Z25)=[Z39],[Z39][0]? = some Z39,Z39[4]? = some Z17,Qa2 Z11=true,[Z39].set 0 (Z39.set 4 Z12)=[Z40],[Z40][0]? = some Z40,Z40[5]? = some Z19,Qa2 Z13=true,[Z40].set 0 (Z40.set 5 Z14)=Z41,Qa8 [(1,1),(2,2),(3,3),(1006,4)] [((r39 a5))],Qa8 [(1,1),(2,2),(3,3),(1006,4)] [((o46 a6))],Qa8 [(1,1),(2,2),(3,3),(1006,4)] Z41,Qa8 [(1,1),(2,2),(3,3),(1006,4)] Z30]) (Qa7 AP4 ⟨c12,(Qby o3),(rd0 hx13),(rdM o3 hx13),(Qby o3),(nzE hq14),rfl,rfl,(Qab t60),rfl,rfl,rfl,(Qab t3),rfl,rfl,rfl,(Qab t70),rfl,rfl,rfl,(Qab Qbs),rfl,rfl,rfl,(Qab t3),rfl,(rok (Qai t39 a5)),(rok (Qai t46 a6)),(rok (Qai t46 Z43)),(rok (Qab t3)),trivial⟩) (Qo6 hP hn hx p2 p3 a5 a6 a7 r8 r11 ih (Int.tmod x13 Z35) _ h)
   ·exact gT hP hn hx (H3++[hF 26,hh 27 (.pack 3 1001 0 1 Z36 [Z37]),hh 27 (.pack 3 1002 0 2 Z37 [Z38]),hh 27 (.pack 3 1003 0 3 Z38 [Z39]),hh 27 (.pack 3 1004 0 4 Z39 [Z40]),hh 27 (.pack 3 1005 0 5 Z40 Z41)]) [(1,1),(2,2),(3,3),(1006,4)] [1,2,3,6,7,8,9] [] (P4++[Z42=false,[Z36][0]? = some Z36,Z36[1]? = some Z3,Qa2 Z1=true,[Z36].set 0 (Z36.set 1 Z24)=[Z37],[Z37][0]? = some Z37,Z37[2]? = some Z7,Qa2 Z4=true,[Z37].set 0 (Z37.set 2 Z5)=[Z38],[Z38][0]? = some Z38,Z38[3]? = some Z10,Qa2 Z9=true,[Z38].set 0 (Z38.set 3 Z25)=[Z39],[Z39][0]? = some Z39,Z39[4]? = some Z17,Qa2 Z11=true,[Z39].set 0 (Z39.set 4 Z12)=[Z40],[Z40][0]? = some Z40,Z40[5]? = some Z19,Qa2 Z13=true,[Z40].set 0 (Z40.set 5 Z14)=Z41,Qa8 [(1,1),(2,2),(3,3),(1006,4)] [((r39 a5))],Qa8 [(1,1),(2,2),(3,3),(1006,4)] [((o46 a6))],Qa8 [(1,1),(2,2),(3,3),(1006,4)] Z41,Qa8 [(1,1),(2,2),(3,3),(1006,4)] Z30]) (Qa7 AP4 ⟨c20,rfl,rfl,(Qab t60),rfl,rfl,rfl,(Qab t3),rfl,rfl,rfl,(Qab t70),rfl,rfl,rfl,(Qab Qbs),rfl,rfl,rfl,(Qab t3),rfl,(rok (Qai t39 a5)),(rok (Qai t46 a6)),(rok (Qai t46 Z43)),(rok (Qab t3)),trivial⟩) (Qo6 hP hn hx p2 p3 a5 a6 a7 r8 r11 ih 0 _ h)
noncomputable def Qis (p1:Qaf) (p2:(List Int)) (p3:Int) : Option Qbi:=
 Option.bind (Qg6 p1) fun r4 =>
 Qdu p2 p3 FU p1 (Qbi.mk 0 [] [] (Qa1.mk [] [] [] 0)) (Qbi.mk 0 [] [] (Qa1.mk r4.Threads r4.Cells r4.Owner r4.Fault))
theorem Qzn {p1:Qaf} {p2:(List Int)} {p3:Int} {r:Qbi} (h:Qis p1 p2 p3=some r) : Qa4 Tryz.prog 119 [(AV.agg ((r39 p1))),(AV.ro 1 (p2.map o3)),(I p3)] (AV.agg (o46 r)):=by
 refine gM Tryz.func119 72 Qxt fun E hP hn hx=>?_
 unfold Qis at h
 obtain ⟨r4,hr4,h⟩:=bnS h
 exact (let Z0:=AV.agg (o44 r4);let Z1:=I 0;let Z2:=AV.own 60 5 ([].map o60);let Z3:=[[Z1,Z2,nS,nS,nS,nS,Z1]];let Z4:=[Z1,Z2];let Z5:=AV.own 3 1 ([].map o3);let Z6:=[[Z1,Z2,Z5,nS,nS,nS,Z1]];let Z7:=AV.own 70 6 ([].map o70);let Z8:=[[Z1,Z2,Z5,Z7,nS,nS,Z1]];let Z9:=[Z1,Z2,Z5,Z7];let Z10:=AV.own 132 1 ([].map Qae);let Z11:=[[Z1,Z2,Z5,Z7,Z10,nS,Z1]];let Z12:=[Z1,Z2,Z5,Z7,Z10];let Z13:=[[Z1,Z2,Z5,Z7,Z10,Z5,Z1]];let Z14:=r4.Threads.map o70;let Z15:=AV.sl 1003 0 Z14.length;let Z16:=r4.Cells.map Qae;let Z17:=AV.sl 1004 0 Z16.length;let Z18:=r4.Owner.map o3;let Z19:=AV.sl 1005 0 Z18.length;let Z20:=I r4.Fault;let Z21:=[[Z1,Z2,nS,Z15,Z17,Z19,Z20]];let Z22:=[Z15,Z17,Z19,Z20];let Z23:=[Z1,Z2,Z5,Z15,Z17,Z19,Z20];let Z24:=AV.own 70 6 Z14;let Z25:=[Z1,Z2,Z5,Z24,Z17,Z19,Z20];let Z26:=AV.own 132 1 Z16;let Z27:=[Z1,Z2,Z5,Z24,Z26,Z19,Z20];let Z28:=[[Z1,Z2,Z5,Z24,Z26,(AV.own 3 1 Z18),Z20]];let Z29:=Qbi.mk 0 [] [] (Qa1.mk [] [] [] 0);let Z30:=Qbi.mk 0 [] [] (Qa1.mk r4.Threads r4.Cells r4.Owner r4.Fault);gT hP hn hx [hW 0 1001,hW 1 1002,hh 3 (.call [[]] Z0 [1003,1004,1005]),hW 5 1006,hh 7 (.own0 1002 1 [Z1] [nS,nS,nS,nS,Z1] 60 5 Z3),hh 7 (.own0 1002 1 Z4 [nS,nS,nS,Z1] 3 1 Z6),hh 7 (.own0 1002 1 [Z1,Z2,Z5] [nS,nS,Z1] 70 6 Z8),hh 7 (.own0 1002 1 Z9 [nS,Z1] 132 1 Z11),hh 7 (.own0 1002 1 Z12 [Z1] 3 1 Z13),hh 7 (.own0 1006 1 [Z1] [nS,Z15,Z17,Z19,Z20] 60 5 Z21),hh 7 (.own0 1006 1 Z4 Z22 3 1 [Z23]),hh 7 (.pack 1006 1003 0 3 Z23 [Z25]),hh 7 (.pack 1006 1004 0 4 Z25 [Z27]),hh 7 (.pack 1006 1005 0 5 Z27 Z28)] [(1001,1),(1002,2),(1006,3)] [1,2,3,6,7] [] [Qa4 Tryz.prog 109 [(AV.agg ((r39 p1)))] Z0,Qc2 Z0=true,[[Z1,nS,nS,nS,nS,nS,Z1]]=List.replicate 1 ([Z1]++AV.lit (.slice none 0 0) :: [nS,nS,nS,nS,Z1]),List.replicate 1 ([Z1]++AV.own 60 5 [] :: [nS,nS,nS,nS,Z1])=Z3,Z3=List.replicate 1 (Z4++AV.lit (.slice none 0 0) :: [nS,nS,nS,Z1]),List.replicate 1 (Z4++AV.own 3 1 [] :: [nS,nS,nS,Z1])=Z6,Z6=List.replicate 1 ([Z1,Z2,Z5]++AV.lit (.slice none 0 0) :: [nS,nS,Z1]),List.replicate 1 ([Z1,Z2,Z5]++AV.own 70 6 [] :: [nS,nS,Z1])=Z8,Z8=List.replicate 1 (Z9++AV.lit (.slice none 0 0) :: [nS,Z1]),List.replicate 1 (Z9++AV.own 132 1 [] :: [nS,Z1])=Z11,Z11=List.replicate 1 (Z12++AV.lit (.slice none 0 0) :: [Z1]),List.replicate 1 (Z12++AV.own 3 1 [] :: [Z1])=Z13,[[Z1,nS,nS,Z15,Z17,Z19,Z20]]=List.replicate 1 ([Z1]++AV.lit (.slice none 0 0) :: [nS,Z15,Z17,Z19,Z20]),List.replicate 1 ([Z1]++AV.own 60 5 [] :: [nS,Z15,Z17,Z19,Z20])=Z21,Z21=List.replicate 1 (Z4++AV.lit (.slice none 0 0) :: Z22),List.replicate 1 (Z4++AV.own 3 1 [] :: Z22)=[Z23],[Z23][0]? = some Z23,Z23[3]? = some Z15,Qa2 Z14=true,[Z23].set 0 (Z23.set 3 Z24)=[Z25],[Z25][0]? = some Z25,Z25[4]? = some Z17,Qa2 Z16=true,[Z25].set 0 (Z25.set 4 Z26)=[Z27],[Z27][0]? = some Z27,Z27[5]? = some Z19,Qa2 Z18=true,[Z27].set 0 (Z27.set 5 (AV.own 3 1 Z18))=Z28,Qa8 [(1001,1),(1002,2),(1006,3)] [((r39 p1))],Qa8 [(1001,1),(1002,2),(1006,3)] Z13,Qa8 [(1001,1),(1002,2),(1006,3)] Z28] ⟨(Qt1 hr4),(by simp +zetaDelta only [Qc2,Qbm,Qa9 n3,Qa9 n70,Qa9 Qe7,o44,Bool.and_self]),rfl,rfl,rfl,rfl,rfl,rfl,rfl,rfl,rfl,rfl,rfl,rfl,rfl,rfl,rfl,rfl,(Qab t70),rfl,rfl,rfl,(Qab Qbs),rfl,rfl,rfl,(Qab t3),rfl,(rok (Qai t39 p1)),(rok (Qai t46 Z29)),(rok (Qai t46 Z30)),trivial⟩ (Qw1 hP hn hx p2 p3 FU p1 Z29 Z30 _ h))
noncomputable def Xgj:Code:=match Tryz.f116.body with | some c=>c | none=>.skip
noncomputable def Qev  (p1:(List Int)) (p2:(List Int)) : Nat→Int→Option Bool
 | 0,_=>none
 | n+1,v5 =>
 if (decide (v5<(p1.length:Int)))=true then
  Option.bind (rd p1 v5) fun x7 =>
  Option.bind (rd p2 v5) fun x8 =>
  if (x7 != x8)=true then
   some false
  else
   Qev p1 p2 n (w64 (v5+1))
 else
  some true
theorem Qto {E:Env} (hP:E.pk=pk0 Tryz.prog) (hn:E.n=26) (hx:FX E []) (p1:(List Int)) (p2:(List Int))  : ∀ (n:Nat) (v5:Int) (r:Bool),Qev p1 p2 n v5=some r→WAt E Xgj (FQ (Qdj Θ Tryz.f116.results.toList [] [] (B r) E)) [true,true,false,true,false] ⟨[(0,(AV.ro 1 (p1.map o3))),(1,(AV.ro 1 (p2.map o3))),(12,(I (p1.length:Int))),(13,(I v5))],[],[JJ]⟩:=by
 intro n
 induction n with
 | zero=>intro v5 r h;simp only [Qev] at h;cases h
 | succ n ih =>
  intro v5 r h
  simp only [Qev] at h
  let Z0:=(decide (v5<(p1.length:Int)))
  rcases itS h with ⟨c6,h⟩ | ⟨c11,h⟩
  ·obtain ⟨x7,hx7,h⟩:=bnS h
   obtain ⟨x8,hx8,h⟩:=bnS h
   let P1:List Prop:=[Z0=true,(0:Int)≤v5,(p1.map o3)[v5.toNat]? = some (o3 x7),(0:Int)≤v5,(p2.map o3)[v5.toNat]? = some (o3 x8)]
   have AP1:Qam P1:=⟨c6,(rd0 hx7),(rdM o3 hx7),(rd0 hx8),(rdM o3 hx8),trivial⟩
   rcases itS h with ⟨c9,h⟩ | ⟨c10,h⟩
   ·obtain rfl:=sj h
    exact gR hP hn [hT 1,hh 6 (.row (o3 x7)),hh 10 (.row (o3 x8)),hT 13] [] .raw (P1++[(x7 != x8)=true,(B false)=(B false),Qa3 (B false)=true]) (Qa7 AP1 ⟨c9,rfl,rfl,trivial⟩)
   ·exact gT hP hn hx [hT 1,hh 6 (.row (o3 x7)),hh 10 (.row (o3 x8)),hF 13] [] [0,1,12,13] [] (P1++[(x7 != x8)=false]) (Qa7 AP1 ⟨c10,trivial⟩) (ih (w64 (v5+1)) _ h)
  ·obtain rfl:=sj h
   exact gR hP hn [hF 1] [] .raw [Z0=false,(B true)=(B true),Qa3 (B true)=true] ⟨c11,rfl,rfl,trivial⟩
noncomputable def Qir (p1:(List Int)) (p2:(List Int)) : Option Bool:=
 if ((p1.length:Int) != (p2.length:Int))=true then
  some false
 else
  Qev p1 p2 FU 0
theorem Qrj {p1:(List Int)} {p2:(List Int)} {r:Bool} (h:Qir p1 p2=some r) : Qa4 Tryz.prog 116 [(AV.ro 1 (p1.map o3)),(AV.ro 1 (p2.map o3))] (B r):=by
 refine gM Tryz.func116 26 Xgj fun E hP hn hx=>?_
 unfold Qir at h
 let Z0:=(((p1.map o3).length:Nat) : Int);let Z1:=(I (p1.length:Int));let Z2:=(I (p2.length:Int));let Z3:=((p1.length:Int) != (p2.length:Int))
 let P1:List Prop:=[AV.lit (.int .i64 Z0)=Z1,AV.lit (.int .i64 (((p2.map o3).length:Nat) : Int))=Z2]
 have AP1:Qam P1:=⟨(Qby o3),(Qby o3),trivial⟩
 rcases itS h with ⟨c3,h⟩ | ⟨c4,h⟩
 ·obtain rfl:=sj h
  exact gR hP hn [hO 2 Z1,hO 4 Z2,hT 6] [] .raw (P1++[Z3=true,(B false)=(B false),Qa3 (B false)=true]) (Qa7 AP1 ⟨c3,rfl,rfl,trivial⟩)
 ·exact gT hP hn hx [hO 2 Z1,hO 4 Z2,hF 6,hO 8 Z1] [] [0,1,12,13] [] (P1++[Z3=false,AV.lit (.int .i64 Z0)=Z1]) (Qa7 AP1 ⟨c4,(Qby o3),trivial⟩) (Qto hP hn hx p1 p2 FU 0 _ h)
noncomputable def Xgg:Code:=match Tryz.f115.body with | some c=>c | none=>.skip
noncomputable def Qcz  (p1:(List Nat)) (p2:(List Nat)) : Nat→Int→Option Bool
 | 0,_=>none
 | n+1,v5 =>
 if (decide (v5<(p1.length:Int)))=true then
  Option.bind (rd p1 v5) fun x7 =>
  Option.bind (rd p2 v5) fun x8 =>
  Option.bind (Qch x7 x8) fun r9 =>
  if (!r9)=true then
   some false
  else
   Qcz p1 p2 n (w64 (v5+1))
 else
  some true
theorem Qps {E:Env} (hP:E.pk=pk0 Tryz.prog) (hn:E.n=27) (hx:FX E []) (p1:(List Nat)) (p2:(List Nat))  : ∀ (n:Nat) (v5:Int) (r:Bool),Qcz p1 p2 n v5=some r→WAt E Xgg (FQ (Qdj Θ Tryz.f115.results.toList [] [] (B r) E)) [true,true,false,true,false] ⟨[(0,(AV.ro 1 (p1.map Qae))),(1,(AV.ro 1 (p2.map Qae))),(12,(I (p1.length:Int))),(13,(I v5))],[],[JJ]⟩:=by
 intro n
 induction n with
 | zero=>intro v5 r h;simp only [Qcz] at h;cases h
 | succ n ih =>
  intro v5 r h
  simp only [Qcz] at h
  let Z0:=(decide (v5<(p1.length:Int)))
  rcases itS h with ⟨c6,h⟩ | ⟨c12,h⟩
  ·obtain ⟨x7,hx7,h⟩:=bnS h
   obtain ⟨x8,hx8,h⟩:=bnS h
   obtain ⟨r9,hr9,h⟩:=bnS h
   let H1:List Hn:=[hT 1,hh 6 (.row (Qae x7)),hh 10 (.row (Qae x8)),hh 12 (.callV [] (B r9))]
   let P2:List Prop:=[Z0=true,(0:Int)≤v5,(p1.map Qae)[v5.toNat]? = some (Qae x7),(0:Int)≤v5,(p2.map Qae)[v5.toNat]? = some (Qae x8),Qa4 Tryz.prog 182 [(FK x7),(FK x8)] (B r9),Qa3 (B r9)=true]
   have AP2:Qam P2:=⟨c6,(rd0 hx7),(rdM Qae hx7),(rd0 hx8),(rdM Qae hx8),(Qjt hr9),rfl,trivial⟩
   rcases itS h with ⟨c10,h⟩ | ⟨c11,h⟩
   ·obtain rfl:=sj h
    exact gR hP hn (H1++[hT 14]) [] .raw (P2++[(!r9)=true,(B false)=(B false),Qa3 (B false)=true]) (Qa7 AP2 ⟨c10,rfl,rfl,trivial⟩)
   ·exact gT hP hn hx (H1++[hF 14]) [] [0,1,12,13] [] (P2++[(!r9)=false]) (Qa7 AP2 ⟨c11,trivial⟩) (ih (w64 (v5+1)) _ h)
  ·obtain rfl:=sj h
   exact gR hP hn [hF 1] [] .raw [Z0=false,(B true)=(B true),Qa3 (B true)=true] ⟨c12,rfl,rfl,trivial⟩
noncomputable def Qf5 (p1:(List Nat)) (p2:(List Nat)) : Option Bool:=
 if ((p1.length:Int) != (p2.length:Int))=true then
  some false
 else
  Qcz p1 p2 FU 0
theorem Qma {p1:(List Nat)} {p2:(List Nat)} {r:Bool} (h:Qf5 p1 p2=some r) : Qa4 Tryz.prog 115 [(AV.ro 1 (p1.map Qae)),(AV.ro 1 (p2.map Qae))] (B r):=by
 refine gM Tryz.func115 27 Xgg fun E hP hn hx=>?_
 unfold Qf5 at h
 let Z0:=(((p1.map Qae).length:Nat) : Int);let Z1:=(I (p1.length:Int));let Z2:=(I (p2.length:Int));let Z3:=((p1.length:Int) != (p2.length:Int))
 let P1:List Prop:=[AV.lit (.int .i64 Z0)=Z1,AV.lit (.int .i64 (((p2.map Qae).length:Nat) : Int))=Z2]
 have AP1:Qam P1:=⟨(Qby Qae),(Qby Qae),trivial⟩
 rcases itS h with ⟨c3,h⟩ | ⟨c4,h⟩
 ·obtain rfl:=sj h
  exact gR hP hn [hO 2 Z1,hO 4 Z2,hT 6] [] .raw (P1++[Z3=true,(B false)=(B false),Qa3 (B false)=true]) (Qa7 AP1 ⟨c3,rfl,rfl,trivial⟩)
 ·exact gT hP hn hx [hO 2 Z1,hO 4 Z2,hF 6,hO 8 Z1] [] [0,1,12,13] [] (P1++[Z3=false,AV.lit (.int .i64 Z0)=Z1]) (Qa7 AP1 ⟨c4,(Qby Qae),trivial⟩) (Qps hP hn hx p1 p2 FU 0 _ h)
noncomputable def Xjw:Code:=match Tryz.f38.body with | some c=>c | none=>.skip
noncomputable def Qda  (p1:Qa1) : Nat→Qa1→Int→Option Bool
 | 0,_,_=>none
 | n+1,a13,v14 =>
 if (decide (v14<(p1.Threads.length:Int)))=true then
  Option.bind (rd p1.Threads v14) fun x16 =>
  Option.bind (rd a13.Threads v14) fun x17 =>
  if (x16.Routine != x17.Routine)=true then
   some false
  else
   if (x16.Pc != x17.Pc)=true then
    some false
   else
    if (x16.State != x17.State)=true then
     some false
    else
     if (x16.Cond != x17.Cond)=true then
      some false
     else
      if (x16.Lock != x17.Lock)=true then
       some false
      else
       Option.bind (Qf5 x16.Stack x17.Stack) fun r33 =>
       if (!r33)=true then
        some false
       else
        Qda p1 n a13 (w64 (v14+1))
 else
  some true
theorem Qq6 {E:Env} (hP:E.pk=pk0 Tryz.prog) (hn:E.n=93) (hx:FX E []) (p1:Qa1)  : ∀ (n:Nat) (a13:Qa1) (v14:Int) (r:Bool),Qda p1 n a13 v14=some r→WAt E Xjw (FQ (Qdj Θ Tryz.f38.results.toList [] [] (B r) E)) [true,true,false,true,false] ⟨[(3,(AV.ptr 1 0 0)),(39,(AV.ro 6 (p1.Threads.map r70))),(40,(I (p1.Threads.length:Int))),(41,(I v14))],[(1,some ⟨44,4,[((r44 a13))]⟩)],[1,JJ]⟩:=by
 intro n
 induction n with
 | zero=>intro a13 v14 r h;simp only [Qda] at h;cases h
 | succ n ih =>
  intro a13 v14 r h
  simp only [Qda] at h
  let Z0:=(decide (v14<(p1.Threads.length:Int)));let Z1:=B true;let Z3:=B false
  rcases itS h with ⟨c15,h⟩ | ⟨c36,h⟩
  ·obtain ⟨x16,hx16,h⟩:=bnS h
   obtain ⟨x17,hx17,h⟩:=bnS h
   let Z2:=B (x16.Routine != x17.Routine);let Z4:=B (x16.Pc != x17.Pc);let Z5:=B (x16.State != x17.State);let Z6:=B (x16.Cond != x17.Cond);let Z7:=B (x16.Lock != x17.Lock)
   let H1:List Hn:=[hT 1,hh 3 (.row (r70 x16)),hW 5 1001,hh 11 (.row (r70 x17)),hW 13 1002]
   let P2:List Prop:=[Z0=true,(0:Int)≤v14,(p1.Threads.map r70)[v14.toNat]? = some (r70 x16),(0:Int)≤v14,(a13.Threads.map r70)[v14.toNat]? = some (r70 x17)]
   have AP2:Qam P2:=⟨c15,(rd0 hx16),(rdM r70 hx16),(rd0 hx17),(rdM r70 hx17),trivial⟩
   rcases itS h with ⟨c18,h⟩ | ⟨c19,h⟩
   ·obtain rfl:=sj h
    exact gR hP hn (H1++[hO 20 Z1]) [] .raw (P2++[Z2=Z1,Z3=Z3,Qa3 Z3=true]) (Qa7 AP2 ⟨(Qau c18),rfl,rfl,trivial⟩)
   ·let H3:List Hn:=H1++[hO 20 Z3]
    let P4:List Prop:=P2++[Z2=Z3]
    have AP4:Qam P4:=Qa7 AP2 ⟨(Qau c19),trivial⟩
    rcases itS h with ⟨c20,h⟩ | ⟨c21,h⟩
    ·obtain rfl:=sj h
     exact gR hP hn (H3++[hO 27 Z1]) [] .raw (P4++[Z4=Z1,Z3=Z3,Qa3 Z3=true]) (Qa7 AP4 ⟨(Qau c20),rfl,rfl,trivial⟩)
    ·let P5:List Prop:=P4++[Z4=Z3]
     have AP5:Qam P5:=Qa7 AP4 ⟨(Qau c21),trivial⟩
     rcases itS h with ⟨c22,h⟩ | ⟨c23,h⟩
     ·obtain rfl:=sj h
      exact gR hP hn (H3++[hO 27 Z3,hO 34 Z1]) [] .raw (P5++[Z5=Z1,Z3=Z3,Qa3 Z3=true]) (Qa7 AP5 ⟨(Qau c22),rfl,rfl,trivial⟩)
     ·let H6:List Hn:=H3++[hO 27 Z3,hO 34 Z3]
      let P7:List Prop:=P5++[Z5=Z3]
      have AP7:Qam P7:=Qa7 AP5 ⟨(Qau c23),trivial⟩
      rcases itS h with ⟨c24,h⟩ | ⟨c25,h⟩
      ·obtain rfl:=sj h
       exact gR hP hn (H6++[hO 41 Z1]) [] .raw (P7++[Z6=Z1,Z3=Z3,Qa3 Z3=true]) (Qa7 AP7 ⟨(Qau c24),rfl,rfl,trivial⟩)
      ·rcases itS h with ⟨c26,h⟩ | ⟨c27,h⟩
       ·obtain rfl:=sj h
        exact gR hP hn (H6++[hO 41 Z3,hO 48 Z1]) [] .raw (P7++[Z6=Z3,Z7=Z1,Z3=Z3,Qa3 Z3=true]) (Qa7 AP7 ⟨(Qau c25),(Qau c26),rfl,rfl,trivial⟩)
       ·obtain ⟨r33,hr33,h⟩:=bnS h
        let P8:List Prop:=P7++[Z6=Z3,Z7=Z3,Qa4 Tryz.prog 115 [(AV.ro 1 (x16.Stack.map Qae)),(AV.ro 1 (x17.Stack.map Qae))] (B r33),Qa3 (B r33)=true]
        have AP8:Qam P8:=Qa7 AP7 ⟨(Qau c25),(Qau c27),(Qma hr33),rfl,trivial⟩
        rcases itS h with ⟨c34,h⟩ | ⟨c35,h⟩
        ·obtain rfl:=sj h
         exact gR hP hn (H6++[hO 41 Z3,hO 48 Z3,hh 53 (.callV [] (B r33)),hT 56]) [] .raw (P8++[(!r33)=true,Z3=Z3,Qa3 Z3=true]) (Qa7 AP8 ⟨c34,rfl,rfl,trivial⟩)
        ·exact gT hP hn hx (H6++[hO 41 Z3,hO 48 Z3,hh 53 (.callV [] (B r33)),hF 56]) [(1,1)] [3,39,40,41] [] (P8++[(!r33)=false,Qa8 [(1,1)] [((r44 a13))]]) (Qa7 AP8 ⟨c35,(rok (Qai t44 a13)),trivial⟩) (ih a13 (w64 (v14+1)) _ h)
  ·obtain rfl:=sj h
   exact gR hP hn [hF 1] [] .raw [Z0=false,Z1=Z1,Qa3 Z1=true] ⟨c36,rfl,rfl,trivial⟩
noncomputable def Qh9 (p1:Qa1) (p2:Qa1) : Option Bool:=
 if ((p1.Threads.length:Int) != (p2.Threads.length:Int))=true then
  some false
 else
  Option.bind (Qf5 p1.Cells p2.Cells) fun r5 =>
  if (!r5)=true then
   some false
  else
   Option.bind (Qir p1.Owner p2.Owner) fun r8 =>
   if (!r8)=true then
    some false
   else
    if (p1.Fault != p2.Fault)=true then
     some false
    else
     Qda p1 FU p2 0
theorem Qtv {p1:Qa1} {p2:Qa1} {r:Bool} (h:Qh9 p1 p2=some r) : Qa4 Tryz.prog 38 [(AV.agg ((r44 p1))),(AV.agg ((r44 p2)))] (B r):=by
 refine gM Tryz.func38 93 Xjw fun E hP hn hx=>?_
 unfold Qh9 at h
 let Z0:=(p1.Threads.length:Int);let Z1:=(p2.Threads.length:Int);let Z2:=(((p1.Threads.map r70).length:Nat) : Int);let Z3:=B true;let Z4:=B false;let Z5:=p1.Fault != p2.Fault
 let H1:List Hn:=[hW 0 1001,hW 1 1002,hO 5 (I Z0),hO 8 (I Z1)]
 let P2:List Prop:=[AV.lit (.int .i64 Z2)=(I Z0),AV.lit (.int .i64 (((p2.Threads.map r70).length:Nat) : Int))=(I Z1)]
 have AP2:Qam P2:=⟨(Qby r70),(Qby r70),trivial⟩
 rcases itS h with ⟨c3,h⟩ | ⟨c4,h⟩
 ·obtain rfl:=sj h
  exact gR hP hn (H1++[hO 10 Z3]) [] .raw (P2++[(B (Z0 != Z1))=Z3,Z4=Z4,Qa3 Z4=true]) (Qa7 AP2 ⟨(Qau c3),rfl,rfl,trivial⟩)
 ·obtain ⟨r5,hr5,h⟩:=bnS h
  let H3:List Hn:=H1++[hO 10 Z4,hh 15 (.callV [] (B r5))]
  let P4:List Prop:=P2++[(B (Z0 != Z1))=Z4,Qa4 Tryz.prog 115 [(AV.ro 1 (p1.Cells.map Qae)),(AV.ro 1 (p2.Cells.map Qae))] (B r5),Qa3 (B r5)=true]
  have AP4:Qam P4:=Qa7 AP2 ⟨(Qau c4),(Qma hr5),rfl,trivial⟩
  rcases itS h with ⟨c6,h⟩ | ⟨c7,h⟩
  ·obtain rfl:=sj h
   exact gR hP hn (H3++[hO 18 Z3]) [] .raw (P4++[(B (!r5))=Z3,Z4=Z4,Qa3 Z4=true]) (Qa7 AP4 ⟨(Qau c6),rfl,rfl,trivial⟩)
  ·obtain ⟨r8,hr8,h⟩:=bnS h
   let H5:List Hn:=H3++[hO 18 Z4,hh 23 (.callV [] (B r8))]
   let P6:List Prop:=P4++[(B (!r5))=Z4,Qa4 Tryz.prog 116 [(AV.ro 1 (p1.Owner.map o3)),(AV.ro 1 (p2.Owner.map o3))] (B r8),Qa3 (B r8)=true]
   have AP6:Qam P6:=Qa7 AP4 ⟨(Qau c7),(Qrj hr8),rfl,trivial⟩
   rcases itS h with ⟨c9,h⟩ | ⟨c10,h⟩
   ·obtain rfl:=sj h
    exact gR hP hn (H5++[hO 26 Z3]) [] .raw (P6++[(B (!r8))=Z3,Z4=Z4,Qa3 Z4=true]) (Qa7 AP6 ⟨(Qau c9),rfl,rfl,trivial⟩)
   ·rcases itS h with ⟨c11,h⟩ | ⟨c12,h⟩
    ·obtain rfl:=sj h
     exact gR hP hn (H5++[hO 26 Z4,hT 33]) [] .raw (P6++[(B (!r8))=Z4,Z5=true,Z4=Z4,Qa3 Z4=true]) (Qa7 AP6 ⟨(Qau c10),c11,rfl,rfl,trivial⟩)
    ·exact gT hP hn hx (H5++[hO 26 Z4,hF 33,hO 36 (I Z0)]) [(1002,1)] [3,39,40,41] [] (P6++[(B (!r8))=Z4,Z5=false,AV.lit (.int .i64 Z2)=(I Z0),Qa8 [(1002,1)] [((r44 p2))]]) (Qa7 AP6 ⟨(Qau c10),c12,(Qby r70),(rok (Qai t44 p2)),trivial⟩) (Qq6 hP hn hx p1 FU p2 0 _ h)
noncomputable def Xg1:Code:=match Tryz.f197.body with | some c=>c | none=>.skip
noncomputable def Qcd  (p1:(List Qaa)) (p2:(List Qaa)) : Nat→Int→Option Bool
 | 0,_=>none
 | n+1,v5 =>
 if (decide (v5<(p1.length:Int)))=true then
  Option.bind (rd p1 v5) fun x7 =>
  Option.bind (rd p2 v5) fun x8 =>
  if (!(decide (x7=x8)))=true then
   some false
  else
   Qcd p1 p2 n (w64 (v5+1))
 else
  some true
theorem Qnp {E:Env} (hP:E.pk=pk0 Tryz.prog) (hn:E.n=26) (hx:FX E []) (p1:(List Qaa)) (p2:(List Qaa))  : ∀ (n:Nat) (v5:Int) (r:Bool),Qcd p1 p2 n v5=some r→WAt E Xg1 (FQ (Qdj Θ Tryz.f197.results.toList [] [] (B r) E)) [true,true,false,true,false] ⟨[(0,(AV.ro 5 (p1.map o60))),(1,(AV.ro 5 (p2.map o60))),(12,(I (p1.length:Int))),(13,(I v5))],[],[JJ]⟩:=by
 intro n
 induction n with
 | zero=>intro v5 r h;simp only [Qcd] at h;cases h
 | succ n ih =>
  intro v5 r h
  simp only [Qcd] at h
  let Z1:=(decide (v5<(p1.length:Int)))
  rcases itS h with ⟨c6,h⟩ | ⟨c11,h⟩
  ·obtain ⟨x7,hx7,h⟩:=bnS h
   obtain ⟨x8,hx8,h⟩:=bnS h
   let Z0:=decide (x7=x8)
   let H1:List Hn:=[hT 1,hh 6 (.row (o60 x7)),hh 10 (.row (o60 x8)),hh 12 (.bin (B (!Z0)))]
   let P2:List Prop:=[Z1=true,(0:Int)≤v5,(p1.map o60)[v5.toNat]? = some (o60 x7),(0:Int)≤v5,(p2.map o60)[v5.toNat]? = some (o60 x8),Qgd Tryz.prog .neq 60 (AV.agg ((o60 x7))) (AV.agg ((o60 x8))) (B (!Z0))]
   have AP2:Qam P2:=⟨c6,(rd0 hx7),(rdM o60 hx7),(rd0 hx8),(rdM o60 hx8),(Xpr _ _),trivial⟩
   rcases itS h with ⟨c9,h⟩ | ⟨c10,h⟩
   ·obtain rfl:=sj h
    exact gR hP hn (H1++[hT 13]) [] .raw (P2++[(!Z0)=true,(B false)=(B false),Qa3 (B false)=true]) (Qa7 AP2 ⟨c9,rfl,rfl,trivial⟩)
   ·exact gT hP hn hx (H1++[hF 13]) [] [0,1,12,13] [] (P2++[(!Z0)=false]) (Qa7 AP2 ⟨c10,trivial⟩) (ih (w64 (v5+1)) _ h)
  ·obtain rfl:=sj h
   exact gR hP hn [hF 1] [] .raw [Z1=false,(B true)=(B true),Qa3 (B true)=true] ⟨c11,rfl,rfl,trivial⟩
noncomputable def Qfc (p1:(List Qaa)) (p2:(List Qaa)) : Option Bool:=
 if ((p1.length:Int) != (p2.length:Int))=true then
  some false
 else
  Qcd p1 p2 FU 0
theorem Qq7 {p1:(List Qaa)} {p2:(List Qaa)} {r:Bool} (h:Qfc p1 p2=some r) : Qa4 Tryz.prog 197 [(AV.ro 5 (p1.map o60)),(AV.ro 5 (p2.map o60))] (B r):=by
 refine gM Tryz.func197 26 Xg1 fun E hP hn hx=>?_
 unfold Qfc at h
 let Z0:=(((p1.map o60).length:Nat) : Int);let Z1:=(I (p1.length:Int));let Z2:=(I (p2.length:Int));let Z3:=((p1.length:Int) != (p2.length:Int))
 let P1:List Prop:=[AV.lit (.int .i64 Z0)=Z1,AV.lit (.int .i64 (((p2.map o60).length:Nat) : Int))=Z2]
 have AP1:Qam P1:=⟨(Qby o60),(Qby o60),trivial⟩
 rcases itS h with ⟨c3,h⟩ | ⟨c4,h⟩
 ·obtain rfl:=sj h
  exact gR hP hn [hO 2 Z1,hO 4 Z2,hT 6] [] .raw (P1++[Z3=true,(B false)=(B false),Qa3 (B false)=true]) (Qa7 AP1 ⟨c3,rfl,rfl,trivial⟩)
 ·exact gT hP hn hx [hO 2 Z1,hO 4 Z2,hF 6,hO 8 Z1] [] [0,1,12,13] [] (P1++[Z3=false,AV.lit (.int .i64 Z0)=Z1]) (Qa7 AP1 ⟨c4,(Qby o60),trivial⟩) (Qnp hP hn hx p1 p2 FU 0 _ h)
noncomputable def Xmt:Code:=match Tryz.f143.body with | some c=>c | none=>.skip
noncomputable def Qhd (p1:Qbi) (p2:Qbi) : Option Bool:=
 if (p1.Code == p2.Code)=true then
  Option.bind (Qfc p1.Trace p2.Trace) fun r4 =>
  if r4=true then
   Option.bind (Qir p1.Picks p2.Picks) fun r6 =>
   if r6=true then
    Option.bind (Qh9 p1.End p2.End) fun r8 =>
    some r8
   else
    some false
  else
   some false
 else
  some false
theorem Qtf {p1:Qbi} {p2:Qbi} {r:Bool} (h:Qhd p1 p2=some r) : Qa4 Tryz.prog 143 [(AV.agg ((r46 p1))),(AV.agg ((r46 p2)))] (B r):=by
 refine gM Tryz.func143 31 Xmt fun E hP hn hx=>?_
 unfold Qhd at h
 let Z0:=B true;let Z1:=B (p1.Code == p2.Code);let Z2:=B false
 rcases itS h with ⟨c3,h⟩ | ⟨c11,h⟩
 ·obtain ⟨r4,hr4,h⟩:=bnS h
  let H1:List Hn:=[hW 0 1001,hW 1 1002,hO 8 Z0,hh 13 (.callV [] (B r4))]
  let P2:List Prop:=[Z1=Z0,Qa4 Tryz.prog 197 [(AV.ro 5 (p1.Trace.map o60)),(AV.ro 5 (p2.Trace.map o60))] (B r4),Qa3 (B r4)=true]
  have AP2:Qam P2:=⟨(Qau c3),(Qq7 hr4),rfl,trivial⟩
  rcases itS h with ⟨c5,h⟩ | ⟨c10,h⟩
  ·obtain ⟨r6,hr6,h⟩:=bnS h
   let P3:List Prop:=P2++[(B r4)=Z0,Qa4 Tryz.prog 116 [(AV.ro 1 (p1.Picks.map o3)),(AV.ro 1 (p2.Picks.map o3))] (B r6),Qa3 (B r6)=true]
   have AP3:Qam P3:=Qa7 AP2 ⟨(Qau c5),(Qrj hr6),rfl,trivial⟩
   rcases itS h with ⟨c7,h⟩ | ⟨c9,h⟩
   ·obtain ⟨r8,hr8,h⟩:=bnS h
    obtain rfl:=sj h
    exact gR hP hn (H1++[hO 15 Z0,hh 20 (.callV [] (B r6)),hO 22 Z0,hh 27 (.callV [[],[]] (B r8))]) [] .raw (P3++[(B r6)=Z0,Qa4 Tryz.prog 38 [(AV.agg ((r44 p1.End))),(AV.agg ((r44 p2.End)))] (B r8),Qa3 (B r8)=true,(B r8)=(B r8),Qa3 (B r8)=true]) (Qa7 AP3 ⟨(Qau c7),(Qtv hr8),rfl,rfl,rfl,trivial⟩)
   ·obtain rfl:=sj h
    exact gR hP hn (H1++[hO 15 Z0,hh 20 (.callV [] (B r6)),hO 22 Z2]) [] .raw (P3++[(B r6)=Z2,Z2=Z2,Qa3 Z2=true]) (Qa7 AP3 ⟨(Qau c9),rfl,rfl,trivial⟩)
  ·obtain rfl:=sj h
   exact gR hP hn (H1++[hO 15 Z2]) [] .raw (P2++[(B r4)=Z2,Z2=Z2,Qa3 Z2=true]) (Qa7 AP2 ⟨(Qau c10),rfl,rfl,trivial⟩)
 ·obtain rfl:=sj h
  exact gR hP hn [hW 0 1001,hW 1 1002,hO 8 Z2] [] .raw [Z1=Z2,Z2=Z2,Qa3 Z2=true] ⟨(Qau c11),rfl,rfl,trivial⟩
noncomputable def Xov:Code:=match Tryz.f64.body with | some c=>c | none=>.skip
noncomputable def Qog (p1:Qaf) (p2:Qbi) : Option Bool:=
 if (decide ((p2.Trace.length:Int)≤200))=true then
  Option.bind (Qjk p2.Picks) fun r4 =>
  if r4=true then
   Option.bind (Qis p1 p2.Picks (p2.Picks.length:Int)) fun r6 =>
   Option.bind (Qhd (Qbi.mk r6.Code r6.Trace r6.Picks (Qa1.mk r6.End.Threads r6.End.Cells r6.End.Owner r6.End.Fault)) p2) fun r7 =>
   some r7
  else
   some false
 else
  some false
theorem Xbg {p1:Qaf} {p2:Qbi} {r:Bool} (h:Qog p1 p2=some r) : Qa4 Tryz.prog 64 [(AV.agg ((r39 p1))),(AV.agg ((r46 p2)))] (B r):=by
 refine gM Tryz.func64 25 Xov fun E hP hn hx=>?_
 unfold Qog at h
 let Z0:=(p2.Trace.length:Int);let Z1:=B (decide (Z0≤200));let Z2:=AV.ro 1 (p2.Picks.map o3);let Z3:=(I (p2.Picks.length:Int));let Z10:=AV.agg ((r46 p2));let Z12:=B false
 let H1:List Hn:=[hW 0 1001,hW 1 1002,hO 5 (I Z0)]
 let P2:List Prop:=[AV.lit (.int .i64 (((p2.Trace.map o60).length:Nat) : Int))=(I Z0)]
 have AP2:Qam P2:=⟨(Qby o60),trivial⟩
 rcases itS h with ⟨c3,h⟩ | ⟨c9,h⟩
 ·obtain ⟨r4,hr4,h⟩:=bnS h
  let P3:List Prop:=P2++[Z1=(B true),Qa4 Tryz.prog 63 [Z2] (B r4),Qa3 (B r4)=true]
  have AP3:Qam P3:=Qa7 AP2 ⟨(Qau c3),(Qwj hr4),rfl,trivial⟩
  rcases itS h with ⟨c5,h⟩ | ⟨c8,h⟩
  ·obtain ⟨r6,hr6,h⟩:=bnS h
   obtain ⟨r7,hr7,h⟩:=bnS h
   obtain rfl:=sj h
   exact (let Z4:=AV.agg (o46 r6);let Z5:=r6.Trace.map o60;let Z6:=r6.Picks.map o3;let Z7:=r6.End.Threads.map r70;let Z8:=r6.End.Cells.map Qae;let Z9:=r6.End.Owner.map o3;let Z11:=r6.End.Threads.map o70;gR hP hn (H1++[hO 7 (B true),hh 10 (.callV [] (B r4)),hO 12 (B true),hO 18 Z3,hh 19 (.call [[]] Z4 [1003,1004,1005,1006,1007]),hh 22 (.callV [[],Z5,Z6,Z7,Z8,Z9,[]] (B r7))]) [] .raw (P3++[(B r4)=(B true),AV.lit (.int .i64 (((p2.Picks.map o3).length:Nat) : Int))=Z3,Qa4 Tryz.prog 119 [(AV.agg ((r39 p1))),Z2,Z3] Z4,Qc2 Z4=true,Z10=Z10,Qa4 Tryz.prog 143 [(AV.agg [(I r6.Code),(AV.ro 5 Z5),(AV.ro 1 Z6),(AV.ro 6 Z7),(AV.ro 1 Z8),(AV.ro 1 Z9),(I r6.End.Fault)]),Z10] (B r7),Qa3 (B r7)=true,Frz ((Z5.drop 0).take Z5.length) Z5,Frz ((Z6.drop 0).take Z6.length) Z6,Frz ((Z11.drop 0).take Z11.length) Z7,Frz ((Z8.drop 0).take Z8.length) Z8,Frz ((Z9.drop 0).take Z9.length) Z9,(B r7)=(B r7),Qa3 (B r7)=true]) (Qa7 AP3 ⟨(Qau c5),(Qby o3),(Qzn hr6),(by simp +zetaDelta only [Qc2,Qbm,Qa9 n3,Qa9 n60,Qa9 n70,Qa9 Qe7,o46,Bool.and_self]),rfl,(Qtf hr7),rfl,(Qfx t60 z60),(Qfx t3 z3),(Qfx t70 z70),(Qfx Qbs Qqn),(Qfx t3 z3),rfl,rfl,trivial⟩))
  ·obtain rfl:=sj h
   exact gR hP hn (H1++[hO 7 (B true),hh 10 (.callV [] (B r4)),hO 12 Z12]) [] .raw (P3++[(B r4)=Z12,Z12=Z12,Qa3 Z12=true]) (Qa7 AP3 ⟨(Qau c8),rfl,rfl,trivial⟩)
 ·obtain rfl:=sj h
  exact gR hP hn (H1++[hO 7 Z12]) [] .raw (P2++[Z1=Z12,Z12=Z12,Qa3 Z12=true]) (Qa7 AP2 ⟨(Qau c9),rfl,rfl,trivial⟩)
noncomputable def Xpk:Code:=match Tryz.f19.body with | some c=>c | none=>.skip
noncomputable def Qgm (p1:Qaf) (p2:Qbi) : Option (Int×Bool):=
 Option.bind (Qi6 p1) fun r3 =>
 if (!r3)=true then
  some (0,false)
 else
  Option.bind (Qog p1 p2) fun r6 =>
  if (!r6)=true then
   some (0,false)
  else
   Option.bind (Qhh p1 p2) fun r9 =>
   some (r9,true)
theorem Qsq {p1:Qaf} {p2:Qbi} {r:(Int×Bool)} (h:Qgm p1 p2=some r) : Qa4 Tryz.prog 19 [(AV.agg ((r39 p1))),(AV.agg ((r46 p2)))] (AV.tup [(I r.1),(B r.2)]):=by
 refine gM Tryz.func19 18 Xpk fun E hP hn hx=>?_
 unfold Qgm at h
 obtain ⟨r3,hr3,h⟩:=bnS h
 let Z0:=B false;let Z1:=[(AV.agg ((r39 p1))),(AV.agg ((r46 p2)))]
 let H1:List Hn:=[hW 0 1001,hW 1 1002,hh 5 (.callV [[]] (B r3))]
 let P2:List Prop:=[Qa4 Tryz.prog 62 [(AV.agg ((r39 p1)))] (B r3),Qa3 (B r3)=true]
 have AP2:Qam P2:=⟨(Quc hr3),rfl,trivial⟩
 rcases itS h with ⟨c4,h⟩ | ⟨c5,h⟩
 ·obtain rfl:=sj h
  exact gR hP hn (H1++[hO 7 (B true)]) [] (.agg [.raw,.raw]) (P2++[(B (!r3))=(B true),(I 0)=(I 0),Qa3 (I 0)=true,Z0=Z0,Qa3 Z0=true]) (Qa7 AP2 ⟨(Qau c4),rfl,rfl,rfl,rfl,trivial⟩)
 ·obtain ⟨r6,hr6,h⟩:=bnS h
  let P3:List Prop:=P2++[(B (!r3))=Z0,Qa4 Tryz.prog 64 Z1 (B r6),Qa3 (B r6)=true]
  have AP3:Qam P3:=Qa7 AP2 ⟨(Qau c5),(Xbg hr6),rfl,trivial⟩
  rcases itS h with ⟨c7,h⟩ | ⟨c8,h⟩
  ·obtain rfl:=sj h
   exact gR hP hn (H1++[hO 7 Z0,hh 10 (.callV [[],[]] (B r6)),hT 13]) [] (.agg [.raw,.raw]) (P3++[(!r6)=true,(I 0)=(I 0),Qa3 (I 0)=true,Z0=Z0,Qa3 Z0=true]) (Qa7 AP3 ⟨c7,rfl,rfl,rfl,rfl,trivial⟩)
  ·obtain ⟨r9,hr9,h⟩:=bnS h
   obtain rfl:=sj h
   exact gR hP hn (H1++[hO 7 Z0,hh 10 (.callV [[],[]] (B r6)),hF 13,hh 16 (.callV [[],[]] (I r9))]) [] (.agg [.raw,.raw]) (P3++[(!r6)=false,Qa4 Tryz.prog 82 Z1 (I r9),Qa3 (I r9)=true,(I r9)=(I r9),Qa3 (I r9)=true,(B true)=(B true),Qa3 (B true)=true]) (Qa7 AP3 ⟨c8,(Qri hr9),rfl,rfl,rfl,rfl,rfl,trivial⟩)
noncomputable def Xnw:Code:=match Tryz.f5.body with | some c=>c | none=>.skip
noncomputable def Qde  (p1:Qaf) (p2:Qbi) (r12:Qaf) (r13:Qbi)  : Option Bool:=
 Option.bind (Qhk p1) fun r19 =>
 Option.bind (Qkj (Qaf.mk r12.Cells r12.Locks r12.Conds r12.Routines) (Qaf.mk r19.Cells r19.Locks r19.Conds r19.Routines)) fun r20 =>
 if (!r20)=true then
  some false
 else
  Option.bind (Qih p2) fun r33 =>
  Option.bind (Qlu (Qbi.mk r13.Code r13.Trace r13.Picks (Qa1.mk r13.End.Threads r13.End.Cells r13.End.Owner r13.End.Fault)) (Qbi.mk r33.Code r33.Trace r33.Picks (Qa1.mk r33.End.Threads r33.End.Cells r33.End.Owner r33.End.Fault))) fun r34 =>
  if (!r34)=true then
   some false
  else
   some true
theorem Qkh {E:Env} (hP:E.pk=pk0 Tryz.prog) (hn:E.n=58) (hx:FX E []) (p1:Qaf) (p2:Qbi) (r12:Qaf) (r13:Qbi)   (r:Bool) (h:Qde p1 p2 r12 r13  = some r) : WAt E Xnw (FQ (Qdj Θ Tryz.f5.results.toList [] [] (B r) E)) [true,true,true,true,true,true,true,true,true,true,false,true,true] ⟨[(2,(AV.ptr 1 0 0)),(3,(AV.ptr 2 0 0)),(8,(AV.ptr 3 0 0)),(9,(AV.ptr 4 0 0))],[(1,some ⟨24,4,[((r24 p1))]⟩),(2,some ⟨32,7,[((r32 p2))]⟩),(3,some ⟨39,4,[[(I r12.Cells),(I r12.Locks),(I r12.Conds),(AV.own 154 1 (r12.Routines.map Qth))]]⟩),(4,some ⟨46,7,[[(I r13.Code),(AV.own 60 5 (r13.Trace.map o60)),(AV.own 3 1 (r13.Picks.map o3)),(AV.own 70 6 (r13.End.Threads.map o70)),(AV.own 132 1 (r13.End.Cells.map Qae)),(AV.own 3 1 (r13.End.Owner.map o3)),(I r13.End.Fault)]]⟩)],[1,2,3,4,JJ]⟩:=by
 unfold Qde at h
 obtain ⟨r19,hr19,h⟩:=bnS h
 obtain ⟨r20,hr20,h⟩:=bnS h
 let Z0:=I r12.Cells;let Z1:=I r12.Locks;let Z2:=I r12.Conds;let Z3:=r12.Routines.map Qth;let Z4:=[Z0,Z1,Z2,(AV.own 154 1 Z3)];let Z5:=AV.sl 1001 0 Z3.length;let Z6:=AV.agg (o39 r19);let Z7:=r12.Routines.map Qho;let Z8:=r19.Routines.map Qho;let Z9:=AV.agg [Z0,Z1,Z2,Z5];let Z10:=r19.Routines.map Qth;let Z11:=B false;let Z12:=I r13.Code;let Z13:=r13.Trace.map o60;let Z14:=r13.Picks.map o3;let Z15:=AV.own 3 1 Z14;let Z16:=r13.End.Threads.map o70;let Z17:=AV.own 70 6 Z16;let Z18:=r13.End.Cells.map Qae;let Z19:=AV.own 132 1 Z18;let Z20:=r13.End.Owner.map o3;let Z21:=AV.own 3 1 Z20;let Z22:=I r13.End.Fault;let Z23:=[Z12,(AV.own 60 5 Z13),Z15,Z17,Z19,Z21,Z22];let Z24:=AV.sl 1003 0 Z13.length;let Z25:=[Z12,Z24,Z15,Z17,Z19,Z21,Z22];let Z26:=AV.sl 1004 0 Z14.length;let Z27:=[Z12,Z24,Z26,Z17,Z19,Z21,Z22];let Z28:=AV.sl 1005 0 Z16.length;let Z29:=[Z12,Z24,Z26,Z28,Z19,Z21,Z22];let Z30:=AV.sl 1006 0 Z18.length;let Z31:=[Z12,Z24,Z26,Z28,Z30,Z21,Z22];let Z32:=AV.sl 1007 0 Z20.length;let Z33:=[Z12,Z24,Z26,Z28,Z30,Z32,Z22];let Z35:=r13.End.Threads.map r70
 let H1:List Hn:=[hh 0 (.unpack 3 1001 0 3 Z4 154 1 Z3 [[Z0,Z1,Z2,Z5]]),hh 2 (.call [[]] Z6 [1002]),hh 4 (.callV [[],Z7,[],Z8] (B r20))]
 let P2:List Prop:=[[Z4][0]? = some Z4,Z4[3]? = some (AV.own 154 1 Z3),0<1,[Z4].set 0 (Z4.set 3 Z5)=[[Z0,Z1,Z2,Z5]],Qa4 Tryz.prog 12 [(AV.agg ((r24 p1)))] Z6,Qc2 Z6=true,Z9=Z9,Qa4 Tryz.prog 15 [(AV.agg [Z0,Z1,Z2,(AV.ro 1 Z7)]),(AV.agg [(I r19.Cells),(I r19.Locks),(I r19.Conds),(AV.ro 1 Z8)])] (B r20),Qa3 (B r20)=true,Frz ((Z3.drop 0).take Z3.length) Z7,Frz ((Z10.drop 0).take Z10.length) Z8]
 have AP2:Qam P2:=⟨rfl,rfl,(by decide),rfl,(Qmh hr19),(by simp +zetaDelta only [Qc2,Qbm,Qa9 Xnb,o39,Bool.and_self]),rfl,(Qye hr20),rfl,(Qfx Xje z154),(Qfx Xje z154),trivial⟩
 rcases itS h with ⟨c21,h⟩ | ⟨c22,h⟩
 ·obtain rfl:=sj h
  exact gR hP hn (H1++[hT 6]) [] .raw (P2++[(!r20)=true,Z11=Z11,Qa3 Z11=true]) (Qa7 AP2 ⟨c21,rfl,rfl,trivial⟩)
 ·obtain ⟨r33,hr33,h⟩:=bnS h
  obtain ⟨r34,hr34,h⟩:=bnS h
  let Z34:=AV.agg (o46 r33);let Z36:=r33.Trace.map o60;let Z37:=r33.Picks.map o3;let Z38:=r33.End.Threads.map r70;let Z39:=r33.End.Cells.map Qae;let Z40:=r33.End.Owner.map o3;let Z41:=r33.End.Threads.map o70
  let H3:List Hn:=H1++[hF 6,hh 7 (.unpack 4 1003 0 1 Z23 60 5 Z13 [Z25]),hh 7 (.unpack 4 1004 0 2 Z25 3 1 Z14 [Z27]),hh 7 (.unpack 4 1005 0 3 Z27 70 6 Z16 [Z29]),hh 7 (.unpack 4 1006 0 4 Z29 132 1 Z18 [Z31]),hh 7 (.unpack 4 1007 0 5 Z31 3 1 Z20 [Z33]),hh 9 (.call [[]] Z34 [1008,1009,1010,1011,1012]),hh 11 (.callV [[],Z13,Z14,Z35,Z18,Z20,[],Z36,Z37,Z38,Z39,Z40] (B r34))]
  let P4:List Prop:=P2++[(!r20)=false,[Z23][0]? = some Z23,Z23[1]? = some (AV.own 60 5 Z13),0<5,[Z23].set 0 (Z23.set 1 Z24)=[Z25],[Z25][0]? = some Z25,Z25[2]? = some Z15,0<1,[Z25].set 0 (Z25.set 2 Z26)=[Z27],[Z27][0]? = some Z27,Z27[3]? = some Z17,0<6,[Z27].set 0 (Z27.set 3 Z28)=[Z29],[Z29][0]? = some Z29,Z29[4]? = some Z19,0<1,[Z29].set 0 (Z29.set 4 Z30)=[Z31],[Z31][0]? = some Z31,Z31[5]? = some Z21,0<1,[Z31].set 0 (Z31.set 5 Z32)=[Z33],Qa4 Tryz.prog 13 [(AV.agg ((r32 p2)))] Z34,Qc2 Z34=true,(AV.agg Z33)=(AV.agg Z33),Qa4 Tryz.prog 16 [(AV.agg [Z12,(AV.ro 5 Z13),(AV.ro 1 Z14),(AV.ro 6 Z35),(AV.ro 1 Z18),(AV.ro 1 Z20),Z22]),(AV.agg [(I r33.Code),(AV.ro 5 Z36),(AV.ro 1 Z37),(AV.ro 6 Z38),(AV.ro 1 Z39),(AV.ro 1 Z40),(I r33.End.Fault)])] (B r34),Qa3 (B r34)=true,Frz ((Z13.drop 0).take Z13.length) Z13,Frz ((Z14.drop 0).take Z14.length) Z14,Frz ((Z16.drop 0).take Z16.length) Z35,Frz ((Z18.drop 0).take Z18.length) Z18,Frz ((Z20.drop 0).take Z20.length) Z20,Frz ((Z36.drop 0).take Z36.length) Z36,Frz ((Z37.drop 0).take Z37.length) Z37,Frz ((Z41.drop 0).take Z41.length) Z38,Frz ((Z39.drop 0).take Z39.length) Z39,Frz ((Z40.drop 0).take Z40.length) Z40]
  have AP4:Qam P4:=Qa7 AP2 ⟨c22,rfl,rfl,(by decide),rfl,rfl,rfl,(by decide),rfl,rfl,rfl,(by decide),rfl,rfl,rfl,(by decide),rfl,rfl,rfl,(by decide),rfl,(Qoa hr33),(by simp +zetaDelta only [Qc2,Qbm,Qa9 n3,Qa9 n60,Qa9 n70,Qa9 Qe7,o46,Bool.and_self]),rfl,(Xa3 hr34),rfl,(Qfx t60 z60),(Qfx t3 z3),(Qfx t70 z70),(Qfx Qbs Qqn),(Qfx t3 z3),(Qfx t60 z60),(Qfx t3 z3),(Qfx t70 z70),(Qfx Qbs Qqn),(Qfx t3 z3),trivial⟩
  rcases itS h with ⟨c35,h⟩ | ⟨c36,h⟩
  ·obtain rfl:=sj h
   exact gR hP hn (H3++[hT 13]) [] .raw (P4++[(!r34)=true,Z11=Z11,Qa3 Z11=true]) (Qa7 AP4 ⟨c35,rfl,rfl,trivial⟩)
  ·obtain rfl:=sj h
   exact gR hP hn (H3++[hF 13]) [] .raw (P4++[(!r34)=false,(B true)=(B true),Qa3 (B true)=true]) (Qa7 AP4 ⟨c36,rfl,rfl,trivial⟩)
noncomputable def Qd6 (p1:Qaf) (p2:Qbi) : Option Bool:=
 Option.bind (Qkr p1 1048576) fun r3 =>
 if (decide (r3<0))=true then
  some true
 else
  Option.bind (Qm7 p2 r3) fun r6 =>
  if (decide (r6<0))=true then
   some true
  else
   Option.bind (Qhk p1) fun r9 =>
   Option.bind (Qih p2) fun r10 =>
   Option.bind (Qgm (Qaf.mk r9.Cells r9.Locks r9.Conds r9.Routines) (Qbi.mk r10.Code r10.Trace r10.Picks (Qa1.mk r10.End.Threads r10.End.Cells r10.End.Owner r10.End.Fault))) fun r11 =>
   Option.bind (Qhk p1) fun r12 =>
   Option.bind (Qih p2) fun r13 =>
   Option.bind (Qgs (Qaf.mk r12.Cells r12.Locks r12.Conds r12.Routines) (Qbi.mk r13.Code r13.Trace r13.Picks (Qa1.mk r13.End.Threads r13.End.Cells r13.End.Owner r13.End.Fault))) fun r14 =>
   if (r14.1 != r11.1)=true then
    some false
   else
    if (!(r14.2 == r11.2))=true then
     some false
    else
     Qde p1 p2 r12 r13
theorem Qme {p1:Qaf} {p2:Qbi} {r:Bool} (h:Qd6 p1 p2=some r) : Qa4 Tryz.prog 5 [(AV.agg ((r24 p1))),(AV.agg ((r32 p2)))] (B r):=by
 refine gM Tryz.func5 58 Xnw fun E hP hn hx=>?_
 unfold Qd6 at h
 obtain ⟨r3,hr3,h⟩:=bnS h
 let Z0:=B true;let Z1:=AV.agg ((r32 p2));let Z20:=[(AV.agg ((r24 p1)))];let Z31:=B false
 let H1:List Hn:=[hW 0 1001,hW 1 1002,hh 6 (.callV [[]] (I r3))]
 let P2:List Prop:=[Qa4 Tryz.prog 9 [(AV.agg ((r24 p1))),(I 1048576)] (I r3),Qa3 (I r3)=true]
 have AP2:Qam P2:=⟨(Qyy hr3),rfl,trivial⟩
 rcases itS h with ⟨c4,h⟩ | ⟨c5,h⟩
 ·obtain rfl:=sj h
  exact gR hP hn (H1++[hT 10]) [] .raw (P2++[(decide (r3<0))=true,Z0=Z0,Qa3 Z0=true]) (Qa7 AP2 ⟨c4,rfl,rfl,trivial⟩)
 ·obtain ⟨r6,hr6,h⟩:=bnS h
  let H3:List Hn:=H1++[hF 10,hh 13 (.callV [[]] (I r6))]
  let P4:List Prop:=P2++[(decide (r3<0))=false,Qa4 Tryz.prog 10 [Z1,(I r3)] (I r6),Qa3 (I r6)=true]
  have AP4:Qam P4:=Qa7 AP2 ⟨c5,(Xak hr6),rfl,trivial⟩
  rcases itS h with ⟨c7,h⟩ | ⟨c8,h⟩
  ·obtain rfl:=sj h
   exact gR hP hn (H3++[hT 17]) [] .raw (P4++[(decide (r6<0))=true,Z0=Z0,Qa3 Z0=true]) (Qa7 AP4 ⟨c7,rfl,rfl,trivial⟩)
  ·obtain ⟨r9,hr9,h⟩:=bnS h
   obtain ⟨r10,hr10,h⟩:=bnS h
   obtain ⟨r11,hr11,h⟩:=bnS h
   obtain ⟨r12,hr12,h⟩:=bnS h
   obtain ⟨r13,hr13,h⟩:=bnS h
   obtain ⟨r14,hr14,h⟩:=bnS h
   let Z2:=AV.agg (o39 r9);let Z3:=AV.agg (o46 r10);let Z4:=r9.Routines.map Qho;let Z5:=r10.Trace.map o60;let Z6:=r10.Picks.map o3;let Z7:=r10.End.Threads.map r70;let Z8:=r10.End.Cells.map Qae;let Z9:=r10.End.Owner.map o3;let Z10:=AV.tup [(I r11.1),(B r11.2)];let Z11:=AV.agg (o39 r12);let Z12:=AV.agg (o46 r13);let Z13:=r12.Routines.map Qho;let Z14:=r13.Trace.map o60;let Z15:=r13.Picks.map o3;let Z16:=r13.End.Threads.map r70;let Z17:=r13.End.Cells.map Qae;let Z18:=r13.End.Owner.map o3;let Z19:=AV.tup [(I r14.1),(B r14.2)];let Z21:=r9.Routines.map Qth;let Z22:=r10.End.Threads.map o70;let Z23:=I r12.Cells;let Z24:=I r12.Locks;let Z25:=I r12.Conds;let Z26:=I r13.Code;let Z27:=I r13.End.Fault;let Z28:=r12.Routines.map Qth;let Z29:=r13.End.Threads.map o70;let Z30:=B (r14.1 != r11.1);let Z32:=AV.sl 1009 0 Z28.length;let Z33:=[Z23,Z24,Z25,Z32];let Z34:=[[Z23,Z24,Z25,(AV.own 154 1 Z28)]];let Z35:=AV.sl 1011 0 Z14.length;let Z36:=AV.sl 1012 0 Z15.length;let Z37:=AV.sl 1013 0 Z29.length;let Z38:=AV.sl 1014 0 Z17.length;let Z39:=AV.sl 1015 0 Z18.length;let Z40:=[Z26,Z35,Z36,Z37,Z38,Z39,Z27];let Z41:=AV.own 60 5 Z14;let Z42:=[Z26,Z41,Z36,Z37,Z38,Z39,Z27];let Z43:=AV.own 3 1 Z15;let Z44:=[Z26,Z41,Z43,Z37,Z38,Z39,Z27];let Z45:=AV.own 70 6 Z29;let Z46:=[Z26,Z41,Z43,Z45,Z38,Z39,Z27];let Z47:=AV.own 132 1 Z17;let Z48:=[Z26,Z41,Z43,Z45,Z47,Z39,Z27];let Z49:=[[Z26,Z41,Z43,Z45,Z47,(AV.own 3 1 Z18),Z27]]
   let H5:List Hn:=H3++[hF 17,hh 19 (.call [[]] Z2 [1003]),hh 21 (.call [[]] Z3 [1004,1005,1006,1007,1008]),hh 22 (.callV [[],Z4,[],Z5,Z6,Z7,Z8,Z9] Z10),hh 30 (.call [[]] Z11 [1009]),hW 31 1010,hh 34 (.call [[]] Z12 [1011,1012,1013,1014,1015]),hW 35 1016,hh 39 (.callV [[],Z13,[],Z14,Z15,Z16,Z17,Z18] Z19)]
   let P6:List Prop:=P4++[(decide (r6<0))=false,Qa4 Tryz.prog 12 Z20 Z2,Qc2 Z2=true,Qa4 Tryz.prog 13 [Z1] Z3,Qc2 Z3=true,Qa4 Tryz.prog 19 [(AV.agg [(I r9.Cells),(I r9.Locks),(I r9.Conds),(AV.ro 1 Z4)]),(AV.agg [(I r10.Code),(AV.ro 5 Z5),(AV.ro 1 Z6),(AV.ro 6 Z7),(AV.ro 1 Z8),(AV.ro 1 Z9),(I r10.End.Fault)])] Z10,Qa3 Z10=true,Frz ((Z21.drop 0).take Z21.length) Z4,Frz ((Z5.drop 0).take Z5.length) Z5,Frz ((Z6.drop 0).take Z6.length) Z6,Frz ((Z22.drop 0).take Z22.length) Z7,Frz ((Z8.drop 0).take Z8.length) Z8,Frz ((Z9.drop 0).take Z9.length) Z9,Z1=Z1,Qa4 Tryz.prog 12 Z20 Z11,Qc2 Z11=true,Qa4 Tryz.prog 13 [Z1] Z12,Qc2 Z12=true,Qa4 Tryz.prog 20 [(AV.agg [Z23,Z24,Z25,(AV.ro 1 Z13)]),(AV.agg [Z26,(AV.ro 5 Z14),(AV.ro 1 Z15),(AV.ro 6 Z16),(AV.ro 1 Z17),(AV.ro 1 Z18),Z27])] Z19,Qa3 Z19=true,Frz ((Z28.drop 0).take Z28.length) Z13,Frz ((Z14.drop 0).take Z14.length) Z14,Frz ((Z15.drop 0).take Z15.length) Z15,Frz ((Z29.drop 0).take Z29.length) Z16,Frz ((Z17.drop 0).take Z17.length) Z17,Frz ((Z18.drop 0).take Z18.length) Z18]
   have AP6:Qam P6:=Qa7 AP4 ⟨c8,(Qmh hr9),(by simp +zetaDelta only [Qc2,Qbm,Qa9 Xnb,o39,Bool.and_self]),(Qoa hr10),(by simp +zetaDelta only [Qc2,Qbm,Qa9 n3,Qa9 n60,Qa9 n70,Qa9 Qe7,o46,Bool.and_self]),(Qsq hr11),rfl,(Qfx Xje z154),(Qfx t60 z60),(Qfx t3 z3),(Qfx t70 z70),(Qfx Qbs Qqn),(Qfx t3 z3),rfl,(Qmh hr12),(by simp +zetaDelta only [Qc2,Qbm,Qa9 Xnb,o39,Bool.and_self]),(Qoa hr13),(by simp +zetaDelta only [Qc2,Qbm,Qa9 n3,Qa9 n60,Qa9 n70,Qa9 Qe7,o46,Bool.and_self]),(Qs3 hr14),rfl,(Qfx Xje z154),(Qfx t60 z60),(Qfx t3 z3),(Qfx t70 z70),(Qfx Qbs Qqn),(Qfx t3 z3),trivial⟩
   rcases itS h with ⟨c15,h⟩ | ⟨c16,h⟩
   ·obtain rfl:=sj h
    exact gR hP hn (H5++[hO 48 Z0]) [] .raw (P6++[Z30=Z0,Z31=Z31,Qa3 Z31=true]) (Qa7 AP6 ⟨(Qau c15),rfl,rfl,trivial⟩)
   ·rcases itS h with ⟨c17,h⟩ | ⟨c18,h⟩
    ·obtain rfl:=sj h
     exact gR hP hn (H5++[hO 48 Z31,hT 53]) [] .raw (P6++[Z30=Z31,(!(r14.2 == r11.2))=true,Z31=Z31,Qa3 Z31=true]) (Qa7 AP6 ⟨(Qau c16),c17,rfl,rfl,trivial⟩)
    ·exact gT hP hn hx (H5++[hO 48 Z31,hF 53,hh 54 (.pack 1010 1009 0 3 Z33 Z34),hh 54 (.pack 1016 1011 0 1 Z40 [Z42]),hh 54 (.pack 1016 1012 0 2 Z42 [Z44]),hh 54 (.pack 1016 1013 0 3 Z44 [Z46]),hh 54 (.pack 1016 1014 0 4 Z46 [Z48]),hh 54 (.pack 1016 1015 0 5 Z48 Z49)]) [(1001,1),(1002,2),(1010,3),(1016,4)] [2,3,8,9] [] (P6++[Z30=Z31,(!(r14.2 == r11.2))=false,[Z33][0]? = some Z33,Z33[3]? = some Z32,Qa2 Z28=true,[Z33].set 0 (Z33.set 3 (AV.own 154 1 Z28))=Z34,[Z40][0]? = some Z40,Z40[1]? = some Z35,Qa2 Z14=true,[Z40].set 0 (Z40.set 1 Z41)=[Z42],[Z42][0]? = some Z42,Z42[2]? = some Z36,Qa2 Z15=true,[Z42].set 0 (Z42.set 2 Z43)=[Z44],[Z44][0]? = some Z44,Z44[3]? = some Z37,Qa2 Z29=true,[Z44].set 0 (Z44.set 3 Z45)=[Z46],[Z46][0]? = some Z46,Z46[4]? = some Z38,Qa2 Z17=true,[Z46].set 0 (Z46.set 4 Z47)=[Z48],[Z48][0]? = some Z48,Z48[5]? = some Z39,Qa2 Z18=true,[Z48].set 0 (Z48.set 5 (AV.own 3 1 Z18))=Z49,Qa8 [(1001,1),(1002,2),(1010,3),(1016,4)] [((r24 p1))],Qa8 [(1001,1),(1002,2),(1010,3),(1016,4)] [((r32 p2))],Qa8 [(1001,1),(1002,2),(1010,3),(1016,4)] Z34,Qa8 [(1001,1),(1002,2),(1010,3),(1016,4)] Z49]) (Qa7 AP6 ⟨(Qau c16),c18,rfl,rfl,(Qab Xje),rfl,rfl,rfl,(Qab t60),rfl,rfl,rfl,(Qab t3),rfl,rfl,rfl,(Qab t70),rfl,rfl,rfl,(Qab Qbs),rfl,rfl,rfl,(Qab t3),rfl,(rok (Qai t24 p1)),(rok (Qai t32 p2)),(rok (Qai t39 (Qaf.mk r12.Cells r12.Locks r12.Conds r12.Routines))),(rok (Qai t46 (Qbi.mk r13.Code r13.Trace r13.Picks (Qa1.mk r13.End.Threads r13.End.Cells r13.End.Owner r13.End.Fault)))),trivial⟩) (Qkh hP hn hx p1 p2 r12 r13  _ h)
end Go.Proofs.YtemmdkcpcjidmaaGreat
