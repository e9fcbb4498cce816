/- The types of this seat, as plain data and in memory; no condition. -/

import Derived.Test.YtdmmaanagmacjaaProg
import Derived.Test.YtdmmaanagmacjaaBN
set_option linter.unusedVariables false
namespace Go.Proofs.Ytdmmaanagmacjaa
open Go Go.T
def Θ:Tys:=[(3,⟨1,8,.int .i64,[.int .i64 0]⟩),
 (4,⟨1,1,.bool,[.bool false]⟩),
 (5,⟨1,1,.int .u8,[.int .u8 0]⟩),
 (9,⟨1,16,.string,[.string ⟨#[]⟩]⟩),
 (34,⟨1,24,.slice 3,[.slice none 0 0]⟩),
 (71,⟨5,40,.struct #[⟨"Thread",3,0,false, "", "",0⟩,⟨"Kind",3,1,false, "", "",8⟩,⟨"Obj",3,2,false, "", "",16⟩,⟨"Lock",3,3,false, "", "",24⟩,⟨"Pc",3,4,false, "", "",32⟩],[.int .i64 0,.int .i64 0,.int .i64 0,.int .i64 0,.int .i64 0]⟩),
 (42,⟨2,32,.struct #[⟨"Sure",9,0,false, "", "",0⟩,⟨"Later",9,1,false, "", "",16⟩],[.string ⟨#[]⟩,.string ⟨#[]⟩]⟩),
 (24,⟨1,24,.slice 34,[.slice none 0 0]⟩),
 (27,⟨1,24,.slice 71,[.slice none 0 0]⟩),
 (22,⟨1,24,.slice 73,[.slice none 0 0]⟩),
 (158,⟨4,32,.struct #[⟨"Code",3,0,false, "", "",0⟩,⟨"A",3,1,false, "", "",8⟩,⟨"B",3,2,false, "", "",16⟩,⟨"V",156,3,false, "", "",24⟩],[.int .i64 0,.int .i64 0,.int .i64 0,.float .f64 0]⟩),
 (141,⟨4,80,.struct #[⟨"Threads",138,0,false, "", "",0⟩,⟨"Cells",139,1,false, "", "",24⟩,⟨"Owner",34,2,false, "", "",48⟩,⟨"Fault",3,3,false, "", "",72⟩],[.slice none 0 0,.slice none 0 0,.slice none 0 0,.int .i64 0]⟩),
 (198,⟨6,64,.struct #[⟨"Routine",3,0,false, "", "",0⟩,⟨"Pc",3,1,false, "", "",8⟩,⟨"State",3,2,false, "", "",16⟩,⟨"Cond",3,3,false, "", "",24⟩,⟨"Lock",3,4,false, "", "",32⟩,⟨"Stack",139,5,false, "", "",40⟩],[.int .i64 0,.int .i64 0,.int .i64 0,.int .i64 0,.int .i64 0,.slice none 0 0]⟩),
 (39,⟨1,24,.slice 5,[.slice none 0 0]⟩),
 (136,⟨4,48,.struct #[⟨"Cells",3,0,false, "", "",0⟩,⟨"Locks",3,1,false, "", "",8⟩,⟨"Conds",3,2,false, "", "",16⟩,⟨"Routines",134,3,false, "", "",24⟩],[.int .i64 0,.int .i64 0,.int .i64 0,.slice none 0 0]⟩),
 (47,⟨1,24,.slice 9,[.slice none 0 0]⟩),
 (139,⟨1,24,.slice 156,[.slice none 0 0]⟩),
 (138,⟨1,24,.slice 198,[.slice none 0 0]⟩),
 (88,⟨3,40,.struct #[⟨"code",39,0,false, "", "loop.example/g00696/spec",0⟩,⟨"at",3,1,false, "", "loop.example/g00696/spec",24⟩,⟨"seed",86,2,false, "", "loop.example/g00696/spec",32⟩],[.slice none 0 0,.int .i64 0,.int .u64 0]⟩),
 (134,⟨1,24,.slice 155,[.slice none 0 0]⟩),
 (86,⟨1,8,.int .u64,[.int .u64 0]⟩),
 (104,⟨4,32,.array 4 86,[.int .u64 0,.int .u64 0,.int .u64 0,.int .u64 0]⟩),
 (156,⟨1,8,.float .f64,[.float .f64 0]⟩),
 (155,⟨1,24,.slice 158,[.slice none 0 0]⟩),
 (143,⟨7,136,.struct #[⟨"Code",3,0,false, "", "",0⟩,⟨"Trace",27,1,false, "", "",8⟩,⟨"Picks",34,2,false, "", "",32⟩,⟨"End",141,3,false, "", "",56⟩],[.int .i64 0,.slice none 0 0,.slice none 0 0,.slice none 0 0,.slice none 0 0,.slice none 0 0,.int .i64 0]⟩),
 (73,⟨5,40,.struct #[⟨"Thread",3,0,false, "", "",0⟩,⟨"Kind",3,1,false, "", "",8⟩,⟨"Obj",3,2,false, "", "",16⟩,⟨"Lock",3,3,false, "", "",24⟩,⟨"Pc",3,4,false, "", "",32⟩],[.int .i64 0,.int .i64 0,.int .i64 0,.int .i64 0,.int .i64 0]⟩),
 (107,⟨1,24,.slice 4,[.slice none 0 0]⟩),
 (74,⟨5,40,.array 5 3,[.int .i64 0,.int .i64 0,.int .i64 0,.int .i64 0,.int .i64 0]⟩),
 (180,⟨1,8,.int .u64,[.int .u64 0]⟩),
 (105,⟨1,24,.slice 107,[.slice none 0 0]⟩),
 (126,⟨4,32,.struct #[⟨"Had",3,0,false, "", "",0⟩,⟨"Taken",3,1,false, "", "",8⟩,⟨"Thread",3,2,false, "", "",16⟩,⟨"At",3,3,false, "", "",24⟩],[.int .i64 0,.int .i64 0,.int .i64 0,.int .i64 0]⟩),
 (152,⟨100,800,.array 100 3,List.replicate 100 (.int .i64 0)⟩),
 (101,⟨1,24,.slice 104,[.slice none 0 0]⟩),
 (123,⟨1,24,.slice 126,[.slice none 0 0]⟩),
 (176,⟨100,100,.array 100 4,List.replicate 100 (.bool false)⟩),
 (149,⟨1,8,.int .u64,[.int .u64 0]⟩),
 (173,⟨1,4,.int .u32,[.int .u32 0]⟩)]
theorem ty3:Qi4 Try.prog 3=some ⟨1,8,.int .i64,[.int .i64 0]⟩:=by kernel_rfl
theorem ty4:Qi4 Try.prog 4=some ⟨1,1,.bool,[.bool false]⟩:=by kernel_rfl
theorem ty5:Qi4 Try.prog 5=some ⟨1,1,.int .u8,[.int .u8 0]⟩:=by kernel_rfl
theorem ty9:Qi4 Try.prog 9=some ⟨1,16,.string,[.string ⟨#[]⟩]⟩:=by kernel_rfl
theorem ty34:Qi4 Try.prog 34=some ⟨1,24,.slice 3,[.slice none 0 0]⟩:=by kernel_rfl
theorem ty71:Qi4 Try.prog 71=some ⟨5,40,.struct #[⟨"Thread",3,0,false, "", "",0⟩,⟨"Kind",3,1,false, "", "",8⟩,⟨"Obj",3,2,false, "", "",16⟩,⟨"Lock",3,3,false, "", "",24⟩,⟨"Pc",3,4,false, "", "",32⟩],[.int .i64 0,.int .i64 0,.int .i64 0,.int .i64 0,.int .i64 0]⟩:=by kernel_rfl
theorem ty42:Qi4 Try.prog 42=some ⟨2,32,.struct #[⟨"Sure",9,0,false, "", "",0⟩,⟨"Later",9,1,false, "", "",16⟩],[.string ⟨#[]⟩,.string ⟨#[]⟩]⟩:=by kernel_rfl
theorem ty24:Qi4 Try.prog 24=some ⟨1,24,.slice 34,[.slice none 0 0]⟩:=by kernel_rfl
theorem ty27:Qi4 Try.prog 27=some ⟨1,24,.slice 71,[.slice none 0 0]⟩:=by kernel_rfl
theorem ty22:Qi4 Try.prog 22=some ⟨1,24,.slice 73,[.slice none 0 0]⟩:=by kernel_rfl
theorem ty158:Qi4 Try.prog 158=some ⟨4,32,.struct #[⟨"Code",3,0,false, "", "",0⟩,⟨"A",3,1,false, "", "",8⟩,⟨"B",3,2,false, "", "",16⟩,⟨"V",156,3,false, "", "",24⟩],[.int .i64 0,.int .i64 0,.int .i64 0,.float .f64 0]⟩:=by kernel_rfl
theorem ty141:Qi4 Try.prog 141=some ⟨4,80,.struct #[⟨"Threads",138,0,false, "", "",0⟩,⟨"Cells",139,1,false, "", "",24⟩,⟨"Owner",34,2,false, "", "",48⟩,⟨"Fault",3,3,false, "", "",72⟩],[.slice none 0 0,.slice none 0 0,.slice none 0 0,.int .i64 0]⟩:=by kernel_rfl
theorem ty198:Qi4 Try.prog 198=some ⟨6,64,.struct #[⟨"Routine",3,0,false, "", "",0⟩,⟨"Pc",3,1,false, "", "",8⟩,⟨"State",3,2,false, "", "",16⟩,⟨"Cond",3,3,false, "", "",24⟩,⟨"Lock",3,4,false, "", "",32⟩,⟨"Stack",139,5,false, "", "",40⟩],[.int .i64 0,.int .i64 0,.int .i64 0,.int .i64 0,.int .i64 0,.slice none 0 0]⟩:=by kernel_rfl
theorem Xki:Qi4 Try.prog 39=some ⟨1,24,.slice 5,[.slice none 0 0]⟩:=by kernel_rfl
theorem ty136:Qi4 Try.prog 136=some ⟨4,48,.struct #[⟨"Cells",3,0,false, "", "",0⟩,⟨"Locks",3,1,false, "", "",8⟩,⟨"Conds",3,2,false, "", "",16⟩,⟨"Routines",134,3,false, "", "",24⟩],[.int .i64 0,.int .i64 0,.int .i64 0,.slice none 0 0]⟩:=by kernel_rfl
theorem ty47:Qi4 Try.prog 47=some ⟨1,24,.slice 9,[.slice none 0 0]⟩:=by kernel_rfl
theorem ty139:Qi4 Try.prog 139=some ⟨1,24,.slice 156,[.slice none 0 0]⟩:=by kernel_rfl
theorem ty138:Qi4 Try.prog 138=some ⟨1,24,.slice 198,[.slice none 0 0]⟩:=by kernel_rfl
theorem ty88:Qi4 Try.prog 88=some ⟨3,40,.struct #[⟨"code",39,0,false, "", "loop.example/g00696/spec",0⟩,⟨"at",3,1,false, "", "loop.example/g00696/spec",24⟩,⟨"seed",86,2,false, "", "loop.example/g00696/spec",32⟩],[.slice none 0 0,.int .i64 0,.int .u64 0]⟩:=by kernel_rfl
theorem ty134:Qi4 Try.prog 134=some ⟨1,24,.slice 155,[.slice none 0 0]⟩:=by kernel_rfl
theorem ty86:Qi4 Try.prog 86=some ⟨1,8,.int .u64,[.int .u64 0]⟩:=by kernel_rfl
theorem ty104:Qi4 Try.prog 104=some ⟨4,32,.array 4 86,[.int .u64 0,.int .u64 0,.int .u64 0,.int .u64 0]⟩:=by kernel_rfl
theorem Qv6:Qi4 Try.prog 156=some ⟨1,8,.float .f64,[.float .f64 0]⟩:=by kernel_rfl
theorem ty155:Qi4 Try.prog 155=some ⟨1,24,.slice 158,[.slice none 0 0]⟩:=by kernel_rfl
theorem ty143:Qi4 Try.prog 143=some ⟨7,136,.struct #[⟨"Code",3,0,false, "", "",0⟩,⟨"Trace",27,1,false, "", "",8⟩,⟨"Picks",34,2,false, "", "",32⟩,⟨"End",141,3,false, "", "",56⟩],[.int .i64 0,.slice none 0 0,.slice none 0 0,.slice none 0 0,.slice none 0 0,.slice none 0 0,.int .i64 0]⟩:=by kernel_rfl
theorem ty73:Qi4 Try.prog 73=some ⟨5,40,.struct #[⟨"Thread",3,0,false, "", "",0⟩,⟨"Kind",3,1,false, "", "",8⟩,⟨"Obj",3,2,false, "", "",16⟩,⟨"Lock",3,3,false, "", "",24⟩,⟨"Pc",3,4,false, "", "",32⟩],[.int .i64 0,.int .i64 0,.int .i64 0,.int .i64 0,.int .i64 0]⟩:=by kernel_rfl
theorem ty107:Qi4 Try.prog 107=some ⟨1,24,.slice 4,[.slice none 0 0]⟩:=by kernel_rfl
theorem ty74:Qi4 Try.prog 74=some ⟨5,40,.array 5 3,[.int .i64 0,.int .i64 0,.int .i64 0,.int .i64 0,.int .i64 0]⟩:=by kernel_rfl
theorem ty180:Qi4 Try.prog 180=some ⟨1,8,.int .u64,[.int .u64 0]⟩:=by kernel_rfl
theorem ty105:Qi4 Try.prog 105=some ⟨1,24,.slice 107,[.slice none 0 0]⟩:=by kernel_rfl
theorem ty126:Qi4 Try.prog 126=some ⟨4,32,.struct #[⟨"Had",3,0,false, "", "",0⟩,⟨"Taken",3,1,false, "", "",8⟩,⟨"Thread",3,2,false, "", "",16⟩,⟨"At",3,3,false, "", "",24⟩],[.int .i64 0,.int .i64 0,.int .i64 0,.int .i64 0]⟩:=by kernel_rfl
theorem ty152:Qi4 Try.prog 152=some ⟨100,800,.array 100 3,List.replicate 100 (.int .i64 0)⟩:=by kernel_rfl
theorem ty101:Qi4 Try.prog 101=some ⟨1,24,.slice 104,[.slice none 0 0]⟩:=by kernel_rfl
theorem ty123:Qi4 Try.prog 123=some ⟨1,24,.slice 126,[.slice none 0 0]⟩:=by kernel_rfl
theorem ty176:Qi4 Try.prog 176=some ⟨100,100,.array 100 4,List.replicate 100 (.bool false)⟩:=by kernel_rfl
theorem ty149:Qi4 Try.prog 149=some ⟨1,8,.int .u64,[.int .u64 0]⟩:=by kernel_rfl
theorem ty173:Qi4 Try.prog 173=some ⟨1,4,.int .u32,[.int .u32 0]⟩:=by kernel_rfl
theorem Qxi:TOK Try.prog Θ:=⟨ty3,ty4,ty5,ty9,ty34,ty71,ty42,ty24,ty27,ty22,ty158,ty141,ty198,Xki,ty136,ty47,ty139,ty138,ty88,ty134,ty86,ty104,Qv6,ty155,ty143,ty73,ty107,ty74,ty180,ty105,ty126,ty152,ty101,ty123,ty176,ty149,ty173,trivial⟩
theorem Xkb:Try.prog.follows .mixedOrders=true:=by kernel_rfl
structure Qa5 where
 Thread:Int
 Kind:Int
 Obj:Int
 Lock:Int
 Pc:Int
 deriving DecidableEq
structure Qa0 where
 at_:Int
 seed:Int
 deriving DecidableEq
structure GOp where
 Code:Int
 A:Int
 B:Int
 V:Nat
 deriving DecidableEq
structure Qa9 where
 Cells:Int
 Locks:Int
 Conds:Int
 Routines:(List (List GOp))
 deriving DecidableEq
structure Qa2 where
 Routine:Int
 Pc:Int
 State:Int
 Cond:Int
 Lock:Int
 Stack:(List Nat)
 deriving DecidableEq
structure Qa3 where
 Threads:(List Qa2)
 Cells:(List Nat)
 Owner:(List Int)
 Fault:Int
 deriving DecidableEq
structure Qgp where
 Code:Int
 Trace:(List Qa5)
 Picks:(List Int)
 End:Qa3
 deriving DecidableEq
def Xau (x:GOp) : Prop:=((Lit.int .i64 x.Code).wf=true)∧((Lit.int .i64 x.A).wf=true)∧((Lit.int .i64 x.B).wf=true)∧(x.V<18446744073709551616)
def Qvw (x:Qa9) : Prop:=((Lit.int .i64 x.Cells).wf=true)∧((Lit.int .i64 x.Locks).wf=true)∧((Lit.int .i64 x.Conds).wf=true)∧(x.Routines.length≤9223372036854775807∧∀ y0∈x.Routines,y0.length≤9223372036854775807∧∀ y1∈y0,Xau y1)
def o3 (x:Int) : List AV:=[I x]
def k3 (x:Int) : AV:=I x
theorem t3 : ∀ x,Qeq (o3 x)=true:=(fun _=>rfl)
theorem z3 : ∀ x,Qnh (o3 x)=o3 x:=(fun _=>rfl)
theorem n3 : ∀ x,Qcw (o3 x)=true:=(fun _=>rfl)
theorem pa3 : ∀ x,(o3 x).all AV.plain=true:=(fun _=>rfl)
def o4 (x:Bool) : List AV:=[B x]
def k4 (x:Bool) : AV:=B x
theorem t4 : ∀ x,Qeq (o4 x)=true:=(fun _=>rfl)
theorem z4 : ∀ x,Qnh (o4 x)=o4 x:=(fun _=>rfl)
theorem n4 : ∀ x,Qcw (o4 x)=true:=(fun _=>rfl)
def o71 (x:Qa5) : List AV:=[I x.Thread,I x.Kind,I x.Obj,I x.Lock,I x.Pc]
theorem t71 : ∀ x,Qeq (o71 x)=true:=(fun _=>rfl)
theorem z71 : ∀ x,Qnh (o71 x)=o71 x:=(fun _=>rfl)
theorem n71 : ∀ x,Qcw (o71 x)=true:=(fun _=>rfl)
theorem pa71 : ∀ x,(o71 x).all AV.plain=true:=(fun _=>rfl)
def o34 (x:(List Int)) : List AV:=[AV.own 3 1 (x.map o3)]
def r34 (x:(List Int)) : List AV:=[AV.ro 1 (x.map o3)]
theorem t34 : ∀ x,Qeq (o34 x)=true:=fun _=>rfl
theorem z34 : ∀ x,Qnh (o34 x)=r34 x:=fun x=>by simp only [o34,r34,Qnh,frz,Xem z3]
theorem n34 : ∀ x,Qcw (o34 x)=true:=fun x=>by simp only [o34,Qcw,Qez,Qaa n3,Bool.and_self]
def Qf0 (x:(List Bool)) : List AV:=[AV.own 4 1 (x.map o4)]
theorem Qy3 : ∀ x,Qeq (Qf0 x)=true:=fun _=>rfl
theorem n107 : ∀ x,Qcw (Qf0 x)=true:=fun x=>by simp only [Qf0,Qcw,Qez,Qaa n4,Bool.and_self]
def o5 (x:Int) : List AV:=[IK .u8 x]
theorem n5 : ∀ x,Qcw (o5 x)=true:=(fun _=>rfl)
def r39 (x:(List Int)) : List AV:=[AV.ro 1 (x.map o5)]
def o9 (x:Str) : List AV:=[SK x]
def k86 (x:Int) : AV:=IK .u64 x
def r47 (x:(List Str)) : List AV:=[AV.ro 1 (x.map o9)]
def Qb7 (x:Nat) : List AV:=[FK x]
theorem Qdh : ∀ x,Qeq (Qb7 x)=true:=(fun _=>rfl)
theorem Xb7 : ∀ x,Qnh (Qb7 x)=Qb7 x:=(fun _=>rfl)
theorem Qhh : ∀ x,Qcw (Qb7 x)=true:=(fun _=>rfl)
theorem Qp6 : ∀ x,(Qb7 x).all AV.plain=true:=(fun _=>rfl)
def Qcb (x:GOp) : List AV:=[I x.Code,I x.A,I x.B,FK x.V]
theorem Qqs : ∀ x,Qeq (Qcb x)=true:=(fun _=>rfl)
theorem z158 : ∀ x,Qnh (Qcb x)=Qcb x:=(fun _=>rfl)
theorem Xg9 : ∀ x,Qcw (Qcb x)=true:=(fun _=>rfl)
theorem Xah : ∀ x,(Qcb x).all AV.plain=true:=(fun _=>rfl)
def Qdw (x:(List GOp)) : List AV:=[AV.own 158 4 (x.map Qcb)]
def Qtr (x:(List GOp)) : List AV:=[AV.ro 4 (x.map Qcb)]
theorem Xa3 : ∀ x,Qeq (Qdw x)=true:=fun _=>rfl
theorem z155 : ∀ x,Qnh (Qdw x)=Qtr x:=fun x=>by simp only [Qdw,Qtr,Qnh,frz,Xem z158]
theorem n155 : ∀ x,Qcw (Qdw x)=true:=fun x=>by simp only [Qdw,Qcw,Qez,Qaa Xg9,Bool.and_self]
def Qkw (x:Qa9) : List AV:=[I x.Cells,I x.Locks,I x.Conds,AV.own 155 1 (x.Routines.map Qdw)]
def Qhi (x:Qa9) : List AV:=[I x.Cells,I x.Locks,I x.Conds,AV.ro 1 (x.Routines.map Qtr)]
theorem Qit : ∀ x,Qeq (Qkw x)=true:=fun _=>rfl
def Qap (x:Qa2) : List AV:=[I x.Routine,I x.Pc,I x.State,I x.Cond,I x.Lock,AV.own 156 1 (x.Stack.map Qb7)]
def Qg5 (x:Qa2) : List AV:=[I x.Routine,I x.Pc,I x.State,I x.Cond,I x.Lock,AV.ro 1 (x.Stack.map Qb7)]
theorem Qg7 : ∀ x,Qeq (Qap x)=true:=fun _=>rfl
theorem Xgg : ∀ x,Qnh (Qap x)=Qg5 x:=fun x=>by simp only [Qap,Qg5,Qnh,frz,Xem Xb7]
theorem Qi3 : ∀ x,Qcw (Qap x)=true:=fun x=>by simp only [Qap,Qcw,Qez,Qaa Qhh,Bool.and_self]
def Qj4 (x:Qa3) : List AV:=[AV.own 198 6 (x.Threads.map Qap),AV.own 156 1 (x.Cells.map Qb7),AV.own 3 1 (x.Owner.map o3),I x.Fault]
def Qmn (x:Qa3) : List AV:=[AV.ro 6 (x.Threads.map Qg5),AV.ro 1 (x.Cells.map Qb7),AV.ro 1 (x.Owner.map o3),I x.Fault]
theorem Qm2 : ∀ x,Qeq (Qj4 x)=true:=fun _=>rfl
def Qsl (x:Qgp) : List AV:=[I x.Code,AV.own 71 5 (x.Trace.map o71),AV.own 3 1 (x.Picks.map o3),AV.own 198 6 (x.End.Threads.map Qap),AV.own 156 1 (x.End.Cells.map Qb7),AV.own 3 1 (x.End.Owner.map o3),I x.End.Fault]
theorem Xgt : ∀ x,Qeq (Qsl x)=true:=fun _=>rfl
def Qct (x:(Vector Int 4)) : List AV:=(x.toList.map k86)
theorem Qsk : ∀ x,Qeq (Qct x)=true:=fun x=>Xhl k86 (fun _=>rfl)
theorem n104 : ∀ x,Qcw (Qct x)=true:=fun x=>Xhe k86 (fun _=>rfl)
theorem Qu8 : ∀ x,(Qct x).all AV.plain=true:=fun x=>Qji k86 (fun _=>rfl)
theorem Qag : ∀ {p q:List Prop},Qb0 p→Qb0 q→Qb0 (p++q)
 | [],_,_,h=>h
 | _ :: _,_,h,k=>⟨h.1,Qag h.2 k⟩
theorem gR {E:Env} {K:KF} (hP:E.pk=PK.mk Try.prog K) {n:Nat} (hn:E.n=n) {body:Code} {rv:List ResultVar} {ks:List Bool} {rs:List Qae} {pt:List Bool} {s:St} {res:AV} (hs:List Hn) (rh:List H) (ph:PH) (ps:List Prop) (hp:Qb0 ps) (h:Xdy Θ (PK.mk Try.prog K) n body rv ks rs pt s hs rh ph res=some ps:=by kernel_rfl) : WAt E body (FQ (Qdu Θ rv ks rs res E)) pt s:=
 go_ret (by rw [pkP hP];exact Qxi) (by rw [pkP hP];exact Xkb) hP hn h hp
theorem gT {E:Env} {K:KF} (hP:E.pk=PK.mk Try.prog K) {n:Nat} (hn:E.n=n) {body:Code} {fr:List Nat} (hfx : ∀ p,p∈E.fx→p.1∈fr) {R:St→Prop} {pt tgt:List Bool} {s s':St} (hs:List Hn) (π:List (Nat×Nat)) (ts kp:List Nat) (ps:List Prop) (hp:Qb0 ps) (hk:WAt E body (FQ R) tgt s') (h:Xha Θ (PK.mk Try.prog K) n body fr pt tgt s hs π ts kp=some (s',ps):=by kernel_rfl) : WAt E body (FQ R) pt s:=
 go_to (by rw [pkP hP];exact Qxi) (by rw [pkP hP];exact Xkb) hfx hP hn h hp hk
def FX (E:Env) (l:List Nat) : Prop:=∀ p,p∈E.fx→p.1∈l
theorem gM {f:FuncId} {fn:Func} (hf:Try.prog.funcs[f]? = some fn) (n:Nat) (c:Code) {args:List AV} {res:AV} (h : ∀ E:Env,E.pk=pk0 Try.prog→E.n=n→FX E []→WAt E c (FQ (Qdu Θ fn.results.toList [] [] res E)) [] (Qw5 args)) (hq:args.length≤fn.ntmps:=by exact Nat.le_of_ble_eq_true rfl) (hname:(fn.name == "runtime.NumGoroutine")=false:=by exact rfl) (hb:fn.body=some c:=by kernel_rfl) (hn:fn.ntmps=n:=by exact rfl) : Qab Try.prog f args res:=
 Xd9 Qxi hf hname hb hq fun E a b c=>h E a (b.trans hn) c
theorem lnq {a b:Nat} (h:a=b:=by first | exact lnSet _ | exact Xkq _ | exact apLn _ (by assumption) | simp +zetaDelta only [List.length_map,List.length_set,List.length_cons,List.length_nil]) : a=b:=h
theorem leB {a b:Nat} (h:Nat.ble a b=true:=by exact rfl) : a≤b:=Nat.le_of_ble_eq_true h
theorem Qt6 {α β:Type} {l:List α} {i:Int} (f : α→β) {y : α} {ys : β} (h:ys=f y:=by kernel_rfl) : (l.map f).set i.toNat ys=(l.set i.toNat y).map f:=setMr f h
theorem Xe0 {α β:Type} {l:List α} {i:Int} (f : α→β) {x y : α} {ys : β} (h:ys=f y:=by kernel_rfl) : ((l.set i.toNat x).map f).set i.toNat ys=(l.set i.toNat y).map f:=setSS f h
theorem sj {α:Type} {a b : α} (h:some a=some b) : a=b:=Option.some.inj h
def nS:AV:=AV.lit (.slice none 0 0)
def hh (k:Nat) (h:H) : Hn:=⟨k,h,none⟩
def hT (k:Nat) : Hn:=⟨k,.br true,none⟩
def hF (k:Nat) : Hn:=⟨k,.br false,none⟩
def hW (k i:Nat) : Hn:=⟨k,.new i,none⟩
def hO (k:Nat) (x:AV) : Hn:=⟨k,.no,some x⟩
end Go.Proofs.Ytdmmaanagmacjaa
