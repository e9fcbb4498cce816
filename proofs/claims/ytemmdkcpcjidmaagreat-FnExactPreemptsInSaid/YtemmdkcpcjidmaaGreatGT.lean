/- The types of this seat, as plain data and in memory; no condition. -/

import Derived.Test.YtemmdkcpcjidmaaGreatProg
import Derived.Test.YtemmdkcpcjidmaaGreatBN
set_option linter.unusedVariables false
namespace Go.Proofs.YtemmdkcpcjidmaaGreat
open Go Go.T
def Θ:Tys:=[(3,⟨1,8,.int .i64,[.int .i64 0]⟩),
 (4,⟨1,1,.bool,[.bool false]⟩),
 (5,⟨1,1,.int .u8,[.int .u8 0]⟩),
 (44,⟨4,80,.struct #[⟨"Threads",42,0,false, "", "",0⟩,⟨"Cells",28,1,false, "", "",24⟩,⟨"Owner",26,2,false, "", "",48⟩,⟨"Fault",3,3,false, "", "",72⟩],[.slice none 0 0,.slice none 0 0,.slice none 0 0,.int .i64 0]⟩),
 (60,⟨5,40,.struct #[⟨"Thread",3,0,false, "", "",0⟩,⟨"Kind",3,1,false, "", "",8⟩,⟨"Obj",3,2,false, "", "",16⟩,⟨"Lock",3,3,false, "", "",24⟩,⟨"Pc",3,4,false, "", "",32⟩],[.int .i64 0,.int .i64 0,.int .i64 0,.int .i64 0,.int .i64 0]⟩),
 (39,⟨4,48,.struct #[⟨"Cells",3,0,false, "", "",0⟩,⟨"Locks",3,1,false, "", "",8⟩,⟨"Conds",3,2,false, "", "",16⟩,⟨"Routines",37,3,false, "", "",24⟩],[.int .i64 0,.int .i64 0,.int .i64 0,.slice none 0 0]⟩),
 (46,⟨7,136,.struct #[⟨"Code",3,0,false, "", "",0⟩,⟨"Trace",41,1,false, "", "",8⟩,⟨"Picks",26,2,false, "", "",32⟩,⟨"End",44,3,false, "", "",56⟩],[.int .i64 0,.slice none 0 0,.slice none 0 0,.slice none 0 0,.slice none 0 0,.slice none 0 0,.int .i64 0]⟩),
 (9,⟨1,16,.string,[.string ⟨#[]⟩]⟩),
 (70,⟨6,64,.struct #[⟨"Routine",3,0,false, "", "",0⟩,⟨"Pc",3,1,false, "", "",8⟩,⟨"State",3,2,false, "", "",16⟩,⟨"Cond",3,3,false, "", "",24⟩,⟨"Lock",3,4,false, "", "",32⟩,⟨"Stack",28,5,false, "", "",40⟩],[.int .i64 0,.int .i64 0,.int .i64 0,.int .i64 0,.int .i64 0,.slice none 0 0]⟩),
 (26,⟨1,24,.slice 3,[.slice none 0 0]⟩),
 (28,⟨1,24,.slice 132,[.slice none 0 0]⟩),
 (156,⟨4,32,.struct #[⟨"Code",3,0,false, "", "",0⟩,⟨"A",3,1,false, "", "",8⟩,⟨"B",3,2,false, "", "",16⟩,⟨"V",132,3,false, "", "",24⟩],[.int .i64 0,.int .i64 0,.int .i64 0,.float .f64 0]⟩),
 (41,⟨1,24,.slice 60,[.slice none 0 0]⟩),
 (42,⟨1,24,.slice 70,[.slice none 0 0]⟩),
 (24,⟨4,48,.struct #[⟨"Cells",3,0,false, "", "",0⟩,⟨"Locks",3,1,false, "", "",8⟩,⟨"Conds",3,2,false, "", "",16⟩,⟨"Routines",22,3,false, "", "",24⟩],[.int .i64 0,.int .i64 0,.int .i64 0,.slice none 0 0]⟩),
 (22,⟨1,24,.slice 151,[.slice none 0 0]⟩),
 (37,⟨1,24,.slice 154,[.slice none 0 0]⟩),
 (25,⟨1,24,.slice 161,[.slice none 0 0]⟩),
 (132,⟨1,8,.float .f64,[.float .f64 0]⟩),
 (27,⟨1,24,.slice 198,[.slice none 0 0]⟩),
 (32,⟨7,136,.struct #[⟨"Code",3,0,false, "", "",0⟩,⟨"Trace",25,1,false, "", "",8⟩,⟨"Picks",26,2,false, "", "",32⟩,⟨"End",30,3,false, "", "",56⟩],[.int .i64 0,.slice none 0 0,.slice none 0 0,.slice none 0 0,.slice none 0 0,.slice none 0 0,.int .i64 0]⟩),
 (30,⟨4,80,.struct #[⟨"Threads",27,0,false, "", "",0⟩,⟨"Cells",28,1,false, "", "",24⟩,⟨"Owner",26,2,false, "", "",48⟩,⟨"Fault",3,3,false, "", "",72⟩],[.slice none 0 0,.slice none 0 0,.slice none 0 0,.int .i64 0]⟩),
 (154,⟨1,24,.slice 156,[.slice none 0 0]⟩),
 (55,⟨1,24,.slice 5,[.slice none 0 0]⟩),
 (117,⟨3,40,.struct #[⟨"code",55,0,false, "", "loop.example/g00696/spec",0⟩,⟨"at",3,1,false, "", "loop.example/g00696/spec",24⟩,⟨"seed",115,2,false, "", "loop.example/g00696/spec",32⟩],[.slice none 0 0,.int .i64 0,.int .u64 0]⟩),
 (115,⟨1,8,.int .u64,[.int .u64 0]⟩),
 (198,⟨6,64,.struct #[⟨"Routine",3,0,false, "", "",0⟩,⟨"Pc",3,1,false, "", "",8⟩,⟨"State",3,2,false, "", "",16⟩,⟨"Cond",3,3,false, "", "",24⟩,⟨"Lock",3,4,false, "", "",32⟩,⟨"Stack",28,5,false, "", "",40⟩],[.int .i64 0,.int .i64 0,.int .i64 0,.int .i64 0,.int .i64 0,.slice none 0 0]⟩),
 (161,⟨5,40,.struct #[⟨"Thread",3,0,false, "", "",0⟩,⟨"Kind",3,1,false, "", "",8⟩,⟨"Obj",3,2,false, "", "",16⟩,⟨"Lock",3,3,false, "", "",24⟩,⟨"Pc",3,4,false, "", "",32⟩],[.int .i64 0,.int .i64 0,.int .i64 0,.int .i64 0,.int .i64 0]⟩),
 (200,⟨4,32,.struct #[⟨"Code",3,0,false, "", "",0⟩,⟨"A",3,1,false, "", "",8⟩,⟨"B",3,2,false, "", "",16⟩,⟨"V",132,3,false, "", "",24⟩],[.int .i64 0,.int .i64 0,.int .i64 0,.float .f64 0]⟩),
 (204,⟨1,8,.int .u64,[.int .u64 0]⟩),
 (151,⟨1,24,.slice 200,[.slice none 0 0]⟩)]
theorem ty3:Ql6 Tryz.prog 3=some ⟨1,8,.int .i64,[.int .i64 0]⟩:=by kernel_rfl
theorem ty4:Ql6 Tryz.prog 4=some ⟨1,1,.bool,[.bool false]⟩:=by kernel_rfl
theorem ty5:Ql6 Tryz.prog 5=some ⟨1,1,.int .u8,[.int .u8 0]⟩:=by kernel_rfl
theorem ty44:Ql6 Tryz.prog 44=some ⟨4,80,.struct #[⟨"Threads",42,0,false, "", "",0⟩,⟨"Cells",28,1,false, "", "",24⟩,⟨"Owner",26,2,false, "", "",48⟩,⟨"Fault",3,3,false, "", "",72⟩],[.slice none 0 0,.slice none 0 0,.slice none 0 0,.int .i64 0]⟩:=by kernel_rfl
theorem ty60:Ql6 Tryz.prog 60=some ⟨5,40,.struct #[⟨"Thread",3,0,false, "", "",0⟩,⟨"Kind",3,1,false, "", "",8⟩,⟨"Obj",3,2,false, "", "",16⟩,⟨"Lock",3,3,false, "", "",24⟩,⟨"Pc",3,4,false, "", "",32⟩],[.int .i64 0,.int .i64 0,.int .i64 0,.int .i64 0,.int .i64 0]⟩:=by kernel_rfl
theorem ty39:Ql6 Tryz.prog 39=some ⟨4,48,.struct #[⟨"Cells",3,0,false, "", "",0⟩,⟨"Locks",3,1,false, "", "",8⟩,⟨"Conds",3,2,false, "", "",16⟩,⟨"Routines",37,3,false, "", "",24⟩],[.int .i64 0,.int .i64 0,.int .i64 0,.slice none 0 0]⟩:=by kernel_rfl
theorem ty46:Ql6 Tryz.prog 46=some ⟨7,136,.struct #[⟨"Code",3,0,false, "", "",0⟩,⟨"Trace",41,1,false, "", "",8⟩,⟨"Picks",26,2,false, "", "",32⟩,⟨"End",44,3,false, "", "",56⟩],[.int .i64 0,.slice none 0 0,.slice none 0 0,.slice none 0 0,.slice none 0 0,.slice none 0 0,.int .i64 0]⟩:=by kernel_rfl
theorem ty9:Ql6 Tryz.prog 9=some ⟨1,16,.string,[.string ⟨#[]⟩]⟩:=by kernel_rfl
theorem ty70:Ql6 Tryz.prog 70=some ⟨6,64,.struct #[⟨"Routine",3,0,false, "", "",0⟩,⟨"Pc",3,1,false, "", "",8⟩,⟨"State",3,2,false, "", "",16⟩,⟨"Cond",3,3,false, "", "",24⟩,⟨"Lock",3,4,false, "", "",32⟩,⟨"Stack",28,5,false, "", "",40⟩],[.int .i64 0,.int .i64 0,.int .i64 0,.int .i64 0,.int .i64 0,.slice none 0 0]⟩:=by kernel_rfl
theorem ty26:Ql6 Tryz.prog 26=some ⟨1,24,.slice 3,[.slice none 0 0]⟩:=by kernel_rfl
theorem ty28:Ql6 Tryz.prog 28=some ⟨1,24,.slice 132,[.slice none 0 0]⟩:=by kernel_rfl
theorem ty156:Ql6 Tryz.prog 156=some ⟨4,32,.struct #[⟨"Code",3,0,false, "", "",0⟩,⟨"A",3,1,false, "", "",8⟩,⟨"B",3,2,false, "", "",16⟩,⟨"V",132,3,false, "", "",24⟩],[.int .i64 0,.int .i64 0,.int .i64 0,.float .f64 0]⟩:=by kernel_rfl
theorem ty41:Ql6 Tryz.prog 41=some ⟨1,24,.slice 60,[.slice none 0 0]⟩:=by kernel_rfl
theorem ty42:Ql6 Tryz.prog 42=some ⟨1,24,.slice 70,[.slice none 0 0]⟩:=by kernel_rfl
theorem ty24:Ql6 Tryz.prog 24=some ⟨4,48,.struct #[⟨"Cells",3,0,false, "", "",0⟩,⟨"Locks",3,1,false, "", "",8⟩,⟨"Conds",3,2,false, "", "",16⟩,⟨"Routines",22,3,false, "", "",24⟩],[.int .i64 0,.int .i64 0,.int .i64 0,.slice none 0 0]⟩:=by kernel_rfl
theorem ty22:Ql6 Tryz.prog 22=some ⟨1,24,.slice 151,[.slice none 0 0]⟩:=by kernel_rfl
theorem ty37:Ql6 Tryz.prog 37=some ⟨1,24,.slice 154,[.slice none 0 0]⟩:=by kernel_rfl
theorem ty25:Ql6 Tryz.prog 25=some ⟨1,24,.slice 161,[.slice none 0 0]⟩:=by kernel_rfl
theorem Qqo:Ql6 Tryz.prog 132=some ⟨1,8,.float .f64,[.float .f64 0]⟩:=by kernel_rfl
theorem ty27:Ql6 Tryz.prog 27=some ⟨1,24,.slice 198,[.slice none 0 0]⟩:=by kernel_rfl
theorem ty32:Ql6 Tryz.prog 32=some ⟨7,136,.struct #[⟨"Code",3,0,false, "", "",0⟩,⟨"Trace",25,1,false, "", "",8⟩,⟨"Picks",26,2,false, "", "",32⟩,⟨"End",30,3,false, "", "",56⟩],[.int .i64 0,.slice none 0 0,.slice none 0 0,.slice none 0 0,.slice none 0 0,.slice none 0 0,.int .i64 0]⟩:=by kernel_rfl
theorem ty30:Ql6 Tryz.prog 30=some ⟨4,80,.struct #[⟨"Threads",27,0,false, "", "",0⟩,⟨"Cells",28,1,false, "", "",24⟩,⟨"Owner",26,2,false, "", "",48⟩,⟨"Fault",3,3,false, "", "",72⟩],[.slice none 0 0,.slice none 0 0,.slice none 0 0,.int .i64 0]⟩:=by kernel_rfl
theorem ty154:Ql6 Tryz.prog 154=some ⟨1,24,.slice 156,[.slice none 0 0]⟩:=by kernel_rfl
theorem ty55:Ql6 Tryz.prog 55=some ⟨1,24,.slice 5,[.slice none 0 0]⟩:=by kernel_rfl
theorem ty117:Ql6 Tryz.prog 117=some ⟨3,40,.struct #[⟨"code",55,0,false, "", "loop.example/g00696/spec",0⟩,⟨"at",3,1,false, "", "loop.example/g00696/spec",24⟩,⟨"seed",115,2,false, "", "loop.example/g00696/spec",32⟩],[.slice none 0 0,.int .i64 0,.int .u64 0]⟩:=by kernel_rfl
theorem ty115:Ql6 Tryz.prog 115=some ⟨1,8,.int .u64,[.int .u64 0]⟩:=by kernel_rfl
theorem Xpl:Ql6 Tryz.prog 198=some ⟨6,64,.struct #[⟨"Routine",3,0,false, "", "",0⟩,⟨"Pc",3,1,false, "", "",8⟩,⟨"State",3,2,false, "", "",16⟩,⟨"Cond",3,3,false, "", "",24⟩,⟨"Lock",3,4,false, "", "",32⟩,⟨"Stack",28,5,false, "", "",40⟩],[.int .i64 0,.int .i64 0,.int .i64 0,.int .i64 0,.int .i64 0,.slice none 0 0]⟩:=by kernel_rfl
theorem Xns:Ql6 Tryz.prog 161=some ⟨5,40,.struct #[⟨"Thread",3,0,false, "", "",0⟩,⟨"Kind",3,1,false, "", "",8⟩,⟨"Obj",3,2,false, "", "",16⟩,⟨"Lock",3,3,false, "", "",24⟩,⟨"Pc",3,4,false, "", "",32⟩],[.int .i64 0,.int .i64 0,.int .i64 0,.int .i64 0,.int .i64 0]⟩:=by kernel_rfl
theorem Xo5:Ql6 Tryz.prog 200=some ⟨4,32,.struct #[⟨"Code",3,0,false, "", "",0⟩,⟨"A",3,1,false, "", "",8⟩,⟨"B",3,2,false, "", "",16⟩,⟨"V",132,3,false, "", "",24⟩],[.int .i64 0,.int .i64 0,.int .i64 0,.float .f64 0]⟩:=by kernel_rfl
theorem ty204:Ql6 Tryz.prog 204=some ⟨1,8,.int .u64,[.int .u64 0]⟩:=by kernel_rfl
theorem Xob:Ql6 Tryz.prog 151=some ⟨1,24,.slice 200,[.slice none 0 0]⟩:=by kernel_rfl
theorem Xbu:TOK Tryz.prog Θ:=⟨ty3,ty4,ty5,ty44,ty60,ty39,ty46,ty9,ty70,ty26,ty28,ty156,ty41,ty42,ty24,ty22,ty37,ty25,Qqo,ty27,ty32,ty30,ty154,ty55,ty117,ty115,Xpl,Xns,Xo5,ty204,Xob,trivial⟩
theorem Xe2:Tryz.prog.follows .mixedOrders=true:=by kernel_rfl
structure GOp where
 Code:Int
 A:Int
 B:Int
 V:Nat
 deriving DecidableEq
structure Qaf where
 Cells:Int
 Locks:Int
 Conds:Int
 Routines:(List (List GOp))
 deriving DecidableEq
structure Qaa where
 Thread:Int
 Kind:Int
 Obj:Int
 Lock:Int
 Pc:Int
 deriving DecidableEq
structure Qa0 where
 Routine:Int
 Pc:Int
 State:Int
 Cond:Int
 Lock:Int
 Stack:(List Nat)
 deriving DecidableEq
structure Qa1 where
 Threads:(List Qa0)
 Cells:(List Nat)
 Owner:(List Int)
 Fault:Int
 deriving DecidableEq
structure Qbi where
 Code:Int
 Trace:(List Qaa)
 Picks:(List Int)
 End:Qa1
 deriving DecidableEq
def Xac (x:GOp) : Prop:=((Lit.int .i64 x.Code).wf=true)∧((Lit.int .i64 x.A).wf=true)∧((Lit.int .i64 x.B).wf=true)∧(x.V<18446744073709551616)
def Qqk (x:Qaf) : Prop:=((Lit.int .i64 x.Cells).wf=true)∧((Lit.int .i64 x.Locks).wf=true)∧((Lit.int .i64 x.Conds).wf=true)∧(x.Routines.length≤9223372036854775807∧∀ y0∈x.Routines,y0.length≤9223372036854775807∧∀ y1∈y0,Xac y1)
def Qyv (x:Qaa) : Prop:=((Lit.int .i64 x.Thread).wf=true)∧((Lit.int .i64 x.Kind).wf=true)∧((Lit.int .i64 x.Obj).wf=true)∧((Lit.int .i64 x.Lock).wf=true)∧((Lit.int .i64 x.Pc).wf=true)
def Qp7 (x:Qa0) : Prop:=((Lit.int .i64 x.Routine).wf=true)∧((Lit.int .i64 x.Pc).wf=true)∧((Lit.int .i64 x.State).wf=true)∧((Lit.int .i64 x.Cond).wf=true)∧((Lit.int .i64 x.Lock).wf=true)∧(x.Stack.length≤9223372036854775807∧∀ y0∈x.Stack,y0<18446744073709551616)
def Qtw (x:Qa1) : Prop:=(x.Threads.length≤9223372036854775807∧∀ y0∈x.Threads,Qp7 y0)∧(x.Cells.length≤9223372036854775807∧∀ y0∈x.Cells,y0<18446744073709551616)∧(x.Owner.length≤9223372036854775807∧∀ y0∈x.Owner,(Lit.int .i64 y0).wf=true)∧((Lit.int .i64 x.Fault).wf=true)
def Qzk (x:Qbi) : Prop:=((Lit.int .i64 x.Code).wf=true)∧(x.Trace.length≤9223372036854775807∧∀ y0∈x.Trace,Qyv y0)∧(x.Picks.length≤9223372036854775807∧∀ y0∈x.Picks,(Lit.int .i64 y0).wf=true)∧(Qtw x.End)
def o3 (x:Int) : List AV:=[I x]
def k3 (x:Int) : AV:=I x
theorem t3 : ∀ x,Qcy (o3 x)=true:=(fun _=>rfl)
theorem z3 : ∀ x,Qjr (o3 x)=o3 x:=(fun _=>rfl)
theorem n3 : ∀ x,Qbm (o3 x)=true:=(fun _=>rfl)
theorem pa3 : ∀ x,(o3 x).all AV.plain=true:=(fun _=>rfl)
def Qae (x:Nat) : List AV:=[FK x]
theorem Qbs : ∀ x,Qcy (Qae x)=true:=(fun _=>rfl)
theorem Qqn : ∀ x,Qjr (Qae x)=Qae x:=(fun _=>rfl)
theorem Qe7 : ∀ x,Qbm (Qae x)=true:=(fun _=>rfl)
theorem Qkp : ∀ x,(Qae x).all AV.plain=true:=(fun _=>rfl)
def Qw6 (x:GOp) : List AV:=[I x.Code,I x.A,I x.B,FK x.V]
def o151 (x:(List GOp)) : List AV:=[AV.own 200 4 (x.map Qw6)]
def Qss (x:(List GOp)) : List AV:=[AV.ro 4 (x.map Qw6)]
def r22 (x:(List (List GOp))) : List AV:=[AV.ro 1 (x.map Qss)]
def o24 (x:Qaf) : List AV:=[I x.Cells,I x.Locks,I x.Conds,AV.own 151 1 (x.Routines.map o151)]
def r24 (x:Qaf) : List AV:=[I x.Cells,I x.Locks,I x.Conds,AV.ro 1 (x.Routines.map Qss)]
theorem t24 : ∀ x,Qcy (o24 x)=true:=fun _=>rfl
def Qvf (x:Qaa) : List AV:=[I x.Thread,I x.Kind,I x.Obj,I x.Lock,I x.Pc]
def r25 (x:(List Qaa)) : List AV:=[AV.ro 5 (x.map Qvf)]
def r26 (x:(List Int)) : List AV:=[AV.ro 1 (x.map o3)]
def r28 (x:(List Nat)) : List AV:=[AV.ro 1 (x.map Qae)]
def o198 (x:Qa0) : List AV:=[I x.Routine,I x.Pc,I x.State,I x.Cond,I x.Lock,AV.own 132 1 (x.Stack.map Qae)]
def Qpv (x:Qa0) : List AV:=[I x.Routine,I x.Pc,I x.State,I x.Cond,I x.Lock,AV.ro 1 (x.Stack.map Qae)]
def r27 (x:(List Qa0)) : List AV:=[AV.ro 6 (x.map Qpv)]
def r30 (x:Qa1) : List AV:=[AV.ro 6 (x.Threads.map Qpv),AV.ro 1 (x.Cells.map Qae),AV.ro 1 (x.Owner.map o3),I x.Fault]
def o32 (x:Qbi) : List AV:=[I x.Code,AV.own 161 5 (x.Trace.map Qvf),AV.own 3 1 (x.Picks.map o3),AV.own 198 6 (x.End.Threads.map o198),AV.own 132 1 (x.End.Cells.map Qae),AV.own 3 1 (x.End.Owner.map o3),I x.End.Fault]
def r32 (x:Qbi) : List AV:=[I x.Code,AV.ro 5 (x.Trace.map Qvf),AV.ro 1 (x.Picks.map o3),AV.ro 6 (x.End.Threads.map Qpv),AV.ro 1 (x.End.Cells.map Qae),AV.ro 1 (x.End.Owner.map o3),I x.End.Fault]
theorem t32 : ∀ x,Qcy (o32 x)=true:=fun _=>rfl
def k4 (x:Bool) : AV:=B x
def Qbj (x:GOp) : List AV:=[I x.Code,I x.A,I x.B,FK x.V]
theorem t156 : ∀ x,Qcy (Qbj x)=true:=(fun _=>rfl)
theorem z156 : ∀ x,Qjr (Qbj x)=Qbj x:=(fun _=>rfl)
theorem n156 : ∀ x,Qbm (Qbj x)=true:=(fun _=>rfl)
def Qth (x:(List GOp)) : List AV:=[AV.own 156 4 (x.map Qbj)]
def Qho (x:(List GOp)) : List AV:=[AV.ro 4 (x.map Qbj)]
theorem Xje : ∀ x,Qcy (Qth x)=true:=fun _=>rfl
theorem z154 : ∀ x,Qjr (Qth x)=Qho x:=fun x=>by simp only [Qth,Qho,Qjr,frz,Qrd z156]
theorem Xnb : ∀ x,Qbm (Qth x)=true:=fun x=>by simp only [Qth,Qbm,Qc2,Qa9 n156,Bool.and_self]
def o39 (x:Qaf) : List AV:=[I x.Cells,I x.Locks,I x.Conds,AV.own 154 1 (x.Routines.map Qth)]
def r39 (x:Qaf) : List AV:=[I x.Cells,I x.Locks,I x.Conds,AV.ro 1 (x.Routines.map Qho)]
theorem t39 : ∀ x,Qcy (o39 x)=true:=fun _=>rfl
def o60 (x:Qaa) : List AV:=[I x.Thread,I x.Kind,I x.Obj,I x.Lock,I x.Pc]
theorem t60 : ∀ x,Qcy (o60 x)=true:=(fun _=>rfl)
theorem z60 : ∀ x,Qjr (o60 x)=o60 x:=(fun _=>rfl)
theorem n60 : ∀ x,Qbm (o60 x)=true:=(fun _=>rfl)
theorem pa60 : ∀ x,(o60 x).all AV.plain=true:=(fun _=>rfl)
def o70 (x:Qa0) : List AV:=[I x.Routine,I x.Pc,I x.State,I x.Cond,I x.Lock,AV.own 132 1 (x.Stack.map Qae)]
def r70 (x:Qa0) : List AV:=[I x.Routine,I x.Pc,I x.State,I x.Cond,I x.Lock,AV.ro 1 (x.Stack.map Qae)]
theorem tr70 : ∀ x,Qcy (r70 x)=true:=fun _=>rfl
theorem par70 : ∀ x,(r70 x).all AV.plain=true:=fun _=>rfl
theorem t70 : ∀ x,Qcy (o70 x)=true:=fun _=>rfl
theorem z70 : ∀ x,Qjr (o70 x)=r70 x:=fun x=>by simp only [o70,r70,Qjr,frz,Qrd Qqn]
theorem n70 : ∀ x,Qbm (o70 x)=true:=fun x=>by simp only [o70,Qbm,Qc2,Qa9 Qe7,Bool.and_self]
def o44 (x:Qa1) : List AV:=[AV.own 70 6 (x.Threads.map o70),AV.own 132 1 (x.Cells.map Qae),AV.own 3 1 (x.Owner.map o3),I x.Fault]
def r44 (x:Qa1) : List AV:=[AV.ro 6 (x.Threads.map r70),AV.ro 1 (x.Cells.map Qae),AV.ro 1 (x.Owner.map o3),I x.Fault]
theorem t44 : ∀ x,Qcy (o44 x)=true:=fun _=>rfl
theorem z44 : ∀ x,Qjr (o44 x)=r44 x:=fun x=>by simp only [o44,r44,Qjr,frz,Qrd z3,Qrd z70,Qrd Qqn]
theorem n44 : ∀ x,Qbm (o44 x)=true:=fun x=>by simp only [o44,Qbm,Qc2,Qa9 n3,Qa9 n70,Qa9 Qe7,Bool.and_self]
def o46 (x:Qbi) : List AV:=[I x.Code,AV.own 60 5 (x.Trace.map o60),AV.own 3 1 (x.Picks.map o3),AV.own 70 6 (x.End.Threads.map o70),AV.own 132 1 (x.End.Cells.map Qae),AV.own 3 1 (x.End.Owner.map o3),I x.End.Fault]
def r46 (x:Qbi) : List AV:=[I x.Code,AV.ro 5 (x.Trace.map o60),AV.ro 1 (x.Picks.map o3),AV.ro 6 (x.End.Threads.map r70),AV.ro 1 (x.End.Cells.map Qae),AV.ro 1 (x.End.Owner.map o3),I x.End.Fault]
theorem t46 : ∀ x,Qcy (o46 x)=true:=fun _=>rfl
theorem z46 : ∀ x,Qjr (o46 x)=r46 x:=fun x=>by simp only [o46,r46,Qjr,frz,Qrd z3,Qrd z60,Qrd z70,Qrd Qqn]
def o5 (x:Int) : List AV:=[IK .u8 x]
theorem n5 : ∀ x,Qbm (o5 x)=true:=(fun _=>rfl)
theorem Xpr (x y:Qaa) : Qgd Tryz.prog .neq 60 (.agg (o60 x)) (.agg (o60 y)) (B (!(decide (x=y)))):=neS Xbu ty60 (by kernel_rfl) (by kernel_rfl) (us:=[.int .i64 x.Thread,.int .i64 x.Kind,.int .i64 x.Obj,.int .i64 x.Lock,.int .i64 x.Pc]) (vs:=[.int .i64 y.Thread,.int .i64 y.Kind,.int .i64 y.Obj,.int .i64 y.Lock,.int .i64 y.Pc]) (r:=((x.Thread == y.Thread) && ((x.Kind == y.Kind) && ((x.Obj == y.Obj) && ((x.Lock == y.Lock) && ((x.Pc == y.Pc) && true)))))) (by kernel_rfl) (by rw [Bool.eq_iff_iff];cases x;cases y;simp)
theorem Qa7 : ∀ {p q:List Prop},Qam p→Qam q→Qam (p++q)
 | [],_,_,h=>h
 | _ :: _,_,h,k=>⟨h.1,Qa7 h.2 k⟩
theorem gR {E:Env} {K:KF} (hP:E.pk=PK.mk Tryz.prog K) {n:Nat} (hn:E.n=n) {body:Code} {rv:List ResultVar} {ks:List Bool} {rs:List Qas} {pt:List Bool} {s:St} {res:AV} (hs:List Hn) (rh:List H) (ph:PH) (ps:List Prop) (hp:Qam ps) (h:Xg7 Θ (PK.mk Tryz.prog K) n body rv ks rs pt s hs rh ph res=some ps:=by kernel_rfl) : WAt E body (FQ (Qdj Θ rv ks rs res E)) pt s:=
 go_ret (by rw [pkP hP];exact Xbu) (by rw [pkP hP];exact Xe2) hP hn h hp
theorem gT {E:Env} {K:KF} (hP:E.pk=PK.mk Tryz.prog K) {n:Nat} (hn:E.n=n) {body:Code} {fr:List Nat} (hfx : ∀ p,p∈E.fx→p.1∈fr) {R:St→Prop} {pt tgt:List Bool} {s s':St} (hs:List Hn) (π:List (Nat×Nat)) (ts kp:List Nat) (ps:List Prop) (hp:Qam ps) (hk:WAt E body (FQ R) tgt s') (h:Xmj Θ (PK.mk Tryz.prog K) n body fr pt tgt s hs π ts kp=some (s',ps):=by kernel_rfl) : WAt E body (FQ R) pt s:=
 go_to (by rw [pkP hP];exact Xbu) (by rw [pkP hP];exact Xe2) hfx hP hn h hp hk
def FX (E:Env) (l:List Nat) : Prop:=∀ p,p∈E.fx→p.1∈l
theorem gM {f:FuncId} {fn:Func} (hf:Tryz.prog.funcs[f]? = some fn) (n:Nat) (c:Code) {args:List AV} {res:AV} (h : ∀ E:Env,E.pk=pk0 Tryz.prog→E.n=n→FX E []→WAt E c (FQ (Qdj Θ fn.results.toList [] [] res E)) [] (Xat args)) (hq:args.length≤fn.ntmps:=by exact Nat.le_of_ble_eq_true rfl) (hname:(fn.name == "runtime.NumGoroutine")=false:=by exact rfl) (hb:fn.body=some c:=by kernel_rfl) (hn:fn.ntmps=n:=by exact rfl) : Qa4 Tryz.prog f args res:=
 Xgb Xbu hf hname hb hq fun E a b c=>h E a (b.trans hn) c
theorem lnq {a b:Nat} (h:a=b:=by first | exact lnSet _ | exact Xo3 _ | exact apLn _ (by assumption) | simp +zetaDelta only [List.length_map,List.length_set,List.length_cons,List.length_nil]) : a=b:=h
theorem leB {a b:Nat} (h:Nat.ble a b=true:=by exact rfl) : a≤b:=Nat.le_of_ble_eq_true h
theorem Qn5 {α β:Type} {l:List α} {i:Int} (f : α→β) {y : α} {ys : β} (h:ys=f y:=by kernel_rfl) : (l.map f).set i.toNat ys=(l.set i.toNat y).map f:=setMr f h
theorem Qhf {α β:Type} {l:List α} {i:Int} (f : α→β) {x y : α} {ys : β} (h:ys=f y:=by kernel_rfl) : ((l.set i.toNat x).map f).set i.toNat ys=(l.set i.toNat y).map f:=setSS f h
theorem sj {α:Type} {a b : α} (h:some a=some b) : a=b:=Option.some.inj h
def nS:AV:=AV.lit (.slice none 0 0)
def hh (k:Nat) (h:H) : Hn:=⟨k,h,none⟩
def hT (k:Nat) : Hn:=⟨k,.br true,none⟩
def hF (k:Nat) : Hn:=⟨k,.br false,none⟩
def hW (k i:Nat) : Hn:=⟨k,.new i,none⟩
def hO (k:Nat) (x:AV) : Hn:=⟨k,.no,some x⟩
end Go.Proofs.YtemmdkcpcjidmaaGreat
