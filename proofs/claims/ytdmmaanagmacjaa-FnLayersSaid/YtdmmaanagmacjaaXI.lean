/- Plain facts for FnLayers; no condition. -/

import Derived.Test.YtdmmaanagmacjaaGC
import Derived.Test.YtdmmaanagmacjaaBN
set_option linter.unusedVariables false
namespace Go.Proofs.Ytdmmaanagmacjaa
open Go Go.T
def Qyn (a b:Nat) : Bool:=(Qme a && Qme b) || a == b
noncomputable def Qqa (p1:Nat) (p2:Nat) : Option Bool:=
 some (Qyn p1 p2)
noncomputable def Qda (p1:Qa9) (p2:Qa2) : Option (GOp×Bool):=
 Option.bind (rd p1.Routines p2.Routine) fun x3 =>
 if (decide (p2.Pc<(x3.length:Int)))=true then
  Option.bind (rd x3 p2.Pc) fun x5 =>
  some (x5,true)
 else
  some ((GOp.mk 0 0 0 0),false)
noncomputable def Qvo (p1:Nat) : Option Nat:=
 Option.bind (Xh3 p1) fun q2 =>
 some (Int.toNat (Xg8 .u64 ((p1:Nat) : Int) 9223372036854775808))
noncomputable def Qgv (p1:Nat) : Option Bool:=
 Option.bind (Qvo p1) fun r2 =>
 some ((Qd9 r2 9218868437227405311) == some .gt)
noncomputable def Qgq (p1:Nat) : Option Bool:=
 some ((Qd9 p1 p1) != some .eq)
noncomputable def Qmg (p1:Nat) : Option Nat:=
 Option.bind (Xh3 p1) fun q2 =>
 some (fTr p1)
noncomputable def Qcf (p1:Nat) : Option Int:=
 Option.bind (Qgq p1) fun r2 =>
 if r2=true then
  some 0
 else
  Option.bind (Qgv p1) fun r5 =>
  if r5=true then
   some 1
  else
   if ((Qd9 p1 0) == some .eq)=true then
    some 2
   else
    Option.bind (Qmg p1) fun r10 =>
    if ((Qd9 p1 r10) == some .eq)=true then
     some 3
    else
     some 4
noncomputable def Qgs (p1:Nat) (p2:Int) : Option (Int×Bool):=
 Option.bind (Qcf p1) fun r3 =>
 Option.bind (Qi8 p2 1 1000) fun r4 =>
 if (!r4)=true then
  some (0,false)
 else
  if (r3 != 2)=true then
   if (r3 != 3)=true then
    some (0,false)
   else
    if ((Qd9 p1 0) == some .lt)=true then
     some (0,false)
    else
     if ((Qd9 p1 (fOf p2)) == some .gt || (Qd9 p1 (fOf p2)) == some .eq)=true then
      some (0,false)
     else
      Option.bind (fTo p1) fun x14 =>
      some (x14,true)
  else
   if ((Qd9 p1 0) == some .lt)=true then
    some (0,false)
   else
    if ((Qd9 p1 (fOf p2)) == some .gt || (Qd9 p1 (fOf p2)) == some .eq)=true then
     some (0,false)
    else
     Option.bind (fTo p1) fun x20 =>
     some (x20,true)
noncomputable def Qcq (p1:Qa3) (p2:Qa2) : Option (Int×Bool):=
 if ((p2.Stack.length:Int) == 0)=true then
  some (0,false)
 else
  Option.bind (rd p2.Stack (w64 ((p2.Stack.length:Int) - 1))) fun x5 =>
  Option.bind (Qgs x5 (p1.Threads.length:Int)) fun r6 =>
  some (r6.1,r6.2)
noncomputable def Qj8  (p1:Qa3) (r8:(GOp×Bool))  : Option (Int×Bool):=
 Option.bind (rd p1.Owner r8.1.A) fun x11 =>
 some (x11,(decide (x11 ≥ 0)))
noncomputable def Qf3  (p1:Qa3) (p3:Qa2)  : Option (Int×Bool):=
 Option.bind (Qcq p1 p3) fun r15 =>
 if r15.2=true then
  Option.bind (rd p1.Threads r15.1) fun x17 =>
  some (r15.1,(x17.State != 2))
 else
  some (r15.1,false)
noncomputable def Qc7  (p1:Qa3) (p3:Qa2) (r8:(GOp×Bool))  : Option (Int×Bool):=
 if r8.2=true then
  if (r8.1.Code == 15)=true then
   Qf3 p1 p3
  else
   some (0,false)
 else
  some (0,false)
noncomputable def Qi6 (p1:Qa3) (p2:Qa9) (p3:Qa2) : Option (Int×Bool):=
 if (p3.State == 4)=true then
  Option.bind (rd p1.Owner p3.Lock) fun x5 =>
  some (x5,(decide (x5 ≥ 0)))
 else
  if (p3.State == 1)=true then
   Option.bind (Qda p2 p3) fun r8 =>
   if r8.2=true then
    if (r8.1.Code == 12)=true then
     Qj8 p1 r8
    else
     Qc7 p1 p3 r8
   else
    Qc7 p1 p3 r8
  else
   some (0,false)
noncomputable def Qbc  (p1:Qa3) : Nat→Qa9→(List Int)→Int→Option (List Int)
 | 0,_,_,_=>none
 | n+1,a3,a4,v5 =>
 if (decide (v5<(p1.Threads.length:Int)))=true then
  Option.bind (rd p1.Threads v5) fun x7 =>
  Option.bind (Qi6 p1 a3 x7) fun r8 =>
  if (p1.Fault == 0)=true then
   if (!r8.2)=true then
    if (x7.State == 1)=true then
     Option.bind (app a4 [v5]) fun l12 =>
     Qbc p1 n a3 l12 (w64 (v5+1))
    else
     if (x7.State == 4)=true then
      Option.bind (app a4 [v5]) fun l15 =>
      Qbc p1 n a3 l15 (w64 (v5+1))
     else
      Qbc p1 n a3 a4 (w64 (v5+1))
   else
    Qbc p1 n a3 a4 (w64 (v5+1))
  else
   Qbc p1 n a3 a4 (w64 (v5+1))
 else
  some a4
noncomputable def Qfl (p1:Qa3) (p2:Qa9) : Option (List Int):=
 Qbc p1 FU p2 [] 0
noncomputable def Qfd  (p1:(List Qa2))  : Option (List Qa2):=
  Xjf p1 (
    some []) (
    Option.bind (app [] p1) fun l2 =>
    some l2)
noncomputable def Qdv (p1:(List Qa2)) : Option (List Qa2):=
 Qfd p1
noncomputable def Qet  (p1:(List Nat))  : Option (List Nat):=
  Xjf p1 (
    some []) (
    Option.bind (app [] p1) fun l2 =>
    some l2)
noncomputable def Qbk (p1:(List Nat)) : Option (List Nat):=
 Qet p1
noncomputable def Qgy  (p1:(List Int))  : Option (List Int):=
  Xjf p1 (
    some []) (
    Option.bind (app [] p1) fun l2 =>
    some l2)
noncomputable def Qg6 (p1:(List Int)) : Option (List Int):=
 Qgy p1
noncomputable def Qek  (r4:(List Qa2)) : Nat→Qa3→(List Qa2)→(List Nat)→(List Int)→Int→Int→Option Qa3
 | 0,_,_,_,_,_,_=>none
 | n+1,a5,a6,a7,a8,a9,v10 =>
 if (decide (v10<(r4.length:Int)))=true then
  Option.bind (rd r4 v10) fun x12 =>
  Option.bind (Xe2 a6 v10) fun q13 =>
  Option.bind (app [] x12.Stack) fun l14 =>
  Option.bind (nx1 v10) fun q15 =>
  Qek r4 n a5 (a6++[(Qa2.mk x12.Routine x12.Pc x12.State x12.Cond x12.Lock l14)]) a7 a8 a9 (w64 (v10+1))
 else
  Option.bind (Xht r4 v10) fun q17 =>
  some (Qa3.mk a6 a7 a8 a9)
noncomputable def Qh8 (p1:Qa3) : Option Qa3:=
 Option.bind (Qbk p1.Cells) fun r2 =>
 Option.bind (Qg6 p1.Owner) fun r3 =>
 Option.bind (Qdv p1.Threads) fun r4 =>
 Qek r4 FU (Qa3.mk [] [] [] 0) [] r2 r3 p1.Fault 0
noncomputable def Qd5   (v11:Bool) : Option (Int×Int):=
 if v11=true then
  some (2,1)
 else
  some (0,0)
noncomputable def Qgc  (p1:GOp) (v7:Bool) : Option (Int×Int):=
 if v7=true then
  some (1,0)
 else
  if (p1.Code == 4)=true then
   Qd5 (p1.Code == 4)
  else
   if (p1.Code == 5)=true then
    Qd5 (p1.Code == 5)
   else
    if (p1.Code == 6)=true then
     Qd5 (p1.Code == 6)
    else
     if (p1.Code == 7)=true then
      Qd5 (p1.Code == 7)
     else
      if (p1.Code == 8)=true then
       Qd5 (p1.Code == 8)
      else
       Qd5 (p1.Code == 9)
noncomputable def Qgd  (p1:GOp) (v3:Bool) : Option (Int×Int):=
 if v3=true then
  some (0,1)
 else
  if (p1.Code == 3)=true then
   Qgc p1 (p1.Code == 3)
  else
   if (p1.Code == 11)=true then
    Qgc p1 (p1.Code == 11)
   else
    Qgc p1 (p1.Code == 15)
noncomputable def Qik (p1:GOp) : Option (Int×Int):=
 if (p1.Code == 1)=true then
  Qgd p1 (p1.Code == 1)
 else
  if (p1.Code == 2)=true then
   Qgd p1 (p1.Code == 2)
  else
   Qgd p1 (p1.Code == 14)
noncomputable def Qs0 (p1:Nat) : Option Bool:=
 Option.bind (Qcf p1) fun r2 =>
 if (r2 == 0)=true then
  some true
 else
  some (r2 == 2)
noncomputable def Qhl (p1:Int) : Option Qa2:=
 some (Qa2.mk p1 0 1 (-1) (-1) [])
noncomputable def Qfp (p1:Bool) : Option Int:=
 if p1=true then
  some 1
 else
  some 0
noncomputable def Qnl (p1:Int) (p2:Nat) (p3:Nat) : Option Nat:=
 if (p1 == 4)=true then
  some (fad p2 p3)
 else
  if (p1 == 5)=true then
   some (fsb p2 p3)
  else
   if (p1 == 6)=true then
    some (fml p2 p3)
   else
    if (p1 == 7)=true then
     some (fdv p2 p3)
    else
     if (p1 == 8)=true then
      Option.bind (Qfp ((Qd9 p2 p3) == some .lt)) fun r13 =>
      some (fOf r13)
     else
      Option.bind (Qqa p2 p3) fun r15 =>
      Option.bind (Qfp r15) fun r16 =>
      some (fOf r16)
noncomputable def Qj7 (p1:Qa2) (p2:GOp) : Option Bool:=
 if (p1.State == 3)=true then
  some (p1.Cond == p2.A)
 else
  some false
noncomputable def Qam  (p1:(List Qa2)) (p2:GOp) : Nat→Int→Option Int
 | 0,_=>none
 | n+1,v3 =>
 if (decide (v3<(p1.length:Int)))=true then
  Option.bind (rd p1 v3) fun x5 =>
  Option.bind (Qj7 x5 p2) fun r6 =>
  if r6=true then
   some v3
  else
   Qam p1 p2 n (w64 (v3+1))
 else
  some (-1)
noncomputable def Qb9 (p1:(List Qa2)) (p2:GOp) : Option Int:=
 Qam p1 p2 FU 0
noncomputable def Qar (p1:Qa3) (p2:Int) (p3:GOp) (p4:Qa5) : Option (Qa5×Qa3):=
 Option.bind (rd p1.Threads p2) fun x5 =>
 Option.bind (Qik p3) fun r6 =>
 Option.bind (slc x5.Stack (w64 ((x5.Stack.length:Int) - r6.1)) (x5.Stack.length:Int)) fun l7 =>
 Option.bind (Qbk l7) fun r8 =>
 Option.bind (slc x5.Stack 0 (w64 ((x5.Stack.length:Int) - r6.1))) fun l9 =>
 if (p3.Code == 1)=true then
  Option.bind (app l9 [p3.V]) fun l11 =>
  some (p4,(Qa3.mk (((p1.Threads.set (Int.toNat p2) (Qa2.mk x5.Routine x5.Pc x5.State x5.Cond x5.Lock l9)).set (Int.toNat p2) (Qa2.mk x5.Routine (w64 (x5.Pc+1)) x5.State x5.Cond x5.Lock l9)).set (Int.toNat p2) (Qa2.mk x5.Routine (w64 (x5.Pc+1)) x5.State x5.Cond x5.Lock l11)) p1.Cells p1.Owner p1.Fault))
 else
  if (p3.Code == 2)=true then
   Option.bind (rd p1.Cells p3.A) fun x14 =>
   Option.bind (app l9 [x14]) fun l15 =>
   some ((Qa5.mk p4.Thread 2 p3.A p4.Lock p4.Pc),(Qa3.mk (((p1.Threads.set (Int.toNat p2) (Qa2.mk x5.Routine x5.Pc x5.State x5.Cond x5.Lock l9)).set (Int.toNat p2) (Qa2.mk x5.Routine (w64 (x5.Pc+1)) x5.State x5.Cond x5.Lock l9)).set (Int.toNat p2) (Qa2.mk x5.Routine (w64 (x5.Pc+1)) x5.State x5.Cond x5.Lock l15)) p1.Cells p1.Owner p1.Fault))
  else
   if (p3.Code == 3)=true then
    Option.bind (rd r8 0) fun x18 =>
    Option.bind (rd p1.Cells p3.A) fun x19 =>
    some ((Qa5.mk p4.Thread 3 p3.A p4.Lock p4.Pc),(Qa3.mk ((p1.Threads.set (Int.toNat p2) (Qa2.mk x5.Routine x5.Pc x5.State x5.Cond x5.Lock l9)).set (Int.toNat p2) (Qa2.mk x5.Routine (w64 (x5.Pc+1)) x5.State x5.Cond x5.Lock l9)) (p1.Cells.set (Int.toNat p3.A) x18) p1.Owner p1.Fault))
   else
    if (p3.Code == 10)=true then
     some (p4,(Qa3.mk ((p1.Threads.set (Int.toNat p2) (Qa2.mk x5.Routine x5.Pc x5.State x5.Cond x5.Lock l9)).set (Int.toNat p2) (Qa2.mk x5.Routine p3.A x5.State x5.Cond x5.Lock l9)) p1.Cells p1.Owner p1.Fault))
    else
     if (p3.Code == 11)=true then
      Option.bind (rd r8 0) fun x24 =>
      Option.bind (Qs0 x24) fun r33 =>
      if r33=true then
       some (p4,(Qa3.mk ((p1.Threads.set (Int.toNat p2) (Qa2.mk x5.Routine x5.Pc x5.State x5.Cond x5.Lock l9)).set (Int.toNat p2) (Qa2.mk x5.Routine p3.A x5.State x5.Cond x5.Lock l9)) p1.Cells p1.Owner p1.Fault))
      else
       some (p4,(Qa3.mk ((p1.Threads.set (Int.toNat p2) (Qa2.mk x5.Routine x5.Pc x5.State x5.Cond x5.Lock l9)).set (Int.toNat p2) (Qa2.mk x5.Routine (w64 (x5.Pc+1)) x5.State x5.Cond x5.Lock l9)) p1.Cells p1.Owner p1.Fault))
     else
      if (p3.Code == 12)=true then
       Option.bind (rd p1.Owner p3.A) fun x38 =>
       some ((Qa5.mk p4.Thread 4 p3.A p4.Lock p4.Pc),(Qa3.mk ((p1.Threads.set (Int.toNat p2) (Qa2.mk x5.Routine x5.Pc x5.State x5.Cond x5.Lock l9)).set (Int.toNat p2) (Qa2.mk x5.Routine (w64 (x5.Pc+1)) x5.State x5.Cond x5.Lock l9)) p1.Cells (p1.Owner.set (Int.toNat p3.A) p2) p1.Fault))
      else
       if (p3.Code == 13)=true then
        Option.bind (rd p1.Owner p3.A) fun x41 =>
        some ((Qa5.mk p4.Thread 5 p3.A p4.Lock p4.Pc),(Qa3.mk ((p1.Threads.set (Int.toNat p2) (Qa2.mk x5.Routine x5.Pc x5.State x5.Cond x5.Lock l9)).set (Int.toNat p2) (Qa2.mk x5.Routine (w64 (x5.Pc+1)) x5.State x5.Cond x5.Lock l9)) p1.Cells (p1.Owner.set (Int.toNat p3.A) (-1)) p1.Fault))
       else
        if (p3.Code == 14)=true then
         Option.bind (app l9 [(fOf (((p1.Threads.set (Int.toNat p2) (Qa2.mk x5.Routine x5.Pc x5.State x5.Cond x5.Lock l9)).set (Int.toNat p2) (Qa2.mk x5.Routine (w64 (x5.Pc+1)) x5.State x5.Cond x5.Lock l9)).length:Int))]) fun l44 =>
         Option.bind (Qhl p3.A) fun r47 =>
         Option.bind (app (((p1.Threads.set (Int.toNat p2) (Qa2.mk x5.Routine x5.Pc x5.State x5.Cond x5.Lock l9)).set (Int.toNat p2) (Qa2.mk x5.Routine (w64 (x5.Pc+1)) x5.State x5.Cond x5.Lock l9)).set (Int.toNat p2) (Qa2.mk x5.Routine (w64 (x5.Pc+1)) x5.State x5.Cond x5.Lock l44)) [(Qa2.mk r47.Routine r47.Pc r47.State r47.Cond r47.Lock r47.Stack)]) fun l48 =>
         some ((Qa5.mk p4.Thread 6 (((p1.Threads.set (Int.toNat p2) (Qa2.mk x5.Routine x5.Pc x5.State x5.Cond x5.Lock l9)).set (Int.toNat p2) (Qa2.mk x5.Routine (w64 (x5.Pc+1)) x5.State x5.Cond x5.Lock l9)).length:Int) p4.Lock p4.Pc),(Qa3.mk l48 p1.Cells p1.Owner p1.Fault))
        else
         if (p3.Code == 15)=true then
          Option.bind (rd r8 0) fun x51 =>
          Option.bind (Qgs x51 (((p1.Threads.set (Int.toNat p2) (Qa2.mk x5.Routine x5.Pc x5.State x5.Cond x5.Lock l9)).set (Int.toNat p2) (Qa2.mk x5.Routine (w64 (x5.Pc+1)) x5.State x5.Cond x5.Lock l9)).length:Int)) fun r52 =>
          some ((Qa5.mk p4.Thread 7 r52.1 p4.Lock p4.Pc),(Qa3.mk ((p1.Threads.set (Int.toNat p2) (Qa2.mk x5.Routine x5.Pc x5.State x5.Cond x5.Lock l9)).set (Int.toNat p2) (Qa2.mk x5.Routine (w64 (x5.Pc+1)) x5.State x5.Cond x5.Lock l9)) p1.Cells p1.Owner p1.Fault))
         else
          if (p3.Code == 16)=true then
           Option.bind (rd p1.Owner p3.B) fun x55 =>
           some ((Qa5.mk p4.Thread 8 p3.A p3.B p4.Pc),(Qa3.mk ((p1.Threads.set (Int.toNat p2) (Qa2.mk x5.Routine x5.Pc x5.State x5.Cond x5.Lock l9)).set (Int.toNat p2) (Qa2.mk x5.Routine (w64 ((w64 (x5.Pc+1)) - 1)) 3 p3.A p3.B l9)) p1.Cells (p1.Owner.set (Int.toNat p3.B) (-1)) p1.Fault))
          else
           if (p3.Code == 17)=true then
            Option.bind (Qb9 ((p1.Threads.set (Int.toNat p2) (Qa2.mk x5.Routine x5.Pc x5.State x5.Cond x5.Lock l9)).set (Int.toNat p2) (Qa2.mk x5.Routine (w64 (x5.Pc+1)) x5.State x5.Cond x5.Lock l9)) p3) fun r58 =>
            if (decide (r58 ≥ 0))=true then
             Option.bind (rd ((p1.Threads.set (Int.toNat p2) (Qa2.mk x5.Routine x5.Pc x5.State x5.Cond x5.Lock l9)).set (Int.toNat p2) (Qa2.mk x5.Routine (w64 (x5.Pc+1)) x5.State x5.Cond x5.Lock l9)) r58) fun x60 =>
             some ((Qa5.mk p4.Thread 10 p3.A r58 p4.Pc),(Qa3.mk (((p1.Threads.set (Int.toNat p2) (Qa2.mk x5.Routine x5.Pc x5.State x5.Cond x5.Lock l9)).set (Int.toNat p2) (Qa2.mk x5.Routine (w64 (x5.Pc+1)) x5.State x5.Cond x5.Lock l9)).set (Int.toNat r58) (Qa2.mk x60.Routine x60.Pc 4 x60.Cond x60.Lock x60.Stack)) p1.Cells p1.Owner p1.Fault))
            else
             some ((Qa5.mk p4.Thread 10 p3.A r58 p4.Pc),(Qa3.mk ((p1.Threads.set (Int.toNat p2) (Qa2.mk x5.Routine x5.Pc x5.State x5.Cond x5.Lock l9)).set (Int.toNat p2) (Qa2.mk x5.Routine (w64 (x5.Pc+1)) x5.State x5.Cond x5.Lock l9)) p1.Cells p1.Owner p1.Fault))
           else
            Option.bind (rd r8 0) fun x63 =>
            Option.bind (rd r8 1) fun x64 =>
            Option.bind (Qnl p3.Code x63 x64) fun r65 =>
            Option.bind (app l9 [r65]) fun l66 =>
            some (p4,(Qa3.mk (((p1.Threads.set (Int.toNat p2) (Qa2.mk x5.Routine x5.Pc x5.State x5.Cond x5.Lock l9)).set (Int.toNat p2) (Qa2.mk x5.Routine (w64 (x5.Pc+1)) x5.State x5.Cond x5.Lock l9)).set (Int.toNat p2) (Qa2.mk x5.Routine (w64 (x5.Pc+1)) x5.State x5.Cond x5.Lock l66)) p1.Cells p1.Owner p1.Fault))
noncomputable def Qfo  (p1:Qa3) (p2:Int) (p3:GOp) (x4:Qa2)  : Option Int:=
 if (p3.Code == 13)=true then
  Option.bind (rd p1.Owner p3.A) fun x11 =>
  if (x11 != p2)=true then
   some 2
  else
   some 0
 else
  if (p3.Code == 16)=true then
   Option.bind (rd p1.Owner p3.B) fun x16 =>
   if (x16 != p2)=true then
    some 2
   else
    some 0
  else
   if (p3.Code == 15)=true then
    Option.bind (Qcq p1 x4) fun r21 =>
    if (!r21.2)=true then
     some 3
    else
     some 0
   else
    if (p3.Code == 14)=true then
     if ((p1.Threads.length:Int) == 5)=true then
      some 4
     else
      some 0
    else
     some 0
noncomputable def Qe9 (p1:Qa3) (p2:Int) (p3:GOp) : Option Int:=
 Option.bind (rd p1.Threads p2) fun x4 =>
 Option.bind (Qik p3) fun r5 =>
 if (decide ((x4.Stack.length:Int)<r5.1))=true then
  some 1
 else
  if (decide ((w64 ((w64 ((x4.Stack.length:Int) - r5.1))+r5.2)) > 8))=true then
   some 1
  else
   Qfo p1 p2 p3 x4
noncomputable def Qdr (p1:Qa3) (p2:Qa9) (p3:Int) : Option (Qa5×Qa3):=
 Option.bind (rd p1.Threads p3) fun x4 =>
 Option.bind (Qda p2 (Qa2.mk x4.Routine x4.Pc x4.State x4.Cond x4.Lock x4.Stack)) fun r5 =>
 if (x4.State == 4)=true then
  Option.bind (rd p1.Owner x4.Lock) fun x7 =>
  Option.bind (Qfp r5.2) fun r8 =>
  some ((Qa5.mk p3 9 x4.Cond x4.Lock x4.Pc),(Qa3.mk (p1.Threads.set (Int.toNat p3) (Qa2.mk x4.Routine (w64 (x4.Pc+r8)) 1 (-1) (-1) x4.Stack)) p1.Cells (p1.Owner.set (Int.toNat x4.Lock) p3) p1.Fault))
 else
  if (!r5.2)=true then
   some ((Qa5.mk p3 11 (-1) (-1) x4.Pc),(Qa3.mk (p1.Threads.set (Int.toNat p3) (Qa2.mk x4.Routine x4.Pc 2 x4.Cond x4.Lock x4.Stack)) p1.Cells p1.Owner p1.Fault))
  else
   Option.bind (Qe9 (Qa3.mk p1.Threads p1.Cells p1.Owner p1.Fault) p3 r5.1) fun r12 =>
   if (r12 != 0)=true then
    some ((Qa5.mk p3 12 r12 (-1) x4.Pc),(Qa3.mk p1.Threads p1.Cells p1.Owner r12))
   else
    Option.bind (Qar (Qa3.mk p1.Threads p1.Cells p1.Owner p1.Fault) p3 r5.1 (Qa5.mk p3 1 (-1) (-1) x4.Pc)) fun r15 =>
    some (r15.1,r15.2)
noncomputable def Qop (p1:Qa2) : Option Bool:=
 some (p1.State != 2)
noncomputable def Qav  (p1:(List Qa2)) : Nat→Int→Option Int
 | 0,_=>none
 | n+1,v2 =>
 if (decide (v2<(p1.length:Int)))=true then
  Option.bind (rd p1 v2) fun x4 =>
  Option.bind (Qop x4) fun r5 =>
  if r5=true then
   some v2
  else
   Qav p1 n (w64 (v2+1))
 else
  some (-1)
noncomputable def Qc9 (p1:(List Qa2)) : Option Int:=
 Qav p1 FU 0
noncomputable def Qb8 (p1:(List Qa2)) : Option Bool:=
 Option.bind (Qc9 p1) fun r2 =>
 some (decide (r2 ≥ 0))
noncomputable def Qnc (p1:Qa9) (p2:Qa3) (p3:(List Int)) (p4:Int) (p5:Int) : Option Int:=
 if (p2.Fault != 0)=true then
  some 2
 else
  if ((p3.length:Int) == 0)=true then
   Option.bind (Qb8 p2.Threads) fun r9 =>
   if r9=true then
    some 3
   else
    some 1
  else
   if (p4 == p5)=true then
    some 4
   else
    some 0
noncomputable def Qj5 (p1:(List Int)) (p2:Int) (p3:(List Int)) : Option Int:=
 if (decide (p2 ≥ (p3.length:Int)))=true then
  some 0
 else
  Option.bind (rd p3 p2) fun x6 =>
  Option.bind (nz (p1.length:Int)) fun q7 =>
  some (Int.tmod x6 (p1.length:Int))
noncomputable def Qh0  (l4:(List Int)) : Nat→Qa3→Qa3→Int→Option Qa3
 | 0,_,_,_=>none
 | n+1,a5,a6,v7 =>
 if (decide (v7<(l4.length:Int)))=true then
  Option.bind (rd a6.Owner v7) fun x9 =>
  Qh0 l4 n a5 (Qa3.mk a6.Threads a6.Cells (a6.Owner.set (Int.toNat v7) (-1)) a6.Fault) (w64 (v7+1))
 else
  some (Qa3.mk a6.Threads a6.Cells a6.Owner a6.Fault)
noncomputable def Qk3 (p1:Qa9) : Option Qa3:=
 Option.bind (Qhl 0) fun r2 =>
 Option.bind (mk 0 p1.Cells) fun l3 =>
 Option.bind (mk 0 p1.Locks) fun l4 =>
 Qh0 l4 FU (Qa3.mk [] [] [] 0) (Qa3.mk [(Qa2.mk r2.Routine r2.Pc r2.State r2.Cond r2.Lock r2.Stack)] l3 l4 0) 0
noncomputable def Qca  (p2:Int) (p3:(List Int)) : Nat→Qa9→Qgp→Qgp→Int→Option (Qgp×Bool)
 | 0,_,_,_,_=>none
 | n+1,a5,a6,a7,v8 =>
 Option.bind (Qfl a7.End a5) fun r9 =>
 Option.bind (Qnc a5 a7.End r9 v8 p2) fun r10 =>
 if (r10 != 0)=true then
  Option.bind (Qh8 (Qa3.mk a7.End.Threads a7.End.Cells a7.End.Owner a7.End.Fault)) fun r12 =>
  some ((Qgp.mk r10 a7.Trace a7.Picks (Qa3.mk r12.Threads r12.Cells r12.Owner r12.Fault)),true)
 else
  Option.bind (Qj5 r9 v8 p3) fun r14 =>
  if (decide (r14<0))=true then
   some ((Qgp.mk 0 [] [] (Qa3.mk [] [] [] 0)),false)
  else
   Option.bind (app a7.Picks [r14]) fun l17 =>
   Option.bind (rd r9 r14) fun x18 =>
   Option.bind (Qdr a7.End a5 x18) fun r19 =>
   Option.bind (app a7.Trace [r19.1]) fun l20 =>
   Qca p2 p3 n a5 a6 (Qgp.mk r10 l20 l17 r19.2) (w64 (v8+1))
noncomputable def Qga (p1:Qa9) (p2:Int) (p3:(List Int)) : Option (Qgp×Bool):=
 Option.bind (Qk3 p1) fun r4 =>
 Qca p2 p3 FU p1 (Qgp.mk 0 [] [] (Qa3.mk [] [] [] 0)) (Qgp.mk 0 [] [] (Qa3.mk r4.Threads r4.Cells r4.Owner r4.Fault)) 0
noncomputable def Qnz (p1:Qa9) (p2:(List Int)) (p3:Int) : Option Qgp:=
 Option.bind (Qga p1 p3 p2) fun r4 =>
 some (Qgp.mk r4.1.Code r4.1.Trace r4.1.Picks (Qa3.mk r4.1.End.Threads r4.1.End.Cells r4.1.End.Owner r4.1.End.Fault))
end Go.Proofs.Ytdmmaanagmacjaa
