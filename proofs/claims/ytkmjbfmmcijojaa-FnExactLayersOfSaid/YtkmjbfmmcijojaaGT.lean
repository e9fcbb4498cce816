/- The types of this seat, as plain data and in memory; no condition. -/

import Derived.Test.YtkmjbfmmcijojaaProg
import Derived.Test.YtkmjbfmmcijojaaBG
set_option linter.unusedVariables false
namespace Go.Proofs.Ytkmjbfmmcijojaa
open Go Go.T
def Θ : Tys := [(3, ⟨1, 8, .int .i64, [.int .i64 0]⟩),
  (4, ⟨1, 1, .bool, [.bool false]⟩),
  (47, ⟨5, 40, .struct #[⟨"Thread", 3, 0, false, "", "", 0⟩, ⟨"Kind", 3, 1, false, "", "", 8⟩, ⟨"Obj", 3, 2, false, "", "", 16⟩, ⟨"Lock", 3, 3, false, "", "", 24⟩, ⟨"Pc", 3, 4, false, "", "", 32⟩], [.int .i64 0, .int .i64 0, .int .i64 0, .int .i64 0, .int .i64 0]⟩),
  (27, ⟨1, 24, .slice 47, [.slice none 0 0]⟩),
  (56, ⟨1, 24, .slice 3, [.slice none 0 0]⟩),
  (24, ⟨1, 24, .slice 52, [.slice none 0 0]⟩),
  (22, ⟨1, 24, .slice 49, [.slice none 0 0]⟩),
  (34, ⟨1, 24, .slice 56, [.slice none 0 0]⟩),
  (39, ⟨1, 24, .slice 71, [.slice none 0 0]⟩),
  (66, ⟨4, 32, .array 4 64, [.int .u64 0, .int .u64 0, .int .u64 0, .int .u64 0]⟩),
  (52, ⟨3, 24, .struct #[⟨"Cell", 3, 0, false, "", "", 0⟩, ⟨"First", 3, 1, false, "", "", 8⟩, ⟨"Second", 3, 2, false, "", "", 16⟩], [.int .i64 0, .int .i64 0, .int .i64 0]⟩),
  (71, ⟨4, 32, .struct #[⟨"Had", 3, 0, false, "", "", 0⟩, ⟨"Taken", 3, 1, false, "", "", 8⟩, ⟨"Thread", 3, 2, false, "", "", 16⟩, ⟨"At", 3, 3, false, "", "", 24⟩], [.int .i64 0, .int .i64 0, .int .i64 0, .int .i64 0]⟩),
  (60, ⟨1, 24, .slice 4, [.slice none 0 0]⟩),
  (49, ⟨5, 40, .struct #[⟨"Thread", 3, 0, false, "", "", 0⟩, ⟨"Kind", 3, 1, false, "", "", 8⟩, ⟨"Obj", 3, 2, false, "", "", 16⟩, ⟨"Lock", 3, 3, false, "", "", 24⟩, ⟨"Pc", 3, 4, false, "", "", 32⟩], [.int .i64 0, .int .i64 0, .int .i64 0, .int .i64 0, .int .i64 0]⟩),
  (64, ⟨1, 8, .int .u64, [.int .u64 0]⟩),
  (58, ⟨1, 24, .slice 60, [.slice none 0 0]⟩),
  (77, ⟨100, 100, .array 100 4, List.replicate 100 (.bool false)⟩),
  (62, ⟨1, 24, .slice 66, [.slice none 0 0]⟩),
  (76, ⟨100, 2400, .array 100 56, List.replicate 100 (.slice none 0 0)⟩)]
theorem ty3 : tiOf Try.prog 3 = some ⟨1, 8, .int .i64, [.int .i64 0]⟩ := by kernel_rfl
theorem ty4 : tiOf Try.prog 4 = some ⟨1, 1, .bool, [.bool false]⟩ := by kernel_rfl
theorem ty47 : tiOf Try.prog 47 = some ⟨5, 40, .struct #[⟨"Thread", 3, 0, false, "", "", 0⟩, ⟨"Kind", 3, 1, false, "", "", 8⟩, ⟨"Obj", 3, 2, false, "", "", 16⟩, ⟨"Lock", 3, 3, false, "", "", 24⟩, ⟨"Pc", 3, 4, false, "", "", 32⟩], [.int .i64 0, .int .i64 0, .int .i64 0, .int .i64 0, .int .i64 0]⟩ := by kernel_rfl
theorem ty27 : tiOf Try.prog 27 = some ⟨1, 24, .slice 47, [.slice none 0 0]⟩ := by kernel_rfl
theorem ty56 : tiOf Try.prog 56 = some ⟨1, 24, .slice 3, [.slice none 0 0]⟩ := by kernel_rfl
theorem ty24 : tiOf Try.prog 24 = some ⟨1, 24, .slice 52, [.slice none 0 0]⟩ := by kernel_rfl
theorem ty22 : tiOf Try.prog 22 = some ⟨1, 24, .slice 49, [.slice none 0 0]⟩ := by kernel_rfl
theorem ty34 : tiOf Try.prog 34 = some ⟨1, 24, .slice 56, [.slice none 0 0]⟩ := by kernel_rfl
theorem ty39 : tiOf Try.prog 39 = some ⟨1, 24, .slice 71, [.slice none 0 0]⟩ := by kernel_rfl
theorem ty66 : tiOf Try.prog 66 = some ⟨4, 32, .array 4 64, [.int .u64 0, .int .u64 0, .int .u64 0, .int .u64 0]⟩ := by kernel_rfl
theorem ty52 : tiOf Try.prog 52 = some ⟨3, 24, .struct #[⟨"Cell", 3, 0, false, "", "", 0⟩, ⟨"First", 3, 1, false, "", "", 8⟩, ⟨"Second", 3, 2, false, "", "", 16⟩], [.int .i64 0, .int .i64 0, .int .i64 0]⟩ := by kernel_rfl
theorem ty71 : tiOf Try.prog 71 = some ⟨4, 32, .struct #[⟨"Had", 3, 0, false, "", "", 0⟩, ⟨"Taken", 3, 1, false, "", "", 8⟩, ⟨"Thread", 3, 2, false, "", "", 16⟩, ⟨"At", 3, 3, false, "", "", 24⟩], [.int .i64 0, .int .i64 0, .int .i64 0, .int .i64 0]⟩ := by kernel_rfl
theorem ty60 : tiOf Try.prog 60 = some ⟨1, 24, .slice 4, [.slice none 0 0]⟩ := by kernel_rfl
theorem ty49 : tiOf Try.prog 49 = some ⟨5, 40, .struct #[⟨"Thread", 3, 0, false, "", "", 0⟩, ⟨"Kind", 3, 1, false, "", "", 8⟩, ⟨"Obj", 3, 2, false, "", "", 16⟩, ⟨"Lock", 3, 3, false, "", "", 24⟩, ⟨"Pc", 3, 4, false, "", "", 32⟩], [.int .i64 0, .int .i64 0, .int .i64 0, .int .i64 0, .int .i64 0]⟩ := by kernel_rfl
theorem ty64 : tiOf Try.prog 64 = some ⟨1, 8, .int .u64, [.int .u64 0]⟩ := by kernel_rfl
theorem ty58 : tiOf Try.prog 58 = some ⟨1, 24, .slice 60, [.slice none 0 0]⟩ := by kernel_rfl
theorem ty77 : tiOf Try.prog 77 = some ⟨100, 100, .array 100 4, List.replicate 100 (.bool false)⟩ := by kernel_rfl
theorem ty62 : tiOf Try.prog 62 = some ⟨1, 24, .slice 66, [.slice none 0 0]⟩ := by kernel_rfl
theorem ty76 : tiOf Try.prog 76 = some ⟨100, 2400, .array 100 56, List.replicate 100 (.slice none 0 0)⟩ := by kernel_rfl
theorem Θ_ok : TOK Try.prog Θ := ⟨ty3, ty4, ty47, ty27, ty56, ty24, ty22, ty34, ty39, ty66, ty52, ty71, ty60, ty49, ty64, ty58, ty77, ty62, ty76, trivial⟩
theorem mixed : Try.prog.follows .mixedOrders = true := by kernel_rfl
structure GEvent where
  Thread : Int
  Kind : Int
  Obj : Int
  Lock : Int
  Pc : Int
  deriving DecidableEq
structure GRace where
  Cell : Int
  First : Int
  Second : Int
  deriving DecidableEq
structure GUnder where
  Had : Int
  Taken : Int
  Thread : Int
  At : Int
  deriving DecidableEq
def wfGEvent (x : GEvent) : Prop := ((Lit.int .i64 x.Thread).wf = true) ∧ ((Lit.int .i64 x.Kind).wf = true) ∧ ((Lit.int .i64 x.Obj).wf = true) ∧ ((Lit.int .i64 x.Lock).wf = true) ∧ ((Lit.int .i64 x.Pc).wf = true)
def wfGRace (x : GRace) : Prop := ((Lit.int .i64 x.Cell).wf = true) ∧ ((Lit.int .i64 x.First).wf = true) ∧ ((Lit.int .i64 x.Second).wf = true)
def wfGUnder (x : GUnder) : Prop := ((Lit.int .i64 x.Had).wf = true) ∧ ((Lit.int .i64 x.Taken).wf = true) ∧ ((Lit.int .i64 x.Thread).wf = true) ∧ ((Lit.int .i64 x.At).wf = true)
def o3 (x : Int) : List AV := [I x]
def k3 (x : Int) : AV := I x
theorem t3 : ∀ x, treeL (o3 x) = true := (fun _ => rfl)
theorem z3 : ∀ x, frzL (o3 x) = o3 x := (fun _ => rfl)
theorem n3 : ∀ x, noRoL (o3 x) = true := (fun _ => rfl)
theorem p3 : ∀ x, (o3 x).all AV.plain = true := (fun _ => rfl)
def o49 (x : GEvent) : List AV := [I x.Thread, I x.Kind, I x.Obj, I x.Lock, I x.Pc]
theorem t49 : ∀ x, treeL (o49 x) = true := (fun _ => rfl)
theorem z49 : ∀ x, frzL (o49 x) = o49 x := (fun _ => rfl)
theorem n49 : ∀ x, noRoL (o49 x) = true := (fun _ => rfl)
theorem p49 : ∀ x, (o49 x).all AV.plain = true := (fun _ => rfl)
def o22 (x : (List GEvent)) : List AV := [AV.own 49 5 (x.map o49)]
def r22 (x : (List GEvent)) : List AV := [AV.ro 5 (x.map o49)]
theorem t22 : ∀ x, treeL (o22 x) = true := fun _ => rfl
theorem z22 : ∀ x, frzL (o22 x) = r22 x := fun x => by simp only [o22, r22, frzL, frz, frzLLm z49]
theorem n22 : ∀ x, noRoL (o22 x) = true := fun x => by simp only [o22, noRoL, noRo, noRoM n49, Bool.and_self]
def o4 (x : Bool) : List AV := [B x]
def k4 (x : Bool) : AV := B x
theorem t4 : ∀ x, treeL (o4 x) = true := (fun _ => rfl)
theorem z4 : ∀ x, frzL (o4 x) = o4 x := (fun _ => rfl)
theorem n4 : ∀ x, noRoL (o4 x) = true := (fun _ => rfl)
theorem p4 : ∀ x, (o4 x).all AV.plain = true := (fun _ => rfl)
def o47 (x : GEvent) : List AV := [I x.Thread, I x.Kind, I x.Obj, I x.Lock, I x.Pc]
theorem t47 : ∀ x, treeL (o47 x) = true := (fun _ => rfl)
theorem z47 : ∀ x, frzL (o47 x) = o47 x := (fun _ => rfl)
theorem n47 : ∀ x, noRoL (o47 x) = true := (fun _ => rfl)
theorem p47 : ∀ x, (o47 x).all AV.plain = true := (fun _ => rfl)
def o27 (x : (List GEvent)) : List AV := [AV.own 47 5 (x.map o47)]
def r27 (x : (List GEvent)) : List AV := [AV.ro 5 (x.map o47)]
theorem t27 : ∀ x, treeL (o27 x) = true := fun _ => rfl
theorem z27 : ∀ x, frzL (o27 x) = r27 x := fun x => by simp only [o27, r27, frzL, frz, frzLLm z47]
theorem n27 : ∀ x, noRoL (o27 x) = true := fun x => by simp only [o27, noRoL, noRo, noRoM n47, Bool.and_self]
def o52 (x : GRace) : List AV := [I x.Cell, I x.First, I x.Second]
theorem t52 : ∀ x, treeL (o52 x) = true := (fun _ => rfl)
theorem z52 : ∀ x, frzL (o52 x) = o52 x := (fun _ => rfl)
theorem n52 : ∀ x, noRoL (o52 x) = true := (fun _ => rfl)
theorem p52 : ∀ x, (o52 x).all AV.plain = true := (fun _ => rfl)
def o24 (x : (List GRace)) : List AV := [AV.own 52 3 (x.map o52)]
def r24 (x : (List GRace)) : List AV := [AV.ro 3 (x.map o52)]
theorem t24 : ∀ x, treeL (o24 x) = true := fun _ => rfl
theorem z24 : ∀ x, frzL (o24 x) = r24 x := fun x => by simp only [o24, r24, frzL, frz, frzLLm z52]
theorem n24 : ∀ x, noRoL (o24 x) = true := fun x => by simp only [o24, noRoL, noRo, noRoM n52, Bool.and_self]
def o60 (x : (List Bool)) : List AV := [AV.own 4 1 (x.map o4)]
def r60 (x : (List Bool)) : List AV := [AV.ro 1 (x.map o4)]
theorem t60 : ∀ x, treeL (o60 x) = true := fun _ => rfl
theorem z60 : ∀ x, frzL (o60 x) = r60 x := fun x => by simp only [o60, r60, frzL, frz, frzLLm z4]
theorem n60 : ∀ x, noRoL (o60 x) = true := fun x => by simp only [o60, noRoL, noRo, noRoM n4, Bool.and_self]
def o58 (x : (List (List Bool))) : List AV := [AV.own 60 1 (x.map o60)]
def r58 (x : (List (List Bool))) : List AV := [AV.ro 1 (x.map r60)]
theorem t58 : ∀ x, treeL (o58 x) = true := fun _ => rfl
theorem z58 : ∀ x, frzL (o58 x) = r58 x := fun x => by simp only [o58, r58, frzL, frz, frzLLm z60]
theorem n58 : ∀ x, noRoL (o58 x) = true := fun x => by simp only [o58, noRoL, noRo, noRoM n60, Bool.and_self]
def o64 (x : Int) : List AV := [IK .u64 x]
def k64 (x : Int) : AV := IK .u64 x
theorem t64 : ∀ x, treeL (o64 x) = true := (fun _ => rfl)
theorem z64 : ∀ x, frzL (o64 x) = o64 x := (fun _ => rfl)
theorem n64 : ∀ x, noRoL (o64 x) = true := (fun _ => rfl)
theorem p64 : ∀ x, (o64 x).all AV.plain = true := (fun _ => rfl)
def o66 (x : (Vector Int 4)) : List AV := (x.toList.map k64)
theorem t66 : ∀ x, treeL (o66 x) = true := fun x => vecTree k64 (fun _ => rfl)
theorem z66 : ∀ x, frzL (o66 x) = o66 x := fun x => vecFrz k64 (fun _ => rfl)
theorem n66 : ∀ x, noRoL (o66 x) = true := fun x => vecNoRo k64 (fun _ => rfl)
theorem p66 : ∀ x, (o66 x).all AV.plain = true := fun x => vecAll k64 (fun _ => rfl)
def o62 (x : (List (Vector Int 4))) : List AV := [AV.own 66 4 (x.map o66)]
def r62 (x : (List (Vector Int 4))) : List AV := [AV.ro 4 (x.map o66)]
theorem t62 : ∀ x, treeL (o62 x) = true := fun _ => rfl
theorem z62 : ∀ x, frzL (o62 x) = r62 x := fun x => by simp only [o62, r62, frzL, frz, frzLLm z66]
theorem n62 : ∀ x, noRoL (o62 x) = true := fun x => by simp only [o62, noRoL, noRo, noRoM n66, Bool.and_self]
def o56 (x : (List Int)) : List AV := [AV.own 3 1 (x.map o3)]
def r56 (x : (List Int)) : List AV := [AV.ro 1 (x.map o3)]
theorem t56 : ∀ x, treeL (o56 x) = true := fun _ => rfl
theorem z56 : ∀ x, frzL (o56 x) = r56 x := fun x => by simp only [o56, r56, frzL, frz, frzLLm z3]
theorem n56 : ∀ x, noRoL (o56 x) = true := fun x => by simp only [o56, noRoL, noRo, noRoM n3, Bool.and_self]
def o34 (x : (List (List Int))) : List AV := [AV.own 56 1 (x.map o56)]
def r34 (x : (List (List Int))) : List AV := [AV.ro 1 (x.map r56)]
theorem t34 : ∀ x, treeL (o34 x) = true := fun _ => rfl
theorem z34 : ∀ x, frzL (o34 x) = r34 x := fun x => by simp only [o34, r34, frzL, frz, frzLLm z56]
theorem n34 : ∀ x, noRoL (o34 x) = true := fun x => by simp only [o34, noRoL, noRo, noRoM n56, Bool.and_self]
def o71 (x : GUnder) : List AV := [I x.Had, I x.Taken, I x.Thread, I x.At]
theorem t71 : ∀ x, treeL (o71 x) = true := (fun _ => rfl)
theorem z71 : ∀ x, frzL (o71 x) = o71 x := (fun _ => rfl)
theorem n71 : ∀ x, noRoL (o71 x) = true := (fun _ => rfl)
theorem p71 : ∀ x, (o71 x).all AV.plain = true := (fun _ => rfl)
def o39 (x : (List GUnder)) : List AV := [AV.own 71 4 (x.map o71)]
def r39 (x : (List GUnder)) : List AV := [AV.ro 4 (x.map o71)]
theorem t39 : ∀ x, treeL (o39 x) = true := fun _ => rfl
theorem z39 : ∀ x, frzL (o39 x) = r39 x := fun x => by simp only [o39, r39, frzL, frz, frzLLm z71]
theorem n39 : ∀ x, noRoL (o39 x) = true := fun x => by simp only [o39, noRoL, noRo, noRoM n71, Bool.and_self]
def o77 (x : (Vector Bool 100)) : List AV := (x.toList.map k4)
theorem t77 : ∀ x, treeL (o77 x) = true := fun x => vecTree k4 (fun _ => rfl)
theorem z77 : ∀ x, frzL (o77 x) = o77 x := fun x => vecFrz k4 (fun _ => rfl)
theorem n77 : ∀ x, noRoL (o77 x) = true := fun x => vecNoRo k4 (fun _ => rfl)
theorem p77 : ∀ x, (o77 x).all AV.plain = true := fun x => vecAll k4 (fun _ => rfl)
def o76 (x : (Vector (List Int) 100)) : List AV := (x.toList.flatMap o56)
def r76 (x : (Vector (List Int) 100)) : List AV := (x.toList.flatMap r56)
end Go.Proofs.Ytkmjbfmmcijojaa
