/- The types of this seat, as plain data and in memory; no condition. -/

import Derived.Test.YtefcdjocfjpjgaaProg
import Derived.Test.YtefcdjocfjpjgaaBG
set_option linter.unusedVariables false
namespace Go.Proofs.Ytefcdjocfjpjgaa
open Go Go.T
def Θ : Tys := [(3, ⟨1, 8, .int .i64, [.int .i64 0]⟩),
  (4, ⟨1, 1, .bool, [.bool false]⟩),
  (81, ⟨5, 40, .struct #[⟨"Thread", 3, 0, false, "", "", 0⟩, ⟨"Kind", 3, 1, false, "", "", 8⟩, ⟨"Obj", 3, 2, false, "", "", 16⟩, ⟨"Lock", 3, 3, false, "", "", 24⟩, ⟨"Pc", 3, 4, false, "", "", 32⟩], [.int .i64 0, .int .i64 0, .int .i64 0, .int .i64 0, .int .i64 0]⟩),
  (9, ⟨1, 16, .string, [.string ⟨#[]⟩]⟩),
  (24, ⟨1, 24, .slice 68, [.slice none 0 0]⟩),
  (22, ⟨1, 24, .slice 66, [.slice none 0 0]⟩),
  (36, ⟨1, 24, .slice 81, [.slice none 0 0]⟩),
  (93, ⟨4, 32, .struct #[⟨"Code", 3, 0, false, "", "", 0⟩, ⟨"A", 3, 1, false, "", "", 8⟩, ⟨"B", 3, 2, false, "", "", 16⟩, ⟨"V", 69, 3, false, "", "", 24⟩], [.int .i64 0, .int .i64 0, .int .i64 0, .float .f64 0]⟩),
  (71, ⟨3, 24, .struct #[⟨"Kind", 3, 0, false, "", "", 0⟩, ⟨"Cell", 3, 1, false, "", "", 8⟩, ⟨"V", 69, 2, false, "", "", 16⟩], [.int .i64 0, .int .i64 0, .float .f64 0]⟩),
  (33, ⟨1, 24, .slice 3, [.slice none 0 0]⟩),
  (61, ⟨4, 48, .struct #[⟨"Cells", 3, 0, false, "", "", 0⟩, ⟨"Locks", 3, 1, false, "", "", 8⟩, ⟨"Conds", 3, 2, false, "", "", 16⟩, ⟨"Routines", 59, 3, false, "", "", 24⟩], [.int .i64 0, .int .i64 0, .int .i64 0, .slice none 0 0]⟩),
  (44, ⟨3, 24, .struct #[⟨"Cell", 3, 0, false, "", "", 0⟩, ⟨"First", 3, 1, false, "", "", 8⟩, ⟨"Second", 3, 2, false, "", "", 16⟩], [.int .i64 0, .int .i64 0, .int .i64 0]⟩),
  (69, ⟨1, 8, .float .f64, [.float .f64 0]⟩),
  (31, ⟨1, 24, .slice 83, [.slice none 0 0]⟩),
  (68, ⟨1, 24, .slice 71, [.slice none 0 0]⟩),
  (66, ⟨1, 24, .slice 102, [.slice none 0 0]⟩),
  (89, ⟨1, 24, .slice 4, [.slice none 0 0]⟩),
  (49, ⟨1, 24, .slice 33, [.slice none 0 0]⟩),
  (59, ⟨1, 24, .slice 91, [.slice none 0 0]⟩),
  (56, ⟨4, 48, .struct #[⟨"Cells", 3, 0, false, "", "", 0⟩, ⟨"Locks", 3, 1, false, "", "", 8⟩, ⟨"Conds", 3, 2, false, "", "", 16⟩, ⟨"Routines", 54, 3, false, "", "", 24⟩], [.int .i64 0, .int .i64 0, .int .i64 0, .slice none 0 0]⟩),
  (91, ⟨1, 24, .slice 93, [.slice none 0 0]⟩),
  (119, ⟨4, 32, .array 4 117, [.int .u64 0, .int .u64 0, .int .u64 0, .int .u64 0]⟩),
  (54, ⟨1, 24, .slice 122, [.slice none 0 0]⟩),
  (117, ⟨1, 8, .int .u64, [.int .u64 0]⟩),
  (87, ⟨1, 24, .slice 44, [.slice none 0 0]⟩),
  (83, ⟨5, 40, .struct #[⟨"Thread", 3, 0, false, "", "", 0⟩, ⟨"Kind", 3, 1, false, "", "", 8⟩, ⟨"Obj", 3, 2, false, "", "", 16⟩, ⟨"Lock", 3, 3, false, "", "", 24⟩, ⟨"Pc", 3, 4, false, "", "", 32⟩], [.int .i64 0, .int .i64 0, .int .i64 0, .int .i64 0, .int .i64 0]⟩),
  (111, ⟨100, 100, .array 100 4, List.replicate 100 (.bool false)⟩),
  (113, ⟨1, 24, .slice 89, [.slice none 0 0]⟩),
  (102, ⟨3, 24, .struct #[⟨"Kind", 3, 0, false, "", "", 0⟩, ⟨"Cell", 3, 1, false, "", "", 8⟩, ⟨"V", 69, 2, false, "", "", 16⟩], [.int .i64 0, .int .i64 0, .float .f64 0]⟩),
  (115, ⟨1, 24, .slice 119, [.slice none 0 0]⟩),
  (133, ⟨4, 32, .struct #[⟨"Code", 3, 0, false, "", "", 0⟩, ⟨"A", 3, 1, false, "", "", 8⟩, ⟨"B", 3, 2, false, "", "", 16⟩, ⟨"V", 69, 3, false, "", "", 24⟩], [.int .i64 0, .int .i64 0, .int .i64 0, .float .f64 0]⟩),
  (122, ⟨1, 24, .slice 133, [.slice none 0 0]⟩)]
theorem ty3 : tiOf Try.prog 3 = some ⟨1, 8, .int .i64, [.int .i64 0]⟩ := by kernel_rfl
theorem ty4 : tiOf Try.prog 4 = some ⟨1, 1, .bool, [.bool false]⟩ := by kernel_rfl
theorem ty81 : tiOf Try.prog 81 = some ⟨5, 40, .struct #[⟨"Thread", 3, 0, false, "", "", 0⟩, ⟨"Kind", 3, 1, false, "", "", 8⟩, ⟨"Obj", 3, 2, false, "", "", 16⟩, ⟨"Lock", 3, 3, false, "", "", 24⟩, ⟨"Pc", 3, 4, false, "", "", 32⟩], [.int .i64 0, .int .i64 0, .int .i64 0, .int .i64 0, .int .i64 0]⟩ := by kernel_rfl
theorem ty9 : tiOf Try.prog 9 = some ⟨1, 16, .string, [.string ⟨#[]⟩]⟩ := by kernel_rfl
theorem ty24 : tiOf Try.prog 24 = some ⟨1, 24, .slice 68, [.slice none 0 0]⟩ := by kernel_rfl
theorem ty22 : tiOf Try.prog 22 = some ⟨1, 24, .slice 66, [.slice none 0 0]⟩ := by kernel_rfl
theorem ty36 : tiOf Try.prog 36 = some ⟨1, 24, .slice 81, [.slice none 0 0]⟩ := by kernel_rfl
theorem ty93 : tiOf Try.prog 93 = some ⟨4, 32, .struct #[⟨"Code", 3, 0, false, "", "", 0⟩, ⟨"A", 3, 1, false, "", "", 8⟩, ⟨"B", 3, 2, false, "", "", 16⟩, ⟨"V", 69, 3, false, "", "", 24⟩], [.int .i64 0, .int .i64 0, .int .i64 0, .float .f64 0]⟩ := by kernel_rfl
theorem ty71 : tiOf Try.prog 71 = some ⟨3, 24, .struct #[⟨"Kind", 3, 0, false, "", "", 0⟩, ⟨"Cell", 3, 1, false, "", "", 8⟩, ⟨"V", 69, 2, false, "", "", 16⟩], [.int .i64 0, .int .i64 0, .float .f64 0]⟩ := by kernel_rfl
theorem ty33 : tiOf Try.prog 33 = some ⟨1, 24, .slice 3, [.slice none 0 0]⟩ := by kernel_rfl
theorem ty61 : tiOf Try.prog 61 = some ⟨4, 48, .struct #[⟨"Cells", 3, 0, false, "", "", 0⟩, ⟨"Locks", 3, 1, false, "", "", 8⟩, ⟨"Conds", 3, 2, false, "", "", 16⟩, ⟨"Routines", 59, 3, false, "", "", 24⟩], [.int .i64 0, .int .i64 0, .int .i64 0, .slice none 0 0]⟩ := by kernel_rfl
theorem ty44 : tiOf Try.prog 44 = some ⟨3, 24, .struct #[⟨"Cell", 3, 0, false, "", "", 0⟩, ⟨"First", 3, 1, false, "", "", 8⟩, ⟨"Second", 3, 2, false, "", "", 16⟩], [.int .i64 0, .int .i64 0, .int .i64 0]⟩ := by kernel_rfl
theorem ty69 : tiOf Try.prog 69 = some ⟨1, 8, .float .f64, [.float .f64 0]⟩ := by kernel_rfl
theorem ty31 : tiOf Try.prog 31 = some ⟨1, 24, .slice 83, [.slice none 0 0]⟩ := by kernel_rfl
theorem ty68 : tiOf Try.prog 68 = some ⟨1, 24, .slice 71, [.slice none 0 0]⟩ := by kernel_rfl
theorem ty66 : tiOf Try.prog 66 = some ⟨1, 24, .slice 102, [.slice none 0 0]⟩ := by kernel_rfl
theorem ty89 : tiOf Try.prog 89 = some ⟨1, 24, .slice 4, [.slice none 0 0]⟩ := by kernel_rfl
theorem ty49 : tiOf Try.prog 49 = some ⟨1, 24, .slice 33, [.slice none 0 0]⟩ := by kernel_rfl
theorem ty59 : tiOf Try.prog 59 = some ⟨1, 24, .slice 91, [.slice none 0 0]⟩ := by kernel_rfl
theorem ty56 : tiOf Try.prog 56 = some ⟨4, 48, .struct #[⟨"Cells", 3, 0, false, "", "", 0⟩, ⟨"Locks", 3, 1, false, "", "", 8⟩, ⟨"Conds", 3, 2, false, "", "", 16⟩, ⟨"Routines", 54, 3, false, "", "", 24⟩], [.int .i64 0, .int .i64 0, .int .i64 0, .slice none 0 0]⟩ := by kernel_rfl
theorem ty91 : tiOf Try.prog 91 = some ⟨1, 24, .slice 93, [.slice none 0 0]⟩ := by kernel_rfl
theorem ty119 : tiOf Try.prog 119 = some ⟨4, 32, .array 4 117, [.int .u64 0, .int .u64 0, .int .u64 0, .int .u64 0]⟩ := by kernel_rfl
theorem ty54 : tiOf Try.prog 54 = some ⟨1, 24, .slice 122, [.slice none 0 0]⟩ := by kernel_rfl
theorem ty117 : tiOf Try.prog 117 = some ⟨1, 8, .int .u64, [.int .u64 0]⟩ := by kernel_rfl
theorem ty87 : tiOf Try.prog 87 = some ⟨1, 24, .slice 44, [.slice none 0 0]⟩ := by kernel_rfl
theorem ty83 : tiOf Try.prog 83 = some ⟨5, 40, .struct #[⟨"Thread", 3, 0, false, "", "", 0⟩, ⟨"Kind", 3, 1, false, "", "", 8⟩, ⟨"Obj", 3, 2, false, "", "", 16⟩, ⟨"Lock", 3, 3, false, "", "", 24⟩, ⟨"Pc", 3, 4, false, "", "", 32⟩], [.int .i64 0, .int .i64 0, .int .i64 0, .int .i64 0, .int .i64 0]⟩ := by kernel_rfl
theorem ty111 : tiOf Try.prog 111 = some ⟨100, 100, .array 100 4, List.replicate 100 (.bool false)⟩ := by kernel_rfl
theorem ty113 : tiOf Try.prog 113 = some ⟨1, 24, .slice 89, [.slice none 0 0]⟩ := by kernel_rfl
theorem ty102 : tiOf Try.prog 102 = some ⟨3, 24, .struct #[⟨"Kind", 3, 0, false, "", "", 0⟩, ⟨"Cell", 3, 1, false, "", "", 8⟩, ⟨"V", 69, 2, false, "", "", 16⟩], [.int .i64 0, .int .i64 0, .float .f64 0]⟩ := by kernel_rfl
theorem ty115 : tiOf Try.prog 115 = some ⟨1, 24, .slice 119, [.slice none 0 0]⟩ := by kernel_rfl
theorem ty133 : tiOf Try.prog 133 = some ⟨4, 32, .struct #[⟨"Code", 3, 0, false, "", "", 0⟩, ⟨"A", 3, 1, false, "", "", 8⟩, ⟨"B", 3, 2, false, "", "", 16⟩, ⟨"V", 69, 3, false, "", "", 24⟩], [.int .i64 0, .int .i64 0, .int .i64 0, .float .f64 0]⟩ := by kernel_rfl
theorem ty122 : tiOf Try.prog 122 = some ⟨1, 24, .slice 133, [.slice none 0 0]⟩ := by kernel_rfl
theorem Θ_ok : TOK Try.prog Θ := ⟨ty3, ty4, ty81, ty9, ty24, ty22, ty36, ty93, ty71, ty33, ty61, ty44, ty69, ty31, ty68, ty66, ty89, ty49, ty59, ty56, ty91, ty119, ty54, ty117, ty87, ty83, ty111, ty113, ty102, ty115, ty133, ty122, trivial⟩
theorem mixed : Try.prog.follows .mixedOrders = true := by kernel_rfl
structure GAct where
  Kind : Int
  Cell : Int
  V : Nat
  deriving DecidableEq
structure GEvent where
  Thread : Int
  Kind : Int
  Obj : Int
  Lock : Int
  Pc : Int
  deriving DecidableEq
structure GRace where
  Cell : Int
  First : Int
  Second : Int
  deriving DecidableEq
structure GOp where
  Code : Int
  A : Int
  B : Int
  V : Nat
  deriving DecidableEq
structure GProg where
  Cells : Int
  Locks : Int
  Conds : Int
  Routines : (List (List GOp))
  deriving DecidableEq
def wfGAct (x : GAct) : Prop := ((Lit.int .i64 x.Kind).wf = true) ∧ ((Lit.int .i64 x.Cell).wf = true) ∧ (x.V < 18446744073709551616)
def wfGEvent (x : GEvent) : Prop := ((Lit.int .i64 x.Thread).wf = true) ∧ ((Lit.int .i64 x.Kind).wf = true) ∧ ((Lit.int .i64 x.Obj).wf = true) ∧ ((Lit.int .i64 x.Lock).wf = true) ∧ ((Lit.int .i64 x.Pc).wf = true)
def wfGRace (x : GRace) : Prop := ((Lit.int .i64 x.Cell).wf = true) ∧ ((Lit.int .i64 x.First).wf = true) ∧ ((Lit.int .i64 x.Second).wf = true)
def wfGOp (x : GOp) : Prop := ((Lit.int .i64 x.Code).wf = true) ∧ ((Lit.int .i64 x.A).wf = true) ∧ ((Lit.int .i64 x.B).wf = true) ∧ (x.V < 18446744073709551616)
def wfGProg (x : GProg) : Prop := ((Lit.int .i64 x.Cells).wf = true) ∧ ((Lit.int .i64 x.Locks).wf = true) ∧ ((Lit.int .i64 x.Conds).wf = true) ∧ (x.Routines.length ≤ 9223372036854775807 ∧ ∀ y0 ∈ x.Routines, y0.length ≤ 9223372036854775807 ∧ ∀ y1 ∈ y0, wfGOp y1)
def o3 (x : Int) : List AV := [I x]
def k3 (x : Int) : AV := I x
theorem t3 : ∀ x, treeL (o3 x) = true := (fun _ => rfl)
theorem z3 : ∀ x, frzL (o3 x) = o3 x := (fun _ => rfl)
theorem n3 : ∀ x, noRoL (o3 x) = true := (fun _ => rfl)
theorem p3 : ∀ x, (o3 x).all AV.plain = true := (fun _ => rfl)
def o69 (x : Nat) : List AV := [FK x]
def k69 (x : Nat) : AV := FK x
theorem t69 : ∀ x, treeL (o69 x) = true := (fun _ => rfl)
theorem z69 : ∀ x, frzL (o69 x) = o69 x := (fun _ => rfl)
theorem n69 : ∀ x, noRoL (o69 x) = true := (fun _ => rfl)
theorem p69 : ∀ x, (o69 x).all AV.plain = true := (fun _ => rfl)
def o102 (x : GAct) : List AV := [I x.Kind, I x.Cell, FK x.V]
theorem t102 : ∀ x, treeL (o102 x) = true := (fun _ => rfl)
theorem z102 : ∀ x, frzL (o102 x) = o102 x := (fun _ => rfl)
theorem n102 : ∀ x, noRoL (o102 x) = true := (fun _ => rfl)
theorem p102 : ∀ x, (o102 x).all AV.plain = true := (fun _ => rfl)
def o66 (x : (List GAct)) : List AV := [AV.own 102 3 (x.map o102)]
def r66 (x : (List GAct)) : List AV := [AV.ro 3 (x.map o102)]
theorem t66 : ∀ x, treeL (o66 x) = true := fun _ => rfl
theorem z66 : ∀ x, frzL (o66 x) = r66 x := fun x => by simp only [o66, r66, frzL, frz, frzLLm z102]
theorem n66 : ∀ x, noRoL (o66 x) = true := fun x => by simp only [o66, noRoL, noRo, noRoM n102, Bool.and_self]
def o22 (x : (List (List GAct))) : List AV := [AV.own 66 1 (x.map o66)]
def r22 (x : (List (List GAct))) : List AV := [AV.ro 1 (x.map r66)]
theorem t22 : ∀ x, treeL (o22 x) = true := fun _ => rfl
theorem z22 : ∀ x, frzL (o22 x) = r22 x := fun x => by simp only [o22, r22, frzL, frz, frzLLm z66]
theorem n22 : ∀ x, noRoL (o22 x) = true := fun x => by simp only [o22, noRoL, noRo, noRoM n66, Bool.and_self]
def o4 (x : Bool) : List AV := [B x]
def k4 (x : Bool) : AV := B x
theorem t4 : ∀ x, treeL (o4 x) = true := (fun _ => rfl)
theorem z4 : ∀ x, frzL (o4 x) = o4 x := (fun _ => rfl)
theorem n4 : ∀ x, noRoL (o4 x) = true := (fun _ => rfl)
theorem p4 : ∀ x, (o4 x).all AV.plain = true := (fun _ => rfl)
def o71 (x : GAct) : List AV := [I x.Kind, I x.Cell, FK x.V]
theorem t71 : ∀ x, treeL (o71 x) = true := (fun _ => rfl)
theorem z71 : ∀ x, frzL (o71 x) = o71 x := (fun _ => rfl)
theorem n71 : ∀ x, noRoL (o71 x) = true := (fun _ => rfl)
theorem p71 : ∀ x, (o71 x).all AV.plain = true := (fun _ => rfl)
def o68 (x : (List GAct)) : List AV := [AV.own 71 3 (x.map o71)]
def r68 (x : (List GAct)) : List AV := [AV.ro 3 (x.map o71)]
theorem t68 : ∀ x, treeL (o68 x) = true := fun _ => rfl
theorem z68 : ∀ x, frzL (o68 x) = r68 x := fun x => by simp only [o68, r68, frzL, frz, frzLLm z71]
theorem n68 : ∀ x, noRoL (o68 x) = true := fun x => by simp only [o68, noRoL, noRo, noRoM n71, Bool.and_self]
def o24 (x : (List (List GAct))) : List AV := [AV.own 68 1 (x.map o68)]
def r24 (x : (List (List GAct))) : List AV := [AV.ro 1 (x.map r68)]
theorem t24 : ∀ x, treeL (o24 x) = true := fun _ => rfl
theorem z24 : ∀ x, frzL (o24 x) = r24 x := fun x => by simp only [o24, r24, frzL, frz, frzLLm z68]
theorem n24 : ∀ x, noRoL (o24 x) = true := fun x => by simp only [o24, noRoL, noRo, noRoM n68, Bool.and_self]
def o117 (x : Int) : List AV := [IK .u64 x]
def k117 (x : Int) : AV := IK .u64 x
theorem t117 : ∀ x, treeL (o117 x) = true := (fun _ => rfl)
theorem z117 : ∀ x, frzL (o117 x) = o117 x := (fun _ => rfl)
theorem n117 : ∀ x, noRoL (o117 x) = true := (fun _ => rfl)
theorem p117 : ∀ x, (o117 x).all AV.plain = true := (fun _ => rfl)
def o83 (x : GEvent) : List AV := [I x.Thread, I x.Kind, I x.Obj, I x.Lock, I x.Pc]
theorem t83 : ∀ x, treeL (o83 x) = true := (fun _ => rfl)
theorem z83 : ∀ x, frzL (o83 x) = o83 x := (fun _ => rfl)
theorem n83 : ∀ x, noRoL (o83 x) = true := (fun _ => rfl)
theorem p83 : ∀ x, (o83 x).all AV.plain = true := (fun _ => rfl)
def o31 (x : (List GEvent)) : List AV := [AV.own 83 5 (x.map o83)]
def r31 (x : (List GEvent)) : List AV := [AV.ro 5 (x.map o83)]
theorem t31 : ∀ x, treeL (o31 x) = true := fun _ => rfl
theorem z31 : ∀ x, frzL (o31 x) = r31 x := fun x => by simp only [o31, r31, frzL, frz, frzLLm z83]
theorem n31 : ∀ x, noRoL (o31 x) = true := fun x => by simp only [o31, noRoL, noRo, noRoM n83, Bool.and_self]
def o81 (x : GEvent) : List AV := [I x.Thread, I x.Kind, I x.Obj, I x.Lock, I x.Pc]
theorem t81 : ∀ x, treeL (o81 x) = true := (fun _ => rfl)
theorem z81 : ∀ x, frzL (o81 x) = o81 x := (fun _ => rfl)
theorem n81 : ∀ x, noRoL (o81 x) = true := (fun _ => rfl)
theorem p81 : ∀ x, (o81 x).all AV.plain = true := (fun _ => rfl)
def o36 (x : (List GEvent)) : List AV := [AV.own 81 5 (x.map o81)]
def r36 (x : (List GEvent)) : List AV := [AV.ro 5 (x.map o81)]
theorem t36 : ∀ x, treeL (o36 x) = true := fun _ => rfl
theorem z36 : ∀ x, frzL (o36 x) = r36 x := fun x => by simp only [o36, r36, frzL, frz, frzLLm z81]
theorem n36 : ∀ x, noRoL (o36 x) = true := fun x => by simp only [o36, noRoL, noRo, noRoM n81, Bool.and_self]
def o33 (x : (List Int)) : List AV := [AV.own 3 1 (x.map o3)]
def r33 (x : (List Int)) : List AV := [AV.ro 1 (x.map o3)]
theorem t33 : ∀ x, treeL (o33 x) = true := fun _ => rfl
theorem z33 : ∀ x, frzL (o33 x) = r33 x := fun x => by simp only [o33, r33, frzL, frz, frzLLm z3]
theorem n33 : ∀ x, noRoL (o33 x) = true := fun x => by simp only [o33, noRoL, noRo, noRoM n3, Bool.and_self]
def o111 (x : (Vector Bool 100)) : List AV := (x.toList.map k4)
theorem t111 : ∀ x, treeL (o111 x) = true := fun x => vecTree k4 (fun _ => rfl)
theorem z111 : ∀ x, frzL (o111 x) = o111 x := fun x => vecFrz k4 (fun _ => rfl)
theorem n111 : ∀ x, noRoL (o111 x) = true := fun x => vecNoRo k4 (fun _ => rfl)
theorem p111 : ∀ x, (o111 x).all AV.plain = true := fun x => vecAll k4 (fun _ => rfl)
def o44 (x : GRace) : List AV := [I x.Cell, I x.First, I x.Second]
theorem t44 : ∀ x, treeL (o44 x) = true := (fun _ => rfl)
theorem z44 : ∀ x, frzL (o44 x) = o44 x := (fun _ => rfl)
theorem n44 : ∀ x, noRoL (o44 x) = true := (fun _ => rfl)
theorem p44 : ∀ x, (o44 x).all AV.plain = true := (fun _ => rfl)
def o89 (x : (List Bool)) : List AV := [AV.own 4 1 (x.map o4)]
def r89 (x : (List Bool)) : List AV := [AV.ro 1 (x.map o4)]
theorem t89 : ∀ x, treeL (o89 x) = true := fun _ => rfl
theorem z89 : ∀ x, frzL (o89 x) = r89 x := fun x => by simp only [o89, r89, frzL, frz, frzLLm z4]
theorem n89 : ∀ x, noRoL (o89 x) = true := fun x => by simp only [o89, noRoL, noRo, noRoM n4, Bool.and_self]
def o113 (x : (List (List Bool))) : List AV := [AV.own 89 1 (x.map o89)]
def r113 (x : (List (List Bool))) : List AV := [AV.ro 1 (x.map r89)]
theorem t113 : ∀ x, treeL (o113 x) = true := fun _ => rfl
theorem z113 : ∀ x, frzL (o113 x) = r113 x := fun x => by simp only [o113, r113, frzL, frz, frzLLm z89]
theorem n113 : ∀ x, noRoL (o113 x) = true := fun x => by simp only [o113, noRoL, noRo, noRoM n89, Bool.and_self]
def o87 (x : (List GRace)) : List AV := [AV.own 44 3 (x.map o44)]
def r87 (x : (List GRace)) : List AV := [AV.ro 3 (x.map o44)]
theorem t87 : ∀ x, treeL (o87 x) = true := fun _ => rfl
theorem z87 : ∀ x, frzL (o87 x) = r87 x := fun x => by simp only [o87, r87, frzL, frz, frzLLm z44]
theorem n87 : ∀ x, noRoL (o87 x) = true := fun x => by simp only [o87, noRoL, noRo, noRoM n44, Bool.and_self]
def o119 (x : (Vector Int 4)) : List AV := (x.toList.map k117)
theorem t119 : ∀ x, treeL (o119 x) = true := fun x => vecTree k117 (fun _ => rfl)
theorem z119 : ∀ x, frzL (o119 x) = o119 x := fun x => vecFrz k117 (fun _ => rfl)
theorem n119 : ∀ x, noRoL (o119 x) = true := fun x => vecNoRo k117 (fun _ => rfl)
theorem p119 : ∀ x, (o119 x).all AV.plain = true := fun x => vecAll k117 (fun _ => rfl)
def o115 (x : (List (Vector Int 4))) : List AV := [AV.own 119 4 (x.map o119)]
def r115 (x : (List (Vector Int 4))) : List AV := [AV.ro 4 (x.map o119)]
theorem t115 : ∀ x, treeL (o115 x) = true := fun _ => rfl
theorem z115 : ∀ x, frzL (o115 x) = r115 x := fun x => by simp only [o115, r115, frzL, frz, frzLLm z119]
theorem n115 : ∀ x, noRoL (o115 x) = true := fun x => by simp only [o115, noRoL, noRo, noRoM n119, Bool.and_self]
def o49 (x : (List (List Int))) : List AV := [AV.own 33 1 (x.map o33)]
def r49 (x : (List (List Int))) : List AV := [AV.ro 1 (x.map r33)]
theorem t49 : ∀ x, treeL (o49 x) = true := fun _ => rfl
theorem z49 : ∀ x, frzL (o49 x) = r49 x := fun x => by simp only [o49, r49, frzL, frz, frzLLm z33]
theorem n49 : ∀ x, noRoL (o49 x) = true := fun x => by simp only [o49, noRoL, noRo, noRoM n33, Bool.and_self]
def o133 (x : GOp) : List AV := [I x.Code, I x.A, I x.B, FK x.V]
theorem t133 : ∀ x, treeL (o133 x) = true := (fun _ => rfl)
theorem z133 : ∀ x, frzL (o133 x) = o133 x := (fun _ => rfl)
theorem n133 : ∀ x, noRoL (o133 x) = true := (fun _ => rfl)
theorem p133 : ∀ x, (o133 x).all AV.plain = true := (fun _ => rfl)
def o122 (x : (List GOp)) : List AV := [AV.own 133 4 (x.map o133)]
def r122 (x : (List GOp)) : List AV := [AV.ro 4 (x.map o133)]
theorem t122 : ∀ x, treeL (o122 x) = true := fun _ => rfl
theorem z122 : ∀ x, frzL (o122 x) = r122 x := fun x => by simp only [o122, r122, frzL, frz, frzLLm z133]
theorem n122 : ∀ x, noRoL (o122 x) = true := fun x => by simp only [o122, noRoL, noRo, noRoM n133, Bool.and_self]
def o54 (x : (List (List GOp))) : List AV := [AV.own 122 1 (x.map o122)]
def r54 (x : (List (List GOp))) : List AV := [AV.ro 1 (x.map r122)]
theorem t54 : ∀ x, treeL (o54 x) = true := fun _ => rfl
theorem z54 : ∀ x, frzL (o54 x) = r54 x := fun x => by simp only [o54, r54, frzL, frz, frzLLm z122]
theorem n54 : ∀ x, noRoL (o54 x) = true := fun x => by simp only [o54, noRoL, noRo, noRoM n122, Bool.and_self]
def o56 (x : GProg) : List AV := [I x.Cells, I x.Locks, I x.Conds, AV.own 122 1 (x.Routines.map o122)]
def r56 (x : GProg) : List AV := [I x.Cells, I x.Locks, I x.Conds, AV.ro 1 (x.Routines.map r122)]
theorem t56 : ∀ x, treeL (o56 x) = true := fun _ => rfl
theorem z56 : ∀ x, frzL (o56 x) = r56 x := fun x => by simp only [o56, r56, frzL, frz, frzLLm z122]
theorem n56 : ∀ x, noRoL (o56 x) = true := fun x => by simp only [o56, noRoL, noRo, noRoM n122, Bool.and_self]
def o93 (x : GOp) : List AV := [I x.Code, I x.A, I x.B, FK x.V]
theorem t93 : ∀ x, treeL (o93 x) = true := (fun _ => rfl)
theorem z93 : ∀ x, frzL (o93 x) = o93 x := (fun _ => rfl)
theorem n93 : ∀ x, noRoL (o93 x) = true := (fun _ => rfl)
theorem p93 : ∀ x, (o93 x).all AV.plain = true := (fun _ => rfl)
def o91 (x : (List GOp)) : List AV := [AV.own 93 4 (x.map o93)]
def r91 (x : (List GOp)) : List AV := [AV.ro 4 (x.map o93)]
theorem t91 : ∀ x, treeL (o91 x) = true := fun _ => rfl
theorem z91 : ∀ x, frzL (o91 x) = r91 x := fun x => by simp only [o91, r91, frzL, frz, frzLLm z93]
theorem n91 : ∀ x, noRoL (o91 x) = true := fun x => by simp only [o91, noRoL, noRo, noRoM n93, Bool.and_self]
def o59 (x : (List (List GOp))) : List AV := [AV.own 91 1 (x.map o91)]
def r59 (x : (List (List GOp))) : List AV := [AV.ro 1 (x.map r91)]
theorem t59 : ∀ x, treeL (o59 x) = true := fun _ => rfl
theorem z59 : ∀ x, frzL (o59 x) = r59 x := fun x => by simp only [o59, r59, frzL, frz, frzLLm z91]
theorem n59 : ∀ x, noRoL (o59 x) = true := fun x => by simp only [o59, noRoL, noRo, noRoM n91, Bool.and_self]
def o61 (x : GProg) : List AV := [I x.Cells, I x.Locks, I x.Conds, AV.own 91 1 (x.Routines.map o91)]
def r61 (x : GProg) : List AV := [I x.Cells, I x.Locks, I x.Conds, AV.ro 1 (x.Routines.map r91)]
theorem t61 : ∀ x, treeL (o61 x) = true := fun _ => rfl
theorem z61 : ∀ x, frzL (o61 x) = r61 x := fun x => by simp only [o61, r61, frzL, frz, frzLLm z91]
theorem n61 : ∀ x, noRoL (o61 x) = true := fun x => by simp only [o61, noRoL, noRo, noRoM n91, Bool.and_self]
def o9 (x : Str) : List AV := [SK x]
def k9 (x : Str) : AV := SK x
theorem t9 : ∀ x, treeL (o9 x) = true := (fun _ => rfl)
theorem z9 : ∀ x, frzL (o9 x) = o9 x := (fun _ => rfl)
theorem n9 : ∀ x, noRoL (o9 x) = true := (fun _ => rfl)
theorem p9 : ∀ x, (o9 x).all AV.plain = true := (fun _ => rfl)
end Go.Proofs.Ytefcdjocfjpjgaa
