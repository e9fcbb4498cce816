/- The types of this seat, as plain data and in memory; no condition. -/

import Derived.Test.YtgofeoobgpadiaaProg
import Derived.Test.YtgofeoobgpadiaaBG
set_option linter.unusedVariables false
namespace Go.Proofs.Ytgofeoobgpadiaa
open Go Go.T
def Θ : Tys := [(3, ⟨1, 8, .int .i64, [.int .i64 0]⟩),
  (4, ⟨1, 1, .bool, [.bool false]⟩),
  (5, ⟨1, 1, .int .u8, [.int .u8 0]⟩),
  (27, ⟨1, 24, .slice 3, [.slice none 0 0]⟩),
  (9, ⟨1, 16, .string, [.string ⟨#[]⟩]⟩),
  (35, ⟨4, 48, .struct #[⟨"Cells", 3, 0, false, "", "", 0⟩, ⟨"Locks", 3, 1, false, "", "", 8⟩, ⟨"Conds", 3, 2, false, "", "", 16⟩, ⟨"Routines", 33, 3, false, "", "", 24⟩], [.int .i64 0, .int .i64 0, .int .i64 0, .slice none 0 0]⟩),
  (39, ⟨4, 80, .struct #[⟨"Threads", 37, 0, false, "", "", 0⟩, ⟨"Cells", 26, 1, false, "", "", 24⟩, ⟨"Owner", 27, 2, false, "", "", 48⟩, ⟨"Fault", 3, 3, false, "", "", 72⟩], [.slice none 0 0, .slice none 0 0, .slice none 0 0, .int .i64 0]⟩),
  (70, ⟨6, 64, .struct #[⟨"Routine", 3, 0, false, "", "", 0⟩, ⟨"Pc", 3, 1, false, "", "", 8⟩, ⟨"State", 3, 2, false, "", "", 16⟩, ⟨"Cond", 3, 3, false, "", "", 24⟩, ⟨"Lock", 3, 4, false, "", "", 32⟩, ⟨"Stack", 26, 5, false, "", "", 40⟩], [.int .i64 0, .int .i64 0, .int .i64 0, .int .i64 0, .int .i64 0, .slice none 0 0]⟩),
  (24, ⟨4, 48, .struct #[⟨"Cells", 3, 0, false, "", "", 0⟩, ⟨"Locks", 3, 1, false, "", "", 8⟩, ⟨"Conds", 3, 2, false, "", "", 16⟩, ⟨"Routines", 22, 3, false, "", "", 24⟩], [.int .i64 0, .int .i64 0, .int .i64 0, .slice none 0 0]⟩),
  (85, ⟨4, 32, .struct #[⟨"Code", 3, 0, false, "", "", 0⟩, ⟨"A", 3, 1, false, "", "", 8⟩, ⟨"B", 3, 2, false, "", "", 16⟩, ⟨"V", 83, 3, false, "", "", 24⟩], [.int .i64 0, .int .i64 0, .int .i64 0, .float .f64 0]⟩),
  (26, ⟨1, 24, .slice 83, [.slice none 0 0]⟩),
  (22, ⟨1, 24, .slice 90, [.slice none 0 0]⟩),
  (37, ⟨1, 24, .slice 70, [.slice none 0 0]⟩),
  (29, ⟨4, 80, .struct #[⟨"Threads", 25, 0, false, "", "", 0⟩, ⟨"Cells", 26, 1, false, "", "", 24⟩, ⟨"Owner", 27, 2, false, "", "", 48⟩, ⟨"Fault", 3, 3, false, "", "", 72⟩], [.slice none 0 0, .slice none 0 0, .slice none 0 0, .int .i64 0]⟩),
  (33, ⟨1, 24, .slice 82, [.slice none 0 0]⟩),
  (25, ⟨1, 24, .slice 92, [.slice none 0 0]⟩),
  (83, ⟨1, 8, .float .f64, [.float .f64 0]⟩),
  (82, ⟨1, 24, .slice 85, [.slice none 0 0]⟩),
  (54, ⟨1, 24, .slice 27, [.slice none 0 0]⟩),
  (92, ⟨6, 64, .struct #[⟨"Routine", 3, 0, false, "", "", 0⟩, ⟨"Pc", 3, 1, false, "", "", 8⟩, ⟨"State", 3, 2, false, "", "", 16⟩, ⟨"Cond", 3, 3, false, "", "", 24⟩, ⟨"Lock", 3, 4, false, "", "", 32⟩, ⟨"Stack", 26, 5, false, "", "", 40⟩], [.int .i64 0, .int .i64 0, .int .i64 0, .int .i64 0, .int .i64 0, .slice none 0 0]⟩),
  (142, ⟨1, 8, .int .u64, [.int .u64 0]⟩),
  (138, ⟨1, 8, .int .u64, [.int .u64 0]⟩),
  (116, ⟨4, 32, .struct #[⟨"Code", 3, 0, false, "", "", 0⟩, ⟨"A", 3, 1, false, "", "", 8⟩, ⟨"B", 3, 2, false, "", "", 16⟩, ⟨"V", 83, 3, false, "", "", 24⟩], [.int .i64 0, .int .i64 0, .int .i64 0, .float .f64 0]⟩),
  (124, ⟨1, 8, .int .u64, [.int .u64 0]⟩),
  (90, ⟨1, 24, .slice 116, [.slice none 0 0]⟩),
  (136, ⟨1, 4, .int .u32, [.int .u32 0]⟩)]
theorem ty3 : tiOf Try.prog 3 = some ⟨1, 8, .int .i64, [.int .i64 0]⟩ := by kernel_rfl
theorem ty4 : tiOf Try.prog 4 = some ⟨1, 1, .bool, [.bool false]⟩ := by kernel_rfl
theorem ty5 : tiOf Try.prog 5 = some ⟨1, 1, .int .u8, [.int .u8 0]⟩ := by kernel_rfl
theorem ty27 : tiOf Try.prog 27 = some ⟨1, 24, .slice 3, [.slice none 0 0]⟩ := by kernel_rfl
theorem ty9 : tiOf Try.prog 9 = some ⟨1, 16, .string, [.string ⟨#[]⟩]⟩ := by kernel_rfl
theorem ty35 : tiOf Try.prog 35 = some ⟨4, 48, .struct #[⟨"Cells", 3, 0, false, "", "", 0⟩, ⟨"Locks", 3, 1, false, "", "", 8⟩, ⟨"Conds", 3, 2, false, "", "", 16⟩, ⟨"Routines", 33, 3, false, "", "", 24⟩], [.int .i64 0, .int .i64 0, .int .i64 0, .slice none 0 0]⟩ := by kernel_rfl
theorem ty39 : tiOf Try.prog 39 = some ⟨4, 80, .struct #[⟨"Threads", 37, 0, false, "", "", 0⟩, ⟨"Cells", 26, 1, false, "", "", 24⟩, ⟨"Owner", 27, 2, false, "", "", 48⟩, ⟨"Fault", 3, 3, false, "", "", 72⟩], [.slice none 0 0, .slice none 0 0, .slice none 0 0, .int .i64 0]⟩ := by kernel_rfl
theorem ty70 : tiOf Try.prog 70 = some ⟨6, 64, .struct #[⟨"Routine", 3, 0, false, "", "", 0⟩, ⟨"Pc", 3, 1, false, "", "", 8⟩, ⟨"State", 3, 2, false, "", "", 16⟩, ⟨"Cond", 3, 3, false, "", "", 24⟩, ⟨"Lock", 3, 4, false, "", "", 32⟩, ⟨"Stack", 26, 5, false, "", "", 40⟩], [.int .i64 0, .int .i64 0, .int .i64 0, .int .i64 0, .int .i64 0, .slice none 0 0]⟩ := by kernel_rfl
theorem ty24 : tiOf Try.prog 24 = some ⟨4, 48, .struct #[⟨"Cells", 3, 0, false, "", "", 0⟩, ⟨"Locks", 3, 1, false, "", "", 8⟩, ⟨"Conds", 3, 2, false, "", "", 16⟩, ⟨"Routines", 22, 3, false, "", "", 24⟩], [.int .i64 0, .int .i64 0, .int .i64 0, .slice none 0 0]⟩ := by kernel_rfl
theorem ty85 : tiOf Try.prog 85 = some ⟨4, 32, .struct #[⟨"Code", 3, 0, false, "", "", 0⟩, ⟨"A", 3, 1, false, "", "", 8⟩, ⟨"B", 3, 2, false, "", "", 16⟩, ⟨"V", 83, 3, false, "", "", 24⟩], [.int .i64 0, .int .i64 0, .int .i64 0, .float .f64 0]⟩ := by kernel_rfl
theorem ty26 : tiOf Try.prog 26 = some ⟨1, 24, .slice 83, [.slice none 0 0]⟩ := by kernel_rfl
theorem ty22 : tiOf Try.prog 22 = some ⟨1, 24, .slice 90, [.slice none 0 0]⟩ := by kernel_rfl
theorem ty37 : tiOf Try.prog 37 = some ⟨1, 24, .slice 70, [.slice none 0 0]⟩ := by kernel_rfl
theorem ty29 : tiOf Try.prog 29 = some ⟨4, 80, .struct #[⟨"Threads", 25, 0, false, "", "", 0⟩, ⟨"Cells", 26, 1, false, "", "", 24⟩, ⟨"Owner", 27, 2, false, "", "", 48⟩, ⟨"Fault", 3, 3, false, "", "", 72⟩], [.slice none 0 0, .slice none 0 0, .slice none 0 0, .int .i64 0]⟩ := by kernel_rfl
theorem ty33 : tiOf Try.prog 33 = some ⟨1, 24, .slice 82, [.slice none 0 0]⟩ := by kernel_rfl
theorem ty25 : tiOf Try.prog 25 = some ⟨1, 24, .slice 92, [.slice none 0 0]⟩ := by kernel_rfl
theorem ty83 : tiOf Try.prog 83 = some ⟨1, 8, .float .f64, [.float .f64 0]⟩ := by kernel_rfl
theorem ty82 : tiOf Try.prog 82 = some ⟨1, 24, .slice 85, [.slice none 0 0]⟩ := by kernel_rfl
theorem ty54 : tiOf Try.prog 54 = some ⟨1, 24, .slice 27, [.slice none 0 0]⟩ := by kernel_rfl
theorem ty92 : tiOf Try.prog 92 = some ⟨6, 64, .struct #[⟨"Routine", 3, 0, false, "", "", 0⟩, ⟨"Pc", 3, 1, false, "", "", 8⟩, ⟨"State", 3, 2, false, "", "", 16⟩, ⟨"Cond", 3, 3, false, "", "", 24⟩, ⟨"Lock", 3, 4, false, "", "", 32⟩, ⟨"Stack", 26, 5, false, "", "", 40⟩], [.int .i64 0, .int .i64 0, .int .i64 0, .int .i64 0, .int .i64 0, .slice none 0 0]⟩ := by kernel_rfl
theorem ty142 : tiOf Try.prog 142 = some ⟨1, 8, .int .u64, [.int .u64 0]⟩ := by kernel_rfl
theorem ty138 : tiOf Try.prog 138 = some ⟨1, 8, .int .u64, [.int .u64 0]⟩ := by kernel_rfl
theorem ty116 : tiOf Try.prog 116 = some ⟨4, 32, .struct #[⟨"Code", 3, 0, false, "", "", 0⟩, ⟨"A", 3, 1, false, "", "", 8⟩, ⟨"B", 3, 2, false, "", "", 16⟩, ⟨"V", 83, 3, false, "", "", 24⟩], [.int .i64 0, .int .i64 0, .int .i64 0, .float .f64 0]⟩ := by kernel_rfl
theorem ty124 : tiOf Try.prog 124 = some ⟨1, 8, .int .u64, [.int .u64 0]⟩ := by kernel_rfl
theorem ty90 : tiOf Try.prog 90 = some ⟨1, 24, .slice 116, [.slice none 0 0]⟩ := by kernel_rfl
theorem ty136 : tiOf Try.prog 136 = some ⟨1, 4, .int .u32, [.int .u32 0]⟩ := by kernel_rfl
theorem Θ_ok : TOK Try.prog Θ := ⟨ty3, ty4, ty5, ty27, ty9, ty35, ty39, ty70, ty24, ty85, ty26, ty22, ty37, ty29, ty33, ty25, ty83, ty82, ty54, ty92, ty142, ty138, ty116, ty124, ty90, ty136, trivial⟩
theorem mixed : Try.prog.follows .mixedOrders = true := by kernel_rfl
structure GOp where
  Code : Int
  A : Int
  B : Int
  V : Nat
  deriving DecidableEq
structure GProg where
  Cells : Int
  Locks : Int
  Conds : Int
  Routines : (List (List GOp))
  deriving DecidableEq
structure GThread where
  Routine : Int
  Pc : Int
  State : Int
  Cond : Int
  Lock : Int
  Stack : (List Nat)
  deriving DecidableEq
structure GState where
  Threads : (List GThread)
  Cells : (List Nat)
  Owner : (List Int)
  Fault : Int
  deriving DecidableEq
def wfGOp (x : GOp) : Prop := ((Lit.int .i64 x.Code).wf = true) ∧ ((Lit.int .i64 x.A).wf = true) ∧ ((Lit.int .i64 x.B).wf = true) ∧ (x.V < 18446744073709551616)
def wfGProg (x : GProg) : Prop := ((Lit.int .i64 x.Cells).wf = true) ∧ ((Lit.int .i64 x.Locks).wf = true) ∧ ((Lit.int .i64 x.Conds).wf = true) ∧ (x.Routines.length ≤ 9223372036854775807 ∧ ∀ y0 ∈ x.Routines, y0.length ≤ 9223372036854775807 ∧ ∀ y1 ∈ y0, wfGOp y1)
def wfGThread (x : GThread) : Prop := ((Lit.int .i64 x.Routine).wf = true) ∧ ((Lit.int .i64 x.Pc).wf = true) ∧ ((Lit.int .i64 x.State).wf = true) ∧ ((Lit.int .i64 x.Cond).wf = true) ∧ ((Lit.int .i64 x.Lock).wf = true) ∧ (x.Stack.length ≤ 9223372036854775807 ∧ ∀ y0 ∈ x.Stack, y0 < 18446744073709551616)
def wfGState (x : GState) : Prop := (x.Threads.length ≤ 9223372036854775807 ∧ ∀ y0 ∈ x.Threads, wfGThread y0) ∧ (x.Cells.length ≤ 9223372036854775807 ∧ ∀ y0 ∈ x.Cells, y0 < 18446744073709551616) ∧ (x.Owner.length ≤ 9223372036854775807 ∧ ∀ y0 ∈ x.Owner, (Lit.int .i64 y0).wf = true) ∧ ((Lit.int .i64 x.Fault).wf = true)
def o3 (x : Int) : List AV := [I x]
def k3 (x : Int) : AV := I x
theorem t3 : ∀ x, treeL (o3 x) = true := (fun _ => rfl)
theorem z3 : ∀ x, frzL (o3 x) = o3 x := (fun _ => rfl)
theorem n3 : ∀ x, noRoL (o3 x) = true := (fun _ => rfl)
theorem p3 : ∀ x, (o3 x).all AV.plain = true := (fun _ => rfl)
def o83 (x : Nat) : List AV := [FK x]
def k83 (x : Nat) : AV := FK x
theorem t83 : ∀ x, treeL (o83 x) = true := (fun _ => rfl)
theorem z83 : ∀ x, frzL (o83 x) = o83 x := (fun _ => rfl)
theorem n83 : ∀ x, noRoL (o83 x) = true := (fun _ => rfl)
theorem p83 : ∀ x, (o83 x).all AV.plain = true := (fun _ => rfl)
def o116 (x : GOp) : List AV := [I x.Code, I x.A, I x.B, FK x.V]
theorem t116 : ∀ x, treeL (o116 x) = true := (fun _ => rfl)
theorem z116 : ∀ x, frzL (o116 x) = o116 x := (fun _ => rfl)
theorem n116 : ∀ x, noRoL (o116 x) = true := (fun _ => rfl)
theorem p116 : ∀ x, (o116 x).all AV.plain = true := (fun _ => rfl)
def o90 (x : (List GOp)) : List AV := [AV.own 116 4 (x.map o116)]
def r90 (x : (List GOp)) : List AV := [AV.ro 4 (x.map o116)]
theorem t90 : ∀ x, treeL (o90 x) = true := fun _ => rfl
theorem z90 : ∀ x, frzL (o90 x) = r90 x := fun x => by simp only [o90, r90, frzL, frz, frzLLm z116]
theorem n90 : ∀ x, noRoL (o90 x) = true := fun x => by simp only [o90, noRoL, noRo, noRoM n116, Bool.and_self]
def o22 (x : (List (List GOp))) : List AV := [AV.own 90 1 (x.map o90)]
def r22 (x : (List (List GOp))) : List AV := [AV.ro 1 (x.map r90)]
theorem t22 : ∀ x, treeL (o22 x) = true := fun _ => rfl
theorem z22 : ∀ x, frzL (o22 x) = r22 x := fun x => by simp only [o22, r22, frzL, frz, frzLLm z90]
theorem n22 : ∀ x, noRoL (o22 x) = true := fun x => by simp only [o22, noRoL, noRo, noRoM n90, Bool.and_self]
def o24 (x : GProg) : List AV := [I x.Cells, I x.Locks, I x.Conds, AV.own 90 1 (x.Routines.map o90)]
def r24 (x : GProg) : List AV := [I x.Cells, I x.Locks, I x.Conds, AV.ro 1 (x.Routines.map r90)]
theorem t24 : ∀ x, treeL (o24 x) = true := fun _ => rfl
theorem z24 : ∀ x, frzL (o24 x) = r24 x := fun x => by simp only [o24, r24, frzL, frz, frzLLm z90]
theorem n24 : ∀ x, noRoL (o24 x) = true := fun x => by simp only [o24, noRoL, noRo, noRoM n90, Bool.and_self]
def o26 (x : (List Nat)) : List AV := [AV.own 83 1 (x.map o83)]
def r26 (x : (List Nat)) : List AV := [AV.ro 1 (x.map o83)]
theorem t26 : ∀ x, treeL (o26 x) = true := fun _ => rfl
theorem z26 : ∀ x, frzL (o26 x) = r26 x := fun x => by simp only [o26, r26, frzL, frz, frzLLm z83]
theorem n26 : ∀ x, noRoL (o26 x) = true := fun x => by simp only [o26, noRoL, noRo, noRoM n83, Bool.and_self]
def o92 (x : GThread) : List AV := [I x.Routine, I x.Pc, I x.State, I x.Cond, I x.Lock, AV.own 83 1 (x.Stack.map o83)]
def r92 (x : GThread) : List AV := [I x.Routine, I x.Pc, I x.State, I x.Cond, I x.Lock, AV.ro 1 (x.Stack.map o83)]
theorem t92 : ∀ x, treeL (o92 x) = true := fun _ => rfl
theorem z92 : ∀ x, frzL (o92 x) = r92 x := fun x => by simp only [o92, r92, frzL, frz, frzLLm z83]
theorem n92 : ∀ x, noRoL (o92 x) = true := fun x => by simp only [o92, noRoL, noRo, noRoM n83, Bool.and_self]
def o25 (x : (List GThread)) : List AV := [AV.own 92 6 (x.map o92)]
def r25 (x : (List GThread)) : List AV := [AV.ro 6 (x.map r92)]
theorem t25 : ∀ x, treeL (o25 x) = true := fun _ => rfl
theorem z25 : ∀ x, frzL (o25 x) = r25 x := fun x => by simp only [o25, r25, frzL, frz, frzLLm z92]
theorem n25 : ∀ x, noRoL (o25 x) = true := fun x => by simp only [o25, noRoL, noRo, noRoM n92, Bool.and_self]
def o27 (x : (List Int)) : List AV := [AV.own 3 1 (x.map o3)]
def r27 (x : (List Int)) : List AV := [AV.ro 1 (x.map o3)]
theorem t27 : ∀ x, treeL (o27 x) = true := fun _ => rfl
theorem z27 : ∀ x, frzL (o27 x) = r27 x := fun x => by simp only [o27, r27, frzL, frz, frzLLm z3]
theorem n27 : ∀ x, noRoL (o27 x) = true := fun x => by simp only [o27, noRoL, noRo, noRoM n3, Bool.and_self]
def o29 (x : GState) : List AV := [AV.own 92 6 (x.Threads.map o92), AV.own 83 1 (x.Cells.map o83), AV.own 3 1 (x.Owner.map o3), I x.Fault]
def r29 (x : GState) : List AV := [AV.ro 6 (x.Threads.map r92), AV.ro 1 (x.Cells.map o83), AV.ro 1 (x.Owner.map o3), I x.Fault]
theorem t29 : ∀ x, treeL (o29 x) = true := fun _ => rfl
theorem z29 : ∀ x, frzL (o29 x) = r29 x := fun x => by simp only [o29, r29, frzL, frz, frzLLm z3, frzLLm z83, frzLLm z92]
theorem n29 : ∀ x, noRoL (o29 x) = true := fun x => by simp only [o29, noRoL, noRo, noRoM n3, noRoM n83, noRoM n92, Bool.and_self]
def o4 (x : Bool) : List AV := [B x]
def k4 (x : Bool) : AV := B x
theorem t4 : ∀ x, treeL (o4 x) = true := (fun _ => rfl)
theorem z4 : ∀ x, frzL (o4 x) = o4 x := (fun _ => rfl)
theorem n4 : ∀ x, noRoL (o4 x) = true := (fun _ => rfl)
theorem p4 : ∀ x, (o4 x).all AV.plain = true := (fun _ => rfl)
def o85 (x : GOp) : List AV := [I x.Code, I x.A, I x.B, FK x.V]
theorem t85 : ∀ x, treeL (o85 x) = true := (fun _ => rfl)
theorem z85 : ∀ x, frzL (o85 x) = o85 x := (fun _ => rfl)
theorem n85 : ∀ x, noRoL (o85 x) = true := (fun _ => rfl)
theorem p85 : ∀ x, (o85 x).all AV.plain = true := (fun _ => rfl)
def o82 (x : (List GOp)) : List AV := [AV.own 85 4 (x.map o85)]
def r82 (x : (List GOp)) : List AV := [AV.ro 4 (x.map o85)]
theorem t82 : ∀ x, treeL (o82 x) = true := fun _ => rfl
theorem z82 : ∀ x, frzL (o82 x) = r82 x := fun x => by simp only [o82, r82, frzL, frz, frzLLm z85]
theorem n82 : ∀ x, noRoL (o82 x) = true := fun x => by simp only [o82, noRoL, noRo, noRoM n85, Bool.and_self]
def o33 (x : (List (List GOp))) : List AV := [AV.own 82 1 (x.map o82)]
def r33 (x : (List (List GOp))) : List AV := [AV.ro 1 (x.map r82)]
theorem t33 : ∀ x, treeL (o33 x) = true := fun _ => rfl
theorem z33 : ∀ x, frzL (o33 x) = r33 x := fun x => by simp only [o33, r33, frzL, frz, frzLLm z82]
theorem n33 : ∀ x, noRoL (o33 x) = true := fun x => by simp only [o33, noRoL, noRo, noRoM n82, Bool.and_self]
def o35 (x : GProg) : List AV := [I x.Cells, I x.Locks, I x.Conds, AV.own 82 1 (x.Routines.map o82)]
def r35 (x : GProg) : List AV := [I x.Cells, I x.Locks, I x.Conds, AV.ro 1 (x.Routines.map r82)]
theorem t35 : ∀ x, treeL (o35 x) = true := fun _ => rfl
theorem z35 : ∀ x, frzL (o35 x) = r35 x := fun x => by simp only [o35, r35, frzL, frz, frzLLm z82]
theorem n35 : ∀ x, noRoL (o35 x) = true := fun x => by simp only [o35, noRoL, noRo, noRoM n82, Bool.and_self]
def o70 (x : GThread) : List AV := [I x.Routine, I x.Pc, I x.State, I x.Cond, I x.Lock, AV.own 83 1 (x.Stack.map o83)]
def r70 (x : GThread) : List AV := [I x.Routine, I x.Pc, I x.State, I x.Cond, I x.Lock, AV.ro 1 (x.Stack.map o83)]
theorem t70 : ∀ x, treeL (o70 x) = true := fun _ => rfl
theorem z70 : ∀ x, frzL (o70 x) = r70 x := fun x => by simp only [o70, r70, frzL, frz, frzLLm z83]
theorem n70 : ∀ x, noRoL (o70 x) = true := fun x => by simp only [o70, noRoL, noRo, noRoM n83, Bool.and_self]
def o37 (x : (List GThread)) : List AV := [AV.own 70 6 (x.map o70)]
def r37 (x : (List GThread)) : List AV := [AV.ro 6 (x.map r70)]
theorem t37 : ∀ x, treeL (o37 x) = true := fun _ => rfl
theorem z37 : ∀ x, frzL (o37 x) = r37 x := fun x => by simp only [o37, r37, frzL, frz, frzLLm z70]
theorem n37 : ∀ x, noRoL (o37 x) = true := fun x => by simp only [o37, noRoL, noRo, noRoM n70, Bool.and_self]
def o39 (x : GState) : List AV := [AV.own 70 6 (x.Threads.map o70), AV.own 83 1 (x.Cells.map o83), AV.own 3 1 (x.Owner.map o3), I x.Fault]
def r39 (x : GState) : List AV := [AV.ro 6 (x.Threads.map r70), AV.ro 1 (x.Cells.map o83), AV.ro 1 (x.Owner.map o3), I x.Fault]
theorem t39 : ∀ x, treeL (o39 x) = true := fun _ => rfl
theorem z39 : ∀ x, frzL (o39 x) = r39 x := fun x => by simp only [o39, r39, frzL, frz, frzLLm z3, frzLLm z70, frzLLm z83]
theorem n39 : ∀ x, noRoL (o39 x) = true := fun x => by simp only [o39, noRoL, noRo, noRoM n3, noRoM n70, noRoM n83, Bool.and_self]
def o9 (x : Str) : List AV := [SK x]
def k9 (x : Str) : AV := SK x
theorem t9 : ∀ x, treeL (o9 x) = true := (fun _ => rfl)
theorem z9 : ∀ x, frzL (o9 x) = o9 x := (fun _ => rfl)
theorem n9 : ∀ x, noRoL (o9 x) = true := (fun _ => rfl)
theorem p9 : ∀ x, (o9 x).all AV.plain = true := (fun _ => rfl)
def o138 (x : Int) : List AV := [IK .u64 x]
def k138 (x : Int) : AV := IK .u64 x
theorem t138 : ∀ x, treeL (o138 x) = true := (fun _ => rfl)
theorem z138 : ∀ x, frzL (o138 x) = o138 x := (fun _ => rfl)
theorem n138 : ∀ x, noRoL (o138 x) = true := (fun _ => rfl)
theorem p138 : ∀ x, (o138 x).all AV.plain = true := (fun _ => rfl)
def o54 (x : (List (List Int))) : List AV := [AV.own 27 1 (x.map o27)]
def r54 (x : (List (List Int))) : List AV := [AV.ro 1 (x.map r27)]
theorem t54 : ∀ x, treeL (o54 x) = true := fun _ => rfl
theorem z54 : ∀ x, frzL (o54 x) = r54 x := fun x => by simp only [o54, r54, frzL, frz, frzLLm z27]
theorem n54 : ∀ x, noRoL (o54 x) = true := fun x => by simp only [o54, noRoL, noRo, noRoM n27, Bool.and_self]
def o124 (x : Int) : List AV := [IK .u64 x]
def k124 (x : Int) : AV := IK .u64 x
theorem t124 : ∀ x, treeL (o124 x) = true := (fun _ => rfl)
theorem z124 : ∀ x, frzL (o124 x) = o124 x := (fun _ => rfl)
theorem n124 : ∀ x, noRoL (o124 x) = true := (fun _ => rfl)
theorem p124 : ∀ x, (o124 x).all AV.plain = true := (fun _ => rfl)
def o5 (x : Int) : List AV := [IK .u8 x]
def k5 (x : Int) : AV := IK .u8 x
theorem t5 : ∀ x, treeL (o5 x) = true := (fun _ => rfl)
theorem z5 : ∀ x, frzL (o5 x) = o5 x := (fun _ => rfl)
theorem n5 : ∀ x, noRoL (o5 x) = true := (fun _ => rfl)
theorem p5 : ∀ x, (o5 x).all AV.plain = true := (fun _ => rfl)
def o142 (x : Int) : List AV := [IK .u64 x]
def k142 (x : Int) : AV := IK .u64 x
theorem t142 : ∀ x, treeL (o142 x) = true := (fun _ => rfl)
theorem z142 : ∀ x, frzL (o142 x) = o142 x := (fun _ => rfl)
theorem n142 : ∀ x, noRoL (o142 x) = true := (fun _ => rfl)
theorem p142 : ∀ x, (o142 x).all AV.plain = true := (fun _ => rfl)
def o136 (x : Int) : List AV := [IK .u32 x]
def k136 (x : Int) : AV := IK .u32 x
theorem t136 : ∀ x, treeL (o136 x) = true := (fun _ => rfl)
theorem z136 : ∀ x, frzL (o136 x) = o136 x := (fun _ => rfl)
theorem n136 : ∀ x, noRoL (o136 x) = true := (fun _ => rfl)
theorem p136 : ∀ x, (o136 x).all AV.plain = true := (fun _ => rfl)
end Go.Proofs.Ytgofeoobgpadiaa
