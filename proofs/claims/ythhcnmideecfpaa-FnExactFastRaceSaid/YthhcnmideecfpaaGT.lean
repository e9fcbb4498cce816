/- The types of this seat, as plain data and in memory; no condition. -/

import Derived.Test.YthhcnmideecfpaaProg
import Derived.Test.YthhcnmideecfpaaBN
set_option linter.unusedVariables false
namespace Go.Proofs.Ythhcnmideecfpaa
open Go Go.T
def Θ : Tys := [(3, ⟨1, 8, .int .i64, [.int .i64 0]⟩),
  (40, ⟨5, 40, .struct #[⟨"Thread", 3, 0, false, "", "", 0⟩, ⟨"Kind", 3, 1, false, "", "", 8⟩, ⟨"Obj", 3, 2, false, "", "", 16⟩, ⟨"Lock", 3, 3, false, "", "", 24⟩, ⟨"Pc", 3, 4, false, "", "", 32⟩], [.int .i64 0, .int .i64 0, .int .i64 0, .int .i64 0, .int .i64 0]⟩),
  (4, ⟨1, 1, .bool, [.bool false]⟩),
  (43, ⟨1, 24, .slice 3, [.slice none 0 0]⟩),
  (26, ⟨1, 24, .slice 40, [.slice none 0 0]⟩),
  (30, ⟨1, 24, .slice 43, [.slice none 0 0]⟩),
  (22, ⟨1, 24, .slice 47, [.slice none 0 0]⟩),
  (45, ⟨4, 48, .struct #[⟨"cell", 3, 0, false, "", "loop.example/g00696/spec", 0⟩, ⟨"by", 3, 1, false, "", "loop.example/g00696/spec", 8⟩, ⟨"at", 3, 2, false, "", "loop.example/g00696/spec", 16⟩, ⟨"loads", 43, 3, false, "", "loop.example/g00696/spec", 24⟩], [.int .i64 0, .int .i64 0, .int .i64 0, .slice none 0 0]⟩),
  (38, ⟨1, 24, .slice 45, [.slice none 0 0]⟩),
  (72, ⟨4, 32, .array 4 70, [.int .u64 0, .int .u64 0, .int .u64 0, .int .u64 0]⟩),
  (47, ⟨5, 40, .struct #[⟨"Thread", 3, 0, false, "", "", 0⟩, ⟨"Kind", 3, 1, false, "", "", 8⟩, ⟨"Obj", 3, 2, false, "", "", 16⟩, ⟨"Lock", 3, 3, false, "", "", 24⟩, ⟨"Pc", 3, 4, false, "", "", 32⟩], [.int .i64 0, .int .i64 0, .int .i64 0, .int .i64 0, .int .i64 0]⟩),
  (59, ⟨100, 100, .array 100 4, List.replicate 100 (.bool false)⟩),
  (48, ⟨5, 40, .array 5 3, [.int .i64 0, .int .i64 0, .int .i64 0, .int .i64 0, .int .i64 0]⟩),
  (70, ⟨1, 8, .int .u64, [.int .u64 0]⟩),
  (51, ⟨700, 5600, .array 100 50, List.replicate 700 (.int .i64 0)⟩),
  (66, ⟨1, 24, .slice 4, [.slice none 0 0]⟩),
  (50, ⟨7, 56, .struct #[⟨"thread", 3, 0, false, "", "loop.example/g00696/impl", 0⟩, ⟨"number", 3, 1, false, "", "loop.example/g00696/impl", 8⟩, ⟨"loads", 48, 2, false, "", "loop.example/g00696/impl", 16⟩], [.int .i64 0, .int .i64 0, .int .i64 0, .int .i64 0, .int .i64 0, .int .i64 0, .int .i64 0]⟩),
  (64, ⟨1, 24, .slice 66, [.slice none 0 0]⟩),
  (58, ⟨100, 2400, .array 100 43, List.replicate 100 (.slice none 0 0)⟩),
  (68, ⟨1, 24, .slice 72, [.slice none 0 0]⟩)]
theorem ty3 : tiOf Try.prog 3 = some ⟨1, 8, .int .i64, [.int .i64 0]⟩ := by kernel_rfl
theorem ty40 : tiOf Try.prog 40 = some ⟨5, 40, .struct #[⟨"Thread", 3, 0, false, "", "", 0⟩, ⟨"Kind", 3, 1, false, "", "", 8⟩, ⟨"Obj", 3, 2, false, "", "", 16⟩, ⟨"Lock", 3, 3, false, "", "", 24⟩, ⟨"Pc", 3, 4, false, "", "", 32⟩], [.int .i64 0, .int .i64 0, .int .i64 0, .int .i64 0, .int .i64 0]⟩ := by kernel_rfl
theorem ty4 : tiOf Try.prog 4 = some ⟨1, 1, .bool, [.bool false]⟩ := by kernel_rfl
theorem ty43 : tiOf Try.prog 43 = some ⟨1, 24, .slice 3, [.slice none 0 0]⟩ := by kernel_rfl
theorem ty26 : tiOf Try.prog 26 = some ⟨1, 24, .slice 40, [.slice none 0 0]⟩ := by kernel_rfl
theorem ty30 : tiOf Try.prog 30 = some ⟨1, 24, .slice 43, [.slice none 0 0]⟩ := by kernel_rfl
theorem ty22 : tiOf Try.prog 22 = some ⟨1, 24, .slice 47, [.slice none 0 0]⟩ := by kernel_rfl
theorem ty45 : tiOf Try.prog 45 = some ⟨4, 48, .struct #[⟨"cell", 3, 0, false, "", "loop.example/g00696/spec", 0⟩, ⟨"by", 3, 1, false, "", "loop.example/g00696/spec", 8⟩, ⟨"at", 3, 2, false, "", "loop.example/g00696/spec", 16⟩, ⟨"loads", 43, 3, false, "", "loop.example/g00696/spec", 24⟩], [.int .i64 0, .int .i64 0, .int .i64 0, .slice none 0 0]⟩ := by kernel_rfl
theorem ty38 : tiOf Try.prog 38 = some ⟨1, 24, .slice 45, [.slice none 0 0]⟩ := by kernel_rfl
theorem ty72 : tiOf Try.prog 72 = some ⟨4, 32, .array 4 70, [.int .u64 0, .int .u64 0, .int .u64 0, .int .u64 0]⟩ := by kernel_rfl
theorem ty47 : tiOf Try.prog 47 = some ⟨5, 40, .struct #[⟨"Thread", 3, 0, false, "", "", 0⟩, ⟨"Kind", 3, 1, false, "", "", 8⟩, ⟨"Obj", 3, 2, false, "", "", 16⟩, ⟨"Lock", 3, 3, false, "", "", 24⟩, ⟨"Pc", 3, 4, false, "", "", 32⟩], [.int .i64 0, .int .i64 0, .int .i64 0, .int .i64 0, .int .i64 0]⟩ := by kernel_rfl
theorem ty59 : tiOf Try.prog 59 = some ⟨100, 100, .array 100 4, List.replicate 100 (.bool false)⟩ := by kernel_rfl
theorem ty48 : tiOf Try.prog 48 = some ⟨5, 40, .array 5 3, [.int .i64 0, .int .i64 0, .int .i64 0, .int .i64 0, .int .i64 0]⟩ := by kernel_rfl
theorem ty70 : tiOf Try.prog 70 = some ⟨1, 8, .int .u64, [.int .u64 0]⟩ := by kernel_rfl
theorem ty51 : tiOf Try.prog 51 = some ⟨700, 5600, .array 100 50, List.replicate 700 (.int .i64 0)⟩ := by kernel_rfl
theorem ty66 : tiOf Try.prog 66 = some ⟨1, 24, .slice 4, [.slice none 0 0]⟩ := by kernel_rfl
theorem ty50 : tiOf Try.prog 50 = some ⟨7, 56, .struct #[⟨"thread", 3, 0, false, "", "loop.example/g00696/impl", 0⟩, ⟨"number", 3, 1, false, "", "loop.example/g00696/impl", 8⟩, ⟨"loads", 48, 2, false, "", "loop.example/g00696/impl", 16⟩], [.int .i64 0, .int .i64 0, .int .i64 0, .int .i64 0, .int .i64 0, .int .i64 0, .int .i64 0]⟩ := by kernel_rfl
theorem ty64 : tiOf Try.prog 64 = some ⟨1, 24, .slice 66, [.slice none 0 0]⟩ := by kernel_rfl
theorem ty58 : tiOf Try.prog 58 = some ⟨100, 2400, .array 100 43, List.replicate 100 (.slice none 0 0)⟩ := by kernel_rfl
theorem ty68 : tiOf Try.prog 68 = some ⟨1, 24, .slice 72, [.slice none 0 0]⟩ := by kernel_rfl
theorem Θ_ok : TOK Try.prog Θ := ⟨ty3, ty40, ty4, ty43, ty26, ty30, ty22, ty45, ty38, ty72, ty47, ty59, ty48, ty70, ty51, ty66, ty50, ty64, ty58, ty68, trivial⟩
theorem mixed : Try.prog.follows .mixedOrders = true := by kernel_rfl
structure GEvent where
  Thread : Int
  Kind : Int
  Obj : Int
  Lock : Int
  Pc : Int
  deriving DecidableEq
structure Gl7Cell where
  cell : Int
  by_ : Int
  at_ : Int
  loads : (List Int)
  deriving DecidableEq
structure Gtouched where
  thread : Int
  number : Int
  loads : (Vector Int 5)
  deriving DecidableEq
def wfGEvent (x : GEvent) : Prop := ((Lit.int .i64 x.Thread).wf = true) ∧ ((Lit.int .i64 x.Kind).wf = true) ∧ ((Lit.int .i64 x.Obj).wf = true) ∧ ((Lit.int .i64 x.Lock).wf = true) ∧ ((Lit.int .i64 x.Pc).wf = true)
def wfGl7Cell (x : Gl7Cell) : Prop := ((Lit.int .i64 x.cell).wf = true) ∧ ((Lit.int .i64 x.by_).wf = true) ∧ ((Lit.int .i64 x.at_).wf = true) ∧ (x.loads.length ≤ 9223372036854775807 ∧ ∀ y0 ∈ x.loads, (Lit.int .i64 y0).wf = true)
def o3 (x : Int) : List AV := [I x]
def k3 (x : Int) : AV := I x
theorem t3 : ∀ x, treeL (o3 x) = true := (fun _ => rfl)
theorem z3 : ∀ x, frzL (o3 x) = o3 x := (fun _ => rfl)
theorem n3 : ∀ x, noRoL (o3 x) = true := (fun _ => rfl)
theorem pa3 : ∀ x, (o3 x).all AV.plain = true := (fun _ => rfl)
def o47 (x : GEvent) : List AV := [I x.Thread, I x.Kind, I x.Obj, I x.Lock, I x.Pc]
theorem t47 : ∀ x, treeL (o47 x) = true := (fun _ => rfl)
theorem z47 : ∀ x, frzL (o47 x) = o47 x := (fun _ => rfl)
theorem n47 : ∀ x, noRoL (o47 x) = true := (fun _ => rfl)
theorem pa47 : ∀ x, (o47 x).all AV.plain = true := (fun _ => rfl)
def o22 (x : (List GEvent)) : List AV := [AV.own 47 5 (x.map o47)]
def r22 (x : (List GEvent)) : List AV := [AV.ro 5 (x.map o47)]
theorem t22 : ∀ x, treeL (o22 x) = true := fun _ => rfl
theorem z22 : ∀ x, frzL (o22 x) = r22 x := fun x => by simp only [o22, r22, frzL, frz, frzLLm z47]
theorem n22 : ∀ x, noRoL (o22 x) = true := fun x => by simp only [o22, noRoL, noRo, noRoM n47, Bool.and_self]
def o4 (x : Bool) : List AV := [B x]
def k4 (x : Bool) : AV := B x
theorem t4 : ∀ x, treeL (o4 x) = true := (fun _ => rfl)
theorem z4 : ∀ x, frzL (o4 x) = o4 x := (fun _ => rfl)
theorem n4 : ∀ x, noRoL (o4 x) = true := (fun _ => rfl)
theorem pa4 : ∀ x, (o4 x).all AV.plain = true := (fun _ => rfl)
def o40 (x : GEvent) : List AV := [I x.Thread, I x.Kind, I x.Obj, I x.Lock, I x.Pc]
theorem t40 : ∀ x, treeL (o40 x) = true := (fun _ => rfl)
theorem z40 : ∀ x, frzL (o40 x) = o40 x := (fun _ => rfl)
theorem n40 : ∀ x, noRoL (o40 x) = true := (fun _ => rfl)
theorem pa40 : ∀ x, (o40 x).all AV.plain = true := (fun _ => rfl)
def o26 (x : (List GEvent)) : List AV := [AV.own 40 5 (x.map o40)]
def r26 (x : (List GEvent)) : List AV := [AV.ro 5 (x.map o40)]
theorem t26 : ∀ x, treeL (o26 x) = true := fun _ => rfl
theorem z26 : ∀ x, frzL (o26 x) = r26 x := fun x => by simp only [o26, r26, frzL, frz, frzLLm z40]
theorem n26 : ∀ x, noRoL (o26 x) = true := fun x => by simp only [o26, noRoL, noRo, noRoM n40, Bool.and_self]
def o66 (x : (List Bool)) : List AV := [AV.own 4 1 (x.map o4)]
def r66 (x : (List Bool)) : List AV := [AV.ro 1 (x.map o4)]
theorem t66 : ∀ x, treeL (o66 x) = true := fun _ => rfl
theorem z66 : ∀ x, frzL (o66 x) = r66 x := fun x => by simp only [o66, r66, frzL, frz, frzLLm z4]
theorem n66 : ∀ x, noRoL (o66 x) = true := fun x => by simp only [o66, noRoL, noRo, noRoM n4, Bool.and_self]
def o64 (x : (List (List Bool))) : List AV := [AV.own 66 1 (x.map o66)]
def r64 (x : (List (List Bool))) : List AV := [AV.ro 1 (x.map r66)]
theorem t64 : ∀ x, treeL (o64 x) = true := fun _ => rfl
theorem z64 : ∀ x, frzL (o64 x) = r64 x := fun x => by simp only [o64, r64, frzL, frz, frzLLm z66]
theorem n64 : ∀ x, noRoL (o64 x) = true := fun x => by simp only [o64, noRoL, noRo, noRoM n66, Bool.and_self]
def o43 (x : (List Int)) : List AV := [AV.own 3 1 (x.map o3)]
def r43 (x : (List Int)) : List AV := [AV.ro 1 (x.map o3)]
def k43 (x : (List Int)) : AV := AV.own 3 1 (x.map o3)
theorem t43 : ∀ x, treeL (o43 x) = true := fun _ => rfl
theorem z43 : ∀ x, frzL (o43 x) = r43 x := fun x => by simp only [o43, r43, frzL, frz, frzLLm z3]
theorem n43 : ∀ x, noRoL (o43 x) = true := fun x => by simp only [o43, noRoL, noRo, noRoM n3, Bool.and_self]
def o30 (x : (List (List Int))) : List AV := [AV.own 43 1 (x.map o43)]
def r30 (x : (List (List Int))) : List AV := [AV.ro 1 (x.map r43)]
theorem t30 : ∀ x, treeL (o30 x) = true := fun _ => rfl
theorem z30 : ∀ x, frzL (o30 x) = r30 x := fun x => by simp only [o30, r30, frzL, frz, frzLLm z43]
theorem n30 : ∀ x, noRoL (o30 x) = true := fun x => by simp only [o30, noRoL, noRo, noRoM n43, Bool.and_self]
def o45 (x : Gl7Cell) : List AV := [I x.cell, I x.by_, I x.at_, AV.own 3 1 (x.loads.map o3)]
def r45 (x : Gl7Cell) : List AV := [I x.cell, I x.by_, I x.at_, AV.ro 1 (x.loads.map o3)]
theorem t45 : ∀ x, treeL (o45 x) = true := fun _ => rfl
theorem z45 : ∀ x, frzL (o45 x) = r45 x := fun x => by simp only [o45, r45, frzL, frz, frzLLm z3]
theorem n45 : ∀ x, noRoL (o45 x) = true := fun x => by simp only [o45, noRoL, noRo, noRoM n3, Bool.and_self]
def o38 (x : (List Gl7Cell)) : List AV := [AV.own 45 4 (x.map o45)]
def r38 (x : (List Gl7Cell)) : List AV := [AV.ro 4 (x.map r45)]
theorem t38 : ∀ x, treeL (o38 x) = true := fun _ => rfl
theorem z38 : ∀ x, frzL (o38 x) = r38 x := fun x => by simp only [o38, r38, frzL, frz, frzLLm z45]
theorem n38 : ∀ x, noRoL (o38 x) = true := fun x => by simp only [o38, noRoL, noRo, noRoM n45, Bool.and_self]
def o48 (x : (Vector Int 5)) : List AV := (x.toList.map k3)
theorem t48 : ∀ x, treeL (o48 x) = true := fun x => vecTree k3 (fun _ => rfl)
theorem z48 : ∀ x, frzL (o48 x) = o48 x := fun x => vecFrz k3 (fun _ => rfl)
theorem n48 : ∀ x, noRoL (o48 x) = true := fun x => vecNoRo k3 (fun _ => rfl)
theorem pa48 : ∀ x, (o48 x).all AV.plain = true := fun x => vecAll k3 (fun _ => rfl)
def o50 (x : Gtouched) : List AV := [I x.thread, I x.number] ++ (x.loads.toList.map k3)
theorem ln50 : ∀ x, (o50 x).length = 7 := fun x => by simp [o50]
theorem ok50 : ∀ x, (o50 x).all okLit = true := fun x => by rw [o50, List.all_append, vecAll k3 (fun _ => rfl)]; rfl
theorem t50 : ∀ x, treeL (o50 x) = true := fun x => treeApp rfl (vecTree k3 (fun _ => rfl))
def o51 (x : (Vector Gtouched 100)) : List AV := (x.toList.flatMap o50)
theorem t51 : ∀ x, treeL (o51 x) = true := fun x => fmTree t50
def o70 (x : Int) : List AV := [IK .u64 x]
def k70 (x : Int) : AV := IK .u64 x
theorem t70 : ∀ x, treeL (o70 x) = true := (fun _ => rfl)
theorem z70 : ∀ x, frzL (o70 x) = o70 x := (fun _ => rfl)
theorem n70 : ∀ x, noRoL (o70 x) = true := (fun _ => rfl)
theorem pa70 : ∀ x, (o70 x).all AV.plain = true := (fun _ => rfl)
def o72 (x : (Vector Int 4)) : List AV := (x.toList.map k70)
theorem t72 : ∀ x, treeL (o72 x) = true := fun x => vecTree k70 (fun _ => rfl)
theorem z72 : ∀ x, frzL (o72 x) = o72 x := fun x => vecFrz k70 (fun _ => rfl)
theorem n72 : ∀ x, noRoL (o72 x) = true := fun x => vecNoRo k70 (fun _ => rfl)
theorem pa72 : ∀ x, (o72 x).all AV.plain = true := fun x => vecAll k70 (fun _ => rfl)
def o68 (x : (List (Vector Int 4))) : List AV := [AV.own 72 4 (x.map o72)]
def r68 (x : (List (Vector Int 4))) : List AV := [AV.ro 4 (x.map o72)]
theorem t68 : ∀ x, treeL (o68 x) = true := fun _ => rfl
theorem z68 : ∀ x, frzL (o68 x) = r68 x := fun x => by simp only [o68, r68, frzL, frz, frzLLm z72]
theorem n68 : ∀ x, noRoL (o68 x) = true := fun x => by simp only [o68, noRoL, noRo, noRoM n72, Bool.and_self]
def o58 (x : (Vector (List Int) 100)) : List AV := (x.toList.map k43)
def r58 (x : (Vector (List Int) 100)) : List AV := (x.toList.flatMap r43)
theorem t58 : ∀ x, treeL (o58 x) = true := fun x => vecTree k43 (fun _ => rfl)
def o59 (x : (Vector Bool 100)) : List AV := (x.toList.map k4)
theorem t59 : ∀ x, treeL (o59 x) = true := fun x => vecTree k4 (fun _ => rfl)
theorem z59 : ∀ x, frzL (o59 x) = o59 x := fun x => vecFrz k4 (fun _ => rfl)
theorem n59 : ∀ x, noRoL (o59 x) = true := fun x => vecNoRo k4 (fun _ => rfl)
theorem pa59 : ∀ x, (o59 x).all AV.plain = true := fun x => vecAll k4 (fun _ => rfl)
end Go.Proofs.Ythhcnmideecfpaa
