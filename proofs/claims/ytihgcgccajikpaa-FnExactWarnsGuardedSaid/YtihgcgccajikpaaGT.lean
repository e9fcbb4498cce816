/- The types of this seat, as plain data and in memory; no condition. -/

import Derived.Test.YtihgcgccajikpaaProg
import Derived.Test.YtihgcgccajikpaaBN
set_option linter.unusedVariables false
namespace Go.Proofs.Ytihgcgccajikpaa
open Go Go.T
def Θ : Tys := [(3, ⟨1, 8, .int .i64, [.int .i64 0]⟩),
  (4, ⟨1, 1, .bool, [.bool false]⟩),
  (5, ⟨1, 1, .int .u8, [.int .u8 0]⟩),
  (33, ⟨1, 24, .slice 3, [.slice none 0 0]⟩),
  (9, ⟨1, 16, .string, [.string ⟨#[]⟩]⟩),
  (64, ⟨5, 40, .struct #[⟨"Thread", 3, 0, false, "", "", 0⟩, ⟨"Kind", 3, 1, false, "", "", 8⟩, ⟨"Obj", 3, 2, false, "", "", 16⟩, ⟨"Lock", 3, 3, false, "", "", 24⟩, ⟨"Pc", 3, 4, false, "", "", 32⟩], [.int .i64 0, .int .i64 0, .int .i64 0, .int .i64 0, .int .i64 0]⟩),
  (24, ⟨1, 24, .slice 51, [.slice none 0 0]⟩),
  (51, ⟨3, 24, .struct #[⟨"Cell", 3, 0, false, "", "", 0⟩, ⟨"One", 3, 1, false, "", "", 8⟩, ⟨"Two", 3, 2, false, "", "", 16⟩], [.int .i64 0, .int .i64 0, .int .i64 0]⟩),
  (43, ⟨1, 24, .slice 33, [.slice none 0 0]⟩),
  (22, ⟨1, 24, .slice 53, [.slice none 0 0]⟩),
  (36, ⟨1, 24, .slice 64, [.slice none 0 0]⟩),
  (31, ⟨1, 24, .slice 66, [.slice none 0 0]⟩),
  (53, ⟨3, 24, .struct #[⟨"Cell", 3, 0, false, "", "", 0⟩, ⟨"One", 3, 1, false, "", "", 8⟩, ⟨"Two", 3, 2, false, "", "", 16⟩], [.int .i64 0, .int .i64 0, .int .i64 0]⟩),
  (85, ⟨4, 32, .struct #[⟨"Had", 3, 0, false, "", "", 0⟩, ⟨"Taken", 3, 1, false, "", "", 8⟩, ⟨"Thread", 3, 2, false, "", "", 16⟩, ⟨"At", 3, 3, false, "", "", 24⟩], [.int .i64 0, .int .i64 0, .int .i64 0, .int .i64 0]⟩),
  (58, ⟨1, 24, .slice 61, [.slice none 0 0]⟩),
  (61, ⟨3, 24, .struct #[⟨"Cell", 3, 0, false, "", "", 0⟩, ⟨"First", 3, 1, false, "", "", 8⟩, ⟨"Second", 3, 2, false, "", "", 16⟩], [.int .i64 0, .int .i64 0, .int .i64 0]⟩),
  (70, ⟨5, 40, .array 5 3, [.int .i64 0, .int .i64 0, .int .i64 0, .int .i64 0, .int .i64 0]⟩),
  (66, ⟨5, 40, .struct #[⟨"Thread", 3, 0, false, "", "", 0⟩, ⟨"Kind", 3, 1, false, "", "", 8⟩, ⟨"Obj", 3, 2, false, "", "", 16⟩, ⟨"Lock", 3, 3, false, "", "", 24⟩, ⟨"Pc", 3, 4, false, "", "", 32⟩], [.int .i64 0, .int .i64 0, .int .i64 0, .int .i64 0, .int .i64 0]⟩),
  (80, ⟨1, 24, .slice 85, [.slice none 0 0]⟩),
  (104, ⟨4, 32, .array 4 102, [.int .u64 0, .int .u64 0, .int .u64 0, .int .u64 0]⟩),
  (102, ⟨1, 8, .int .u64, [.int .u64 0]⟩),
  (98, ⟨1, 24, .slice 4, [.slice none 0 0]⟩),
  (163, ⟨1, 8, .int .u64, [.int .u64 0]⟩),
  (129, ⟨1, 8, .int .u64, [.int .u64 0]⟩),
  (93, ⟨1, 24, .slice 24, [.slice none 0 0]⟩),
  (136, ⟨100, 800, .array 100 3, List.replicate 100 (.int .i64 0)⟩),
  (96, ⟨1, 24, .slice 98, [.slice none 0 0]⟩),
  (100, ⟨1, 24, .slice 104, [.slice none 0 0]⟩),
  (138, ⟨100, 100, .array 100 4, List.replicate 100 (.bool false)⟩),
  (149, ⟨1, 4, .int .u32, [.int .u32 0]⟩)]
theorem ty3 : tiOf Try.prog 3 = some ⟨1, 8, .int .i64, [.int .i64 0]⟩ := by kernel_rfl
theorem ty4 : tiOf Try.prog 4 = some ⟨1, 1, .bool, [.bool false]⟩ := by kernel_rfl
theorem ty5 : tiOf Try.prog 5 = some ⟨1, 1, .int .u8, [.int .u8 0]⟩ := by kernel_rfl
theorem ty33 : tiOf Try.prog 33 = some ⟨1, 24, .slice 3, [.slice none 0 0]⟩ := by kernel_rfl
theorem ty9 : tiOf Try.prog 9 = some ⟨1, 16, .string, [.string ⟨#[]⟩]⟩ := by kernel_rfl
theorem ty64 : tiOf Try.prog 64 = some ⟨5, 40, .struct #[⟨"Thread", 3, 0, false, "", "", 0⟩, ⟨"Kind", 3, 1, false, "", "", 8⟩, ⟨"Obj", 3, 2, false, "", "", 16⟩, ⟨"Lock", 3, 3, false, "", "", 24⟩, ⟨"Pc", 3, 4, false, "", "", 32⟩], [.int .i64 0, .int .i64 0, .int .i64 0, .int .i64 0, .int .i64 0]⟩ := by kernel_rfl
theorem ty24 : tiOf Try.prog 24 = some ⟨1, 24, .slice 51, [.slice none 0 0]⟩ := by kernel_rfl
theorem ty51 : tiOf Try.prog 51 = some ⟨3, 24, .struct #[⟨"Cell", 3, 0, false, "", "", 0⟩, ⟨"One", 3, 1, false, "", "", 8⟩, ⟨"Two", 3, 2, false, "", "", 16⟩], [.int .i64 0, .int .i64 0, .int .i64 0]⟩ := by kernel_rfl
theorem ty43 : tiOf Try.prog 43 = some ⟨1, 24, .slice 33, [.slice none 0 0]⟩ := by kernel_rfl
theorem ty22 : tiOf Try.prog 22 = some ⟨1, 24, .slice 53, [.slice none 0 0]⟩ := by kernel_rfl
theorem ty36 : tiOf Try.prog 36 = some ⟨1, 24, .slice 64, [.slice none 0 0]⟩ := by kernel_rfl
theorem ty31 : tiOf Try.prog 31 = some ⟨1, 24, .slice 66, [.slice none 0 0]⟩ := by kernel_rfl
theorem ty53 : tiOf Try.prog 53 = some ⟨3, 24, .struct #[⟨"Cell", 3, 0, false, "", "", 0⟩, ⟨"One", 3, 1, false, "", "", 8⟩, ⟨"Two", 3, 2, false, "", "", 16⟩], [.int .i64 0, .int .i64 0, .int .i64 0]⟩ := by kernel_rfl
theorem ty85 : tiOf Try.prog 85 = some ⟨4, 32, .struct #[⟨"Had", 3, 0, false, "", "", 0⟩, ⟨"Taken", 3, 1, false, "", "", 8⟩, ⟨"Thread", 3, 2, false, "", "", 16⟩, ⟨"At", 3, 3, false, "", "", 24⟩], [.int .i64 0, .int .i64 0, .int .i64 0, .int .i64 0]⟩ := by kernel_rfl
theorem ty58 : tiOf Try.prog 58 = some ⟨1, 24, .slice 61, [.slice none 0 0]⟩ := by kernel_rfl
theorem ty61 : tiOf Try.prog 61 = some ⟨3, 24, .struct #[⟨"Cell", 3, 0, false, "", "", 0⟩, ⟨"First", 3, 1, false, "", "", 8⟩, ⟨"Second", 3, 2, false, "", "", 16⟩], [.int .i64 0, .int .i64 0, .int .i64 0]⟩ := by kernel_rfl
theorem ty70 : tiOf Try.prog 70 = some ⟨5, 40, .array 5 3, [.int .i64 0, .int .i64 0, .int .i64 0, .int .i64 0, .int .i64 0]⟩ := by kernel_rfl
theorem ty66 : tiOf Try.prog 66 = some ⟨5, 40, .struct #[⟨"Thread", 3, 0, false, "", "", 0⟩, ⟨"Kind", 3, 1, false, "", "", 8⟩, ⟨"Obj", 3, 2, false, "", "", 16⟩, ⟨"Lock", 3, 3, false, "", "", 24⟩, ⟨"Pc", 3, 4, false, "", "", 32⟩], [.int .i64 0, .int .i64 0, .int .i64 0, .int .i64 0, .int .i64 0]⟩ := by kernel_rfl
theorem ty80 : tiOf Try.prog 80 = some ⟨1, 24, .slice 85, [.slice none 0 0]⟩ := by kernel_rfl
theorem ty104 : tiOf Try.prog 104 = some ⟨4, 32, .array 4 102, [.int .u64 0, .int .u64 0, .int .u64 0, .int .u64 0]⟩ := by kernel_rfl
theorem ty102 : tiOf Try.prog 102 = some ⟨1, 8, .int .u64, [.int .u64 0]⟩ := by kernel_rfl
theorem ty98 : tiOf Try.prog 98 = some ⟨1, 24, .slice 4, [.slice none 0 0]⟩ := by kernel_rfl
theorem ty163 : tiOf Try.prog 163 = some ⟨1, 8, .int .u64, [.int .u64 0]⟩ := by kernel_rfl
theorem ty129 : tiOf Try.prog 129 = some ⟨1, 8, .int .u64, [.int .u64 0]⟩ := by kernel_rfl
theorem ty93 : tiOf Try.prog 93 = some ⟨1, 24, .slice 24, [.slice none 0 0]⟩ := by kernel_rfl
theorem ty136 : tiOf Try.prog 136 = some ⟨100, 800, .array 100 3, List.replicate 100 (.int .i64 0)⟩ := by kernel_rfl
theorem ty96 : tiOf Try.prog 96 = some ⟨1, 24, .slice 98, [.slice none 0 0]⟩ := by kernel_rfl
theorem ty100 : tiOf Try.prog 100 = some ⟨1, 24, .slice 104, [.slice none 0 0]⟩ := by kernel_rfl
theorem ty138 : tiOf Try.prog 138 = some ⟨100, 100, .array 100 4, List.replicate 100 (.bool false)⟩ := by kernel_rfl
theorem ty149 : tiOf Try.prog 149 = some ⟨1, 4, .int .u32, [.int .u32 0]⟩ := by kernel_rfl
theorem Θ_ok : TOK Try.prog Θ := ⟨ty3, ty4, ty5, ty33, ty9, ty64, ty24, ty51, ty43, ty22, ty36, ty31, ty53, ty85, ty58, ty61, ty70, ty66, ty80, ty104, ty102, ty98, ty163, ty129, ty93, ty136, ty96, ty100, ty138, ty149, trivial⟩
theorem mixed : Try.prog.follows .mixedOrders = true := by kernel_rfl
structure GPair where
  Cell : Int
  One : Int
  Two : Int
  deriving DecidableEq
structure GEvent where
  Thread : Int
  Kind : Int
  Obj : Int
  Lock : Int
  Pc : Int
  deriving DecidableEq
structure GRace where
  Cell : Int
  First : Int
  Second : Int
  deriving DecidableEq
structure GUnder where
  Had : Int
  Taken : Int
  Thread : Int
  At : Int
  deriving DecidableEq
def wfGPair (x : GPair) : Prop := ((Lit.int .i64 x.Cell).wf = true) ∧ ((Lit.int .i64 x.One).wf = true) ∧ ((Lit.int .i64 x.Two).wf = true)
def wfGEvent (x : GEvent) : Prop := ((Lit.int .i64 x.Thread).wf = true) ∧ ((Lit.int .i64 x.Kind).wf = true) ∧ ((Lit.int .i64 x.Obj).wf = true) ∧ ((Lit.int .i64 x.Lock).wf = true) ∧ ((Lit.int .i64 x.Pc).wf = true)
def wfGRace (x : GRace) : Prop := ((Lit.int .i64 x.Cell).wf = true) ∧ ((Lit.int .i64 x.First).wf = true) ∧ ((Lit.int .i64 x.Second).wf = true)
def wfGUnder (x : GUnder) : Prop := ((Lit.int .i64 x.Had).wf = true) ∧ ((Lit.int .i64 x.Taken).wf = true) ∧ ((Lit.int .i64 x.Thread).wf = true) ∧ ((Lit.int .i64 x.At).wf = true)
def o3 (x : Int) : List AV := [I x]
def k3 (x : Int) : AV := I x
theorem t3 : ∀ x, treeL (o3 x) = true := (fun _ => rfl)
theorem z3 : ∀ x, frzL (o3 x) = o3 x := (fun _ => rfl)
theorem n3 : ∀ x, noRoL (o3 x) = true := (fun _ => rfl)
theorem pa3 : ∀ x, (o3 x).all AV.plain = true := (fun _ => rfl)
def o53 (x : GPair) : List AV := [I x.Cell, I x.One, I x.Two]
theorem t53 : ∀ x, treeL (o53 x) = true := (fun _ => rfl)
theorem z53 : ∀ x, frzL (o53 x) = o53 x := (fun _ => rfl)
theorem n53 : ∀ x, noRoL (o53 x) = true := (fun _ => rfl)
theorem pa53 : ∀ x, (o53 x).all AV.plain = true := (fun _ => rfl)
def o22 (x : (List GPair)) : List AV := [AV.own 53 3 (x.map o53)]
def r22 (x : (List GPair)) : List AV := [AV.ro 3 (x.map o53)]
theorem t22 : ∀ x, treeL (o22 x) = true := fun _ => rfl
theorem z22 : ∀ x, frzL (o22 x) = r22 x := fun x => by simp only [o22, r22, frzL, frz, frzLLm z53]
theorem n22 : ∀ x, noRoL (o22 x) = true := fun x => by simp only [o22, noRoL, noRo, noRoM n53, Bool.and_self]
def o4 (x : Bool) : List AV := [B x]
def k4 (x : Bool) : AV := B x
theorem t4 : ∀ x, treeL (o4 x) = true := (fun _ => rfl)
theorem z4 : ∀ x, frzL (o4 x) = o4 x := (fun _ => rfl)
theorem n4 : ∀ x, noRoL (o4 x) = true := (fun _ => rfl)
theorem pa4 : ∀ x, (o4 x).all AV.plain = true := (fun _ => rfl)
def o51 (x : GPair) : List AV := [I x.Cell, I x.One, I x.Two]
theorem t51 : ∀ x, treeL (o51 x) = true := (fun _ => rfl)
theorem z51 : ∀ x, frzL (o51 x) = o51 x := (fun _ => rfl)
theorem n51 : ∀ x, noRoL (o51 x) = true := (fun _ => rfl)
theorem pa51 : ∀ x, (o51 x).all AV.plain = true := (fun _ => rfl)
def o24 (x : (List GPair)) : List AV := [AV.own 51 3 (x.map o51)]
def r24 (x : (List GPair)) : List AV := [AV.ro 3 (x.map o51)]
theorem t24 : ∀ x, treeL (o24 x) = true := fun _ => rfl
theorem z24 : ∀ x, frzL (o24 x) = r24 x := fun x => by simp only [o24, r24, frzL, frz, frzLLm z51]
theorem n24 : ∀ x, noRoL (o24 x) = true := fun x => by simp only [o24, noRoL, noRo, noRoM n51, Bool.and_self]
def o33 (x : (List Int)) : List AV := [AV.own 3 1 (x.map o3)]
def r33 (x : (List Int)) : List AV := [AV.ro 1 (x.map o3)]
theorem t33 : ∀ x, treeL (o33 x) = true := fun _ => rfl
theorem z33 : ∀ x, frzL (o33 x) = r33 x := fun x => by simp only [o33, r33, frzL, frz, frzLLm z3]
theorem n33 : ∀ x, noRoL (o33 x) = true := fun x => by simp only [o33, noRoL, noRo, noRoM n3, Bool.and_self]
def o93 (x : (List (List GPair))) : List AV := [AV.own 24 1 (x.map o24)]
def r93 (x : (List (List GPair))) : List AV := [AV.ro 1 (x.map r24)]
theorem t93 : ∀ x, treeL (o93 x) = true := fun _ => rfl
theorem z93 : ∀ x, frzL (o93 x) = r93 x := fun x => by simp only [o93, r93, frzL, frz, frzLLm z24]
theorem n93 : ∀ x, noRoL (o93 x) = true := fun x => by simp only [o93, noRoL, noRo, noRoM n24, Bool.and_self]
def o66 (x : GEvent) : List AV := [I x.Thread, I x.Kind, I x.Obj, I x.Lock, I x.Pc]
theorem t66 : ∀ x, treeL (o66 x) = true := (fun _ => rfl)
theorem z66 : ∀ x, frzL (o66 x) = o66 x := (fun _ => rfl)
theorem n66 : ∀ x, noRoL (o66 x) = true := (fun _ => rfl)
theorem pa66 : ∀ x, (o66 x).all AV.plain = true := (fun _ => rfl)
def o31 (x : (List GEvent)) : List AV := [AV.own 66 5 (x.map o66)]
def r31 (x : (List GEvent)) : List AV := [AV.ro 5 (x.map o66)]
theorem t31 : ∀ x, treeL (o31 x) = true := fun _ => rfl
theorem z31 : ∀ x, frzL (o31 x) = r31 x := fun x => by simp only [o31, r31, frzL, frz, frzLLm z66]
theorem n31 : ∀ x, noRoL (o31 x) = true := fun x => by simp only [o31, noRoL, noRo, noRoM n66, Bool.and_self]
def o64 (x : GEvent) : List AV := [I x.Thread, I x.Kind, I x.Obj, I x.Lock, I x.Pc]
theorem t64 : ∀ x, treeL (o64 x) = true := (fun _ => rfl)
theorem z64 : ∀ x, frzL (o64 x) = o64 x := (fun _ => rfl)
theorem n64 : ∀ x, noRoL (o64 x) = true := (fun _ => rfl)
theorem pa64 : ∀ x, (o64 x).all AV.plain = true := (fun _ => rfl)
def o36 (x : (List GEvent)) : List AV := [AV.own 64 5 (x.map o64)]
def r36 (x : (List GEvent)) : List AV := [AV.ro 5 (x.map o64)]
theorem t36 : ∀ x, treeL (o36 x) = true := fun _ => rfl
theorem z36 : ∀ x, frzL (o36 x) = r36 x := fun x => by simp only [o36, r36, frzL, frz, frzLLm z64]
theorem n36 : ∀ x, noRoL (o36 x) = true := fun x => by simp only [o36, noRoL, noRo, noRoM n64, Bool.and_self]
def o61 (x : GRace) : List AV := [I x.Cell, I x.First, I x.Second]
theorem t61 : ∀ x, treeL (o61 x) = true := (fun _ => rfl)
theorem z61 : ∀ x, frzL (o61 x) = o61 x := (fun _ => rfl)
theorem n61 : ∀ x, noRoL (o61 x) = true := (fun _ => rfl)
theorem pa61 : ∀ x, (o61 x).all AV.plain = true := (fun _ => rfl)
def o98 (x : (List Bool)) : List AV := [AV.own 4 1 (x.map o4)]
def r98 (x : (List Bool)) : List AV := [AV.ro 1 (x.map o4)]
theorem t98 : ∀ x, treeL (o98 x) = true := fun _ => rfl
theorem z98 : ∀ x, frzL (o98 x) = r98 x := fun x => by simp only [o98, r98, frzL, frz, frzLLm z4]
theorem n98 : ∀ x, noRoL (o98 x) = true := fun x => by simp only [o98, noRoL, noRo, noRoM n4, Bool.and_self]
def o96 (x : (List (List Bool))) : List AV := [AV.own 98 1 (x.map o98)]
def r96 (x : (List (List Bool))) : List AV := [AV.ro 1 (x.map r98)]
theorem t96 : ∀ x, treeL (o96 x) = true := fun _ => rfl
theorem z96 : ∀ x, frzL (o96 x) = r96 x := fun x => by simp only [o96, r96, frzL, frz, frzLLm z98]
theorem n96 : ∀ x, noRoL (o96 x) = true := fun x => by simp only [o96, noRoL, noRo, noRoM n98, Bool.and_self]
def o58 (x : (List GRace)) : List AV := [AV.own 61 3 (x.map o61)]
def r58 (x : (List GRace)) : List AV := [AV.ro 3 (x.map o61)]
theorem t58 : ∀ x, treeL (o58 x) = true := fun _ => rfl
theorem z58 : ∀ x, frzL (o58 x) = r58 x := fun x => by simp only [o58, r58, frzL, frz, frzLLm z61]
theorem n58 : ∀ x, noRoL (o58 x) = true := fun x => by simp only [o58, noRoL, noRo, noRoM n61, Bool.and_self]
def o102 (x : Int) : List AV := [IK .u64 x]
def k102 (x : Int) : AV := IK .u64 x
theorem t102 : ∀ x, treeL (o102 x) = true := (fun _ => rfl)
theorem z102 : ∀ x, frzL (o102 x) = o102 x := (fun _ => rfl)
theorem n102 : ∀ x, noRoL (o102 x) = true := (fun _ => rfl)
theorem pa102 : ∀ x, (o102 x).all AV.plain = true := (fun _ => rfl)
def o104 (x : (Vector Int 4)) : List AV := (x.toList.map k102)
theorem t104 : ∀ x, treeL (o104 x) = true := fun x => vecTree k102 (fun _ => rfl)
theorem z104 : ∀ x, frzL (o104 x) = o104 x := fun x => vecFrz k102 (fun _ => rfl)
theorem n104 : ∀ x, noRoL (o104 x) = true := fun x => vecNoRo k102 (fun _ => rfl)
theorem pa104 : ∀ x, (o104 x).all AV.plain = true := fun x => vecAll k102 (fun _ => rfl)
def o100 (x : (List (Vector Int 4))) : List AV := [AV.own 104 4 (x.map o104)]
def r100 (x : (List (Vector Int 4))) : List AV := [AV.ro 4 (x.map o104)]
theorem t100 : ∀ x, treeL (o100 x) = true := fun _ => rfl
theorem z100 : ∀ x, frzL (o100 x) = r100 x := fun x => by simp only [o100, r100, frzL, frz, frzLLm z104]
theorem n100 : ∀ x, noRoL (o100 x) = true := fun x => by simp only [o100, noRoL, noRo, noRoM n104, Bool.and_self]
def o43 (x : (List (List Int))) : List AV := [AV.own 33 1 (x.map o33)]
def r43 (x : (List (List Int))) : List AV := [AV.ro 1 (x.map r33)]
theorem t43 : ∀ x, treeL (o43 x) = true := fun _ => rfl
theorem z43 : ∀ x, frzL (o43 x) = r43 x := fun x => by simp only [o43, r43, frzL, frz, frzLLm z33]
theorem n43 : ∀ x, noRoL (o43 x) = true := fun x => by simp only [o43, noRoL, noRo, noRoM n33, Bool.and_self]
def o85 (x : GUnder) : List AV := [I x.Had, I x.Taken, I x.Thread, I x.At]
theorem t85 : ∀ x, treeL (o85 x) = true := (fun _ => rfl)
theorem z85 : ∀ x, frzL (o85 x) = o85 x := (fun _ => rfl)
theorem n85 : ∀ x, noRoL (o85 x) = true := (fun _ => rfl)
theorem pa85 : ∀ x, (o85 x).all AV.plain = true := (fun _ => rfl)
def o80 (x : (List GUnder)) : List AV := [AV.own 85 4 (x.map o85)]
def r80 (x : (List GUnder)) : List AV := [AV.ro 4 (x.map o85)]
theorem t80 : ∀ x, treeL (o80 x) = true := fun _ => rfl
theorem z80 : ∀ x, frzL (o80 x) = r80 x := fun x => by simp only [o80, r80, frzL, frz, frzLLm z85]
theorem n80 : ∀ x, noRoL (o80 x) = true := fun x => by simp only [o80, noRoL, noRo, noRoM n85, Bool.and_self]
def o138 (x : (Vector Bool 100)) : List AV := (x.toList.map k4)
theorem t138 : ∀ x, treeL (o138 x) = true := fun x => vecTree k4 (fun _ => rfl)
theorem z138 : ∀ x, frzL (o138 x) = o138 x := fun x => vecFrz k4 (fun _ => rfl)
theorem n138 : ∀ x, noRoL (o138 x) = true := fun x => vecNoRo k4 (fun _ => rfl)
theorem pa138 : ∀ x, (o138 x).all AV.plain = true := fun x => vecAll k4 (fun _ => rfl)
def o70 (x : (Vector Int 5)) : List AV := (x.toList.map k3)
theorem t70 : ∀ x, treeL (o70 x) = true := fun x => vecTree k3 (fun _ => rfl)
theorem z70 : ∀ x, frzL (o70 x) = o70 x := fun x => vecFrz k3 (fun _ => rfl)
theorem n70 : ∀ x, noRoL (o70 x) = true := fun x => vecNoRo k3 (fun _ => rfl)
theorem pa70 : ∀ x, (o70 x).all AV.plain = true := fun x => vecAll k3 (fun _ => rfl)
def o136 (x : (Vector Int 100)) : List AV := (x.toList.map k3)
theorem t136 : ∀ x, treeL (o136 x) = true := fun x => vecTree k3 (fun _ => rfl)
theorem z136 : ∀ x, frzL (o136 x) = o136 x := fun x => vecFrz k3 (fun _ => rfl)
theorem n136 : ∀ x, noRoL (o136 x) = true := fun x => vecNoRo k3 (fun _ => rfl)
theorem pa136 : ∀ x, (o136 x).all AV.plain = true := fun x => vecAll k3 (fun _ => rfl)
def o129 (x : Int) : List AV := [IK .u64 x]
def k129 (x : Int) : AV := IK .u64 x
theorem t129 : ∀ x, treeL (o129 x) = true := (fun _ => rfl)
theorem z129 : ∀ x, frzL (o129 x) = o129 x := (fun _ => rfl)
theorem n129 : ∀ x, noRoL (o129 x) = true := (fun _ => rfl)
theorem pa129 : ∀ x, (o129 x).all AV.plain = true := (fun _ => rfl)
def o5 (x : Int) : List AV := [IK .u8 x]
def k5 (x : Int) : AV := IK .u8 x
theorem t5 : ∀ x, treeL (o5 x) = true := (fun _ => rfl)
theorem z5 : ∀ x, frzL (o5 x) = o5 x := (fun _ => rfl)
theorem n5 : ∀ x, noRoL (o5 x) = true := (fun _ => rfl)
theorem pa5 : ∀ x, (o5 x).all AV.plain = true := (fun _ => rfl)
def o9 (x : Str) : List AV := [SK x]
def k9 (x : Str) : AV := SK x
theorem t9 : ∀ x, treeL (o9 x) = true := (fun _ => rfl)
theorem z9 : ∀ x, frzL (o9 x) = o9 x := (fun _ => rfl)
theorem n9 : ∀ x, noRoL (o9 x) = true := (fun _ => rfl)
theorem pa9 : ∀ x, (o9 x).all AV.plain = true := (fun _ => rfl)
def o149 (x : Int) : List AV := [IK .u32 x]
def k149 (x : Int) : AV := IK .u32 x
theorem t149 : ∀ x, treeL (o149 x) = true := (fun _ => rfl)
theorem z149 : ∀ x, frzL (o149 x) = o149 x := (fun _ => rfl)
theorem n149 : ∀ x, noRoL (o149 x) = true := (fun _ => rfl)
theorem pa149 : ∀ x, (o149 x).all AV.plain = true := (fun _ => rfl)
def o163 (x : Int) : List AV := [IK .u64 x]
def k163 (x : Int) : AV := IK .u64 x
theorem t163 : ∀ x, treeL (o163 x) = true := (fun _ => rfl)
theorem z163 : ∀ x, frzL (o163 x) = o163 x := (fun _ => rfl)
theorem n163 : ∀ x, noRoL (o163 x) = true := (fun _ => rfl)
theorem pa163 : ∀ x, (o163 x).all AV.plain = true := (fun _ => rfl)
theorem eqs51 (x y : GPair) : BinS Try.prog .eql 51 (.agg (o51 x)) (.agg (o51 y)) (B (decide (x = y))) := eqS Θ_ok ty51 (by kernel_rfl) (by kernel_rfl) (us := [.int .i64 x.Cell, .int .i64 x.One, .int .i64 x.Two]) (vs := [.int .i64 y.Cell, .int .i64 y.One, .int .i64 y.Two]) (r := ((x.Cell == y.Cell) && ((x.One == y.One) && ((x.Two == y.Two) && true)))) (by kernel_rfl) (by rw [Bool.eq_iff_iff]; cases x; cases y; simp)
theorem nes51 (x y : GPair) : BinS Try.prog .neq 51 (.agg (o51 x)) (.agg (o51 y)) (B (!(decide (x = y)))) := neS Θ_ok ty51 (by kernel_rfl) (by kernel_rfl) (us := [.int .i64 x.Cell, .int .i64 x.One, .int .i64 x.Two]) (vs := [.int .i64 y.Cell, .int .i64 y.One, .int .i64 y.Two]) (r := ((x.Cell == y.Cell) && ((x.One == y.One) && ((x.Two == y.Two) && true)))) (by kernel_rfl) (by rw [Bool.eq_iff_iff]; cases x; cases y; simp)
end Go.Proofs.Ytihgcgccajikpaa
