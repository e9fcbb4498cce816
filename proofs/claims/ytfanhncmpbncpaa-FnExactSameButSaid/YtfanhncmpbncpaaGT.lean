/- The types of this seat, as plain data and in memory; no condition. -/

import Derived.Test.YtfanhncmpbncpaaProg
import Derived.Test.YtfanhncmpbncpaaBG
set_option linter.unusedVariables false
namespace Go.Proofs.Ytfanhncmpbncpaa
open Go Go.T
def Θ : Tys := [(3, ⟨1, 8, .int .i64, [.int .i64 0]⟩),
  (50, ⟨5, 40, .struct #[⟨"Thread", 3, 0, false, "", "", 0⟩, ⟨"Kind", 3, 1, false, "", "", 8⟩, ⟨"Obj", 3, 2, false, "", "", 16⟩, ⟨"Lock", 3, 3, false, "", "", 24⟩, ⟨"Pc", 3, 4, false, "", "", 32⟩], [.int .i64 0, .int .i64 0, .int .i64 0, .int .i64 0, .int .i64 0]⟩),
  (4, ⟨1, 1, .bool, [.bool false]⟩),
  (26, ⟨1, 24, .slice 50, [.slice none 0 0]⟩),
  (32, ⟨1, 24, .slice 3, [.slice none 0 0]⟩),
  (22, ⟨1, 24, .slice 52, [.slice none 0 0]⟩),
  (42, ⟨1, 24, .slice 32, [.slice none 0 0]⟩),
  (55, ⟨1, 24, .slice 4, [.slice none 0 0]⟩),
  (78, ⟨4, 32, .array 4 76, [.int .u64 0, .int .u64 0, .int .u64 0, .int .u64 0]⟩),
  (52, ⟨5, 40, .struct #[⟨"Thread", 3, 0, false, "", "", 0⟩, ⟨"Kind", 3, 1, false, "", "", 8⟩, ⟨"Obj", 3, 2, false, "", "", 16⟩, ⟨"Lock", 3, 3, false, "", "", 24⟩, ⟨"Pc", 3, 4, false, "", "", 32⟩], [.int .i64 0, .int .i64 0, .int .i64 0, .int .i64 0, .int .i64 0]⟩),
  (66, ⟨5, 40, .array 5 3, [.int .i64 0, .int .i64 0, .int .i64 0, .int .i64 0, .int .i64 0]⟩),
  (65, ⟨4, 48, .struct #[⟨"cell", 3, 0, false, "", "loop.example/g00696/spec", 0⟩, ⟨"by", 3, 1, false, "", "loop.example/g00696/spec", 8⟩, ⟨"at", 3, 2, false, "", "loop.example/g00696/spec", 16⟩, ⟨"loads", 32, 3, false, "", "loop.example/g00696/spec", 24⟩], [.int .i64 0, .int .i64 0, .int .i64 0, .slice none 0 0]⟩),
  (76, ⟨1, 8, .int .u64, [.int .u64 0]⟩),
  (68, ⟨7, 56, .struct #[⟨"thread", 3, 0, false, "", "loop.example/g00696/impl", 0⟩, ⟨"number", 3, 1, false, "", "loop.example/g00696/impl", 8⟩, ⟨"loads", 66, 2, false, "", "loop.example/g00696/impl", 16⟩], [.int .i64 0, .int .i64 0, .int .i64 0, .int .i64 0, .int .i64 0, .int .i64 0, .int .i64 0]⟩),
  (72, ⟨1, 24, .slice 55, [.slice none 0 0]⟩),
  (61, ⟨1, 24, .slice 65, [.slice none 0 0]⟩),
  (74, ⟨1, 24, .slice 78, [.slice none 0 0]⟩),
  (69, ⟨700, 5600, .array 100 68, List.replicate 700 (.int .i64 0)⟩)]
theorem ty3 : tiOf Try.prog 3 = some ⟨1, 8, .int .i64, [.int .i64 0]⟩ := by kernel_rfl
theorem ty50 : tiOf Try.prog 50 = some ⟨5, 40, .struct #[⟨"Thread", 3, 0, false, "", "", 0⟩, ⟨"Kind", 3, 1, false, "", "", 8⟩, ⟨"Obj", 3, 2, false, "", "", 16⟩, ⟨"Lock", 3, 3, false, "", "", 24⟩, ⟨"Pc", 3, 4, false, "", "", 32⟩], [.int .i64 0, .int .i64 0, .int .i64 0, .int .i64 0, .int .i64 0]⟩ := by kernel_rfl
theorem ty4 : tiOf Try.prog 4 = some ⟨1, 1, .bool, [.bool false]⟩ := by kernel_rfl
theorem ty26 : tiOf Try.prog 26 = some ⟨1, 24, .slice 50, [.slice none 0 0]⟩ := by kernel_rfl
theorem ty32 : tiOf Try.prog 32 = some ⟨1, 24, .slice 3, [.slice none 0 0]⟩ := by kernel_rfl
theorem ty22 : tiOf Try.prog 22 = some ⟨1, 24, .slice 52, [.slice none 0 0]⟩ := by kernel_rfl
theorem ty42 : tiOf Try.prog 42 = some ⟨1, 24, .slice 32, [.slice none 0 0]⟩ := by kernel_rfl
theorem ty55 : tiOf Try.prog 55 = some ⟨1, 24, .slice 4, [.slice none 0 0]⟩ := by kernel_rfl
theorem ty78 : tiOf Try.prog 78 = some ⟨4, 32, .array 4 76, [.int .u64 0, .int .u64 0, .int .u64 0, .int .u64 0]⟩ := by kernel_rfl
theorem ty52 : tiOf Try.prog 52 = some ⟨5, 40, .struct #[⟨"Thread", 3, 0, false, "", "", 0⟩, ⟨"Kind", 3, 1, false, "", "", 8⟩, ⟨"Obj", 3, 2, false, "", "", 16⟩, ⟨"Lock", 3, 3, false, "", "", 24⟩, ⟨"Pc", 3, 4, false, "", "", 32⟩], [.int .i64 0, .int .i64 0, .int .i64 0, .int .i64 0, .int .i64 0]⟩ := by kernel_rfl
theorem ty66 : tiOf Try.prog 66 = some ⟨5, 40, .array 5 3, [.int .i64 0, .int .i64 0, .int .i64 0, .int .i64 0, .int .i64 0]⟩ := by kernel_rfl
theorem ty65 : tiOf Try.prog 65 = some ⟨4, 48, .struct #[⟨"cell", 3, 0, false, "", "loop.example/g00696/spec", 0⟩, ⟨"by", 3, 1, false, "", "loop.example/g00696/spec", 8⟩, ⟨"at", 3, 2, false, "", "loop.example/g00696/spec", 16⟩, ⟨"loads", 32, 3, false, "", "loop.example/g00696/spec", 24⟩], [.int .i64 0, .int .i64 0, .int .i64 0, .slice none 0 0]⟩ := by kernel_rfl
theorem ty76 : tiOf Try.prog 76 = some ⟨1, 8, .int .u64, [.int .u64 0]⟩ := by kernel_rfl
theorem ty68 : tiOf Try.prog 68 = some ⟨7, 56, .struct #[⟨"thread", 3, 0, false, "", "loop.example/g00696/impl", 0⟩, ⟨"number", 3, 1, false, "", "loop.example/g00696/impl", 8⟩, ⟨"loads", 66, 2, false, "", "loop.example/g00696/impl", 16⟩], [.int .i64 0, .int .i64 0, .int .i64 0, .int .i64 0, .int .i64 0, .int .i64 0, .int .i64 0]⟩ := by kernel_rfl
theorem ty72 : tiOf Try.prog 72 = some ⟨1, 24, .slice 55, [.slice none 0 0]⟩ := by kernel_rfl
theorem ty61 : tiOf Try.prog 61 = some ⟨1, 24, .slice 65, [.slice none 0 0]⟩ := by kernel_rfl
theorem ty74 : tiOf Try.prog 74 = some ⟨1, 24, .slice 78, [.slice none 0 0]⟩ := by kernel_rfl
theorem ty69 : tiOf Try.prog 69 = some ⟨700, 5600, .array 100 68, List.replicate 700 (.int .i64 0)⟩ := by kernel_rfl
theorem Θ_ok : TOK Try.prog Θ := ⟨ty3, ty50, ty4, ty26, ty32, ty22, ty42, ty55, ty78, ty52, ty66, ty65, ty76, ty68, ty72, ty61, ty74, ty69, trivial⟩
theorem mixed : Try.prog.follows .mixedOrders = true := by kernel_rfl
structure GEvent where
  Thread : Int
  Kind : Int
  Obj : Int
  Lock : Int
  Pc : Int
  deriving DecidableEq
structure Gl7Cell where
  cell : Int
  by_ : Int
  at_ : Int
  loads : (List Int)
  deriving DecidableEq
structure Gtouched where
  thread : Int
  number : Int
  loads : (Vector Int 5)
  deriving DecidableEq
def wfGEvent (x : GEvent) : Prop := ((Lit.int .i64 x.Thread).wf = true) ∧ ((Lit.int .i64 x.Kind).wf = true) ∧ ((Lit.int .i64 x.Obj).wf = true) ∧ ((Lit.int .i64 x.Lock).wf = true) ∧ ((Lit.int .i64 x.Pc).wf = true)
def wfGl7Cell (x : Gl7Cell) : Prop := ((Lit.int .i64 x.cell).wf = true) ∧ ((Lit.int .i64 x.by_).wf = true) ∧ ((Lit.int .i64 x.at_).wf = true) ∧ (x.loads.length ≤ 9223372036854775807 ∧ ∀ y0 ∈ x.loads, (Lit.int .i64 y0).wf = true)
def o3 (x : Int) : List AV := [I x]
def k3 (x : Int) : AV := I x
theorem t3 : ∀ x, treeL (o3 x) = true := (fun _ => rfl)
theorem z3 : ∀ x, frzL (o3 x) = o3 x := (fun _ => rfl)
theorem n3 : ∀ x, noRoL (o3 x) = true := (fun _ => rfl)
theorem p3 : ∀ x, (o3 x).all AV.plain = true := (fun _ => rfl)
def o52 (x : GEvent) : List AV := [I x.Thread, I x.Kind, I x.Obj, I x.Lock, I x.Pc]
theorem t52 : ∀ x, treeL (o52 x) = true := (fun _ => rfl)
theorem z52 : ∀ x, frzL (o52 x) = o52 x := (fun _ => rfl)
theorem n52 : ∀ x, noRoL (o52 x) = true := (fun _ => rfl)
theorem p52 : ∀ x, (o52 x).all AV.plain = true := (fun _ => rfl)
def o22 (x : (List GEvent)) : List AV := [AV.own 52 5 (x.map o52)]
def r22 (x : (List GEvent)) : List AV := [AV.ro 5 (x.map o52)]
theorem t22 : ∀ x, treeL (o22 x) = true := fun _ => rfl
theorem z22 : ∀ x, frzL (o22 x) = r22 x := fun x => by simp only [o22, r22, frzL, frz, frzLLm z52]
theorem n22 : ∀ x, noRoL (o22 x) = true := fun x => by simp only [o22, noRoL, noRo, noRoM n52, Bool.and_self]
def o4 (x : Bool) : List AV := [B x]
def k4 (x : Bool) : AV := B x
theorem t4 : ∀ x, treeL (o4 x) = true := (fun _ => rfl)
theorem z4 : ∀ x, frzL (o4 x) = o4 x := (fun _ => rfl)
theorem n4 : ∀ x, noRoL (o4 x) = true := (fun _ => rfl)
theorem p4 : ∀ x, (o4 x).all AV.plain = true := (fun _ => rfl)
def o50 (x : GEvent) : List AV := [I x.Thread, I x.Kind, I x.Obj, I x.Lock, I x.Pc]
theorem t50 : ∀ x, treeL (o50 x) = true := (fun _ => rfl)
theorem z50 : ∀ x, frzL (o50 x) = o50 x := (fun _ => rfl)
theorem n50 : ∀ x, noRoL (o50 x) = true := (fun _ => rfl)
theorem p50 : ∀ x, (o50 x).all AV.plain = true := (fun _ => rfl)
def o26 (x : (List GEvent)) : List AV := [AV.own 50 5 (x.map o50)]
def r26 (x : (List GEvent)) : List AV := [AV.ro 5 (x.map o50)]
theorem t26 : ∀ x, treeL (o26 x) = true := fun _ => rfl
theorem z26 : ∀ x, frzL (o26 x) = r26 x := fun x => by simp only [o26, r26, frzL, frz, frzLLm z50]
theorem n26 : ∀ x, noRoL (o26 x) = true := fun x => by simp only [o26, noRoL, noRo, noRoM n50, Bool.and_self]
def o32 (x : (List Int)) : List AV := [AV.own 3 1 (x.map o3)]
def r32 (x : (List Int)) : List AV := [AV.ro 1 (x.map o3)]
theorem t32 : ∀ x, treeL (o32 x) = true := fun _ => rfl
theorem z32 : ∀ x, frzL (o32 x) = r32 x := fun x => by simp only [o32, r32, frzL, frz, frzLLm z3]
theorem n32 : ∀ x, noRoL (o32 x) = true := fun x => by simp only [o32, noRoL, noRo, noRoM n3, Bool.and_self]
def o55 (x : (List Bool)) : List AV := [AV.own 4 1 (x.map o4)]
def r55 (x : (List Bool)) : List AV := [AV.ro 1 (x.map o4)]
theorem t55 : ∀ x, treeL (o55 x) = true := fun _ => rfl
theorem z55 : ∀ x, frzL (o55 x) = r55 x := fun x => by simp only [o55, r55, frzL, frz, frzLLm z4]
theorem n55 : ∀ x, noRoL (o55 x) = true := fun x => by simp only [o55, noRoL, noRo, noRoM n4, Bool.and_self]
def o66 (x : (Vector Int 5)) : List AV := (x.toList.map k3)
theorem t66 : ∀ x, treeL (o66 x) = true := fun x => vecTree k3 (fun _ => rfl)
theorem z66 : ∀ x, frzL (o66 x) = o66 x := fun x => vecFrz k3 (fun _ => rfl)
theorem n66 : ∀ x, noRoL (o66 x) = true := fun x => vecNoRo k3 (fun _ => rfl)
theorem p66 : ∀ x, (o66 x).all AV.plain = true := fun x => vecAll k3 (fun _ => rfl)
def o72 (x : (List (List Bool))) : List AV := [AV.own 55 1 (x.map o55)]
def r72 (x : (List (List Bool))) : List AV := [AV.ro 1 (x.map r55)]
theorem t72 : ∀ x, treeL (o72 x) = true := fun _ => rfl
theorem z72 : ∀ x, frzL (o72 x) = r72 x := fun x => by simp only [o72, r72, frzL, frz, frzLLm z55]
theorem n72 : ∀ x, noRoL (o72 x) = true := fun x => by simp only [o72, noRoL, noRo, noRoM n55, Bool.and_self]
def o42 (x : (List (List Int))) : List AV := [AV.own 32 1 (x.map o32)]
def r42 (x : (List (List Int))) : List AV := [AV.ro 1 (x.map r32)]
theorem t42 : ∀ x, treeL (o42 x) = true := fun _ => rfl
theorem z42 : ∀ x, frzL (o42 x) = r42 x := fun x => by simp only [o42, r42, frzL, frz, frzLLm z32]
theorem n42 : ∀ x, noRoL (o42 x) = true := fun x => by simp only [o42, noRoL, noRo, noRoM n32, Bool.and_self]
def o65 (x : Gl7Cell) : List AV := [I x.cell, I x.by_, I x.at_, AV.own 3 1 (x.loads.map o3)]
def r65 (x : Gl7Cell) : List AV := [I x.cell, I x.by_, I x.at_, AV.ro 1 (x.loads.map o3)]
theorem t65 : ∀ x, treeL (o65 x) = true := fun _ => rfl
theorem z65 : ∀ x, frzL (o65 x) = r65 x := fun x => by simp only [o65, r65, frzL, frz, frzLLm z3]
theorem n65 : ∀ x, noRoL (o65 x) = true := fun x => by simp only [o65, noRoL, noRo, noRoM n3, Bool.and_self]
def o61 (x : (List Gl7Cell)) : List AV := [AV.own 65 4 (x.map o65)]
def r61 (x : (List Gl7Cell)) : List AV := [AV.ro 4 (x.map r65)]
theorem t61 : ∀ x, treeL (o61 x) = true := fun _ => rfl
theorem z61 : ∀ x, frzL (o61 x) = r61 x := fun x => by simp only [o61, r61, frzL, frz, frzLLm z65]
theorem n61 : ∀ x, noRoL (o61 x) = true := fun x => by simp only [o61, noRoL, noRo, noRoM n65, Bool.and_self]
def o76 (x : Int) : List AV := [IK .u64 x]
def k76 (x : Int) : AV := IK .u64 x
theorem t76 : ∀ x, treeL (o76 x) = true := (fun _ => rfl)
theorem z76 : ∀ x, frzL (o76 x) = o76 x := (fun _ => rfl)
theorem n76 : ∀ x, noRoL (o76 x) = true := (fun _ => rfl)
theorem p76 : ∀ x, (o76 x).all AV.plain = true := (fun _ => rfl)
def o78 (x : (Vector Int 4)) : List AV := (x.toList.map k76)
theorem t78 : ∀ x, treeL (o78 x) = true := fun x => vecTree k76 (fun _ => rfl)
theorem z78 : ∀ x, frzL (o78 x) = o78 x := fun x => vecFrz k76 (fun _ => rfl)
theorem n78 : ∀ x, noRoL (o78 x) = true := fun x => vecNoRo k76 (fun _ => rfl)
theorem p78 : ∀ x, (o78 x).all AV.plain = true := fun x => vecAll k76 (fun _ => rfl)
def o74 (x : (List (Vector Int 4))) : List AV := [AV.own 78 4 (x.map o78)]
def r74 (x : (List (Vector Int 4))) : List AV := [AV.ro 4 (x.map o78)]
theorem t74 : ∀ x, treeL (o74 x) = true := fun _ => rfl
theorem z74 : ∀ x, frzL (o74 x) = r74 x := fun x => by simp only [o74, r74, frzL, frz, frzLLm z78]
theorem n74 : ∀ x, noRoL (o74 x) = true := fun x => by simp only [o74, noRoL, noRo, noRoM n78, Bool.and_self]
def o68 (x : Gtouched) : List AV := [I x.thread, I x.number] ++ (x.loads.toList.map k3)
def o69 (x : (Vector Gtouched 100)) : List AV := (x.toList.flatMap o68)
theorem eqs50 (x y : GEvent) : BinS Try.prog .eql 50 (.agg (o50 x)) (.agg (o50 y)) (B (decide (x = y))) := eqS Θ_ok ty50 (by kernel_rfl) (by kernel_rfl) (us := [.int .i64 x.Thread, .int .i64 x.Kind, .int .i64 x.Obj, .int .i64 x.Lock, .int .i64 x.Pc]) (vs := [.int .i64 y.Thread, .int .i64 y.Kind, .int .i64 y.Obj, .int .i64 y.Lock, .int .i64 y.Pc]) (r := ((x.Thread == y.Thread) && ((x.Kind == y.Kind) && ((x.Obj == y.Obj) && ((x.Lock == y.Lock) && ((x.Pc == y.Pc) && true)))))) (by kernel_rfl) (by rw [Bool.eq_iff_iff]; cases x; cases y; simp)
theorem nes50 (x y : GEvent) : BinS Try.prog .neq 50 (.agg (o50 x)) (.agg (o50 y)) (B (!(decide (x = y)))) := neS Θ_ok ty50 (by kernel_rfl) (by kernel_rfl) (us := [.int .i64 x.Thread, .int .i64 x.Kind, .int .i64 x.Obj, .int .i64 x.Lock, .int .i64 x.Pc]) (vs := [.int .i64 y.Thread, .int .i64 y.Kind, .int .i64 y.Obj, .int .i64 y.Lock, .int .i64 y.Pc]) (r := ((x.Thread == y.Thread) && ((x.Kind == y.Kind) && ((x.Obj == y.Obj) && ((x.Lock == y.Lock) && ((x.Pc == y.Pc) && true)))))) (by kernel_rfl) (by rw [Bool.eq_iff_iff]; cases x; cases y; simp)
end Go.Proofs.Ytfanhncmpbncpaa
