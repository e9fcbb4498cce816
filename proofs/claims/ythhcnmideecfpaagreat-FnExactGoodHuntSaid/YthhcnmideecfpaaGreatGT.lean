/- The types of this seat, as plain data and in memory; no condition. -/

import Derived.Test.YthhcnmideecfpaaGreatProg
import Derived.Test.YthhcnmideecfpaaGreatBG
set_option linter.unusedVariables false
namespace Go.Proofs.YthhcnmideecfpaaGreat
open Go Go.T
def Θ : Tys := [(3, ⟨1, 8, .int .i64, [.int .i64 0]⟩),
  (4, ⟨1, 1, .bool, [.bool false]⟩),
  (5, ⟨1, 1, .int .u8, [.int .u8 0]⟩),
  (9, ⟨1, 16, .string, [.string ⟨#[]⟩]⟩),
  (47, ⟨1, 24, .slice 3, [.slice none 0 0]⟩),
  (34, ⟨4, 48, .struct #[⟨"Cells", 3, 0, false, "", "", 0⟩, ⟨"Locks", 3, 1, false, "", "", 8⟩, ⟨"Conds", 3, 2, false, "", "", 16⟩, ⟨"Routines", 32, 3, false, "", "", 24⟩], [.int .i64 0, .int .i64 0, .int .i64 0, .slice none 0 0]⟩),
  (77, ⟨4, 32, .struct #[⟨"Code", 3, 0, false, "", "", 0⟩, ⟨"A", 3, 1, false, "", "", 8⟩, ⟨"B", 3, 2, false, "", "", 16⟩, ⟨"V", 75, 3, false, "", "", 24⟩], [.int .i64 0, .int .i64 0, .int .i64 0, .float .f64 0]⟩),
  (22, ⟨1, 24, .slice 104, [.slice none 0 0]⟩),
  (39, ⟨8, 128, .struct #[⟨"Prog", 34, 0, false, "", "", 0⟩, ⟨"Kept", 35, 4, false, "", "", 48⟩, ⟨"Covered", 36, 5, false, "", "", 72⟩, ⟨"Finds", 37, 6, false, "", "", 96⟩, ⟨"Tried", 3, 7, false, "", "", 120⟩], [.int .i64 0, .int .i64 0, .int .i64 0, .slice none 0 0, .slice none 0 0, .slice none 0 0, .slice none 0 0, .int .i64 0]⟩),
  (24, ⟨4, 48, .struct #[⟨"Cells", 3, 0, false, "", "", 0⟩, ⟨"Locks", 3, 1, false, "", "", 8⟩, ⟨"Conds", 3, 2, false, "", "", 16⟩, ⟨"Routines", 22, 3, false, "", "", 24⟩], [.int .i64 0, .int .i64 0, .int .i64 0, .slice none 0 0]⟩),
  (27, ⟨1, 24, .slice 72, [.slice none 0 0]⟩),
  (80, ⟨3, 24, .struct #[⟨"Cell", 3, 0, false, "", "", 0⟩, ⟨"One", 3, 1, false, "", "", 8⟩, ⟨"Two", 3, 2, false, "", "", 16⟩], [.int .i64 0, .int .i64 0, .int .i64 0]⟩),
  (25, ⟨1, 24, .slice 70, [.slice none 0 0]⟩),
  (29, ⟨8, 128, .struct #[⟨"Prog", 24, 0, false, "", "", 0⟩, ⟨"Kept", 25, 4, false, "", "", 48⟩, ⟨"Covered", 26, 5, false, "", "", 72⟩, ⟨"Finds", 27, 6, false, "", "", 96⟩, ⟨"Tried", 3, 7, false, "", "", 120⟩], [.int .i64 0, .int .i64 0, .int .i64 0, .slice none 0 0, .slice none 0 0, .slice none 0 0, .slice none 0 0, .int .i64 0]⟩),
  (49, ⟨2, 48, .struct #[⟨"Ranks", 47, 0, false, "", "", 0⟩, ⟨"Changes", 47, 1, false, "", "", 24⟩], [.slice none 0 0, .slice none 0 0]⟩),
  (26, ⟨1, 24, .slice 87, [.slice none 0 0]⟩),
  (32, ⟨1, 24, .slice 74, [.slice none 0 0]⟩),
  (61, ⟨2, 40, .struct #[⟨"Sign", 9, 0, false, "", "", 0⟩, ⟨"Picks", 47, 1, false, "", "", 16⟩], [.string ⟨#[]⟩, .slice none 0 0]⟩),
  (35, ⟨1, 24, .slice 49, [.slice none 0 0]⟩),
  (37, ⟨1, 24, .slice 61, [.slice none 0 0]⟩),
  (36, ⟨1, 24, .slice 80, [.slice none 0 0]⟩),
  (75, ⟨1, 8, .float .f64, [.float .f64 0]⟩),
  (74, ⟨1, 24, .slice 77, [.slice none 0 0]⟩),
  (138, ⟨1, 8, .int .u64, [.int .u64 0]⟩),
  (70, ⟨2, 48, .struct #[⟨"Ranks", 47, 0, false, "", "", 0⟩, ⟨"Changes", 47, 1, false, "", "", 24⟩], [.slice none 0 0, .slice none 0 0]⟩),
  (72, ⟨2, 40, .struct #[⟨"Sign", 9, 0, false, "", "", 0⟩, ⟨"Picks", 47, 1, false, "", "", 16⟩], [.string ⟨#[]⟩, .slice none 0 0]⟩),
  (87, ⟨3, 24, .struct #[⟨"Cell", 3, 0, false, "", "", 0⟩, ⟨"One", 3, 1, false, "", "", 8⟩, ⟨"Two", 3, 2, false, "", "", 16⟩], [.int .i64 0, .int .i64 0, .int .i64 0]⟩),
  (125, ⟨1, 8, .int .u64, [.int .u64 0]⟩),
  (118, ⟨4, 32, .struct #[⟨"Code", 3, 0, false, "", "", 0⟩, ⟨"A", 3, 1, false, "", "", 8⟩, ⟨"B", 3, 2, false, "", "", 16⟩, ⟨"V", 75, 3, false, "", "", 24⟩], [.int .i64 0, .int .i64 0, .int .i64 0, .float .f64 0]⟩),
  (122, ⟨1, 8, .int .u64, [.int .u64 0]⟩),
  (104, ⟨1, 24, .slice 118, [.slice none 0 0]⟩),
  (136, ⟨1, 4, .int .u32, [.int .u32 0]⟩)]
theorem ty3 : tiOf Tryz.prog 3 = some ⟨1, 8, .int .i64, [.int .i64 0]⟩ := by kernel_rfl
theorem ty4 : tiOf Tryz.prog 4 = some ⟨1, 1, .bool, [.bool false]⟩ := by kernel_rfl
theorem ty5 : tiOf Tryz.prog 5 = some ⟨1, 1, .int .u8, [.int .u8 0]⟩ := by kernel_rfl
theorem ty9 : tiOf Tryz.prog 9 = some ⟨1, 16, .string, [.string ⟨#[]⟩]⟩ := by kernel_rfl
theorem ty47 : tiOf Tryz.prog 47 = some ⟨1, 24, .slice 3, [.slice none 0 0]⟩ := by kernel_rfl
theorem ty34 : tiOf Tryz.prog 34 = some ⟨4, 48, .struct #[⟨"Cells", 3, 0, false, "", "", 0⟩, ⟨"Locks", 3, 1, false, "", "", 8⟩, ⟨"Conds", 3, 2, false, "", "", 16⟩, ⟨"Routines", 32, 3, false, "", "", 24⟩], [.int .i64 0, .int .i64 0, .int .i64 0, .slice none 0 0]⟩ := by kernel_rfl
theorem ty77 : tiOf Tryz.prog 77 = some ⟨4, 32, .struct #[⟨"Code", 3, 0, false, "", "", 0⟩, ⟨"A", 3, 1, false, "", "", 8⟩, ⟨"B", 3, 2, false, "", "", 16⟩, ⟨"V", 75, 3, false, "", "", 24⟩], [.int .i64 0, .int .i64 0, .int .i64 0, .float .f64 0]⟩ := by kernel_rfl
theorem ty22 : tiOf Tryz.prog 22 = some ⟨1, 24, .slice 104, [.slice none 0 0]⟩ := by kernel_rfl
theorem ty39 : tiOf Tryz.prog 39 = some ⟨8, 128, .struct #[⟨"Prog", 34, 0, false, "", "", 0⟩, ⟨"Kept", 35, 4, false, "", "", 48⟩, ⟨"Covered", 36, 5, false, "", "", 72⟩, ⟨"Finds", 37, 6, false, "", "", 96⟩, ⟨"Tried", 3, 7, false, "", "", 120⟩], [.int .i64 0, .int .i64 0, .int .i64 0, .slice none 0 0, .slice none 0 0, .slice none 0 0, .slice none 0 0, .int .i64 0]⟩ := by kernel_rfl
theorem ty24 : tiOf Tryz.prog 24 = some ⟨4, 48, .struct #[⟨"Cells", 3, 0, false, "", "", 0⟩, ⟨"Locks", 3, 1, false, "", "", 8⟩, ⟨"Conds", 3, 2, false, "", "", 16⟩, ⟨"Routines", 22, 3, false, "", "", 24⟩], [.int .i64 0, .int .i64 0, .int .i64 0, .slice none 0 0]⟩ := by kernel_rfl
theorem ty27 : tiOf Tryz.prog 27 = some ⟨1, 24, .slice 72, [.slice none 0 0]⟩ := by kernel_rfl
theorem ty80 : tiOf Tryz.prog 80 = some ⟨3, 24, .struct #[⟨"Cell", 3, 0, false, "", "", 0⟩, ⟨"One", 3, 1, false, "", "", 8⟩, ⟨"Two", 3, 2, false, "", "", 16⟩], [.int .i64 0, .int .i64 0, .int .i64 0]⟩ := by kernel_rfl
theorem ty25 : tiOf Tryz.prog 25 = some ⟨1, 24, .slice 70, [.slice none 0 0]⟩ := by kernel_rfl
theorem ty29 : tiOf Tryz.prog 29 = some ⟨8, 128, .struct #[⟨"Prog", 24, 0, false, "", "", 0⟩, ⟨"Kept", 25, 4, false, "", "", 48⟩, ⟨"Covered", 26, 5, false, "", "", 72⟩, ⟨"Finds", 27, 6, false, "", "", 96⟩, ⟨"Tried", 3, 7, false, "", "", 120⟩], [.int .i64 0, .int .i64 0, .int .i64 0, .slice none 0 0, .slice none 0 0, .slice none 0 0, .slice none 0 0, .int .i64 0]⟩ := by kernel_rfl
theorem ty49 : tiOf Tryz.prog 49 = some ⟨2, 48, .struct #[⟨"Ranks", 47, 0, false, "", "", 0⟩, ⟨"Changes", 47, 1, false, "", "", 24⟩], [.slice none 0 0, .slice none 0 0]⟩ := by kernel_rfl
theorem ty26 : tiOf Tryz.prog 26 = some ⟨1, 24, .slice 87, [.slice none 0 0]⟩ := by kernel_rfl
theorem ty32 : tiOf Tryz.prog 32 = some ⟨1, 24, .slice 74, [.slice none 0 0]⟩ := by kernel_rfl
theorem ty61 : tiOf Tryz.prog 61 = some ⟨2, 40, .struct #[⟨"Sign", 9, 0, false, "", "", 0⟩, ⟨"Picks", 47, 1, false, "", "", 16⟩], [.string ⟨#[]⟩, .slice none 0 0]⟩ := by kernel_rfl
theorem ty35 : tiOf Tryz.prog 35 = some ⟨1, 24, .slice 49, [.slice none 0 0]⟩ := by kernel_rfl
theorem ty37 : tiOf Tryz.prog 37 = some ⟨1, 24, .slice 61, [.slice none 0 0]⟩ := by kernel_rfl
theorem ty36 : tiOf Tryz.prog 36 = some ⟨1, 24, .slice 80, [.slice none 0 0]⟩ := by kernel_rfl
theorem ty75 : tiOf Tryz.prog 75 = some ⟨1, 8, .float .f64, [.float .f64 0]⟩ := by kernel_rfl
theorem ty74 : tiOf Tryz.prog 74 = some ⟨1, 24, .slice 77, [.slice none 0 0]⟩ := by kernel_rfl
theorem ty138 : tiOf Tryz.prog 138 = some ⟨1, 8, .int .u64, [.int .u64 0]⟩ := by kernel_rfl
theorem ty70 : tiOf Tryz.prog 70 = some ⟨2, 48, .struct #[⟨"Ranks", 47, 0, false, "", "", 0⟩, ⟨"Changes", 47, 1, false, "", "", 24⟩], [.slice none 0 0, .slice none 0 0]⟩ := by kernel_rfl
theorem ty72 : tiOf Tryz.prog 72 = some ⟨2, 40, .struct #[⟨"Sign", 9, 0, false, "", "", 0⟩, ⟨"Picks", 47, 1, false, "", "", 16⟩], [.string ⟨#[]⟩, .slice none 0 0]⟩ := by kernel_rfl
theorem ty87 : tiOf Tryz.prog 87 = some ⟨3, 24, .struct #[⟨"Cell", 3, 0, false, "", "", 0⟩, ⟨"One", 3, 1, false, "", "", 8⟩, ⟨"Two", 3, 2, false, "", "", 16⟩], [.int .i64 0, .int .i64 0, .int .i64 0]⟩ := by kernel_rfl
theorem ty125 : tiOf Tryz.prog 125 = some ⟨1, 8, .int .u64, [.int .u64 0]⟩ := by kernel_rfl
theorem ty118 : tiOf Tryz.prog 118 = some ⟨4, 32, .struct #[⟨"Code", 3, 0, false, "", "", 0⟩, ⟨"A", 3, 1, false, "", "", 8⟩, ⟨"B", 3, 2, false, "", "", 16⟩, ⟨"V", 75, 3, false, "", "", 24⟩], [.int .i64 0, .int .i64 0, .int .i64 0, .float .f64 0]⟩ := by kernel_rfl
theorem ty122 : tiOf Tryz.prog 122 = some ⟨1, 8, .int .u64, [.int .u64 0]⟩ := by kernel_rfl
theorem ty104 : tiOf Tryz.prog 104 = some ⟨1, 24, .slice 118, [.slice none 0 0]⟩ := by kernel_rfl
theorem ty136 : tiOf Tryz.prog 136 = some ⟨1, 4, .int .u32, [.int .u32 0]⟩ := by kernel_rfl
theorem Θ_ok : TOK Tryz.prog Θ := ⟨ty3, ty4, ty5, ty9, ty47, ty34, ty77, ty22, ty39, ty24, ty27, ty80, ty25, ty29, ty49, ty26, ty32, ty61, ty35, ty37, ty36, ty75, ty74, ty138, ty70, ty72, ty87, ty125, ty118, ty122, ty104, ty136, trivial⟩
theorem mixed : Tryz.prog.follows .mixedOrders = true := by kernel_rfl
structure GOp where
  Code : Int
  A : Int
  B : Int
  V : Nat
  deriving DecidableEq
structure GProg where
  Cells : Int
  Locks : Int
  Conds : Int
  Routines : (List (List GOp))
  deriving DecidableEq
structure GPct where
  Ranks : (List Int)
  Changes : (List Int)
  deriving DecidableEq
structure GPair where
  Cell : Int
  One : Int
  Two : Int
  deriving DecidableEq
structure GFound where
  Sign : Str
  Picks : (List Int)
  deriving DecidableEq
structure GHunt where
  Prog : GProg
  Kept : (List GPct)
  Covered : (List GPair)
  Finds : (List GFound)
  Tried : Int
  deriving DecidableEq
def wfGOp (x : GOp) : Prop := ((Lit.int .i64 x.Code).wf = true) ∧ ((Lit.int .i64 x.A).wf = true) ∧ ((Lit.int .i64 x.B).wf = true) ∧ (x.V < 18446744073709551616)
def wfGProg (x : GProg) : Prop := ((Lit.int .i64 x.Cells).wf = true) ∧ ((Lit.int .i64 x.Locks).wf = true) ∧ ((Lit.int .i64 x.Conds).wf = true) ∧ (x.Routines.length ≤ 9223372036854775807 ∧ ∀ y0 ∈ x.Routines, y0.length ≤ 9223372036854775807 ∧ ∀ y1 ∈ y0, wfGOp y1)
def wfGPct (x : GPct) : Prop := (x.Ranks.length ≤ 9223372036854775807 ∧ ∀ y0 ∈ x.Ranks, (Lit.int .i64 y0).wf = true) ∧ (x.Changes.length ≤ 9223372036854775807 ∧ ∀ y0 ∈ x.Changes, (Lit.int .i64 y0).wf = true)
def wfGPair (x : GPair) : Prop := ((Lit.int .i64 x.Cell).wf = true) ∧ ((Lit.int .i64 x.One).wf = true) ∧ ((Lit.int .i64 x.Two).wf = true)
def wfGFound (x : GFound) : Prop := (x.Sign.length ≤ 9223372036854775807) ∧ (x.Picks.length ≤ 9223372036854775807 ∧ ∀ y0 ∈ x.Picks, (Lit.int .i64 y0).wf = true)
def wfGHunt (x : GHunt) : Prop := (wfGProg x.Prog) ∧ (x.Kept.length ≤ 9223372036854775807 ∧ ∀ y0 ∈ x.Kept, wfGPct y0) ∧ (x.Covered.length ≤ 9223372036854775807 ∧ ∀ y0 ∈ x.Covered, wfGPair y0) ∧ (x.Finds.length ≤ 9223372036854775807 ∧ ∀ y0 ∈ x.Finds, wfGFound y0) ∧ ((Lit.int .i64 x.Tried).wf = true)
def o3 (x : Int) : List AV := [I x]
def k3 (x : Int) : AV := I x
theorem t3 : ∀ x, treeL (o3 x) = true := (fun _ => rfl)
theorem z3 : ∀ x, frzL (o3 x) = o3 x := (fun _ => rfl)
theorem n3 : ∀ x, noRoL (o3 x) = true := (fun _ => rfl)
theorem p3 : ∀ x, (o3 x).all AV.plain = true := (fun _ => rfl)
def o75 (x : Nat) : List AV := [FK x]
def k75 (x : Nat) : AV := FK x
theorem t75 : ∀ x, treeL (o75 x) = true := (fun _ => rfl)
theorem z75 : ∀ x, frzL (o75 x) = o75 x := (fun _ => rfl)
theorem n75 : ∀ x, noRoL (o75 x) = true := (fun _ => rfl)
theorem p75 : ∀ x, (o75 x).all AV.plain = true := (fun _ => rfl)
def o118 (x : GOp) : List AV := [I x.Code, I x.A, I x.B, FK x.V]
theorem t118 : ∀ x, treeL (o118 x) = true := (fun _ => rfl)
theorem z118 : ∀ x, frzL (o118 x) = o118 x := (fun _ => rfl)
theorem n118 : ∀ x, noRoL (o118 x) = true := (fun _ => rfl)
theorem p118 : ∀ x, (o118 x).all AV.plain = true := (fun _ => rfl)
def o104 (x : (List GOp)) : List AV := [AV.own 118 4 (x.map o118)]
def r104 (x : (List GOp)) : List AV := [AV.ro 4 (x.map o118)]
theorem t104 : ∀ x, treeL (o104 x) = true := fun _ => rfl
theorem z104 : ∀ x, frzL (o104 x) = r104 x := fun x => by simp only [o104, r104, frzL, frz, frzLLm z118]
theorem n104 : ∀ x, noRoL (o104 x) = true := fun x => by simp only [o104, noRoL, noRo, noRoM n118, Bool.and_self]
def o22 (x : (List (List GOp))) : List AV := [AV.own 104 1 (x.map o104)]
def r22 (x : (List (List GOp))) : List AV := [AV.ro 1 (x.map r104)]
theorem t22 : ∀ x, treeL (o22 x) = true := fun _ => rfl
theorem z22 : ∀ x, frzL (o22 x) = r22 x := fun x => by simp only [o22, r22, frzL, frz, frzLLm z104]
theorem n22 : ∀ x, noRoL (o22 x) = true := fun x => by simp only [o22, noRoL, noRo, noRoM n104, Bool.and_self]
def o24 (x : GProg) : List AV := [I x.Cells, I x.Locks, I x.Conds, AV.own 104 1 (x.Routines.map o104)]
def r24 (x : GProg) : List AV := [I x.Cells, I x.Locks, I x.Conds, AV.ro 1 (x.Routines.map r104)]
theorem t24 : ∀ x, treeL (o24 x) = true := fun _ => rfl
theorem z24 : ∀ x, frzL (o24 x) = r24 x := fun x => by simp only [o24, r24, frzL, frz, frzLLm z104]
theorem n24 : ∀ x, noRoL (o24 x) = true := fun x => by simp only [o24, noRoL, noRo, noRoM n104, Bool.and_self]
def o47 (x : (List Int)) : List AV := [AV.own 3 1 (x.map o3)]
def r47 (x : (List Int)) : List AV := [AV.ro 1 (x.map o3)]
theorem t47 : ∀ x, treeL (o47 x) = true := fun _ => rfl
theorem z47 : ∀ x, frzL (o47 x) = r47 x := fun x => by simp only [o47, r47, frzL, frz, frzLLm z3]
theorem n47 : ∀ x, noRoL (o47 x) = true := fun x => by simp only [o47, noRoL, noRo, noRoM n3, Bool.and_self]
def o70 (x : GPct) : List AV := [AV.own 3 1 (x.Ranks.map o3), AV.own 3 1 (x.Changes.map o3)]
def r70 (x : GPct) : List AV := [AV.ro 1 (x.Ranks.map o3), AV.ro 1 (x.Changes.map o3)]
theorem t70 : ∀ x, treeL (o70 x) = true := fun _ => rfl
theorem z70 : ∀ x, frzL (o70 x) = r70 x := fun x => by simp only [o70, r70, frzL, frz, frzLLm z3]
theorem n70 : ∀ x, noRoL (o70 x) = true := fun x => by simp only [o70, noRoL, noRo, noRoM n3, Bool.and_self]
def o25 (x : (List GPct)) : List AV := [AV.own 70 2 (x.map o70)]
def r25 (x : (List GPct)) : List AV := [AV.ro 2 (x.map r70)]
theorem t25 : ∀ x, treeL (o25 x) = true := fun _ => rfl
theorem z25 : ∀ x, frzL (o25 x) = r25 x := fun x => by simp only [o25, r25, frzL, frz, frzLLm z70]
theorem n25 : ∀ x, noRoL (o25 x) = true := fun x => by simp only [o25, noRoL, noRo, noRoM n70, Bool.and_self]
def o87 (x : GPair) : List AV := [I x.Cell, I x.One, I x.Two]
theorem t87 : ∀ x, treeL (o87 x) = true := (fun _ => rfl)
theorem z87 : ∀ x, frzL (o87 x) = o87 x := (fun _ => rfl)
theorem n87 : ∀ x, noRoL (o87 x) = true := (fun _ => rfl)
theorem p87 : ∀ x, (o87 x).all AV.plain = true := (fun _ => rfl)
def o26 (x : (List GPair)) : List AV := [AV.own 87 3 (x.map o87)]
def r26 (x : (List GPair)) : List AV := [AV.ro 3 (x.map o87)]
theorem t26 : ∀ x, treeL (o26 x) = true := fun _ => rfl
theorem z26 : ∀ x, frzL (o26 x) = r26 x := fun x => by simp only [o26, r26, frzL, frz, frzLLm z87]
theorem n26 : ∀ x, noRoL (o26 x) = true := fun x => by simp only [o26, noRoL, noRo, noRoM n87, Bool.and_self]
def o9 (x : Str) : List AV := [SK x]
def k9 (x : Str) : AV := SK x
theorem t9 : ∀ x, treeL (o9 x) = true := (fun _ => rfl)
theorem z9 : ∀ x, frzL (o9 x) = o9 x := (fun _ => rfl)
theorem n9 : ∀ x, noRoL (o9 x) = true := (fun _ => rfl)
theorem p9 : ∀ x, (o9 x).all AV.plain = true := (fun _ => rfl)
def o72 (x : GFound) : List AV := [SK x.Sign, AV.own 3 1 (x.Picks.map o3)]
def r72 (x : GFound) : List AV := [SK x.Sign, AV.ro 1 (x.Picks.map o3)]
theorem t72 : ∀ x, treeL (o72 x) = true := fun _ => rfl
theorem z72 : ∀ x, frzL (o72 x) = r72 x := fun x => by simp only [o72, r72, frzL, frz, frzLLm z3]
theorem n72 : ∀ x, noRoL (o72 x) = true := fun x => by simp only [o72, noRoL, noRo, noRoM n3, Bool.and_self]
def o27 (x : (List GFound)) : List AV := [AV.own 72 2 (x.map o72)]
def r27 (x : (List GFound)) : List AV := [AV.ro 2 (x.map r72)]
theorem t27 : ∀ x, treeL (o27 x) = true := fun _ => rfl
theorem z27 : ∀ x, frzL (o27 x) = r27 x := fun x => by simp only [o27, r27, frzL, frz, frzLLm z72]
theorem n27 : ∀ x, noRoL (o27 x) = true := fun x => by simp only [o27, noRoL, noRo, noRoM n72, Bool.and_self]
def o29 (x : GHunt) : List AV := [I x.Prog.Cells, I x.Prog.Locks, I x.Prog.Conds, AV.own 104 1 (x.Prog.Routines.map o104), AV.own 70 2 (x.Kept.map o70), AV.own 87 3 (x.Covered.map o87), AV.own 72 2 (x.Finds.map o72), I x.Tried]
def r29 (x : GHunt) : List AV := [I x.Prog.Cells, I x.Prog.Locks, I x.Prog.Conds, AV.ro 1 (x.Prog.Routines.map r104), AV.ro 2 (x.Kept.map r70), AV.ro 3 (x.Covered.map o87), AV.ro 2 (x.Finds.map r72), I x.Tried]
theorem t29 : ∀ x, treeL (o29 x) = true := fun _ => rfl
theorem z29 : ∀ x, frzL (o29 x) = r29 x := fun x => by simp only [o29, r29, frzL, frz, frzLLm z70, frzLLm z72, frzLLm z87, frzLLm z104]
theorem n29 : ∀ x, noRoL (o29 x) = true := fun x => by simp only [o29, noRoL, noRo, noRoM n70, noRoM n72, noRoM n87, noRoM n104, Bool.and_self]
def o4 (x : Bool) : List AV := [B x]
def k4 (x : Bool) : AV := B x
theorem t4 : ∀ x, treeL (o4 x) = true := (fun _ => rfl)
theorem z4 : ∀ x, frzL (o4 x) = o4 x := (fun _ => rfl)
theorem n4 : ∀ x, noRoL (o4 x) = true := (fun _ => rfl)
theorem p4 : ∀ x, (o4 x).all AV.plain = true := (fun _ => rfl)
def o77 (x : GOp) : List AV := [I x.Code, I x.A, I x.B, FK x.V]
theorem t77 : ∀ x, treeL (o77 x) = true := (fun _ => rfl)
theorem z77 : ∀ x, frzL (o77 x) = o77 x := (fun _ => rfl)
theorem n77 : ∀ x, noRoL (o77 x) = true := (fun _ => rfl)
theorem p77 : ∀ x, (o77 x).all AV.plain = true := (fun _ => rfl)
def o74 (x : (List GOp)) : List AV := [AV.own 77 4 (x.map o77)]
def r74 (x : (List GOp)) : List AV := [AV.ro 4 (x.map o77)]
theorem t74 : ∀ x, treeL (o74 x) = true := fun _ => rfl
theorem z74 : ∀ x, frzL (o74 x) = r74 x := fun x => by simp only [o74, r74, frzL, frz, frzLLm z77]
theorem n74 : ∀ x, noRoL (o74 x) = true := fun x => by simp only [o74, noRoL, noRo, noRoM n77, Bool.and_self]
def o32 (x : (List (List GOp))) : List AV := [AV.own 74 1 (x.map o74)]
def r32 (x : (List (List GOp))) : List AV := [AV.ro 1 (x.map r74)]
theorem t32 : ∀ x, treeL (o32 x) = true := fun _ => rfl
theorem z32 : ∀ x, frzL (o32 x) = r32 x := fun x => by simp only [o32, r32, frzL, frz, frzLLm z74]
theorem n32 : ∀ x, noRoL (o32 x) = true := fun x => by simp only [o32, noRoL, noRo, noRoM n74, Bool.and_self]
def o34 (x : GProg) : List AV := [I x.Cells, I x.Locks, I x.Conds, AV.own 74 1 (x.Routines.map o74)]
def r34 (x : GProg) : List AV := [I x.Cells, I x.Locks, I x.Conds, AV.ro 1 (x.Routines.map r74)]
theorem t34 : ∀ x, treeL (o34 x) = true := fun _ => rfl
theorem z34 : ∀ x, frzL (o34 x) = r34 x := fun x => by simp only [o34, r34, frzL, frz, frzLLm z74]
theorem n34 : ∀ x, noRoL (o34 x) = true := fun x => by simp only [o34, noRoL, noRo, noRoM n74, Bool.and_self]
def o49 (x : GPct) : List AV := [AV.own 3 1 (x.Ranks.map o3), AV.own 3 1 (x.Changes.map o3)]
def r49 (x : GPct) : List AV := [AV.ro 1 (x.Ranks.map o3), AV.ro 1 (x.Changes.map o3)]
theorem t49 : ∀ x, treeL (o49 x) = true := fun _ => rfl
theorem z49 : ∀ x, frzL (o49 x) = r49 x := fun x => by simp only [o49, r49, frzL, frz, frzLLm z3]
theorem n49 : ∀ x, noRoL (o49 x) = true := fun x => by simp only [o49, noRoL, noRo, noRoM n3, Bool.and_self]
def o35 (x : (List GPct)) : List AV := [AV.own 49 2 (x.map o49)]
def r35 (x : (List GPct)) : List AV := [AV.ro 2 (x.map r49)]
theorem t35 : ∀ x, treeL (o35 x) = true := fun _ => rfl
theorem z35 : ∀ x, frzL (o35 x) = r35 x := fun x => by simp only [o35, r35, frzL, frz, frzLLm z49]
theorem n35 : ∀ x, noRoL (o35 x) = true := fun x => by simp only [o35, noRoL, noRo, noRoM n49, Bool.and_self]
def o80 (x : GPair) : List AV := [I x.Cell, I x.One, I x.Two]
theorem t80 : ∀ x, treeL (o80 x) = true := (fun _ => rfl)
theorem z80 : ∀ x, frzL (o80 x) = o80 x := (fun _ => rfl)
theorem n80 : ∀ x, noRoL (o80 x) = true := (fun _ => rfl)
theorem p80 : ∀ x, (o80 x).all AV.plain = true := (fun _ => rfl)
def o36 (x : (List GPair)) : List AV := [AV.own 80 3 (x.map o80)]
def r36 (x : (List GPair)) : List AV := [AV.ro 3 (x.map o80)]
theorem t36 : ∀ x, treeL (o36 x) = true := fun _ => rfl
theorem z36 : ∀ x, frzL (o36 x) = r36 x := fun x => by simp only [o36, r36, frzL, frz, frzLLm z80]
theorem n36 : ∀ x, noRoL (o36 x) = true := fun x => by simp only [o36, noRoL, noRo, noRoM n80, Bool.and_self]
def o61 (x : GFound) : List AV := [SK x.Sign, AV.own 3 1 (x.Picks.map o3)]
def r61 (x : GFound) : List AV := [SK x.Sign, AV.ro 1 (x.Picks.map o3)]
theorem t61 : ∀ x, treeL (o61 x) = true := fun _ => rfl
theorem z61 : ∀ x, frzL (o61 x) = r61 x := fun x => by simp only [o61, r61, frzL, frz, frzLLm z3]
theorem n61 : ∀ x, noRoL (o61 x) = true := fun x => by simp only [o61, noRoL, noRo, noRoM n3, Bool.and_self]
def o37 (x : (List GFound)) : List AV := [AV.own 61 2 (x.map o61)]
def r37 (x : (List GFound)) : List AV := [AV.ro 2 (x.map r61)]
theorem t37 : ∀ x, treeL (o37 x) = true := fun _ => rfl
theorem z37 : ∀ x, frzL (o37 x) = r37 x := fun x => by simp only [o37, r37, frzL, frz, frzLLm z61]
theorem n37 : ∀ x, noRoL (o37 x) = true := fun x => by simp only [o37, noRoL, noRo, noRoM n61, Bool.and_self]
def o39 (x : GHunt) : List AV := [I x.Prog.Cells, I x.Prog.Locks, I x.Prog.Conds, AV.own 74 1 (x.Prog.Routines.map o74), AV.own 49 2 (x.Kept.map o49), AV.own 80 3 (x.Covered.map o80), AV.own 61 2 (x.Finds.map o61), I x.Tried]
def r39 (x : GHunt) : List AV := [I x.Prog.Cells, I x.Prog.Locks, I x.Prog.Conds, AV.ro 1 (x.Prog.Routines.map r74), AV.ro 2 (x.Kept.map r49), AV.ro 3 (x.Covered.map o80), AV.ro 2 (x.Finds.map r61), I x.Tried]
theorem t39 : ∀ x, treeL (o39 x) = true := fun _ => rfl
theorem z39 : ∀ x, frzL (o39 x) = r39 x := fun x => by simp only [o39, r39, frzL, frz, frzLLm z49, frzLLm z61, frzLLm z74, frzLLm z80]
theorem n39 : ∀ x, noRoL (o39 x) = true := fun x => by simp only [o39, noRoL, noRo, noRoM n49, noRoM n61, noRoM n74, noRoM n80, Bool.and_self]
def o122 (x : Int) : List AV := [IK .u64 x]
def k122 (x : Int) : AV := IK .u64 x
theorem t122 : ∀ x, treeL (o122 x) = true := (fun _ => rfl)
theorem z122 : ∀ x, frzL (o122 x) = o122 x := (fun _ => rfl)
theorem n122 : ∀ x, noRoL (o122 x) = true := (fun _ => rfl)
theorem p122 : ∀ x, (o122 x).all AV.plain = true := (fun _ => rfl)
def o125 (x : Int) : List AV := [IK .u64 x]
def k125 (x : Int) : AV := IK .u64 x
theorem t125 : ∀ x, treeL (o125 x) = true := (fun _ => rfl)
theorem z125 : ∀ x, frzL (o125 x) = o125 x := (fun _ => rfl)
theorem n125 : ∀ x, noRoL (o125 x) = true := (fun _ => rfl)
theorem p125 : ∀ x, (o125 x).all AV.plain = true := (fun _ => rfl)
def o5 (x : Int) : List AV := [IK .u8 x]
def k5 (x : Int) : AV := IK .u8 x
theorem t5 : ∀ x, treeL (o5 x) = true := (fun _ => rfl)
theorem z5 : ∀ x, frzL (o5 x) = o5 x := (fun _ => rfl)
theorem n5 : ∀ x, noRoL (o5 x) = true := (fun _ => rfl)
theorem p5 : ∀ x, (o5 x).all AV.plain = true := (fun _ => rfl)
def o138 (x : Int) : List AV := [IK .u64 x]
def k138 (x : Int) : AV := IK .u64 x
theorem t138 : ∀ x, treeL (o138 x) = true := (fun _ => rfl)
theorem z138 : ∀ x, frzL (o138 x) = o138 x := (fun _ => rfl)
theorem n138 : ∀ x, noRoL (o138 x) = true := (fun _ => rfl)
theorem p138 : ∀ x, (o138 x).all AV.plain = true := (fun _ => rfl)
def o136 (x : Int) : List AV := [IK .u32 x]
def k136 (x : Int) : AV := IK .u32 x
theorem t136 : ∀ x, treeL (o136 x) = true := (fun _ => rfl)
theorem z136 : ∀ x, frzL (o136 x) = o136 x := (fun _ => rfl)
theorem n136 : ∀ x, noRoL (o136 x) = true := (fun _ => rfl)
theorem p136 : ∀ x, (o136 x).all AV.plain = true := (fun _ => rfl)
end Go.Proofs.YthhcnmideecfpaaGreat
