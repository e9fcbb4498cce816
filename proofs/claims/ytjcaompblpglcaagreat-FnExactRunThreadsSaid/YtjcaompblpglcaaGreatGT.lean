/- The types of this seat, as plain data and in memory; no condition. -/

import Derived.Test.YtjcaompblpglcaaGreatProg
import Derived.Test.YtjcaompblpglcaaGreatBN
set_option linter.unusedVariables false
namespace Go.Proofs.YtjcaompblpglcaaGreat
open Go Go.T
def Θ : Tys := [(3, ⟨1, 8, .int .i64, [.int .i64 0]⟩),
 (4, ⟨1, 1, .bool, [.bool false]⟩),
 (5, ⟨1, 1, .int .u8, [.int .u8 0]⟩),
 (9, ⟨1, 16, .string, [.string ⟨#[]⟩]⟩),
 (57, ⟨4, 80, .struct #[⟨"Threads", 55, 0, false, "", "", 0⟩, ⟨"Cells", 50, 1, false, "", "", 24⟩, ⟨"Owner", 51, 2, false, "", "", 48⟩, ⟨"Fault", 3, 3, false, "", "", 72⟩], [.slice none 0 0, .slice none 0 0, .slice none 0 0, .int .i64 0]⟩),
 (51, ⟨1, 24, .slice 3, [.slice none 0 0]⟩),
 (59, ⟨5, 40, .struct #[⟨"Thread", 3, 0, false, "", "", 0⟩, ⟨"Kind", 3, 1, false, "", "", 8⟩, ⟨"Obj", 3, 2, false, "", "", 16⟩, ⟨"Lock", 3, 3, false, "", "", 24⟩, ⟨"Pc", 3, 4, false, "", "", 32⟩], [.int .i64 0, .int .i64 0, .int .i64 0, .int .i64 0, .int .i64 0]⟩),
 (34, ⟨4, 48, .struct #[⟨"Cells", 3, 0, false, "", "", 0⟩, ⟨"Locks", 3, 1, false, "", "", 8⟩, ⟨"Conds", 3, 2, false, "", "", 16⟩, ⟨"Routines", 32, 3, false, "", "", 24⟩], [.int .i64 0, .int .i64 0, .int .i64 0, .slice none 0 0]⟩),
 (179, ⟨6, 64, .struct #[⟨"Routine", 3, 0, false, "", "", 0⟩, ⟨"Pc", 3, 1, false, "", "", 8⟩, ⟨"State", 3, 2, false, "", "", 16⟩, ⟨"Cond", 3, 3, false, "", "", 24⟩, ⟨"Lock", 3, 4, false, "", "", 32⟩, ⟨"Stack", 50, 5, false, "", "", 40⟩], [.int .i64 0, .int .i64 0, .int .i64 0, .int .i64 0, .int .i64 0, .slice none 0 0]⟩),
 (70, ⟨7, 136, .struct #[⟨"Code", 3, 0, false, "", "", 0⟩, ⟨"Trace", 68, 1, false, "", "", 8⟩, ⟨"Picks", 51, 2, false, "", "", 32⟩, ⟨"End", 57, 3, false, "", "", 56⟩], [.int .i64 0, .slice none 0 0, .slice none 0 0, .slice none 0 0, .slice none 0 0, .slice none 0 0, .int .i64 0]⟩),
 (144, ⟨4, 32, .struct #[⟨"Code", 3, 0, false, "", "", 0⟩, ⟨"A", 3, 1, false, "", "", 8⟩, ⟨"B", 3, 2, false, "", "", 16⟩, ⟨"V", 142, 3, false, "", "", 24⟩], [.int .i64 0, .int .i64 0, .int .i64 0, .float .f64 0]⟩),
 (24, ⟨4, 48, .struct #[⟨"Cells", 3, 0, false, "", "", 0⟩, ⟨"Locks", 3, 1, false, "", "", 8⟩, ⟨"Conds", 3, 2, false, "", "", 16⟩, ⟨"Routines", 22, 3, false, "", "", 24⟩], [.int .i64 0, .int .i64 0, .int .i64 0, .slice none 0 0]⟩),
 (50, ⟨1, 24, .slice 142, [.slice none 0 0]⟩),
 (22, ⟨1, 24, .slice 167, [.slice none 0 0]⟩),
 (55, ⟨1, 24, .slice 179, [.slice none 0 0]⟩),
 (25, ⟨1, 24, .slice 137, [.slice none 0 0]⟩),
 (26, ⟨1, 24, .slice 152, [.slice none 0 0]⟩),
 (29, ⟨8, 128, .struct #[⟨"Prog", 24, 0, false, "", "", 0⟩, ⟨"Kept", 25, 4, false, "", "", 48⟩, ⟨"Covered", 26, 5, false, "", "", 72⟩, ⟨"Finds", 27, 6, false, "", "", 96⟩, ⟨"Tried", 3, 7, false, "", "", 120⟩], [.int .i64 0, .int .i64 0, .int .i64 0, .slice none 0 0, .slice none 0 0, .slice none 0 0, .slice none 0 0, .int .i64 0]⟩),
 (32, ⟨1, 24, .slice 141, [.slice none 0 0]⟩),
 (27, ⟨1, 24, .slice 139, [.slice none 0 0]⟩),
 (39, ⟨8, 128, .struct #[⟨"Prog", 34, 0, false, "", "", 0⟩, ⟨"Kept", 35, 4, false, "", "", 48⟩, ⟨"Covered", 36, 5, false, "", "", 72⟩, ⟨"Finds", 37, 6, false, "", "", 96⟩, ⟨"Tried", 3, 7, false, "", "", 120⟩], [.int .i64 0, .int .i64 0, .int .i64 0, .slice none 0 0, .slice none 0 0, .slice none 0 0, .slice none 0 0, .int .i64 0]⟩),
 (35, ⟨1, 24, .slice 85, [.slice none 0 0]⟩),
 (53, ⟨4, 80, .struct #[⟨"Threads", 49, 0, false, "", "", 0⟩, ⟨"Cells", 50, 1, false, "", "", 24⟩, ⟨"Owner", 51, 2, false, "", "", 48⟩, ⟨"Fault", 3, 3, false, "", "", 72⟩], [.slice none 0 0, .slice none 0 0, .slice none 0 0, .int .i64 0]⟩),
 (37, ⟨1, 24, .slice 96, [.slice none 0 0]⟩),
 (142, ⟨1, 8, .float .f64, [.float .f64 0]⟩),
 (36, ⟨1, 24, .slice 147, [.slice none 0 0]⟩),
 (68, ⟨1, 24, .slice 59, [.slice none 0 0]⟩),
 (147, ⟨3, 24, .struct #[⟨"Cell", 3, 0, false, "", "", 0⟩, ⟨"One", 3, 1, false, "", "", 8⟩, ⟨"Two", 3, 2, false, "", "", 16⟩], [.int .i64 0, .int .i64 0, .int .i64 0]⟩),
 (85, ⟨2, 48, .struct #[⟨"Ranks", 51, 0, false, "", "", 0⟩, ⟨"Changes", 51, 1, false, "", "", 24⟩], [.slice none 0 0, .slice none 0 0]⟩),
 (49, ⟨1, 24, .slice 178, [.slice none 0 0]⟩),
 (96, ⟨2, 40, .struct #[⟨"Sign", 9, 0, false, "", "", 0⟩, ⟨"Picks", 51, 1, false, "", "", 16⟩], [.string ⟨#[]⟩, .slice none 0 0]⟩),
 (141, ⟨1, 24, .slice 144, [.slice none 0 0]⟩),
 (110, ⟨10, 144, .struct #[⟨"p", 34, 0, false, "", "loop.example/g00696/spec", 0⟩, ⟨"budget", 3, 4, false, "", "loop.example/g00696/spec", 48⟩, ⟨"sleeps", 4, 5, false, "", "loop.example/g00696/spec", 56⟩, ⟨"runs", 106, 6, false, "", "loop.example/g00696/spec", 64⟩, ⟨"traces", 107, 7, false, "", "loop.example/g00696/spec", 88⟩, ⟨"signs", 108, 8, false, "", "loop.example/g00696/spec", 112⟩, ⟨"many", 4, 9, false, "", "loop.example/g00696/spec", 136⟩], [.int .i64 0, .int .i64 0, .int .i64 0, .slice none 0 0, .int .i64 0, .bool false, .slice none 0 0, .slice none 0 0, .slice none 0 0, .bool false]⟩),
 (106, ⟨1, 24, .slice 51, [.slice none 0 0]⟩),
 (239, ⟨1, 8, .int .u64, [.int .u64 0]⟩),
 (258, ⟨1, 8, .int .u64, [.int .u64 0]⟩),
 (112, ⟨1, 24, .slice 70, [.slice none 0 0]⟩),
 (178, ⟨6, 64, .struct #[⟨"Routine", 3, 0, false, "", "", 0⟩, ⟨"Pc", 3, 1, false, "", "", 8⟩, ⟨"State", 3, 2, false, "", "", 16⟩, ⟨"Cond", 3, 3, false, "", "", 24⟩, ⟨"Lock", 3, 4, false, "", "", 32⟩, ⟨"Stack", 50, 5, false, "", "", 40⟩], [.int .i64 0, .int .i64 0, .int .i64 0, .int .i64 0, .int .i64 0, .slice none 0 0]⟩),
 (173, ⟨7, 88, .struct #[⟨"p", 34, 0, false, "", "loop.example/g00696/impl", 0⟩, ⟨"budget", 3, 4, false, "", "loop.example/g00696/impl", 48⟩, ⟨"runs", 112, 5, false, "", "loop.example/g00696/impl", 56⟩, ⟨"sleeps", 4, 6, false, "", "loop.example/g00696/impl", 80⟩], [.int .i64 0, .int .i64 0, .int .i64 0, .slice none 0 0, .int .i64 0, .slice none 0 0, .bool false]⟩),
 (107, ⟨1, 24, .slice 68, [.slice none 0 0]⟩),
 (108, ⟨1, 24, .slice 9, [.slice none 0 0]⟩),
 (137, ⟨2, 48, .struct #[⟨"Ranks", 51, 0, false, "", "", 0⟩, ⟨"Changes", 51, 1, false, "", "", 24⟩], [.slice none 0 0, .slice none 0 0]⟩),
 (139, ⟨2, 40, .struct #[⟨"Sign", 9, 0, false, "", "", 0⟩, ⟨"Picks", 51, 1, false, "", "", 16⟩], [.string ⟨#[]⟩, .slice none 0 0]⟩),
 (152, ⟨3, 24, .struct #[⟨"Cell", 3, 0, false, "", "", 0⟩, ⟨"One", 3, 1, false, "", "", 8⟩, ⟨"Two", 3, 2, false, "", "", 16⟩], [.int .i64 0, .int .i64 0, .int .i64 0]⟩),
 (233, ⟨1, 8, .int .u64, [.int .u64 0]⟩),
 (214, ⟨1, 24, .slice 3, [.slice none 0 0]⟩),
 (213, ⟨4, 32, .struct #[⟨"Code", 3, 0, false, "", "", 0⟩, ⟨"A", 3, 1, false, "", "", 8⟩, ⟨"B", 3, 2, false, "", "", 16⟩, ⟨"V", 142, 3, false, "", "", 24⟩], [.int .i64 0, .int .i64 0, .int .i64 0, .float .f64 0]⟩),
 (167, ⟨1, 24, .slice 213, [.slice none 0 0]⟩),
 (249, ⟨1, 4, .int .u32, [.int .u32 0]⟩),
 (251, ⟨1, 24, .slice 5, [.slice none 0 0]⟩)]
theorem ty3 : tiOf Tryz.prog 3 = some ⟨1, 8, .int .i64, [.int .i64 0]⟩ := by kernel_rfl
theorem ty4 : tiOf Tryz.prog 4 = some ⟨1, 1, .bool, [.bool false]⟩ := by kernel_rfl
theorem ty5 : tiOf Tryz.prog 5 = some ⟨1, 1, .int .u8, [.int .u8 0]⟩ := by kernel_rfl
theorem ty9 : tiOf Tryz.prog 9 = some ⟨1, 16, .string, [.string ⟨#[]⟩]⟩ := by kernel_rfl
theorem ty57 : tiOf Tryz.prog 57 = some ⟨4, 80, .struct #[⟨"Threads", 55, 0, false, "", "", 0⟩, ⟨"Cells", 50, 1, false, "", "", 24⟩, ⟨"Owner", 51, 2, false, "", "", 48⟩, ⟨"Fault", 3, 3, false, "", "", 72⟩], [.slice none 0 0, .slice none 0 0, .slice none 0 0, .int .i64 0]⟩ := by kernel_rfl
theorem ty51 : tiOf Tryz.prog 51 = some ⟨1, 24, .slice 3, [.slice none 0 0]⟩ := by kernel_rfl
theorem ty59 : tiOf Tryz.prog 59 = some ⟨5, 40, .struct #[⟨"Thread", 3, 0, false, "", "", 0⟩, ⟨"Kind", 3, 1, false, "", "", 8⟩, ⟨"Obj", 3, 2, false, "", "", 16⟩, ⟨"Lock", 3, 3, false, "", "", 24⟩, ⟨"Pc", 3, 4, false, "", "", 32⟩], [.int .i64 0, .int .i64 0, .int .i64 0, .int .i64 0, .int .i64 0]⟩ := by kernel_rfl
theorem ty34 : tiOf Tryz.prog 34 = some ⟨4, 48, .struct #[⟨"Cells", 3, 0, false, "", "", 0⟩, ⟨"Locks", 3, 1, false, "", "", 8⟩, ⟨"Conds", 3, 2, false, "", "", 16⟩, ⟨"Routines", 32, 3, false, "", "", 24⟩], [.int .i64 0, .int .i64 0, .int .i64 0, .slice none 0 0]⟩ := by kernel_rfl
theorem ty179 : tiOf Tryz.prog 179 = some ⟨6, 64, .struct #[⟨"Routine", 3, 0, false, "", "", 0⟩, ⟨"Pc", 3, 1, false, "", "", 8⟩, ⟨"State", 3, 2, false, "", "", 16⟩, ⟨"Cond", 3, 3, false, "", "", 24⟩, ⟨"Lock", 3, 4, false, "", "", 32⟩, ⟨"Stack", 50, 5, false, "", "", 40⟩], [.int .i64 0, .int .i64 0, .int .i64 0, .int .i64 0, .int .i64 0, .slice none 0 0]⟩ := by kernel_rfl
theorem ty70 : tiOf Tryz.prog 70 = some ⟨7, 136, .struct #[⟨"Code", 3, 0, false, "", "", 0⟩, ⟨"Trace", 68, 1, false, "", "", 8⟩, ⟨"Picks", 51, 2, false, "", "", 32⟩, ⟨"End", 57, 3, false, "", "", 56⟩], [.int .i64 0, .slice none 0 0, .slice none 0 0, .slice none 0 0, .slice none 0 0, .slice none 0 0, .int .i64 0]⟩ := by kernel_rfl
theorem ty144 : tiOf Tryz.prog 144 = some ⟨4, 32, .struct #[⟨"Code", 3, 0, false, "", "", 0⟩, ⟨"A", 3, 1, false, "", "", 8⟩, ⟨"B", 3, 2, false, "", "", 16⟩, ⟨"V", 142, 3, false, "", "", 24⟩], [.int .i64 0, .int .i64 0, .int .i64 0, .float .f64 0]⟩ := by kernel_rfl
theorem ty24 : tiOf Tryz.prog 24 = some ⟨4, 48, .struct #[⟨"Cells", 3, 0, false, "", "", 0⟩, ⟨"Locks", 3, 1, false, "", "", 8⟩, ⟨"Conds", 3, 2, false, "", "", 16⟩, ⟨"Routines", 22, 3, false, "", "", 24⟩], [.int .i64 0, .int .i64 0, .int .i64 0, .slice none 0 0]⟩ := by kernel_rfl
theorem ty50 : tiOf Tryz.prog 50 = some ⟨1, 24, .slice 142, [.slice none 0 0]⟩ := by kernel_rfl
theorem ty22 : tiOf Tryz.prog 22 = some ⟨1, 24, .slice 167, [.slice none 0 0]⟩ := by kernel_rfl
theorem ty55 : tiOf Tryz.prog 55 = some ⟨1, 24, .slice 179, [.slice none 0 0]⟩ := by kernel_rfl
theorem ty25 : tiOf Tryz.prog 25 = some ⟨1, 24, .slice 137, [.slice none 0 0]⟩ := by kernel_rfl
theorem ty26 : tiOf Tryz.prog 26 = some ⟨1, 24, .slice 152, [.slice none 0 0]⟩ := by kernel_rfl
theorem ty29 : tiOf Tryz.prog 29 = some ⟨8, 128, .struct #[⟨"Prog", 24, 0, false, "", "", 0⟩, ⟨"Kept", 25, 4, false, "", "", 48⟩, ⟨"Covered", 26, 5, false, "", "", 72⟩, ⟨"Finds", 27, 6, false, "", "", 96⟩, ⟨"Tried", 3, 7, false, "", "", 120⟩], [.int .i64 0, .int .i64 0, .int .i64 0, .slice none 0 0, .slice none 0 0, .slice none 0 0, .slice none 0 0, .int .i64 0]⟩ := by kernel_rfl
theorem ty32 : tiOf Tryz.prog 32 = some ⟨1, 24, .slice 141, [.slice none 0 0]⟩ := by kernel_rfl
theorem ty27 : tiOf Tryz.prog 27 = some ⟨1, 24, .slice 139, [.slice none 0 0]⟩ := by kernel_rfl
theorem ty39 : tiOf Tryz.prog 39 = some ⟨8, 128, .struct #[⟨"Prog", 34, 0, false, "", "", 0⟩, ⟨"Kept", 35, 4, false, "", "", 48⟩, ⟨"Covered", 36, 5, false, "", "", 72⟩, ⟨"Finds", 37, 6, false, "", "", 96⟩, ⟨"Tried", 3, 7, false, "", "", 120⟩], [.int .i64 0, .int .i64 0, .int .i64 0, .slice none 0 0, .slice none 0 0, .slice none 0 0, .slice none 0 0, .int .i64 0]⟩ := by kernel_rfl
theorem ty35 : tiOf Tryz.prog 35 = some ⟨1, 24, .slice 85, [.slice none 0 0]⟩ := by kernel_rfl
theorem ty53 : tiOf Tryz.prog 53 = some ⟨4, 80, .struct #[⟨"Threads", 49, 0, false, "", "", 0⟩, ⟨"Cells", 50, 1, false, "", "", 24⟩, ⟨"Owner", 51, 2, false, "", "", 48⟩, ⟨"Fault", 3, 3, false, "", "", 72⟩], [.slice none 0 0, .slice none 0 0, .slice none 0 0, .int .i64 0]⟩ := by kernel_rfl
theorem ty37 : tiOf Tryz.prog 37 = some ⟨1, 24, .slice 96, [.slice none 0 0]⟩ := by kernel_rfl
theorem ty142 : tiOf Tryz.prog 142 = some ⟨1, 8, .float .f64, [.float .f64 0]⟩ := by kernel_rfl
theorem ty36 : tiOf Tryz.prog 36 = some ⟨1, 24, .slice 147, [.slice none 0 0]⟩ := by kernel_rfl
theorem ty68 : tiOf Tryz.prog 68 = some ⟨1, 24, .slice 59, [.slice none 0 0]⟩ := by kernel_rfl
theorem ty147 : tiOf Tryz.prog 147 = some ⟨3, 24, .struct #[⟨"Cell", 3, 0, false, "", "", 0⟩, ⟨"One", 3, 1, false, "", "", 8⟩, ⟨"Two", 3, 2, false, "", "", 16⟩], [.int .i64 0, .int .i64 0, .int .i64 0]⟩ := by kernel_rfl
theorem ty85 : tiOf Tryz.prog 85 = some ⟨2, 48, .struct #[⟨"Ranks", 51, 0, false, "", "", 0⟩, ⟨"Changes", 51, 1, false, "", "", 24⟩], [.slice none 0 0, .slice none 0 0]⟩ := by kernel_rfl
theorem ty49 : tiOf Tryz.prog 49 = some ⟨1, 24, .slice 178, [.slice none 0 0]⟩ := by kernel_rfl
theorem ty96 : tiOf Tryz.prog 96 = some ⟨2, 40, .struct #[⟨"Sign", 9, 0, false, "", "", 0⟩, ⟨"Picks", 51, 1, false, "", "", 16⟩], [.string ⟨#[]⟩, .slice none 0 0]⟩ := by kernel_rfl
theorem ty141 : tiOf Tryz.prog 141 = some ⟨1, 24, .slice 144, [.slice none 0 0]⟩ := by kernel_rfl
theorem ty110 : tiOf Tryz.prog 110 = some ⟨10, 144, .struct #[⟨"p", 34, 0, false, "", "loop.example/g00696/spec", 0⟩, ⟨"budget", 3, 4, false, "", "loop.example/g00696/spec", 48⟩, ⟨"sleeps", 4, 5, false, "", "loop.example/g00696/spec", 56⟩, ⟨"runs", 106, 6, false, "", "loop.example/g00696/spec", 64⟩, ⟨"traces", 107, 7, false, "", "loop.example/g00696/spec", 88⟩, ⟨"signs", 108, 8, false, "", "loop.example/g00696/spec", 112⟩, ⟨"many", 4, 9, false, "", "loop.example/g00696/spec", 136⟩], [.int .i64 0, .int .i64 0, .int .i64 0, .slice none 0 0, .int .i64 0, .bool false, .slice none 0 0, .slice none 0 0, .slice none 0 0, .bool false]⟩ := by kernel_rfl
theorem ty106 : tiOf Tryz.prog 106 = some ⟨1, 24, .slice 51, [.slice none 0 0]⟩ := by kernel_rfl
theorem ty239 : tiOf Tryz.prog 239 = some ⟨1, 8, .int .u64, [.int .u64 0]⟩ := by kernel_rfl
theorem ty258 : tiOf Tryz.prog 258 = some ⟨1, 8, .int .u64, [.int .u64 0]⟩ := by kernel_rfl
theorem ty112 : tiOf Tryz.prog 112 = some ⟨1, 24, .slice 70, [.slice none 0 0]⟩ := by kernel_rfl
theorem ty178 : tiOf Tryz.prog 178 = some ⟨6, 64, .struct #[⟨"Routine", 3, 0, false, "", "", 0⟩, ⟨"Pc", 3, 1, false, "", "", 8⟩, ⟨"State", 3, 2, false, "", "", 16⟩, ⟨"Cond", 3, 3, false, "", "", 24⟩, ⟨"Lock", 3, 4, false, "", "", 32⟩, ⟨"Stack", 50, 5, false, "", "", 40⟩], [.int .i64 0, .int .i64 0, .int .i64 0, .int .i64 0, .int .i64 0, .slice none 0 0]⟩ := by kernel_rfl
theorem ty173 : tiOf Tryz.prog 173 = some ⟨7, 88, .struct #[⟨"p", 34, 0, false, "", "loop.example/g00696/impl", 0⟩, ⟨"budget", 3, 4, false, "", "loop.example/g00696/impl", 48⟩, ⟨"runs", 112, 5, false, "", "loop.example/g00696/impl", 56⟩, ⟨"sleeps", 4, 6, false, "", "loop.example/g00696/impl", 80⟩], [.int .i64 0, .int .i64 0, .int .i64 0, .slice none 0 0, .int .i64 0, .slice none 0 0, .bool false]⟩ := by kernel_rfl
theorem ty107 : tiOf Tryz.prog 107 = some ⟨1, 24, .slice 68, [.slice none 0 0]⟩ := by kernel_rfl
theorem ty108 : tiOf Tryz.prog 108 = some ⟨1, 24, .slice 9, [.slice none 0 0]⟩ := by kernel_rfl
theorem ty137 : tiOf Tryz.prog 137 = some ⟨2, 48, .struct #[⟨"Ranks", 51, 0, false, "", "", 0⟩, ⟨"Changes", 51, 1, false, "", "", 24⟩], [.slice none 0 0, .slice none 0 0]⟩ := by kernel_rfl
theorem ty139 : tiOf Tryz.prog 139 = some ⟨2, 40, .struct #[⟨"Sign", 9, 0, false, "", "", 0⟩, ⟨"Picks", 51, 1, false, "", "", 16⟩], [.string ⟨#[]⟩, .slice none 0 0]⟩ := by kernel_rfl
theorem ty152 : tiOf Tryz.prog 152 = some ⟨3, 24, .struct #[⟨"Cell", 3, 0, false, "", "", 0⟩, ⟨"One", 3, 1, false, "", "", 8⟩, ⟨"Two", 3, 2, false, "", "", 16⟩], [.int .i64 0, .int .i64 0, .int .i64 0]⟩ := by kernel_rfl
theorem ty233 : tiOf Tryz.prog 233 = some ⟨1, 8, .int .u64, [.int .u64 0]⟩ := by kernel_rfl
theorem ty214 : tiOf Tryz.prog 214 = some ⟨1, 24, .slice 3, [.slice none 0 0]⟩ := by kernel_rfl
theorem ty213 : tiOf Tryz.prog 213 = some ⟨4, 32, .struct #[⟨"Code", 3, 0, false, "", "", 0⟩, ⟨"A", 3, 1, false, "", "", 8⟩, ⟨"B", 3, 2, false, "", "", 16⟩, ⟨"V", 142, 3, false, "", "", 24⟩], [.int .i64 0, .int .i64 0, .int .i64 0, .float .f64 0]⟩ := by kernel_rfl
theorem ty167 : tiOf Tryz.prog 167 = some ⟨1, 24, .slice 213, [.slice none 0 0]⟩ := by kernel_rfl
theorem ty249 : tiOf Tryz.prog 249 = some ⟨1, 4, .int .u32, [.int .u32 0]⟩ := by kernel_rfl
theorem ty251 : tiOf Tryz.prog 251 = some ⟨1, 24, .slice 5, [.slice none 0 0]⟩ := by kernel_rfl
theorem Θ_ok : TOK Tryz.prog Θ := ⟨ty3, ty4, ty5, ty9, ty57, ty51, ty59, ty34, ty179, ty70, ty144, ty24, ty50, ty22, ty55, ty25, ty26, ty29, ty32, ty27, ty39, ty35, ty53, ty37, ty142, ty36, ty68, ty147, ty85, ty49, ty96, ty141, ty110, ty106, ty239, ty258, ty112, ty178, ty173, ty107, ty108, ty137, ty139, ty152, ty233, ty214, ty213, ty167, ty249, ty251, trivial⟩
theorem mixed : Tryz.prog.follows .mixedOrders = true := by kernel_rfl
structure GOp where
 Code : Int
 A : Int
 B : Int
 V : Nat
 deriving DecidableEq
structure GProg where
 Cells : Int
 Locks : Int
 Conds : Int
 Routines : (List (List GOp))
 deriving DecidableEq
structure GThread where
 Routine : Int
 Pc : Int
 State : Int
 Cond : Int
 Lock : Int
 Stack : (List Nat)
 deriving DecidableEq
structure GState where
 Threads : (List GThread)
 Cells : (List Nat)
 Owner : (List Int)
 Fault : Int
 deriving DecidableEq
structure GEvent where
 Thread : Int
 Kind : Int
 Obj : Int
 Lock : Int
 Pc : Int
 deriving DecidableEq
structure GRun where
 Code : Int
 Trace : (List GEvent)
 Picks : (List Int)
 End : GState
 deriving DecidableEq
def wfGOp (x : GOp) : Prop := ((Lit.int .i64 x.Code).wf = true) ∧ ((Lit.int .i64 x.A).wf = true) ∧ ((Lit.int .i64 x.B).wf = true) ∧ (x.V < 18446744073709551616)
def wfGProg (x : GProg) : Prop := ((Lit.int .i64 x.Cells).wf = true) ∧ ((Lit.int .i64 x.Locks).wf = true) ∧ ((Lit.int .i64 x.Conds).wf = true) ∧ (x.Routines.length ≤ 9223372036854775807 ∧ ∀ y0 ∈ x.Routines, y0.length ≤ 9223372036854775807 ∧ ∀ y1 ∈ y0, wfGOp y1)
def o3 (x : Int) : List AV := [I x]
def k3 (x : Int) : AV := I x
theorem t3 : ∀ x, treeL (o3 x) = true := (fun _ => rfl)
theorem z3 : ∀ x, frzL (o3 x) = o3 x := (fun _ => rfl)
theorem n3 : ∀ x, noRoL (o3 x) = true := (fun _ => rfl)
theorem pa3 : ∀ x, (o3 x).all AV.plain = true := (fun _ => rfl)
def o142 (x : Nat) : List AV := [FK x]
theorem t142 : ∀ x, treeL (o142 x) = true := (fun _ => rfl)
theorem z142 : ∀ x, frzL (o142 x) = o142 x := (fun _ => rfl)
theorem n142 : ∀ x, noRoL (o142 x) = true := (fun _ => rfl)
theorem pa142 : ∀ x, (o142 x).all AV.plain = true := (fun _ => rfl)
def o213 (x : GOp) : List AV := [I x.Code, I x.A, I x.B, FK x.V]
def o167 (x : (List GOp)) : List AV := [AV.own 213 4 (x.map o213)]
def r167 (x : (List GOp)) : List AV := [AV.ro 4 (x.map o213)]
def r22 (x : (List (List GOp))) : List AV := [AV.ro 1 (x.map r167)]
def o24 (x : GProg) : List AV := [I x.Cells, I x.Locks, I x.Conds, AV.own 167 1 (x.Routines.map o167)]
def r24 (x : GProg) : List AV := [I x.Cells, I x.Locks, I x.Conds, AV.ro 1 (x.Routines.map r167)]
theorem t24 : ∀ x, treeL (o24 x) = true := fun _ => rfl
def o51 (x : (List Int)) : List AV := [AV.own 3 1 (x.map o3)]
def r51 (x : (List Int)) : List AV := [AV.ro 1 (x.map o3)]
theorem t51 : ∀ x, treeL (o51 x) = true := fun _ => rfl
def k4 (x : Bool) : AV := B x
def o144 (x : GOp) : List AV := [I x.Code, I x.A, I x.B, FK x.V]
theorem t144 : ∀ x, treeL (o144 x) = true := (fun _ => rfl)
theorem z144 : ∀ x, frzL (o144 x) = o144 x := (fun _ => rfl)
theorem n144 : ∀ x, noRoL (o144 x) = true := (fun _ => rfl)
def o141 (x : (List GOp)) : List AV := [AV.own 144 4 (x.map o144)]
def r141 (x : (List GOp)) : List AV := [AV.ro 4 (x.map o144)]
theorem t141 : ∀ x, treeL (o141 x) = true := fun _ => rfl
theorem z141 : ∀ x, frzL (o141 x) = r141 x := fun x => by simp only [o141, r141, frzL, frz, frzLLm z144]
theorem n141 : ∀ x, noRoL (o141 x) = true := fun x => by simp only [o141, noRoL, noRo, noRoM n144, Bool.and_self]
def o34 (x : GProg) : List AV := [I x.Cells, I x.Locks, I x.Conds, AV.own 141 1 (x.Routines.map o141)]
def r34 (x : GProg) : List AV := [I x.Cells, I x.Locks, I x.Conds, AV.ro 1 (x.Routines.map r141)]
theorem t34 : ∀ x, treeL (o34 x) = true := fun _ => rfl
def o179 (x : GThread) : List AV := [I x.Routine, I x.Pc, I x.State, I x.Cond, I x.Lock, AV.own 142 1 (x.Stack.map o142)]
def r179 (x : GThread) : List AV := [I x.Routine, I x.Pc, I x.State, I x.Cond, I x.Lock, AV.ro 1 (x.Stack.map o142)]
theorem tr179 : ∀ x, treeL (r179 x) = true := fun _ => rfl
theorem par179 : ∀ x, (r179 x).all AV.plain = true := fun _ => rfl
theorem t179 : ∀ x, treeL (o179 x) = true := fun _ => rfl
theorem z179 : ∀ x, frzL (o179 x) = r179 x := fun x => by simp only [o179, r179, frzL, frz, frzLLm z142]
theorem n179 : ∀ x, noRoL (o179 x) = true := fun x => by simp only [o179, noRoL, noRo, noRoM n142, Bool.and_self]
def o57 (x : GState) : List AV := [AV.own 179 6 (x.Threads.map o179), AV.own 142 1 (x.Cells.map o142), AV.own 3 1 (x.Owner.map o3), I x.Fault]
def r57 (x : GState) : List AV := [AV.ro 6 (x.Threads.map r179), AV.ro 1 (x.Cells.map o142), AV.ro 1 (x.Owner.map o3), I x.Fault]
theorem t57 : ∀ x, treeL (o57 x) = true := fun _ => rfl
theorem z57 : ∀ x, frzL (o57 x) = r57 x := fun x => by simp only [o57, r57, frzL, frz, frzLLm z3, frzLLm z142, frzLLm z179]
theorem n57 : ∀ x, noRoL (o57 x) = true := fun x => by simp only [o57, noRoL, noRo, noRoM n3, noRoM n142, noRoM n179, Bool.and_self]
def o59 (x : GEvent) : List AV := [I x.Thread, I x.Kind, I x.Obj, I x.Lock, I x.Pc]
theorem t59 : ∀ x, treeL (o59 x) = true := (fun _ => rfl)
theorem z59 : ∀ x, frzL (o59 x) = o59 x := (fun _ => rfl)
theorem n59 : ∀ x, noRoL (o59 x) = true := (fun _ => rfl)
theorem pa59 : ∀ x, (o59 x).all AV.plain = true := (fun _ => rfl)
def o70 (x : GRun) : List AV := [I x.Code, AV.own 59 5 (x.Trace.map o59), AV.own 3 1 (x.Picks.map o3), AV.own 179 6 (x.End.Threads.map o179), AV.own 142 1 (x.End.Cells.map o142), AV.own 3 1 (x.End.Owner.map o3), I x.End.Fault]
def r70 (x : GRun) : List AV := [I x.Code, AV.ro 5 (x.Trace.map o59), AV.ro 1 (x.Picks.map o3), AV.ro 6 (x.End.Threads.map r179), AV.ro 1 (x.End.Cells.map o142), AV.ro 1 (x.End.Owner.map o3), I x.End.Fault]
theorem t70 : ∀ x, treeL (o70 x) = true := fun _ => rfl
theorem z70 : ∀ x, frzL (o70 x) = r70 x := fun x => by simp only [o70, r70, frzL, frz, frzLLm z3, frzLLm z59, frzLLm z142, frzLLm z179]
def o5 (x : Int) : List AV := [IK .u8 x]
theorem n5 : ∀ x, noRoL (o5 x) = true := (fun _ => rfl)
theorem andP : ∀ {p q : List Prop}, AllP p → AllP q → AllP (p ++ q)
 | [], _, _, h => h
 | _ :: _, _, h, k => ⟨h.1, andP h.2 k⟩
theorem gR {E : Env} (hP : E.P = Tryz.prog) {n : Nat} (hn : E.n = n) {body : Code} {rv : List ResultVar} {ks : List Bool} {rs : List Root} {pt : List Bool} {s : St} {res : AV} (hs : List Hn) (rh : List H) (ph : PH) (ps : List Prop) (hp : AllP ps) (h : runRet Θ Tryz.prog n body rv ks rs pt s hs rh ph res = some ps := by kernel_rfl) : WAt E body (FQ (RetE Θ rv ks rs res E)) pt s :=
 go_ret (by rw [hP]; exact Θ_ok) (by rw [hP]; exact mixed) hP hn h hp
theorem gT {E : Env} (hP : E.P = Tryz.prog) {n : Nat} (hn : E.n = n) {body : Code} {fr : List Nat} (hfx : ∀ p, p ∈ E.fx → p.1 ∈ fr) {R : St → Prop} {pt tgt : List Bool} {s s' : St} (hs : List Hn) (π : List (Nat × Nat)) (ts kp : List Nat) (ps : List Prop) (hp : AllP ps) (hk : WAt E body (FQ R) tgt s') (h : runTo Θ Tryz.prog n body fr pt tgt s hs π ts kp = some (s', ps) := by kernel_rfl) : WAt E body (FQ R) pt s :=
 go_to (by rw [hP]; exact Θ_ok) (by rw [hP]; exact mixed) hfx hP hn h hp hk
def FX (E : Env) (l : List Nat) : Prop := ∀ p, p ∈ E.fx → p.1 ∈ l
theorem gM {f : FuncId} {fn : Func} (hf : Tryz.prog.funcs[f]? = some fn) (n : Nat) (c : Code) {args : List AV} {res : AV} (h : ∀ E : Env, E.P = Tryz.prog → E.n = n → FX E [] → WAt E c (FQ (RetE Θ fn.results.toList [] [] res E)) [] (entry args)) (hq : args.length ≤ fn.ntmps := by exact Nat.le_of_ble_eq_true rfl) (hname : (fn.name == "runtime.NumGoroutine") = false := by exact rfl) (hb : fn.body = some c := by kernel_rfl) (hn : fn.ntmps = n := by exact rfl) : Meets Tryz.prog f args res :=
 meets_ofC Θ_ok hf hname hb hq fun E a b c => h E a (b.trans hn) c
theorem lnq {a b : Nat} (h : a = b := by first | exact lnSet _ | exact lnSet2 _ | exact apLn _ (by assumption) | simp +zetaDelta only [List.length_map, List.length_set, List.length_cons, List.length_nil]) : a = b := h
theorem leB {a b : Nat} (h : Nat.ble a b = true := by exact rfl) : a ≤ b := Nat.le_of_ble_eq_true h
theorem setMrq {α β : Type} {l : List α} {i : Int} (f : α → β) {y : α} {ys : β} (h : ys = f y := by kernel_rfl) : (l.map f).set i.toNat ys = (l.set i.toNat y).map f := setMr f h
theorem setSSq {α β : Type} {l : List α} {i : Int} (f : α → β) {x y : α} {ys : β} (h : ys = f y := by kernel_rfl) : ((l.set i.toNat x).map f).set i.toNat ys = (l.set i.toNat y).map f := setSS f h
theorem sj {α : Type} {a b : α} (h : some a = some b) : a = b := Option.some.inj h
def nS : AV := AV.lit (.slice none 0 0)
def hh (k : Nat) (h : H) : Hn := ⟨k, h, none⟩
def hT (k : Nat) : Hn := ⟨k, .br true, none⟩
def hF (k : Nat) : Hn := ⟨k, .br false, none⟩
def hW (k i : Nat) : Hn := ⟨k, .new i, none⟩
def hO (k : Nat) (x : AV) : Hn := ⟨k, .no, some x⟩
end Go.Proofs.YtjcaompblpglcaaGreat
