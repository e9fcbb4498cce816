/- The types of this seat, as plain data and in memory; no condition. -/

import Derived.Test.YtjcaompblpglcaaGreatProg
import Derived.Test.YtjcaompblpglcaaGreatBN
set_option linter.unusedVariables false
namespace Go.Proofs.YtjcaompblpglcaaGreat
open Go Go.T
def Θ : Tys := [(3, ⟨1, 8, .int .i64, [.int .i64 0]⟩),
 (4, ⟨1, 1, .bool, [.bool false]⟩),
 (5, ⟨1, 1, .int .u8, [.int .u8 0]⟩),
 (9, ⟨1, 16, .string, [.string ⟨#[]⟩]⟩),
 (57, ⟨4, 80, .struct #[⟨"Threads", 55, 0, false, "", "", 0⟩, ⟨"Cells", 50, 1, false, "", "", 24⟩, ⟨"Owner", 51, 2, false, "", "", 48⟩, ⟨"Fault", 3, 3, false, "", "", 72⟩], [.slice none 0 0, .slice none 0 0, .slice none 0 0, .int .i64 0]⟩),
 (51, ⟨1, 24, .slice 3, [.slice none 0 0]⟩),
 (59, ⟨5, 40, .struct #[⟨"Thread", 3, 0, false, "", "", 0⟩, ⟨"Kind", 3, 1, false, "", "", 8⟩, ⟨"Obj", 3, 2, false, "", "", 16⟩, ⟨"Lock", 3, 3, false, "", "", 24⟩, ⟨"Pc", 3, 4, false, "", "", 32⟩], [.int .i64 0, .int .i64 0, .int .i64 0, .int .i64 0, .int .i64 0]⟩),
 (34, ⟨4, 48, .struct #[⟨"Cells", 3, 0, false, "", "", 0⟩, ⟨"Locks", 3, 1, false, "", "", 8⟩, ⟨"Conds", 3, 2, false, "", "", 16⟩, ⟨"Routines", 32, 3, false, "", "", 24⟩], [.int .i64 0, .int .i64 0, .int .i64 0, .slice none 0 0]⟩),
 (179, ⟨6, 64, .struct #[⟨"Routine", 3, 0, false, "", "", 0⟩, ⟨"Pc", 3, 1, false, "", "", 8⟩, ⟨"State", 3, 2, false, "", "", 16⟩, ⟨"Cond", 3, 3, false, "", "", 24⟩, ⟨"Lock", 3, 4, false, "", "", 32⟩, ⟨"Stack", 50, 5, false, "", "", 40⟩], [.int .i64 0, .int .i64 0, .int .i64 0, .int .i64 0, .int .i64 0, .slice none 0 0]⟩),
 (70, ⟨7, 136, .struct #[⟨"Code", 3, 0, false, "", "", 0⟩, ⟨"Trace", 68, 1, false, "", "", 8⟩, ⟨"Picks", 51, 2, false, "", "", 32⟩, ⟨"End", 57, 3, false, "", "", 56⟩], [.int .i64 0, .slice none 0 0, .slice none 0 0, .slice none 0 0, .slice none 0 0, .slice none 0 0, .int .i64 0]⟩),
 (144, ⟨4, 32, .struct #[⟨"Code", 3, 0, false, "", "", 0⟩, ⟨"A", 3, 1, false, "", "", 8⟩, ⟨"B", 3, 2, false, "", "", 16⟩, ⟨"V", 142, 3, false, "", "", 24⟩], [.int .i64 0, .int .i64 0, .int .i64 0, .float .f64 0]⟩),
 (24, ⟨4, 48, .struct #[⟨"Cells", 3, 0, false, "", "", 0⟩, ⟨"Locks", 3, 1, false, "", "", 8⟩, ⟨"Conds", 3, 2, false, "", "", 16⟩, ⟨"Routines", 22, 3, false, "", "", 24⟩], [.int .i64 0, .int .i64 0, .int .i64 0, .slice none 0 0]⟩),
 (50, ⟨1, 24, .slice 142, [.slice none 0 0]⟩),
 (22, ⟨1, 24, .slice 167, [.slice none 0 0]⟩),
 (55, ⟨1, 24, .slice 179, [.slice none 0 0]⟩),
 (25, ⟨1, 24, .slice 137, [.slice none 0 0]⟩),
 (26, ⟨1, 24, .slice 152, [.slice none 0 0]⟩),
 (29, ⟨8, 128, .struct #[⟨"Prog", 24, 0, false, "", "", 0⟩, ⟨"Kept", 25, 4, false, "", "", 48⟩, ⟨"Covered", 26, 5, false, "", "", 72⟩, ⟨"Finds", 27, 6, false, "", "", 96⟩, ⟨"Tried", 3, 7, false, "", "", 120⟩], [.int .i64 0, .int .i64 0, .int .i64 0, .slice none 0 0, .slice none 0 0, .slice none 0 0, .slice none 0 0, .int .i64 0]⟩),
 (32, ⟨1, 24, .slice 141, [.slice none 0 0]⟩),
 (27, ⟨1, 24, .slice 139, [.slice none 0 0]⟩),
 (39, ⟨8, 128, .struct #[⟨"Prog", 34, 0, false, "", "", 0⟩, ⟨"Kept", 35, 4, false, "", "", 48⟩, ⟨"Covered", 36, 5, false, "", "", 72⟩, ⟨"Finds", 37, 6, false, "", "", 96⟩, ⟨"Tried", 3, 7, false, "", "", 120⟩], [.int .i64 0, .int .i64 0, .int .i64 0, .slice none 0 0, .slice none 0 0, .slice none 0 0, .slice none 0 0, .int .i64 0]⟩),
 (35, ⟨1, 24, .slice 85, [.slice none 0 0]⟩),
 (53, ⟨4, 80, .struct #[⟨"Threads", 49, 0, false, "", "", 0⟩, ⟨"Cells", 50, 1, false, "", "", 24⟩, ⟨"Owner", 51, 2, false, "", "", 48⟩, ⟨"Fault", 3, 3, false, "", "", 72⟩], [.slice none 0 0, .slice none 0 0, .slice none 0 0, .int .i64 0]⟩),
 (37, ⟨1, 24, .slice 96, [.slice none 0 0]⟩),
 (142, ⟨1, 8, .float .f64, [.float .f64 0]⟩),
 (36, ⟨1, 24, .slice 147, [.slice none 0 0]⟩),
 (68, ⟨1, 24, .slice 59, [.slice none 0 0]⟩),
 (147, ⟨3, 24, .struct #[⟨"Cell", 3, 0, false, "", "", 0⟩, ⟨"One", 3, 1, false, "", "", 8⟩, ⟨"Two", 3, 2, false, "", "", 16⟩], [.int .i64 0, .int .i64 0, .int .i64 0]⟩),
 (85, ⟨2, 48, .struct #[⟨"Ranks", 51, 0, false, "", "", 0⟩, ⟨"Changes", 51, 1, false, "", "", 24⟩], [.slice none 0 0, .slice none 0 0]⟩),
 (49, ⟨1, 24, .slice 178, [.slice none 0 0]⟩),
 (96, ⟨2, 40, .struct #[⟨"Sign", 9, 0, false, "", "", 0⟩, ⟨"Picks", 51, 1, false, "", "", 16⟩], [.string ⟨#[]⟩, .slice none 0 0]⟩),
 (141, ⟨1, 24, .slice 144, [.slice none 0 0]⟩),
 (110, ⟨10, 144, .struct #[⟨"p", 34, 0, false, "", "loop.example/g00696/spec", 0⟩, ⟨"budget", 3, 4, false, "", "loop.example/g00696/spec", 48⟩, ⟨"sleeps", 4, 5, false, "", "loop.example/g00696/spec", 56⟩, ⟨"runs", 106, 6, false, "", "loop.example/g00696/spec", 64⟩, ⟨"traces", 107, 7, false, "", "loop.example/g00696/spec", 88⟩, ⟨"signs", 108, 8, false, "", "loop.example/g00696/spec", 112⟩, ⟨"many", 4, 9, false, "", "loop.example/g00696/spec", 136⟩], [.int .i64 0, .int .i64 0, .int .i64 0, .slice none 0 0, .int .i64 0, .bool false, .slice none 0 0, .slice none 0 0, .slice none 0 0, .bool false]⟩),
 (106, ⟨1, 24, .slice 51, [.slice none 0 0]⟩),
 (239, ⟨1, 8, .int .u64, [.int .u64 0]⟩),
 (258, ⟨1, 8, .int .u64, [.int .u64 0]⟩),
 (112, ⟨1, 24, .slice 70, [.slice none 0 0]⟩),
 (178, ⟨6, 64, .struct #[⟨"Routine", 3, 0, false, "", "", 0⟩, ⟨"Pc", 3, 1, false, "", "", 8⟩, ⟨"State", 3, 2, false, "", "", 16⟩, ⟨"Cond", 3, 3, false, "", "", 24⟩, ⟨"Lock", 3, 4, false, "", "", 32⟩, ⟨"Stack", 50, 5, false, "", "", 40⟩], [.int .i64 0, .int .i64 0, .int .i64 0, .int .i64 0, .int .i64 0, .slice none 0 0]⟩),
 (173, ⟨7, 88, .struct #[⟨"p", 34, 0, false, "", "loop.example/g00696/impl", 0⟩, ⟨"budget", 3, 4, false, "", "loop.example/g00696/impl", 48⟩, ⟨"runs", 112, 5, false, "", "loop.example/g00696/impl", 56⟩, ⟨"sleeps", 4, 6, false, "", "loop.example/g00696/impl", 80⟩], [.int .i64 0, .int .i64 0, .int .i64 0, .slice none 0 0, .int .i64 0, .slice none 0 0, .bool false]⟩),
 (107, ⟨1, 24, .slice 68, [.slice none 0 0]⟩),
 (108, ⟨1, 24, .slice 9, [.slice none 0 0]⟩),
 (137, ⟨2, 48, .struct #[⟨"Ranks", 51, 0, false, "", "", 0⟩, ⟨"Changes", 51, 1, false, "", "", 24⟩], [.slice none 0 0, .slice none 0 0]⟩),
 (139, ⟨2, 40, .struct #[⟨"Sign", 9, 0, false, "", "", 0⟩, ⟨"Picks", 51, 1, false, "", "", 16⟩], [.string ⟨#[]⟩, .slice none 0 0]⟩),
 (152, ⟨3, 24, .struct #[⟨"Cell", 3, 0, false, "", "", 0⟩, ⟨"One", 3, 1, false, "", "", 8⟩, ⟨"Two", 3, 2, false, "", "", 16⟩], [.int .i64 0, .int .i64 0, .int .i64 0]⟩),
 (233, ⟨1, 8, .int .u64, [.int .u64 0]⟩),
 (214, ⟨1, 24, .slice 3, [.slice none 0 0]⟩),
 (213, ⟨4, 32, .struct #[⟨"Code", 3, 0, false, "", "", 0⟩, ⟨"A", 3, 1, false, "", "", 8⟩, ⟨"B", 3, 2, false, "", "", 16⟩, ⟨"V", 142, 3, false, "", "", 24⟩], [.int .i64 0, .int .i64 0, .int .i64 0, .float .f64 0]⟩),
 (167, ⟨1, 24, .slice 213, [.slice none 0 0]⟩),
 (249, ⟨1, 4, .int .u32, [.int .u32 0]⟩),
 (251, ⟨1, 24, .slice 5, [.slice none 0 0]⟩)]
theorem ty3 : Qgz Tryz.prog 3 = some ⟨1, 8, .int .i64, [.int .i64 0]⟩ := by kernel_rfl
theorem ty4 : Qgz Tryz.prog 4 = some ⟨1, 1, .bool, [.bool false]⟩ := by kernel_rfl
theorem ty5 : Qgz Tryz.prog 5 = some ⟨1, 1, .int .u8, [.int .u8 0]⟩ := by kernel_rfl
theorem ty9 : Qgz Tryz.prog 9 = some ⟨1, 16, .string, [.string ⟨#[]⟩]⟩ := by kernel_rfl
theorem ty57 : Qgz Tryz.prog 57 = some ⟨4, 80, .struct #[⟨"Threads", 55, 0, false, "", "", 0⟩, ⟨"Cells", 50, 1, false, "", "", 24⟩, ⟨"Owner", 51, 2, false, "", "", 48⟩, ⟨"Fault", 3, 3, false, "", "", 72⟩], [.slice none 0 0, .slice none 0 0, .slice none 0 0, .int .i64 0]⟩ := by kernel_rfl
theorem ty51 : Qgz Tryz.prog 51 = some ⟨1, 24, .slice 3, [.slice none 0 0]⟩ := by kernel_rfl
theorem ty59 : Qgz Tryz.prog 59 = some ⟨5, 40, .struct #[⟨"Thread", 3, 0, false, "", "", 0⟩, ⟨"Kind", 3, 1, false, "", "", 8⟩, ⟨"Obj", 3, 2, false, "", "", 16⟩, ⟨"Lock", 3, 3, false, "", "", 24⟩, ⟨"Pc", 3, 4, false, "", "", 32⟩], [.int .i64 0, .int .i64 0, .int .i64 0, .int .i64 0, .int .i64 0]⟩ := by kernel_rfl
theorem ty34 : Qgz Tryz.prog 34 = some ⟨4, 48, .struct #[⟨"Cells", 3, 0, false, "", "", 0⟩, ⟨"Locks", 3, 1, false, "", "", 8⟩, ⟨"Conds", 3, 2, false, "", "", 16⟩, ⟨"Routines", 32, 3, false, "", "", 24⟩], [.int .i64 0, .int .i64 0, .int .i64 0, .slice none 0 0]⟩ := by kernel_rfl
theorem ty179 : Qgz Tryz.prog 179 = some ⟨6, 64, .struct #[⟨"Routine", 3, 0, false, "", "", 0⟩, ⟨"Pc", 3, 1, false, "", "", 8⟩, ⟨"State", 3, 2, false, "", "", 16⟩, ⟨"Cond", 3, 3, false, "", "", 24⟩, ⟨"Lock", 3, 4, false, "", "", 32⟩, ⟨"Stack", 50, 5, false, "", "", 40⟩], [.int .i64 0, .int .i64 0, .int .i64 0, .int .i64 0, .int .i64 0, .slice none 0 0]⟩ := by kernel_rfl
theorem ty70 : Qgz Tryz.prog 70 = some ⟨7, 136, .struct #[⟨"Code", 3, 0, false, "", "", 0⟩, ⟨"Trace", 68, 1, false, "", "", 8⟩, ⟨"Picks", 51, 2, false, "", "", 32⟩, ⟨"End", 57, 3, false, "", "", 56⟩], [.int .i64 0, .slice none 0 0, .slice none 0 0, .slice none 0 0, .slice none 0 0, .slice none 0 0, .int .i64 0]⟩ := by kernel_rfl
theorem ty144 : Qgz Tryz.prog 144 = some ⟨4, 32, .struct #[⟨"Code", 3, 0, false, "", "", 0⟩, ⟨"A", 3, 1, false, "", "", 8⟩, ⟨"B", 3, 2, false, "", "", 16⟩, ⟨"V", 142, 3, false, "", "", 24⟩], [.int .i64 0, .int .i64 0, .int .i64 0, .float .f64 0]⟩ := by kernel_rfl
theorem ty24 : Qgz Tryz.prog 24 = some ⟨4, 48, .struct #[⟨"Cells", 3, 0, false, "", "", 0⟩, ⟨"Locks", 3, 1, false, "", "", 8⟩, ⟨"Conds", 3, 2, false, "", "", 16⟩, ⟨"Routines", 22, 3, false, "", "", 24⟩], [.int .i64 0, .int .i64 0, .int .i64 0, .slice none 0 0]⟩ := by kernel_rfl
theorem ty50 : Qgz Tryz.prog 50 = some ⟨1, 24, .slice 142, [.slice none 0 0]⟩ := by kernel_rfl
theorem ty22 : Qgz Tryz.prog 22 = some ⟨1, 24, .slice 167, [.slice none 0 0]⟩ := by kernel_rfl
theorem ty55 : Qgz Tryz.prog 55 = some ⟨1, 24, .slice 179, [.slice none 0 0]⟩ := by kernel_rfl
theorem ty25 : Qgz Tryz.prog 25 = some ⟨1, 24, .slice 137, [.slice none 0 0]⟩ := by kernel_rfl
theorem ty26 : Qgz Tryz.prog 26 = some ⟨1, 24, .slice 152, [.slice none 0 0]⟩ := by kernel_rfl
theorem ty29 : Qgz Tryz.prog 29 = some ⟨8, 128, .struct #[⟨"Prog", 24, 0, false, "", "", 0⟩, ⟨"Kept", 25, 4, false, "", "", 48⟩, ⟨"Covered", 26, 5, false, "", "", 72⟩, ⟨"Finds", 27, 6, false, "", "", 96⟩, ⟨"Tried", 3, 7, false, "", "", 120⟩], [.int .i64 0, .int .i64 0, .int .i64 0, .slice none 0 0, .slice none 0 0, .slice none 0 0, .slice none 0 0, .int .i64 0]⟩ := by kernel_rfl
theorem ty32 : Qgz Tryz.prog 32 = some ⟨1, 24, .slice 141, [.slice none 0 0]⟩ := by kernel_rfl
theorem ty27 : Qgz Tryz.prog 27 = some ⟨1, 24, .slice 139, [.slice none 0 0]⟩ := by kernel_rfl
theorem ty39 : Qgz Tryz.prog 39 = some ⟨8, 128, .struct #[⟨"Prog", 34, 0, false, "", "", 0⟩, ⟨"Kept", 35, 4, false, "", "", 48⟩, ⟨"Covered", 36, 5, false, "", "", 72⟩, ⟨"Finds", 37, 6, false, "", "", 96⟩, ⟨"Tried", 3, 7, false, "", "", 120⟩], [.int .i64 0, .int .i64 0, .int .i64 0, .slice none 0 0, .slice none 0 0, .slice none 0 0, .slice none 0 0, .int .i64 0]⟩ := by kernel_rfl
theorem ty35 : Qgz Tryz.prog 35 = some ⟨1, 24, .slice 85, [.slice none 0 0]⟩ := by kernel_rfl
theorem ty53 : Qgz Tryz.prog 53 = some ⟨4, 80, .struct #[⟨"Threads", 49, 0, false, "", "", 0⟩, ⟨"Cells", 50, 1, false, "", "", 24⟩, ⟨"Owner", 51, 2, false, "", "", 48⟩, ⟨"Fault", 3, 3, false, "", "", 72⟩], [.slice none 0 0, .slice none 0 0, .slice none 0 0, .int .i64 0]⟩ := by kernel_rfl
theorem ty37 : Qgz Tryz.prog 37 = some ⟨1, 24, .slice 96, [.slice none 0 0]⟩ := by kernel_rfl
theorem Qma : Qgz Tryz.prog 142 = some ⟨1, 8, .float .f64, [.float .f64 0]⟩ := by kernel_rfl
theorem ty36 : Qgz Tryz.prog 36 = some ⟨1, 24, .slice 147, [.slice none 0 0]⟩ := by kernel_rfl
theorem ty68 : Qgz Tryz.prog 68 = some ⟨1, 24, .slice 59, [.slice none 0 0]⟩ := by kernel_rfl
theorem ty147 : Qgz Tryz.prog 147 = some ⟨3, 24, .struct #[⟨"Cell", 3, 0, false, "", "", 0⟩, ⟨"One", 3, 1, false, "", "", 8⟩, ⟨"Two", 3, 2, false, "", "", 16⟩], [.int .i64 0, .int .i64 0, .int .i64 0]⟩ := by kernel_rfl
theorem ty85 : Qgz Tryz.prog 85 = some ⟨2, 48, .struct #[⟨"Ranks", 51, 0, false, "", "", 0⟩, ⟨"Changes", 51, 1, false, "", "", 24⟩], [.slice none 0 0, .slice none 0 0]⟩ := by kernel_rfl
theorem ty49 : Qgz Tryz.prog 49 = some ⟨1, 24, .slice 178, [.slice none 0 0]⟩ := by kernel_rfl
theorem ty96 : Qgz Tryz.prog 96 = some ⟨2, 40, .struct #[⟨"Sign", 9, 0, false, "", "", 0⟩, ⟨"Picks", 51, 1, false, "", "", 16⟩], [.string ⟨#[]⟩, .slice none 0 0]⟩ := by kernel_rfl
theorem ty141 : Qgz Tryz.prog 141 = some ⟨1, 24, .slice 144, [.slice none 0 0]⟩ := by kernel_rfl
theorem ty110 : Qgz Tryz.prog 110 = some ⟨10, 144, .struct #[⟨"p", 34, 0, false, "", "loop.example/g00696/spec", 0⟩, ⟨"budget", 3, 4, false, "", "loop.example/g00696/spec", 48⟩, ⟨"sleeps", 4, 5, false, "", "loop.example/g00696/spec", 56⟩, ⟨"runs", 106, 6, false, "", "loop.example/g00696/spec", 64⟩, ⟨"traces", 107, 7, false, "", "loop.example/g00696/spec", 88⟩, ⟨"signs", 108, 8, false, "", "loop.example/g00696/spec", 112⟩, ⟨"many", 4, 9, false, "", "loop.example/g00696/spec", 136⟩], [.int .i64 0, .int .i64 0, .int .i64 0, .slice none 0 0, .int .i64 0, .bool false, .slice none 0 0, .slice none 0 0, .slice none 0 0, .bool false]⟩ := by kernel_rfl
theorem ty106 : Qgz Tryz.prog 106 = some ⟨1, 24, .slice 51, [.slice none 0 0]⟩ := by kernel_rfl
theorem ty239 : Qgz Tryz.prog 239 = some ⟨1, 8, .int .u64, [.int .u64 0]⟩ := by kernel_rfl
theorem ty258 : Qgz Tryz.prog 258 = some ⟨1, 8, .int .u64, [.int .u64 0]⟩ := by kernel_rfl
theorem ty112 : Qgz Tryz.prog 112 = some ⟨1, 24, .slice 70, [.slice none 0 0]⟩ := by kernel_rfl
theorem ty178 : Qgz Tryz.prog 178 = some ⟨6, 64, .struct #[⟨"Routine", 3, 0, false, "", "", 0⟩, ⟨"Pc", 3, 1, false, "", "", 8⟩, ⟨"State", 3, 2, false, "", "", 16⟩, ⟨"Cond", 3, 3, false, "", "", 24⟩, ⟨"Lock", 3, 4, false, "", "", 32⟩, ⟨"Stack", 50, 5, false, "", "", 40⟩], [.int .i64 0, .int .i64 0, .int .i64 0, .int .i64 0, .int .i64 0, .slice none 0 0]⟩ := by kernel_rfl
theorem ty173 : Qgz Tryz.prog 173 = some ⟨7, 88, .struct #[⟨"p", 34, 0, false, "", "loop.example/g00696/impl", 0⟩, ⟨"budget", 3, 4, false, "", "loop.example/g00696/impl", 48⟩, ⟨"runs", 112, 5, false, "", "loop.example/g00696/impl", 56⟩, ⟨"sleeps", 4, 6, false, "", "loop.example/g00696/impl", 80⟩], [.int .i64 0, .int .i64 0, .int .i64 0, .slice none 0 0, .int .i64 0, .slice none 0 0, .bool false]⟩ := by kernel_rfl
theorem ty107 : Qgz Tryz.prog 107 = some ⟨1, 24, .slice 68, [.slice none 0 0]⟩ := by kernel_rfl
theorem ty108 : Qgz Tryz.prog 108 = some ⟨1, 24, .slice 9, [.slice none 0 0]⟩ := by kernel_rfl
theorem ty137 : Qgz Tryz.prog 137 = some ⟨2, 48, .struct #[⟨"Ranks", 51, 0, false, "", "", 0⟩, ⟨"Changes", 51, 1, false, "", "", 24⟩], [.slice none 0 0, .slice none 0 0]⟩ := by kernel_rfl
theorem ty139 : Qgz Tryz.prog 139 = some ⟨2, 40, .struct #[⟨"Sign", 9, 0, false, "", "", 0⟩, ⟨"Picks", 51, 1, false, "", "", 16⟩], [.string ⟨#[]⟩, .slice none 0 0]⟩ := by kernel_rfl
theorem ty152 : Qgz Tryz.prog 152 = some ⟨3, 24, .struct #[⟨"Cell", 3, 0, false, "", "", 0⟩, ⟨"One", 3, 1, false, "", "", 8⟩, ⟨"Two", 3, 2, false, "", "", 16⟩], [.int .i64 0, .int .i64 0, .int .i64 0]⟩ := by kernel_rfl
theorem ty233 : Qgz Tryz.prog 233 = some ⟨1, 8, .int .u64, [.int .u64 0]⟩ := by kernel_rfl
theorem ty214 : Qgz Tryz.prog 214 = some ⟨1, 24, .slice 3, [.slice none 0 0]⟩ := by kernel_rfl
theorem Xk0 : Qgz Tryz.prog 213 = some ⟨4, 32, .struct #[⟨"Code", 3, 0, false, "", "", 0⟩, ⟨"A", 3, 1, false, "", "", 8⟩, ⟨"B", 3, 2, false, "", "", 16⟩, ⟨"V", 142, 3, false, "", "", 24⟩], [.int .i64 0, .int .i64 0, .int .i64 0, .float .f64 0]⟩ := by kernel_rfl
theorem Xk5 : Qgz Tryz.prog 167 = some ⟨1, 24, .slice 213, [.slice none 0 0]⟩ := by kernel_rfl
theorem ty249 : Qgz Tryz.prog 249 = some ⟨1, 4, .int .u32, [.int .u32 0]⟩ := by kernel_rfl
theorem ty251 : Qgz Tryz.prog 251 = some ⟨1, 24, .slice 5, [.slice none 0 0]⟩ := by kernel_rfl
theorem Qv7 : TOK Tryz.prog Θ := ⟨ty3, ty4, ty5, ty9, ty57, ty51, ty59, ty34, ty179, ty70, ty144, ty24, ty50, ty22, ty55, ty25, ty26, ty29, ty32, ty27, ty39, ty35, ty53, ty37, Qma, ty36, ty68, ty147, ty85, ty49, ty96, ty141, ty110, ty106, ty239, ty258, ty112, ty178, ty173, ty107, ty108, ty137, ty139, ty152, ty233, ty214, Xk0, Xk5, ty249, ty251, trivial⟩
theorem Xb5 : Tryz.prog.follows .mixedOrders = true := by kernel_rfl
structure GOp where
 Code : Int
 A : Int
 B : Int
 V : Nat
 deriving DecidableEq
structure Qaf where
 Cells : Int
 Locks : Int
 Conds : Int
 Routines : (List (List GOp))
 deriving DecidableEq
structure Qa0 where
 Routine : Int
 Pc : Int
 State : Int
 Cond : Int
 Lock : Int
 Stack : (List Nat)
 deriving DecidableEq
structure Qa2 where
 Threads : (List Qa0)
 Cells : (List Nat)
 Owner : (List Int)
 Fault : Int
 deriving DecidableEq
structure Qad where
 Thread : Int
 Kind : Int
 Obj : Int
 Lock : Int
 Pc : Int
 deriving DecidableEq
structure Qcy where
 Code : Int
 Trace : (List Qad)
 Picks : (List Int)
 End : Qa2
 deriving DecidableEq
def Qx9 (x : GOp) : Prop := ((Lit.int .i64 x.Code).wf = true) ∧ ((Lit.int .i64 x.A).wf = true) ∧ ((Lit.int .i64 x.B).wf = true) ∧ (x.V < 18446744073709551616)
def Qqe (x : Qaf) : Prop := ((Lit.int .i64 x.Cells).wf = true) ∧ ((Lit.int .i64 x.Locks).wf = true) ∧ ((Lit.int .i64 x.Conds).wf = true) ∧ (x.Routines.length ≤ 9223372036854775807 ∧ ∀ y0 ∈ x.Routines, y0.length ≤ 9223372036854775807 ∧ ∀ y1 ∈ y0, Qx9 y1)
def o3 (x : Int) : List AV := [I x]
def k3 (x : Int) : AV := I x
theorem t3 : ∀ x, Qcl (o3 x) = true := (fun _ => rfl)
theorem z3 : ∀ x, Qiu (o3 x) = o3 x := (fun _ => rfl)
theorem n3 : ∀ x, Qbi (o3 x) = true := (fun _ => rfl)
theorem pa3 : ∀ x, (o3 x).all AV.plain = true := (fun _ => rfl)
def Qae (x : Nat) : List AV := [FK x]
theorem Qbo : ∀ x, Qcl (Qae x) = true := (fun _ => rfl)
theorem Qqh : ∀ x, Qiu (Qae x) = Qae x := (fun _ => rfl)
theorem Qen : ∀ x, Qbi (Qae x) = true := (fun _ => rfl)
theorem Qlh : ∀ x, (Qae x).all AV.plain = true := (fun _ => rfl)
def Qty (x : GOp) : List AV := [I x.Code, I x.A, I x.B, FK x.V]
def o167 (x : (List GOp)) : List AV := [AV.own 213 4 (x.map Qty)]
def Qqw (x : (List GOp)) : List AV := [AV.ro 4 (x.map Qty)]
def r22 (x : (List (List GOp))) : List AV := [AV.ro 1 (x.map Qqw)]
def o24 (x : Qaf) : List AV := [I x.Cells, I x.Locks, I x.Conds, AV.own 167 1 (x.Routines.map o167)]
def r24 (x : Qaf) : List AV := [I x.Cells, I x.Locks, I x.Conds, AV.ro 1 (x.Routines.map Qqw)]
theorem t24 : ∀ x, Qcl (o24 x) = true := fun _ => rfl
def r51 (x : (List Int)) : List AV := [AV.ro 1 (x.map o3)]
def k4 (x : Bool) : AV := B x
def Qb6 (x : GOp) : List AV := [I x.Code, I x.A, I x.B, FK x.V]
theorem Xg5 : ∀ x, Qcl (Qb6 x) = true := (fun _ => rfl)
theorem z144 : ∀ x, Qiu (Qb6 x) = Qb6 x := (fun _ => rfl)
theorem Xk7 : ∀ x, Qbi (Qb6 x) = true := (fun _ => rfl)
def Qis (x : (List GOp)) : List AV := [AV.own 144 4 (x.map Qb6)]
def Qgx (x : (List GOp)) : List AV := [AV.ro 4 (x.map Qb6)]
theorem Qyh : ∀ x, Qcl (Qis x) = true := fun _ => rfl
theorem Xlj : ∀ x, Qiu (Qis x) = Qgx x := fun x => by simp only [Qis, Qgx, Qiu, frz, Qq0 z144]
theorem Xcr : ∀ x, Qbi (Qis x) = true := fun x => by simp only [Qis, Qbi, Qca, Qa7 Xk7, Bool.and_self]
def o34 (x : Qaf) : List AV := [I x.Cells, I x.Locks, I x.Conds, AV.own 141 1 (x.Routines.map Qis)]
def r34 (x : Qaf) : List AV := [I x.Cells, I x.Locks, I x.Conds, AV.ro 1 (x.Routines.map Qgx)]
theorem t34 : ∀ x, Qcl (o34 x) = true := fun _ => rfl
def Qaa (x : Qa0) : List AV := [I x.Routine, I x.Pc, I x.State, I x.Cond, I x.Lock, AV.own 142 1 (x.Stack.map Qae)]
def Qb5 (x : Qa0) : List AV := [I x.Routine, I x.Pc, I x.State, I x.Cond, I x.Lock, AV.ro 1 (x.Stack.map Qae)]
theorem Xjo : ∀ x, Qcl (Qb5 x) = true := fun _ => rfl
theorem Xkh : ∀ x, (Qb5 x).all AV.plain = true := fun _ => rfl
theorem Qch : ∀ x, Qcl (Qaa x) = true := fun _ => rfl
theorem Qus : ∀ x, Qiu (Qaa x) = Qb5 x := fun x => by simp only [Qaa, Qb5, Qiu, frz, Qq0 Qqh]
theorem Qgn : ∀ x, Qbi (Qaa x) = true := fun x => by simp only [Qaa, Qbi, Qca, Qa7 Qen, Bool.and_self]
def o57 (x : Qa2) : List AV := [AV.own 179 6 (x.Threads.map Qaa), AV.own 142 1 (x.Cells.map Qae), AV.own 3 1 (x.Owner.map o3), I x.Fault]
def r57 (x : Qa2) : List AV := [AV.ro 6 (x.Threads.map Qb5), AV.ro 1 (x.Cells.map Qae), AV.ro 1 (x.Owner.map o3), I x.Fault]
theorem t57 : ∀ x, Qcl (o57 x) = true := fun _ => rfl
theorem z57 : ∀ x, Qiu (o57 x) = r57 x := fun x => by simp only [o57, r57, Qiu, frz, Qq0 z3, Qq0 Qqh, Qq0 Qus]
theorem n57 : ∀ x, Qbi (o57 x) = true := fun x => by simp only [o57, Qbi, Qca, Qa7 n3, Qa7 Qen, Qa7 Qgn, Bool.and_self]
def o59 (x : Qad) : List AV := [I x.Thread, I x.Kind, I x.Obj, I x.Lock, I x.Pc]
theorem t59 : ∀ x, Qcl (o59 x) = true := (fun _ => rfl)
theorem z59 : ∀ x, Qiu (o59 x) = o59 x := (fun _ => rfl)
theorem n59 : ∀ x, Qbi (o59 x) = true := (fun _ => rfl)
theorem pa59 : ∀ x, (o59 x).all AV.plain = true := (fun _ => rfl)
def o70 (x : Qcy) : List AV := [I x.Code, AV.own 59 5 (x.Trace.map o59), AV.own 3 1 (x.Picks.map o3), AV.own 179 6 (x.End.Threads.map Qaa), AV.own 142 1 (x.End.Cells.map Qae), AV.own 3 1 (x.End.Owner.map o3), I x.End.Fault]
def r70 (x : Qcy) : List AV := [I x.Code, AV.ro 5 (x.Trace.map o59), AV.ro 1 (x.Picks.map o3), AV.ro 6 (x.End.Threads.map Qb5), AV.ro 1 (x.End.Cells.map Qae), AV.ro 1 (x.End.Owner.map o3), I x.End.Fault]
theorem t70 : ∀ x, Qcl (o70 x) = true := fun _ => rfl
theorem z70 : ∀ x, Qiu (o70 x) = r70 x := fun x => by simp only [o70, r70, Qiu, frz, Qq0 z3, Qq0 z59, Qq0 Qqh, Qq0 Qus]
def o5 (x : Int) : List AV := [IK .u8 x]
theorem n5 : ∀ x, Qbi (o5 x) = true := (fun _ => rfl)
theorem Qa9 : ∀ {p q : List Prop}, Qal p → Qal q → Qal (p ++ q)
 | [], _, _, h => h
 | _ :: _, _, h, k => ⟨h.1, Qa9 h.2 k⟩
theorem gR {E : Env} (hP : E.P = Tryz.prog) {n : Nat} (hn : E.n = n) {body : Code} {rv : List ResultVar} {ks : List Bool} {rs : List Qam} {pt : List Bool} {s : St} {res : AV} (hs : List Hn) (rh : List H) (ph : PH) (ps : List Prop) (hp : Qal ps) (h : Xc0 Θ Tryz.prog n body rv ks rs pt s hs rh ph res = some ps := by kernel_rfl) : WAt E body (FQ (Qf3 Θ rv ks rs res E)) pt s :=
 go_ret (by rw [hP]; exact Qv7) (by rw [hP]; exact Xb5) hP hn h hp
theorem gT {E : Env} (hP : E.P = Tryz.prog) {n : Nat} (hn : E.n = n) {body : Code} {fr : List Nat} (hfx : ∀ p, p ∈ E.fx → p.1 ∈ fr) {R : St → Prop} {pt tgt : List Bool} {s s' : St} (hs : List Hn) (π : List (Nat × Nat)) (ts kp : List Nat) (ps : List Prop) (hp : Qal ps) (hk : WAt E body (FQ R) tgt s') (h : Xit Θ Tryz.prog n body fr pt tgt s hs π ts kp = some (s', ps) := by kernel_rfl) : WAt E body (FQ R) pt s :=
 go_to (by rw [hP]; exact Qv7) (by rw [hP]; exact Xb5) hfx hP hn h hp hk
def FX (E : Env) (l : List Nat) : Prop := ∀ p, p ∈ E.fx → p.1 ∈ l
theorem gM {f : FuncId} {fn : Func} (hf : Tryz.prog.funcs[f]? = some fn) (n : Nat) (c : Code) {args : List AV} {res : AV} (h : ∀ E : Env, E.P = Tryz.prog → E.n = n → FX E [] → WAt E c (FQ (Qf3 Θ fn.results.toList [] [] res E)) [] (Qz4 args)) (hq : args.length ≤ fn.ntmps := by exact Nat.le_of_ble_eq_true rfl) (hname : (fn.name == "runtime.NumGoroutine") = false := by exact rfl) (hb : fn.body = some c := by kernel_rfl) (hn : fn.ntmps = n := by exact rfl) : Qa5 Tryz.prog f args res :=
 Xdr Qv7 hf hname hb hq fun E a b c => h E a (b.trans hn) c
theorem lnq {a b : Nat} (h : a = b := by first | exact lnSet _ | exact Xk2 _ | exact apLn _ (by assumption) | simp +zetaDelta only [List.length_map, List.length_set, List.length_cons, List.length_nil]) : a = b := h
theorem leB {a b : Nat} (h : Nat.ble a b = true := by exact rfl) : a ≤ b := Nat.le_of_ble_eq_true h
theorem Qo1 {α β : Type} {l : List α} {i : Int} (f : α → β) {y : α} {ys : β} (h : ys = f y := by kernel_rfl) : (l.map f).set i.toNat ys = (l.set i.toNat y).map f := setMr f h
theorem Qfv {α β : Type} {l : List α} {i : Int} (f : α → β) {x y : α} {ys : β} (h : ys = f y := by kernel_rfl) : ((l.set i.toNat x).map f).set i.toNat ys = (l.set i.toNat y).map f := setSS f h
theorem sj {α : Type} {a b : α} (h : some a = some b) : a = b := Option.some.inj h
def nS : AV := AV.lit (.slice none 0 0)
def hh (k : Nat) (h : H) : Hn := ⟨k, h, none⟩
def hT (k : Nat) : Hn := ⟨k, .br true, none⟩
def hF (k : Nat) : Hn := ⟨k, .br false, none⟩
def hW (k i : Nat) : Hn := ⟨k, .new i, none⟩
def hO (k : Nat) (x : AV) : Hn := ⟨k, .no, some x⟩
end Go.Proofs.YtjcaompblpglcaaGreat
