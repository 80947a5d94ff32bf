/- What the functions of the package Law06 compute: abstract code, and a function of plain Lean for each; the kernel checks that they are the same. Written by gen2.py. -/
import Derived.Test.YtnndecgjcgpmbaaEvCore
import Derived.Test.YtnndecgjcgpmbaaGPage
import Derived.Test.YtnndecgjcgpmbaaGRef06
import Derived.KernelRfl
set_option linter.unusedVariables false
set_option maxRecDepth 100000
namespace Ev
open Go (IntKind BinOp UnOp)

/-! ### tinderbox/tinderboxlaw06.few -/
def law06_few.af : AFun := ⟨[.one .str], [.one .str], [.t 2],
 .seq (.reg [.op ⟨0, some 2, .mv (.c (.one (.str []))), none⟩])
 (.seq (.seq (.reg [.op ⟨0, some 3, .mv (.t 0), none⟩,
  .op ⟨1, some 4, .lens (.t 3), none⟩,
  .op ⟨2, some 5, .bin .gtr (.t 4) (.c (.one (.int .i64 300))), none⟩])
 (.cond (.t 5) (.seq (.reg [.op ⟨0, some 6, .mv (.t 0), none⟩,
  .op ⟨1, some 7, .slstr (.t 6) none (some (.c (.one (.int .i64 300)))), none⟩,
  .op ⟨2, some 2, .mv (.t 7), none⟩])
 (.ret)) (.skip)))
 (.seq (.reg [.op ⟨0, some 8, .mv (.t 0), none⟩,
  .op ⟨1, some 2, .mv (.t 8), none⟩])
 (.ret)))⟩
noncomputable def law06_few.on (x0 : Bytes) (H : Heap) : Option (Bytes × Unit) :=
 cond (decide (300 < (List.length (x0 : Bytes) : Int))) (
 (subS x0 0 300).bind fun (s1 : Bytes) =>
 some (s1, ())) (
 some (x0, ()))
noncomputable def law06_few (x0 : Bytes) : Option (Bytes × Unit) := law06_few.on x0 []
noncomputable def law06_few.c : Callee := .pure [.one .str] [.one .str] (fun x => law06_few x.1)
noncomputable def law06_few.calls : Nat → Option Callee
  | _ => none
theorem law06_few.eq : evPure law06_few.calls law06_few.af = (fun x H => law06_few.on x.1 H) := by kernel_rfl

/-! ### tinderbox/tinderboxlaw06.awake -/
def law06_awake.af : AFun := ⟨[], [.one .bool], [.t 0],
 .seq (.reg [.op ⟨0, some 0, .mv (.c (.one (.bool false))), none⟩])
 (.seq (.reg [.op ⟨0, some 8, .build [.int .i64 0, .int .u64 0, .int .i64 0, .int .i64 0, .int .i64 0] [(0, 1, (.c (.one (.int .i64 2)))), (1, 1, (.c (.one (.int .u64 9)))), (2, 1, (.c (.one (.int .i64 1)))), (3, 1, (.c (.one (.int .i64 3)))), (4, 1, (.c (.one (.int .i64 4))))], none⟩,
  .op ⟨1, some 1, .new [.int .i64 0, .int .u64 0, .int .i64 0, .int .i64 0, .int .i64 0], none⟩,
  .op ⟨2, none, .store 5 (.t 1) (.t 8), none⟩])
 (.seq (.reg [.op ⟨0, some 10, .load (.agg [.int .i64, .int .u64, .int .i64, .int .i64, .int .i64]) (.t 1), none⟩,
  .op ⟨1, some 11, .call 0 [(.t 10), (.c (.one (.str [116, 101, 120, 116]))), (.c (.one (.int .i64 64)))], none⟩,
  .op ⟨2, some 9, .mv (.t 11), none⟩,
  .op ⟨3, some 12, .ext (.t 9) 0, none⟩,
  .op ⟨4, some 13, .ext (.t 9) 1, none⟩,
  .op ⟨5, some 14, .ext (.t 9) 2, none⟩,
  .op ⟨6, some 2, .mv (.t 12), none⟩,
  .op ⟨7, some 3, .mv (.t 13), none⟩,
  .op ⟨8, some 4, .mv (.t 14), none⟩])
 (.seq (.reg [.op ⟨0, some 16, .mv (.t 2), none⟩,
  .op ⟨1, some 17, .mv (.t 3), none⟩,
  .op ⟨2, some 18, .call 1 [(.t 16), (.t 17)], none⟩,
  .op ⟨3, some 15, .mv (.t 18), none⟩,
  .op ⟨4, some 19, .ext (.t 15) 0, none⟩,
  .op ⟨5, some 20, .ext (.t 15) 1, none⟩,
  .op ⟨6, some 21, .ext (.t 15) 2, none⟩,
  .op ⟨7, some 6, .new [.int .i64 0, .int .u64 0, .int .i64 0, .int .i64 0, .int .i64 0], none⟩,
  .op ⟨8, some 5, .mv (.t 19), none⟩,
  .op ⟨9, none, .store 5 (.t 6) (.t 20), none⟩,
  .op ⟨10, some 7, .mv (.t 21), none⟩])
 (.seq (.reg [.op ⟨0, some 22, .mv (.t 4), none⟩,
  .op ⟨1, some 23, .bin .eql (.t 22) (.c (.one (.int .i64 0))), none⟩,
  .op ⟨2, some 24, .mv (.t 23), none⟩,
  .op ⟨3, some 25, .mv (.t 5), some (24, true)⟩,
  .op ⟨4, some 26, .bin .eql (.t 25) (.c (.one (.int .i64 1))), some (24, true)⟩,
  .op ⟨5, some 27, .pick (.t 24) (.t 26) (.c (.one (.bool false))), none⟩,
  .op ⟨6, some 28, .mv (.t 27), none⟩,
  .op ⟨7, some 29, .load (.agg [.int .i64, .int .u64, .int .i64, .int .i64, .int .i64]) (.t 6), some (28, true)⟩,
  .op ⟨8, some 30, .load (.agg [.int .i64, .int .u64, .int .i64, .int .i64, .int .i64]) (.t 1), some (28, true)⟩,
  .op ⟨9, some 31, .eqagg false [.int .i64, .int .u64, .int .i64, .int .i64, .int .i64] (.t 29) (.t 30), some (28, true)⟩,
  .op ⟨10, some 32, .pick (.t 28) (.t 31) (.c (.one (.bool false))), none⟩,
  .op ⟨11, some 33, .mv (.t 32), none⟩,
  .op ⟨12, some 34, .mv (.t 7), some (33, true)⟩,
  .op ⟨13, some 35, .bin .eql (.t 34) (.c (.one (.str [116, 101, 120, 116]))), some (33, true)⟩,
  .op ⟨14, some 36, .pick (.t 33) (.t 35) (.c (.one (.bool false))), none⟩,
  .op ⟨15, some 37, .mv (.t 36), none⟩,
  .op ⟨16, some 38, .mv (.t 3), some (37, true)⟩,
  .op ⟨17, some 39, .lens (.t 38), some (37, true)⟩,
  .op ⟨18, some 40, .bin .eql (.t 39) (.c (.one (.int .i64 32))), some (37, true)⟩,
  .op ⟨19, some 41, .pick (.t 37) (.t 40) (.c (.one (.bool false))), none⟩,
  .op ⟨20, some 0, .mv (.t 41), none⟩])
 (.ret)))))⟩
noncomputable def law06_awake.on (H : Heap) : Option (Bool × Unit) :=
 let H1 : Heap := H ++ [Blk.cells [.int .i64 0, .int .u64 0, .int .i64 0, .int .i64 0, .int .i64 0] .exact]
 (wr H1 H.length 0 [.int .i64 2, .int .u64 9, .int .i64 1, .int .i64 3, .int .i64 4]).bind fun (H2 : Heap) =>
 Option.bind (α := (Int × Int × Int × Int × Int × Unit)) (rd H2 (.agg [.int .i64, .int .u64, .int .i64, .int .i64, .int .i64]) H.length 0) fun (v3 : (Int × Int × Int × Int × Int × Unit)) =>
 (page_Frame (v3.1, v3.2.1, v3.2.2.1, v3.2.2.2.1, v3.2.2.2.2.1, ()) [116, 101, 120, 116] 64).bind fun (r4 : (Bytes × Bytes × Int × Unit)) =>
 (page_Look r4.1 r4.2.1).bind fun (r5 : (Int × (Int × Int × Int × Int × Int × Unit) × Bytes × Unit)) =>
 let H6 : Heap := H2 ++ [Blk.cells [.int .i64 0, .int .u64 0, .int .i64 0, .int .i64 0, .int .i64 0] .exact]
 (wr H6 H2.length 0 [.int .i64 r5.2.1.1, .int .u64 r5.2.1.2.1, .int .i64 r5.2.1.2.2.1, .int .i64 r5.2.1.2.2.2.1, .int .i64 r5.2.1.2.2.2.2.1]).bind fun (H7 : Heap) =>
 cond (decide (r4.2.2.1 = 0)) (
 cond (decide (r5.1 = 1)) (
 Option.bind (α := (Int × Int × Int × Int × Int × Unit)) (rd H7 (.agg [.int .i64, .int .u64, .int .i64, .int .i64, .int .i64]) H2.length 0) fun (v8 : (Int × Int × Int × Int × Int × Unit)) =>
 Option.bind (α := (Int × Int × Int × Int × Int × Unit)) (rd H7 (.agg [.int .i64, .int .u64, .int .i64, .int .i64, .int .i64]) H.length 0) fun (v9 : (Int × Int × Int × Int × Int × Unit)) =>
 cond ((decide (v8.1 = v9.1)) && ((decide (v8.2.1 = v9.2.1)) && ((decide (v8.2.2.1 = v9.2.2.1)) && ((decide (v8.2.2.2.1 = v9.2.2.2.1)) && ((decide (v8.2.2.2.2.1 = v9.2.2.2.2.1)) && true))))) (
 cond (decide ((r5.2.2.1 : Bytes) = [116, 101, 120, 116])) (
 some ((decide ((List.length (r4.2.1 : Bytes) : Int) = 32)), ())) (
 some (false, ()))) (
 some (false, ()))) (
 some (false, ()))) (
 some (false, ()))
noncomputable def law06_awake  : Option (Bool × Unit) := law06_awake.on []
noncomputable def law06_awake.c : Callee := .pure [] [.one .bool] (fun _ => law06_awake)
noncomputable def law06_awake.calls : Nat → Option Callee
  | 0 => some page_Frame.c
  | 1 => some page_Look.c
  | _ => none
theorem law06_awake.eq : evPure law06_awake.calls law06_awake.af = (fun _ H => law06_awake.on H) := by kernel_rfl

/-! ### tinderbox/tinderboxlaw06.PageFrames -/
def law06_PageFrames.af : AFun := ⟨[.agg [.int .i64, .int .u64, .int .i64, .int .i64, .int .i64], .one .str, .one (.int .i64)], [.one .bool], [.t 6],
 .seq (.reg [.op ⟨0, some 3, .box (.t 0), none⟩,
  .op ⟨1, some 6, .mv (.c (.one (.bool false))), none⟩])
 (.seq (.reg [.op ⟨0, some 18, .mv (.t 1), none⟩,
  .op ⟨1, some 19, .call 0 [(.t 18)], none⟩,
  .op ⟨2, some 20, .mv (.t 2), none⟩,
  .op ⟨3, some 21, .bin .rem (.t 20) (.c (.one (.int .i64 400))), none⟩,
  .op ⟨4, some 7, .mv (.t 19), none⟩,
  .op ⟨5, some 8, .mv (.t 21), none⟩])
 (.seq (.reg [.op ⟨0, some 23, .load (.agg [.int .i64, .int .u64, .int .i64, .int .i64, .int .i64]) (.t 3), none⟩,
  .op ⟨1, some 24, .mv (.t 7), none⟩,
  .op ⟨2, some 25, .mv (.t 8), none⟩,
  .op ⟨3, some 26, .call 1 [(.t 23), (.t 24), (.t 25)], none⟩,
  .op ⟨4, some 22, .mv (.t 26), none⟩,
  .op ⟨5, some 27, .ext (.t 22) 0, none⟩,
  .op ⟨6, some 28, .ext (.t 22) 1, none⟩,
  .op ⟨7, some 29, .ext (.t 22) 2, none⟩,
  .op ⟨8, some 9, .mv (.t 27), none⟩,
  .op ⟨9, some 10, .mv (.t 28), none⟩,
  .op ⟨10, some 11, .mv (.t 29), none⟩])
 (.seq (.scope [(.normal, [(12, .one .bool)])] (.reg [.op ⟨0, some 30, .load (.agg [.int .i64, .int .u64, .int .i64, .int .i64, .int .i64]) (.t 3), none⟩,
  .op ⟨1, some 31, .call 2 [(.t 30)], none⟩,
  .op ⟨2, some 32, .mv (.t 31), none⟩,
  .op ⟨3, some 33, .mv (.t 8), some (32, true)⟩,
  .op ⟨4, some 34, .bin .geq (.t 33) (.c (.one (.int .i64 0))), some (32, true)⟩,
  .op ⟨5, some 35, .pick (.t 32) (.t 34) (.c (.one (.bool false))), none⟩,
  .op ⟨6, some 36, .mv (.t 35), none⟩,
  .op ⟨7, some 37, .mv (.t 7), some (36, true)⟩,
  .op ⟨8, some 38, .lens (.t 37), some (36, true)⟩,
  .op ⟨9, some 39, .mv (.t 8), some (36, true)⟩,
  .op ⟨10, some 40, .bin .leq (.t 38) (.t 39), some (36, true)⟩,
  .op ⟨11, some 41, .pick (.t 36) (.t 40) (.c (.one (.bool false))), none⟩,
  .op ⟨12, some 12, .mv (.t 41), none⟩]))
 (.seq (.seq (.reg [.op ⟨0, some 42, .call 3 [], none⟩,
  .op ⟨1, some 43, .un .not (.t 42), none⟩,
  .op ⟨2, some 44, .mv (.t 43), none⟩,
  .op ⟨3, some 45, .load (.agg [.int .i64, .int .u64, .int .i64, .int .i64, .int .i64]) (.t 3), some (44, false)⟩,
  .op ⟨4, some 46, .call 4 [(.t 45)], some (44, false)⟩,
  .op ⟨5, some 47, .load (.agg [.int .i64, .int .u64, .int .i64, .int .i64, .int .i64]) (.t 3), some (44, false)⟩,
  .op ⟨6, some 48, .call 2 [(.t 47)], some (44, false)⟩,
  .op ⟨7, some 49, .eqb true (.t 46) (.t 48), some (44, false)⟩,
  .op ⟨8, some 50, .pick (.t 44) (.c (.one (.bool true))) (.t 49), none⟩])
 (.cond (.t 50) (.seq (.reg [.op ⟨0, some 6, .mv (.c (.one (.bool false))), none⟩])
 (.ret)) (.skip)))
 (.seq (.seq (.reg [.op ⟨0, some 51, .mv (.t 12), none⟩,
  .op ⟨1, some 52, .un .not (.t 51), none⟩])
 (.cond (.t 52) (.seq (.reg [.op ⟨0, some 53, .mv (.t 11), none⟩,
  .op ⟨1, some 54, .bin .eql (.t 53) (.c (.one (.int .i64 1))), none⟩,
  .op ⟨2, some 55, .mv (.t 54), none⟩,
  .op ⟨3, some 56, .mv (.t 9), some (55, true)⟩,
  .op ⟨4, some 57, .bin .eql (.t 56) (.c (.one (.str []))), some (55, true)⟩,
  .op ⟨5, some 58, .pick (.t 55) (.t 57) (.c (.one (.bool false))), none⟩,
  .op ⟨6, some 59, .mv (.t 58), none⟩,
  .op ⟨7, some 60, .mv (.t 10), some (59, true)⟩,
  .op ⟨8, some 61, .bin .eql (.t 60) (.c (.one (.str []))), some (59, true)⟩,
  .op ⟨9, some 62, .pick (.t 59) (.t 61) (.c (.one (.bool false))), none⟩,
  .op ⟨10, some 6, .mv (.t 62), none⟩])
 (.ret)) (.skip)))
 (.seq (.reg [.op ⟨0, some 64, .load (.agg [.int .i64, .int .u64, .int .i64, .int .i64, .int .i64]) (.t 3), none⟩,
  .op ⟨1, some 65, .mv (.t 7), none⟩,
  .op ⟨2, some 66, .mv (.t 8), none⟩,
  .op ⟨3, some 67, .call 5 [(.t 64), (.t 65), (.t 66)], none⟩,
  .op ⟨4, some 63, .mv (.t 67), none⟩,
  .op ⟨5, some 68, .ext (.t 63) 0, none⟩,
  .op ⟨6, some 69, .ext (.t 63) 1, none⟩,
  .op ⟨7, some 13, .mv (.t 68), none⟩,
  .op ⟨8, some 14, .mv (.t 69), none⟩])
 (.seq (.reg [.op ⟨0, some 71, .mv (.t 9), none⟩,
  .op ⟨1, some 72, .mv (.t 10), none⟩,
  .op ⟨2, some 73, .call 6 [(.t 71), (.t 72)], none⟩,
  .op ⟨3, some 70, .mv (.t 73), none⟩,
  .op ⟨4, some 74, .ext (.t 70) 0, none⟩,
  .op ⟨5, some 75, .ext (.t 70) 1, none⟩,
  .op ⟨6, some 76, .ext (.t 70) 2, none⟩,
  .op ⟨7, some 16, .new [.int .i64 0, .int .u64 0, .int .i64 0, .int .i64 0, .int .i64 0], none⟩,
  .op ⟨8, some 15, .mv (.t 74), none⟩,
  .op ⟨9, none, .store 5 (.t 16) (.t 75), none⟩,
  .op ⟨10, some 17, .mv (.t 76), none⟩])
 (.seq (.reg [.op ⟨0, some 77, .mv (.t 11), none⟩,
  .op ⟨1, some 78, .bin .eql (.t 77) (.c (.one (.int .i64 0))), none⟩,
  .op ⟨2, some 79, .mv (.t 78), none⟩,
  .op ⟨3, some 80, .mv (.t 9), some (79, true)⟩,
  .op ⟨4, some 81, .mv (.t 13), some (79, true)⟩,
  .op ⟨5, some 82, .bin .eql (.t 80) (.t 81), some (79, true)⟩,
  .op ⟨6, some 83, .pick (.t 79) (.t 82) (.c (.one (.bool false))), none⟩,
  .op ⟨7, some 84, .mv (.t 83), none⟩,
  .op ⟨8, some 85, .mv (.t 10), some (84, true)⟩,
  .op ⟨9, some 86, .mv (.t 14), some (84, true)⟩,
  .op ⟨10, some 87, .bin .eql (.t 85) (.t 86), some (84, true)⟩,
  .op ⟨11, some 88, .pick (.t 84) (.t 87) (.c (.one (.bool false))), none⟩,
  .op ⟨12, some 89, .mv (.t 88), none⟩,
  .op ⟨13, some 90, .mv (.t 15), some (89, true)⟩,
  .op ⟨14, some 91, .bin .eql (.t 90) (.c (.one (.int .i64 1))), some (89, true)⟩,
  .op ⟨15, some 92, .pick (.t 89) (.t 91) (.c (.one (.bool false))), none⟩,
  .op ⟨16, some 93, .mv (.t 92), none⟩,
  .op ⟨17, some 94, .load (.agg [.int .i64, .int .u64, .int .i64, .int .i64, .int .i64]) (.t 16), some (93, true)⟩,
  .op ⟨18, some 95, .load (.agg [.int .i64, .int .u64, .int .i64, .int .i64, .int .i64]) (.t 3), some (93, true)⟩,
  .op ⟨19, some 96, .eqagg false [.int .i64, .int .u64, .int .i64, .int .i64, .int .i64] (.t 94) (.t 95), some (93, true)⟩,
  .op ⟨20, some 97, .pick (.t 93) (.t 96) (.c (.one (.bool false))), none⟩,
  .op ⟨21, some 98, .mv (.t 97), none⟩,
  .op ⟨22, some 99, .mv (.t 17), some (98, true)⟩,
  .op ⟨23, some 100, .mv (.t 7), some (98, true)⟩,
  .op ⟨24, some 101, .bin .eql (.t 99) (.t 100), some (98, true)⟩,
  .op ⟨25, some 102, .pick (.t 98) (.t 101) (.c (.one (.bool false))), none⟩,
  .op ⟨26, some 6, .mv (.t 102), none⟩])
 (.ret)))))))))⟩
noncomputable def law06_PageFrames.on (x0 : (Int × Int × Int × Int × Int × Unit)) (x1 : Bytes) (x2 : Int) (H : Heap) : Option (Bool × Unit) :=
 let H1 : Heap := H ++ [Blk.cells [.int .i64 x0.1, .int .u64 x0.2.1, .int .i64 x0.2.2.1, .int .i64 x0.2.2.2.1, .int .i64 x0.2.2.2.2.1] .exact]
 (law06_few x1).bind fun (r2 : (Bytes × Unit)) =>
 Option.bind (α := (Int × Int × Int × Int × Int × Unit)) (rd H1 (.agg [.int .i64, .int .u64, .int .i64, .int .i64, .int .i64]) H.length 0) fun (v3 : (Int × Int × Int × Int × Int × Unit)) =>
 (page_Frame (v3.1, v3.2.1, v3.2.2.1, v3.2.2.2.1, v3.2.2.2.2.1, ()) r2.1 (Int.tmod x2 400)).bind fun (r4 : (Bytes × Bytes × Int × Unit)) =>
 (Option.bind (α := (Int × Int × Int × Int × Int × Unit)) (rd H1 (.agg [.int .i64, .int .u64, .int .i64, .int .i64, .int .i64]) H.length 0) fun (v5 : (Int × Int × Int × Int × Int × Unit)) =>
 (ref06_Check (v5.1, v5.2.1, v5.2.2.1, v5.2.2.2.1, v5.2.2.2.2.1, ())).bind fun (r6 : (Bool × Unit)) =>
 cond r6.1 (
 cond (decide (0 ≤ (Int.tmod x2 400))) (
 some (((decide ((List.length (r2.1 : Bytes) : Int) ≤ (Int.tmod x2 400))), ()), H1)) (
 some ((false, ()), H1))) (
 some ((false, ()), H1)) : Option ((Bool × Unit) × Heap)).bind fun (p7 : (Bool × Unit) × Heap) =>
 (law06_awake).bind fun (r8 : (Bool × Unit)) =>
 cond (!r8.1) (
 some (false, ())) (
 Option.bind (α := (Int × Int × Int × Int × Int × Unit)) (rd p7.2 (.agg [.int .i64, .int .u64, .int .i64, .int .i64, .int .i64]) H.length 0) fun (v9 : (Int × Int × Int × Int × Int × Unit)) =>
 (page_Check (v9.1, v9.2.1, v9.2.2.1, v9.2.2.2.1, v9.2.2.2.2.1, ())).bind fun (r10 : (Bool × Unit)) =>
 Option.bind (α := (Int × Int × Int × Int × Int × Unit)) (rd p7.2 (.agg [.int .i64, .int .u64, .int .i64, .int .i64, .int .i64]) H.length 0) fun (v11 : (Int × Int × Int × Int × Int × Unit)) =>
 (ref06_Check (v11.1, v11.2.1, v11.2.2.1, v11.2.2.2.1, v11.2.2.2.2.1, ())).bind fun (r12 : (Bool × Unit)) =>
 cond (!(r10.1 == r12.1)) (
 some (false, ())) (
 cond (!p7.1.1) (
 cond (decide (r4.2.2.1 = 1)) (
 cond (decide ((r4.1 : Bytes) = [])) (
 some ((decide ((r4.2.1 : Bytes) = [])), ())) (
 some (false, ()))) (
 some (false, ()))) (
 Option.bind (α := (Int × Int × Int × Int × Int × Unit)) (rd p7.2 (.agg [.int .i64, .int .u64, .int .i64, .int .i64, .int .i64]) H.length 0) fun (v13 : (Int × Int × Int × Int × Int × Unit)) =>
 (ref06_Frame (v13.1, v13.2.1, v13.2.2.1, v13.2.2.2.1, v13.2.2.2.2.1, ()) r2.1 (Int.tmod x2 400)).bind fun (r14 : (Bytes × Bytes × Unit)) =>
 (page_Look r4.1 r4.2.1).bind fun (r15 : (Int × (Int × Int × Int × Int × Int × Unit) × Bytes × Unit)) =>
 let H16 : Heap := p7.2 ++ [Blk.cells [.int .i64 0, .int .u64 0, .int .i64 0, .int .i64 0, .int .i64 0] .exact]
 (wr H16 p7.2.length 0 [.int .i64 r15.2.1.1, .int .u64 r15.2.1.2.1, .int .i64 r15.2.1.2.2.1, .int .i64 r15.2.1.2.2.2.1, .int .i64 r15.2.1.2.2.2.2.1]).bind fun (H17 : Heap) =>
 cond (decide (r4.2.2.1 = 0)) (
 cond (decide ((r4.1 : Bytes) = r14.1)) (
 cond (decide ((r4.2.1 : Bytes) = r14.2.1)) (
 cond (decide (r15.1 = 1)) (
 Option.bind (α := (Int × Int × Int × Int × Int × Unit)) (rd H17 (.agg [.int .i64, .int .u64, .int .i64, .int .i64, .int .i64]) p7.2.length 0) fun (v18 : (Int × Int × Int × Int × Int × Unit)) =>
 Option.bind (α := (Int × Int × Int × Int × Int × Unit)) (rd H17 (.agg [.int .i64, .int .u64, .int .i64, .int .i64, .int .i64]) H.length 0) fun (v19 : (Int × Int × Int × Int × Int × Unit)) =>
 cond ((decide (v18.1 = v19.1)) && ((decide (v18.2.1 = v19.2.1)) && ((decide (v18.2.2.1 = v19.2.2.1)) && ((decide (v18.2.2.2.1 = v19.2.2.2.1)) && ((decide (v18.2.2.2.2.1 = v19.2.2.2.2.1)) && true))))) (
 some ((decide ((r15.2.2.1 : Bytes) = r2.1)), ())) (
 some (false, ()))) (
 some (false, ()))) (
 some (false, ()))) (
 some (false, ()))) (
 some (false, ())))))
noncomputable def law06_PageFrames (x0 : (Int × Int × Int × Int × Int × Unit)) (x1 : Bytes) (x2 : Int) : Option (Bool × Unit) := law06_PageFrames.on x0 x1 x2 []
noncomputable def law06_PageFrames.c : Callee := .pure [.agg [.int .i64, .int .u64, .int .i64, .int .i64, .int .i64], .one .str, .one (.int .i64)] [.one .bool] (fun x => law06_PageFrames x.1 x.2.1 x.2.2.1)
noncomputable def law06_PageFrames.calls : Nat → Option Callee
  | 0 => some law06_few.c
  | 1 => some page_Frame.c
  | 2 => some ref06_Check.c
  | 3 => some law06_awake.c
  | 4 => some page_Check.c
  | 5 => some ref06_Frame.c
  | 6 => some page_Look.c
  | _ => none
theorem law06_PageFrames.eq : evPure law06_PageFrames.calls law06_PageFrames.af = (fun x H => law06_PageFrames.on x.1 x.2.1 x.2.2.1 H) := by kernel_rfl

/-! ### tinderbox/tinderboxlaw06.PageLooks -/
def law06_PageLooks.af : AFun := ⟨[.one .str, .one .str], [.one .bool], [.t 4],
 .seq (.reg [.op ⟨0, some 4, .mv (.c (.one (.bool false))), none⟩])
 (.seq (.reg [.op ⟨0, some 13, .mv (.t 0), none⟩,
  .op ⟨1, some 14, .call 0 [(.t 13)], none⟩,
  .op ⟨2, some 15, .mv (.t 1), none⟩,
  .op ⟨3, some 16, .call 0 [(.t 15)], none⟩,
  .op ⟨4, some 5, .mv (.t 14), none⟩,
  .op ⟨5, some 6, .mv (.t 16), none⟩])
 (.seq (.reg [.op ⟨0, some 18, .mv (.t 5), none⟩,
  .op ⟨1, some 19, .mv (.t 6), none⟩,
  .op ⟨2, some 20, .call 1 [(.t 18), (.t 19)], none⟩,
  .op ⟨3, some 17, .mv (.t 20), none⟩,
  .op ⟨4, some 21, .ext (.t 17) 0, none⟩,
  .op ⟨5, some 22, .ext (.t 17) 1, none⟩,
  .op ⟨6, some 23, .ext (.t 17) 2, none⟩,
  .op ⟨7, some 8, .new [.int .i64 0, .int .u64 0, .int .i64 0, .int .i64 0, .int .i64 0], none⟩,
  .op ⟨8, some 7, .mv (.t 21), none⟩,
  .op ⟨9, none, .store 5 (.t 8) (.t 22), none⟩,
  .op ⟨10, some 9, .mv (.t 23), none⟩])
 (.seq (.reg [.op ⟨0, some 25, .mv (.t 5), none⟩,
  .op ⟨1, some 26, .mv (.t 6), none⟩,
  .op ⟨2, some 27, .call 2 [(.t 25), (.t 26)], none⟩,
  .op ⟨3, some 24, .mv (.t 27), none⟩,
  .op ⟨4, some 28, .ext (.t 24) 0, none⟩,
  .op ⟨5, some 29, .ext (.t 24) 1, none⟩,
  .op ⟨6, some 30, .ext (.t 24) 2, none⟩,
  .op ⟨7, some 11, .new [.int .i64 0, .int .u64 0, .int .i64 0, .int .i64 0, .int .i64 0], none⟩,
  .op ⟨8, some 10, .mv (.t 28), none⟩,
  .op ⟨9, none, .store 5 (.t 11) (.t 29), none⟩,
  .op ⟨10, some 12, .mv (.t 30), none⟩])
 (.seq (.reg [.op ⟨0, some 31, .call 3 [], none⟩,
  .op ⟨1, some 32, .mv (.t 31), none⟩,
  .op ⟨2, some 33, .mv (.t 7), some (32, true)⟩,
  .op ⟨3, some 34, .mv (.t 10), some (32, true)⟩,
  .op ⟨4, some 35, .bin .eql (.t 33) (.t 34), some (32, true)⟩,
  .op ⟨5, some 36, .pick (.t 32) (.t 35) (.c (.one (.bool false))), none⟩,
  .op ⟨6, some 37, .mv (.t 36), none⟩,
  .op ⟨7, some 38, .load (.agg [.int .i64, .int .u64, .int .i64, .int .i64, .int .i64]) (.t 8), some (37, true)⟩,
  .op ⟨8, some 39, .load (.agg [.int .i64, .int .u64, .int .i64, .int .i64, .int .i64]) (.t 11), some (37, true)⟩,
  .op ⟨9, some 40, .eqagg false [.int .i64, .int .u64, .int .i64, .int .i64, .int .i64] (.t 38) (.t 39), some (37, true)⟩,
  .op ⟨10, some 41, .pick (.t 37) (.t 40) (.c (.one (.bool false))), none⟩,
  .op ⟨11, some 42, .mv (.t 41), none⟩,
  .op ⟨12, some 43, .mv (.t 9), some (42, true)⟩,
  .op ⟨13, some 44, .mv (.t 12), some (42, true)⟩,
  .op ⟨14, some 45, .bin .eql (.t 43) (.t 44), some (42, true)⟩,
  .op ⟨15, some 46, .pick (.t 42) (.t 45) (.c (.one (.bool false))), none⟩,
  .op ⟨16, some 4, .mv (.t 46), none⟩])
 (.ret)))))⟩
noncomputable def law06_PageLooks.on (x0 : Bytes) (x1 : Bytes) (H : Heap) : Option (Bool × Unit) :=
 (law06_few x0).bind fun (r1 : (Bytes × Unit)) =>
 (law06_few x1).bind fun (r2 : (Bytes × Unit)) =>
 (page_Look r1.1 r2.1).bind fun (r3 : (Int × (Int × Int × Int × Int × Int × Unit) × Bytes × Unit)) =>
 let H4 : Heap := H ++ [Blk.cells [.int .i64 0, .int .u64 0, .int .i64 0, .int .i64 0, .int .i64 0] .exact]
 (wr H4 H.length 0 [.int .i64 r3.2.1.1, .int .u64 r3.2.1.2.1, .int .i64 r3.2.1.2.2.1, .int .i64 r3.2.1.2.2.2.1, .int .i64 r3.2.1.2.2.2.2.1]).bind fun (H5 : Heap) =>
 (ref06_Look r1.1 r2.1).bind fun (r6 : (Int × (Int × Int × Int × Int × Int × Unit) × Bytes × Unit)) =>
 let H7 : Heap := H5 ++ [Blk.cells [.int .i64 0, .int .u64 0, .int .i64 0, .int .i64 0, .int .i64 0] .exact]
 (wr H7 H5.length 0 [.int .i64 r6.2.1.1, .int .u64 r6.2.1.2.1, .int .i64 r6.2.1.2.2.1, .int .i64 r6.2.1.2.2.2.1, .int .i64 r6.2.1.2.2.2.2.1]).bind fun (H8 : Heap) =>
 (law06_awake).bind fun (r9 : (Bool × Unit)) =>
 cond r9.1 (
 cond (decide (r3.1 = r6.1)) (
 Option.bind (α := (Int × Int × Int × Int × Int × Unit)) (rd H8 (.agg [.int .i64, .int .u64, .int .i64, .int .i64, .int .i64]) H.length 0) fun (v10 : (Int × Int × Int × Int × Int × Unit)) =>
 Option.bind (α := (Int × Int × Int × Int × Int × Unit)) (rd H8 (.agg [.int .i64, .int .u64, .int .i64, .int .i64, .int .i64]) H5.length 0) fun (v11 : (Int × Int × Int × Int × Int × Unit)) =>
 cond ((decide (v10.1 = v11.1)) && ((decide (v10.2.1 = v11.2.1)) && ((decide (v10.2.2.1 = v11.2.2.1)) && ((decide (v10.2.2.2.1 = v11.2.2.2.1)) && ((decide (v10.2.2.2.2.1 = v11.2.2.2.2.1)) && true))))) (
 some ((decide ((r3.2.2.1 : Bytes) = r6.2.2.1)), ())) (
 some (false, ()))) (
 some (false, ()))) (
 some (false, ()))
noncomputable def law06_PageLooks (x0 : Bytes) (x1 : Bytes) : Option (Bool × Unit) := law06_PageLooks.on x0 x1 []
noncomputable def law06_PageLooks.c : Callee := .pure [.one .str, .one .str] [.one .bool] (fun x => law06_PageLooks x.1 x.2.1)
noncomputable def law06_PageLooks.calls : Nat → Option Callee
  | 0 => some law06_few.c
  | 1 => some page_Look.c
  | 2 => some ref06_Look.c
  | 3 => some law06_awake.c
  | _ => none
theorem law06_PageLooks.eq : evPure law06_PageLooks.calls law06_PageLooks.af = (fun x H => law06_PageLooks.on x.1 x.2.1 H) := by kernel_rfl

/-! ### tinderbox/tinderboxlaw06.PageTorn -/
def law06_PageTorn.af : AFun := ⟨[.agg [.int .i64, .int .u64, .int .i64, .int .i64, .int .i64], .one .str, .one (.int .i64)], [.one .bool], [.t 6],
 .seq (.reg [.op ⟨0, some 3, .box (.t 0), none⟩,
  .op ⟨1, some 6, .mv (.c (.one (.bool false))), none⟩])
 (.seq (.reg [.op ⟨0, some 19, .mv (.t 1), none⟩,
  .op ⟨1, some 20, .call 0 [(.t 19)], none⟩,
  .op ⟨2, some 7, .mv (.t 20), none⟩])
 (.seq (.reg [.op ⟨0, some 21, .addr 0 (.t 3), none⟩,
  .op ⟨1, some 22, .load (.one (.int .i64)) (.t 21), none⟩,
  .op ⟨2, some 23, .bin .and (.t 22) (.c (.one (.int .i64 1))), none⟩,
  .op ⟨3, some 24, .bin .add (.c (.one (.int .i64 1))) (.t 23), none⟩,
  .op ⟨4, some 25, .addr 1 (.t 3), none⟩,
  .op ⟨5, some 26, .load (.one (.int .u64)) (.t 25), none⟩,
  .op ⟨6, some 27, .addr 3 (.t 3), none⟩,
  .op ⟨7, some 28, .load (.one (.int .i64)) (.t 27), none⟩,
  .op ⟨8, some 29, .bin .and (.t 28) (.c (.one (.int .i64 7))), none⟩,
  .op ⟨9, some 30, .bin .add (.c (.one (.int .i64 1))) (.t 29), none⟩,
  .op ⟨10, some 31, .addr 4 (.t 3), none⟩,
  .op ⟨11, some 32, .load (.one (.int .i64)) (.t 31), none⟩,
  .op ⟨12, some 33, .bin .and (.t 32) (.c (.one (.int .i64 65535))), none⟩,
  .op ⟨13, some 34, .build [.int .i64 0, .int .u64 0, .int .i64 0, .int .i64 0, .int .i64 0] [(0, 1, (.t 24)), (1, 1, (.t 26)), (3, 1, (.t 30)), (4, 1, (.t 33))], none⟩,
  .op ⟨14, some 8, .new [.int .i64 0, .int .u64 0, .int .i64 0, .int .i64 0, .int .i64 0], none⟩,
  .op ⟨15, none, .store 5 (.t 8) (.t 34), none⟩])
 (.seq (.reg [.op ⟨0, some 36, .load (.agg [.int .i64, .int .u64, .int .i64, .int .i64, .int .i64]) (.t 8), none⟩,
  .op ⟨1, some 37, .mv (.t 7), none⟩,
  .op ⟨2, some 38, .call 1 [(.t 36), (.t 37), (.c (.one (.int .i64 300)))], none⟩,
  .op ⟨3, some 35, .mv (.t 38), none⟩,
  .op ⟨4, some 39, .ext (.t 35) 0, none⟩,
  .op ⟨5, some 40, .ext (.t 35) 1, none⟩,
  .op ⟨6, some 41, .ext (.t 35) 2, none⟩,
  .op ⟨7, some 9, .mv (.t 39), none⟩,
  .op ⟨8, some 10, .mv (.t 40), none⟩,
  .op ⟨9, some 11, .mv (.t 41), none⟩])
 (.seq (.seq (.reg [.op ⟨0, some 42, .call 2 [], none⟩,
  .op ⟨1, some 43, .un .not (.t 42), none⟩,
  .op ⟨2, some 44, .mv (.t 43), none⟩,
  .op ⟨3, some 45, .mv (.t 11), some (44, false)⟩,
  .op ⟨4, some 46, .bin .neq (.t 45) (.c (.one (.int .i64 0))), some (44, false)⟩,
  .op ⟨5, some 47, .pick (.t 44) (.c (.one (.bool true))) (.t 46), none⟩])
 (.cond (.t 47) (.seq (.reg [.op ⟨0, some 6, .mv (.c (.one (.bool false))), none⟩])
 (.ret)) (.skip)))
 (.seq (.reg [.op ⟨0, some 48, .mv (.t 9), none⟩,
  .op ⟨1, some 49, .mv (.t 10), none⟩,
  .op ⟨2, some 50, .bin .add (.t 48) (.t 49), none⟩,
  .op ⟨3, some 51, .s2b (.t 50), none⟩,
  .op ⟨4, some 12, .mv (.t 51), none⟩])
 (.seq (.reg [.op ⟨0, some 52, .mv (.t 2), none⟩,
  .op ⟨1, some 53, .mv (.t 12), none⟩,
  .op ⟨2, some 54, .len (.t 53), none⟩,
  .op ⟨3, some 55, .bin .sub (.t 54) (.c (.one (.int .i64 3))), none⟩,
  .op ⟨4, some 56, .bin .rem (.t 52) (.t 55), none⟩,
  .op ⟨5, some 57, .mv (.t 12), none⟩,
  .op ⟨6, some 58, .len (.t 57), none⟩,
  .op ⟨7, some 59, .bin .add (.t 56) (.t 58), none⟩,
  .op ⟨8, some 60, .bin .sub (.t 59) (.c (.one (.int .i64 3))), none⟩,
  .op ⟨9, some 61, .mv (.t 12), none⟩,
  .op ⟨10, some 62, .len (.t 61), none⟩,
  .op ⟨11, some 63, .bin .sub (.t 62) (.c (.one (.int .i64 3))), none⟩,
  .op ⟨12, some 64, .bin .rem (.t 60) (.t 63), none⟩,
  .op ⟨13, some 13, .mv (.t 64), none⟩])
 (.seq (.reg [.op ⟨0, some 65, .mv (.t 2), none⟩,
  .op ⟨1, some 66, .bin .shr (.t 65) (.c (.one (.int .u64 9))), none⟩,
  .op ⟨2, some 67, .bin .and (.t 66) (.c (.one (.int .i64 3))), none⟩,
  .op ⟨3, some 68, .bin .add (.c (.one (.int .i64 1))) (.t 67), none⟩,
  .op ⟨4, some 14, .mv (.t 68), none⟩])
 (.seq (.seq (.reg [.op ⟨0, some 15, .mv (.c (.one (.int .i64 0))), none⟩])
 (.block 0 (.loop [(15, .one (.int .i64))] [(.exit 0, [])] (.seq (.seq (.reg [.op ⟨0, some 69, .mv (.t 15), none⟩,
  .op ⟨1, some 70, .mv (.t 14), none⟩,
  .op ⟨2, some 71, .bin .lss (.t 69) (.t 70), none⟩])
 (.cond (.t 71) (.skip) (.exit 0)))
 (.seq (.block 1 (.reg [.op ⟨0, some 74, .mv (.t 12), none⟩,
  .op ⟨1, some 75, .mv (.t 13), none⟩,
  .op ⟨2, some 76, .mv (.t 15), none⟩,
  .op ⟨3, some 77, .bin .add (.t 75) (.t 76), none⟩,
  .op ⟨4, some 78, .idxa 1 (.t 74) (.t 77), none⟩,
  .op ⟨5, some 79, .load (.one (.int .u8)) (.t 78), none⟩,
  .op ⟨6, some 80, .mv (.t 2), none⟩,
  .op ⟨7, some 81, .bin .shr (.t 80) (.c (.one (.int .u64 12))), none⟩,
  .op ⟨8, some 82, .bin .and (.t 81) (.c (.one (.int .i64 63))), none⟩,
  .op ⟨9, some 83, .bin .add (.c (.one (.int .i64 1))) (.t 82), none⟩,
  .op ⟨10, some 84, .conv .u8 (.t 83), none⟩,
  .op ⟨11, some 85, .bin .xor (.t 79) (.t 84), none⟩,
  .op ⟨12, some 86, .idxa 1 (.t 74) (.t 77), none⟩,
  .op ⟨13, none, .store 1 (.t 86) (.t 85), none⟩]))
 (.reg [.op ⟨0, some 72, .mv (.t 15), none⟩,
  .op ⟨1, some 73, .bin .add (.t 72) (.c (.one (.int .i64 1))), none⟩,
  .op ⟨2, some 15, .mv (.t 73), none⟩]))))))
 (.seq (.reg [.op ⟨0, some 88, .mv (.t 12), none⟩,
  .op ⟨1, some 89, .slc 1 (.t 88) none (some (.c (.one (.int .i64 300)))) none, none⟩,
  .op ⟨2, some 90, .b2s (.t 89), none⟩,
  .op ⟨3, some 91, .mv (.t 12), none⟩,
  .op ⟨4, some 92, .slc 1 (.t 91) (some (.c (.one (.int .i64 300)))) none none, none⟩,
  .op ⟨5, some 93, .b2s (.t 92), none⟩,
  .op ⟨6, some 94, .call 3 [(.t 90), (.t 93)], none⟩,
  .op ⟨7, some 87, .mv (.t 94), none⟩,
  .op ⟨8, some 95, .ext (.t 87) 0, none⟩,
  .op ⟨9, some 96, .ext (.t 87) 1, none⟩,
  .op ⟨10, some 97, .ext (.t 87) 2, none⟩,
  .op ⟨11, some 17, .new [.int .i64 0, .int .u64 0, .int .i64 0, .int .i64 0, .int .i64 0], none⟩,
  .op ⟨12, some 16, .mv (.t 95), none⟩,
  .op ⟨13, none, .store 5 (.t 17) (.t 96), none⟩,
  .op ⟨14, some 18, .mv (.t 97), none⟩])
 (.seq (.reg [.op ⟨0, some 98, .mv (.t 16), none⟩,
  .op ⟨1, some 99, .bin .eql (.t 98) (.c (.one (.int .i64 2))), none⟩,
  .op ⟨2, some 100, .mv (.t 99), none⟩,
  .op ⟨3, some 101, .mv (.t 18), some (100, true)⟩,
  .op ⟨4, some 102, .bin .eql (.t 101) (.c (.one (.str []))), some (100, true)⟩,
  .op ⟨5, some 103, .pick (.t 100) (.t 102) (.c (.one (.bool false))), none⟩,
  .op ⟨6, some 6, .mv (.t 103), none⟩])
 (.ret)))))))))))⟩
noncomputable def law06_PageTorn.s1 (x2 : Int) (H8 : Heap) (s12 : Bytes) (s14 : (Int × Unit)) (H15 : Heap) : Option (((Int × Unit) ⊕ (Unit)) × Heap) :=
 cond (decide (s14.1 < (IntKind.wrap .i64 (1 + (bitsI .and .i64 (Int.fdiv x2 (2 ^ (min (Int.toNat 9) (IntKind.bits .i64)))) 3))))) (
 let n16 : Int := (IntKind.wrap .i64 ((Int.tmod (IntKind.wrap .i64 ((IntKind.wrap .i64 ((Int.tmod x2 (IntKind.wrap .i64 (((List.length (s12 : Bytes)) : Int) - 3))) + ((List.length (s12 : Bytes)) : Int))) - 3)) (IntKind.wrap .i64 (((List.length (s12 : Bytes)) : Int) - 3))) + s14.1))
 (Sl.at 1 (⟨some (H8.length, 0), (List.length (s12 : Bytes)), (List.length (s12 : Bytes))⟩) n16).bind fun (a17 : (Nat × Nat)) =>
 (rdI .u8 H15 a17.1 a17.2).bind fun (v18 : Int) =>
 (Sl.at 1 (⟨some (H8.length, 0), (List.length (s12 : Bytes)), (List.length (s12 : Bytes))⟩) n16).bind fun (a19 : (Nat × Nat)) =>
 (wr H15 a19.1 a19.2 [.int .u8 (bitsI .xor .u8 v18 (IntKind.wrap .u8 (IntKind.wrap .i64 (1 + (bitsI .and .i64 (Int.fdiv x2 (2 ^ (min (Int.toNat 12) (IntKind.bits .i64)))) 63)))))]).bind fun (H20 : Heap) =>
 some (Sum.inl ((IntKind.wrap .i64 (s14.1 + 1)), ()), H20)) (
 some (Sum.inr (()), H15))
noncomputable def law06_PageTorn.on (x0 : (Int × Int × Int × Int × Int × Unit)) (x1 : Bytes) (x2 : Int) (H : Heap) : Option (Bool × Unit) :=
 let H1 : Heap := H ++ [Blk.cells [.int .i64 x0.1, .int .u64 x0.2.1, .int .i64 x0.2.2.1, .int .i64 x0.2.2.2.1, .int .i64 x0.2.2.2.2.1] .exact]
 (law06_few x1).bind fun (r2 : (Bytes × Unit)) =>
 (rdI .i64 H1 H.length 0).bind fun (v3 : Int) =>
 (rdI .u64 H1 H.length 1).bind fun (v4 : Int) =>
 (rdI .i64 H1 H.length 3).bind fun (v5 : Int) =>
 (rdI .i64 H1 H.length 4).bind fun (v6 : Int) =>
 let H7 : Heap := H1 ++ [Blk.cells [.int .i64 0, .int .u64 0, .int .i64 0, .int .i64 0, .int .i64 0] .exact]
 (wr H7 H1.length 0 [.int .i64 (IntKind.wrap .i64 (1 + (bitsI .and .i64 v3 1))), .int .u64 v4, .int .i64 0, .int .i64 (IntKind.wrap .i64 (1 + (bitsI .and .i64 v5 7))), .int .i64 (bitsI .and .i64 v6 65535)]).bind fun (H8 : Heap) =>
 Option.bind (α := (Int × Int × Int × Int × Int × Unit)) (rd H8 (.agg [.int .i64, .int .u64, .int .i64, .int .i64, .int .i64]) H1.length 0) fun (v9 : (Int × Int × Int × Int × Int × Unit)) =>
 (page_Frame (v9.1, v9.2.1, v9.2.2.1, v9.2.2.2.1, v9.2.2.2.2.1, ()) r2.1 300).bind fun (r10 : (Bytes × Bytes × Int × Unit)) =>
 (law06_awake).bind fun (r11 : (Bool × Unit)) =>
 cond (!r11.1) (
 some (false, ())) (
 cond (!decide (r10.2.2.1 = 0)) (
 some (false, ())) (
 (catS r10.1 r10.2.1).bind fun (s12 : Bytes) =>
 let H13 : Heap := H8 ++ [Blk.cells (cellsOf s12) .loose]
 cond (decide ((IntKind.wrap .i64 (((List.length (s12 : Bytes)) : Int) - 3)) = 0)) none (
 cond (decide ((IntKind.wrap .i64 (((List.length (s12 : Bytes)) : Int) - 3)) = 0)) none (
 (loopW (law06_PageTorn.s1 x2 H8 s12) (0, ()) H13).bind fun (p21 : (Unit) × Heap) =>
 (Sl.sub 1 (⟨some (H8.length, 0), (List.length (s12 : Bytes)), (List.length (s12 : Bytes))⟩) 0 300 ((List.length (s12 : Bytes)) : Int)).bind fun (t22 : Sl) =>
 (strOf p21.2 t22).bind fun (s23 : Bytes) =>
 (Sl.sub 1 (⟨some (H8.length, 0), (List.length (s12 : Bytes)), (List.length (s12 : Bytes))⟩) 300 ((List.length (s12 : Bytes)) : Int) ((List.length (s12 : Bytes)) : Int)).bind fun (t24 : Sl) =>
 (strOf p21.2 t24).bind fun (s25 : Bytes) =>
 (page_Look s23 s25).bind fun (r26 : (Int × (Int × Int × Int × Int × Int × Unit) × Bytes × Unit)) =>
 let H27 : Heap := p21.2 ++ [Blk.cells [.int .i64 0, .int .u64 0, .int .i64 0, .int .i64 0, .int .i64 0] .exact]
 (wr H27 p21.2.length 0 [.int .i64 r26.2.1.1, .int .u64 r26.2.1.2.1, .int .i64 r26.2.1.2.2.1, .int .i64 r26.2.1.2.2.2.1, .int .i64 r26.2.1.2.2.2.2.1]).bind fun (H28 : Heap) =>
 cond (decide (r26.1 = 2)) (
 some ((decide ((r26.2.2.1 : Bytes) = [])), ())) (
 some (false, ()))))))
noncomputable def law06_PageTorn (x0 : (Int × Int × Int × Int × Int × Unit)) (x1 : Bytes) (x2 : Int) : Option (Bool × Unit) := law06_PageTorn.on x0 x1 x2 []
noncomputable def law06_PageTorn.c : Callee := .pure [.agg [.int .i64, .int .u64, .int .i64, .int .i64, .int .i64], .one .str, .one (.int .i64)] [.one .bool] (fun x => law06_PageTorn x.1 x.2.1 x.2.2.1)
noncomputable def law06_PageTorn.calls : Nat → Option Callee
  | 0 => some law06_few.c
  | 1 => some page_Frame.c
  | 2 => some law06_awake.c
  | 3 => some page_Look.c
  | _ => none
theorem law06_PageTorn.eq : evPure law06_PageTorn.calls law06_PageTorn.af = (fun x H => law06_PageTorn.on x.1 x.2.1 x.2.2.1 H) := by kernel_rfl

/-! ### tinderbox/tinderboxlaw06.PageBeginning -/
def law06_PageBeginning.af : AFun := ⟨[.agg [.int .i64, .int .u64, .int .i64, .int .i64, .int .i64], .one .str, .one (.int .i64)], [.one .bool], [.t 6],
 .seq (.reg [.op ⟨0, some 3, .box (.t 0), none⟩,
  .op ⟨1, some 6, .mv (.c (.one (.bool false))), none⟩])
 (.seq (.reg [.op ⟨0, some 23, .mv (.t 1), none⟩,
  .op ⟨1, some 24, .call 0 [(.t 23)], none⟩,
  .op ⟨2, some 25, .mv (.t 2), none⟩,
  .op ⟨3, some 26, .bin .shr (.t 25) (.c (.one (.int .u64 10))), none⟩,
  .op ⟨4, some 27, .conv .u8 (.t 26), none⟩,
  .op ⟨5, some 7, .mv (.t 24), none⟩,
  .op ⟨6, some 8, .mv (.t 27), none⟩])
 (.seq (.reg [.op ⟨0, some 28, .addr 0 (.t 3), none⟩,
  .op ⟨1, some 29, .load (.one (.int .i64)) (.t 28), none⟩,
  .op ⟨2, some 30, .bin .and (.t 29) (.c (.one (.int .i64 1))), none⟩,
  .op ⟨3, some 31, .bin .add (.c (.one (.int .i64 1))) (.t 30), none⟩,
  .op ⟨4, some 32, .addr 1 (.t 3), none⟩,
  .op ⟨5, some 33, .load (.one (.int .u64)) (.t 32), none⟩,
  .op ⟨6, some 34, .addr 3 (.t 3), none⟩,
  .op ⟨7, some 35, .load (.one (.int .i64)) (.t 34), none⟩,
  .op ⟨8, some 36, .bin .and (.t 35) (.c (.one (.int .i64 7))), none⟩,
  .op ⟨9, some 37, .bin .add (.c (.one (.int .i64 1))) (.t 36), none⟩,
  .op ⟨10, some 38, .addr 4 (.t 3), none⟩,
  .op ⟨11, some 39, .load (.one (.int .i64)) (.t 38), none⟩,
  .op ⟨12, some 40, .bin .and (.t 39) (.c (.one (.int .i64 65535))), none⟩,
  .op ⟨13, some 41, .build [.int .i64 0, .int .u64 0, .int .i64 0, .int .i64 0, .int .i64 0] [(0, 1, (.t 31)), (1, 1, (.t 33)), (3, 1, (.t 37)), (4, 1, (.t 40))], none⟩,
  .op ⟨14, some 9, .new [.int .i64 0, .int .u64 0, .int .i64 0, .int .i64 0, .int .i64 0], none⟩,
  .op ⟨15, none, .store 5 (.t 9) (.t 41), none⟩])
 (.seq (.reg [.op ⟨0, some 43, .load (.agg [.int .i64, .int .u64, .int .i64, .int .i64, .int .i64]) (.t 9), none⟩,
  .op ⟨1, some 44, .mv (.t 7), none⟩,
  .op ⟨2, some 45, .call 1 [(.t 43), (.t 44), (.c (.one (.int .i64 300)))], none⟩,
  .op ⟨3, some 42, .mv (.t 45), none⟩,
  .op ⟨4, some 46, .ext (.t 42) 0, none⟩,
  .op ⟨5, some 47, .ext (.t 42) 1, none⟩,
  .op ⟨6, some 48, .ext (.t 42) 2, none⟩,
  .op ⟨7, some 10, .mv (.t 46), none⟩,
  .op ⟨8, some 11, .mv (.t 47), none⟩,
  .op ⟨9, some 12, .mv (.t 48), none⟩])
 (.seq (.seq (.reg [.op ⟨0, some 49, .call 2 [], none⟩,
  .op ⟨1, some 50, .un .not (.t 49), none⟩,
  .op ⟨2, some 51, .mv (.t 50), none⟩,
  .op ⟨3, some 52, .mv (.t 12), some (51, false)⟩,
  .op ⟨4, some 53, .bin .neq (.t 52) (.c (.one (.int .i64 0))), some (51, false)⟩,
  .op ⟨5, some 54, .pick (.t 51) (.c (.one (.bool true))) (.t 53), none⟩])
 (.cond (.t 54) (.seq (.reg [.op ⟨0, some 6, .mv (.c (.one (.bool false))), none⟩])
 (.ret)) (.skip)))
 (.seq (.reg [.op ⟨0, some 55, .mv (.t 10), none⟩,
  .op ⟨1, some 56, .mv (.t 11), none⟩,
  .op ⟨2, some 57, .bin .add (.t 55) (.t 56), none⟩,
  .op ⟨3, some 58, .s2b (.t 57), none⟩,
  .op ⟨4, some 13, .mv (.t 58), none⟩])
 (.seq (.reg [.op ⟨0, some 59, .mv (.t 2), none⟩,
  .op ⟨1, some 60, .mv (.t 13), none⟩,
  .op ⟨2, some 61, .len (.t 60), none⟩,
  .op ⟨3, some 62, .bin .rem (.t 59) (.t 61), none⟩,
  .op ⟨4, some 63, .mv (.t 13), none⟩,
  .op ⟨5, some 64, .len (.t 63), none⟩,
  .op ⟨6, some 65, .bin .add (.t 62) (.t 64), none⟩,
  .op ⟨7, some 66, .mv (.t 13), none⟩,
  .op ⟨8, some 67, .len (.t 66), none⟩,
  .op ⟨9, some 68, .bin .rem (.t 65) (.t 67), none⟩,
  .op ⟨10, some 14, .mv (.t 68), none⟩])
 (.seq (.seq (.reg [.op ⟨0, some 69, .mv (.t 14), none⟩,
  .op ⟨1, some 15, .mv (.t 69), none⟩])
 (.block 0 (.loop [(15, .one (.int .i64))] [(.exit 0, [])] (.seq (.seq (.reg [.op ⟨0, some 70, .mv (.t 15), none⟩,
  .op ⟨1, some 71, .mv (.t 13), none⟩,
  .op ⟨2, some 72, .len (.t 71), none⟩,
  .op ⟨3, some 73, .bin .lss (.t 70) (.t 72), none⟩])
 (.cond (.t 73) (.skip) (.exit 0)))
 (.seq (.block 1 (.reg [.op ⟨0, some 76, .mv (.t 13), none⟩,
  .op ⟨1, some 77, .mv (.t 15), none⟩,
  .op ⟨2, some 78, .mv (.t 8), none⟩,
  .op ⟨3, some 79, .idxa 1 (.t 76) (.t 77), none⟩,
  .op ⟨4, none, .store 1 (.t 79) (.t 78), none⟩]))
 (.reg [.op ⟨0, some 74, .mv (.t 15), none⟩,
  .op ⟨1, some 75, .bin .add (.t 74) (.c (.one (.int .i64 1))), none⟩,
  .op ⟨2, some 15, .mv (.t 75), none⟩]))))))
 (.seq (.reg [.op ⟨0, some 80, .mv (.t 13), none⟩,
  .op ⟨1, some 81, .b2s (.t 80), none⟩,
  .op ⟨2, some 82, .mv (.t 10), none⟩,
  .op ⟨3, some 83, .mv (.t 11), none⟩,
  .op ⟨4, some 84, .bin .add (.t 82) (.t 83), none⟩,
  .op ⟨5, some 85, .bin .eql (.t 81) (.t 84), none⟩,
  .op ⟨6, some 16, .mv (.t 85), none⟩])
 (.seq (.reg [.op ⟨0, some 87, .mv (.t 13), none⟩,
  .op ⟨1, some 88, .slc 1 (.t 87) none (some (.c (.one (.int .i64 300)))) none, none⟩,
  .op ⟨2, some 89, .b2s (.t 88), none⟩,
  .op ⟨3, some 90, .mv (.t 13), none⟩,
  .op ⟨4, some 91, .slc 1 (.t 90) (some (.c (.one (.int .i64 300)))) none none, none⟩,
  .op ⟨5, some 92, .b2s (.t 91), none⟩,
  .op ⟨6, some 93, .call 3 [(.t 89), (.t 92)], none⟩,
  .op ⟨7, some 86, .mv (.t 93), none⟩,
  .op ⟨8, some 94, .ext (.t 86) 0, none⟩,
  .op ⟨9, some 95, .ext (.t 86) 1, none⟩,
  .op ⟨10, some 96, .ext (.t 86) 2, none⟩,
  .op ⟨11, some 18, .new [.int .i64 0, .int .u64 0, .int .i64 0, .int .i64 0, .int .i64 0], none⟩,
  .op ⟨12, some 17, .mv (.t 94), none⟩,
  .op ⟨13, none, .store 5 (.t 18) (.t 95), none⟩,
  .op ⟨14, some 19, .mv (.t 96), none⟩])
 (.seq (.reg [.op ⟨0, some 98, .mv (.t 13), none⟩,
  .op ⟨1, some 99, .slc 1 (.t 98) none (some (.c (.one (.int .i64 300)))) none, none⟩,
  .op ⟨2, some 100, .b2s (.t 99), none⟩,
  .op ⟨3, some 101, .mv (.t 13), none⟩,
  .op ⟨4, some 102, .slc 1 (.t 101) (some (.c (.one (.int .i64 300)))) none none, none⟩,
  .op ⟨5, some 103, .b2s (.t 102), none⟩,
  .op ⟨6, some 104, .call 4 [(.t 100), (.t 103)], none⟩,
  .op ⟨7, some 97, .mv (.t 104), none⟩,
  .op ⟨8, some 105, .ext (.t 97) 0, none⟩,
  .op ⟨9, some 106, .ext (.t 97) 1, none⟩,
  .op ⟨10, some 107, .ext (.t 97) 2, none⟩,
  .op ⟨11, some 21, .new [.int .i64 0, .int .u64 0, .int .i64 0, .int .i64 0, .int .i64 0], none⟩,
  .op ⟨12, some 20, .mv (.t 105), none⟩,
  .op ⟨13, none, .store 5 (.t 21) (.t 106), none⟩,
  .op ⟨14, some 22, .mv (.t 107), none⟩])
 (.seq (.reg [.op ⟨0, some 108, .mv (.t 17), none⟩,
  .op ⟨1, some 109, .mv (.t 20), none⟩,
  .op ⟨2, some 110, .bin .eql (.t 108) (.t 109), none⟩,
  .op ⟨3, some 111, .mv (.t 110), none⟩,
  .op ⟨4, some 112, .load (.agg [.int .i64, .int .u64, .int .i64, .int .i64, .int .i64]) (.t 18), some (111, true)⟩,
  .op ⟨5, some 113, .load (.agg [.int .i64, .int .u64, .int .i64, .int .i64, .int .i64]) (.t 21), some (111, true)⟩,
  .op ⟨6, some 114, .eqagg false [.int .i64, .int .u64, .int .i64, .int .i64, .int .i64] (.t 112) (.t 113), some (111, true)⟩,
  .op ⟨7, some 115, .pick (.t 111) (.t 114) (.c (.one (.bool false))), none⟩,
  .op ⟨8, some 116, .mv (.t 115), none⟩,
  .op ⟨9, some 117, .mv (.t 19), some (116, true)⟩,
  .op ⟨10, some 118, .mv (.t 22), some (116, true)⟩,
  .op ⟨11, some 119, .bin .eql (.t 117) (.t 118), some (116, true)⟩,
  .op ⟨12, some 120, .pick (.t 116) (.t 119) (.c (.one (.bool false))), none⟩,
  .op ⟨13, some 121, .mv (.t 120), none⟩,
  .op ⟨14, some 122, .mv (.t 16), some (121, true)⟩,
  .op ⟨15, some 123, .un .not (.t 122), some (121, true)⟩,
  .op ⟨16, some 124, .mv (.t 123), some (121, true)⟩,
  .op ⟨17, some 125, .mv (.t 17), some (124, false)⟩,
  .op ⟨18, some 126, .bin .eql (.t 125) (.c (.one (.int .i64 1))), some (124, false)⟩,
  .op ⟨19, some 127, .mv (.t 126), some (124, false)⟩,
  .op ⟨20, some 128, .mv (.t 19), some (127, true)⟩,
  .op ⟨21, some 129, .mv (.t 7), some (127, true)⟩,
  .op ⟨22, some 130, .bin .eql (.t 128) (.t 129), some (127, true)⟩,
  .op ⟨23, some 131, .pick (.t 127) (.t 130) (.c (.one (.bool false))), some (124, false)⟩,
  .op ⟨24, some 132, .pick (.t 124) (.c (.one (.bool true))) (.t 131), some (121, true)⟩,
  .op ⟨25, some 133, .pick (.t 121) (.t 132) (.c (.one (.bool false))), none⟩,
  .op ⟨26, some 6, .mv (.t 133), none⟩])
 (.ret))))))))))))⟩
noncomputable def law06_PageBeginning.s1 (x2 : Int) (H8 : Heap) (s12 : Bytes) (s14 : (Int × Unit)) (H15 : Heap) : Option (((Int × Unit) ⊕ (Unit)) × Heap) :=
 cond (decide (s14.1 < ((List.length (s12 : Bytes)) : Int))) (
 (Sl.at 1 (⟨some (H8.length, 0), (List.length (s12 : Bytes)), (List.length (s12 : Bytes))⟩) s14.1).bind fun (a16 : (Nat × Nat)) =>
 (wr H15 a16.1 a16.2 [.int .u8 (IntKind.wrap .u8 (Int.fdiv x2 (2 ^ (min (Int.toNat 10) (IntKind.bits .i64)))))]).bind fun (H17 : Heap) =>
 some (Sum.inl ((IntKind.wrap .i64 (s14.1 + 1)), ()), H17)) (
 some (Sum.inr (()), H15))
noncomputable def law06_PageBeginning.on (x0 : (Int × Int × Int × Int × Int × Unit)) (x1 : Bytes) (x2 : Int) (H : Heap) : Option (Bool × Unit) :=
 let H1 : Heap := H ++ [Blk.cells [.int .i64 x0.1, .int .u64 x0.2.1, .int .i64 x0.2.2.1, .int .i64 x0.2.2.2.1, .int .i64 x0.2.2.2.2.1] .exact]
 (law06_few x1).bind fun (r2 : (Bytes × Unit)) =>
 (rdI .i64 H1 H.length 0).bind fun (v3 : Int) =>
 (rdI .u64 H1 H.length 1).bind fun (v4 : Int) =>
 (rdI .i64 H1 H.length 3).bind fun (v5 : Int) =>
 (rdI .i64 H1 H.length 4).bind fun (v6 : Int) =>
 let H7 : Heap := H1 ++ [Blk.cells [.int .i64 0, .int .u64 0, .int .i64 0, .int .i64 0, .int .i64 0] .exact]
 (wr H7 H1.length 0 [.int .i64 (IntKind.wrap .i64 (1 + (bitsI .and .i64 v3 1))), .int .u64 v4, .int .i64 0, .int .i64 (IntKind.wrap .i64 (1 + (bitsI .and .i64 v5 7))), .int .i64 (bitsI .and .i64 v6 65535)]).bind fun (H8 : Heap) =>
 Option.bind (α := (Int × Int × Int × Int × Int × Unit)) (rd H8 (.agg [.int .i64, .int .u64, .int .i64, .int .i64, .int .i64]) H1.length 0) fun (v9 : (Int × Int × Int × Int × Int × Unit)) =>
 (page_Frame (v9.1, v9.2.1, v9.2.2.1, v9.2.2.2.1, v9.2.2.2.2.1, ()) r2.1 300).bind fun (r10 : (Bytes × Bytes × Int × Unit)) =>
 (law06_awake).bind fun (r11 : (Bool × Unit)) =>
 cond (!r11.1) (
 some (false, ())) (
 cond (!decide (r10.2.2.1 = 0)) (
 some (false, ())) (
 (catS r10.1 r10.2.1).bind fun (s12 : Bytes) =>
 let H13 : Heap := H8 ++ [Blk.cells (cellsOf s12) .loose]
 cond (decide (((List.length (s12 : Bytes)) : Int) = 0)) none (
 cond (decide (((List.length (s12 : Bytes)) : Int) = 0)) none (
 (loopW (law06_PageBeginning.s1 x2 H8 s12) ((Int.tmod (IntKind.wrap .i64 ((Int.tmod x2 ((List.length (s12 : Bytes)) : Int)) + ((List.length (s12 : Bytes)) : Int))) ((List.length (s12 : Bytes)) : Int)), ()) H13).bind fun (p18 : (Unit) × Heap) =>
 (strOf p18.2 (⟨some (H8.length, 0), (List.length (s12 : Bytes)), (List.length (s12 : Bytes))⟩)).bind fun (s19 : Bytes) =>
 (catS r10.1 r10.2.1).bind fun (s20 : Bytes) =>
 (Sl.sub 1 (⟨some (H8.length, 0), (List.length (s12 : Bytes)), (List.length (s12 : Bytes))⟩) 0 300 ((List.length (s12 : Bytes)) : Int)).bind fun (t21 : Sl) =>
 (strOf p18.2 t21).bind fun (s22 : Bytes) =>
 (Sl.sub 1 (⟨some (H8.length, 0), (List.length (s12 : Bytes)), (List.length (s12 : Bytes))⟩) 300 ((List.length (s12 : Bytes)) : Int) ((List.length (s12 : Bytes)) : Int)).bind fun (t23 : Sl) =>
 (strOf p18.2 t23).bind fun (s24 : Bytes) =>
 (page_Look s22 s24).bind fun (r25 : (Int × (Int × Int × Int × Int × Int × Unit) × Bytes × Unit)) =>
 let H26 : Heap := p18.2 ++ [Blk.cells [.int .i64 0, .int .u64 0, .int .i64 0, .int .i64 0, .int .i64 0] .exact]
 (wr H26 p18.2.length 0 [.int .i64 r25.2.1.1, .int .u64 r25.2.1.2.1, .int .i64 r25.2.1.2.2.1, .int .i64 r25.2.1.2.2.2.1, .int .i64 r25.2.1.2.2.2.2.1]).bind fun (H27 : Heap) =>
 (Sl.sub 1 (⟨some (H8.length, 0), (List.length (s12 : Bytes)), (List.length (s12 : Bytes))⟩) 0 300 ((List.length (s12 : Bytes)) : Int)).bind fun (t28 : Sl) =>
 (strOf H27 t28).bind fun (s29 : Bytes) =>
 (Sl.sub 1 (⟨some (H8.length, 0), (List.length (s12 : Bytes)), (List.length (s12 : Bytes))⟩) 300 ((List.length (s12 : Bytes)) : Int) ((List.length (s12 : Bytes)) : Int)).bind fun (t30 : Sl) =>
 (strOf H27 t30).bind fun (s31 : Bytes) =>
 (ref06_Look s29 s31).bind fun (r32 : (Int × (Int × Int × Int × Int × Int × Unit) × Bytes × Unit)) =>
 let H33 : Heap := H27 ++ [Blk.cells [.int .i64 0, .int .u64 0, .int .i64 0, .int .i64 0, .int .i64 0] .exact]
 (wr H33 H27.length 0 [.int .i64 r32.2.1.1, .int .u64 r32.2.1.2.1, .int .i64 r32.2.1.2.2.1, .int .i64 r32.2.1.2.2.2.1, .int .i64 r32.2.1.2.2.2.2.1]).bind fun (H34 : Heap) =>
 cond (decide (r25.1 = r32.1)) (
 Option.bind (α := (Int × Int × Int × Int × Int × Unit)) (rd H34 (.agg [.int .i64, .int .u64, .int .i64, .int .i64, .int .i64]) p18.2.length 0) fun (v35 : (Int × Int × Int × Int × Int × Unit)) =>
 Option.bind (α := (Int × Int × Int × Int × Int × Unit)) (rd H34 (.agg [.int .i64, .int .u64, .int .i64, .int .i64, .int .i64]) H27.length 0) fun (v36 : (Int × Int × Int × Int × Int × Unit)) =>
 cond ((decide (v35.1 = v36.1)) && ((decide (v35.2.1 = v36.2.1)) && ((decide (v35.2.2.1 = v36.2.2.1)) && ((decide (v35.2.2.2.1 = v36.2.2.2.1)) && ((decide (v35.2.2.2.2.1 = v36.2.2.2.2.1)) && true))))) (
 cond (decide ((r25.2.2.1 : Bytes) = r32.2.2.1)) (
 cond (!(decide ((s19 : Bytes) = s20))) (
 some (true, ())) (
 cond (decide (r25.1 = 1)) (
 some ((decide ((r25.2.2.1 : Bytes) = r2.1)), ())) (
 some (false, ())))) (
 some (false, ()))) (
 some (false, ()))) (
 some (false, ()))))))
noncomputable def law06_PageBeginning (x0 : (Int × Int × Int × Int × Int × Unit)) (x1 : Bytes) (x2 : Int) : Option (Bool × Unit) := law06_PageBeginning.on x0 x1 x2 []
noncomputable def law06_PageBeginning.c : Callee := .pure [.agg [.int .i64, .int .u64, .int .i64, .int .i64, .int .i64], .one .str, .one (.int .i64)] [.one .bool] (fun x => law06_PageBeginning x.1 x.2.1 x.2.2.1)
noncomputable def law06_PageBeginning.calls : Nat → Option Callee
  | 0 => some law06_few.c
  | 1 => some page_Frame.c
  | 2 => some law06_awake.c
  | 3 => some page_Look.c
  | 4 => some ref06_Look.c
  | _ => none
theorem law06_PageBeginning.eq : evPure law06_PageBeginning.calls law06_PageBeginning.af = (fun x H => law06_PageBeginning.on x.1 x.2.1 x.2.2.1 H) := by kernel_rfl
end Ev
