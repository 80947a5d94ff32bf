/- What the functions of the package Ref06 compute: abstract code, and a function of plain Lean for each; the kernel checks that they are the same. Written by gen2.py. -/
import Derived.Test.YtnndecgjcgpmbaaEvCore
import Derived.Test.YtnndecgjcgpmbaaGRef01
import Derived.Test.YtnndecgjcgpmbaaGRef04
import Derived.KernelRfl
set_option linter.unusedVariables false
set_option maxRecDepth 100000
namespace Ev
open Go (IntKind BinOp UnOp)

/-! ### tinderbox/tinderboxref06.Check -/
def ref06_Check.af : AFun := ⟨[.agg [.int .i64, .int .u64, .int .i64, .int .i64, .int .i64]], [.one .bool], [.t 2],
 .seq (.reg [.op ⟨0, some 1, .box (.t 0), none⟩,
  .op ⟨1, some 2, .mv (.c (.one (.bool false))), none⟩])
 (.seq (.reg [.op ⟨0, some 3, .addr 0 (.t 1), none⟩,
  .op ⟨1, some 4, .load (.one (.int .i64)) (.t 3), none⟩,
  .op ⟨2, some 5, .bin .geq (.t 4) (.c (.one (.int .i64 1))), none⟩,
  .op ⟨3, some 6, .mv (.t 5), none⟩,
  .op ⟨4, some 7, .addr 0 (.t 1), some (6, true)⟩,
  .op ⟨5, some 8, .load (.one (.int .i64)) (.t 7), some (6, true)⟩,
  .op ⟨6, some 9, .bin .leq (.t 8) (.c (.one (.int .i64 3))), some (6, true)⟩,
  .op ⟨7, some 10, .pick (.t 6) (.t 9) (.c (.one (.bool false))), none⟩,
  .op ⟨8, some 11, .mv (.t 10), none⟩,
  .op ⟨9, some 12, .addr 3 (.t 1), some (11, true)⟩,
  .op ⟨10, some 13, .load (.one (.int .i64)) (.t 12), some (11, true)⟩,
  .op ⟨11, some 14, .bin .geq (.t 13) (.c (.one (.int .i64 1))), some (11, true)⟩,
  .op ⟨12, some 15, .pick (.t 11) (.t 14) (.c (.one (.bool false))), none⟩,
  .op ⟨13, some 16, .mv (.t 15), none⟩,
  .op ⟨14, some 17, .addr 3 (.t 1), some (16, true)⟩,
  .op ⟨15, some 18, .load (.one (.int .i64)) (.t 17), some (16, true)⟩,
  .op ⟨16, some 19, .bin .leq (.t 18) (.c (.one (.int .i64 65535))), some (16, true)⟩,
  .op ⟨17, some 20, .pick (.t 16) (.t 19) (.c (.one (.bool false))), none⟩,
  .op ⟨18, some 21, .mv (.t 20), none⟩,
  .op ⟨19, some 22, .addr 2 (.t 1), some (21, true)⟩,
  .op ⟨20, some 23, .load (.one (.int .i64)) (.t 22), some (21, true)⟩,
  .op ⟨21, some 24, .bin .geq (.t 23) (.c (.one (.int .i64 0))), some (21, true)⟩,
  .op ⟨22, some 25, .pick (.t 21) (.t 24) (.c (.one (.bool false))), none⟩,
  .op ⟨23, some 26, .mv (.t 25), none⟩,
  .op ⟨24, some 27, .addr 2 (.t 1), some (26, true)⟩,
  .op ⟨25, some 28, .load (.one (.int .i64)) (.t 27), some (26, true)⟩,
  .op ⟨26, some 29, .addr 3 (.t 1), some (26, true)⟩,
  .op ⟨27, some 30, .load (.one (.int .i64)) (.t 29), some (26, true)⟩,
  .op ⟨28, some 31, .bin .lss (.t 28) (.t 30), some (26, true)⟩,
  .op ⟨29, some 32, .pick (.t 26) (.t 31) (.c (.one (.bool false))), none⟩,
  .op ⟨30, some 33, .mv (.t 32), none⟩,
  .op ⟨31, some 34, .addr 4 (.t 1), some (33, true)⟩,
  .op ⟨32, some 35, .load (.one (.int .i64)) (.t 34), some (33, true)⟩,
  .op ⟨33, some 36, .bin .geq (.t 35) (.c (.one (.int .i64 0))), some (33, true)⟩,
  .op ⟨34, some 37, .pick (.t 33) (.t 36) (.c (.one (.bool false))), none⟩,
  .op ⟨35, some 38, .mv (.t 37), none⟩,
  .op ⟨36, some 39, .addr 4 (.t 1), some (38, true)⟩,
  .op ⟨37, some 40, .load (.one (.int .i64)) (.t 39), some (38, true)⟩,
  .op ⟨38, some 41, .bin .leq (.t 40) (.c (.one (.int .i64 4294967295))), some (38, true)⟩,
  .op ⟨39, some 42, .pick (.t 38) (.t 41) (.c (.one (.bool false))), none⟩,
  .op ⟨40, some 2, .mv (.t 42), none⟩])
 (.ret))⟩
noncomputable def ref06_Check.on (x0 : (Int × Int × Int × Int × Int × Unit)) (H : Heap) : Option (Bool × Unit) :=
 let H1 : Heap := H ++ [Blk.cells [.int .i64 x0.1, .int .u64 x0.2.1, .int .i64 x0.2.2.1, .int .i64 x0.2.2.2.1, .int .i64 x0.2.2.2.2.1] .exact]
 (rdI .i64 H1 H.length 0).bind fun (v2 : Int) =>
 cond (decide (1 ≤ v2)) (
 (rdI .i64 H1 H.length 0).bind fun (v3 : Int) =>
 cond (decide (v3 ≤ 3)) (
 (rdI .i64 H1 H.length 3).bind fun (v4 : Int) =>
 cond (decide (1 ≤ v4)) (
 (rdI .i64 H1 H.length 3).bind fun (v5 : Int) =>
 cond (decide (v5 ≤ 65535)) (
 (rdI .i64 H1 H.length 2).bind fun (v6 : Int) =>
 cond (decide (0 ≤ v6)) (
 (rdI .i64 H1 H.length 2).bind fun (v7 : Int) =>
 (rdI .i64 H1 H.length 3).bind fun (v8 : Int) =>
 cond (decide (v7 < v8)) (
 (rdI .i64 H1 H.length 4).bind fun (v9 : Int) =>
 cond (decide (0 ≤ v9)) (
 (rdI .i64 H1 H.length 4).bind fun (v10 : Int) =>
 some ((decide (v10 ≤ 4294967295)), ())) (
 some (false, ()))) (
 some (false, ()))) (
 some (false, ()))) (
 some (false, ()))) (
 some (false, ()))) (
 some (false, ()))) (
 some (false, ()))
noncomputable def ref06_Check (x0 : (Int × Int × Int × Int × Int × Unit)) : Option (Bool × Unit) := ref06_Check.on x0 []
noncomputable def ref06_Check.c : Callee := .pure [.agg [.int .i64, .int .u64, .int .i64, .int .i64, .int .i64]] [.one .bool] (fun x => ref06_Check x.1)
noncomputable def ref06_Check.calls : Nat → Option Callee
  | _ => none
theorem ref06_Check.eq : evPure ref06_Check.calls ref06_Check.af = (fun x H => ref06_Check.on x.1 H) := by kernel_rfl

/-! ### tinderbox/tinderboxref06.zeros -/
def ref06_zeros.af : AFun := ⟨[.one (.int .i64)], [.one .str], [.t 2],
 .seq (.reg [.op ⟨0, some 2, .mv (.c (.one (.str []))), none⟩])
 (.seq (.reg [.op ⟨0, some 3, .mv (.t 0), none⟩,
  .op ⟨1, some 4, .mk 1 1 [.int .u8 0] (.t 3) (.t 3), none⟩,
  .op ⟨2, some 5, .b2s (.t 4), none⟩,
  .op ⟨3, some 2, .mv (.t 5), none⟩])
 (.ret))⟩
noncomputable def ref06_zeros.on (x0 : Int) (H : Heap) : Option (Bytes × Unit) :=
 (mkS H 1 [.int .u8 0] x0 x0).bind fun (p1 : (Sl × Heap)) =>
 (strOf p1.2 p1.1).bind fun (s2 : Bytes) =>
 some (s2, ())
noncomputable def ref06_zeros (x0 : Int) : Option (Bytes × Unit) := ref06_zeros.on x0 []
noncomputable def ref06_zeros.c : Callee := .pure [.one (.int .i64)] [.one .str] (fun x => ref06_zeros x.1)
noncomputable def ref06_zeros.calls : Nat → Option Callee
  | _ => none
theorem ref06_zeros.eq : evPure ref06_zeros.calls ref06_zeros.af = (fun x H => ref06_zeros.on x.1 H) := by kernel_rfl

/-! ### tinderbox/tinderboxref06.Frame -/
def ref06_Frame.af : AFun := ⟨[.agg [.int .i64, .int .u64, .int .i64, .int .i64, .int .i64], .one .str, .one (.int .i64)], [.one .str, .one .str], [.t 6, .t 7],
 .seq (.reg [.op ⟨0, some 3, .box (.t 0), none⟩,
  .op ⟨1, some 6, .mv (.c (.one (.str []))), none⟩,
  .op ⟨2, some 7, .mv (.c (.one (.str []))), none⟩])
 (.seq (.reg [.op ⟨0, some 10, .mv (.t 1), none⟩,
  .op ⟨1, some 11, .mv (.t 2), none⟩,
  .op ⟨2, some 12, .mv (.t 1), none⟩,
  .op ⟨3, some 13, .lens (.t 12), none⟩,
  .op ⟨4, some 14, .bin .sub (.t 11) (.t 13), none⟩,
  .op ⟨5, some 15, .call 0 [(.t 14)], none⟩,
  .op ⟨6, some 16, .bin .add (.t 10) (.t 15), none⟩,
  .op ⟨7, some 8, .mv (.t 16), none⟩])
 (.seq (.reg [.op ⟨0, some 17, .addr 0 (.t 3), none⟩,
  .op ⟨1, some 18, .load (.one (.int .i64)) (.t 17), none⟩,
  .op ⟨2, some 19, .conv .u64 (.t 18), none⟩,
  .op ⟨3, some 20, .call 1 [(.t 19), (.c (.one (.int .i64 1)))], none⟩,
  .op ⟨4, some 21, .addr 1 (.t 3), none⟩,
  .op ⟨5, some 22, .load (.one (.int .u64)) (.t 21), none⟩,
  .op ⟨6, some 23, .call 1 [(.t 22), (.c (.one (.int .i64 8)))], none⟩,
  .op ⟨7, some 24, .bin .add (.t 20) (.t 23), none⟩,
  .op ⟨8, some 25, .addr 2 (.t 3), none⟩,
  .op ⟨9, some 26, .load (.one (.int .i64)) (.t 25), none⟩,
  .op ⟨10, some 27, .conv .u64 (.t 26), none⟩,
  .op ⟨11, some 28, .call 1 [(.t 27), (.c (.one (.int .i64 2)))], none⟩,
  .op ⟨12, some 29, .bin .add (.t 24) (.t 28), none⟩,
  .op ⟨13, some 30, .addr 3 (.t 3), none⟩,
  .op ⟨14, some 31, .load (.one (.int .i64)) (.t 30), none⟩,
  .op ⟨15, some 32, .conv .u64 (.t 31), none⟩,
  .op ⟨16, some 33, .call 1 [(.t 32), (.c (.one (.int .i64 2)))], none⟩,
  .op ⟨17, some 34, .bin .add (.t 29) (.t 33), none⟩,
  .op ⟨18, some 35, .addr 4 (.t 3), none⟩,
  .op ⟨19, some 36, .load (.one (.int .i64)) (.t 35), none⟩,
  .op ⟨20, some 37, .conv .u64 (.t 36), none⟩,
  .op ⟨21, some 38, .call 1 [(.t 37), (.c (.one (.int .i64 4)))], none⟩,
  .op ⟨22, some 39, .bin .add (.t 34) (.t 38), none⟩,
  .op ⟨23, some 40, .mv (.t 1), none⟩,
  .op ⟨24, some 41, .lens (.t 40), none⟩,
  .op ⟨25, some 42, .conv .u64 (.t 41), none⟩,
  .op ⟨26, some 43, .call 1 [(.t 42), (.c (.one (.int .i64 2)))], none⟩,
  .op ⟨27, some 44, .bin .add (.t 39) (.t 43), none⟩,
  .op ⟨28, some 45, .call 0 [(.c (.one (.int .i64 9)))], none⟩,
  .op ⟨29, some 46, .bin .add (.t 44) (.t 45), none⟩,
  .op ⟨30, some 9, .mv (.t 46), none⟩])
 (.seq (.reg [.op ⟨0, some 47, .mv (.t 8), none⟩,
  .op ⟨1, some 48, .mv (.t 9), none⟩,
  .op ⟨2, some 49, .mv (.t 8), none⟩,
  .op ⟨3, some 50, .mv (.t 9), none⟩,
  .op ⟨4, some 51, .bin .add (.t 49) (.t 50), none⟩,
  .op ⟨5, some 52, .call 2 [(.t 51)], none⟩,
  .op ⟨6, some 53, .conv .u64 (.t 52), none⟩,
  .op ⟨7, some 54, .call 1 [(.t 53), (.c (.one (.int .i64 4)))], none⟩,
  .op ⟨8, some 55, .bin .add (.t 48) (.t 54), none⟩,
  .op ⟨9, some 6, .mv (.t 47), none⟩,
  .op ⟨10, some 7, .mv (.t 55), none⟩])
 (.ret))))⟩
noncomputable def ref06_Frame.on (x0 : (Int × Int × Int × Int × Int × Unit)) (x1 : Bytes) (x2 : Int) (H : Heap) : Option (Bytes × Bytes × Unit) :=
 let H1 : Heap := H ++ [Blk.cells [.int .i64 x0.1, .int .u64 x0.2.1, .int .i64 x0.2.2.1, .int .i64 x0.2.2.2.1, .int .i64 x0.2.2.2.2.1] .exact]
 (ref06_zeros (IntKind.wrap .i64 (x2 - (List.length (x1 : Bytes) : Int)))).bind fun (r2 : (Bytes × Unit)) =>
 (catS x1 r2.1).bind fun (s3 : Bytes) =>
 (rdI .i64 H1 H.length 0).bind fun (v4 : Int) =>
 (ref04_Fixed (IntKind.wrap .u64 v4) 1).bind fun (r5 : (Bytes × Unit)) =>
 (rdI .u64 H1 H.length 1).bind fun (v6 : Int) =>
 (ref04_Fixed v6 8).bind fun (r7 : (Bytes × Unit)) =>
 (catS r5.1 r7.1).bind fun (s8 : Bytes) =>
 (rdI .i64 H1 H.length 2).bind fun (v9 : Int) =>
 (ref04_Fixed (IntKind.wrap .u64 v9) 2).bind fun (r10 : (Bytes × Unit)) =>
 (catS s8 r10.1).bind fun (s11 : Bytes) =>
 (rdI .i64 H1 H.length 3).bind fun (v12 : Int) =>
 (ref04_Fixed (IntKind.wrap .u64 v12) 2).bind fun (r13 : (Bytes × Unit)) =>
 (catS s11 r13.1).bind fun (s14 : Bytes) =>
 (rdI .i64 H1 H.length 4).bind fun (v15 : Int) =>
 (ref04_Fixed (IntKind.wrap .u64 v15) 4).bind fun (r16 : (Bytes × Unit)) =>
 (catS s14 r16.1).bind fun (s17 : Bytes) =>
 (ref04_Fixed (IntKind.wrap .u64 (List.length (x1 : Bytes) : Int)) 2).bind fun (r18 : (Bytes × Unit)) =>
 (catS s17 r18.1).bind fun (s19 : Bytes) =>
 (ref06_zeros 9).bind fun (r20 : (Bytes × Unit)) =>
 (catS s19 r20.1).bind fun (s21 : Bytes) =>
 (catS s3 s21).bind fun (s22 : Bytes) =>
 (ref01_Sum s22).bind fun (r23 : (Int × Unit)) =>
 (ref04_Fixed (IntKind.wrap .u64 r23.1) 4).bind fun (r24 : (Bytes × Unit)) =>
 (catS s21 r24.1).bind fun (s25 : Bytes) =>
 some (s3, s25, ())
noncomputable def ref06_Frame (x0 : (Int × Int × Int × Int × Int × Unit)) (x1 : Bytes) (x2 : Int) : Option (Bytes × Bytes × Unit) := ref06_Frame.on x0 x1 x2 []
noncomputable def ref06_Frame.c : Callee := .pure [.agg [.int .i64, .int .u64, .int .i64, .int .i64, .int .i64], .one .str, .one (.int .i64)] [.one .str, .one .str] (fun x => ref06_Frame x.1 x.2.1 x.2.2.1)
noncomputable def ref06_Frame.calls : Nat → Option Callee
  | 0 => some ref06_zeros.c
  | 1 => some ref04_Fixed.c
  | 2 => some ref01_Sum.c
  | _ => none
theorem ref06_Frame.eq : evPure ref06_Frame.calls ref06_Frame.af = (fun x H => ref06_Frame.on x.1 x.2.1 x.2.2.1 H) := by kernel_rfl

/-! ### tinderbox/tinderboxref06.Look -/
def ref06_Look.af : AFun := ⟨[.one .str, .one .str], [.one (.int .i64), .agg [.int .i64, .int .u64, .int .i64, .int .i64, .int .i64], .one .str], [.t 4, .cell 5, .t 6],
 .seq (.reg [.op ⟨0, some 4, .mv (.c (.one (.int .i64 0))), none⟩,
  .op ⟨1, some 5, .new [.int .i64 0, .int .u64 0, .int .i64 0, .int .i64 0, .int .i64 0], none⟩,
  .op ⟨2, some 6, .mv (.c (.one (.str []))), none⟩])
 (.seq (.reg [.op ⟨0, some 7, .mv (.c (.one (.bool true))), none⟩])
 (.seq (.reg [.op ⟨0, some 20, .mv (.t 0), none⟩,
  .op ⟨1, some 21, .mv (.t 1), none⟩,
  .op ⟨2, some 22, .bin .add (.t 20) (.t 21), none⟩,
  .op ⟨3, some 8, .mv (.t 22), none⟩])
 (.seq (.seq (.reg [.op ⟨0, some 9, .mv (.c (.one (.int .i64 0))), none⟩])
 (.block 0 (.loop [(7, .one .bool), (9, .one (.int .i64))] [(.exit 0, [(7, .one .bool)])] (.seq (.seq (.reg [.op ⟨0, some 23, .mv (.t 9), none⟩,
  .op ⟨1, some 24, .mv (.t 8), none⟩,
  .op ⟨2, some 25, .lens (.t 24), none⟩,
  .op ⟨3, some 26, .bin .lss (.t 23) (.t 25), none⟩])
 (.cond (.t 26) (.skip) (.exit 0)))
 (.seq (.block 1 (.reg [.op ⟨0, some 29, .mv (.t 7), none⟩,
  .op ⟨1, some 30, .mv (.t 29), none⟩,
  .op ⟨2, some 31, .mv (.t 8), some (30, true)⟩,
  .op ⟨3, some 32, .mv (.t 9), some (30, true)⟩,
  .op ⟨4, some 33, .index (.t 31) (.t 32), some (30, true)⟩,
  .op ⟨5, some 34, .bin .eql (.t 33) (.c (.one (.int .u8 255))), some (30, true)⟩,
  .op ⟨6, some 35, .pick (.t 30) (.t 34) (.c (.one (.bool false))), none⟩,
  .op ⟨7, some 7, .mv (.t 35), none⟩]))
 (.reg [.op ⟨0, some 27, .mv (.t 9), none⟩,
  .op ⟨1, some 28, .bin .add (.t 27) (.c (.one (.int .i64 1))), none⟩,
  .op ⟨2, some 9, .mv (.t 28), none⟩]))))))
 (.seq (.seq (.reg [.op ⟨0, some 36, .mv (.t 7), none⟩])
 (.cond (.t 36) (.seq (.reg [.op ⟨0, some 37, .build [.int .i64 0, .int .u64 0, .int .i64 0, .int .i64 0, .int .i64 0] [], none⟩,
  .op ⟨1, some 4, .mv (.c (.one (.int .i64 0))), none⟩,
  .op ⟨2, none, .store 5 (.t 5) (.t 37), none⟩,
  .op ⟨3, some 6, .mv (.c (.one (.str []))), none⟩])
 (.ret)) (.skip)))
 (.seq (.seq (.reg [.op ⟨0, some 38, .mv (.t 1), none⟩,
  .op ⟨1, some 39, .lens (.t 38), none⟩,
  .op ⟨2, some 40, .bin .neq (.t 39) (.c (.one (.int .i64 32))), none⟩])
 (.cond (.t 40) (.seq (.reg [.op ⟨0, some 41, .build [.int .i64 0, .int .u64 0, .int .i64 0, .int .i64 0, .int .i64 0] [], none⟩,
  .op ⟨1, some 4, .mv (.c (.one (.int .i64 2))), none⟩,
  .op ⟨2, none, .store 5 (.t 5) (.t 41), none⟩,
  .op ⟨3, some 6, .mv (.c (.one (.str []))), none⟩])
 (.ret)) (.skip)))
 (.seq (.reg [.op ⟨0, some 42, .mv (.t 1), none⟩,
  .op ⟨1, some 43, .build [.str [], .int .i64 0] [(0, 1, (.t 42))], none⟩,
  .op ⟨2, some 10, .new [.str [], .int .i64 0], none⟩,
  .op ⟨3, none, .store 2 (.t 10) (.t 43), none⟩])
 (.seq (.reg [.op ⟨0, some 44, .build [.int .i64 0, .int .u64 0, .int .i64 0, .int .i64 0, .int .i64 0] [], none⟩,
  .op ⟨1, some 11, .new [.int .i64 0, .int .u64 0, .int .i64 0, .int .i64 0, .int .i64 0], none⟩,
  .op ⟨2, none, .store 5 (.t 11) (.t 44), none⟩])
 (.seq (.reg [.op ⟨0, some 46, .load (.agg [.str, .int .i64]) (.t 10), none⟩,
  .op ⟨1, some 47, .call 0 [(.t 46), (.c (.one (.int .i64 1)))], none⟩,
  .op ⟨2, some 45, .mv (.t 47), none⟩,
  .op ⟨3, some 48, .ext (.t 45) 0, none⟩,
  .op ⟨4, some 49, .ext (.t 45) 1, none⟩,
  .op ⟨5, none, .store 2 (.t 10) (.t 48), none⟩,
  .op ⟨6, some 12, .mv (.t 49), none⟩])
 (.seq (.reg [.op ⟨0, some 51, .load (.agg [.str, .int .i64]) (.t 10), none⟩,
  .op ⟨1, some 52, .call 0 [(.t 51), (.c (.one (.int .i64 8)))], none⟩,
  .op ⟨2, some 50, .mv (.t 52), none⟩,
  .op ⟨3, some 53, .ext (.t 50) 0, none⟩,
  .op ⟨4, some 54, .ext (.t 50) 1, none⟩,
  .op ⟨5, none, .store 2 (.t 10) (.t 53), none⟩,
  .op ⟨6, some 55, .addr 1 (.t 11), none⟩,
  .op ⟨7, none, .store 1 (.t 55) (.t 54), none⟩])
 (.seq (.reg [.op ⟨0, some 57, .load (.agg [.str, .int .i64]) (.t 10), none⟩,
  .op ⟨1, some 58, .call 0 [(.t 57), (.c (.one (.int .i64 2)))], none⟩,
  .op ⟨2, some 56, .mv (.t 58), none⟩,
  .op ⟨3, some 59, .ext (.t 56) 0, none⟩,
  .op ⟨4, some 60, .ext (.t 56) 1, none⟩,
  .op ⟨5, none, .store 2 (.t 10) (.t 59), none⟩,
  .op ⟨6, some 13, .mv (.t 60), none⟩])
 (.seq (.reg [.op ⟨0, some 62, .load (.agg [.str, .int .i64]) (.t 10), none⟩,
  .op ⟨1, some 63, .call 0 [(.t 62), (.c (.one (.int .i64 2)))], none⟩,
  .op ⟨2, some 61, .mv (.t 63), none⟩,
  .op ⟨3, some 64, .ext (.t 61) 0, none⟩,
  .op ⟨4, some 65, .ext (.t 61) 1, none⟩,
  .op ⟨5, none, .store 2 (.t 10) (.t 64), none⟩,
  .op ⟨6, some 14, .mv (.t 65), none⟩])
 (.seq (.reg [.op ⟨0, some 67, .load (.agg [.str, .int .i64]) (.t 10), none⟩,
  .op ⟨1, some 68, .call 0 [(.t 67), (.c (.one (.int .i64 4)))], none⟩,
  .op ⟨2, some 66, .mv (.t 68), none⟩,
  .op ⟨3, some 69, .ext (.t 66) 0, none⟩,
  .op ⟨4, some 70, .ext (.t 66) 1, none⟩,
  .op ⟨5, none, .store 2 (.t 10) (.t 69), none⟩,
  .op ⟨6, some 15, .mv (.t 70), none⟩])
 (.seq (.reg [.op ⟨0, some 72, .load (.agg [.str, .int .i64]) (.t 10), none⟩,
  .op ⟨1, some 73, .call 0 [(.t 72), (.c (.one (.int .i64 2)))], none⟩,
  .op ⟨2, some 71, .mv (.t 73), none⟩,
  .op ⟨3, some 74, .ext (.t 71) 0, none⟩,
  .op ⟨4, some 75, .ext (.t 71) 1, none⟩,
  .op ⟨5, some 16, .new [.str [], .int .i64 0], none⟩,
  .op ⟨6, none, .store 2 (.t 16) (.t 74), none⟩,
  .op ⟨7, some 17, .mv (.t 75), none⟩])
 (.seq (.reg [.op ⟨0, some 76, .mv (.t 12), none⟩,
  .op ⟨1, some 77, .conv .i64 (.t 76), none⟩,
  .op ⟨2, some 78, .mv (.t 13), none⟩,
  .op ⟨3, some 79, .conv .i64 (.t 78), none⟩,
  .op ⟨4, some 80, .mv (.t 14), none⟩,
  .op ⟨5, some 81, .conv .i64 (.t 80), none⟩,
  .op ⟨6, some 82, .mv (.t 15), none⟩,
  .op ⟨7, some 83, .conv .i64 (.t 82), none⟩,
  .op ⟨8, some 84, .addr 0 (.t 11), none⟩,
  .op ⟨9, none, .store 1 (.t 84) (.t 77), none⟩,
  .op ⟨10, some 85, .addr 2 (.t 11), none⟩,
  .op ⟨11, none, .store 1 (.t 85) (.t 79), none⟩,
  .op ⟨12, some 86, .addr 3 (.t 11), none⟩,
  .op ⟨13, none, .store 1 (.t 86) (.t 81), none⟩,
  .op ⟨14, some 87, .addr 4 (.t 11), none⟩,
  .op ⟨15, none, .store 1 (.t 87) (.t 83), none⟩])
 (.seq (.seq (.reg [.op ⟨0, some 88, .mv (.t 17), none⟩,
  .op ⟨1, some 89, .conv .i64 (.t 88), none⟩,
  .op ⟨2, some 90, .mv (.t 0), none⟩,
  .op ⟨3, some 91, .lens (.t 90), none⟩,
  .op ⟨4, some 92, .bin .gtr (.t 89) (.t 91), none⟩,
  .op ⟨5, some 93, .mv (.t 92), none⟩,
  .op ⟨6, some 94, .load (.agg [.int .i64, .int .u64, .int .i64, .int .i64, .int .i64]) (.t 11), some (93, false)⟩,
  .op ⟨7, some 95, .call 1 [(.t 94)], some (93, false)⟩,
  .op ⟨8, some 96, .un .not (.t 95), some (93, false)⟩,
  .op ⟨9, some 97, .pick (.t 93) (.c (.one (.bool true))) (.t 96), none⟩,
  .op ⟨10, some 98, .mv (.t 97), none⟩,
  .op ⟨11, some 99, .mv (.t 0), some (98, false)⟩,
  .op ⟨12, some 100, .lens (.t 99), some (98, false)⟩,
  .op ⟨13, some 101, .bin .gtr (.t 100) (.c (.one (.int .i64 65535))), some (98, false)⟩,
  .op ⟨14, some 102, .pick (.t 98) (.c (.one (.bool true))) (.t 101), none⟩])
 (.cond (.t 102) (.seq (.reg [.op ⟨0, some 103, .build [.int .i64 0, .int .u64 0, .int .i64 0, .int .i64 0, .int .i64 0] [], none⟩,
  .op ⟨1, some 4, .mv (.c (.one (.int .i64 2))), none⟩,
  .op ⟨2, none, .store 5 (.t 5) (.t 103), none⟩,
  .op ⟨3, some 6, .mv (.c (.one (.str []))), none⟩])
 (.ret)) (.skip)))
 (.seq (.reg [.op ⟨0, some 105, .load (.agg [.int .i64, .int .u64, .int .i64, .int .i64, .int .i64]) (.t 11), none⟩,
  .op ⟨1, some 106, .mv (.t 0), none⟩,
  .op ⟨2, some 107, .mv (.t 17), none⟩,
  .op ⟨3, some 108, .slstr (.t 106) none (some (.t 107)), none⟩,
  .op ⟨4, some 109, .mv (.t 0), none⟩,
  .op ⟨5, some 110, .lens (.t 109), none⟩,
  .op ⟨6, some 111, .call 2 [(.t 105), (.t 108), (.t 110)], none⟩,
  .op ⟨7, some 104, .mv (.t 111), none⟩,
  .op ⟨8, some 112, .ext (.t 104) 0, none⟩,
  .op ⟨9, some 113, .ext (.t 104) 1, none⟩,
  .op ⟨10, some 18, .mv (.t 112), none⟩,
  .op ⟨11, some 19, .mv (.t 113), none⟩])
 (.seq (.seq (.reg [.op ⟨0, some 114, .mv (.t 18), none⟩,
  .op ⟨1, some 115, .mv (.t 0), none⟩,
  .op ⟨2, some 116, .bin .neq (.t 114) (.t 115), none⟩,
  .op ⟨3, some 117, .mv (.t 116), none⟩,
  .op ⟨4, some 118, .mv (.t 19), some (117, false)⟩,
  .op ⟨5, some 119, .mv (.t 1), some (117, false)⟩,
  .op ⟨6, some 120, .bin .neq (.t 118) (.t 119), some (117, false)⟩,
  .op ⟨7, some 121, .pick (.t 117) (.c (.one (.bool true))) (.t 120), none⟩])
 (.cond (.t 121) (.seq (.reg [.op ⟨0, some 122, .build [.int .i64 0, .int .u64 0, .int .i64 0, .int .i64 0, .int .i64 0] [], none⟩,
  .op ⟨1, some 4, .mv (.c (.one (.int .i64 2))), none⟩,
  .op ⟨2, none, .store 5 (.t 5) (.t 122), none⟩,
  .op ⟨3, some 6, .mv (.c (.one (.str []))), none⟩])
 (.ret)) (.skip)))
 (.seq (.reg [.op ⟨0, some 123, .load (.agg [.int .i64, .int .u64, .int .i64, .int .i64, .int .i64]) (.t 11), none⟩,
  .op ⟨1, some 124, .mv (.t 0), none⟩,
  .op ⟨2, some 125, .mv (.t 17), none⟩,
  .op ⟨3, some 126, .slstr (.t 124) none (some (.t 125)), none⟩,
  .op ⟨4, some 4, .mv (.c (.one (.int .i64 1))), none⟩,
  .op ⟨5, none, .store 5 (.t 5) (.t 123), none⟩,
  .op ⟨6, some 6, .mv (.t 126), none⟩])
 (.ret)))))))))))))))))))⟩
noncomputable def ref06_Look.s1 (s2 : Bytes) (s3 : (Bool × Int × Unit)) (H4 : Heap) : Option (((Bool × Int × Unit) ⊕ (Bool × Unit)) × Heap) :=
 cond (decide (s3.2.1 < (List.length (s2 : Bytes) : Int))) (
 cond s3.1 (
 (idxS s2 s3.2.1).bind fun (n5 : Int) =>
 some (Sum.inl ((decide (n5 = 255)), (IntKind.wrap .i64 (s3.2.1 + 1)), ()), H4)) (
 some (Sum.inl (false, (IntKind.wrap .i64 (s3.2.1 + 1)), ()), H4))) (
 some (Sum.inr (s3.1, ()), H4))
noncomputable def ref06_Look.on (x0 : Bytes) (x1 : Bytes) (H : Heap) : Option (Int × (Int × Int × Int × Int × Int × Unit) × Bytes × Unit) :=
 let H1 : Heap := H ++ [Blk.cells [.int .i64 0, .int .u64 0, .int .i64 0, .int .i64 0, .int .i64 0] .exact]
 (catS x0 x1).bind fun (s2 : Bytes) =>
 (loopW (ref06_Look.s1 s2) (true, 0, ()) H1).bind fun (p6 : (Bool × Unit) × Heap) =>
 cond p6.1.1 (
 (wr p6.2 H.length 0 [.int .i64 0, .int .u64 0, .int .i64 0, .int .i64 0, .int .i64 0]).bind fun (H7 : Heap) =>
 Option.bind (α := (Int × Int × Int × Int × Int × Unit)) (rd H7 (.agg [.int .i64, .int .u64, .int .i64, .int .i64, .int .i64]) H.length 0) fun (v8 : (Int × Int × Int × Int × Int × Unit)) =>
 some (0, v8, [], ())) (
 cond (!decide ((List.length (x1 : Bytes) : Int) = 32)) (
 (wr p6.2 H.length 0 [.int .i64 0, .int .u64 0, .int .i64 0, .int .i64 0, .int .i64 0]).bind fun (H9 : Heap) =>
 Option.bind (α := (Int × Int × Int × Int × Int × Unit)) (rd H9 (.agg [.int .i64, .int .u64, .int .i64, .int .i64, .int .i64]) H.length 0) fun (v10 : (Int × Int × Int × Int × Int × Unit)) =>
 some (2, v10, [], ())) (
 let H11 : Heap := p6.2 ++ [Blk.cells [.str [], .int .i64 0] .exact]
 (wr H11 p6.2.length 0 [.str x1, .int .i64 0]).bind fun (H12 : Heap) =>
 let H13 : Heap := H12 ++ [Blk.cells [.int .i64 0, .int .u64 0, .int .i64 0, .int .i64 0, .int .i64 0] .exact]
 (wr H13 H12.length 0 [.int .i64 0, .int .u64 0, .int .i64 0, .int .i64 0, .int .i64 0]).bind fun (H14 : Heap) =>
 Option.bind (α := (Bytes × Int × Unit)) (rd H14 (.agg [.str, .int .i64]) p6.2.length 0) fun (v15 : (Bytes × Int × Unit)) =>
 (ref04_At_Fixed (v15.1, v15.2.1, ()) 1).bind fun (r16 : ((Bytes × Int × Unit) × Int × Unit)) =>
 (wr H14 p6.2.length 0 [.str r16.1.1, .int .i64 r16.1.2.1]).bind fun (H17 : Heap) =>
 Option.bind (α := (Bytes × Int × Unit)) (rd H17 (.agg [.str, .int .i64]) p6.2.length 0) fun (v18 : (Bytes × Int × Unit)) =>
 (ref04_At_Fixed (v18.1, v18.2.1, ()) 8).bind fun (r19 : ((Bytes × Int × Unit) × Int × Unit)) =>
 (wr H17 p6.2.length 0 [.str r19.1.1, .int .i64 r19.1.2.1]).bind fun (H20 : Heap) =>
 (wr H20 H12.length 1 [.int .u64 r19.2.1]).bind fun (H21 : Heap) =>
 Option.bind (α := (Bytes × Int × Unit)) (rd H21 (.agg [.str, .int .i64]) p6.2.length 0) fun (v22 : (Bytes × Int × Unit)) =>
 (ref04_At_Fixed (v22.1, v22.2.1, ()) 2).bind fun (r23 : ((Bytes × Int × Unit) × Int × Unit)) =>
 (wr H21 p6.2.length 0 [.str r23.1.1, .int .i64 r23.1.2.1]).bind fun (H24 : Heap) =>
 Option.bind (α := (Bytes × Int × Unit)) (rd H24 (.agg [.str, .int .i64]) p6.2.length 0) fun (v25 : (Bytes × Int × Unit)) =>
 (ref04_At_Fixed (v25.1, v25.2.1, ()) 2).bind fun (r26 : ((Bytes × Int × Unit) × Int × Unit)) =>
 (wr H24 p6.2.length 0 [.str r26.1.1, .int .i64 r26.1.2.1]).bind fun (H27 : Heap) =>
 Option.bind (α := (Bytes × Int × Unit)) (rd H27 (.agg [.str, .int .i64]) p6.2.length 0) fun (v28 : (Bytes × Int × Unit)) =>
 (ref04_At_Fixed (v28.1, v28.2.1, ()) 4).bind fun (r29 : ((Bytes × Int × Unit) × Int × Unit)) =>
 (wr H27 p6.2.length 0 [.str r29.1.1, .int .i64 r29.1.2.1]).bind fun (H30 : Heap) =>
 Option.bind (α := (Bytes × Int × Unit)) (rd H30 (.agg [.str, .int .i64]) p6.2.length 0) fun (v31 : (Bytes × Int × Unit)) =>
 (ref04_At_Fixed (v31.1, v31.2.1, ()) 2).bind fun (r32 : ((Bytes × Int × Unit) × Int × Unit)) =>
 let H33 : Heap := H30 ++ [Blk.cells [.str [], .int .i64 0] .exact]
 (wr H33 H30.length 0 [.str r32.1.1, .int .i64 r32.1.2.1]).bind fun (H34 : Heap) =>
 (wr H34 H12.length 0 [.int .i64 (IntKind.wrap .i64 r16.2.1)]).bind fun (H35 : Heap) =>
 (wr H35 H12.length 2 [.int .i64 (IntKind.wrap .i64 r23.2.1)]).bind fun (H36 : Heap) =>
 (wr H36 H12.length 3 [.int .i64 (IntKind.wrap .i64 r26.2.1)]).bind fun (H37 : Heap) =>
 (wr H37 H12.length 4 [.int .i64 (IntKind.wrap .i64 r29.2.1)]).bind fun (H38 : Heap) =>
 cond (decide ((List.length (x0 : Bytes) : Int) < (IntKind.wrap .i64 r32.2.1))) (
 (wr H38 H.length 0 [.int .i64 0, .int .u64 0, .int .i64 0, .int .i64 0, .int .i64 0]).bind fun (H39 : Heap) =>
 Option.bind (α := (Int × Int × Int × Int × Int × Unit)) (rd H39 (.agg [.int .i64, .int .u64, .int .i64, .int .i64, .int .i64]) H.length 0) fun (v40 : (Int × Int × Int × Int × Int × Unit)) =>
 some (2, v40, [], ())) (
 Option.bind (α := (Int × Int × Int × Int × Int × Unit)) (rd H38 (.agg [.int .i64, .int .u64, .int .i64, .int .i64, .int .i64]) H12.length 0) fun (v41 : (Int × Int × Int × Int × Int × Unit)) =>
 (ref06_Check (v41.1, v41.2.1, v41.2.2.1, v41.2.2.2.1, v41.2.2.2.2.1, ())).bind fun (r42 : (Bool × Unit)) =>
 cond (!r42.1) (
 (wr H38 H.length 0 [.int .i64 0, .int .u64 0, .int .i64 0, .int .i64 0, .int .i64 0]).bind fun (H43 : Heap) =>
 Option.bind (α := (Int × Int × Int × Int × Int × Unit)) (rd H43 (.agg [.int .i64, .int .u64, .int .i64, .int .i64, .int .i64]) H.length 0) fun (v44 : (Int × Int × Int × Int × Int × Unit)) =>
 some (2, v44, [], ())) (
 cond (decide (65535 < (List.length (x0 : Bytes) : Int))) (
 (wr H38 H.length 0 [.int .i64 0, .int .u64 0, .int .i64 0, .int .i64 0, .int .i64 0]).bind fun (H45 : Heap) =>
 Option.bind (α := (Int × Int × Int × Int × Int × Unit)) (rd H45 (.agg [.int .i64, .int .u64, .int .i64, .int .i64, .int .i64]) H.length 0) fun (v46 : (Int × Int × Int × Int × Int × Unit)) =>
 some (2, v46, [], ())) (
 Option.bind (α := (Int × Int × Int × Int × Int × Unit)) (rd H38 (.agg [.int .i64, .int .u64, .int .i64, .int .i64, .int .i64]) H12.length 0) fun (v47 : (Int × Int × Int × Int × Int × Unit)) =>
 (subS x0 0 r32.2.1).bind fun (s48 : Bytes) =>
 (ref06_Frame (v47.1, v47.2.1, v47.2.2.1, v47.2.2.2.1, v47.2.2.2.2.1, ()) s48 (List.length (x0 : Bytes) : Int)).bind fun (r49 : (Bytes × Bytes × Unit)) =>
 cond (!decide ((r49.1 : Bytes) = x0)) (
 (wr H38 H.length 0 [.int .i64 0, .int .u64 0, .int .i64 0, .int .i64 0, .int .i64 0]).bind fun (H50 : Heap) =>
 Option.bind (α := (Int × Int × Int × Int × Int × Unit)) (rd H50 (.agg [.int .i64, .int .u64, .int .i64, .int .i64, .int .i64]) H.length 0) fun (v51 : (Int × Int × Int × Int × Int × Unit)) =>
 some (2, v51, [], ())) (
 cond (!decide ((r49.2.1 : Bytes) = x1)) (
 (wr H38 H.length 0 [.int .i64 0, .int .u64 0, .int .i64 0, .int .i64 0, .int .i64 0]).bind fun (H52 : Heap) =>
 Option.bind (α := (Int × Int × Int × Int × Int × Unit)) (rd H52 (.agg [.int .i64, .int .u64, .int .i64, .int .i64, .int .i64]) H.length 0) fun (v53 : (Int × Int × Int × Int × Int × Unit)) =>
 some (2, v53, [], ())) (
 Option.bind (α := (Int × Int × Int × Int × Int × Unit)) (rd H38 (.agg [.int .i64, .int .u64, .int .i64, .int .i64, .int .i64]) H12.length 0) fun (v54 : (Int × Int × Int × Int × Int × Unit)) =>
 (subS x0 0 r32.2.1).bind fun (s55 : Bytes) =>
 (wr H38 H.length 0 [.int .i64 v54.1, .int .u64 v54.2.1, .int .i64 v54.2.2.1, .int .i64 v54.2.2.2.1, .int .i64 v54.2.2.2.2.1]).bind fun (H56 : Heap) =>
 Option.bind (α := (Int × Int × Int × Int × Int × Unit)) (rd H56 (.agg [.int .i64, .int .u64, .int .i64, .int .i64, .int .i64]) H.length 0) fun (v57 : (Int × Int × Int × Int × Int × Unit)) =>
 some (1, v57, s55, ()))))))))
noncomputable def ref06_Look (x0 : Bytes) (x1 : Bytes) : Option (Int × (Int × Int × Int × Int × Int × Unit) × Bytes × Unit) := ref06_Look.on x0 x1 []
noncomputable def ref06_Look.c : Callee := .pure [.one .str, .one .str] [.one (.int .i64), .agg [.int .i64, .int .u64, .int .i64, .int .i64, .int .i64], .one .str] (fun x => ref06_Look x.1 x.2.1)
noncomputable def ref06_Look.calls : Nat → Option Callee
  | 0 => some ref04_At_Fixed.c
  | 1 => some ref06_Check.c
  | 2 => some ref06_Frame.c
  | _ => none
theorem ref06_Look.eq : evPure ref06_Look.calls ref06_Look.af = (fun x H => ref06_Look.on x.1 x.2.1 H) := by kernel_rfl
end Ev
