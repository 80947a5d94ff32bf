/- What the functions of the package Page compute: abstract code, and a function of plain Lean for each; the kernel checks that they are the same. Written by gen2.py. -/
import Derived.Test.YtloijdlakkmjgaaEvCore
import Derived.Test.YtloijdlakkmjgaaGCode
import Derived.Test.YtloijdlakkmjgaaGCrc
import Derived.KernelRfl
set_option linter.unusedVariables false
set_option maxRecDepth 100000
namespace Ev
open Go (IntKind BinOp UnOp)

/-! ### tinderbox/page.Check -/
def page_Check.af : AFun := ⟨[.agg [.int .i64, .int .u64, .int .i64, .int .i64, .int .i64]], [.one .bool], [.t 2],
 .seq (.reg [.op ⟨0, some 1, .box (.t 0), none⟩,
  .op ⟨1, some 2, .mv (.c (.one (.bool false))), none⟩])
 (.seq (.reg [.op ⟨0, some 3, .addr 0 (.t 1), none⟩,
  .op ⟨1, some 4, .load (.one (.int .i64)) (.t 3), none⟩,
  .op ⟨2, some 5, .bin .geq (.t 4) (.c (.one (.int .i64 1))), none⟩,
  .op ⟨3, some 6, .mv (.t 5), none⟩,
  .op ⟨4, some 7, .addr 0 (.t 1), some (6, true)⟩,
  .op ⟨5, some 8, .load (.one (.int .i64)) (.t 7), some (6, true)⟩,
  .op ⟨6, some 9, .bin .leq (.t 8) (.c (.one (.int .i64 3))), some (6, true)⟩,
  .op ⟨7, some 10, .pick (.t 6) (.t 9) (.c (.one (.bool false))), none⟩,
  .op ⟨8, some 11, .mv (.t 10), none⟩,
  .op ⟨9, some 12, .addr 3 (.t 1), some (11, true)⟩,
  .op ⟨10, some 13, .load (.one (.int .i64)) (.t 12), some (11, true)⟩,
  .op ⟨11, some 14, .bin .geq (.t 13) (.c (.one (.int .i64 1))), some (11, true)⟩,
  .op ⟨12, some 15, .pick (.t 11) (.t 14) (.c (.one (.bool false))), none⟩,
  .op ⟨13, some 16, .mv (.t 15), none⟩,
  .op ⟨14, some 17, .addr 3 (.t 1), some (16, true)⟩,
  .op ⟨15, some 18, .load (.one (.int .i64)) (.t 17), some (16, true)⟩,
  .op ⟨16, some 19, .bin .lss (.t 18) (.c (.one (.int .i64 65536))), some (16, true)⟩,
  .op ⟨17, some 20, .pick (.t 16) (.t 19) (.c (.one (.bool false))), none⟩,
  .op ⟨18, some 21, .mv (.t 20), none⟩,
  .op ⟨19, some 22, .addr 2 (.t 1), some (21, true)⟩,
  .op ⟨20, some 23, .load (.one (.int .i64)) (.t 22), some (21, true)⟩,
  .op ⟨21, some 24, .bin .geq (.t 23) (.c (.one (.int .i64 0))), some (21, true)⟩,
  .op ⟨22, some 25, .pick (.t 21) (.t 24) (.c (.one (.bool false))), none⟩,
  .op ⟨23, some 26, .mv (.t 25), none⟩,
  .op ⟨24, some 27, .addr 2 (.t 1), some (26, true)⟩,
  .op ⟨25, some 28, .load (.one (.int .i64)) (.t 27), some (26, true)⟩,
  .op ⟨26, some 29, .addr 3 (.t 1), some (26, true)⟩,
  .op ⟨27, some 30, .load (.one (.int .i64)) (.t 29), some (26, true)⟩,
  .op ⟨28, some 31, .bin .lss (.t 28) (.t 30), some (26, true)⟩,
  .op ⟨29, some 32, .pick (.t 26) (.t 31) (.c (.one (.bool false))), none⟩,
  .op ⟨30, some 33, .mv (.t 32), none⟩,
  .op ⟨31, some 34, .addr 4 (.t 1), some (33, true)⟩,
  .op ⟨32, some 35, .load (.one (.int .i64)) (.t 34), some (33, true)⟩,
  .op ⟨33, some 36, .bin .geq (.t 35) (.c (.one (.int .i64 0))), some (33, true)⟩,
  .op ⟨34, some 37, .pick (.t 33) (.t 36) (.c (.one (.bool false))), none⟩,
  .op ⟨35, some 38, .mv (.t 37), none⟩,
  .op ⟨36, some 39, .addr 4 (.t 1), some (38, true)⟩,
  .op ⟨37, some 40, .load (.one (.int .i64)) (.t 39), some (38, true)⟩,
  .op ⟨38, some 41, .bin .lss (.t 40) (.c (.one (.int .i64 4294967296))), some (38, true)⟩,
  .op ⟨39, some 42, .pick (.t 38) (.t 41) (.c (.one (.bool false))), none⟩,
  .op ⟨40, some 2, .mv (.t 42), none⟩])
 (.ret))⟩
noncomputable def page_Check.on (x0 : (Int × Int × Int × Int × Int × Unit)) (H : Heap) : Option (Bool × Unit) :=
 let H1 : Heap := H ++ [Blk.cells [.int .i64 x0.1, .int .u64 x0.2.1, .int .i64 x0.2.2.1, .int .i64 x0.2.2.2.1, .int .i64 x0.2.2.2.2.1] .exact]
 (rdI .i64 H1 H.length 0).bind fun (v2 : Int) =>
 cond (decide (1 ≤ v2)) (
 (rdI .i64 H1 H.length 0).bind fun (v3 : Int) =>
 cond (decide (v3 ≤ 3)) (
 (rdI .i64 H1 H.length 3).bind fun (v4 : Int) =>
 cond (decide (1 ≤ v4)) (
 (rdI .i64 H1 H.length 3).bind fun (v5 : Int) =>
 cond (decide (v5 < 65536)) (
 (rdI .i64 H1 H.length 2).bind fun (v6 : Int) =>
 cond (decide (0 ≤ v6)) (
 (rdI .i64 H1 H.length 2).bind fun (v7 : Int) =>
 (rdI .i64 H1 H.length 3).bind fun (v8 : Int) =>
 cond (decide (v7 < v8)) (
 (rdI .i64 H1 H.length 4).bind fun (v9 : Int) =>
 cond (decide (0 ≤ v9)) (
 (rdI .i64 H1 H.length 4).bind fun (v10 : Int) =>
 some ((decide (v10 < 4294967296)), ())) (
 some (false, ()))) (
 some (false, ()))) (
 some (false, ()))) (
 some (false, ()))) (
 some (false, ()))) (
 some (false, ()))) (
 some (false, ()))
noncomputable def page_Check (x0 : (Int × Int × Int × Int × Int × Unit)) : Option (Bool × Unit) := page_Check.on x0 []
noncomputable def page_Check.c : Callee := .pure [.agg [.int .i64, .int .u64, .int .i64, .int .i64, .int .i64]] [.one .bool] (fun x => page_Check x.1)
noncomputable def page_Check.calls : Nat → Option Callee
  | _ => none
theorem page_Check.eq : evPure page_Check.calls page_Check.af = (fun x H => page_Check.on x.1 H) := by kernel_rfl

/-! ### tinderbox/page.Frame -/
def page_Frame.af : AFun := ⟨[.agg [.int .i64, .int .u64, .int .i64, .int .i64, .int .i64], .one .str, .one (.int .i64)], [.one .str, .one .str, .one (.int .i64)], [.t 6, .t 7, .t 8],
 .seq (.reg [.op ⟨0, some 3, .box (.t 0), none⟩,
  .op ⟨1, some 6, .mv (.c (.one (.str []))), none⟩,
  .op ⟨2, some 7, .mv (.c (.one (.str []))), none⟩,
  .op ⟨3, some 8, .mv (.c (.one (.int .i64 0))), none⟩])
 (.seq (.seq (.reg [.op ⟨0, some 11, .load (.agg [.int .i64, .int .u64, .int .i64, .int .i64, .int .i64]) (.t 3), none⟩,
  .op ⟨1, some 12, .call 0 [(.t 11)], none⟩,
  .op ⟨2, some 13, .un .not (.t 12), none⟩,
  .op ⟨3, some 14, .mv (.t 13), none⟩,
  .op ⟨4, some 15, .mv (.t 2), some (14, false)⟩,
  .op ⟨5, some 16, .bin .lss (.t 15) (.c (.one (.int .i64 0))), some (14, false)⟩,
  .op ⟨6, some 17, .pick (.t 14) (.c (.one (.bool true))) (.t 16), none⟩,
  .op ⟨7, some 18, .mv (.t 17), none⟩,
  .op ⟨8, some 19, .mv (.t 2), some (18, false)⟩,
  .op ⟨9, some 20, .bin .geq (.t 19) (.c (.one (.int .i64 65536))), some (18, false)⟩,
  .op ⟨10, some 21, .pick (.t 18) (.c (.one (.bool true))) (.t 20), none⟩,
  .op ⟨11, some 22, .mv (.t 21), none⟩,
  .op ⟨12, some 23, .mv (.t 1), some (22, false)⟩,
  .op ⟨13, some 24, .lens (.t 23), some (22, false)⟩,
  .op ⟨14, some 25, .mv (.t 2), some (22, false)⟩,
  .op ⟨15, some 26, .bin .gtr (.t 24) (.t 25), some (22, false)⟩,
  .op ⟨16, some 27, .pick (.t 22) (.c (.one (.bool true))) (.t 26), none⟩])
 (.cond (.t 27) (.seq (.reg [.op ⟨0, some 6, .mv (.c (.one (.str []))), none⟩,
  .op ⟨1, some 7, .mv (.c (.one (.str []))), none⟩,
  .op ⟨2, some 8, .mv (.c (.one (.int .i64 1))), none⟩])
 (.ret)) (.skip)))
 (.seq (.reg [.op ⟨0, some 28, .mv (.t 1), none⟩,
  .op ⟨1, some 29, .mv (.t 2), none⟩,
  .op ⟨2, some 30, .mv (.t 1), none⟩,
  .op ⟨3, some 31, .lens (.t 30), none⟩,
  .op ⟨4, some 32, .bin .sub (.t 29) (.t 31), none⟩,
  .op ⟨5, some 33, .call 1 [(.c (.one (.str [0]))), (.t 32)], none⟩,
  .op ⟨6, some 34, .bin .add (.t 28) (.t 33), none⟩,
  .op ⟨7, some 9, .mv (.t 34), none⟩])
 (.seq (.reg [.op ⟨0, some 35, .addr 0 (.t 3), none⟩,
  .op ⟨1, some 36, .load (.one (.int .i64)) (.t 35), none⟩,
  .op ⟨2, some 37, .conv .u64 (.t 36), none⟩,
  .op ⟨3, some 38, .call 2 [(.t 37), (.c (.one (.int .i64 1)))], none⟩,
  .op ⟨4, some 39, .addr 1 (.t 3), none⟩,
  .op ⟨5, some 40, .load (.one (.int .u64)) (.t 39), none⟩,
  .op ⟨6, some 41, .call 2 [(.t 40), (.c (.one (.int .i64 8)))], none⟩,
  .op ⟨7, some 42, .bin .add (.t 38) (.t 41), none⟩,
  .op ⟨8, some 43, .addr 2 (.t 3), none⟩,
  .op ⟨9, some 44, .load (.one (.int .i64)) (.t 43), none⟩,
  .op ⟨10, some 45, .conv .u64 (.t 44), none⟩,
  .op ⟨11, some 46, .call 2 [(.t 45), (.c (.one (.int .i64 2)))], none⟩,
  .op ⟨12, some 47, .bin .add (.t 42) (.t 46), none⟩,
  .op ⟨13, some 48, .addr 3 (.t 3), none⟩,
  .op ⟨14, some 49, .load (.one (.int .i64)) (.t 48), none⟩,
  .op ⟨15, some 50, .conv .u64 (.t 49), none⟩,
  .op ⟨16, some 51, .call 2 [(.t 50), (.c (.one (.int .i64 2)))], none⟩,
  .op ⟨17, some 52, .bin .add (.t 47) (.t 51), none⟩,
  .op ⟨18, some 53, .addr 4 (.t 3), none⟩,
  .op ⟨19, some 54, .load (.one (.int .i64)) (.t 53), none⟩,
  .op ⟨20, some 55, .conv .u64 (.t 54), none⟩,
  .op ⟨21, some 56, .call 2 [(.t 55), (.c (.one (.int .i64 4)))], none⟩,
  .op ⟨22, some 57, .bin .add (.t 52) (.t 56), none⟩,
  .op ⟨23, some 58, .mv (.t 1), none⟩,
  .op ⟨24, some 59, .lens (.t 58), none⟩,
  .op ⟨25, some 60, .conv .u64 (.t 59), none⟩,
  .op ⟨26, some 61, .call 2 [(.t 60), (.c (.one (.int .i64 2)))], none⟩,
  .op ⟨27, some 62, .bin .add (.t 57) (.t 61), none⟩,
  .op ⟨28, some 10, .mv (.t 62), none⟩])
 (.seq (.reg [.op ⟨0, some 63, .mv (.t 10), none⟩,
  .op ⟨1, some 64, .mv (.t 10), none⟩,
  .op ⟨2, some 65, .lens (.t 64), none⟩,
  .op ⟨3, some 66, .bin .sub (.c (.one (.int .i64 28))) (.t 65), none⟩,
  .op ⟨4, some 67, .call 1 [(.c (.one (.str [0]))), (.t 66)], none⟩,
  .op ⟨5, some 68, .bin .add (.t 63) (.t 67), none⟩,
  .op ⟨6, some 10, .mv (.t 68), none⟩])
 (.seq (.reg [.op ⟨0, some 69, .mv (.t 9), none⟩,
  .op ⟨1, some 70, .mv (.t 10), none⟩,
  .op ⟨2, some 71, .mv (.t 9), none⟩,
  .op ⟨3, some 72, .call 3 [(.t 71)], none⟩,
  .op ⟨4, some 73, .mv (.t 10), none⟩,
  .op ⟨5, some 74, .call 4 [(.t 72), (.t 73)], none⟩,
  .op ⟨6, some 75, .conv .u64 (.t 74), none⟩,
  .op ⟨7, some 76, .call 2 [(.t 75), (.c (.one (.int .i64 4)))], none⟩,
  .op ⟨8, some 77, .bin .add (.t 70) (.t 76), none⟩,
  .op ⟨9, some 6, .mv (.t 69), none⟩,
  .op ⟨10, some 7, .mv (.t 77), none⟩,
  .op ⟨11, some 8, .mv (.c (.one (.int .i64 0))), none⟩])
 (.ret))))))⟩
noncomputable def page_Frame.on (x0 : (Int × Int × Int × Int × Int × Unit)) (x1 : Bytes) (x2 : Int) (H : Heap) : Option (Bytes × Bytes × Int × Unit) :=
 let H1 : Heap := H ++ [Blk.cells [.int .i64 x0.1, .int .u64 x0.2.1, .int .i64 x0.2.2.1, .int .i64 x0.2.2.2.1, .int .i64 x0.2.2.2.2.1] .exact]
 Option.bind (α := (Int × Int × Int × Int × Int × Unit)) (rd H1 (.agg [.int .i64, .int .u64, .int .i64, .int .i64, .int .i64]) H.length 0) fun (v2 : (Int × Int × Int × Int × Int × Unit)) =>
 (page_Check (v2.1, v2.2.1, v2.2.2.1, v2.2.2.2.1, v2.2.2.2.2.1, ())).bind fun (r3 : (Bool × Unit)) =>
 cond (!r3.1) (
 some ([], [], 1, ())) (
 cond (decide (x2 < 0)) (
 some ([], [], 1, ())) (
 cond (decide (65536 ≤ x2)) (
 some ([], [], 1, ())) (
 cond (decide (x2 < (List.length (x1 : Bytes) : Int))) (
 some ([], [], 1, ())) (
 (strings_Repeat [0] (IntKind.wrap .i64 (x2 - (List.length (x1 : Bytes) : Int)))).bind fun (r4 : (Bytes × Unit)) =>
 (catS x1 r4.1).bind fun (s5 : Bytes) =>
 (rdI .i64 H1 H.length 0).bind fun (v6 : Int) =>
 (code_Fixed (IntKind.wrap .u64 v6) 1).bind fun (r7 : (Bytes × Unit)) =>
 (rdI .u64 H1 H.length 1).bind fun (v8 : Int) =>
 (code_Fixed v8 8).bind fun (r9 : (Bytes × Unit)) =>
 (catS r7.1 r9.1).bind fun (s10 : Bytes) =>
 (rdI .i64 H1 H.length 2).bind fun (v11 : Int) =>
 (code_Fixed (IntKind.wrap .u64 v11) 2).bind fun (r12 : (Bytes × Unit)) =>
 (catS s10 r12.1).bind fun (s13 : Bytes) =>
 (rdI .i64 H1 H.length 3).bind fun (v14 : Int) =>
 (code_Fixed (IntKind.wrap .u64 v14) 2).bind fun (r15 : (Bytes × Unit)) =>
 (catS s13 r15.1).bind fun (s16 : Bytes) =>
 (rdI .i64 H1 H.length 4).bind fun (v17 : Int) =>
 (code_Fixed (IntKind.wrap .u64 v17) 4).bind fun (r18 : (Bytes × Unit)) =>
 (catS s16 r18.1).bind fun (s19 : Bytes) =>
 (code_Fixed (IntKind.wrap .u64 (List.length (x1 : Bytes) : Int)) 2).bind fun (r20 : (Bytes × Unit)) =>
 (catS s19 r20.1).bind fun (s21 : Bytes) =>
 (strings_Repeat [0] (IntKind.wrap .i64 (28 - (List.length (s21 : Bytes) : Int)))).bind fun (r22 : (Bytes × Unit)) =>
 (catS s21 r22.1).bind fun (s23 : Bytes) =>
 (crc_Sum s5).bind fun (r24 : (Int × Unit)) =>
 (crc_More r24.1 s23).bind fun (r25 : (Int × Unit)) =>
 (code_Fixed (IntKind.wrap .u64 r25.1) 4).bind fun (r26 : (Bytes × Unit)) =>
 (catS s23 r26.1).bind fun (s27 : Bytes) =>
 some (s5, s27, 0, ())))))
noncomputable def page_Frame (x0 : (Int × Int × Int × Int × Int × Unit)) (x1 : Bytes) (x2 : Int) : Option (Bytes × Bytes × Int × Unit) := page_Frame.on x0 x1 x2 []
noncomputable def page_Frame.c : Callee := .pure [.agg [.int .i64, .int .u64, .int .i64, .int .i64, .int .i64], .one .str, .one (.int .i64)] [.one .str, .one .str, .one (.int .i64)] (fun x => page_Frame x.1 x.2.1 x.2.2.1)
noncomputable def page_Frame.calls : Nat → Option Callee
  | 0 => some page_Check.c
  | 1 => some strings_Repeat.c
  | 2 => some code_Fixed.c
  | 3 => some crc_Sum.c
  | 4 => some crc_More.c
  | _ => none
theorem page_Frame.eq : evPure page_Frame.calls page_Frame.af = (fun x H => page_Frame.on x.1 x.2.1 x.2.2.1 H) := by kernel_rfl

/-! ### tinderbox/page.erased -/
def page_erased.af : AFun := ⟨[.one .str], [.one .bool], [.t 2],
 .seq (.reg [.op ⟨0, some 2, .mv (.c (.one (.bool false))), none⟩])
 (.seq (.seq (.reg [.op ⟨0, some 4, .mv (.t 0), none⟩,
  .op ⟨1, some 5, .lens (.t 4), none⟩,
  .op ⟨2, some 6, .mv (.c (.one (.int .i64 0))), none⟩])
 (.block 0 (.loop [(6, .one (.int .i64))] [(.exit 0, []), (.ret, [(2, .one .bool)])] (.seq (.reg [.op ⟨0, some 7, .bin .lss (.t 6) (.t 5), none⟩])
 (.seq (.cond (.t 7) (.skip) (.exit 0))
 (.seq (.block 1 (.seq (.reg [.op ⟨0, some 8, .mv (.t 6), none⟩,
  .op ⟨1, some 3, .mv (.t 8), none⟩])
 (.seq (.reg [.op ⟨0, some 9, .mv (.t 0), none⟩,
  .op ⟨1, some 10, .mv (.t 3), none⟩,
  .op ⟨2, some 11, .index (.t 9) (.t 10), none⟩,
  .op ⟨3, some 12, .bin .neq (.t 11) (.c (.one (.int .u8 255))), none⟩])
 (.cond (.t 12) (.seq (.reg [.op ⟨0, some 2, .mv (.c (.one (.bool false))), none⟩])
 (.ret)) (.skip)))))
 (.reg [.op ⟨0, some 13, .bin .add (.t 6) (.c (.one (.int .i64 1))), none⟩,
  .op ⟨1, some 6, .mv (.t 13), none⟩])))))))
 (.seq (.reg [.op ⟨0, some 2, .mv (.c (.one (.bool true))), none⟩])
 (.ret)))⟩
noncomputable def page_erased.s1 (x0 : Bytes) (s1 : (Int × Unit)) (H2 : Heap) : Option (((Int × Unit) ⊕ ((Unit) ⊕ (Bool × Unit))) × Heap) :=
 cond (decide (s1.1 < (List.length (x0 : Bytes) : Int))) (
 (idxS x0 s1.1).bind fun (n3 : Int) =>
 cond (!decide (n3 = 255)) (
 some (Sum.inr (Sum.inr (false, ())), H2)) (
 some (Sum.inl ((IntKind.wrap .i64 (s1.1 + 1)), ()), H2))) (
 some (Sum.inr (Sum.inl (())), H2))
noncomputable def page_erased.on (x0 : Bytes) (H : Heap) : Option (Bool × Unit) :=
 (loopW (page_erased.s1 x0) (0, ()) H).bind fun (p4 : ((Unit) ⊕ (Bool × Unit)) × Heap) =>
 Sum.elim (fun (y5 : (Unit)) =>
 some (true, ())) (fun (z6 : (Bool × Unit)) =>
 some (z6.1, ())) p4.1
noncomputable def page_erased (x0 : Bytes) : Option (Bool × Unit) := page_erased.on x0 []
noncomputable def page_erased.c : Callee := .pure [.one .str] [.one .bool] (fun x => page_erased x.1)
noncomputable def page_erased.calls : Nat → Option Callee
  | _ => none
theorem page_erased.eq : evPure page_erased.calls page_erased.af = (fun x H => page_erased.on x.1 H) := by kernel_rfl

/-! ### tinderbox/page.Look -/
def page_Look.af : AFun := ⟨[.one .str, .one .str], [.one (.int .i64), .agg [.int .i64, .int .u64, .int .i64, .int .i64, .int .i64], .one .str], [.t 4, .cell 5, .t 6],
 .seq (.reg [.op ⟨0, some 4, .mv (.c (.one (.int .i64 0))), none⟩,
  .op ⟨1, some 5, .new [.int .i64 0, .int .u64 0, .int .i64 0, .int .i64 0, .int .i64 0], none⟩,
  .op ⟨2, some 6, .mv (.c (.one (.str []))), none⟩])
 (.seq (.scope [(.normal, []), (.ret, [(4, .one (.int .i64)), (6, .one .str)])] (.seq (.reg [.op ⟨0, some 13, .mv (.t 0), none⟩,
  .op ⟨1, some 14, .call 0 [(.t 13)], none⟩,
  .op ⟨2, some 15, .mv (.t 14), none⟩,
  .op ⟨3, some 16, .mv (.t 1), some (15, true)⟩,
  .op ⟨4, some 17, .call 0 [(.t 16)], some (15, true)⟩,
  .op ⟨5, some 18, .pick (.t 15) (.t 17) (.c (.one (.bool false))), none⟩])
 (.cond (.t 18) (.seq (.reg [.op ⟨0, some 19, .build [.int .i64 0, .int .u64 0, .int .i64 0, .int .i64 0, .int .i64 0] [], none⟩,
  .op ⟨1, some 4, .mv (.c (.one (.int .i64 0))), none⟩,
  .op ⟨2, none, .store 5 (.t 5) (.t 19), none⟩,
  .op ⟨3, some 6, .mv (.c (.one (.str []))), none⟩])
 (.ret)) (.skip))))
 (.seq (.seq (.reg [.op ⟨0, some 20, .mv (.t 1), none⟩,
  .op ⟨1, some 21, .lens (.t 20), none⟩,
  .op ⟨2, some 22, .bin .neq (.t 21) (.c (.one (.int .i64 32))), none⟩])
 (.cond (.t 22) (.seq (.reg [.op ⟨0, some 23, .build [.int .i64 0, .int .u64 0, .int .i64 0, .int .i64 0, .int .i64 0] [], none⟩,
  .op ⟨1, some 4, .mv (.c (.one (.int .i64 2))), none⟩,
  .op ⟨2, none, .store 5 (.t 5) (.t 23), none⟩,
  .op ⟨3, some 6, .mv (.c (.one (.str []))), none⟩])
 (.ret)) (.skip)))
 (.seq (.reg [.op ⟨0, some 24, .mv (.t 1), none⟩,
  .op ⟨1, some 25, .call 1 [(.t 24)], none⟩,
  .op ⟨2, some 7, .mv (.t 25), none⟩])
 (.seq (.reg [.op ⟨0, some 26, .mv (.t 7), none⟩,
  .op ⟨1, some 27, .call 2 [(.t 26), (.c (.one (.int .i64 1)))], none⟩,
  .op ⟨2, some 28, .conv .i64 (.t 27), none⟩,
  .op ⟨3, some 29, .mv (.t 7), none⟩,
  .op ⟨4, some 30, .call 2 [(.t 29), (.c (.one (.int .i64 8)))], none⟩,
  .op ⟨5, some 31, .mv (.t 7), none⟩,
  .op ⟨6, some 32, .call 2 [(.t 31), (.c (.one (.int .i64 2)))], none⟩,
  .op ⟨7, some 33, .conv .i64 (.t 32), none⟩,
  .op ⟨8, some 34, .mv (.t 7), none⟩,
  .op ⟨9, some 35, .call 2 [(.t 34), (.c (.one (.int .i64 2)))], none⟩,
  .op ⟨10, some 36, .conv .i64 (.t 35), none⟩,
  .op ⟨11, some 37, .mv (.t 7), none⟩,
  .op ⟨12, some 38, .call 2 [(.t 37), (.c (.one (.int .i64 4)))], none⟩,
  .op ⟨13, some 39, .conv .i64 (.t 38), none⟩,
  .op ⟨14, some 40, .build [.int .i64 0, .int .u64 0, .int .i64 0, .int .i64 0, .int .i64 0] [(0, 1, (.t 28)), (1, 1, (.t 30)), (2, 1, (.t 33)), (3, 1, (.t 36)), (4, 1, (.t 39))], none⟩,
  .op ⟨15, some 8, .new [.int .i64 0, .int .u64 0, .int .i64 0, .int .i64 0, .int .i64 0], none⟩,
  .op ⟨16, none, .store 5 (.t 8) (.t 40), none⟩])
 (.seq (.reg [.op ⟨0, some 41, .mv (.t 7), none⟩,
  .op ⟨1, some 42, .call 2 [(.t 41), (.c (.one (.int .i64 2)))], none⟩,
  .op ⟨2, some 43, .conv .i64 (.t 42), none⟩,
  .op ⟨3, some 9, .mv (.t 43), none⟩])
 (.seq (.seq (.reg [.op ⟨0, some 44, .mv (.t 9), none⟩,
  .op ⟨1, some 45, .mv (.t 0), none⟩,
  .op ⟨2, some 46, .lens (.t 45), none⟩,
  .op ⟨3, some 47, .bin .gtr (.t 44) (.t 46), none⟩,
  .op ⟨4, some 48, .mv (.t 47), none⟩,
  .op ⟨5, some 49, .load (.agg [.int .i64, .int .u64, .int .i64, .int .i64, .int .i64]) (.t 8), some (48, false)⟩,
  .op ⟨6, some 50, .call 3 [(.t 49)], some (48, false)⟩,
  .op ⟨7, some 51, .un .not (.t 50), some (48, false)⟩,
  .op ⟨8, some 52, .pick (.t 48) (.c (.one (.bool true))) (.t 51), none⟩])
 (.cond (.t 52) (.seq (.reg [.op ⟨0, some 53, .build [.int .i64 0, .int .u64 0, .int .i64 0, .int .i64 0, .int .i64 0] [], none⟩,
  .op ⟨1, some 4, .mv (.c (.one (.int .i64 2))), none⟩,
  .op ⟨2, none, .store 5 (.t 5) (.t 53), none⟩,
  .op ⟨3, some 6, .mv (.c (.one (.str []))), none⟩])
 (.ret)) (.skip)))
 (.seq (.reg [.op ⟨0, some 55, .load (.agg [.int .i64, .int .u64, .int .i64, .int .i64, .int .i64]) (.t 8), none⟩,
  .op ⟨1, some 56, .mv (.t 0), none⟩,
  .op ⟨2, some 57, .mv (.t 9), none⟩,
  .op ⟨3, some 58, .slstr (.t 56) none (some (.t 57)), none⟩,
  .op ⟨4, some 59, .mv (.t 0), none⟩,
  .op ⟨5, some 60, .lens (.t 59), none⟩,
  .op ⟨6, some 61, .call 4 [(.t 55), (.t 58), (.t 60)], none⟩,
  .op ⟨7, some 54, .mv (.t 61), none⟩,
  .op ⟨8, some 62, .ext (.t 54) 0, none⟩,
  .op ⟨9, some 63, .ext (.t 54) 1, none⟩,
  .op ⟨10, some 64, .ext (.t 54) 2, none⟩,
  .op ⟨11, some 10, .mv (.t 62), none⟩,
  .op ⟨12, some 11, .mv (.t 63), none⟩,
  .op ⟨13, some 12, .mv (.t 64), none⟩])
 (.seq (.seq (.reg [.op ⟨0, some 65, .mv (.t 12), none⟩,
  .op ⟨1, some 66, .bin .neq (.t 65) (.c (.one (.int .i64 0))), none⟩,
  .op ⟨2, some 67, .mv (.t 66), none⟩,
  .op ⟨3, some 68, .mv (.t 10), some (67, false)⟩,
  .op ⟨4, some 69, .mv (.t 0), some (67, false)⟩,
  .op ⟨5, some 70, .bin .neq (.t 68) (.t 69), some (67, false)⟩,
  .op ⟨6, some 71, .pick (.t 67) (.c (.one (.bool true))) (.t 70), none⟩,
  .op ⟨7, some 72, .mv (.t 71), none⟩,
  .op ⟨8, some 73, .mv (.t 11), some (72, false)⟩,
  .op ⟨9, some 74, .mv (.t 1), some (72, false)⟩,
  .op ⟨10, some 75, .bin .neq (.t 73) (.t 74), some (72, false)⟩,
  .op ⟨11, some 76, .pick (.t 72) (.c (.one (.bool true))) (.t 75), none⟩])
 (.cond (.t 76) (.seq (.reg [.op ⟨0, some 77, .build [.int .i64 0, .int .u64 0, .int .i64 0, .int .i64 0, .int .i64 0] [], none⟩,
  .op ⟨1, some 4, .mv (.c (.one (.int .i64 2))), none⟩,
  .op ⟨2, none, .store 5 (.t 5) (.t 77), none⟩,
  .op ⟨3, some 6, .mv (.c (.one (.str []))), none⟩])
 (.ret)) (.skip)))
 (.seq (.reg [.op ⟨0, some 78, .load (.agg [.int .i64, .int .u64, .int .i64, .int .i64, .int .i64]) (.t 8), none⟩,
  .op ⟨1, some 79, .mv (.t 0), none⟩,
  .op ⟨2, some 80, .mv (.t 9), none⟩,
  .op ⟨3, some 81, .slstr (.t 79) none (some (.t 80)), none⟩,
  .op ⟨4, some 4, .mv (.c (.one (.int .i64 1))), none⟩,
  .op ⟨5, none, .store 5 (.t 5) (.t 78), none⟩,
  .op ⟨6, some 6, .mv (.t 81), none⟩])
 (.ret))))))))))⟩
noncomputable def page_Look.on (x0 : Bytes) (x1 : Bytes) (H : Heap) : Option (Int × (Int × Int × Int × Int × Int × Unit) × Bytes × Unit) :=
 let H1 : Heap := H ++ [Blk.cells [.int .i64 0, .int .u64 0, .int .i64 0, .int .i64 0, .int .i64 0] .exact]
 ((page_erased x0).bind fun (r2 : (Bool × Unit)) =>
 cond r2.1 (
 (page_erased x1).bind fun (r3 : (Bool × Unit)) =>
 cond r3.1 (
 (wr H1 H.length 0 [.int .i64 0, .int .u64 0, .int .i64 0, .int .i64 0, .int .i64 0]).bind fun (H4 : Heap) =>
 some (Sum.inr (0, [], ()), H4)) (
 some (Sum.inl (()), H1))) (
 some (Sum.inl (()), H1)) : Option (((Unit) ⊕ (Int × Bytes × Unit)) × Heap)).bind fun (p5 : ((Unit) ⊕ (Int × Bytes × Unit)) × Heap) =>
 Sum.elim (fun (y6 : (Unit)) =>
 cond (!decide ((List.length (x1 : Bytes) : Int) = 32)) (
 (wr p5.2 H.length 0 [.int .i64 0, .int .u64 0, .int .i64 0, .int .i64 0, .int .i64 0]).bind fun (H7 : Heap) =>
 Option.bind (α := (Int × Int × Int × Int × Int × Unit)) (rd H7 (.agg [.int .i64, .int .u64, .int .i64, .int .i64, .int .i64]) H.length 0) fun (v8 : (Int × Int × Int × Int × Int × Unit)) =>
 some (2, v8, [], ())) (
 (code_New x1 p5.2).bind fun (r9 : ((Ptr × Unit) × Heap)) =>
 (code_Reader_Fixed r9.1.1 1 r9.2).bind fun (r10 : ((Int × Unit) × Heap)) =>
 (code_Reader_Fixed r9.1.1 8 r10.2).bind fun (r11 : ((Int × Unit) × Heap)) =>
 (code_Reader_Fixed r9.1.1 2 r11.2).bind fun (r12 : ((Int × Unit) × Heap)) =>
 (code_Reader_Fixed r9.1.1 2 r12.2).bind fun (r13 : ((Int × Unit) × Heap)) =>
 (code_Reader_Fixed r9.1.1 4 r13.2).bind fun (r14 : ((Int × Unit) × Heap)) =>
 let H15 : Heap := r14.2 ++ [Blk.cells [.int .i64 0, .int .u64 0, .int .i64 0, .int .i64 0, .int .i64 0] .exact]
 (wr H15 r14.2.length 0 [.int .i64 (IntKind.wrap .i64 r10.1.1), .int .u64 r11.1.1, .int .i64 (IntKind.wrap .i64 r12.1.1), .int .i64 (IntKind.wrap .i64 r13.1.1), .int .i64 (IntKind.wrap .i64 r14.1.1)]).bind fun (H16 : Heap) =>
 (code_Reader_Fixed r9.1.1 2 H16).bind fun (r17 : ((Int × Unit) × Heap)) =>
 cond (decide ((List.length (x0 : Bytes) : Int) < (IntKind.wrap .i64 r17.1.1))) (
 (wr r17.2 H.length 0 [.int .i64 0, .int .u64 0, .int .i64 0, .int .i64 0, .int .i64 0]).bind fun (H18 : Heap) =>
 Option.bind (α := (Int × Int × Int × Int × Int × Unit)) (rd H18 (.agg [.int .i64, .int .u64, .int .i64, .int .i64, .int .i64]) H.length 0) fun (v19 : (Int × Int × Int × Int × Int × Unit)) =>
 some (2, v19, [], ())) (
 Option.bind (α := (Int × Int × Int × Int × Int × Unit)) (rd r17.2 (.agg [.int .i64, .int .u64, .int .i64, .int .i64, .int .i64]) r14.2.length 0) fun (v20 : (Int × Int × Int × Int × Int × Unit)) =>
 (page_Check (v20.1, v20.2.1, v20.2.2.1, v20.2.2.2.1, v20.2.2.2.2.1, ())).bind fun (r21 : (Bool × Unit)) =>
 cond (!r21.1) (
 (wr r17.2 H.length 0 [.int .i64 0, .int .u64 0, .int .i64 0, .int .i64 0, .int .i64 0]).bind fun (H22 : Heap) =>
 Option.bind (α := (Int × Int × Int × Int × Int × Unit)) (rd H22 (.agg [.int .i64, .int .u64, .int .i64, .int .i64, .int .i64]) H.length 0) fun (v23 : (Int × Int × Int × Int × Int × Unit)) =>
 some (2, v23, [], ())) (
 Option.bind (α := (Int × Int × Int × Int × Int × Unit)) (rd r17.2 (.agg [.int .i64, .int .u64, .int .i64, .int .i64, .int .i64]) r14.2.length 0) fun (v24 : (Int × Int × Int × Int × Int × Unit)) =>
 (subS x0 0 (IntKind.wrap .i64 r17.1.1)).bind fun (s25 : Bytes) =>
 (page_Frame (v24.1, v24.2.1, v24.2.2.1, v24.2.2.2.1, v24.2.2.2.2.1, ()) s25 (List.length (x0 : Bytes) : Int)).bind fun (r26 : (Bytes × Bytes × Int × Unit)) =>
 cond (!decide (r26.2.2.1 = 0)) (
 (wr r17.2 H.length 0 [.int .i64 0, .int .u64 0, .int .i64 0, .int .i64 0, .int .i64 0]).bind fun (H27 : Heap) =>
 Option.bind (α := (Int × Int × Int × Int × Int × Unit)) (rd H27 (.agg [.int .i64, .int .u64, .int .i64, .int .i64, .int .i64]) H.length 0) fun (v28 : (Int × Int × Int × Int × Int × Unit)) =>
 some (2, v28, [], ())) (
 cond (!decide ((r26.1 : Bytes) = x0)) (
 (wr r17.2 H.length 0 [.int .i64 0, .int .u64 0, .int .i64 0, .int .i64 0, .int .i64 0]).bind fun (H29 : Heap) =>
 Option.bind (α := (Int × Int × Int × Int × Int × Unit)) (rd H29 (.agg [.int .i64, .int .u64, .int .i64, .int .i64, .int .i64]) H.length 0) fun (v30 : (Int × Int × Int × Int × Int × Unit)) =>
 some (2, v30, [], ())) (
 cond (!decide ((r26.2.1 : Bytes) = x1)) (
 (wr r17.2 H.length 0 [.int .i64 0, .int .u64 0, .int .i64 0, .int .i64 0, .int .i64 0]).bind fun (H31 : Heap) =>
 Option.bind (α := (Int × Int × Int × Int × Int × Unit)) (rd H31 (.agg [.int .i64, .int .u64, .int .i64, .int .i64, .int .i64]) H.length 0) fun (v32 : (Int × Int × Int × Int × Int × Unit)) =>
 some (2, v32, [], ())) (
 Option.bind (α := (Int × Int × Int × Int × Int × Unit)) (rd r17.2 (.agg [.int .i64, .int .u64, .int .i64, .int .i64, .int .i64]) r14.2.length 0) fun (v33 : (Int × Int × Int × Int × Int × Unit)) =>
 (subS x0 0 (IntKind.wrap .i64 r17.1.1)).bind fun (s34 : Bytes) =>
 (wr r17.2 H.length 0 [.int .i64 v33.1, .int .u64 v33.2.1, .int .i64 v33.2.2.1, .int .i64 v33.2.2.2.1, .int .i64 v33.2.2.2.2.1]).bind fun (H35 : Heap) =>
 Option.bind (α := (Int × Int × Int × Int × Int × Unit)) (rd H35 (.agg [.int .i64, .int .u64, .int .i64, .int .i64, .int .i64]) H.length 0) fun (v36 : (Int × Int × Int × Int × Int × Unit)) =>
 some (1, v36, s34, ())))))))) (fun (z37 : (Int × Bytes × Unit)) =>
 Option.bind (α := (Int × Int × Int × Int × Int × Unit)) (rd p5.2 (.agg [.int .i64, .int .u64, .int .i64, .int .i64, .int .i64]) H.length 0) fun (v38 : (Int × Int × Int × Int × Int × Unit)) =>
 some (z37.1, v38, z37.2.1, ())) p5.1
noncomputable def page_Look (x0 : Bytes) (x1 : Bytes) : Option (Int × (Int × Int × Int × Int × Int × Unit) × Bytes × Unit) := page_Look.on x0 x1 []
noncomputable def page_Look.c : Callee := .pure [.one .str, .one .str] [.one (.int .i64), .agg [.int .i64, .int .u64, .int .i64, .int .i64, .int .i64], .one .str] (fun x => page_Look x.1 x.2.1)
noncomputable def page_Look.calls : Nat → Option Callee
  | 0 => some page_erased.c
  | 1 => some code_New.c
  | 2 => some code_Reader_Fixed.c
  | 3 => some page_Check.c
  | 4 => some page_Frame.c
  | _ => none
theorem page_Look.eq : evPure page_Look.calls page_Look.af = (fun x H => page_Look.on x.1 x.2.1 H) := by kernel_rfl
end Ev
