/- What the functions of the package Ckpt compute: abstract code, and a function of plain Lean for each; the kernel checks that they are the same. Written by gen2.py. -/
import Derived.Test.YtloijdlakkmjgaaEvCore
import Derived.Test.YtloijdlakkmjgaaGGroup
import Derived.Test.YtloijdlakkmjgaaGSlices
import Derived.Test.YtloijdlakkmjgaaGWrite
import Derived.KernelRfl
set_option linter.unusedVariables false
set_option maxRecDepth 100000
namespace Ev
open Go (IntKind BinOp UnOp)

/-! ### tinderbox/ckpt.Write -/
def ckpt_Write.af : AFun := ⟨[.one .ptr, .one (.sl 6), .one (.int .i64), .one (.int .u64), .one (.int .i64)], [.one (.sl 1), .one (.int .u64), .one (.int .i64)], [.t 10, .t 11, .t 12],
 .seq (.reg [.op ⟨0, some 10, .mv (.c (.one (.sl 1 (⟨none, 0, 0⟩)))), none⟩,
  .op ⟨1, some 11, .mv (.c (.one (.int .u64 0))), none⟩,
  .op ⟨2, some 12, .mv (.c (.one (.int .i64 0))), none⟩])
 (.seq (.reg [.op ⟨0, some 19, .mv (.t 1), none⟩,
  .op ⟨1, some 20, .mv (.t 4), none⟩,
  .op ⟨2, some 21, .call 0 [(.t 19), (.t 20)], none⟩,
  .op ⟨3, some 13, .mv (.t 21), none⟩])
 (.seq (.reg [.op ⟨0, some 14, .mv (.c (.one (.sl 1 (⟨none, 0, 0⟩)))), none⟩])
 (.seq (.seq (.reg [.op ⟨0, some 22, .mv (.t 13), none⟩,
  .op ⟨1, some 23, .len (.t 22), none⟩,
  .op ⟨2, some 24, .mv (.c (.one (.int .i64 0))), none⟩])
 (.block 0 (.loop [(3, .one (.int .u64)), (14, .one (.sl 1)), (24, .one (.int .i64))] [(.exit 0, [(3, .one (.int .u64)), (14, .one (.sl 1))]), (.ret, [(10, .one (.sl 1)), (11, .one (.int .u64)), (12, .one (.int .i64))])] (.seq (.reg [.op ⟨0, some 25, .bin .lss (.t 24) (.t 23), none⟩])
 (.seq (.cond (.t 25) (.skip) (.exit 0))
 (.seq (.block 1 (.seq (.reg [.op ⟨0, some 26, .mv (.t 24), none⟩,
  .op ⟨1, some 27, .idxa 1 (.t 22) (.t 24), none⟩,
  .op ⟨2, some 28, .load (.one .str) (.t 27), none⟩,
  .op ⟨3, some 15, .mv (.t 26), none⟩,
  .op ⟨4, some 16, .mv (.t 28), none⟩])
 (.seq (.reg [.op ⟨0, some 30, .mv (.t 0), none⟩,
  .op ⟨1, some 31, .mv (.t 2), none⟩,
  .op ⟨2, some 32, .mv (.t 3), none⟩,
  .op ⟨3, some 33, .mv (.t 15), none⟩,
  .op ⟨4, some 34, .mv (.t 13), none⟩,
  .op ⟨5, some 35, .len (.t 34), none⟩,
  .op ⟨6, some 36, .build [.int .i64 0, .int .u64 0, .int .i64 0, .int .i64 0, .int .i64 0] [(0, 1, (.t 31)), (1, 1, (.t 32)), (2, 1, (.t 33)), (3, 1, (.t 35))], none⟩,
  .op ⟨7, some 37, .mv (.t 16), none⟩,
  .op ⟨8, some 38, .call 1 [(.t 30), (.t 36), (.t 37)], none⟩,
  .op ⟨9, some 29, .mv (.t 38), none⟩,
  .op ⟨10, some 39, .ext (.t 29) 0, none⟩,
  .op ⟨11, some 40, .ext (.t 29) 1, none⟩,
  .op ⟨12, some 17, .mv (.t 39), none⟩,
  .op ⟨13, some 18, .mv (.t 40), none⟩])
 (.seq (.seq (.reg [.op ⟨0, some 41, .mv (.t 18), none⟩,
  .op ⟨1, some 42, .bin .neq (.t 41) (.c (.one (.int .i64 0))), none⟩])
 (.cond (.t 42) (.seq (.reg [.op ⟨0, some 43, .mv (.t 3), none⟩,
  .op ⟨1, some 44, .bin .add (.t 43) (.c (.one (.int .u64 1))), none⟩,
  .op ⟨2, some 45, .mv (.t 18), none⟩,
  .op ⟨3, some 10, .mv (.c (.one (.sl 1 (⟨none, 0, 0⟩)))), none⟩,
  .op ⟨4, some 11, .mv (.t 44), none⟩,
  .op ⟨5, some 12, .mv (.t 45), none⟩])
 (.ret)) (.skip)))
 (.seq (.reg [.op ⟨0, some 46, .mv (.t 14), none⟩,
  .op ⟨1, some 47, .mv (.t 17), none⟩,
  .op ⟨2, some 48, .bslice 1 1 [.int .i64 0] [(0, 1, (.t 47))], none⟩,
  .op ⟨3, some 49, .app 1 8 (.t 46) (.t 48), none⟩,
  .op ⟨4, some 14, .mv (.t 49), none⟩])
 (.seq (.reg [.op ⟨0, some 50, .mv (.t 2), none⟩,
  .op ⟨1, some 51, .bin .neq (.t 50) (.c (.one (.int .i64 3))), none⟩])
 (.cond (.t 51) (.reg [.op ⟨0, some 52, .mv (.t 3), none⟩,
  .op ⟨1, some 53, .bin .add (.t 52) (.c (.one (.int .u64 1))), none⟩,
  .op ⟨2, some 3, .mv (.t 53), none⟩]) (.skip))))))))
 (.reg [.op ⟨0, some 54, .bin .add (.t 24) (.c (.one (.int .i64 1))), none⟩,
  .op ⟨1, some 24, .mv (.t 54), none⟩])))))))
 (.seq (.seq (.reg [.op ⟨0, some 55, .mv (.t 2), none⟩,
  .op ⟨1, some 56, .bin .eql (.t 55) (.c (.one (.int .i64 3))), none⟩])
 (.cond (.t 56) (.reg [.op ⟨0, some 57, .mv (.t 3), none⟩,
  .op ⟨1, some 58, .bin .add (.t 57) (.c (.one (.int .u64 1))), none⟩,
  .op ⟨2, some 3, .mv (.t 58), none⟩]) (.skip)))
 (.seq (.reg [.op ⟨0, some 59, .mv (.t 14), none⟩,
  .op ⟨1, some 60, .mv (.t 3), none⟩,
  .op ⟨2, some 10, .mv (.t 59), none⟩,
  .op ⟨3, some 11, .mv (.t 60), none⟩,
  .op ⟨4, some 12, .mv (.c (.one (.int .i64 0))), none⟩])
 (.ret))))))⟩
noncomputable def ckpt_Write.s1 (x0 : Ptr) (x2 : Int) (r1 : ((Sl × Unit) × Heap)) (s2 : (Int × Sl × Int × Unit)) (H3 : Heap) : Option (((Int × Sl × Int × Unit) ⊕ ((Int × Sl × Unit) ⊕ (Sl × Int × Int × Unit))) × Heap) :=
 cond (decide (s2.2.2.1 < (r1.1.1.len : Int))) (
 (Sl.at 1 r1.1.1 s2.2.2.1).bind fun (a4 : (Nat × Nat)) =>
 (rdS H3 a4.1 a4.2).bind fun (v5 : Bytes) =>
 (write_Writer_Append x0 (x2, s2.1, s2.2.2.1, (r1.1.1.len : Int), 0, ()) v5 H3).bind fun (r6 : ((Int × Int × Unit) × Heap)) =>
 cond (!decide (r6.1.2.1 = 0)) (
 some (Sum.inr (Sum.inr (⟨none, 0, 0⟩, (IntKind.wrap .u64 (s2.1 + 1)), r6.1.2.1, ())), r6.2)) (
 let H7 : Heap := r6.2 ++ [Blk.cells [.int .i64 r6.1.1] .exact]
 (slRow H7 1 (⟨some (r6.2.length, 0), 1, 1⟩)).bind fun (cs8 : (List C)) =>
 (appS H7 1 8 s2.2.1 1 cs8).bind fun (p9 : (Sl × Heap)) =>
 cond (!decide (x2 = 3)) (
 some (Sum.inl ((IntKind.wrap .u64 (s2.1 + 1)), p9.1, (IntKind.wrap .i64 (s2.2.2.1 + 1)), ()), p9.2)) (
 some (Sum.inl (s2.1, p9.1, (IntKind.wrap .i64 (s2.2.2.1 + 1)), ()), p9.2)))) (
 some (Sum.inr (Sum.inl (s2.1, s2.2.1, ())), H3))
noncomputable def ckpt_Write (x0 : Ptr) (x1 : Sl) (x2 : Int) (x3 : Int) (x4 : Int) (H : Heap) : Option ((Sl × Int × Int × Unit) × Heap) :=
 (group_Pack x1 x4 H).bind fun (r1 : ((Sl × Unit) × Heap)) =>
 (loopW (ckpt_Write.s1 x0 x2 r1) (x3, ⟨none, 0, 0⟩, 0, ()) r1.2).bind fun (p10 : ((Int × Sl × Unit) ⊕ (Sl × Int × Int × Unit)) × Heap) =>
 Sum.elim (fun (y11 : (Int × Sl × Unit)) =>
 cond (decide (x2 = 3)) (
 some ((y11.2.1, (IntKind.wrap .u64 (y11.1 + 1)), 0, ()), p10.2)) (
 some ((y11.2.1, y11.1, 0, ()), p10.2))) (fun (z12 : (Sl × Int × Int × Unit)) =>
 some ((z12.1, z12.2.1, z12.2.2.1, ()), p10.2)) p10.1
noncomputable def ckpt_Write.c : Callee := .full [.one .ptr, .one (.sl 6), .one (.int .i64), .one (.int .u64), .one (.int .i64)] [.one (.sl 1), .one (.int .u64), .one (.int .i64)] (fun x H => ckpt_Write x.1 x.2.1 x.2.2.1 x.2.2.2.1 x.2.2.2.2.1 H)
noncomputable def ckpt_Write.calls : Nat → Option Callee
  | 0 => some group_Pack.c
  | 1 => some write_Writer_Append.c
  | _ => none
theorem ckpt_Write.eq : evFull ckpt_Write.calls ckpt_Write.af = (fun x H => ckpt_Write x.1 x.2.1 x.2.2.1 x.2.2.2.1 x.2.2.2.2.1 H) := by kernel_rfl

/-! ### tinderbox/ckpt.whole -/
def ckpt_whole.af : AFun := ⟨[.one (.sl 8), .agg [.int .i64, .int .u64, .int .i64, .int .i64, .int .i64]], [.one (.sl 8), .one .bool], [.t 4, .t 5],
 .seq (.reg [.op ⟨0, some 3, .box (.t 1), none⟩,
  .op ⟨1, some 4, .mv (.c (.one (.sl 8 (⟨none, 0, 0⟩)))), none⟩,
  .op ⟨2, some 5, .mv (.c (.one (.bool false))), none⟩])
 (.seq (.reg [.op ⟨0, some 11, .addr 3 (.t 3), none⟩,
  .op ⟨1, some 12, .load (.one (.int .i64)) (.t 11), none⟩,
  .op ⟨2, some 13, .mk 8 72 [.int .i64 0, .int .i64 0, .int .i64 0, .int .u64 0, .int .i64 0, .int .i64 0, .int .i64 0, .str []] (.t 12) (.t 12), none⟩,
  .op ⟨3, some 6, .mv (.t 13), none⟩])
 (.seq (.reg [.op ⟨0, some 14, .addr 3 (.t 3), none⟩,
  .op ⟨1, some 15, .load (.one (.int .i64)) (.t 14), none⟩,
  .op ⟨2, some 16, .mk 1 1 [.bool false] (.t 15) (.t 15), none⟩,
  .op ⟨3, some 7, .mv (.t 16), none⟩])
 (.seq (.seq (.reg [.op ⟨0, some 17, .mv (.t 0), none⟩,
  .op ⟨1, some 18, .len (.t 17), none⟩,
  .op ⟨2, some 19, .mv (.c (.one (.int .i64 0))), none⟩])
 (.block 0 (.loop [(19, .one (.int .i64))] [(.exit 0, [])] (.seq (.reg [.op ⟨0, some 20, .bin .lss (.t 19) (.t 18), none⟩])
 (.seq (.cond (.t 20) (.skip) (.exit 0))
 (.seq (.block 1 (.seq (.reg [.op ⟨0, some 21, .idxa 8 (.t 17) (.t 19), none⟩,
  .op ⟨1, some 22, .load (.agg [.int .i64, .int .i64, .int .i64, .int .u64, .int .i64, .int .i64, .int .i64, .str]) (.t 21), none⟩,
  .op ⟨2, some 9, .new [.int .i64 0, .int .i64 0, .int .i64 0, .int .u64 0, .int .i64 0, .int .i64 0, .int .i64 0, .str []], none⟩,
  .op ⟨3, none, .store 8 (.t 9) (.t 22), none⟩])
 (.seq (.reg [.op ⟨0, some 23, .addr 2 (.t 9), none⟩,
  .op ⟨1, some 24, .load (.agg [.int .i64, .int .u64, .int .i64, .int .i64, .int .i64]) (.t 23), none⟩,
  .op ⟨2, some 10, .new [.int .i64 0, .int .u64 0, .int .i64 0, .int .i64 0, .int .i64 0], none⟩,
  .op ⟨3, none, .store 5 (.t 10) (.t 24), none⟩])
 (.seq (.scope [(.normal, [(55, .one .bool)])] (.reg [.op ⟨0, some 25, .addr 1 (.t 9), none⟩,
  .op ⟨1, some 26, .load (.one (.int .i64)) (.t 25), none⟩,
  .op ⟨2, some 27, .bin .eql (.t 26) (.c (.one (.int .i64 1))), none⟩,
  .op ⟨3, some 28, .mv (.t 27), none⟩,
  .op ⟨4, some 29, .addr 0 (.t 10), some (28, true)⟩,
  .op ⟨5, some 30, .load (.one (.int .i64)) (.t 29), some (28, true)⟩,
  .op ⟨6, some 31, .addr 0 (.t 3), some (28, true)⟩,
  .op ⟨7, some 32, .load (.one (.int .i64)) (.t 31), some (28, true)⟩,
  .op ⟨8, some 33, .bin .eql (.t 30) (.t 32), some (28, true)⟩,
  .op ⟨9, some 34, .pick (.t 28) (.t 33) (.c (.one (.bool false))), none⟩,
  .op ⟨10, some 35, .mv (.t 34), none⟩,
  .op ⟨11, some 36, .addr 3 (.t 10), some (35, true)⟩,
  .op ⟨12, some 37, .load (.one (.int .i64)) (.t 36), some (35, true)⟩,
  .op ⟨13, some 38, .addr 3 (.t 3), some (35, true)⟩,
  .op ⟨14, some 39, .load (.one (.int .i64)) (.t 38), some (35, true)⟩,
  .op ⟨15, some 40, .bin .eql (.t 37) (.t 39), some (35, true)⟩,
  .op ⟨16, some 41, .pick (.t 35) (.t 40) (.c (.one (.bool false))), none⟩,
  .op ⟨17, some 42, .mv (.t 41), none⟩,
  .op ⟨18, some 43, .addr 2 (.t 10), some (42, true)⟩,
  .op ⟨19, some 44, .load (.one (.int .i64)) (.t 43), some (42, true)⟩,
  .op ⟨20, some 45, .addr 3 (.t 3), some (42, true)⟩,
  .op ⟨21, some 46, .load (.one (.int .i64)) (.t 45), some (42, true)⟩,
  .op ⟨22, some 47, .bin .lss (.t 44) (.t 46), some (42, true)⟩,
  .op ⟨23, some 48, .pick (.t 42) (.t 47) (.c (.one (.bool false))), none⟩,
  .op ⟨24, some 49, .mv (.t 48), none⟩,
  .op ⟨25, some 50, .addr 1 (.t 10), some (49, true)⟩,
  .op ⟨26, some 51, .load (.one (.int .u64)) (.t 50), some (49, true)⟩,
  .op ⟨27, some 52, .addr 1 (.t 3), some (49, true)⟩,
  .op ⟨28, some 53, .load (.one (.int .u64)) (.t 52), some (49, true)⟩,
  .op ⟨29, some 54, .bin .eql (.t 51) (.t 53), some (49, true)⟩,
  .op ⟨30, some 55, .pick (.t 49) (.t 54) (.c (.one (.bool false))), none⟩]))
 (.cond (.t 55) (.reg [.op ⟨0, some 56, .mv (.t 6), none⟩,
  .op ⟨1, some 57, .addr 2 (.t 10), none⟩,
  .op ⟨2, some 58, .load (.one (.int .i64)) (.t 57), none⟩,
  .op ⟨3, some 59, .mv (.t 7), none⟩,
  .op ⟨4, some 60, .addr 2 (.t 10), none⟩,
  .op ⟨5, some 61, .load (.one (.int .i64)) (.t 60), none⟩,
  .op ⟨6, some 62, .load (.agg [.int .i64, .int .i64, .int .i64, .int .u64, .int .i64, .int .i64, .int .i64, .str]) (.t 9), none⟩,
  .op ⟨7, some 63, .idxa 8 (.t 56) (.t 58), none⟩,
  .op ⟨8, none, .store 8 (.t 63) (.t 62), none⟩,
  .op ⟨9, some 64, .idxa 1 (.t 59) (.t 61), none⟩,
  .again ⟨5, some 61, .load (.one (.int .i64)) (.t 60), none⟩,
  .op ⟨10, none, .store 1 (.t 64) (.c (.one (.bool true))), none⟩]) (.skip))))))
 (.reg [.op ⟨0, some 65, .bin .add (.t 19) (.c (.one (.int .i64 1))), none⟩,
  .op ⟨1, some 19, .mv (.t 65), none⟩])))))))
 (.seq (.reg [.op ⟨0, some 66, .mv (.t 6), none⟩,
  .op ⟨1, some 67, .mv (.t 7), none⟩,
  .op ⟨2, some 68, .call 0 [(.t 67), (.c (.one (.bool false)))], none⟩,
  .op ⟨3, some 69, .un .not (.t 68), none⟩,
  .op ⟨4, some 4, .mv (.t 66), none⟩,
  .op ⟨5, some 5, .mv (.t 69), none⟩])
 (.ret)))))⟩
noncomputable def ckpt_whole.s1 (x0 : Sl) (H : Heap) (p3 : (Sl × Heap)) (p5 : (Sl × Heap)) (s6 : (Int × Unit)) (H7 : Heap) : Option (((Int × Unit) ⊕ (Unit)) × Heap) :=
 cond (decide (s6.1 < (x0.len : Int))) (
 (Sl.at 8 x0 s6.1).bind fun (a8 : (Nat × Nat)) =>
 Option.bind (α := (Int × Int × Int × Int × Int × Int × Int × Bytes × Unit)) (rd H7 (.agg [.int .i64, .int .i64, .int .i64, .int .u64, .int .i64, .int .i64, .int .i64, .str]) a8.1 a8.2) fun (v9 : (Int × Int × Int × Int × Int × Int × Int × Bytes × Unit)) =>
 let H10 : Heap := H7 ++ [Blk.cells [.int .i64 0, .int .i64 0, .int .i64 0, .int .u64 0, .int .i64 0, .int .i64 0, .int .i64 0, .str []] .exact]
 (wr H10 H7.length 0 [.int .i64 v9.1, .int .i64 v9.2.1, .int .i64 v9.2.2.1, .int .u64 v9.2.2.2.1, .int .i64 v9.2.2.2.2.1, .int .i64 v9.2.2.2.2.2.1, .int .i64 v9.2.2.2.2.2.2.1, .str v9.2.2.2.2.2.2.2.1]).bind fun (H11 : Heap) =>
 Option.bind (α := (Int × Int × Int × Int × Int × Unit)) (rd H11 (.agg [.int .i64, .int .u64, .int .i64, .int .i64, .int .i64]) H7.length 2) fun (v12 : (Int × Int × Int × Int × Int × Unit)) =>
 let H13 : Heap := H11 ++ [Blk.cells [.int .i64 0, .int .u64 0, .int .i64 0, .int .i64 0, .int .i64 0] .exact]
 (wr H13 H11.length 0 [.int .i64 v12.1, .int .u64 v12.2.1, .int .i64 v12.2.2.1, .int .i64 v12.2.2.2.1, .int .i64 v12.2.2.2.2.1]).bind fun (H14 : Heap) =>
 ((rdI .i64 H14 H7.length 1).bind fun (v15 : Int) =>
 cond (decide (v15 = 1)) (
 (rdI .i64 H14 H11.length 0).bind fun (v16 : Int) =>
 (rdI .i64 H14 H.length 0).bind fun (v17 : Int) =>
 cond (decide (v16 = v17)) (
 (rdI .i64 H14 H11.length 3).bind fun (v18 : Int) =>
 (rdI .i64 H14 H.length 3).bind fun (v19 : Int) =>
 cond (decide (v18 = v19)) (
 (rdI .i64 H14 H11.length 2).bind fun (v20 : Int) =>
 (rdI .i64 H14 H.length 3).bind fun (v21 : Int) =>
 cond (decide (v20 < v21)) (
 (rdI .u64 H14 H11.length 1).bind fun (v22 : Int) =>
 (rdI .u64 H14 H.length 1).bind fun (v23 : Int) =>
 some (((decide (v22 = v23)), ()), H14)) (
 some ((false, ()), H14))) (
 some ((false, ()), H14))) (
 some ((false, ()), H14))) (
 some ((false, ()), H14)) : Option ((Bool × Unit) × Heap)).bind fun (p24 : (Bool × Unit) × Heap) =>
 cond p24.1.1 (
 (rdI .i64 p24.2 H11.length 2).bind fun (v25 : Int) =>
 (rdI .i64 p24.2 H11.length 2).bind fun (v26 : Int) =>
 Option.bind (α := (Int × Int × Int × Int × Int × Int × Int × Bytes × Unit)) (rd p24.2 (.agg [.int .i64, .int .i64, .int .i64, .int .u64, .int .i64, .int .i64, .int .i64, .str]) H7.length 0) fun (v27 : (Int × Int × Int × Int × Int × Int × Int × Bytes × Unit)) =>
 (Sl.at 8 p3.1 v25).bind fun (a28 : (Nat × Nat)) =>
 (wr p24.2 a28.1 a28.2 [.int .i64 v27.1, .int .i64 v27.2.1, .int .i64 v27.2.2.1, .int .u64 v27.2.2.2.1, .int .i64 v27.2.2.2.2.1, .int .i64 v27.2.2.2.2.2.1, .int .i64 v27.2.2.2.2.2.2.1, .str v27.2.2.2.2.2.2.2.1]).bind fun (H29 : Heap) =>
 (Sl.at 1 p5.1 v26).bind fun (a30 : (Nat × Nat)) =>
 (rdI .i64 H29 H11.length 2).bind fun (v31 : Int) =>
 if V.w (.one (.int .i64 v31)) = V.w (.one (.int .i64 v26)) then
 (wr H29 a30.1 a30.2 [.bool true]).bind fun (H32 : Heap) =>
 some (Sum.inl ((IntKind.wrap .i64 (s6.1 + 1)), ()), H32)
 else none) (
 some (Sum.inl ((IntKind.wrap .i64 (s6.1 + 1)), ()), p24.2))) (
 some (Sum.inr (()), H7))
noncomputable def ckpt_whole (x0 : Sl) (x1 : (Int × Int × Int × Int × Int × Unit)) (H : Heap) : Option ((Sl × Bool × Unit) × Heap) :=
 let H1 : Heap := H ++ [Blk.cells [.int .i64 x1.1, .int .u64 x1.2.1, .int .i64 x1.2.2.1, .int .i64 x1.2.2.2.1, .int .i64 x1.2.2.2.2.1] .exact]
 (rdI .i64 H1 H.length 3).bind fun (v2 : Int) =>
 (mkS H1 72 [.int .i64 0, .int .i64 0, .int .i64 0, .int .u64 0, .int .i64 0, .int .i64 0, .int .i64 0, .str []] v2 v2).bind fun (p3 : (Sl × Heap)) =>
 (rdI .i64 p3.2 H.length 3).bind fun (v4 : Int) =>
 (mkS p3.2 1 [.bool false] v4 v4).bind fun (p5 : (Sl × Heap)) =>
 (loopW (ckpt_whole.s1 x0 H p3 p5) (0, ()) p5.2).bind fun (p33 : (Unit) × Heap) =>
 (slices_Contains_bool_bool p5.1 false p33.2).bind fun (r34 : ((Bool × Unit) × Heap)) =>
 some ((p3.1, (!r34.1.1), ()), r34.2)
noncomputable def ckpt_whole.c : Callee := .full [.one (.sl 8), .agg [.int .i64, .int .u64, .int .i64, .int .i64, .int .i64]] [.one (.sl 8), .one .bool] (fun x H => ckpt_whole x.1 x.2.1 H)
noncomputable def ckpt_whole.calls : Nat → Option Callee
  | 0 => some slices_Contains_bool_bool.c
  | _ => none
theorem ckpt_whole.eq : evFull ckpt_whole.calls ckpt_whole.af = (fun x H => ckpt_whole x.1 x.2.1 H) := by kernel_rfl

/-! ### tinderbox/ckpt.Newest -/
def ckpt_Newest.af : AFun := ⟨[.one (.sl 8)], [.one (.sl 8), .one .bool], [.t 2, .t 3],
 .seq (.reg [.op ⟨0, some 2, .mv (.c (.one (.sl 8 (⟨none, 0, 0⟩)))), none⟩,
  .op ⟨1, some 3, .mv (.c (.one (.bool false))), none⟩])
 (.seq (.reg [.op ⟨0, some 4, .mv (.c (.one (.sl 8 (⟨none, 0, 0⟩)))), none⟩])
 (.seq (.seq (.reg [.op ⟨0, some 9, .mv (.t 0), none⟩,
  .op ⟨1, some 10, .len (.t 9), none⟩,
  .op ⟨2, some 11, .mv (.c (.one (.int .i64 0))), none⟩])
 (.block 0 (.loop [(4, .one (.sl 8)), (11, .one (.int .i64))] [(.exit 0, [(4, .one (.sl 8))])] (.seq (.reg [.op ⟨0, some 12, .bin .lss (.t 11) (.t 10), none⟩])
 (.seq (.cond (.t 12) (.skip) (.exit 0))
 (.seq (.block 1 (.seq (.reg [.op ⟨0, some 13, .idxa 8 (.t 9) (.t 11), none⟩,
  .op ⟨1, some 14, .load (.agg [.int .i64, .int .i64, .int .i64, .int .u64, .int .i64, .int .i64, .int .i64, .str]) (.t 13), none⟩,
  .op ⟨2, some 6, .new [.int .i64 0, .int .i64 0, .int .i64 0, .int .u64 0, .int .i64 0, .int .i64 0, .int .i64 0, .str []], none⟩,
  .op ⟨3, none, .store 8 (.t 6) (.t 14), none⟩])
 (.seq (.scope [(.normal, []), (.exit 1, [])] (.seq (.reg [.op ⟨0, some 15, .addr 1 (.t 6), none⟩,
  .op ⟨1, some 16, .load (.one (.int .i64)) (.t 15), none⟩,
  .op ⟨2, some 17, .bin .neq (.t 16) (.c (.one (.int .i64 1))), none⟩,
  .op ⟨3, some 18, .mv (.t 17), none⟩,
  .op ⟨4, some 19, .addr 2 (.t 6), some (18, false)⟩,
  .op ⟨5, some 20, .addr 0 (.t 19), some (18, false)⟩,
  .op ⟨6, some 21, .load (.one (.int .i64)) (.t 20), some (18, false)⟩,
  .op ⟨7, some 22, .bin .neq (.t 21) (.c (.one (.int .i64 3))), some (18, false)⟩,
  .op ⟨8, some 23, .pick (.t 18) (.c (.one (.bool true))) (.t 22), none⟩,
  .op ⟨9, some 24, .mv (.t 23), none⟩,
  .op ⟨10, some 25, .mv (.t 4), some (24, false)⟩,
  .op ⟨11, some 26, .len (.t 25), some (24, false)⟩,
  .op ⟨12, some 27, .bin .gtr (.t 26) (.c (.one (.int .i64 0))), some (24, false)⟩,
  .op ⟨13, some 28, .mv (.t 27), some (24, false)⟩,
  .op ⟨14, some 29, .addr 2 (.t 6), some (28, true)⟩,
  .op ⟨15, some 30, .addr 1 (.t 29), some (28, true)⟩,
  .op ⟨16, some 31, .load (.one (.int .u64)) (.t 30), some (28, true)⟩,
  .op ⟨17, some 32, .mv (.t 4), some (28, true)⟩,
  .op ⟨18, some 33, .idxa 8 (.t 32) (.c (.one (.int .i64 0))), some (28, true)⟩,
  .op ⟨19, some 34, .addr 2 (.t 33), some (28, true)⟩,
  .op ⟨20, some 35, .addr 1 (.t 34), some (28, true)⟩,
  .op ⟨21, some 36, .load (.one (.int .u64)) (.t 35), some (28, true)⟩,
  .op ⟨22, some 37, .bin .leq (.t 31) (.t 36), some (28, true)⟩,
  .op ⟨23, some 38, .pick (.t 28) (.t 37) (.c (.one (.bool false))), some (24, false)⟩,
  .op ⟨24, some 39, .pick (.t 24) (.c (.one (.bool true))) (.t 38), none⟩])
 (.cond (.t 39) (.exit 1) (.skip))))
 (.seq (.reg [.op ⟨0, some 41, .mv (.t 0), none⟩,
  .op ⟨1, some 42, .addr 2 (.t 6), none⟩,
  .op ⟨2, some 43, .load (.agg [.int .i64, .int .u64, .int .i64, .int .i64, .int .i64]) (.t 42), none⟩,
  .op ⟨3, some 44, .call 0 [(.t 41), (.t 43)], none⟩,
  .op ⟨4, some 40, .mv (.t 44), none⟩,
  .op ⟨5, some 45, .ext (.t 40) 0, none⟩,
  .op ⟨6, some 46, .ext (.t 40) 1, none⟩,
  .op ⟨7, some 7, .mv (.t 45), none⟩,
  .op ⟨8, some 8, .mv (.t 46), none⟩])
 (.seq (.reg [.op ⟨0, some 47, .mv (.t 8), none⟩])
 (.cond (.t 47) (.reg [.op ⟨0, some 48, .mv (.t 7), none⟩,
  .op ⟨1, some 4, .mv (.t 48), none⟩]) (.skip)))))))
 (.reg [.op ⟨0, some 49, .bin .add (.t 11) (.c (.one (.int .i64 1))), none⟩,
  .op ⟨1, some 11, .mv (.t 49), none⟩])))))))
 (.seq (.reg [.op ⟨0, some 50, .mv (.t 4), none⟩,
  .op ⟨1, some 51, .mv (.t 4), none⟩,
  .op ⟨2, some 52, .len (.t 51), none⟩,
  .op ⟨3, some 53, .bin .gtr (.t 52) (.c (.one (.int .i64 0))), none⟩,
  .op ⟨4, some 2, .mv (.t 50), none⟩,
  .op ⟨5, some 3, .mv (.t 53), none⟩])
 (.ret))))⟩
noncomputable def ckpt_Newest.s1 (x0 : Sl) (s1 : (Sl × Int × Unit)) (H2 : Heap) : Option (((Sl × Int × Unit) ⊕ (Sl × Unit)) × Heap) :=
 cond (decide (s1.2.1 < (x0.len : Int))) (
 (Sl.at 8 x0 s1.2.1).bind fun (a3 : (Nat × Nat)) =>
 Option.bind (α := (Int × Int × Int × Int × Int × Int × Int × Bytes × Unit)) (rd H2 (.agg [.int .i64, .int .i64, .int .i64, .int .u64, .int .i64, .int .i64, .int .i64, .str]) a3.1 a3.2) fun (v4 : (Int × Int × Int × Int × Int × Int × Int × Bytes × Unit)) =>
 let H5 : Heap := H2 ++ [Blk.cells [.int .i64 0, .int .i64 0, .int .i64 0, .int .u64 0, .int .i64 0, .int .i64 0, .int .i64 0, .str []] .exact]
 (wr H5 H2.length 0 [.int .i64 v4.1, .int .i64 v4.2.1, .int .i64 v4.2.2.1, .int .u64 v4.2.2.2.1, .int .i64 v4.2.2.2.2.1, .int .i64 v4.2.2.2.2.2.1, .int .i64 v4.2.2.2.2.2.2.1, .str v4.2.2.2.2.2.2.2.1]).bind fun (H6 : Heap) =>
 ((rdI .i64 H6 H2.length 1).bind fun (v7 : Int) =>
 cond (!decide (v7 = 1)) (
 some (Sum.inr (()), H6)) (
 (rdI .i64 H6 H2.length 2).bind fun (v8 : Int) =>
 cond (!decide (v8 = 3)) (
 some (Sum.inr (()), H6)) (
 cond (decide (0 < (s1.1.len : Int))) (
 (rdI .u64 H6 H2.length 3).bind fun (v9 : Int) =>
 (Sl.at 8 s1.1 0).bind fun (a10 : (Nat × Nat)) =>
 (rdI .u64 H6 a10.1 (a10.2 + 3)).bind fun (v11 : Int) =>
 cond (decide (v9 ≤ v11)) (
 some (Sum.inr (()), H6)) (
 some (Sum.inl (()), H6))) (
 some (Sum.inl (()), H6)))) : Option (((Unit) ⊕ (Unit)) × Heap)).bind fun (p12 : ((Unit) ⊕ (Unit)) × Heap) =>
 Sum.elim (fun (y13 : (Unit)) =>
 Option.bind (α := (Int × Int × Int × Int × Int × Unit)) (rd p12.2 (.agg [.int .i64, .int .u64, .int .i64, .int .i64, .int .i64]) H2.length 2) fun (v14 : (Int × Int × Int × Int × Int × Unit)) =>
 (ckpt_whole x0 (v14.1, v14.2.1, v14.2.2.1, v14.2.2.2.1, v14.2.2.2.2.1, ()) p12.2).bind fun (r15 : ((Sl × Bool × Unit) × Heap)) =>
 cond r15.1.2.1 (
 some (Sum.inl (r15.1.1, (IntKind.wrap .i64 (s1.2.1 + 1)), ()), r15.2)) (
 some (Sum.inl (s1.1, (IntKind.wrap .i64 (s1.2.1 + 1)), ()), r15.2))) (fun (z16 : (Unit)) =>
 some (Sum.inl (s1.1, (IntKind.wrap .i64 (s1.2.1 + 1)), ()), p12.2)) p12.1) (
 some (Sum.inr (s1.1, ()), H2))
noncomputable def ckpt_Newest (x0 : Sl) (H : Heap) : Option ((Sl × Bool × Unit) × Heap) :=
 (loopW (ckpt_Newest.s1 x0) (⟨none, 0, 0⟩, 0, ()) H).bind fun (p17 : (Sl × Unit) × Heap) =>
 some ((p17.1.1, (decide (0 < (p17.1.1.len : Int))), ()), p17.2)
noncomputable def ckpt_Newest.c : Callee := .full [.one (.sl 8)] [.one (.sl 8), .one .bool] (fun x H => ckpt_Newest x.1 H)
noncomputable def ckpt_Newest.calls : Nat → Option Callee
  | 0 => some ckpt_whole.c
  | _ => none
theorem ckpt_Newest.eq : evFull ckpt_Newest.calls ckpt_Newest.af = (fun x H => ckpt_Newest x.1 H) := by kernel_rfl

/-! ### tinderbox/ckpt.Texts$1 -/
def ckpt_Texts_1.af : AFun := ⟨[.agg [.int .i64, .int .i64, .int .i64, .int .u64, .int .i64, .int .i64, .int .i64, .str]], [.one .str], [.t 2],
 .seq (.reg [.op ⟨0, some 1, .box (.t 0), none⟩,
  .op ⟨1, some 2, .mv (.c (.one (.str []))), none⟩])
 (.seq (.reg [.op ⟨0, some 3, .addr 7 (.t 1), none⟩,
  .op ⟨1, some 4, .load (.one .str) (.t 3), none⟩,
  .op ⟨2, some 2, .mv (.t 4), none⟩])
 (.ret))⟩
noncomputable def ckpt_Texts_1.on (x0 : (Int × Int × Int × Int × Int × Int × Int × Bytes × Unit)) (H : Heap) : Option (Bytes × Unit) :=
 let H1 : Heap := H ++ [Blk.cells [.int .i64 x0.1, .int .i64 x0.2.1, .int .i64 x0.2.2.1, .int .u64 x0.2.2.2.1, .int .i64 x0.2.2.2.2.1, .int .i64 x0.2.2.2.2.2.1, .int .i64 x0.2.2.2.2.2.2.1, .str x0.2.2.2.2.2.2.2.1] .exact]
 (rdS H1 H.length 7).bind fun (v2 : Bytes) =>
 some (v2, ())
noncomputable def ckpt_Texts_1 (x0 : (Int × Int × Int × Int × Int × Int × Int × Bytes × Unit)) : Option (Bytes × Unit) := ckpt_Texts_1.on x0 []
noncomputable def ckpt_Texts_1.c : Callee := .pure [.agg [.int .i64, .int .i64, .int .i64, .int .u64, .int .i64, .int .i64, .int .i64, .str]] [.one .str] (fun x => ckpt_Texts_1 x.1)
noncomputable def ckpt_Texts_1.calls : Nat → Option Callee
  | _ => none
theorem ckpt_Texts_1.eq : evPure ckpt_Texts_1.calls ckpt_Texts_1.af = (fun x H => ckpt_Texts_1.on x.1 H) := by kernel_rfl

/-! ### tinderbox/ckpt.each[tinderbox/api.Found,string].of.ckpt_Texts_1 -/
def ckpt_each_api_Found_string_of_ckpt_Texts_1.af : AFun := ⟨[.one (.sl 8), .one (.fn 62)], [.one (.sl 1)], [.t 4],
 .seq (.reg [.op ⟨0, some 4, .mv (.c (.one (.sl 1 (⟨none, 0, 0⟩)))), none⟩])
 (.seq (.reg [.op ⟨0, some 5, .mv (.c (.one (.sl 1 (⟨none, 0, 0⟩)))), none⟩])
 (.seq (.seq (.reg [.op ⟨0, some 8, .mv (.t 0), none⟩,
  .op ⟨1, some 9, .len (.t 8), none⟩,
  .op ⟨2, some 10, .mv (.c (.one (.int .i64 0))), none⟩])
 (.block 0 (.loop [(5, .one (.sl 1)), (10, .one (.int .i64))] [(.exit 0, [(5, .one (.sl 1))])] (.seq (.reg [.op ⟨0, some 11, .bin .lss (.t 10) (.t 9), none⟩])
 (.seq (.cond (.t 11) (.skip) (.exit 0))
 (.seq (.block 1 (.seq (.reg [.op ⟨0, some 12, .idxa 8 (.t 8) (.t 10), none⟩,
  .op ⟨1, some 13, .load (.agg [.int .i64, .int .i64, .int .i64, .int .u64, .int .i64, .int .i64, .int .i64, .str]) (.t 12), none⟩,
  .op ⟨2, some 7, .new [.int .i64 0, .int .i64 0, .int .i64 0, .int .u64 0, .int .i64 0, .int .i64 0, .int .i64 0, .str []], none⟩,
  .op ⟨3, none, .store 8 (.t 7) (.t 13), none⟩])
 (.reg [.op ⟨0, some 14, .mv (.t 5), none⟩,
  .op ⟨1, some 15, .mv (.t 1), none⟩,
  .op ⟨2, some 16, .load (.agg [.int .i64, .int .i64, .int .i64, .int .u64, .int .i64, .int .i64, .int .i64, .str]) (.t 7), none⟩,
  .op ⟨3, some 17, .callv 62 (.t 15) 0 [(.t 16)], none⟩,
  .op ⟨4, some 18, .bslice 1 1 [.str []] [(0, 1, (.t 17))], none⟩,
  .op ⟨5, some 19, .app 1 16 (.t 14) (.t 18), none⟩,
  .op ⟨6, some 5, .mv (.t 19), none⟩])))
 (.reg [.op ⟨0, some 20, .bin .add (.t 10) (.c (.one (.int .i64 1))), none⟩,
  .op ⟨1, some 10, .mv (.t 20), none⟩])))))))
 (.seq (.reg [.op ⟨0, some 21, .mv (.t 5), none⟩,
  .op ⟨1, some 4, .mv (.t 21), none⟩])
 (.ret))))⟩
noncomputable def ckpt_each_api_Found_string_of_ckpt_Texts_1.s1 (x0 : Sl) (s1 : (Sl × Int × Unit)) (H2 : Heap) : Option (((Sl × Int × Unit) ⊕ (Sl × Unit)) × Heap) :=
 cond (decide (s1.2.1 < (x0.len : Int))) (
 (Sl.at 8 x0 s1.2.1).bind fun (a3 : (Nat × Nat)) =>
 Option.bind (α := (Int × Int × Int × Int × Int × Int × Int × Bytes × Unit)) (rd H2 (.agg [.int .i64, .int .i64, .int .i64, .int .u64, .int .i64, .int .i64, .int .i64, .str]) a3.1 a3.2) fun (v4 : (Int × Int × Int × Int × Int × Int × Int × Bytes × Unit)) =>
 let H5 : Heap := H2 ++ [Blk.cells [.int .i64 0, .int .i64 0, .int .i64 0, .int .u64 0, .int .i64 0, .int .i64 0, .int .i64 0, .str []] .exact]
 (wr H5 H2.length 0 [.int .i64 v4.1, .int .i64 v4.2.1, .int .i64 v4.2.2.1, .int .u64 v4.2.2.2.1, .int .i64 v4.2.2.2.2.1, .int .i64 v4.2.2.2.2.2.1, .int .i64 v4.2.2.2.2.2.2.1, .str v4.2.2.2.2.2.2.2.1]).bind fun (H6 : Heap) =>
 Option.bind (α := (Int × Int × Int × Int × Int × Int × Int × Bytes × Unit)) (rd H6 (.agg [.int .i64, .int .i64, .int .i64, .int .u64, .int .i64, .int .i64, .int .i64, .str]) H2.length 0) fun (v7 : (Int × Int × Int × Int × Int × Int × Int × Bytes × Unit)) =>
 (ckpt_Texts_1 (v7.1, v7.2.1, v7.2.2.1, v7.2.2.2.1, v7.2.2.2.2.1, v7.2.2.2.2.2.1, v7.2.2.2.2.2.2.1, v7.2.2.2.2.2.2.2.1, ())).bind fun (r8 : (Bytes × Unit)) =>
 let H9 : Heap := H6 ++ [Blk.cells [.str r8.1] .exact]
 (slRow H9 1 (⟨some (H6.length, 0), 1, 1⟩)).bind fun (cs10 : (List C)) =>
 (appS H9 1 16 s1.1 1 cs10).bind fun (p11 : (Sl × Heap)) =>
 some (Sum.inl (p11.1, (IntKind.wrap .i64 (s1.2.1 + 1)), ()), p11.2)) (
 some (Sum.inr (s1.1, ()), H2))
noncomputable def ckpt_each_api_Found_string_of_ckpt_Texts_1 (x0 : Sl) (x1 : Unit) (H : Heap) : Option ((Sl × Unit) × Heap) :=
 (loopW (ckpt_each_api_Found_string_of_ckpt_Texts_1.s1 x0) (⟨none, 0, 0⟩, 0, ()) H).bind fun (p12 : (Sl × Unit) × Heap) =>
 some ((p12.1.1, ()), p12.2)
noncomputable def ckpt_each_api_Found_string_of_ckpt_Texts_1.c : Callee := .full [.one (.sl 8), .one (.fn 62)] [.one (.sl 1)] (fun x H => ckpt_each_api_Found_string_of_ckpt_Texts_1 x.1 x.2.1 H)
noncomputable def ckpt_each_api_Found_string_of_ckpt_Texts_1.calls : Nat → Option Callee
  | 0 => some ckpt_Texts_1.c
  | _ => none
theorem ckpt_each_api_Found_string_of_ckpt_Texts_1.eq : evFull ckpt_each_api_Found_string_of_ckpt_Texts_1.calls ckpt_each_api_Found_string_of_ckpt_Texts_1.af = (fun x H => ckpt_each_api_Found_string_of_ckpt_Texts_1 x.1 x.2.1 H) := by kernel_rfl

/-! ### tinderbox/ckpt.Texts -/
def ckpt_Texts.af : AFun := ⟨[.one (.sl 8)], [.one (.sl 1)], [.t 2],
 .seq (.reg [.op ⟨0, some 2, .mv (.c (.one (.sl 1 (⟨none, 0, 0⟩)))), none⟩])
 (.seq (.reg [.op ⟨0, some 3, .mv (.t 0), none⟩,
  .op ⟨1, some 4, .call 0 [(.t 3), (.c (.one (.fn 62)))], none⟩,
  .op ⟨2, some 2, .mv (.t 4), none⟩])
 (.ret))⟩
noncomputable def ckpt_Texts (x0 : Sl) (H : Heap) : Option ((Sl × Unit) × Heap) :=
 (ckpt_each_api_Found_string_of_ckpt_Texts_1 x0 () H).bind fun (r1 : ((Sl × Unit) × Heap)) =>
 some ((r1.1.1, ()), r1.2)
noncomputable def ckpt_Texts.c : Callee := .full [.one (.sl 8)] [.one (.sl 1)] (fun x H => ckpt_Texts x.1 H)
noncomputable def ckpt_Texts.calls : Nat → Option Callee
  | 0 => some ckpt_each_api_Found_string_of_ckpt_Texts_1.c
  | _ => none
theorem ckpt_Texts.eq : evFull ckpt_Texts.calls ckpt_Texts.af = (fun x H => ckpt_Texts x.1 H) := by kernel_rfl
end Ev
