/- What the functions of the package Ref07 compute: abstract code, and a function of plain Lean for each; the kernel checks that they are the same. Written by gen2.py. -/
import Derived.Test.YtbnghapbakaheaaEvCore
import Derived.KernelRfl
set_option linter.unusedVariables false
set_option maxRecDepth 100000
namespace Ev
open Go (IntKind BinOp UnOp)

/-! ### tinderbox/tinderboxref07.row -/
def ref07_row.af : AFun := ⟨[.agg [.int .i64, .int .i64, .int .i64, .int .i64, .int .i64, .int .i64]], [.one (.sl 1), .one (.sl 1), .one (.sl 1), .one .bool], [.t 2, .t 3, .t 4, .t 5],
 .seq (.reg [.op ⟨0, some 1, .box (.t 0), none⟩,
  .op ⟨1, some 2, .mv (.c (.one (.sl 1 (⟨none, 0, 0⟩)))), none⟩,
  .op ⟨2, some 3, .mv (.c (.one (.sl 1 (⟨none, 0, 0⟩)))), none⟩,
  .op ⟨3, some 4, .mv (.c (.one (.sl 1 (⟨none, 0, 0⟩)))), none⟩,
  .op ⟨4, some 5, .mv (.c (.one (.bool false))), none⟩])
 (.seq (.seq (.reg [.op ⟨0, some 6, .addr 0 (.t 1), none⟩,
  .op ⟨1, some 7, .load (.one (.int .i64)) (.t 6), none⟩])
 (.block 0 (.seq (.reg [.op ⟨0, some 9, .bin .eql (.t 7) (.c (.one (.int .i64 1))), none⟩,
  .op ⟨1, some 8, .mv (.t 9), none⟩])
 (.cond (.t 8) (.seq (.reg [.op ⟨0, some 10, .addr 1 (.t 1), none⟩,
  .op ⟨1, some 11, .load (.one (.int .i64)) (.t 10), none⟩,
  .op ⟨2, some 12, .addr 2 (.t 1), none⟩,
  .op ⟨3, some 13, .load (.one (.int .i64)) (.t 12), none⟩,
  .op ⟨4, some 14, .addr 3 (.t 1), none⟩,
  .op ⟨5, some 15, .load (.one (.int .i64)) (.t 14), none⟩,
  .op ⟨6, some 16, .bslice 1 3 [.int .i64 0, .int .i64 0, .int .i64 0] [(0, 1, (.t 11)), (1, 1, (.t 13)), (2, 1, (.t 15))], none⟩,
  .op ⟨7, some 17, .bslice 1 3 [.int .i64 0, .int .i64 0, .int .i64 0] [(0, 1, (.c (.one (.int .i64 1)))), (1, 1, (.c (.one (.int .i64 0)))), (2, 1, (.c (.one (.int .i64 0))))], none⟩,
  .op ⟨8, some 18, .bslice 1 3 [.int .i64 0, .int .i64 0, .int .i64 0] [(0, 1, (.c (.one (.int .i64 15)))), (1, 1, (.c (.one (.int .i64 1023)))), (2, 1, (.c (.one (.int .i64 511))))], none⟩,
  .op ⟨9, some 2, .mv (.t 16), none⟩,
  .op ⟨10, some 3, .mv (.t 17), none⟩,
  .op ⟨11, some 4, .mv (.t 18), none⟩,
  .op ⟨12, some 5, .mv (.c (.one (.bool true))), none⟩])
 (.ret)) (.seq (.reg [.op ⟨0, some 20, .bin .eql (.t 7) (.c (.one (.int .i64 2))), none⟩,
  .op ⟨1, some 19, .mv (.t 20), none⟩])
 (.cond (.t 19) (.seq (.reg [.op ⟨0, some 21, .addr 1 (.t 1), none⟩,
  .op ⟨1, some 22, .load (.one (.int .i64)) (.t 21), none⟩,
  .op ⟨2, some 23, .addr 2 (.t 1), none⟩,
  .op ⟨3, some 24, .load (.one (.int .i64)) (.t 23), none⟩,
  .op ⟨4, some 25, .bslice 1 2 [.int .i64 0, .int .i64 0] [(0, 1, (.t 22)), (1, 1, (.t 24))], none⟩,
  .op ⟨5, some 26, .bslice 1 2 [.int .i64 0, .int .i64 0] [(0, 1, (.c (.one (.int .i64 1)))), (1, 1, (.c (.one (.int .i64 0))))], none⟩,
  .op ⟨6, some 27, .bslice 1 2 [.int .i64 0, .int .i64 0] [(0, 1, (.c (.one (.int .i64 15)))), (1, 1, (.c (.one (.int .i64 1023))))], none⟩,
  .op ⟨7, some 2, .mv (.t 25), none⟩,
  .op ⟨8, some 3, .mv (.t 26), none⟩,
  .op ⟨9, some 4, .mv (.t 27), none⟩,
  .op ⟨10, some 5, .mv (.c (.one (.bool true))), none⟩])
 (.ret)) (.seq (.reg [.op ⟨0, some 29, .bin .eql (.t 7) (.c (.one (.int .i64 3))), none⟩,
  .op ⟨1, some 28, .mv (.t 29), none⟩])
 (.cond (.t 28) (.seq (.reg [.op ⟨0, some 30, .addr 3 (.t 1), none⟩,
  .op ⟨1, some 31, .load (.one (.int .i64)) (.t 30), none⟩,
  .op ⟨2, some 32, .addr 4 (.t 1), none⟩,
  .op ⟨3, some 33, .load (.one (.int .i64)) (.t 32), none⟩,
  .op ⟨4, some 34, .bslice 1 2 [.int .i64 0, .int .i64 0] [(0, 1, (.t 31)), (1, 1, (.t 33))], none⟩,
  .op ⟨5, some 35, .bslice 1 2 [.int .i64 0, .int .i64 0] [(0, 1, (.c (.one (.int .i64 0)))), (1, 1, (.c (.one (.int .i64 0))))], none⟩,
  .op ⟨6, some 36, .bslice 1 2 [.int .i64 0, .int .i64 0] [(0, 1, (.c (.one (.int .i64 511)))), (1, 1, (.c (.one (.int .i64 511))))], none⟩,
  .op ⟨7, some 2, .mv (.t 34), none⟩,
  .op ⟨8, some 3, .mv (.t 35), none⟩,
  .op ⟨9, some 4, .mv (.t 36), none⟩,
  .op ⟨10, some 5, .mv (.c (.one (.bool true))), none⟩])
 (.ret)) (.seq (.reg [.op ⟨0, some 38, .bin .eql (.t 7) (.c (.one (.int .i64 4))), none⟩,
  .op ⟨1, some 37, .mv (.t 38), none⟩])
 (.cond (.t 37) (.seq (.reg [.op ⟨0, some 39, .addr 1 (.t 1), none⟩,
  .op ⟨1, some 40, .load (.one (.int .i64)) (.t 39), none⟩,
  .op ⟨2, some 41, .addr 5 (.t 1), none⟩,
  .op ⟨3, some 42, .load (.one (.int .i64)) (.t 41), none⟩,
  .op ⟨4, some 43, .bslice 1 2 [.int .i64 0, .int .i64 0] [(0, 1, (.t 40)), (1, 1, (.t 42))], none⟩,
  .op ⟨5, some 44, .bslice 1 2 [.int .i64 0, .int .i64 0] [(0, 1, (.c (.one (.int .i64 1)))), (1, 1, (.c (.one (.int .i64 1))))], none⟩,
  .op ⟨6, some 45, .bslice 1 2 [.int .i64 0, .int .i64 0] [(0, 1, (.c (.one (.int .i64 15)))), (1, 1, (.c (.one (.int .i64 1024))))], none⟩,
  .op ⟨7, some 2, .mv (.t 43), none⟩,
  .op ⟨8, some 3, .mv (.t 44), none⟩,
  .op ⟨9, some 4, .mv (.t 45), none⟩,
  .op ⟨10, some 5, .mv (.c (.one (.bool true))), none⟩])
 (.ret)) (.seq (.scope [(.normal, [(46, .one .bool)])] (.seq (.reg [.op ⟨0, some 47, .bin .eql (.t 7) (.c (.one (.int .i64 5))), none⟩,
  .op ⟨1, some 46, .mv (.t 47), none⟩])
 (.cond (.t 46) (.skip) (.reg [.op ⟨0, some 48, .bin .eql (.t 7) (.c (.one (.int .i64 7))), none⟩,
  .op ⟨1, some 46, .mv (.t 48), none⟩]))))
 (.cond (.t 46) (.seq (.reg [.op ⟨0, some 49, .addr 1 (.t 1), none⟩,
  .op ⟨1, some 50, .load (.one (.int .i64)) (.t 49), none⟩,
  .op ⟨2, some 51, .bslice 1 1 [.int .i64 0] [(0, 1, (.t 50))], none⟩,
  .op ⟨3, some 52, .bslice 1 1 [.int .i64 0] [(0, 1, (.c (.one (.int .i64 1))))], none⟩,
  .op ⟨4, some 53, .bslice 1 1 [.int .i64 0] [(0, 1, (.c (.one (.int .i64 15))))], none⟩,
  .op ⟨5, some 2, .mv (.t 51), none⟩,
  .op ⟨6, some 3, .mv (.t 52), none⟩,
  .op ⟨7, some 4, .mv (.t 53), none⟩,
  .op ⟨8, some 5, .mv (.c (.one (.bool true))), none⟩])
 (.ret)) (.seq (.reg [.op ⟨0, some 55, .bin .eql (.t 7) (.c (.one (.int .i64 6))), none⟩,
  .op ⟨1, some 54, .mv (.t 55), none⟩])
 (.cond (.t 54) (.seq (.reg [.op ⟨0, some 56, .addr 1 (.t 1), none⟩,
  .op ⟨1, some 57, .load (.one (.int .i64)) (.t 56), none⟩,
  .op ⟨2, some 58, .addr 4 (.t 1), none⟩,
  .op ⟨3, some 59, .load (.one (.int .i64)) (.t 58), none⟩,
  .op ⟨4, some 60, .bslice 1 2 [.int .i64 0, .int .i64 0] [(0, 1, (.t 57)), (1, 1, (.t 59))], none⟩,
  .op ⟨5, some 61, .bslice 1 2 [.int .i64 0, .int .i64 0] [(0, 1, (.c (.one (.int .i64 1)))), (1, 1, (.c (.one (.int .i64 1))))], none⟩,
  .op ⟨6, some 62, .bslice 1 2 [.int .i64 0, .int .i64 0] [(0, 1, (.c (.one (.int .i64 15)))), (1, 1, (.c (.one (.int .i64 15))))], none⟩,
  .op ⟨7, some 2, .mv (.t 60), none⟩,
  .op ⟨8, some 3, .mv (.t 61), none⟩,
  .op ⟨9, some 4, .mv (.t 62), none⟩,
  .op ⟨10, some 5, .mv (.c (.one (.bool true))), none⟩])
 (.ret)) (.seq (.reg [.op ⟨0, some 64, .bin .eql (.t 7) (.c (.one (.int .i64 8))), none⟩,
  .op ⟨1, some 63, .mv (.t 64), none⟩])
 (.cond (.t 63) (.seq (.reg [.op ⟨0, some 65, .addr 3 (.t 1), none⟩,
  .op ⟨1, some 66, .load (.one (.int .i64)) (.t 65), none⟩,
  .op ⟨2, some 67, .bslice 1 1 [.int .i64 0] [(0, 1, (.t 66))], none⟩,
  .op ⟨3, some 68, .bslice 1 1 [.int .i64 0] [(0, 1, (.c (.one (.int .i64 0))))], none⟩,
  .op ⟨4, some 69, .bslice 1 1 [.int .i64 0] [(0, 1, (.c (.one (.int .i64 31))))], none⟩,
  .op ⟨5, some 2, .mv (.t 67), none⟩,
  .op ⟨6, some 3, .mv (.t 68), none⟩,
  .op ⟨7, some 4, .mv (.t 69), none⟩,
  .op ⟨8, some 5, .mv (.c (.one (.bool true))), none⟩])
 (.ret)) (.seq (.reg [.op ⟨0, some 71, .bin .eql (.t 7) (.c (.one (.int .i64 9))), none⟩,
  .op ⟨1, some 70, .mv (.t 71), none⟩])
 (.cond (.t 70) (.seq (.reg [.op ⟨0, some 72, .addr 3 (.t 1), none⟩,
  .op ⟨1, some 73, .load (.one (.int .i64)) (.t 72), none⟩,
  .op ⟨2, some 74, .addr 5 (.t 1), none⟩,
  .op ⟨3, some 75, .load (.one (.int .i64)) (.t 74), none⟩,
  .op ⟨4, some 76, .bslice 1 2 [.int .i64 0, .int .i64 0] [(0, 1, (.t 73)), (1, 1, (.t 75))], none⟩,
  .op ⟨5, some 77, .bslice 1 2 [.int .i64 0, .int .i64 0] [(0, 1, (.c (.one (.int .i64 0)))), (1, 1, (.c (.one (.int .i64 0))))], none⟩,
  .op ⟨6, some 78, .bslice 1 2 [.int .i64 0, .int .i64 0] [(0, 1, (.c (.one (.int .i64 31)))), (1, 1, (.c (.one (.int .i64 1073741824))))], none⟩,
  .op ⟨7, some 2, .mv (.t 76), none⟩,
  .op ⟨8, some 3, .mv (.t 77), none⟩,
  .op ⟨9, some 4, .mv (.t 78), none⟩,
  .op ⟨10, some 5, .mv (.c (.one (.bool true))), none⟩])
 (.ret)) (.skip)))))))))))))))))))
 (.seq (.reg [.op ⟨0, some 2, .mv (.c (.one (.sl 1 (⟨none, 0, 0⟩)))), none⟩,
  .op ⟨1, some 3, .mv (.c (.one (.sl 1 (⟨none, 0, 0⟩)))), none⟩,
  .op ⟨2, some 4, .mv (.c (.one (.sl 1 (⟨none, 0, 0⟩)))), none⟩,
  .op ⟨3, some 5, .mv (.c (.one (.bool false))), none⟩])
 (.ret)))⟩
noncomputable def ref07_row (x0 : (Int × Int × Int × Int × Int × Int × Unit)) (H : Heap) : Option ((Sl × Sl × Sl × Bool × Unit) × Heap) :=
 let H1 : Heap := H ++ [Blk.cells [.int .i64 x0.1, .int .i64 x0.2.1, .int .i64 x0.2.2.1, .int .i64 x0.2.2.2.1, .int .i64 x0.2.2.2.2.1, .int .i64 x0.2.2.2.2.2.1] .exact]
 (rdI .i64 H1 H.length 0).bind fun (v2 : Int) =>
 cond (decide (v2 = 1)) (
 (rdI .i64 H1 H.length 1).bind fun (v3 : Int) =>
 (rdI .i64 H1 H.length 2).bind fun (v4 : Int) =>
 (rdI .i64 H1 H.length 3).bind fun (v5 : Int) =>
 let H6 : Heap := H1 ++ [Blk.cells [.int .i64 v3, .int .i64 v4, .int .i64 v5] .exact]
 let H7 : Heap := H6 ++ [Blk.cells [.int .i64 1, .int .i64 0, .int .i64 0] .exact]
 let H8 : Heap := H7 ++ [Blk.cells [.int .i64 15, .int .i64 1023, .int .i64 511] .exact]
 some ((⟨some (H1.length, 0), 3, 3⟩, ⟨some (H6.length, 0), 3, 3⟩, ⟨some (H7.length, 0), 3, 3⟩, true, ()), H8)) (
 cond (decide (v2 = 2)) (
 (rdI .i64 H1 H.length 1).bind fun (v9 : Int) =>
 (rdI .i64 H1 H.length 2).bind fun (v10 : Int) =>
 let H11 : Heap := H1 ++ [Blk.cells [.int .i64 v9, .int .i64 v10] .exact]
 let H12 : Heap := H11 ++ [Blk.cells [.int .i64 1, .int .i64 0] .exact]
 let H13 : Heap := H12 ++ [Blk.cells [.int .i64 15, .int .i64 1023] .exact]
 some ((⟨some (H1.length, 0), 2, 2⟩, ⟨some (H11.length, 0), 2, 2⟩, ⟨some (H12.length, 0), 2, 2⟩, true, ()), H13)) (
 cond (decide (v2 = 3)) (
 (rdI .i64 H1 H.length 3).bind fun (v14 : Int) =>
 (rdI .i64 H1 H.length 4).bind fun (v15 : Int) =>
 let H16 : Heap := H1 ++ [Blk.cells [.int .i64 v14, .int .i64 v15] .exact]
 let H17 : Heap := H16 ++ [Blk.cells [.int .i64 0, .int .i64 0] .exact]
 let H18 : Heap := H17 ++ [Blk.cells [.int .i64 511, .int .i64 511] .exact]
 some ((⟨some (H1.length, 0), 2, 2⟩, ⟨some (H16.length, 0), 2, 2⟩, ⟨some (H17.length, 0), 2, 2⟩, true, ()), H18)) (
 cond (decide (v2 = 4)) (
 (rdI .i64 H1 H.length 1).bind fun (v19 : Int) =>
 (rdI .i64 H1 H.length 5).bind fun (v20 : Int) =>
 let H21 : Heap := H1 ++ [Blk.cells [.int .i64 v19, .int .i64 v20] .exact]
 let H22 : Heap := H21 ++ [Blk.cells [.int .i64 1, .int .i64 1] .exact]
 let H23 : Heap := H22 ++ [Blk.cells [.int .i64 15, .int .i64 1024] .exact]
 some ((⟨some (H1.length, 0), 2, 2⟩, ⟨some (H21.length, 0), 2, 2⟩, ⟨some (H22.length, 0), 2, 2⟩, true, ()), H23)) (
 (cond (decide (v2 = 5)) (
 some (((decide (v2 = 5)), ()), H1)) (
 some (((decide (v2 = 7)), ()), H1)) : Option ((Bool × Unit) × Heap)).bind fun (p24 : (Bool × Unit) × Heap) =>
 cond p24.1.1 (
 (rdI .i64 p24.2 H.length 1).bind fun (v25 : Int) =>
 let H26 : Heap := p24.2 ++ [Blk.cells [.int .i64 v25] .exact]
 let H27 : Heap := H26 ++ [Blk.cells [.int .i64 1] .exact]
 let H28 : Heap := H27 ++ [Blk.cells [.int .i64 15] .exact]
 some ((⟨some (p24.2.length, 0), 1, 1⟩, ⟨some (H26.length, 0), 1, 1⟩, ⟨some (H27.length, 0), 1, 1⟩, true, ()), H28)) (
 cond (decide (v2 = 6)) (
 (rdI .i64 p24.2 H.length 1).bind fun (v29 : Int) =>
 (rdI .i64 p24.2 H.length 4).bind fun (v30 : Int) =>
 let H31 : Heap := p24.2 ++ [Blk.cells [.int .i64 v29, .int .i64 v30] .exact]
 let H32 : Heap := H31 ++ [Blk.cells [.int .i64 1, .int .i64 1] .exact]
 let H33 : Heap := H32 ++ [Blk.cells [.int .i64 15, .int .i64 15] .exact]
 some ((⟨some (p24.2.length, 0), 2, 2⟩, ⟨some (H31.length, 0), 2, 2⟩, ⟨some (H32.length, 0), 2, 2⟩, true, ()), H33)) (
 cond (decide (v2 = 8)) (
 (rdI .i64 p24.2 H.length 3).bind fun (v34 : Int) =>
 let H35 : Heap := p24.2 ++ [Blk.cells [.int .i64 v34] .exact]
 let H36 : Heap := H35 ++ [Blk.cells [.int .i64 0] .exact]
 let H37 : Heap := H36 ++ [Blk.cells [.int .i64 31] .exact]
 some ((⟨some (p24.2.length, 0), 1, 1⟩, ⟨some (H35.length, 0), 1, 1⟩, ⟨some (H36.length, 0), 1, 1⟩, true, ()), H37)) (
 cond (decide (v2 = 9)) (
 (rdI .i64 p24.2 H.length 3).bind fun (v38 : Int) =>
 (rdI .i64 p24.2 H.length 5).bind fun (v39 : Int) =>
 let H40 : Heap := p24.2 ++ [Blk.cells [.int .i64 v38, .int .i64 v39] .exact]
 let H41 : Heap := H40 ++ [Blk.cells [.int .i64 0, .int .i64 0] .exact]
 let H42 : Heap := H41 ++ [Blk.cells [.int .i64 31, .int .i64 1073741824] .exact]
 some ((⟨some (p24.2.length, 0), 2, 2⟩, ⟨some (H40.length, 0), 2, 2⟩, ⟨some (H41.length, 0), 2, 2⟩, true, ()), H42)) (
 some ((⟨none, 0, 0⟩, ⟨none, 0, 0⟩, ⟨none, 0, 0⟩, false, ()), p24.2)))))))))
noncomputable def ref07_row.c : Callee := .full [.agg [.int .i64, .int .i64, .int .i64, .int .i64, .int .i64, .int .i64]] [.one (.sl 1), .one (.sl 1), .one (.sl 1), .one .bool] (fun x H => ref07_row x.1 H)
noncomputable def ref07_row.calls : Nat → Option Callee
  | _ => none
theorem ref07_row.eq : evFull ref07_row.calls ref07_row.af = (fun x H => ref07_row x.1 H) := by kernel_rfl

/-! ### tinderbox/tinderboxref07.of -/
def ref07_of.af : AFun := ⟨[.one (.int .i64), .one (.sl 1)], [.agg [.int .i64, .int .i64, .int .i64, .int .i64, .int .i64, .int .i64]], [.cell 4],
 .seq (.reg [.op ⟨0, some 4, .new [.int .i64 0, .int .i64 0, .int .i64 0, .int .i64 0, .int .i64 0, .int .i64 0], none⟩])
 (.seq (.seq (.reg [.op ⟨0, some 5, .mv (.t 0), none⟩])
 (.block 0 (.seq (.reg [.op ⟨0, some 7, .bin .eql (.t 5) (.c (.one (.int .i64 1))), none⟩,
  .op ⟨1, some 6, .mv (.t 7), none⟩])
 (.cond (.t 6) (.seq (.reg [.op ⟨0, some 8, .mv (.t 1), none⟩,
  .op ⟨1, some 9, .idxa 1 (.t 8) (.c (.one (.int .i64 0))), none⟩,
  .op ⟨2, some 10, .load (.one (.int .i64)) (.t 9), none⟩,
  .op ⟨3, some 11, .mv (.t 1), none⟩,
  .op ⟨4, some 12, .idxa 1 (.t 11) (.c (.one (.int .i64 1))), none⟩,
  .op ⟨5, some 13, .load (.one (.int .i64)) (.t 12), none⟩,
  .op ⟨6, some 14, .mv (.t 1), none⟩,
  .op ⟨7, some 15, .idxa 1 (.t 14) (.c (.one (.int .i64 2))), none⟩,
  .op ⟨8, some 16, .load (.one (.int .i64)) (.t 15), none⟩,
  .op ⟨9, some 17, .build [.int .i64 0, .int .i64 0, .int .i64 0, .int .i64 0, .int .i64 0, .int .i64 0] [(0, 1, (.c (.one (.int .i64 1)))), (1, 1, (.t 10)), (2, 1, (.t 13)), (3, 1, (.t 16))], none⟩,
  .op ⟨10, none, .store 6 (.t 4) (.t 17), none⟩])
 (.ret)) (.seq (.reg [.op ⟨0, some 19, .bin .eql (.t 5) (.c (.one (.int .i64 2))), none⟩,
  .op ⟨1, some 18, .mv (.t 19), none⟩])
 (.cond (.t 18) (.seq (.reg [.op ⟨0, some 20, .mv (.t 1), none⟩,
  .op ⟨1, some 21, .idxa 1 (.t 20) (.c (.one (.int .i64 0))), none⟩,
  .op ⟨2, some 22, .load (.one (.int .i64)) (.t 21), none⟩,
  .op ⟨3, some 23, .mv (.t 1), none⟩,
  .op ⟨4, some 24, .idxa 1 (.t 23) (.c (.one (.int .i64 1))), none⟩,
  .op ⟨5, some 25, .load (.one (.int .i64)) (.t 24), none⟩,
  .op ⟨6, some 26, .build [.int .i64 0, .int .i64 0, .int .i64 0, .int .i64 0, .int .i64 0, .int .i64 0] [(0, 1, (.c (.one (.int .i64 2)))), (1, 1, (.t 22)), (2, 1, (.t 25))], none⟩,
  .op ⟨7, none, .store 6 (.t 4) (.t 26), none⟩])
 (.ret)) (.seq (.reg [.op ⟨0, some 28, .bin .eql (.t 5) (.c (.one (.int .i64 3))), none⟩,
  .op ⟨1, some 27, .mv (.t 28), none⟩])
 (.cond (.t 27) (.seq (.reg [.op ⟨0, some 29, .mv (.t 1), none⟩,
  .op ⟨1, some 30, .idxa 1 (.t 29) (.c (.one (.int .i64 0))), none⟩,
  .op ⟨2, some 31, .load (.one (.int .i64)) (.t 30), none⟩,
  .op ⟨3, some 32, .mv (.t 1), none⟩,
  .op ⟨4, some 33, .idxa 1 (.t 32) (.c (.one (.int .i64 1))), none⟩,
  .op ⟨5, some 34, .load (.one (.int .i64)) (.t 33), none⟩,
  .op ⟨6, some 35, .build [.int .i64 0, .int .i64 0, .int .i64 0, .int .i64 0, .int .i64 0, .int .i64 0] [(0, 1, (.c (.one (.int .i64 3)))), (3, 1, (.t 31)), (4, 1, (.t 34))], none⟩,
  .op ⟨7, none, .store 6 (.t 4) (.t 35), none⟩])
 (.ret)) (.seq (.reg [.op ⟨0, some 37, .bin .eql (.t 5) (.c (.one (.int .i64 4))), none⟩,
  .op ⟨1, some 36, .mv (.t 37), none⟩])
 (.cond (.t 36) (.seq (.reg [.op ⟨0, some 38, .mv (.t 1), none⟩,
  .op ⟨1, some 39, .idxa 1 (.t 38) (.c (.one (.int .i64 0))), none⟩,
  .op ⟨2, some 40, .load (.one (.int .i64)) (.t 39), none⟩,
  .op ⟨3, some 41, .mv (.t 1), none⟩,
  .op ⟨4, some 42, .idxa 1 (.t 41) (.c (.one (.int .i64 1))), none⟩,
  .op ⟨5, some 43, .load (.one (.int .i64)) (.t 42), none⟩,
  .op ⟨6, some 44, .build [.int .i64 0, .int .i64 0, .int .i64 0, .int .i64 0, .int .i64 0, .int .i64 0] [(0, 1, (.c (.one (.int .i64 4)))), (1, 1, (.t 40)), (5, 1, (.t 43))], none⟩,
  .op ⟨7, none, .store 6 (.t 4) (.t 44), none⟩])
 (.ret)) (.seq (.reg [.op ⟨0, some 46, .bin .eql (.t 5) (.c (.one (.int .i64 6))), none⟩,
  .op ⟨1, some 45, .mv (.t 46), none⟩])
 (.cond (.t 45) (.seq (.reg [.op ⟨0, some 47, .mv (.t 1), none⟩,
  .op ⟨1, some 48, .idxa 1 (.t 47) (.c (.one (.int .i64 0))), none⟩,
  .op ⟨2, some 49, .load (.one (.int .i64)) (.t 48), none⟩,
  .op ⟨3, some 50, .mv (.t 1), none⟩,
  .op ⟨4, some 51, .idxa 1 (.t 50) (.c (.one (.int .i64 1))), none⟩,
  .op ⟨5, some 52, .load (.one (.int .i64)) (.t 51), none⟩,
  .op ⟨6, some 53, .build [.int .i64 0, .int .i64 0, .int .i64 0, .int .i64 0, .int .i64 0, .int .i64 0] [(0, 1, (.c (.one (.int .i64 6)))), (1, 1, (.t 49)), (4, 1, (.t 52))], none⟩,
  .op ⟨7, none, .store 6 (.t 4) (.t 53), none⟩])
 (.ret)) (.seq (.reg [.op ⟨0, some 55, .bin .eql (.t 5) (.c (.one (.int .i64 8))), none⟩,
  .op ⟨1, some 54, .mv (.t 55), none⟩])
 (.cond (.t 54) (.seq (.reg [.op ⟨0, some 56, .mv (.t 1), none⟩,
  .op ⟨1, some 57, .idxa 1 (.t 56) (.c (.one (.int .i64 0))), none⟩,
  .op ⟨2, some 58, .load (.one (.int .i64)) (.t 57), none⟩,
  .op ⟨3, some 59, .build [.int .i64 0, .int .i64 0, .int .i64 0, .int .i64 0, .int .i64 0, .int .i64 0] [(0, 1, (.c (.one (.int .i64 8)))), (3, 1, (.t 58))], none⟩,
  .op ⟨4, none, .store 6 (.t 4) (.t 59), none⟩])
 (.ret)) (.seq (.reg [.op ⟨0, some 61, .bin .eql (.t 5) (.c (.one (.int .i64 9))), none⟩,
  .op ⟨1, some 60, .mv (.t 61), none⟩])
 (.cond (.t 60) (.seq (.reg [.op ⟨0, some 62, .mv (.t 1), none⟩,
  .op ⟨1, some 63, .idxa 1 (.t 62) (.c (.one (.int .i64 0))), none⟩,
  .op ⟨2, some 64, .load (.one (.int .i64)) (.t 63), none⟩,
  .op ⟨3, some 65, .mv (.t 1), none⟩,
  .op ⟨4, some 66, .idxa 1 (.t 65) (.c (.one (.int .i64 1))), none⟩,
  .op ⟨5, some 67, .load (.one (.int .i64)) (.t 66), none⟩,
  .op ⟨6, some 68, .build [.int .i64 0, .int .i64 0, .int .i64 0, .int .i64 0, .int .i64 0, .int .i64 0] [(0, 1, (.c (.one (.int .i64 9)))), (3, 1, (.t 64)), (5, 1, (.t 67))], none⟩,
  .op ⟨7, none, .store 6 (.t 4) (.t 68), none⟩])
 (.ret)) (.skip)))))))))))))))))
 (.seq (.reg [.op ⟨0, some 69, .mv (.t 0), none⟩,
  .op ⟨1, some 70, .mv (.t 1), none⟩,
  .op ⟨2, some 71, .idxa 1 (.t 70) (.c (.one (.int .i64 0))), none⟩,
  .op ⟨3, some 72, .load (.one (.int .i64)) (.t 71), none⟩,
  .op ⟨4, some 73, .build [.int .i64 0, .int .i64 0, .int .i64 0, .int .i64 0, .int .i64 0, .int .i64 0] [(0, 1, (.t 69)), (1, 1, (.t 72))], none⟩,
  .op ⟨5, none, .store 6 (.t 4) (.t 73), none⟩])
 (.ret)))⟩
noncomputable def ref07_of (x0 : Int) (x1 : Sl) (H : Heap) : Option (((Int × Int × Int × Int × Int × Int × Unit) × Unit) × Heap) :=
 let H1 : Heap := H ++ [Blk.cells [.int .i64 0, .int .i64 0, .int .i64 0, .int .i64 0, .int .i64 0, .int .i64 0] .exact]
 cond (decide (x0 = 1)) (
 (Sl.at 1 x1 0).bind fun (a2 : (Nat × Nat)) =>
 (rdI .i64 H1 a2.1 a2.2).bind fun (v3 : Int) =>
 (Sl.at 1 x1 1).bind fun (a4 : (Nat × Nat)) =>
 (rdI .i64 H1 a4.1 a4.2).bind fun (v5 : Int) =>
 (Sl.at 1 x1 2).bind fun (a6 : (Nat × Nat)) =>
 (rdI .i64 H1 a6.1 a6.2).bind fun (v7 : Int) =>
 (wr H1 H.length 0 [.int .i64 1, .int .i64 v3, .int .i64 v5, .int .i64 v7, .int .i64 0, .int .i64 0]).bind fun (H8 : Heap) =>
 Option.bind (α := (Int × Int × Int × Int × Int × Int × Unit)) (rd H8 (.agg [.int .i64, .int .i64, .int .i64, .int .i64, .int .i64, .int .i64]) H.length 0) fun (v9 : (Int × Int × Int × Int × Int × Int × Unit)) =>
 some ((v9, ()), H8)) (
 cond (decide (x0 = 2)) (
 (Sl.at 1 x1 0).bind fun (a10 : (Nat × Nat)) =>
 (rdI .i64 H1 a10.1 a10.2).bind fun (v11 : Int) =>
 (Sl.at 1 x1 1).bind fun (a12 : (Nat × Nat)) =>
 (rdI .i64 H1 a12.1 a12.2).bind fun (v13 : Int) =>
 (wr H1 H.length 0 [.int .i64 2, .int .i64 v11, .int .i64 v13, .int .i64 0, .int .i64 0, .int .i64 0]).bind fun (H14 : Heap) =>
 Option.bind (α := (Int × Int × Int × Int × Int × Int × Unit)) (rd H14 (.agg [.int .i64, .int .i64, .int .i64, .int .i64, .int .i64, .int .i64]) H.length 0) fun (v15 : (Int × Int × Int × Int × Int × Int × Unit)) =>
 some ((v15, ()), H14)) (
 cond (decide (x0 = 3)) (
 (Sl.at 1 x1 0).bind fun (a16 : (Nat × Nat)) =>
 (rdI .i64 H1 a16.1 a16.2).bind fun (v17 : Int) =>
 (Sl.at 1 x1 1).bind fun (a18 : (Nat × Nat)) =>
 (rdI .i64 H1 a18.1 a18.2).bind fun (v19 : Int) =>
 (wr H1 H.length 0 [.int .i64 3, .int .i64 0, .int .i64 0, .int .i64 v17, .int .i64 v19, .int .i64 0]).bind fun (H20 : Heap) =>
 Option.bind (α := (Int × Int × Int × Int × Int × Int × Unit)) (rd H20 (.agg [.int .i64, .int .i64, .int .i64, .int .i64, .int .i64, .int .i64]) H.length 0) fun (v21 : (Int × Int × Int × Int × Int × Int × Unit)) =>
 some ((v21, ()), H20)) (
 cond (decide (x0 = 4)) (
 (Sl.at 1 x1 0).bind fun (a22 : (Nat × Nat)) =>
 (rdI .i64 H1 a22.1 a22.2).bind fun (v23 : Int) =>
 (Sl.at 1 x1 1).bind fun (a24 : (Nat × Nat)) =>
 (rdI .i64 H1 a24.1 a24.2).bind fun (v25 : Int) =>
 (wr H1 H.length 0 [.int .i64 4, .int .i64 v23, .int .i64 0, .int .i64 0, .int .i64 0, .int .i64 v25]).bind fun (H26 : Heap) =>
 Option.bind (α := (Int × Int × Int × Int × Int × Int × Unit)) (rd H26 (.agg [.int .i64, .int .i64, .int .i64, .int .i64, .int .i64, .int .i64]) H.length 0) fun (v27 : (Int × Int × Int × Int × Int × Int × Unit)) =>
 some ((v27, ()), H26)) (
 cond (decide (x0 = 6)) (
 (Sl.at 1 x1 0).bind fun (a28 : (Nat × Nat)) =>
 (rdI .i64 H1 a28.1 a28.2).bind fun (v29 : Int) =>
 (Sl.at 1 x1 1).bind fun (a30 : (Nat × Nat)) =>
 (rdI .i64 H1 a30.1 a30.2).bind fun (v31 : Int) =>
 (wr H1 H.length 0 [.int .i64 6, .int .i64 v29, .int .i64 0, .int .i64 0, .int .i64 v31, .int .i64 0]).bind fun (H32 : Heap) =>
 Option.bind (α := (Int × Int × Int × Int × Int × Int × Unit)) (rd H32 (.agg [.int .i64, .int .i64, .int .i64, .int .i64, .int .i64, .int .i64]) H.length 0) fun (v33 : (Int × Int × Int × Int × Int × Int × Unit)) =>
 some ((v33, ()), H32)) (
 cond (decide (x0 = 8)) (
 (Sl.at 1 x1 0).bind fun (a34 : (Nat × Nat)) =>
 (rdI .i64 H1 a34.1 a34.2).bind fun (v35 : Int) =>
 (wr H1 H.length 0 [.int .i64 8, .int .i64 0, .int .i64 0, .int .i64 v35, .int .i64 0, .int .i64 0]).bind fun (H36 : Heap) =>
 Option.bind (α := (Int × Int × Int × Int × Int × Int × Unit)) (rd H36 (.agg [.int .i64, .int .i64, .int .i64, .int .i64, .int .i64, .int .i64]) H.length 0) fun (v37 : (Int × Int × Int × Int × Int × Int × Unit)) =>
 some ((v37, ()), H36)) (
 cond (decide (x0 = 9)) (
 (Sl.at 1 x1 0).bind fun (a38 : (Nat × Nat)) =>
 (rdI .i64 H1 a38.1 a38.2).bind fun (v39 : Int) =>
 (Sl.at 1 x1 1).bind fun (a40 : (Nat × Nat)) =>
 (rdI .i64 H1 a40.1 a40.2).bind fun (v41 : Int) =>
 (wr H1 H.length 0 [.int .i64 9, .int .i64 0, .int .i64 0, .int .i64 v39, .int .i64 0, .int .i64 v41]).bind fun (H42 : Heap) =>
 Option.bind (α := (Int × Int × Int × Int × Int × Int × Unit)) (rd H42 (.agg [.int .i64, .int .i64, .int .i64, .int .i64, .int .i64, .int .i64]) H.length 0) fun (v43 : (Int × Int × Int × Int × Int × Int × Unit)) =>
 some ((v43, ()), H42)) (
 (Sl.at 1 x1 0).bind fun (a44 : (Nat × Nat)) =>
 (rdI .i64 H1 a44.1 a44.2).bind fun (v45 : Int) =>
 (wr H1 H.length 0 [.int .i64 x0, .int .i64 v45, .int .i64 0, .int .i64 0, .int .i64 0, .int .i64 0]).bind fun (H46 : Heap) =>
 Option.bind (α := (Int × Int × Int × Int × Int × Int × Unit)) (rd H46 (.agg [.int .i64, .int .i64, .int .i64, .int .i64, .int .i64, .int .i64]) H.length 0) fun (v47 : (Int × Int × Int × Int × Int × Int × Unit)) =>
 some ((v47, ()), H46))))))))
noncomputable def ref07_of.c : Callee := .full [.one (.int .i64), .one (.sl 1)] [.agg [.int .i64, .int .i64, .int .i64, .int .i64, .int .i64, .int .i64]] (fun x H => ref07_of x.1 x.2.1 H)
noncomputable def ref07_of.calls : Nat → Option Callee
  | _ => none
theorem ref07_of.eq : evFull ref07_of.calls ref07_of.af = (fun x H => ref07_of x.1 x.2.1 H) := by kernel_rfl

/-! ### tinderbox/tinderboxref07.Check -/
def ref07_Check.af : AFun := ⟨[.agg [.int .i64, .int .i64, .int .i64, .int .i64, .int .i64, .int .i64]], [.one .bool], [.t 2],
 .seq (.reg [.op ⟨0, some 1, .box (.t 0), none⟩,
  .op ⟨1, some 2, .mv (.c (.one (.bool false))), none⟩])
 (.seq (.reg [.op ⟨0, some 9, .load (.agg [.int .i64, .int .i64, .int .i64, .int .i64, .int .i64, .int .i64]) (.t 1), none⟩,
  .op ⟨1, some 10, .call 0 [(.t 9)], none⟩,
  .op ⟨2, some 8, .mv (.t 10), none⟩,
  .op ⟨3, some 11, .ext (.t 8) 0, none⟩,
  .op ⟨4, some 12, .ext (.t 8) 1, none⟩,
  .op ⟨5, some 13, .ext (.t 8) 2, none⟩,
  .op ⟨6, some 14, .ext (.t 8) 3, none⟩,
  .op ⟨7, some 3, .mv (.t 11), none⟩,
  .op ⟨8, some 4, .mv (.t 12), none⟩,
  .op ⟨9, some 5, .mv (.t 13), none⟩,
  .op ⟨10, some 6, .mv (.t 14), none⟩])
 (.seq (.seq (.reg [.op ⟨0, some 15, .mv (.t 6), none⟩,
  .op ⟨1, some 16, .un .not (.t 15), none⟩,
  .op ⟨2, some 17, .mv (.t 16), none⟩,
  .op ⟨3, some 18, .addr 0 (.t 1), some (17, false)⟩,
  .op ⟨4, some 19, .load (.one (.int .i64)) (.t 18), some (17, false)⟩,
  .op ⟨5, some 20, .mv (.t 3), some (17, false)⟩,
  .op ⟨7, some 22, .load (.agg [.int .i64, .int .i64, .int .i64, .int .i64, .int .i64, .int .i64]) (.t 1), some (17, false)⟩,
  .op ⟨6, some 21, .call 1 [(.t 19), (.t 20)], some (17, false)⟩,
  .op ⟨8, some 23, .eqagg true [.int .i64, .int .i64, .int .i64, .int .i64, .int .i64, .int .i64] (.t 21) (.t 22), some (17, false)⟩,
  .op ⟨9, some 24, .pick (.t 17) (.c (.one (.bool true))) (.t 23), none⟩,
  .again ⟨7, some 22, .load (.agg [.int .i64, .int .i64, .int .i64, .int .i64, .int .i64, .int .i64]) (.t 1), some (17, false)⟩])
 (.cond (.t 24) (.seq (.reg [.op ⟨0, some 2, .mv (.c (.one (.bool false))), none⟩])
 (.ret)) (.skip)))
 (.seq (.seq (.reg [.op ⟨0, some 7, .mv (.c (.one (.int .i64 0))), none⟩])
 (.block 0 (.loop [(7, .one (.int .i64))] [(.exit 0, []), (.ret, [(2, .one .bool)])] (.seq (.seq (.reg [.op ⟨0, some 25, .mv (.t 7), none⟩,
  .op ⟨1, some 26, .mv (.t 3), none⟩,
  .op ⟨2, some 27, .len (.t 26), none⟩,
  .op ⟨3, some 28, .bin .lss (.t 25) (.t 27), none⟩])
 (.cond (.t 28) (.skip) (.exit 0)))
 (.seq (.block 1 (.seq (.reg [.op ⟨0, some 31, .mv (.t 3), none⟩,
  .op ⟨1, some 32, .mv (.t 7), none⟩,
  .op ⟨2, some 33, .idxa 1 (.t 31) (.t 32), none⟩,
  .op ⟨3, some 34, .load (.one (.int .i64)) (.t 33), none⟩,
  .op ⟨4, some 35, .mv (.t 4), none⟩,
  .op ⟨5, some 36, .mv (.t 7), none⟩,
  .op ⟨6, some 37, .idxa 1 (.t 35) (.t 36), none⟩,
  .op ⟨7, some 38, .load (.one (.int .i64)) (.t 37), none⟩,
  .op ⟨8, some 39, .bin .lss (.t 34) (.t 38), none⟩,
  .op ⟨9, some 40, .mv (.t 39), none⟩,
  .op ⟨10, some 41, .mv (.t 3), some (40, false)⟩,
  .op ⟨11, some 42, .mv (.t 7), some (40, false)⟩,
  .op ⟨12, some 43, .idxa 1 (.t 41) (.t 42), some (40, false)⟩,
  .op ⟨13, some 44, .load (.one (.int .i64)) (.t 43), some (40, false)⟩,
  .op ⟨14, some 45, .mv (.t 5), some (40, false)⟩,
  .op ⟨15, some 46, .mv (.t 7), some (40, false)⟩,
  .op ⟨16, some 47, .idxa 1 (.t 45) (.t 46), some (40, false)⟩,
  .op ⟨17, some 48, .load (.one (.int .i64)) (.t 47), some (40, false)⟩,
  .op ⟨18, some 49, .bin .gtr (.t 44) (.t 48), some (40, false)⟩,
  .op ⟨19, some 50, .pick (.t 40) (.c (.one (.bool true))) (.t 49), none⟩])
 (.cond (.t 50) (.seq (.reg [.op ⟨0, some 2, .mv (.c (.one (.bool false))), none⟩])
 (.ret)) (.skip))))
 (.reg [.op ⟨0, some 29, .mv (.t 7), none⟩,
  .op ⟨1, some 30, .bin .add (.t 29) (.c (.one (.int .i64 1))), none⟩,
  .op ⟨2, some 7, .mv (.t 30), none⟩]))))))
 (.seq (.reg [.op ⟨0, some 2, .mv (.c (.one (.bool true))), none⟩])
 (.ret)))))⟩
noncomputable def ref07_Check.s1 (r3 : ((Sl × Sl × Sl × Bool × Unit) × Heap)) (s8 : (Int × Unit)) (H9 : Heap) : Option (((Int × Unit) ⊕ ((Unit) ⊕ (Bool × Unit))) × Heap) :=
 cond (decide (s8.1 < (r3.1.1.len : Int))) (
 (Sl.at 1 r3.1.1 s8.1).bind fun (a10 : (Nat × Nat)) =>
 (rdI .i64 H9 a10.1 a10.2).bind fun (v11 : Int) =>
 (Sl.at 1 r3.1.2.1 s8.1).bind fun (a12 : (Nat × Nat)) =>
 (rdI .i64 H9 a12.1 a12.2).bind fun (v13 : Int) =>
 cond (decide (v11 < v13)) (
 some (Sum.inr (Sum.inr (false, ())), H9)) (
 (Sl.at 1 r3.1.1 s8.1).bind fun (a14 : (Nat × Nat)) =>
 (rdI .i64 H9 a14.1 a14.2).bind fun (v15 : Int) =>
 (Sl.at 1 r3.1.2.2.1 s8.1).bind fun (a16 : (Nat × Nat)) =>
 (rdI .i64 H9 a16.1 a16.2).bind fun (v17 : Int) =>
 cond (decide (v17 < v15)) (
 some (Sum.inr (Sum.inr (false, ())), H9)) (
 some (Sum.inl ((IntKind.wrap .i64 (s8.1 + 1)), ()), H9)))) (
 some (Sum.inr (Sum.inl (())), H9))
noncomputable def ref07_Check.on (x0 : (Int × Int × Int × Int × Int × Int × Unit)) (H : Heap) : Option (Bool × Unit) :=
 let H1 : Heap := H ++ [Blk.cells [.int .i64 x0.1, .int .i64 x0.2.1, .int .i64 x0.2.2.1, .int .i64 x0.2.2.2.1, .int .i64 x0.2.2.2.2.1, .int .i64 x0.2.2.2.2.2.1] .exact]
 Option.bind (α := (Int × Int × Int × Int × Int × Int × Unit)) (rd H1 (.agg [.int .i64, .int .i64, .int .i64, .int .i64, .int .i64, .int .i64]) H.length 0) fun (v2 : (Int × Int × Int × Int × Int × Int × Unit)) =>
 (ref07_row (v2.1, v2.2.1, v2.2.2.1, v2.2.2.2.1, v2.2.2.2.2.1, v2.2.2.2.2.2.1, ()) H1).bind fun (r3 : ((Sl × Sl × Sl × Bool × Unit) × Heap)) =>
 cond (!r3.1.2.2.2.1) (
 some (false, ())) (
 (rdI .i64 r3.2 H.length 0).bind fun (v4 : Int) =>
 Option.bind (α := (Int × Int × Int × Int × Int × Int × Unit)) (rd r3.2 (.agg [.int .i64, .int .i64, .int .i64, .int .i64, .int .i64, .int .i64]) H.length 0) fun (v5 : (Int × Int × Int × Int × Int × Int × Unit)) =>
 (ref07_of v4 r3.1.1 r3.2).bind fun (r6 : (((Int × Int × Int × Int × Int × Int × Unit) × Unit) × Heap)) =>
 Option.bind (α := (Int × Int × Int × Int × Int × Int × Unit)) (rd r6.2 (.agg [.int .i64, .int .i64, .int .i64, .int .i64, .int .i64, .int .i64]) H.length 0) fun (v7 : (Int × Int × Int × Int × Int × Int × Unit)) =>
 if V.w (.agg [.int .i64 v7.1, .int .i64 v7.2.1, .int .i64 v7.2.2.1, .int .i64 v7.2.2.2.1, .int .i64 v7.2.2.2.2.1, .int .i64 v7.2.2.2.2.2.1]) = V.w (.agg [.int .i64 v5.1, .int .i64 v5.2.1, .int .i64 v5.2.2.1, .int .i64 v5.2.2.2.1, .int .i64 v5.2.2.2.2.1, .int .i64 v5.2.2.2.2.2.1]) then
 cond (!((decide (r6.1.1.1 = v5.1)) && ((decide (r6.1.1.2.1 = v5.2.1)) && ((decide (r6.1.1.2.2.1 = v5.2.2.1)) && ((decide (r6.1.1.2.2.2.1 = v5.2.2.2.1)) && ((decide (r6.1.1.2.2.2.2.1 = v5.2.2.2.2.1)) && ((decide (r6.1.1.2.2.2.2.2.1 = v5.2.2.2.2.2.1)) && true))))))) (
 some (false, ())) (
 (loopW (ref07_Check.s1 r3) (0, ()) r6.2).bind fun (p18 : ((Unit) ⊕ (Bool × Unit)) × Heap) =>
 Sum.elim (fun (y19 : (Unit)) =>
 some (true, ())) (fun (z20 : (Bool × Unit)) =>
 some (z20.1, ())) p18.1)
 else none)
noncomputable def ref07_Check (x0 : (Int × Int × Int × Int × Int × Int × Unit)) : Option (Bool × Unit) := ref07_Check.on x0 []
noncomputable def ref07_Check.c : Callee := .pure [.agg [.int .i64, .int .i64, .int .i64, .int .i64, .int .i64, .int .i64]] [.one .bool] (fun x => ref07_Check x.1)
noncomputable def ref07_Check.calls : Nat → Option Callee
  | 0 => some ref07_row.c
  | 1 => some ref07_of.c
  | _ => none
theorem ref07_Check.eq : evPure ref07_Check.calls ref07_Check.af = (fun x H => ref07_Check.on x.1 H) := by kernel_rfl
end Ev
