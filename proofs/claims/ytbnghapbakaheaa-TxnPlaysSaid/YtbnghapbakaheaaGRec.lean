/- What the functions of the package Rec compute: abstract code, and a function of plain Lean for each; the kernel checks that they are the same. Written by gen2.py. -/
import Derived.Test.YtbnghapbakaheaaEvCore
import Derived.KernelRfl
set_option linter.unusedVariables false
set_option maxRecDepth 100000
namespace Ev
open Go (IntKind BinOp UnOp)

/-! ### tinderbox/rec.fields -/
def rec_fields.af : AFun := ⟨[.one .ptr], [.one (.sl 1), .one (.sl 1)], [.t 2, .t 3],
 .seq (.reg [.op ⟨0, some 2, .mv (.c (.one (.sl 1 (⟨none, 0, 0⟩)))), none⟩,
  .op ⟨1, some 3, .mv (.c (.one (.sl 1 (⟨none, 0, 0⟩)))), none⟩])
 (.seq (.reg [.op ⟨0, some 4, .mv (.c (.one (.int .i64 15))), none⟩,
  .op ⟨1, some 5, .mv (.c (.one (.int .i64 1023))), none⟩,
  .op ⟨2, some 6, .mv (.c (.one (.int .i64 511))), none⟩])
 (.seq (.seq (.reg [.op ⟨0, some 7, .mv (.t 0), none⟩,
  .op ⟨1, some 8, .nilc (.t 7), none⟩,
  .op ⟨2, some 9, .addr 0 (.t 8), none⟩,
  .op ⟨3, some 10, .load (.one (.int .i64)) (.t 9), none⟩])
 (.block 0 (.seq (.reg [.op ⟨0, some 12, .bin .eql (.t 10) (.c (.one (.int .i64 1))), none⟩,
  .op ⟨1, some 11, .mv (.t 12), none⟩])
 (.cond (.t 11) (.seq (.reg [.op ⟨0, some 13, .mv (.t 0), none⟩,
  .op ⟨1, some 14, .nilc (.t 13), none⟩,
  .op ⟨2, some 15, .addr 1 (.t 14), none⟩,
  .op ⟨3, some 16, .mv (.t 0), none⟩,
  .op ⟨4, some 17, .nilc (.t 16), none⟩,
  .op ⟨5, some 18, .addr 2 (.t 17), none⟩,
  .op ⟨6, some 19, .mv (.t 0), none⟩,
  .op ⟨7, some 20, .nilc (.t 19), none⟩,
  .op ⟨8, some 21, .addr 3 (.t 20), none⟩,
  .op ⟨9, some 22, .bslice 1 3 [.ptr none, .ptr none, .ptr none] [(0, 1, (.t 15)), (1, 1, (.t 18)), (2, 1, (.t 21))], none⟩,
  .op ⟨10, some 23, .mv (.t 4), none⟩,
  .op ⟨11, some 24, .mv (.t 5), none⟩,
  .op ⟨12, some 25, .mv (.t 6), none⟩,
  .op ⟨13, some 26, .bslice 1 3 [.int .i64 0, .int .i64 0, .int .i64 0] [(0, 1, (.t 23)), (1, 1, (.t 24)), (2, 1, (.t 25))], none⟩,
  .op ⟨14, some 2, .mv (.t 22), none⟩,
  .op ⟨15, some 3, .mv (.t 26), none⟩])
 (.ret)) (.seq (.reg [.op ⟨0, some 28, .bin .eql (.t 10) (.c (.one (.int .i64 2))), none⟩,
  .op ⟨1, some 27, .mv (.t 28), none⟩])
 (.cond (.t 27) (.seq (.reg [.op ⟨0, some 29, .mv (.t 0), none⟩,
  .op ⟨1, some 30, .nilc (.t 29), none⟩,
  .op ⟨2, some 31, .addr 1 (.t 30), none⟩,
  .op ⟨3, some 32, .mv (.t 0), none⟩,
  .op ⟨4, some 33, .nilc (.t 32), none⟩,
  .op ⟨5, some 34, .addr 2 (.t 33), none⟩,
  .op ⟨6, some 35, .bslice 1 2 [.ptr none, .ptr none] [(0, 1, (.t 31)), (1, 1, (.t 34))], none⟩,
  .op ⟨7, some 36, .mv (.t 4), none⟩,
  .op ⟨8, some 37, .mv (.t 5), none⟩,
  .op ⟨9, some 38, .bslice 1 2 [.int .i64 0, .int .i64 0] [(0, 1, (.t 36)), (1, 1, (.t 37))], none⟩,
  .op ⟨10, some 2, .mv (.t 35), none⟩,
  .op ⟨11, some 3, .mv (.t 38), none⟩])
 (.ret)) (.seq (.reg [.op ⟨0, some 40, .bin .eql (.t 10) (.c (.one (.int .i64 3))), none⟩,
  .op ⟨1, some 39, .mv (.t 40), none⟩])
 (.cond (.t 39) (.seq (.reg [.op ⟨0, some 41, .mv (.t 0), none⟩,
  .op ⟨1, some 42, .nilc (.t 41), none⟩,
  .op ⟨2, some 43, .addr 3 (.t 42), none⟩,
  .op ⟨3, some 44, .mv (.t 0), none⟩,
  .op ⟨4, some 45, .nilc (.t 44), none⟩,
  .op ⟨5, some 46, .addr 4 (.t 45), none⟩,
  .op ⟨6, some 47, .bslice 1 2 [.ptr none, .ptr none] [(0, 1, (.t 43)), (1, 1, (.t 46))], none⟩,
  .op ⟨7, some 48, .mv (.t 6), none⟩,
  .op ⟨8, some 49, .mv (.t 6), none⟩,
  .op ⟨9, some 50, .bslice 1 2 [.int .i64 0, .int .i64 0] [(0, 1, (.t 48)), (1, 1, (.t 49))], none⟩,
  .op ⟨10, some 2, .mv (.t 47), none⟩,
  .op ⟨11, some 3, .mv (.t 50), none⟩])
 (.ret)) (.seq (.reg [.op ⟨0, some 52, .bin .eql (.t 10) (.c (.one (.int .i64 4))), none⟩,
  .op ⟨1, some 51, .mv (.t 52), none⟩])
 (.cond (.t 51) (.seq (.reg [.op ⟨0, some 53, .mv (.t 0), none⟩,
  .op ⟨1, some 54, .nilc (.t 53), none⟩,
  .op ⟨2, some 55, .addr 1 (.t 54), none⟩,
  .op ⟨3, some 56, .mv (.t 0), none⟩,
  .op ⟨4, some 57, .nilc (.t 56), none⟩,
  .op ⟨5, some 58, .addr 5 (.t 57), none⟩,
  .op ⟨6, some 59, .bslice 1 2 [.ptr none, .ptr none] [(0, 1, (.t 55)), (1, 1, (.t 58))], none⟩,
  .op ⟨7, some 60, .mv (.t 4), none⟩,
  .op ⟨8, some 61, .bslice 1 2 [.int .i64 0, .int .i64 0] [(0, 1, (.t 60)), (1, 1, (.c (.one (.int .i64 1024))))], none⟩,
  .op ⟨9, some 2, .mv (.t 59), none⟩,
  .op ⟨10, some 3, .mv (.t 61), none⟩])
 (.ret)) (.seq (.scope [(.normal, [(62, .one .bool)])] (.seq (.reg [.op ⟨0, some 63, .bin .eql (.t 10) (.c (.one (.int .i64 5))), none⟩,
  .op ⟨1, some 62, .mv (.t 63), none⟩])
 (.cond (.t 62) (.skip) (.reg [.op ⟨0, some 64, .bin .eql (.t 10) (.c (.one (.int .i64 7))), none⟩,
  .op ⟨1, some 62, .mv (.t 64), none⟩]))))
 (.cond (.t 62) (.seq (.reg [.op ⟨0, some 65, .mv (.t 0), none⟩,
  .op ⟨1, some 66, .nilc (.t 65), none⟩,
  .op ⟨2, some 67, .addr 1 (.t 66), none⟩,
  .op ⟨3, some 68, .bslice 1 1 [.ptr none] [(0, 1, (.t 67))], none⟩,
  .op ⟨4, some 69, .mv (.t 4), none⟩,
  .op ⟨5, some 70, .bslice 1 1 [.int .i64 0] [(0, 1, (.t 69))], none⟩,
  .op ⟨6, some 2, .mv (.t 68), none⟩,
  .op ⟨7, some 3, .mv (.t 70), none⟩])
 (.ret)) (.seq (.reg [.op ⟨0, some 72, .bin .eql (.t 10) (.c (.one (.int .i64 6))), none⟩,
  .op ⟨1, some 71, .mv (.t 72), none⟩])
 (.cond (.t 71) (.seq (.reg [.op ⟨0, some 73, .mv (.t 0), none⟩,
  .op ⟨1, some 74, .nilc (.t 73), none⟩,
  .op ⟨2, some 75, .addr 1 (.t 74), none⟩,
  .op ⟨3, some 76, .mv (.t 0), none⟩,
  .op ⟨4, some 77, .nilc (.t 76), none⟩,
  .op ⟨5, some 78, .addr 4 (.t 77), none⟩,
  .op ⟨6, some 79, .bslice 1 2 [.ptr none, .ptr none] [(0, 1, (.t 75)), (1, 1, (.t 78))], none⟩,
  .op ⟨7, some 80, .mv (.t 4), none⟩,
  .op ⟨8, some 81, .mv (.t 4), none⟩,
  .op ⟨9, some 82, .bslice 1 2 [.int .i64 0, .int .i64 0] [(0, 1, (.t 80)), (1, 1, (.t 81))], none⟩,
  .op ⟨10, some 2, .mv (.t 79), none⟩,
  .op ⟨11, some 3, .mv (.t 82), none⟩])
 (.ret)) (.seq (.reg [.op ⟨0, some 84, .bin .eql (.t 10) (.c (.one (.int .i64 8))), none⟩,
  .op ⟨1, some 83, .mv (.t 84), none⟩])
 (.cond (.t 83) (.seq (.reg [.op ⟨0, some 85, .mv (.t 0), none⟩,
  .op ⟨1, some 86, .nilc (.t 85), none⟩,
  .op ⟨2, some 87, .addr 3 (.t 86), none⟩,
  .op ⟨3, some 88, .bslice 1 1 [.ptr none] [(0, 1, (.t 87))], none⟩,
  .op ⟨4, some 89, .bslice 1 1 [.int .i64 0] [(0, 1, (.c (.one (.int .i64 31))))], none⟩,
  .op ⟨5, some 2, .mv (.t 88), none⟩,
  .op ⟨6, some 3, .mv (.t 89), none⟩])
 (.ret)) (.seq (.reg [.op ⟨0, some 91, .bin .eql (.t 10) (.c (.one (.int .i64 9))), none⟩,
  .op ⟨1, some 90, .mv (.t 91), none⟩])
 (.cond (.t 90) (.seq (.reg [.op ⟨0, some 92, .mv (.t 0), none⟩,
  .op ⟨1, some 93, .nilc (.t 92), none⟩,
  .op ⟨2, some 94, .addr 3 (.t 93), none⟩,
  .op ⟨3, some 95, .mv (.t 0), none⟩,
  .op ⟨4, some 96, .nilc (.t 95), none⟩,
  .op ⟨5, some 97, .addr 5 (.t 96), none⟩,
  .op ⟨6, some 98, .bslice 1 2 [.ptr none, .ptr none] [(0, 1, (.t 94)), (1, 1, (.t 97))], none⟩,
  .op ⟨7, some 99, .bslice 1 2 [.int .i64 0, .int .i64 0] [(0, 1, (.c (.one (.int .i64 31)))), (1, 1, (.c (.one (.int .i64 1073741824))))], none⟩,
  .op ⟨8, some 2, .mv (.t 98), none⟩,
  .op ⟨9, some 3, .mv (.t 99), none⟩])
 (.ret)) (.skip)))))))))))))))))))
 (.seq (.reg [.op ⟨0, some 2, .mv (.c (.one (.sl 1 (⟨none, 0, 0⟩)))), none⟩,
  .op ⟨1, some 3, .mv (.c (.one (.sl 1 (⟨none, 0, 0⟩)))), none⟩])
 (.ret))))⟩
noncomputable def rec_fields (x0 : Ptr) (H : Heap) : Option ((Sl × Sl × Unit) × Heap) :=
 (x0).bind fun (a1 : Nat × Nat) =>
 (rdI .i64 H a1.1 a1.2).bind fun (v2 : Int) =>
 cond (decide (v2 = 1)) (
 (x0).bind fun (a3 : Nat × Nat) =>
 (x0).bind fun (a4 : Nat × Nat) =>
 (x0).bind fun (a5 : Nat × Nat) =>
 let H6 : Heap := H ++ [Blk.cells [.ptr (some (a3.1, a3.2 + 1)), .ptr (some (a4.1, a4.2 + 2)), .ptr (some (a5.1, a5.2 + 3))] .exact]
 let H7 : Heap := H6 ++ [Blk.cells [.int .i64 15, .int .i64 1023, .int .i64 511] .exact]
 some ((⟨some (H.length, 0), 3, 3⟩, ⟨some (H6.length, 0), 3, 3⟩, ()), H7)) (
 cond (decide (v2 = 2)) (
 (x0).bind fun (a8 : Nat × Nat) =>
 (x0).bind fun (a9 : Nat × Nat) =>
 let H10 : Heap := H ++ [Blk.cells [.ptr (some (a8.1, a8.2 + 1)), .ptr (some (a9.1, a9.2 + 2))] .exact]
 let H11 : Heap := H10 ++ [Blk.cells [.int .i64 15, .int .i64 1023] .exact]
 some ((⟨some (H.length, 0), 2, 2⟩, ⟨some (H10.length, 0), 2, 2⟩, ()), H11)) (
 cond (decide (v2 = 3)) (
 (x0).bind fun (a12 : Nat × Nat) =>
 (x0).bind fun (a13 : Nat × Nat) =>
 let H14 : Heap := H ++ [Blk.cells [.ptr (some (a12.1, a12.2 + 3)), .ptr (some (a13.1, a13.2 + 4))] .exact]
 let H15 : Heap := H14 ++ [Blk.cells [.int .i64 511, .int .i64 511] .exact]
 some ((⟨some (H.length, 0), 2, 2⟩, ⟨some (H14.length, 0), 2, 2⟩, ()), H15)) (
 cond (decide (v2 = 4)) (
 (x0).bind fun (a16 : Nat × Nat) =>
 (x0).bind fun (a17 : Nat × Nat) =>
 let H18 : Heap := H ++ [Blk.cells [.ptr (some (a16.1, a16.2 + 1)), .ptr (some (a17.1, a17.2 + 5))] .exact]
 let H19 : Heap := H18 ++ [Blk.cells [.int .i64 15, .int .i64 1024] .exact]
 some ((⟨some (H.length, 0), 2, 2⟩, ⟨some (H18.length, 0), 2, 2⟩, ()), H19)) (
 (cond (decide (v2 = 5)) (
 some (((decide (v2 = 5)), ()), H)) (
 some (((decide (v2 = 7)), ()), H)) : Option ((Bool × Unit) × Heap)).bind fun (p20 : (Bool × Unit) × Heap) =>
 cond p20.1.1 (
 (x0).bind fun (a21 : Nat × Nat) =>
 let H22 : Heap := p20.2 ++ [Blk.cells [.ptr (some (a21.1, a21.2 + 1))] .exact]
 let H23 : Heap := H22 ++ [Blk.cells [.int .i64 15] .exact]
 some ((⟨some (p20.2.length, 0), 1, 1⟩, ⟨some (H22.length, 0), 1, 1⟩, ()), H23)) (
 cond (decide (v2 = 6)) (
 (x0).bind fun (a24 : Nat × Nat) =>
 (x0).bind fun (a25 : Nat × Nat) =>
 let H26 : Heap := p20.2 ++ [Blk.cells [.ptr (some (a24.1, a24.2 + 1)), .ptr (some (a25.1, a25.2 + 4))] .exact]
 let H27 : Heap := H26 ++ [Blk.cells [.int .i64 15, .int .i64 15] .exact]
 some ((⟨some (p20.2.length, 0), 2, 2⟩, ⟨some (H26.length, 0), 2, 2⟩, ()), H27)) (
 cond (decide (v2 = 8)) (
 (x0).bind fun (a28 : Nat × Nat) =>
 let H29 : Heap := p20.2 ++ [Blk.cells [.ptr (some (a28.1, a28.2 + 3))] .exact]
 let H30 : Heap := H29 ++ [Blk.cells [.int .i64 31] .exact]
 some ((⟨some (p20.2.length, 0), 1, 1⟩, ⟨some (H29.length, 0), 1, 1⟩, ()), H30)) (
 cond (decide (v2 = 9)) (
 (x0).bind fun (a31 : Nat × Nat) =>
 (x0).bind fun (a32 : Nat × Nat) =>
 let H33 : Heap := p20.2 ++ [Blk.cells [.ptr (some (a31.1, a31.2 + 3)), .ptr (some (a32.1, a32.2 + 5))] .exact]
 let H34 : Heap := H33 ++ [Blk.cells [.int .i64 31, .int .i64 1073741824] .exact]
 some ((⟨some (p20.2.length, 0), 2, 2⟩, ⟨some (H33.length, 0), 2, 2⟩, ()), H34)) (
 some ((⟨none, 0, 0⟩, ⟨none, 0, 0⟩, ()), p20.2)))))))))
noncomputable def rec_fields.c : Callee := .full [.one .ptr] [.one (.sl 1), .one (.sl 1)] (fun x H => rec_fields x.1 H)
noncomputable def rec_fields.calls : Nat → Option Callee
  | _ => none
theorem rec_fields.eq : evFull rec_fields.calls rec_fields.af = (fun x H => rec_fields x.1 H) := by kernel_rfl

/-! ### tinderbox/rec.in -/
def rec_in.af : AFun := ⟨[.one (.int .i64), .one (.int .i64), .one (.int .i64)], [.one .bool], [.t 6],
 .seq (.reg [.op ⟨0, some 6, .mv (.c (.one (.bool false))), none⟩])
 (.seq (.reg [.op ⟨0, some 7, .mv (.t 0), none⟩,
  .op ⟨1, some 8, .mv (.t 1), none⟩,
  .op ⟨2, some 9, .bin .geq (.t 7) (.t 8), none⟩,
  .op ⟨3, some 10, .mv (.t 9), none⟩,
  .op ⟨4, some 11, .mv (.t 0), some (10, true)⟩,
  .op ⟨5, some 12, .mv (.t 2), some (10, true)⟩,
  .op ⟨6, some 13, .bin .leq (.t 11) (.t 12), some (10, true)⟩,
  .op ⟨7, some 14, .pick (.t 10) (.t 13) (.c (.one (.bool false))), none⟩,
  .op ⟨8, some 6, .mv (.t 14), none⟩])
 (.ret))⟩
noncomputable def rec_in.on (x0 : Int) (x1 : Int) (x2 : Int) (H : Heap) : Option (Bool × Unit) :=
 cond (decide (x1 ≤ x0)) (
 some ((decide (x0 ≤ x2)), ())) (
 some (false, ()))
noncomputable def rec_in (x0 : Int) (x1 : Int) (x2 : Int) : Option (Bool × Unit) := rec_in.on x0 x1 x2 []
noncomputable def rec_in.c : Callee := .pure [.one (.int .i64), .one (.int .i64), .one (.int .i64)] [.one .bool] (fun x => rec_in x.1 x.2.1 x.2.2.1)
noncomputable def rec_in.calls : Nat → Option Callee
  | _ => none
theorem rec_in.eq : evPure rec_in.calls rec_in.af = (fun x H => rec_in.on x.1 x.2.1 x.2.2.1 H) := by kernel_rfl

/-! ### tinderbox/rec.Check -/
def rec_Check.af : AFun := ⟨[.agg [.int .i64, .int .i64, .int .i64, .int .i64, .int .i64, .int .i64]], [.one .bool], [.t 2],
 .seq (.reg [.op ⟨0, some 1, .box (.t 0), none⟩,
  .op ⟨1, some 2, .mv (.c (.one (.bool false))), none⟩])
 (.seq (.reg [.op ⟨0, some 11, .call 0 [(.t 1)], none⟩,
  .op ⟨1, some 10, .mv (.t 11), none⟩,
  .op ⟨2, some 12, .ext (.t 10) 0, none⟩,
  .op ⟨3, some 13, .ext (.t 10) 1, none⟩,
  .op ⟨4, some 3, .mv (.t 12), none⟩,
  .op ⟨5, some 4, .mv (.t 13), none⟩])
 (.seq (.seq (.reg [.op ⟨0, some 14, .mv (.t 3), none⟩,
  .op ⟨1, some 15, .len (.t 14), none⟩,
  .op ⟨2, some 16, .mv (.c (.one (.int .i64 0))), none⟩])
 (.block 0 (.loop [(16, .one (.int .i64))] [(.exit 0, []), (.ret, [(2, .one .bool)])] (.seq (.reg [.op ⟨0, some 17, .bin .lss (.t 16) (.t 15), none⟩])
 (.seq (.cond (.t 17) (.skip) (.exit 0))
 (.seq (.block 1 (.seq (.reg [.op ⟨0, some 18, .mv (.t 16), none⟩,
  .op ⟨1, some 19, .idxa 1 (.t 14) (.t 16), none⟩,
  .op ⟨2, some 20, .load (.one .ptr) (.t 19), none⟩,
  .op ⟨3, some 5, .mv (.t 18), none⟩,
  .op ⟨4, some 6, .mv (.t 20), none⟩])
 (.seq (.reg [.op ⟨0, some 21, .mv (.t 6), none⟩,
  .op ⟨1, some 22, .nilc (.t 21), none⟩,
  .op ⟨2, some 23, .load (.one (.int .i64)) (.t 22), none⟩,
  .op ⟨3, some 24, .mv (.t 4), none⟩,
  .op ⟨4, some 25, .mv (.t 5), none⟩,
  .op ⟨5, some 26, .idxa 1 (.t 24) (.t 25), none⟩,
  .op ⟨6, some 27, .load (.one (.int .i64)) (.t 26), none⟩,
  .op ⟨7, some 28, .call 1 [(.t 23), (.c (.one (.int .i64 0))), (.t 27)], none⟩,
  .op ⟨8, some 29, .un .not (.t 28), none⟩])
 (.cond (.t 29) (.seq (.reg [.op ⟨0, some 2, .mv (.c (.one (.bool false))), none⟩])
 (.ret)) (.skip)))))
 (.reg [.op ⟨0, some 30, .bin .add (.t 16) (.c (.one (.int .i64 1))), none⟩,
  .op ⟨1, some 16, .mv (.t 30), none⟩])))))))
 (.seq (.scope [(.normal, [(7, .one .bool)])] (.reg [.op ⟨0, some 31, .addr 0 (.t 1), none⟩,
  .op ⟨1, some 32, .load (.one (.int .i64)) (.t 31), none⟩,
  .op ⟨2, some 33, .bin .geq (.t 32) (.c (.one (.int .i64 8))), none⟩,
  .op ⟨3, some 34, .mv (.t 33), none⟩,
  .op ⟨4, some 35, .addr 0 (.t 1), some (34, false)⟩,
  .op ⟨5, some 36, .load (.one (.int .i64)) (.t 35), some (34, false)⟩,
  .op ⟨6, some 37, .bin .eql (.t 36) (.c (.one (.int .i64 3))), some (34, false)⟩,
  .op ⟨7, some 38, .pick (.t 34) (.c (.one (.bool true))) (.t 37), none⟩,
  .op ⟨8, some 39, .mv (.t 38), none⟩,
  .op ⟨9, some 40, .addr 1 (.t 1), some (39, false)⟩,
  .op ⟨10, some 41, .load (.one (.int .i64)) (.t 40), some (39, false)⟩,
  .op ⟨11, some 42, .bin .geq (.t 41) (.c (.one (.int .i64 1))), some (39, false)⟩,
  .op ⟨12, some 43, .pick (.t 39) (.c (.one (.bool true))) (.t 42), none⟩,
  .op ⟨13, some 7, .mv (.t 43), none⟩]))
 (.seq (.scope [(.normal, []), (.ret, [(2, .one .bool)])] (.seq (.reg [.op ⟨0, some 44, .mv (.t 3), none⟩,
  .op ⟨1, some 45, .isnils false (.t 44), none⟩,
  .op ⟨2, some 46, .mv (.t 45), none⟩,
  .op ⟨3, some 47, .mv (.t 7), some (46, false)⟩,
  .op ⟨4, some 48, .un .not (.t 47), some (46, false)⟩,
  .op ⟨5, some 49, .pick (.t 46) (.c (.one (.bool true))) (.t 48), none⟩,
  .op ⟨6, some 50, .mv (.t 49), none⟩,
  .op ⟨7, some 51, .addr 0 (.t 1), some (50, false)⟩,
  .op ⟨8, some 52, .load (.one (.int .i64)) (.t 51), some (50, false)⟩,
  .op ⟨9, some 53, .bin .eql (.t 52) (.c (.one (.int .i64 4))), some (50, false)⟩,
  .op ⟨10, some 54, .mv (.t 53), some (50, false)⟩,
  .op ⟨11, some 55, .addr 5 (.t 1), some (54, true)⟩,
  .op ⟨12, some 56, .load (.one (.int .i64)) (.t 55), some (54, true)⟩,
  .op ⟨13, some 57, .bin .lss (.t 56) (.c (.one (.int .i64 1))), some (54, true)⟩,
  .op ⟨14, some 58, .pick (.t 54) (.t 57) (.c (.one (.bool false))), some (50, false)⟩,
  .op ⟨15, some 59, .pick (.t 50) (.c (.one (.bool true))) (.t 58), none⟩,
  .op ⟨16, some 60, .mv (.t 59), none⟩,
  .op ⟨17, some 61, .addr 0 (.t 1), some (60, false)⟩,
  .op ⟨18, some 62, .load (.one (.int .i64)) (.t 61), some (60, false)⟩,
  .op ⟨19, some 63, .bin .eql (.t 62) (.c (.one (.int .i64 6))), some (60, false)⟩,
  .op ⟨20, some 64, .mv (.t 63), some (60, false)⟩,
  .op ⟨21, some 65, .addr 4 (.t 1), some (64, true)⟩,
  .op ⟨22, some 66, .load (.one (.int .i64)) (.t 65), some (64, true)⟩,
  .op ⟨23, some 67, .bin .lss (.t 66) (.c (.one (.int .i64 1))), some (64, true)⟩,
  .op ⟨24, some 68, .pick (.t 64) (.t 67) (.c (.one (.bool false))), some (60, false)⟩,
  .op ⟨25, some 69, .pick (.t 60) (.c (.one (.bool true))) (.t 68), none⟩])
 (.cond (.t 69) (.seq (.reg [.op ⟨0, some 2, .mv (.c (.one (.bool false))), none⟩])
 (.ret)) (.skip))))
 (.seq (.seq (.reg [.op ⟨0, some 70, .mv (.t 3), none⟩,
  .op ⟨1, some 71, .len (.t 70), none⟩,
  .op ⟨2, some 72, .mv (.c (.one (.int .i64 0))), none⟩])
 (.block 2 (.loop [(72, .one (.int .i64))] [(.exit 2, [])] (.seq (.reg [.op ⟨0, some 73, .bin .lss (.t 72) (.t 71), none⟩])
 (.seq (.cond (.t 73) (.skip) (.exit 2))
 (.seq (.block 3 (.seq (.reg [.op ⟨0, some 74, .idxa 1 (.t 70) (.t 72), none⟩,
  .op ⟨1, some 75, .load (.one .ptr) (.t 74), none⟩,
  .op ⟨2, some 9, .mv (.t 75), none⟩])
 (.reg [.op ⟨0, some 76, .mv (.t 9), none⟩,
  .op ⟨1, some 77, .nilc (.t 76), none⟩,
  .op ⟨2, none, .store 1 (.t 77) (.c (.one (.int .i64 0))), none⟩])))
 (.reg [.op ⟨0, some 78, .bin .add (.t 72) (.c (.one (.int .i64 1))), none⟩,
  .op ⟨1, some 72, .mv (.t 78), none⟩])))))))
 (.seq (.reg [.op ⟨0, some 79, .load (.agg [.int .i64, .int .i64, .int .i64, .int .i64, .int .i64, .int .i64]) (.t 1), none⟩,
  .op ⟨1, some 80, .addr 0 (.t 1), none⟩,
  .op ⟨2, some 81, .load (.one (.int .i64)) (.t 80), none⟩,
  .op ⟨3, some 82, .build [.int .i64 0, .int .i64 0, .int .i64 0, .int .i64 0, .int .i64 0, .int .i64 0] [(0, 1, (.t 81))], none⟩,
  .op ⟨4, some 83, .eqagg false [.int .i64, .int .i64, .int .i64, .int .i64, .int .i64, .int .i64] (.t 79) (.t 82), none⟩,
  .op ⟨5, some 2, .mv (.t 83), none⟩])
 (.ret)))))))⟩
noncomputable def rec_Check.s1 (r2 : ((Sl × Sl × Unit) × Heap)) (s3 : (Int × Unit)) (H4 : Heap) : Option (((Int × Unit) ⊕ ((Unit) ⊕ (Bool × Unit))) × Heap) :=
 cond (decide (s3.1 < (r2.1.1.len : Int))) (
 (Sl.at 1 r2.1.1 s3.1).bind fun (a5 : (Nat × Nat)) =>
 (rdP H4 a5.1 a5.2).bind fun (v6 : Ptr) =>
 (v6).bind fun (a7 : Nat × Nat) =>
 (rdI .i64 H4 a7.1 a7.2).bind fun (v8 : Int) =>
 (Sl.at 1 r2.1.2.1 s3.1).bind fun (a9 : (Nat × Nat)) =>
 (rdI .i64 H4 a9.1 a9.2).bind fun (v10 : Int) =>
 (rec_in v8 0 v10).bind fun (r11 : (Bool × Unit)) =>
 cond (!r11.1) (
 some (Sum.inr (Sum.inr (false, ())), H4)) (
 some (Sum.inl ((IntKind.wrap .i64 (s3.1 + 1)), ()), H4))) (
 some (Sum.inr (Sum.inl (())), H4))
noncomputable def rec_Check.s2 (r2 : ((Sl × Sl × Unit) × Heap)) (s26 : (Int × Unit)) (H27 : Heap) : Option (((Int × Unit) ⊕ (Unit)) × Heap) :=
 cond (decide (s26.1 < (r2.1.1.len : Int))) (
 (Sl.at 1 r2.1.1 s26.1).bind fun (a28 : (Nat × Nat)) =>
 (rdP H27 a28.1 a28.2).bind fun (v29 : Ptr) =>
 (v29).bind fun (a30 : Nat × Nat) =>
 (wr H27 a30.1 a30.2 [.int .i64 0]).bind fun (H31 : Heap) =>
 some (Sum.inl ((IntKind.wrap .i64 (s26.1 + 1)), ()), H31)) (
 some (Sum.inr (()), H27))
noncomputable def rec_Check.on (x0 : (Int × Int × Int × Int × Int × Int × Unit)) (H : Heap) : Option (Bool × Unit) :=
 let H1 : Heap := H ++ [Blk.cells [.int .i64 x0.1, .int .i64 x0.2.1, .int .i64 x0.2.2.1, .int .i64 x0.2.2.2.1, .int .i64 x0.2.2.2.2.1, .int .i64 x0.2.2.2.2.2.1] .exact]
 (rec_fields (some (H.length, 0)) H1).bind fun (r2 : ((Sl × Sl × Unit) × Heap)) =>
 (loopW (rec_Check.s1 r2) (0, ()) r2.2).bind fun (p12 : ((Unit) ⊕ (Bool × Unit)) × Heap) =>
 Sum.elim (fun (y13 : (Unit)) =>
 ((rdI .i64 p12.2 H.length 0).bind fun (v14 : Int) =>
 cond (decide (8 ≤ v14)) (
 some ((true, ()), p12.2)) (
 (rdI .i64 p12.2 H.length 0).bind fun (v15 : Int) =>
 cond (decide (v15 = 3)) (
 some ((true, ()), p12.2)) (
 (rdI .i64 p12.2 H.length 1).bind fun (v16 : Int) =>
 some (((decide (1 ≤ v16)), ()), p12.2))) : Option ((Bool × Unit) × Heap)).bind fun (p17 : (Bool × Unit) × Heap) =>
 (cond (Option.isNone r2.1.1.p) (
 some (Sum.inr (false, ()), p17.2)) (
 cond (!p17.1.1) (
 some (Sum.inr (false, ()), p17.2)) (
 (rdI .i64 p17.2 H.length 0).bind fun (v18 : Int) =>
 cond (decide (v18 = 4)) (
 (rdI .i64 p17.2 H.length 5).bind fun (v19 : Int) =>
 cond (decide (v19 < 1)) (
 some (Sum.inr (false, ()), p17.2)) (
 (rdI .i64 p17.2 H.length 0).bind fun (v20 : Int) =>
 cond (decide (v20 = 6)) (
 (rdI .i64 p17.2 H.length 4).bind fun (v21 : Int) =>
 cond (decide (v21 < 1)) (
 some (Sum.inr (false, ()), p17.2)) (
 some (Sum.inl (()), p17.2))) (
 some (Sum.inl (()), p17.2)))) (
 (rdI .i64 p17.2 H.length 0).bind fun (v22 : Int) =>
 cond (decide (v22 = 6)) (
 (rdI .i64 p17.2 H.length 4).bind fun (v23 : Int) =>
 cond (decide (v23 < 1)) (
 some (Sum.inr (false, ()), p17.2)) (
 some (Sum.inl (()), p17.2))) (
 some (Sum.inl (()), p17.2))))) : Option (((Unit) ⊕ (Bool × Unit)) × Heap)).bind fun (p24 : ((Unit) ⊕ (Bool × Unit)) × Heap) =>
 Sum.elim (fun (y25 : (Unit)) =>
 (loopW (rec_Check.s2 r2) (0, ()) p24.2).bind fun (p32 : (Unit) × Heap) =>
 Option.bind (α := (Int × Int × Int × Int × Int × Int × Unit)) (rd p32.2 (.agg [.int .i64, .int .i64, .int .i64, .int .i64, .int .i64, .int .i64]) H.length 0) fun (v33 : (Int × Int × Int × Int × Int × Int × Unit)) =>
 (rdI .i64 p32.2 H.length 0).bind fun (v34 : Int) =>
 some (((decide (v33.1 = v34)) && ((decide (v33.2.1 = 0)) && ((decide (v33.2.2.1 = 0)) && ((decide (v33.2.2.2.1 = 0)) && ((decide (v33.2.2.2.2.1 = 0)) && ((decide (v33.2.2.2.2.2.1 = 0)) && true)))))), ())) (fun (z35 : (Bool × Unit)) =>
 some (z35.1, ())) p24.1) (fun (z36 : (Bool × Unit)) =>
 some (z36.1, ())) p12.1
noncomputable def rec_Check (x0 : (Int × Int × Int × Int × Int × Int × Unit)) : Option (Bool × Unit) := rec_Check.on x0 []
noncomputable def rec_Check.c : Callee := .pure [.agg [.int .i64, .int .i64, .int .i64, .int .i64, .int .i64, .int .i64]] [.one .bool] (fun x => rec_Check x.1)
noncomputable def rec_Check.calls : Nat → Option Callee
  | 0 => some rec_fields.c
  | 1 => some rec_in.c
  | _ => none
theorem rec_Check.eq : evPure rec_Check.calls rec_Check.af = (fun x H => rec_Check.on x.1 H) := by kernel_rfl
end Ev
