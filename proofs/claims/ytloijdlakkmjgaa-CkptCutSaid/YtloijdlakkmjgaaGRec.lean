/- What the functions of the package Rec compute: abstract code, and a function of plain Lean for each; the kernel checks that they are the same. Written by gen2.py. -/
import Derived.Test.YtloijdlakkmjgaaEvCore
import Derived.Test.YtloijdlakkmjgaaGCode
import Derived.KernelRfl
set_option linter.unusedVariables false
set_option maxRecDepth 100000
namespace Ev
open Go (IntKind BinOp UnOp)

/-! ### tinderbox/rec.fields -/
def rec_fields.af : AFun := ⟨[.one .ptr], [.one (.sl 1), .one (.sl 1)], [.t 2, .t 3],
 .seq (.reg [.op ⟨0, some 2, .mv (.c (.one (.sl 1 (⟨none, 0, 0⟩)))), none⟩,
  .op ⟨1, some 3, .mv (.c (.one (.sl 1 (⟨none, 0, 0⟩)))), none⟩])
 (.seq (.reg [.op ⟨0, some 4, .mv (.c (.one (.int .i64 15))), none⟩,
  .op ⟨1, some 5, .mv (.c (.one (.int .i64 1023))), none⟩,
  .op ⟨2, some 6, .mv (.c (.one (.int .i64 511))), none⟩])
 (.seq (.seq (.reg [.op ⟨0, some 7, .mv (.t 0), none⟩,
  .op ⟨1, some 8, .nilc (.t 7), none⟩,
  .op ⟨2, some 9, .addr 0 (.t 8), none⟩,
  .op ⟨3, some 10, .load (.one (.int .i64)) (.t 9), none⟩])
 (.block 0 (.seq (.reg [.op ⟨0, some 12, .bin .eql (.t 10) (.c (.one (.int .i64 1))), none⟩,
  .op ⟨1, some 11, .mv (.t 12), none⟩])
 (.cond (.t 11) (.seq (.reg [.op ⟨0, some 13, .mv (.t 0), none⟩,
  .op ⟨1, some 14, .nilc (.t 13), none⟩,
  .op ⟨2, some 15, .addr 1 (.t 14), none⟩,
  .op ⟨3, some 16, .mv (.t 0), none⟩,
  .op ⟨4, some 17, .nilc (.t 16), none⟩,
  .op ⟨5, some 18, .addr 2 (.t 17), none⟩,
  .op ⟨6, some 19, .mv (.t 0), none⟩,
  .op ⟨7, some 20, .nilc (.t 19), none⟩,
  .op ⟨8, some 21, .addr 3 (.t 20), none⟩,
  .op ⟨9, some 22, .bslice 1 3 [.ptr none, .ptr none, .ptr none] [(0, 1, (.t 15)), (1, 1, (.t 18)), (2, 1, (.t 21))], none⟩,
  .op ⟨10, some 23, .mv (.t 4), none⟩,
  .op ⟨11, some 24, .mv (.t 5), none⟩,
  .op ⟨12, some 25, .mv (.t 6), none⟩,
  .op ⟨13, some 26, .bslice 1 3 [.int .i64 0, .int .i64 0, .int .i64 0] [(0, 1, (.t 23)), (1, 1, (.t 24)), (2, 1, (.t 25))], none⟩,
  .op ⟨14, some 2, .mv (.t 22), none⟩,
  .op ⟨15, some 3, .mv (.t 26), none⟩])
 (.ret)) (.seq (.reg [.op ⟨0, some 28, .bin .eql (.t 10) (.c (.one (.int .i64 2))), none⟩,
  .op ⟨1, some 27, .mv (.t 28), none⟩])
 (.cond (.t 27) (.seq (.reg [.op ⟨0, some 29, .mv (.t 0), none⟩,
  .op ⟨1, some 30, .nilc (.t 29), none⟩,
  .op ⟨2, some 31, .addr 1 (.t 30), none⟩,
  .op ⟨3, some 32, .mv (.t 0), none⟩,
  .op ⟨4, some 33, .nilc (.t 32), none⟩,
  .op ⟨5, some 34, .addr 2 (.t 33), none⟩,
  .op ⟨6, some 35, .bslice 1 2 [.ptr none, .ptr none] [(0, 1, (.t 31)), (1, 1, (.t 34))], none⟩,
  .op ⟨7, some 36, .mv (.t 4), none⟩,
  .op ⟨8, some 37, .mv (.t 5), none⟩,
  .op ⟨9, some 38, .bslice 1 2 [.int .i64 0, .int .i64 0] [(0, 1, (.t 36)), (1, 1, (.t 37))], none⟩,
  .op ⟨10, some 2, .mv (.t 35), none⟩,
  .op ⟨11, some 3, .mv (.t 38), none⟩])
 (.ret)) (.seq (.reg [.op ⟨0, some 40, .bin .eql (.t 10) (.c (.one (.int .i64 3))), none⟩,
  .op ⟨1, some 39, .mv (.t 40), none⟩])
 (.cond (.t 39) (.seq (.reg [.op ⟨0, some 41, .mv (.t 0), none⟩,
  .op ⟨1, some 42, .nilc (.t 41), none⟩,
  .op ⟨2, some 43, .addr 3 (.t 42), none⟩,
  .op ⟨3, some 44, .mv (.t 0), none⟩,
  .op ⟨4, some 45, .nilc (.t 44), none⟩,
  .op ⟨5, some 46, .addr 4 (.t 45), none⟩,
  .op ⟨6, some 47, .bslice 1 2 [.ptr none, .ptr none] [(0, 1, (.t 43)), (1, 1, (.t 46))], none⟩,
  .op ⟨7, some 48, .mv (.t 6), none⟩,
  .op ⟨8, some 49, .mv (.t 6), none⟩,
  .op ⟨9, some 50, .bslice 1 2 [.int .i64 0, .int .i64 0] [(0, 1, (.t 48)), (1, 1, (.t 49))], none⟩,
  .op ⟨10, some 2, .mv (.t 47), none⟩,
  .op ⟨11, some 3, .mv (.t 50), none⟩])
 (.ret)) (.seq (.reg [.op ⟨0, some 52, .bin .eql (.t 10) (.c (.one (.int .i64 4))), none⟩,
  .op ⟨1, some 51, .mv (.t 52), none⟩])
 (.cond (.t 51) (.seq (.reg [.op ⟨0, some 53, .mv (.t 0), none⟩,
  .op ⟨1, some 54, .nilc (.t 53), none⟩,
  .op ⟨2, some 55, .addr 1 (.t 54), none⟩,
  .op ⟨3, some 56, .mv (.t 0), none⟩,
  .op ⟨4, some 57, .nilc (.t 56), none⟩,
  .op ⟨5, some 58, .addr 5 (.t 57), none⟩,
  .op ⟨6, some 59, .bslice 1 2 [.ptr none, .ptr none] [(0, 1, (.t 55)), (1, 1, (.t 58))], none⟩,
  .op ⟨7, some 60, .mv (.t 4), none⟩,
  .op ⟨8, some 61, .bslice 1 2 [.int .i64 0, .int .i64 0] [(0, 1, (.t 60)), (1, 1, (.c (.one (.int .i64 1024))))], none⟩,
  .op ⟨9, some 2, .mv (.t 59), none⟩,
  .op ⟨10, some 3, .mv (.t 61), none⟩])
 (.ret)) (.seq (.scope [(.normal, [(62, .one .bool)])] (.seq (.reg [.op ⟨0, some 63, .bin .eql (.t 10) (.c (.one (.int .i64 5))), none⟩,
  .op ⟨1, some 62, .mv (.t 63), none⟩])
 (.cond (.t 62) (.skip) (.reg [.op ⟨0, some 64, .bin .eql (.t 10) (.c (.one (.int .i64 7))), none⟩,
  .op ⟨1, some 62, .mv (.t 64), none⟩]))))
 (.cond (.t 62) (.seq (.reg [.op ⟨0, some 65, .mv (.t 0), none⟩,
  .op ⟨1, some 66, .nilc (.t 65), none⟩,
  .op ⟨2, some 67, .addr 1 (.t 66), none⟩,
  .op ⟨3, some 68, .bslice 1 1 [.ptr none] [(0, 1, (.t 67))], none⟩,
  .op ⟨4, some 69, .mv (.t 4), none⟩,
  .op ⟨5, some 70, .bslice 1 1 [.int .i64 0] [(0, 1, (.t 69))], none⟩,
  .op ⟨6, some 2, .mv (.t 68), none⟩,
  .op ⟨7, some 3, .mv (.t 70), none⟩])
 (.ret)) (.seq (.reg [.op ⟨0, some 72, .bin .eql (.t 10) (.c (.one (.int .i64 6))), none⟩,
  .op ⟨1, some 71, .mv (.t 72), none⟩])
 (.cond (.t 71) (.seq (.reg [.op ⟨0, some 73, .mv (.t 0), none⟩,
  .op ⟨1, some 74, .nilc (.t 73), none⟩,
  .op ⟨2, some 75, .addr 1 (.t 74), none⟩,
  .op ⟨3, some 76, .mv (.t 0), none⟩,
  .op ⟨4, some 77, .nilc (.t 76), none⟩,
  .op ⟨5, some 78, .addr 4 (.t 77), none⟩,
  .op ⟨6, some 79, .bslice 1 2 [.ptr none, .ptr none] [(0, 1, (.t 75)), (1, 1, (.t 78))], none⟩,
  .op ⟨7, some 80, .mv (.t 4), none⟩,
  .op ⟨8, some 81, .mv (.t 4), none⟩,
  .op ⟨9, some 82, .bslice 1 2 [.int .i64 0, .int .i64 0] [(0, 1, (.t 80)), (1, 1, (.t 81))], none⟩,
  .op ⟨10, some 2, .mv (.t 79), none⟩,
  .op ⟨11, some 3, .mv (.t 82), none⟩])
 (.ret)) (.seq (.reg [.op ⟨0, some 84, .bin .eql (.t 10) (.c (.one (.int .i64 8))), none⟩,
  .op ⟨1, some 83, .mv (.t 84), none⟩])
 (.cond (.t 83) (.seq (.reg [.op ⟨0, some 85, .mv (.t 0), none⟩,
  .op ⟨1, some 86, .nilc (.t 85), none⟩,
  .op ⟨2, some 87, .addr 3 (.t 86), none⟩,
  .op ⟨3, some 88, .bslice 1 1 [.ptr none] [(0, 1, (.t 87))], none⟩,
  .op ⟨4, some 89, .bslice 1 1 [.int .i64 0] [(0, 1, (.c (.one (.int .i64 31))))], none⟩,
  .op ⟨5, some 2, .mv (.t 88), none⟩,
  .op ⟨6, some 3, .mv (.t 89), none⟩])
 (.ret)) (.seq (.reg [.op ⟨0, some 91, .bin .eql (.t 10) (.c (.one (.int .i64 9))), none⟩,
  .op ⟨1, some 90, .mv (.t 91), none⟩])
 (.cond (.t 90) (.seq (.reg [.op ⟨0, some 92, .mv (.t 0), none⟩,
  .op ⟨1, some 93, .nilc (.t 92), none⟩,
  .op ⟨2, some 94, .addr 3 (.t 93), none⟩,
  .op ⟨3, some 95, .mv (.t 0), none⟩,
  .op ⟨4, some 96, .nilc (.t 95), none⟩,
  .op ⟨5, some 97, .addr 5 (.t 96), none⟩,
  .op ⟨6, some 98, .bslice 1 2 [.ptr none, .ptr none] [(0, 1, (.t 94)), (1, 1, (.t 97))], none⟩,
  .op ⟨7, some 99, .bslice 1 2 [.int .i64 0, .int .i64 0] [(0, 1, (.c (.one (.int .i64 31)))), (1, 1, (.c (.one (.int .i64 1073741824))))], none⟩,
  .op ⟨8, some 2, .mv (.t 98), none⟩,
  .op ⟨9, some 3, .mv (.t 99), none⟩])
 (.ret)) (.skip)))))))))))))))))))
 (.seq (.reg [.op ⟨0, some 2, .mv (.c (.one (.sl 1 (⟨none, 0, 0⟩)))), none⟩,
  .op ⟨1, some 3, .mv (.c (.one (.sl 1 (⟨none, 0, 0⟩)))), none⟩])
 (.ret))))⟩
noncomputable def rec_fields (x0 : Ptr) (H : Heap) : Option ((Sl × Sl × Unit) × Heap) :=
 (x0).bind fun (a1 : Nat × Nat) =>
 (rdI .i64 H a1.1 a1.2).bind fun (v2 : Int) =>
 cond (decide (v2 = 1)) (
 (x0).bind fun (a3 : Nat × Nat) =>
 (x0).bind fun (a4 : Nat × Nat) =>
 (x0).bind fun (a5 : Nat × Nat) =>
 let H6 : Heap := H ++ [Blk.cells [.ptr (some (a3.1, a3.2 + 1)), .ptr (some (a4.1, a4.2 + 2)), .ptr (some (a5.1, a5.2 + 3))] .exact]
 let H7 : Heap := H6 ++ [Blk.cells [.int .i64 15, .int .i64 1023, .int .i64 511] .exact]
 some ((⟨some (H.length, 0), 3, 3⟩, ⟨some (H6.length, 0), 3, 3⟩, ()), H7)) (
 cond (decide (v2 = 2)) (
 (x0).bind fun (a8 : Nat × Nat) =>
 (x0).bind fun (a9 : Nat × Nat) =>
 let H10 : Heap := H ++ [Blk.cells [.ptr (some (a8.1, a8.2 + 1)), .ptr (some (a9.1, a9.2 + 2))] .exact]
 let H11 : Heap := H10 ++ [Blk.cells [.int .i64 15, .int .i64 1023] .exact]
 some ((⟨some (H.length, 0), 2, 2⟩, ⟨some (H10.length, 0), 2, 2⟩, ()), H11)) (
 cond (decide (v2 = 3)) (
 (x0).bind fun (a12 : Nat × Nat) =>
 (x0).bind fun (a13 : Nat × Nat) =>
 let H14 : Heap := H ++ [Blk.cells [.ptr (some (a12.1, a12.2 + 3)), .ptr (some (a13.1, a13.2 + 4))] .exact]
 let H15 : Heap := H14 ++ [Blk.cells [.int .i64 511, .int .i64 511] .exact]
 some ((⟨some (H.length, 0), 2, 2⟩, ⟨some (H14.length, 0), 2, 2⟩, ()), H15)) (
 cond (decide (v2 = 4)) (
 (x0).bind fun (a16 : Nat × Nat) =>
 (x0).bind fun (a17 : Nat × Nat) =>
 let H18 : Heap := H ++ [Blk.cells [.ptr (some (a16.1, a16.2 + 1)), .ptr (some (a17.1, a17.2 + 5))] .exact]
 let H19 : Heap := H18 ++ [Blk.cells [.int .i64 15, .int .i64 1024] .exact]
 some ((⟨some (H.length, 0), 2, 2⟩, ⟨some (H18.length, 0), 2, 2⟩, ()), H19)) (
 (cond (decide (v2 = 5)) (
 some (((decide (v2 = 5)), ()), H)) (
 some (((decide (v2 = 7)), ()), H)) : Option ((Bool × Unit) × Heap)).bind fun (p20 : (Bool × Unit) × Heap) =>
 cond p20.1.1 (
 (x0).bind fun (a21 : Nat × Nat) =>
 let H22 : Heap := p20.2 ++ [Blk.cells [.ptr (some (a21.1, a21.2 + 1))] .exact]
 let H23 : Heap := H22 ++ [Blk.cells [.int .i64 15] .exact]
 some ((⟨some (p20.2.length, 0), 1, 1⟩, ⟨some (H22.length, 0), 1, 1⟩, ()), H23)) (
 cond (decide (v2 = 6)) (
 (x0).bind fun (a24 : Nat × Nat) =>
 (x0).bind fun (a25 : Nat × Nat) =>
 let H26 : Heap := p20.2 ++ [Blk.cells [.ptr (some (a24.1, a24.2 + 1)), .ptr (some (a25.1, a25.2 + 4))] .exact]
 let H27 : Heap := H26 ++ [Blk.cells [.int .i64 15, .int .i64 15] .exact]
 some ((⟨some (p20.2.length, 0), 2, 2⟩, ⟨some (H26.length, 0), 2, 2⟩, ()), H27)) (
 cond (decide (v2 = 8)) (
 (x0).bind fun (a28 : Nat × Nat) =>
 let H29 : Heap := p20.2 ++ [Blk.cells [.ptr (some (a28.1, a28.2 + 3))] .exact]
 let H30 : Heap := H29 ++ [Blk.cells [.int .i64 31] .exact]
 some ((⟨some (p20.2.length, 0), 1, 1⟩, ⟨some (H29.length, 0), 1, 1⟩, ()), H30)) (
 cond (decide (v2 = 9)) (
 (x0).bind fun (a31 : Nat × Nat) =>
 (x0).bind fun (a32 : Nat × Nat) =>
 let H33 : Heap := p20.2 ++ [Blk.cells [.ptr (some (a31.1, a31.2 + 3)), .ptr (some (a32.1, a32.2 + 5))] .exact]
 let H34 : Heap := H33 ++ [Blk.cells [.int .i64 31, .int .i64 1073741824] .exact]
 some ((⟨some (p20.2.length, 0), 2, 2⟩, ⟨some (H33.length, 0), 2, 2⟩, ()), H34)) (
 some ((⟨none, 0, 0⟩, ⟨none, 0, 0⟩, ()), p20.2)))))))))
noncomputable def rec_fields.c : Callee := .full [.one .ptr] [.one (.sl 1), .one (.sl 1)] (fun x H => rec_fields x.1 H)
noncomputable def rec_fields.calls : Nat → Option Callee
  | _ => none
theorem rec_fields.eq : evFull rec_fields.calls rec_fields.af = (fun x H => rec_fields x.1 H) := by kernel_rfl

/-! ### tinderbox/rec.Put -/
def rec_Put.af : AFun := ⟨[.agg [.int .i64, .int .i64, .int .i64, .int .i64, .int .i64, .int .i64]], [.one .str], [.t 2],
 .seq (.reg [.op ⟨0, some 1, .box (.t 0), none⟩,
  .op ⟨1, some 2, .mv (.c (.one (.str []))), none⟩])
 (.seq (.reg [.op ⟨0, some 8, .addr 0 (.t 1), none⟩,
  .op ⟨1, some 9, .load (.one (.int .i64)) (.t 8), none⟩,
  .op ⟨2, some 10, .conv .u64 (.t 9), none⟩,
  .op ⟨3, some 11, .call 0 [(.t 10), (.c (.one (.int .i64 1)))], none⟩,
  .op ⟨4, some 3, .mv (.t 11), none⟩])
 (.seq (.reg [.op ⟨0, some 13, .call 1 [(.t 1)], none⟩,
  .op ⟨1, some 12, .mv (.t 13), none⟩,
  .op ⟨2, some 14, .ext (.t 12) 0, none⟩,
  .op ⟨3, some 15, .ext (.t 12) 1, none⟩,
  .op ⟨4, some 4, .mv (.t 14), none⟩,
  .op ⟨5, some 5, .mv (.t 15), none⟩])
 (.seq (.seq (.reg [.op ⟨0, some 16, .mv (.t 4), none⟩,
  .op ⟨1, some 17, .len (.t 16), none⟩,
  .op ⟨2, some 18, .mv (.c (.one (.int .i64 0))), none⟩])
 (.block 0 (.loop [(3, .one .str), (18, .one (.int .i64))] [(.exit 0, [(3, .one .str)])] (.seq (.reg [.op ⟨0, some 19, .bin .lss (.t 18) (.t 17), none⟩])
 (.seq (.cond (.t 19) (.skip) (.exit 0))
 (.seq (.block 1 (.seq (.reg [.op ⟨0, some 20, .idxa 1 (.t 16) (.t 18), none⟩,
  .op ⟨1, some 21, .load (.one .ptr) (.t 20), none⟩,
  .op ⟨2, some 7, .mv (.t 21), none⟩])
 (.reg [.op ⟨0, some 22, .mv (.t 3), none⟩,
  .op ⟨1, some 23, .mv (.t 7), none⟩,
  .op ⟨2, some 24, .nilc (.t 23), none⟩,
  .op ⟨3, some 25, .load (.one (.int .i64)) (.t 24), none⟩,
  .op ⟨4, some 26, .conv .u64 (.t 25), none⟩,
  .op ⟨5, some 27, .call 2 [(.t 26)], none⟩,
  .op ⟨6, some 28, .bin .add (.t 22) (.t 27), none⟩,
  .op ⟨7, some 3, .mv (.t 28), none⟩])))
 (.reg [.op ⟨0, some 29, .bin .add (.t 18) (.c (.one (.int .i64 1))), none⟩,
  .op ⟨1, some 18, .mv (.t 29), none⟩])))))))
 (.seq (.reg [.op ⟨0, some 30, .mv (.t 3), none⟩,
  .op ⟨1, some 2, .mv (.t 30), none⟩])
 (.ret)))))⟩
noncomputable def rec_Put.s1 (r4 : ((Sl × Sl × Unit) × Heap)) (s5 : (Bytes × Int × Unit)) (H6 : Heap) : Option (((Bytes × Int × Unit) ⊕ (Bytes × Unit)) × Heap) :=
 cond (decide (s5.2.1 < (r4.1.1.len : Int))) (
 (Sl.at 1 r4.1.1 s5.2.1).bind fun (a7 : (Nat × Nat)) =>
 (rdP H6 a7.1 a7.2).bind fun (v8 : Ptr) =>
 (v8).bind fun (a9 : Nat × Nat) =>
 (rdI .i64 H6 a9.1 a9.2).bind fun (v10 : Int) =>
 (code_Num (IntKind.wrap .u64 v10)).bind fun (r11 : (Bytes × Unit)) =>
 (catS s5.1 r11.1).bind fun (s12 : Bytes) =>
 some (Sum.inl (s12, (IntKind.wrap .i64 (s5.2.1 + 1)), ()), H6)) (
 some (Sum.inr (s5.1, ()), H6))
noncomputable def rec_Put.on (x0 : (Int × Int × Int × Int × Int × Int × Unit)) (H : Heap) : Option (Bytes × Unit) :=
 let H1 : Heap := H ++ [Blk.cells [.int .i64 x0.1, .int .i64 x0.2.1, .int .i64 x0.2.2.1, .int .i64 x0.2.2.2.1, .int .i64 x0.2.2.2.2.1, .int .i64 x0.2.2.2.2.2.1] .exact]
 (rdI .i64 H1 H.length 0).bind fun (v2 : Int) =>
 (code_Fixed (IntKind.wrap .u64 v2) 1).bind fun (r3 : (Bytes × Unit)) =>
 (rec_fields (some (H.length, 0)) H1).bind fun (r4 : ((Sl × Sl × Unit) × Heap)) =>
 (loopW (rec_Put.s1 r4) (r3.1, 0, ()) r4.2).bind fun (p13 : (Bytes × Unit) × Heap) =>
 some (p13.1.1, ())
noncomputable def rec_Put (x0 : (Int × Int × Int × Int × Int × Int × Unit)) : Option (Bytes × Unit) := rec_Put.on x0 []
noncomputable def rec_Put.c : Callee := .pure [.agg [.int .i64, .int .i64, .int .i64, .int .i64, .int .i64, .int .i64]] [.one .str] (fun x => rec_Put x.1)
noncomputable def rec_Put.calls : Nat → Option Callee
  | 0 => some code_Fixed.c
  | 1 => some rec_fields.c
  | 2 => some code_Num.c
  | _ => none
theorem rec_Put.eq : evPure rec_Put.calls rec_Put.af = (fun x H => rec_Put.on x.1 H) := by kernel_rfl
end Ev
