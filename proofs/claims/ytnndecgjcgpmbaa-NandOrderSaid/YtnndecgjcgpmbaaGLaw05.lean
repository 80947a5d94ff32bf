/- What the functions of the package Law05 compute: abstract code, and a function of plain Lean for each; the kernel checks that they are the same. Written by gen2.py. -/
import Derived.Test.YtnndecgjcgpmbaaEvCore
import Derived.Test.YtnndecgjcgpmbaaGNand
import Derived.KernelRfl
set_option linter.unusedVariables false
set_option maxRecDepth 100000
namespace Ev
open Go (IntKind BinOp UnOp)

/-! ### tinderbox/tinderboxlaw05.Geometry -/
def law05_Geometry.af : AFun := ⟨[.agg [.int .i64, .int .i64, .int .i64]], [.agg [.int .i64, .int .i64, .int .i64]], [.cell 2],
 .seq (.reg [.op ⟨0, some 1, .box (.t 0), none⟩,
  .op ⟨1, some 2, .new [.int .i64 0, .int .i64 0, .int .i64 0], none⟩])
 (.seq (.reg [.op ⟨0, some 3, .addr 0 (.t 1), none⟩,
  .op ⟨1, some 4, .load (.one (.int .i64)) (.t 3), none⟩,
  .op ⟨2, some 5, .bin .and (.t 4) (.c (.one (.int .i64 7))), none⟩,
  .op ⟨3, some 6, .bin .add (.c (.one (.int .i64 8))) (.t 5), none⟩,
  .op ⟨4, some 7, .addr 1 (.t 1), none⟩,
  .op ⟨5, some 8, .load (.one (.int .i64)) (.t 7), none⟩,
  .op ⟨6, some 9, .bin .and (.t 8) (.c (.one (.int .i64 7))), none⟩,
  .op ⟨7, some 10, .bin .add (.c (.one (.int .i64 4))) (.t 9), none⟩,
  .op ⟨8, some 11, .addr 2 (.t 1), none⟩,
  .op ⟨9, some 12, .load (.one (.int .i64)) (.t 11), none⟩,
  .op ⟨10, some 13, .bin .and (.t 12) (.c (.one (.int .i64 63))), none⟩,
  .op ⟨11, some 14, .bin .add (.c (.one (.int .i64 64))) (.t 13), none⟩,
  .op ⟨12, some 15, .build [.int .i64 0, .int .i64 0, .int .i64 0] [(0, 1, (.t 6)), (1, 1, (.t 10)), (2, 1, (.t 14))], none⟩,
  .op ⟨13, none, .store 3 (.t 2) (.t 15), none⟩])
 (.ret))⟩
noncomputable def law05_Geometry.on (x0 : (Int × Int × Int × Unit)) (H : Heap) : Option ((Int × Int × Int × Unit) × Unit) :=
 let H1 : Heap := H ++ [Blk.cells [.int .i64 x0.1, .int .i64 x0.2.1, .int .i64 x0.2.2.1] .exact]
 let H2 : Heap := H1 ++ [Blk.cells [.int .i64 0, .int .i64 0, .int .i64 0] .exact]
 (rdI .i64 H2 H.length 0).bind fun (v3 : Int) =>
 (rdI .i64 H2 H.length 1).bind fun (v4 : Int) =>
 (rdI .i64 H2 H.length 2).bind fun (v5 : Int) =>
 (wr H2 H1.length 0 [.int .i64 (IntKind.wrap .i64 (8 + (bitsI .and .i64 v3 7))), .int .i64 (IntKind.wrap .i64 (4 + (bitsI .and .i64 v4 7))), .int .i64 (IntKind.wrap .i64 (64 + (bitsI .and .i64 v5 63)))]).bind fun (H6 : Heap) =>
 Option.bind (α := (Int × Int × Int × Unit)) (rd H6 (.agg [.int .i64, .int .i64, .int .i64]) H1.length 0) fun (v7 : (Int × Int × Int × Unit)) =>
 some (v7, ())
noncomputable def law05_Geometry (x0 : (Int × Int × Int × Unit)) : Option ((Int × Int × Int × Unit) × Unit) := law05_Geometry.on x0 []
noncomputable def law05_Geometry.c : Callee := .pure [.agg [.int .i64, .int .i64, .int .i64]] [.agg [.int .i64, .int .i64, .int .i64]] (fun x => law05_Geometry x.1)
noncomputable def law05_Geometry.calls : Nat → Option Callee
  | _ => none
theorem law05_Geometry.eq : evPure law05_Geometry.calls law05_Geometry.af = (fun x H => law05_Geometry.on x.1 H) := by kernel_rfl

/-! ### tinderbox/tinderboxlaw05.text -/
def law05_text.af : AFun := ⟨[.one (.int .i64), .one (.int .u8)], [.one .str], [.t 4],
 .seq (.reg [.op ⟨0, some 4, .mv (.c (.one (.str []))), none⟩])
 (.seq (.reg [.op ⟨0, some 7, .mv (.t 0), none⟩,
  .op ⟨1, some 8, .mk 1 1 [.int .u8 0] (.t 7) (.t 7), none⟩,
  .op ⟨2, some 5, .mv (.t 8), none⟩])
 (.seq (.seq (.reg [.op ⟨0, some 6, .mv (.c (.one (.int .i64 0))), none⟩])
 (.block 0 (.loop [(6, .one (.int .i64))] [(.exit 0, [])] (.seq (.seq (.reg [.op ⟨0, some 9, .mv (.t 6), none⟩,
  .op ⟨1, some 10, .mv (.t 0), none⟩,
  .op ⟨2, some 11, .bin .lss (.t 9) (.t 10), none⟩])
 (.cond (.t 11) (.skip) (.exit 0)))
 (.seq (.block 1 (.reg [.op ⟨0, some 14, .mv (.t 5), none⟩,
  .op ⟨1, some 15, .mv (.t 6), none⟩,
  .op ⟨2, some 16, .mv (.t 1), none⟩,
  .op ⟨3, some 17, .idxa 1 (.t 14) (.t 15), none⟩,
  .op ⟨4, none, .store 1 (.t 17) (.t 16), none⟩]))
 (.reg [.op ⟨0, some 12, .mv (.t 6), none⟩,
  .op ⟨1, some 13, .bin .add (.t 12) (.c (.one (.int .i64 1))), none⟩,
  .op ⟨2, some 6, .mv (.t 13), none⟩]))))))
 (.seq (.reg [.op ⟨0, some 18, .mv (.t 5), none⟩,
  .op ⟨1, some 19, .b2s (.t 18), none⟩,
  .op ⟨2, some 4, .mv (.t 19), none⟩])
 (.ret))))⟩
noncomputable def law05_text.s1 (x0 : Int) (x1 : Int) (p1 : (Sl × Heap)) (s2 : (Int × Unit)) (H3 : Heap) : Option (((Int × Unit) ⊕ (Unit)) × Heap) :=
 cond (decide (s2.1 < x0)) (
 (Sl.at 1 p1.1 s2.1).bind fun (a4 : (Nat × Nat)) =>
 (wr H3 a4.1 a4.2 [.int .u8 x1]).bind fun (H5 : Heap) =>
 some (Sum.inl ((IntKind.wrap .i64 (s2.1 + 1)), ()), H5)) (
 some (Sum.inr (()), H3))
noncomputable def law05_text.on (x0 : Int) (x1 : Int) (H : Heap) : Option (Bytes × Unit) :=
 (mkS H 1 [.int .u8 0] x0 x0).bind fun (p1 : (Sl × Heap)) =>
 (loopW (law05_text.s1 x0 x1 p1) (0, ()) p1.2).bind fun (p6 : (Unit) × Heap) =>
 (strOf p6.2 p1.1).bind fun (s7 : Bytes) =>
 some (s7, ())
noncomputable def law05_text (x0 : Int) (x1 : Int) : Option (Bytes × Unit) := law05_text.on x0 x1 []
noncomputable def law05_text.c : Callee := .pure [.one (.int .i64), .one (.int .u8)] [.one .str] (fun x => law05_text x.1 x.2.1)
noncomputable def law05_text.calls : Nat → Option Callee
  | _ => none
theorem law05_text.eq : evPure law05_text.calls law05_text.af = (fun x H => law05_text.on x.1 x.2.1 H) := by kernel_rfl

/-! ### tinderbox/tinderboxlaw05.awake -/
def law05_awake.af : AFun := ⟨[], [.one .bool], [.t 0],
 .seq (.reg [.op ⟨0, some 0, .mv (.c (.one (.bool false))), none⟩])
 (.seq (.reg [.op ⟨0, some 8, .build [.int .i64 0, .int .i64 0, .int .i64 0] [(0, 1, (.c (.one (.int .i64 8)))), (1, 1, (.c (.one (.int .i64 4)))), (2, 1, (.c (.one (.int .i64 64))))], none⟩,
  .op ⟨1, some 9, .build [.sl 3 Sl.nil, .sl 1 Sl.nil, .sl 1 Sl.nil] [], none⟩,
  .op ⟨2, some 10, .call 0 [(.t 8), (.t 9)], none⟩,
  .op ⟨3, some 7, .mv (.t 10), none⟩,
  .op ⟨4, some 11, .ext (.t 7) 0, none⟩,
  .op ⟨5, some 12, .ext (.t 7) 1, none⟩,
  .op ⟨6, some 1, .mv (.t 11), none⟩,
  .op ⟨7, some 2, .mv (.t 12), none⟩])
 (.seq (.reg [.op ⟨0, some 13, .mv (.t 1), none⟩,
  .op ⟨1, some 14, .call 1 [(.c (.one (.int .i64 64))), (.c (.one (.int .u8 7)))], none⟩,
  .op ⟨2, some 15, .call 1 [(.c (.one (.int .i64 32))), (.c (.one (.int .u8 8)))], none⟩,
  .op ⟨3, some 16, .call 2 [(.t 13), (.c (.one (.int .i64 1))), (.c (.one (.int .i64 0))), (.t 14), (.t 15)], none⟩,
  .op ⟨4, some 3, .mv (.t 16), none⟩])
 (.seq (.reg [.op ⟨0, some 18, .mv (.t 1), none⟩,
  .op ⟨1, some 19, .call 3 [(.t 18), (.c (.one (.int .i64 1))), (.c (.one (.int .i64 0)))], none⟩,
  .op ⟨2, some 17, .mv (.t 19), none⟩,
  .op ⟨3, some 20, .ext (.t 17) 0, none⟩,
  .op ⟨4, some 21, .ext (.t 17) 1, none⟩,
  .op ⟨5, some 22, .ext (.t 17) 2, none⟩,
  .op ⟨6, some 4, .mv (.t 20), none⟩,
  .op ⟨7, some 5, .mv (.t 21), none⟩,
  .op ⟨8, some 6, .mv (.t 22), none⟩])
 (.seq (.reg [.op ⟨0, some 23, .mv (.t 2), none⟩,
  .op ⟨1, some 24, .bin .eql (.t 23) (.c (.one (.int .i64 0))), none⟩,
  .op ⟨2, some 25, .mv (.t 24), none⟩,
  .op ⟨3, some 26, .mv (.t 3), some (25, true)⟩,
  .op ⟨4, some 27, .bin .eql (.t 26) (.c (.one (.int .i64 0))), some (25, true)⟩,
  .op ⟨5, some 28, .pick (.t 25) (.t 27) (.c (.one (.bool false))), none⟩,
  .op ⟨6, some 29, .mv (.t 28), none⟩,
  .op ⟨7, some 30, .mv (.t 6), some (29, true)⟩,
  .op ⟨8, some 31, .bin .eql (.t 30) (.c (.one (.int .i64 0))), some (29, true)⟩,
  .op ⟨9, some 32, .pick (.t 29) (.t 31) (.c (.one (.bool false))), none⟩,
  .op ⟨10, some 33, .mv (.t 32), none⟩,
  .op ⟨11, some 34, .mv (.t 4), some (33, true)⟩,
  .op ⟨12, some 35, .call 1 [(.c (.one (.int .i64 64))), (.c (.one (.int .u8 7)))], some (33, true)⟩,
  .op ⟨13, some 36, .bin .eql (.t 34) (.t 35), some (33, true)⟩,
  .op ⟨14, some 37, .pick (.t 33) (.t 36) (.c (.one (.bool false))), none⟩,
  .op ⟨15, some 38, .mv (.t 37), none⟩,
  .op ⟨16, some 39, .mv (.t 5), some (38, true)⟩,
  .op ⟨17, some 40, .call 1 [(.c (.one (.int .i64 32))), (.c (.one (.int .u8 8)))], some (38, true)⟩,
  .op ⟨18, some 41, .bin .eql (.t 39) (.t 40), some (38, true)⟩,
  .op ⟨19, some 42, .pick (.t 38) (.t 41) (.c (.one (.bool false))), none⟩,
  .op ⟨20, some 43, .mv (.t 42), none⟩,
  .op ⟨21, some 44, .mv (.t 1), some (43, true)⟩,
  .op ⟨22, some 45, .mv (.t 4), some (43, true)⟩,
  .op ⟨23, some 46, .mv (.t 5), some (43, true)⟩,
  .op ⟨24, some 47, .call 2 [(.t 44), (.c (.one (.int .i64 1))), (.c (.one (.int .i64 0))), (.t 45), (.t 46)], some (43, true)⟩,
  .op ⟨25, some 48, .bin .eql (.t 47) (.c (.one (.int .i64 52))), some (43, true)⟩,
  .op ⟨26, some 49, .pick (.t 43) (.t 48) (.c (.one (.bool false))), none⟩,
  .op ⟨27, some 50, .mv (.t 49), none⟩,
  .op ⟨28, some 51, .mv (.t 1), some (50, true)⟩,
  .op ⟨29, some 52, .call 4 [(.t 51)], some (50, true)⟩,
  .op ⟨30, some 53, .bin .eql (.t 52) (.c (.one (.int .i64 1))), some (50, true)⟩,
  .op ⟨31, some 54, .pick (.t 50) (.t 53) (.c (.one (.bool false))), none⟩,
  .op ⟨32, some 0, .mv (.t 54), none⟩])
 (.ret)))))⟩
noncomputable def law05_awake.on (H : Heap) : Option (Bool × Unit) :=
 (nand_New (8, 4, 64, ()) (⟨none, 0, 0⟩, ⟨none, 0, 0⟩, ⟨none, 0, 0⟩, ()) H).bind fun (r1 : ((Ptr × Int × Unit) × Heap)) =>
 (law05_text 64 7).bind fun (r2 : (Bytes × Unit)) =>
 (law05_text 32 8).bind fun (r3 : (Bytes × Unit)) =>
 (nand_Chip_Program r1.1.1 1 0 r2.1 r3.1 r1.2).bind fun (r4 : ((Int × Unit) × Heap)) =>
 (nand_Chip_Read r1.1.1 1 0 r4.2).bind fun (r5 : ((Bytes × Bytes × Int × Unit) × Heap)) =>
 cond (decide (r1.1.2.1 = 0)) (
 cond (decide (r4.1.1 = 0)) (
 cond (decide (r5.1.2.2.1 = 0)) (
 (law05_text 64 7).bind fun (r6 : (Bytes × Unit)) =>
 cond (decide ((r5.1.1 : Bytes) = r6.1)) (
 (law05_text 32 8).bind fun (r7 : (Bytes × Unit)) =>
 cond (decide ((r5.1.2.1 : Bytes) = r7.1)) (
 (nand_Chip_Program r1.1.1 1 0 r5.1.1 r5.1.2.1 r5.2).bind fun (r8 : ((Int × Unit) × Heap)) =>
 cond (decide (r8.1.1 = 52)) (
 (nand_Chip_Did r1.1.1 r8.2).bind fun (r9 : ((Int × Unit) × Heap)) =>
 some ((decide (r9.1.1 = 1)), ())) (
 some (false, ()))) (
 some (false, ()))) (
 some (false, ()))) (
 some (false, ()))) (
 some (false, ()))) (
 some (false, ()))
noncomputable def law05_awake  : Option (Bool × Unit) := law05_awake.on []
noncomputable def law05_awake.c : Callee := .pure [] [.one .bool] (fun _ => law05_awake)
noncomputable def law05_awake.calls : Nat → Option Callee
  | 0 => some nand_New.c
  | 1 => some law05_text.c
  | 2 => some nand_Chip_Program.c
  | 3 => some nand_Chip_Read.c
  | 4 => some nand_Chip_Did.c
  | _ => none
theorem law05_awake.eq : evPure law05_awake.calls law05_awake.af = (fun _ H => law05_awake.on H) := by kernel_rfl

/-! ### tinderbox/tinderboxlaw05.NandOrder -/
def law05_NandOrder.af : AFun := ⟨[.agg [.int .i64, .int .i64, .int .i64], .one (.sl 1)], [.one .bool], [.t 4],
 .seq (.reg [.op ⟨0, some 2, .box (.t 0), none⟩,
  .op ⟨1, some 4, .mv (.c (.one (.bool false))), none⟩])
 (.seq (.reg [.op ⟨0, some 13, .load (.agg [.int .i64, .int .i64, .int .i64]) (.t 2), none⟩,
  .op ⟨1, some 14, .call 0 [(.t 13)], none⟩,
  .op ⟨2, some 5, .new [.int .i64 0, .int .i64 0, .int .i64 0], none⟩,
  .op ⟨3, none, .store 3 (.t 5) (.t 14), none⟩])
 (.seq (.reg [.op ⟨0, some 16, .load (.agg [.int .i64, .int .i64, .int .i64]) (.t 5), none⟩,
  .op ⟨1, some 17, .build [.sl 3 Sl.nil, .sl 1 Sl.nil, .sl 1 Sl.nil] [], none⟩,
  .op ⟨2, some 18, .call 1 [(.t 16), (.t 17)], none⟩,
  .op ⟨3, some 15, .mv (.t 18), none⟩,
  .op ⟨4, some 19, .ext (.t 15) 0, none⟩,
  .op ⟨5, some 20, .ext (.t 15) 1, none⟩,
  .op ⟨6, some 6, .mv (.t 19), none⟩,
  .op ⟨7, some 7, .mv (.t 20), none⟩])
 (.seq (.seq (.reg [.op ⟨0, some 21, .call 2 [], none⟩,
  .op ⟨1, some 22, .un .not (.t 21), none⟩,
  .op ⟨2, some 23, .mv (.t 22), none⟩,
  .op ⟨3, some 24, .mv (.t 7), some (23, false)⟩,
  .op ⟨4, some 25, .bin .neq (.t 24) (.c (.one (.int .i64 0))), some (23, false)⟩,
  .op ⟨5, some 26, .pick (.t 23) (.c (.one (.bool true))) (.t 25), none⟩])
 (.cond (.t 26) (.seq (.reg [.op ⟨0, some 4, .mv (.c (.one (.bool false))), none⟩])
 (.ret)) (.skip)))
 (.seq (.reg [.op ⟨0, some 8, .mv (.c (.one (.int .i64 (-1)))), none⟩,
  .op ⟨1, some 9, .mv (.c (.one (.int .i64 0))), none⟩])
 (.seq (.seq (.reg [.op ⟨0, some 10, .mv (.c (.one (.int .i64 0))), none⟩])
 (.block 0 (.loop [(8, .one (.int .i64)), (9, .one (.int .i64)), (10, .one (.int .i64))] [(.exit 0, []), (.ret, [(4, .one .bool)])] (.seq (.seq (.reg [.op ⟨0, some 27, .mv (.t 10), none⟩,
  .op ⟨1, some 28, .mv (.t 1), none⟩,
  .op ⟨2, some 29, .len (.t 28), none⟩,
  .op ⟨3, some 30, .bin .lss (.t 27) (.t 29), none⟩,
  .op ⟨4, some 31, .mv (.t 30), none⟩,
  .op ⟨5, some 32, .mv (.t 10), some (31, true)⟩,
  .op ⟨6, some 33, .bin .lss (.t 32) (.c (.one (.int .i64 40))), some (31, true)⟩,
  .op ⟨7, some 34, .pick (.t 31) (.t 33) (.c (.one (.bool false))), none⟩])
 (.cond (.t 34) (.skip) (.exit 0)))
 (.seq (.block 1 (.seq (.reg [.op ⟨0, some 37, .mv (.t 1), none⟩,
  .op ⟨1, some 38, .mv (.t 10), none⟩,
  .op ⟨2, some 39, .idxa 1 (.t 37) (.t 38), none⟩,
  .op ⟨3, some 40, .load (.one (.int .i64)) (.t 39), none⟩,
  .op ⟨4, some 41, .addr 1 (.t 5), none⟩,
  .op ⟨5, some 42, .load (.one (.int .i64)) (.t 41), none⟩,
  .op ⟨6, some 43, .bin .rem (.t 40) (.t 42), none⟩,
  .op ⟨7, some 44, .addr 1 (.t 5), none⟩,
  .op ⟨8, some 45, .load (.one (.int .i64)) (.t 44), none⟩,
  .op ⟨9, some 46, .bin .add (.t 43) (.t 45), none⟩,
  .op ⟨10, some 47, .addr 1 (.t 5), none⟩,
  .op ⟨11, some 48, .load (.one (.int .i64)) (.t 47), none⟩,
  .op ⟨12, some 49, .bin .rem (.t 46) (.t 48), none⟩,
  .op ⟨13, some 11, .mv (.t 49), none⟩])
 (.seq (.reg [.op ⟨0, some 50, .mv (.t 6), none⟩,
  .op ⟨1, some 51, .mv (.t 11), none⟩,
  .op ⟨2, some 52, .addr 2 (.t 5), none⟩,
  .op ⟨3, some 53, .load (.one (.int .i64)) (.t 52), none⟩,
  .op ⟨4, some 54, .mv (.t 10), none⟩,
  .op ⟨5, some 55, .conv .u8 (.t 54), none⟩,
  .op ⟨6, some 56, .call 3 [(.t 53), (.t 55)], none⟩,
  .op ⟨7, some 57, .call 3 [(.c (.one (.int .i64 32))), (.c (.one (.int .u8 1)))], none⟩,
  .op ⟨8, some 58, .call 4 [(.t 50), (.c (.one (.int .i64 3))), (.t 51), (.t 56), (.t 57)], none⟩,
  .op ⟨9, some 12, .mv (.t 58), none⟩])
 (.seq (.scope [(.normal, []), (.ret, [(4, .one .bool)])] (.seq (.reg [.op ⟨0, some 59, .mv (.t 12), none⟩,
  .op ⟨1, some 60, .bin .eql (.t 59) (.c (.one (.int .i64 0))), none⟩,
  .op ⟨2, some 61, .mv (.t 11), none⟩,
  .op ⟨3, some 62, .mv (.t 8), none⟩,
  .op ⟨4, some 63, .bin .gtr (.t 61) (.t 62), none⟩,
  .op ⟨5, some 64, .eqb true (.t 60) (.t 63), none⟩,
  .op ⟨6, some 65, .mv (.t 64), none⟩,
  .op ⟨7, some 66, .mv (.t 12), some (65, false)⟩,
  .op ⟨8, some 67, .bin .neq (.t 66) (.c (.one (.int .i64 0))), some (65, false)⟩,
  .op ⟨9, some 68, .mv (.t 67), some (65, false)⟩,
  .op ⟨10, some 69, .mv (.t 12), some (68, true)⟩,
  .op ⟨11, some 70, .bin .neq (.t 69) (.c (.one (.int .i64 52))), some (68, true)⟩,
  .op ⟨12, some 71, .pick (.t 68) (.t 70) (.c (.one (.bool false))), some (65, false)⟩,
  .op ⟨13, some 72, .pick (.t 65) (.c (.one (.bool true))) (.t 71), none⟩])
 (.cond (.t 72) (.seq (.reg [.op ⟨0, some 4, .mv (.c (.one (.bool false))), none⟩])
 (.ret)) (.skip))))
 (.seq (.scope [(.normal, [(8, .one (.int .i64)), (9, .one (.int .i64))])] (.seq (.reg [.op ⟨0, some 73, .mv (.t 11), none⟩,
  .op ⟨1, some 74, .mv (.t 8), none⟩,
  .op ⟨2, some 75, .bin .gtr (.t 73) (.t 74), none⟩])
 (.cond (.t 75) (.reg [.op ⟨0, some 76, .mv (.t 11), none⟩,
  .op ⟨1, some 77, .mv (.t 9), none⟩,
  .op ⟨2, some 78, .bin .add (.t 77) (.c (.one (.int .i64 1))), none⟩,
  .op ⟨3, some 8, .mv (.t 76), none⟩,
  .op ⟨4, some 9, .mv (.t 78), none⟩]) (.skip))))
 (.seq (.seq (.reg [.op ⟨0, some 79, .mv (.t 6), none⟩,
  .op ⟨1, some 80, .call 5 [(.t 79)], none⟩,
  .op ⟨2, some 81, .mv (.t 9), none⟩,
  .op ⟨3, some 82, .bin .neq (.t 80) (.t 81), none⟩])
 (.cond (.t 82) (.seq (.reg [.op ⟨0, some 4, .mv (.c (.one (.bool false))), none⟩])
 (.ret)) (.skip)))
 (.seq (.reg [.op ⟨0, some 83, .mv (.t 8), none⟩,
  .op ⟨1, some 84, .addr 1 (.t 5), none⟩,
  .op ⟨2, some 85, .load (.one (.int .i64)) (.t 84), none⟩,
  .op ⟨3, some 86, .bin .sub (.t 85) (.c (.one (.int .i64 1))), none⟩,
  .op ⟨4, some 87, .bin .eql (.t 83) (.t 86), none⟩])
 (.cond (.t 87) (.seq (.seq (.reg [.op ⟨0, some 88, .mv (.t 6), none⟩,
  .op ⟨1, some 89, .call 6 [(.t 88), (.c (.one (.int .i64 3)))], none⟩,
  .op ⟨2, some 90, .bin .neq (.t 89) (.c (.one (.int .i64 0))), none⟩])
 (.cond (.t 90) (.seq (.reg [.op ⟨0, some 4, .mv (.c (.one (.bool false))), none⟩])
 (.ret)) (.skip)))
 (.reg [.op ⟨0, some 91, .mv (.t 9), none⟩,
  .op ⟨1, some 92, .bin .add (.t 91) (.c (.one (.int .i64 1))), none⟩,
  .op ⟨2, some 8, .mv (.c (.one (.int .i64 (-1)))), none⟩,
  .op ⟨3, some 9, .mv (.t 92), none⟩])) (.skip)))))))))
 (.reg [.op ⟨0, some 35, .mv (.t 10), none⟩,
  .op ⟨1, some 36, .bin .add (.t 35) (.c (.one (.int .i64 1))), none⟩,
  .op ⟨2, some 10, .mv (.t 36), none⟩]))))))
 (.seq (.reg [.op ⟨0, some 4, .mv (.c (.one (.bool true))), none⟩])
 (.ret)))))))⟩
noncomputable def law05_NandOrder.s1 (x1 : Sl) (H1 : Heap) (r7 : ((Ptr × Int × Unit) × Heap)) (s9 : (Int × Int × Int × Unit)) (H10 : Heap) : Option (((Int × Int × Int × Unit) ⊕ ((Unit) ⊕ (Bool × Unit))) × Heap) :=
 cond (decide (s9.2.2.1 < (x1.len : Int))) (
 cond (decide (s9.2.2.1 < 40)) (
 (Sl.at 1 x1 s9.2.2.1).bind fun (a11 : (Nat × Nat)) =>
 (rdI .i64 H10 a11.1 a11.2).bind fun (v12 : Int) =>
 (rdI .i64 H10 H1.length 1).bind fun (v13 : Int) =>
 cond (decide (v13 = 0)) none (
 (rdI .i64 H10 H1.length 1).bind fun (v14 : Int) =>
 (rdI .i64 H10 H1.length 1).bind fun (v15 : Int) =>
 cond (decide (v15 = 0)) none (
 (rdI .i64 H10 H1.length 2).bind fun (v16 : Int) =>
 (law05_text v16 (IntKind.wrap .u8 s9.2.2.1)).bind fun (r17 : (Bytes × Unit)) =>
 (law05_text 32 1).bind fun (r18 : (Bytes × Unit)) =>
 (nand_Chip_Program r7.1.1 3 (Int.tmod (IntKind.wrap .i64 ((Int.tmod v12 v13) + v14)) v15) r17.1 r18.1 H10).bind fun (r19 : ((Int × Unit) × Heap)) =>
 (cond (!((decide (r19.1.1 = 0)) == (decide (s9.1 < (Int.tmod (IntKind.wrap .i64 ((Int.tmod v12 v13) + v14)) v15))))) (
 some (Sum.inr (false, ()), r19.2)) (
 cond (!decide (r19.1.1 = 0)) (
 cond (!decide (r19.1.1 = 52)) (
 some (Sum.inr (false, ()), r19.2)) (
 some (Sum.inl (()), r19.2))) (
 some (Sum.inl (()), r19.2))) : Option (((Unit) ⊕ (Bool × Unit)) × Heap)).bind fun (p20 : ((Unit) ⊕ (Bool × Unit)) × Heap) =>
 Sum.elim (fun (y21 : (Unit)) =>
 (cond (decide (s9.1 < (Int.tmod (IntKind.wrap .i64 ((Int.tmod v12 v13) + v14)) v15))) (
 some (((Int.tmod (IntKind.wrap .i64 ((Int.tmod v12 v13) + v14)) v15), (IntKind.wrap .i64 (s9.2.1 + 1)), ()), p20.2)) (
 some ((s9.1, s9.2.1, ()), p20.2)) : Option ((Int × Int × Unit) × Heap)).bind fun (p22 : (Int × Int × Unit) × Heap) =>
 (nand_Chip_Did r7.1.1 p22.2).bind fun (r23 : ((Int × Unit) × Heap)) =>
 cond (!decide (r23.1.1 = p22.1.2.1)) (
 some (Sum.inr (Sum.inr (false, ())), r23.2)) (
 (rdI .i64 r23.2 H1.length 1).bind fun (v24 : Int) =>
 cond (decide (p22.1.1 = (IntKind.wrap .i64 (v24 - 1)))) (
 (nand_Chip_Erase r7.1.1 3 r23.2).bind fun (r25 : ((Int × Unit) × Heap)) =>
 cond (!decide (r25.1.1 = 0)) (
 some (Sum.inr (Sum.inr (false, ())), r25.2)) (
 some (Sum.inl ((-1), (IntKind.wrap .i64 (p22.1.2.1 + 1)), (IntKind.wrap .i64 (s9.2.2.1 + 1)), ()), r25.2))) (
 some (Sum.inl (p22.1.1, p22.1.2.1, (IntKind.wrap .i64 (s9.2.2.1 + 1)), ()), r23.2)))) (fun (z26 : (Bool × Unit)) =>
 some (Sum.inr (Sum.inr (z26.1, ())), p20.2)) p20.1))) (
 some (Sum.inr (Sum.inl (())), H10))) (
 some (Sum.inr (Sum.inl (())), H10))
noncomputable def law05_NandOrder (x0 : (Int × Int × Int × Unit)) (x1 : Sl) (H : Heap) : Option ((Bool × Unit) × Heap) :=
 let H1 : Heap := H ++ [Blk.cells [.int .i64 x0.1, .int .i64 x0.2.1, .int .i64 x0.2.2.1] .exact]
 Option.bind (α := (Int × Int × Int × Unit)) (rd H1 (.agg [.int .i64, .int .i64, .int .i64]) H.length 0) fun (v2 : (Int × Int × Int × Unit)) =>
 (law05_Geometry (v2.1, v2.2.1, v2.2.2.1, ())).bind fun (r3 : ((Int × Int × Int × Unit) × Unit)) =>
 let H4 : Heap := H1 ++ [Blk.cells [.int .i64 0, .int .i64 0, .int .i64 0] .exact]
 (wr H4 H1.length 0 [.int .i64 r3.1.1, .int .i64 r3.1.2.1, .int .i64 r3.1.2.2.1]).bind fun (H5 : Heap) =>
 Option.bind (α := (Int × Int × Int × Unit)) (rd H5 (.agg [.int .i64, .int .i64, .int .i64]) H1.length 0) fun (v6 : (Int × Int × Int × Unit)) =>
 (nand_New (v6.1, v6.2.1, v6.2.2.1, ()) (⟨none, 0, 0⟩, ⟨none, 0, 0⟩, ⟨none, 0, 0⟩, ()) H5).bind fun (r7 : ((Ptr × Int × Unit) × Heap)) =>
 (law05_awake).bind fun (r8 : (Bool × Unit)) =>
 cond (!r8.1) (
 some ((false, ()), r7.2)) (
 cond (!decide (r7.1.2.1 = 0)) (
 some ((false, ()), r7.2)) (
 (loopW (law05_NandOrder.s1 x1 H1 r7) ((-1), 0, 0, ()) r7.2).bind fun (p27 : ((Unit) ⊕ (Bool × Unit)) × Heap) =>
 Sum.elim (fun (y28 : (Unit)) =>
 some ((true, ()), p27.2)) (fun (z29 : (Bool × Unit)) =>
 some ((z29.1, ()), p27.2)) p27.1))
noncomputable def law05_NandOrder.c : Callee := .full [.agg [.int .i64, .int .i64, .int .i64], .one (.sl 1)] [.one .bool] (fun x H => law05_NandOrder x.1 x.2.1 H)
noncomputable def law05_NandOrder.calls : Nat → Option Callee
  | 0 => some law05_Geometry.c
  | 1 => some nand_New.c
  | 2 => some law05_awake.c
  | 3 => some law05_text.c
  | 4 => some nand_Chip_Program.c
  | 5 => some nand_Chip_Did.c
  | 6 => some nand_Chip_Erase.c
  | _ => none
theorem law05_NandOrder.eq : evFull law05_NandOrder.calls law05_NandOrder.af = (fun x H => law05_NandOrder x.1 x.2.1 H) := by kernel_rfl

/-! ### tinderbox/tinderboxlaw05.NandArm -/
def law05_NandArm.af : AFun := ⟨[.agg [.int .i64, .int .i64, .int .i64], .one (.int .i64), .one (.int .i64)], [.one .bool], [.t 6],
 .seq (.reg [.op ⟨0, some 3, .box (.t 0), none⟩,
  .op ⟨1, some 6, .mv (.c (.one (.bool false))), none⟩])
 (.seq (.reg [.op ⟨0, some 14, .load (.agg [.int .i64, .int .i64, .int .i64]) (.t 3), none⟩,
  .op ⟨1, some 15, .call 0 [(.t 14)], none⟩,
  .op ⟨2, some 7, .new [.int .i64 0, .int .i64 0, .int .i64 0], none⟩,
  .op ⟨3, none, .store 3 (.t 7) (.t 15), none⟩])
 (.seq (.reg [.op ⟨0, some 17, .load (.agg [.int .i64, .int .i64, .int .i64]) (.t 7), none⟩,
  .op ⟨1, some 18, .build [.int .i64 0, .int .i64 0, .int .u8 0] [(0, 1, (.c (.one (.int .i64 1000))))], none⟩,
  .op ⟨2, some 19, .bslice 3 1 [.int .i64 0, .int .i64 0, .int .u8 0] [(0, 3, (.t 18))], none⟩,
  .op ⟨3, some 20, .build [.sl 3 Sl.nil, .sl 1 Sl.nil, .sl 1 Sl.nil] [(0, 1, (.t 19))], none⟩,
  .op ⟨4, some 21, .call 1 [(.t 17), (.t 20)], none⟩,
  .op ⟨5, some 16, .mv (.t 21), none⟩,
  .op ⟨6, some 22, .ext (.t 16) 0, none⟩,
  .op ⟨7, some 23, .ext (.t 16) 1, none⟩,
  .op ⟨8, some 8, .mv (.t 22), none⟩,
  .op ⟨9, some 9, .mv (.t 23), none⟩])
 (.seq (.seq (.reg [.op ⟨0, some 24, .call 2 [], none⟩,
  .op ⟨1, some 25, .un .not (.t 24), none⟩,
  .op ⟨2, some 26, .mv (.t 25), none⟩,
  .op ⟨3, some 27, .mv (.t 9), some (26, false)⟩,
  .op ⟨4, some 28, .bin .neq (.t 27) (.c (.one (.int .i64 0))), some (26, false)⟩,
  .op ⟨5, some 29, .pick (.t 26) (.c (.one (.bool true))) (.t 28), none⟩])
 (.cond (.t 29) (.seq (.reg [.op ⟨0, some 6, .mv (.c (.one (.bool false))), none⟩])
 (.ret)) (.skip)))
 (.seq (.seq (.reg [.op ⟨0, some 10, .mv (.c (.one (.int .i64 0))), none⟩])
 (.block 0 (.loop [(10, .one (.int .i64))] [(.exit 0, []), (.ret, [(6, .one .bool)])] (.seq (.seq (.reg [.op ⟨0, some 30, .mv (.t 10), none⟩,
  .op ⟨1, some 31, .mv (.t 1), none⟩,
  .op ⟨2, some 32, .bin .and (.t 31) (.c (.one (.int .i64 7))), none⟩,
  .op ⟨3, some 33, .bin .lss (.t 30) (.t 32), none⟩])
 (.cond (.t 33) (.skip) (.exit 0)))
 (.seq (.block 1 (.seq (.reg [.op ⟨0, some 36, .mv (.t 8), none⟩,
  .op ⟨1, some 37, .mv (.t 10), none⟩,
  .op ⟨2, some 38, .call 3 [(.t 36), (.t 37)], none⟩,
  .op ⟨3, some 39, .bin .neq (.t 38) (.c (.one (.int .i64 0))), none⟩])
 (.cond (.t 39) (.seq (.reg [.op ⟨0, some 6, .mv (.c (.one (.bool false))), none⟩])
 (.ret)) (.skip))))
 (.reg [.op ⟨0, some 34, .mv (.t 10), none⟩,
  .op ⟨1, some 35, .bin .add (.t 34) (.c (.one (.int .i64 1))), none⟩,
  .op ⟨2, some 10, .mv (.t 35), none⟩]))))))
 (.seq (.reg [.op ⟨0, some 40, .mv (.t 2), none⟩,
  .op ⟨1, some 41, .bin .and (.t 40) (.c (.one (.int .i64 7))), none⟩,
  .op ⟨2, some 42, .bin .add (.c (.one (.int .i64 1))) (.t 41), none⟩,
  .op ⟨3, some 11, .mv (.t 42), none⟩])
 (.seq (.reg [.op ⟨0, some 43, .mv (.t 8), none⟩,
  .op ⟨1, some 44, .mv (.t 11), none⟩,
  .op ⟨2, some 45, .build [.int .i64 0, .int .i64 0, .int .u8 0] [(0, 1, (.t 44))], none⟩,
  .op ⟨3, some 46, .bslice 3 1 [.int .i64 0, .int .i64 0, .int .u8 0] [(0, 3, (.t 45))], none⟩,
  .op ⟨4, some 47, .build [.sl 3 Sl.nil, .sl 1 Sl.nil, .sl 1 Sl.nil] [(0, 1, (.t 46))], none⟩,
  .op ⟨5, some 48, .call 4 [(.t 43), (.t 47)], none⟩])
 (.seq (.seq (.reg [.op ⟨0, some 12, .mv (.c (.one (.int .i64 1))), none⟩])
 (.block 2 (.loop [(12, .one (.int .i64))] [(.exit 2, []), (.ret, [(6, .one .bool)])] (.seq (.seq (.reg [.op ⟨0, some 49, .mv (.t 12), none⟩,
  .op ⟨1, some 50, .mv (.t 11), none⟩,
  .op ⟨2, some 51, .bin .leq (.t 49) (.t 50), none⟩])
 (.cond (.t 51) (.skip) (.exit 2)))
 (.seq (.block 3 (.seq (.reg [.op ⟨0, some 54, .mv (.t 8), none⟩,
  .op ⟨1, some 55, .call 3 [(.t 54), (.c (.one (.int .i64 0)))], none⟩,
  .op ⟨2, some 13, .mv (.t 55), none⟩])
 (.seq (.reg [.op ⟨0, some 56, .mv (.t 13), none⟩,
  .op ⟨1, some 57, .bin .eql (.t 56) (.c (.one (.int .i64 51))), none⟩,
  .op ⟨2, some 58, .mv (.t 12), none⟩,
  .op ⟨3, some 59, .mv (.t 11), none⟩,
  .op ⟨4, some 60, .bin .eql (.t 58) (.t 59), none⟩,
  .op ⟨5, some 61, .eqb true (.t 57) (.t 60), none⟩])
 (.cond (.t 61) (.seq (.reg [.op ⟨0, some 6, .mv (.c (.one (.bool false))), none⟩])
 (.ret)) (.skip)))))
 (.reg [.op ⟨0, some 52, .mv (.t 12), none⟩,
  .op ⟨1, some 53, .bin .add (.t 52) (.c (.one (.int .i64 1))), none⟩,
  .op ⟨2, some 12, .mv (.t 53), none⟩]))))))
 (.seq (.reg [.op ⟨0, some 62, .mv (.t 8), none⟩,
  .op ⟨1, some 63, .call 5 [(.t 62)], none⟩,
  .op ⟨2, some 64, .mv (.t 63), none⟩,
  .op ⟨3, some 65, .mv (.t 8), some (64, true)⟩,
  .op ⟨4, some 66, .call 6 [(.t 65)], some (64, true)⟩,
  .op ⟨5, some 67, .mv (.t 11), some (64, true)⟩,
  .op ⟨6, some 68, .bin .eql (.t 66) (.t 67), some (64, true)⟩,
  .op ⟨7, some 69, .pick (.t 64) (.t 68) (.c (.one (.bool false))), none⟩,
  .op ⟨8, some 70, .mv (.t 69), none⟩,
  .op ⟨9, some 71, .mv (.t 8), some (70, true)⟩,
  .op ⟨10, some 72, .call 3 [(.t 71), (.c (.one (.int .i64 0)))], some (70, true)⟩,
  .op ⟨11, some 73, .bin .eql (.t 72) (.c (.one (.int .i64 51))), some (70, true)⟩,
  .op ⟨12, some 74, .pick (.t 70) (.t 73) (.c (.one (.bool false))), none⟩,
  .op ⟨13, some 6, .mv (.t 74), none⟩])
 (.ret)))))))))⟩
noncomputable def law05_NandArm.s1 (x1 : Int) (r8 : ((Ptr × Int × Unit) × Heap)) (s10 : (Int × Unit)) (H11 : Heap) : Option (((Int × Unit) ⊕ ((Unit) ⊕ (Bool × Unit))) × Heap) :=
 cond (decide (s10.1 < (bitsI .and .i64 x1 7))) (
 (nand_Chip_Erase r8.1.1 s10.1 H11).bind fun (r12 : ((Int × Unit) × Heap)) =>
 cond (!decide (r12.1.1 = 0)) (
 some (Sum.inr (Sum.inr (false, ())), r12.2)) (
 some (Sum.inl ((IntKind.wrap .i64 (s10.1 + 1)), ()), r12.2))) (
 some (Sum.inr (Sum.inl (())), H11))
noncomputable def law05_NandArm.s2 (x2 : Int) (r8 : ((Ptr × Int × Unit) × Heap)) (s17 : (Int × Unit)) (H18 : Heap) : Option (((Int × Unit) ⊕ ((Unit) ⊕ (Bool × Unit))) × Heap) :=
 cond (decide (s17.1 ≤ (IntKind.wrap .i64 (1 + (bitsI .and .i64 x2 7))))) (
 (nand_Chip_Erase r8.1.1 0 H18).bind fun (r19 : ((Int × Unit) × Heap)) =>
 cond (!((decide (r19.1.1 = 51)) == (decide (s17.1 = (IntKind.wrap .i64 (1 + (bitsI .and .i64 x2 7))))))) (
 some (Sum.inr (Sum.inr (false, ())), r19.2)) (
 some (Sum.inl ((IntKind.wrap .i64 (s17.1 + 1)), ()), r19.2))) (
 some (Sum.inr (Sum.inl (())), H18))
noncomputable def law05_NandArm.on (x0 : (Int × Int × Int × Unit)) (x1 : Int) (x2 : Int) (H : Heap) : Option (Bool × Unit) :=
 let H1 : Heap := H ++ [Blk.cells [.int .i64 x0.1, .int .i64 x0.2.1, .int .i64 x0.2.2.1] .exact]
 Option.bind (α := (Int × Int × Int × Unit)) (rd H1 (.agg [.int .i64, .int .i64, .int .i64]) H.length 0) fun (v2 : (Int × Int × Int × Unit)) =>
 (law05_Geometry (v2.1, v2.2.1, v2.2.2.1, ())).bind fun (r3 : ((Int × Int × Int × Unit) × Unit)) =>
 let H4 : Heap := H1 ++ [Blk.cells [.int .i64 0, .int .i64 0, .int .i64 0] .exact]
 (wr H4 H1.length 0 [.int .i64 r3.1.1, .int .i64 r3.1.2.1, .int .i64 r3.1.2.2.1]).bind fun (H5 : Heap) =>
 Option.bind (α := (Int × Int × Int × Unit)) (rd H5 (.agg [.int .i64, .int .i64, .int .i64]) H1.length 0) fun (v6 : (Int × Int × Int × Unit)) =>
 let H7 : Heap := H5 ++ [Blk.cells [.int .i64 1000, .int .i64 0, .int .u8 0] .exact]
 (nand_New (v6.1, v6.2.1, v6.2.2.1, ()) (⟨some (H5.length, 0), 1, 1⟩, ⟨none, 0, 0⟩, ⟨none, 0, 0⟩, ()) H7).bind fun (r8 : ((Ptr × Int × Unit) × Heap)) =>
 (law05_awake).bind fun (r9 : (Bool × Unit)) =>
 cond (!r9.1) (
 some (false, ())) (
 cond (!decide (r8.1.2.1 = 0)) (
 some (false, ())) (
 (loopW (law05_NandArm.s1 x1 r8) (0, ()) r8.2).bind fun (p13 : ((Unit) ⊕ (Bool × Unit)) × Heap) =>
 Sum.elim (fun (y14 : (Unit)) =>
 let H15 : Heap := p13.2 ++ [Blk.cells [.int .i64 (IntKind.wrap .i64 (1 + (bitsI .and .i64 x2 7))), .int .i64 0, .int .u8 0] .exact]
 (nand_Chip_Arm r8.1.1 (⟨some (p13.2.length, 0), 1, 1⟩, ⟨none, 0, 0⟩, ⟨none, 0, 0⟩, ()) H15).bind fun (r16 : ((Unit) × Heap)) =>
 (loopW (law05_NandArm.s2 x2 r8) (1, ()) r16.2).bind fun (p20 : ((Unit) ⊕ (Bool × Unit)) × Heap) =>
 Sum.elim (fun (y21 : (Unit)) =>
 (nand_Chip_Off r8.1.1 p20.2).bind fun (r22 : ((Bool × Unit) × Heap)) =>
 cond r22.1.1 (
 (nand_Chip_Did r8.1.1 r22.2).bind fun (r23 : ((Int × Unit) × Heap)) =>
 cond (decide (r23.1.1 = (IntKind.wrap .i64 (1 + (bitsI .and .i64 x2 7))))) (
 (nand_Chip_Erase r8.1.1 0 r23.2).bind fun (r24 : ((Int × Unit) × Heap)) =>
 some ((decide (r24.1.1 = 51)), ())) (
 some (false, ()))) (
 some (false, ()))) (fun (z25 : (Bool × Unit)) =>
 some (z25.1, ())) p20.1) (fun (z26 : (Bool × Unit)) =>
 some (z26.1, ())) p13.1))
noncomputable def law05_NandArm (x0 : (Int × Int × Int × Unit)) (x1 : Int) (x2 : Int) : Option (Bool × Unit) := law05_NandArm.on x0 x1 x2 []
noncomputable def law05_NandArm.c : Callee := .pure [.agg [.int .i64, .int .i64, .int .i64], .one (.int .i64), .one (.int .i64)] [.one .bool] (fun x => law05_NandArm x.1 x.2.1 x.2.2.1)
noncomputable def law05_NandArm.calls : Nat → Option Callee
  | 0 => some law05_Geometry.c
  | 1 => some nand_New.c
  | 2 => some law05_awake.c
  | 3 => some nand_Chip_Erase.c
  | 4 => some nand_Chip_Arm.c
  | 5 => some nand_Chip_Off.c
  | 6 => some nand_Chip_Did.c
  | _ => none
theorem law05_NandArm.eq : evPure law05_NandArm.calls law05_NandArm.af = (fun x H => law05_NandArm.on x.1 x.2.1 x.2.2.1 H) := by kernel_rfl

/-! ### tinderbox/tinderboxlaw05.NandDead -/
def law05_NandDead.af : AFun := ⟨[.agg [.int .i64, .int .i64, .int .i64], .one (.int .i64), .one (.sl 4)], [.one .bool], [.t 6],
 .seq (.reg [.op ⟨0, some 3, .box (.t 0), none⟩,
  .op ⟨1, some 6, .mv (.c (.one (.bool false))), none⟩])
 (.seq (.reg [.op ⟨0, some 18, .load (.agg [.int .i64, .int .i64, .int .i64]) (.t 3), none⟩,
  .op ⟨1, some 19, .call 0 [(.t 18)], none⟩,
  .op ⟨2, some 7, .new [.int .i64 0, .int .i64 0, .int .i64 0], none⟩,
  .op ⟨3, none, .store 3 (.t 7) (.t 19), none⟩])
 (.seq (.reg [.op ⟨0, some 20, .mv (.t 1), none⟩,
  .op ⟨1, some 21, .bin .and (.t 20) (.c (.one (.int .i64 1))), none⟩,
  .op ⟨2, some 22, .bin .add (.c (.one (.int .i64 1))) (.t 21), none⟩,
  .op ⟨3, some 8, .mv (.t 22), none⟩])
 (.seq (.reg [.op ⟨0, some 24, .load (.agg [.int .i64, .int .i64, .int .i64]) (.t 7), none⟩,
  .op ⟨1, some 25, .mv (.t 8), none⟩,
  .op ⟨2, some 26, .bin .add (.t 25) (.c (.one (.int .i64 1))), none⟩,
  .op ⟨3, some 27, .bslice 1 1 [.int .i64 0] [(0, 1, (.t 26))], none⟩,
  .op ⟨4, some 28, .build [.sl 3 Sl.nil, .sl 1 Sl.nil, .sl 1 Sl.nil] [(1, 1, (.t 27))], none⟩,
  .op ⟨5, some 29, .call 1 [(.t 24), (.t 28)], none⟩,
  .op ⟨6, some 23, .mv (.t 29), none⟩,
  .op ⟨7, some 30, .ext (.t 23) 0, none⟩,
  .op ⟨8, some 31, .ext (.t 23) 1, none⟩,
  .op ⟨9, some 9, .mv (.t 30), none⟩,
  .op ⟨10, some 10, .mv (.t 31), none⟩])
 (.seq (.seq (.reg [.op ⟨0, some 32, .call 2 [], none⟩,
  .op ⟨1, some 33, .un .not (.t 32), none⟩,
  .op ⟨2, some 34, .mv (.t 33), none⟩,
  .op ⟨3, some 35, .mv (.t 10), some (34, false)⟩,
  .op ⟨4, some 36, .bin .neq (.t 35) (.c (.one (.int .i64 0))), some (34, false)⟩,
  .op ⟨5, some 37, .pick (.t 34) (.c (.one (.bool true))) (.t 36), none⟩])
 (.cond (.t 37) (.seq (.reg [.op ⟨0, some 6, .mv (.c (.one (.bool false))), none⟩])
 (.ret)) (.skip)))
 (.seq (.seq (.reg [.op ⟨0, some 11, .mv (.c (.one (.int .i64 0))), none⟩])
 (.block 0 (.loop [(11, .one (.int .i64))] [(.exit 0, []), (.ret, [(6, .one .bool)])] (.seq (.seq (.reg [.op ⟨0, some 38, .mv (.t 11), none⟩,
  .op ⟨1, some 39, .mv (.t 8), none⟩,
  .op ⟨2, some 40, .bin .lss (.t 38) (.t 39), none⟩])
 (.cond (.t 40) (.skip) (.exit 0)))
 (.seq (.block 1 (.seq (.reg [.op ⟨0, some 43, .mv (.t 9), none⟩,
  .op ⟨1, some 44, .mv (.t 11), none⟩,
  .op ⟨2, some 45, .addr 2 (.t 7), none⟩,
  .op ⟨3, some 46, .load (.one (.int .i64)) (.t 45), none⟩,
  .op ⟨4, some 47, .mv (.t 11), none⟩,
  .op ⟨5, some 48, .bin .add (.t 47) (.c (.one (.int .i64 1))), none⟩,
  .op ⟨6, some 49, .conv .u8 (.t 48), none⟩,
  .op ⟨7, some 50, .call 3 [(.t 46), (.t 49)], none⟩,
  .op ⟨8, some 51, .call 3 [(.c (.one (.int .i64 32))), (.c (.one (.int .u8 9)))], none⟩,
  .op ⟨9, some 52, .call 4 [(.t 43), (.c (.one (.int .i64 2))), (.t 44), (.t 50), (.t 51)], none⟩,
  .op ⟨10, some 53, .bin .neq (.t 52) (.c (.one (.int .i64 0))), none⟩])
 (.cond (.t 53) (.seq (.reg [.op ⟨0, some 6, .mv (.c (.one (.bool false))), none⟩])
 (.ret)) (.skip))))
 (.reg [.op ⟨0, some 41, .mv (.t 11), none⟩,
  .op ⟨1, some 42, .bin .add (.t 41) (.c (.one (.int .i64 1))), none⟩,
  .op ⟨2, some 11, .mv (.t 42), none⟩]))))))
 (.seq (.seq (.reg [.op ⟨0, some 54, .mv (.t 9), none⟩,
  .op ⟨1, some 55, .mv (.t 8), none⟩,
  .op ⟨2, some 56, .addr 2 (.t 7), none⟩,
  .op ⟨3, some 57, .load (.one (.int .i64)) (.t 56), none⟩,
  .op ⟨4, some 58, .call 3 [(.t 57), (.c (.one (.int .u8 77)))], none⟩,
  .op ⟨5, some 59, .call 3 [(.c (.one (.int .i64 32))), (.c (.one (.int .u8 9)))], none⟩,
  .op ⟨6, some 60, .call 4 [(.t 54), (.c (.one (.int .i64 2))), (.t 55), (.t 58), (.t 59)], none⟩,
  .op ⟨7, some 61, .bin .neq (.t 60) (.c (.one (.int .i64 53))), none⟩])
 (.cond (.t 61) (.seq (.reg [.op ⟨0, some 6, .mv (.c (.one (.bool false))), none⟩])
 (.ret)) (.skip)))
 (.seq (.seq (.reg [.op ⟨0, some 12, .mv (.c (.one (.int .i64 0))), none⟩])
 (.block 2 (.loop [(12, .one (.int .i64))] [(.exit 2, []), (.ret, [(6, .one .bool)])] (.seq (.seq (.reg [.op ⟨0, some 62, .mv (.t 12), none⟩,
  .op ⟨1, some 63, .mv (.t 2), none⟩,
  .op ⟨2, some 64, .len (.t 63), none⟩,
  .op ⟨3, some 65, .bin .lss (.t 62) (.t 64), none⟩,
  .op ⟨4, some 66, .mv (.t 65), none⟩,
  .op ⟨5, some 67, .mv (.t 12), some (66, true)⟩,
  .op ⟨6, some 68, .bin .lss (.t 67) (.c (.one (.int .i64 20))), some (66, true)⟩,
  .op ⟨7, some 69, .pick (.t 66) (.t 68) (.c (.one (.bool false))), none⟩])
 (.cond (.t 69) (.skip) (.exit 2)))
 (.seq (.block 3 (.seq (.reg [.op ⟨0, some 72, .mv (.t 2), none⟩,
  .op ⟨1, some 73, .mv (.t 12), none⟩,
  .op ⟨2, some 74, .idxa 4 (.t 72) (.t 73), none⟩,
  .op ⟨3, some 75, .addr 0 (.t 74), none⟩,
  .op ⟨4, some 76, .load (.one (.int .i64)) (.t 75), none⟩,
  .op ⟨5, some 77, .bin .and (.t 76) (.c (.one (.int .i64 1))), none⟩,
  .op ⟨6, some 78, .bin .eql (.t 77) (.c (.one (.int .i64 0))), none⟩])
 (.cond (.t 78) (.seq (.reg [.op ⟨0, some 79, .mv (.t 9), none⟩,
  .op ⟨1, some 80, .call 5 [(.t 79), (.c (.one (.int .i64 2)))], none⟩,
  .op ⟨2, some 81, .bin .neq (.t 80) (.c (.one (.int .i64 54))), none⟩])
 (.cond (.t 81) (.seq (.reg [.op ⟨0, some 6, .mv (.c (.one (.bool false))), none⟩])
 (.ret)) (.skip))) (.seq (.reg [.op ⟨0, some 82, .mv (.t 9), none⟩,
  .op ⟨1, some 83, .mv (.t 8), none⟩,
  .op ⟨2, some 84, .bin .add (.t 83) (.c (.one (.int .i64 1))), none⟩,
  .op ⟨3, some 85, .addr 2 (.t 7), none⟩,
  .op ⟨4, some 86, .load (.one (.int .i64)) (.t 85), none⟩,
  .op ⟨5, some 87, .mv (.t 2), none⟩,
  .op ⟨6, some 88, .mv (.t 12), none⟩,
  .op ⟨7, some 89, .idxa 4 (.t 87) (.t 88), none⟩,
  .op ⟨8, some 90, .addr 3 (.t 89), none⟩,
  .op ⟨9, some 91, .load (.one (.int .u8)) (.t 90), none⟩,
  .op ⟨10, some 92, .call 3 [(.t 86), (.t 91)], none⟩,
  .op ⟨11, some 93, .call 3 [(.c (.one (.int .i64 32))), (.c (.one (.int .u8 9)))], none⟩,
  .op ⟨12, some 94, .call 4 [(.t 82), (.c (.one (.int .i64 2))), (.t 84), (.t 92), (.t 93)], none⟩,
  .op ⟨13, some 13, .mv (.t 94), none⟩])
 (.seq (.reg [.op ⟨0, some 95, .mv (.t 13), none⟩,
  .op ⟨1, some 96, .bin .eql (.t 95) (.c (.one (.int .i64 0))), none⟩])
 (.cond (.t 96) (.seq (.reg [.op ⟨0, some 6, .mv (.c (.one (.bool false))), none⟩])
 (.ret)) (.skip)))))))
 (.reg [.op ⟨0, some 70, .mv (.t 12), none⟩,
  .op ⟨1, some 71, .bin .add (.t 70) (.c (.one (.int .i64 1))), none⟩,
  .op ⟨2, some 12, .mv (.t 71), none⟩]))))))
 (.seq (.seq (.reg [.op ⟨0, some 14, .mv (.c (.one (.int .i64 0))), none⟩])
 (.block 4 (.loop [(14, .one (.int .i64))] [(.exit 4, []), (.ret, [(6, .one .bool)])] (.seq (.seq (.reg [.op ⟨0, some 97, .mv (.t 14), none⟩,
  .op ⟨1, some 98, .mv (.t 8), none⟩,
  .op ⟨2, some 99, .bin .lss (.t 97) (.t 98), none⟩])
 (.cond (.t 99) (.skip) (.exit 4)))
 (.seq (.block 5 (.seq (.reg [.op ⟨0, some 103, .mv (.t 9), none⟩,
  .op ⟨1, some 104, .mv (.t 14), none⟩,
  .op ⟨2, some 105, .call 6 [(.t 103), (.c (.one (.int .i64 2))), (.t 104)], none⟩,
  .op ⟨3, some 102, .mv (.t 105), none⟩,
  .op ⟨4, some 106, .ext (.t 102) 0, none⟩,
  .op ⟨5, some 107, .ext (.t 102) 1, none⟩,
  .op ⟨6, some 108, .ext (.t 102) 2, none⟩,
  .op ⟨7, some 15, .mv (.t 106), none⟩,
  .op ⟨8, some 16, .mv (.t 107), none⟩,
  .op ⟨9, some 17, .mv (.t 108), none⟩])
 (.seq (.reg [.op ⟨0, some 109, .mv (.t 17), none⟩,
  .op ⟨1, some 110, .bin .neq (.t 109) (.c (.one (.int .i64 0))), none⟩,
  .op ⟨2, some 111, .mv (.t 110), none⟩,
  .op ⟨3, some 112, .mv (.t 15), some (111, false)⟩,
  .op ⟨4, some 113, .addr 2 (.t 7), some (111, false)⟩,
  .op ⟨5, some 114, .load (.one (.int .i64)) (.t 113), some (111, false)⟩,
  .op ⟨6, some 115, .mv (.t 14), some (111, false)⟩,
  .op ⟨7, some 116, .bin .add (.t 115) (.c (.one (.int .i64 1))), some (111, false)⟩,
  .op ⟨8, some 117, .conv .u8 (.t 116), some (111, false)⟩,
  .op ⟨9, some 118, .call 3 [(.t 114), (.t 117)], some (111, false)⟩,
  .op ⟨10, some 119, .bin .neq (.t 112) (.t 118), some (111, false)⟩,
  .op ⟨11, some 120, .pick (.t 111) (.c (.one (.bool true))) (.t 119), none⟩])
 (.cond (.t 120) (.seq (.reg [.op ⟨0, some 6, .mv (.c (.one (.bool false))), none⟩])
 (.ret)) (.skip)))))
 (.reg [.op ⟨0, some 100, .mv (.t 14), none⟩,
  .op ⟨1, some 101, .bin .add (.t 100) (.c (.one (.int .i64 1))), none⟩,
  .op ⟨2, some 14, .mv (.t 101), none⟩]))))))
 (.seq (.reg [.op ⟨0, some 121, .mv (.t 9), none⟩,
  .op ⟨1, some 122, .call 7 [(.t 121)], none⟩,
  .op ⟨2, some 123, .idxa 1 (.t 122) (.c (.one (.int .i64 2))), none⟩,
  .op ⟨3, some 124, .load (.one .bool) (.t 123), none⟩,
  .op ⟨4, some 6, .mv (.t 124), none⟩])
 (.ret))))))))))⟩
noncomputable def law05_NandDead.s1 (x1 : Int) (H1 : Heap) (r8 : ((Ptr × Int × Unit) × Heap)) (s10 : (Int × Unit)) (H11 : Heap) : Option (((Int × Unit) ⊕ ((Unit) ⊕ (Bool × Unit))) × Heap) :=
 cond (decide (s10.1 < (IntKind.wrap .i64 (1 + (bitsI .and .i64 x1 1))))) (
 (rdI .i64 H11 H1.length 2).bind fun (v12 : Int) =>
 (law05_text v12 (IntKind.wrap .u8 (IntKind.wrap .i64 (s10.1 + 1)))).bind fun (r13 : (Bytes × Unit)) =>
 (law05_text 32 9).bind fun (r14 : (Bytes × Unit)) =>
 (nand_Chip_Program r8.1.1 2 s10.1 r13.1 r14.1 H11).bind fun (r15 : ((Int × Unit) × Heap)) =>
 cond (!decide (r15.1.1 = 0)) (
 some (Sum.inr (Sum.inr (false, ())), r15.2)) (
 some (Sum.inl ((IntKind.wrap .i64 (s10.1 + 1)), ()), r15.2))) (
 some (Sum.inr (Sum.inl (())), H11))
noncomputable def law05_NandDead.s2 (x1 : Int) (x2 : Sl) (H1 : Heap) (r8 : ((Ptr × Int × Unit) × Heap)) (s22 : (Int × Unit)) (H23 : Heap) : Option (((Int × Unit) ⊕ ((Unit) ⊕ (Bool × Unit))) × Heap) :=
 cond (decide (s22.1 < (x2.len : Int))) (
 cond (decide (s22.1 < 20)) (
 (Sl.at 4 x2 s22.1).bind fun (a24 : (Nat × Nat)) =>
 (rdI .i64 H23 a24.1 a24.2).bind fun (v25 : Int) =>
 cond (decide ((bitsI .and .i64 v25 1) = 0)) (
 (nand_Chip_Erase r8.1.1 2 H23).bind fun (r26 : ((Int × Unit) × Heap)) =>
 cond (!decide (r26.1.1 = 54)) (
 some (Sum.inr (Sum.inr (false, ())), r26.2)) (
 some (Sum.inl ((IntKind.wrap .i64 (s22.1 + 1)), ()), r26.2))) (
 (rdI .i64 H23 H1.length 2).bind fun (v27 : Int) =>
 (Sl.at 4 x2 s22.1).bind fun (a28 : (Nat × Nat)) =>
 (rdI .u8 H23 a28.1 (a28.2 + 3)).bind fun (v29 : Int) =>
 (law05_text v27 v29).bind fun (r30 : (Bytes × Unit)) =>
 (law05_text 32 9).bind fun (r31 : (Bytes × Unit)) =>
 (nand_Chip_Program r8.1.1 2 (IntKind.wrap .i64 ((IntKind.wrap .i64 (1 + (bitsI .and .i64 x1 1))) + 1)) r30.1 r31.1 H23).bind fun (r32 : ((Int × Unit) × Heap)) =>
 cond (decide (r32.1.1 = 0)) (
 some (Sum.inr (Sum.inr (false, ())), r32.2)) (
 some (Sum.inl ((IntKind.wrap .i64 (s22.1 + 1)), ()), r32.2)))) (
 some (Sum.inr (Sum.inl (())), H23))) (
 some (Sum.inr (Sum.inl (())), H23))
noncomputable def law05_NandDead.s3 (x1 : Int) (H1 : Heap) (r8 : ((Ptr × Int × Unit) × Heap)) (s35 : (Int × Unit)) (H36 : Heap) : Option (((Int × Unit) ⊕ ((Unit) ⊕ (Bool × Unit))) × Heap) :=
 cond (decide (s35.1 < (IntKind.wrap .i64 (1 + (bitsI .and .i64 x1 1))))) (
 (nand_Chip_Read r8.1.1 2 s35.1 H36).bind fun (r37 : ((Bytes × Bytes × Int × Unit) × Heap)) =>
 cond (!decide (r37.1.2.2.1 = 0)) (
 some (Sum.inr (Sum.inr (false, ())), r37.2)) (
 (rdI .i64 r37.2 H1.length 2).bind fun (v38 : Int) =>
 (law05_text v38 (IntKind.wrap .u8 (IntKind.wrap .i64 (s35.1 + 1)))).bind fun (r39 : (Bytes × Unit)) =>
 cond (!decide ((r37.1.1 : Bytes) = r39.1)) (
 some (Sum.inr (Sum.inr (false, ())), r37.2)) (
 some (Sum.inl ((IntKind.wrap .i64 (s35.1 + 1)), ()), r37.2)))) (
 some (Sum.inr (Sum.inl (())), H36))
noncomputable def law05_NandDead (x0 : (Int × Int × Int × Unit)) (x1 : Int) (x2 : Sl) (H : Heap) : Option ((Bool × Unit) × Heap) :=
 let H1 : Heap := H ++ [Blk.cells [.int .i64 x0.1, .int .i64 x0.2.1, .int .i64 x0.2.2.1] .exact]
 Option.bind (α := (Int × Int × Int × Unit)) (rd H1 (.agg [.int .i64, .int .i64, .int .i64]) H.length 0) fun (v2 : (Int × Int × Int × Unit)) =>
 (law05_Geometry (v2.1, v2.2.1, v2.2.2.1, ())).bind fun (r3 : ((Int × Int × Int × Unit) × Unit)) =>
 let H4 : Heap := H1 ++ [Blk.cells [.int .i64 0, .int .i64 0, .int .i64 0] .exact]
 (wr H4 H1.length 0 [.int .i64 r3.1.1, .int .i64 r3.1.2.1, .int .i64 r3.1.2.2.1]).bind fun (H5 : Heap) =>
 Option.bind (α := (Int × Int × Int × Unit)) (rd H5 (.agg [.int .i64, .int .i64, .int .i64]) H1.length 0) fun (v6 : (Int × Int × Int × Unit)) =>
 let H7 : Heap := H5 ++ [Blk.cells [.int .i64 (IntKind.wrap .i64 ((IntKind.wrap .i64 (1 + (bitsI .and .i64 x1 1))) + 1))] .exact]
 (nand_New (v6.1, v6.2.1, v6.2.2.1, ()) (⟨none, 0, 0⟩, ⟨some (H5.length, 0), 1, 1⟩, ⟨none, 0, 0⟩, ()) H7).bind fun (r8 : ((Ptr × Int × Unit) × Heap)) =>
 (law05_awake).bind fun (r9 : (Bool × Unit)) =>
 cond (!r9.1) (
 some ((false, ()), r8.2)) (
 cond (!decide (r8.1.2.1 = 0)) (
 some ((false, ()), r8.2)) (
 (loopW (law05_NandDead.s1 x1 H1 r8) (0, ()) r8.2).bind fun (p16 : ((Unit) ⊕ (Bool × Unit)) × Heap) =>
 Sum.elim (fun (y17 : (Unit)) =>
 (rdI .i64 p16.2 H1.length 2).bind fun (v18 : Int) =>
 (law05_text v18 77).bind fun (r19 : (Bytes × Unit)) =>
 (law05_text 32 9).bind fun (r20 : (Bytes × Unit)) =>
 (nand_Chip_Program r8.1.1 2 (IntKind.wrap .i64 (1 + (bitsI .and .i64 x1 1))) r19.1 r20.1 p16.2).bind fun (r21 : ((Int × Unit) × Heap)) =>
 cond (!decide (r21.1.1 = 53)) (
 some ((false, ()), r21.2)) (
 (loopW (law05_NandDead.s2 x1 x2 H1 r8) (0, ()) r21.2).bind fun (p33 : ((Unit) ⊕ (Bool × Unit)) × Heap) =>
 Sum.elim (fun (y34 : (Unit)) =>
 (loopW (law05_NandDead.s3 x1 H1 r8) (0, ()) p33.2).bind fun (p40 : ((Unit) ⊕ (Bool × Unit)) × Heap) =>
 Sum.elim (fun (y41 : (Unit)) =>
 (nand_Chip_Dead r8.1.1 p40.2).bind fun (r42 : ((Sl × Unit) × Heap)) =>
 (Sl.at 1 r42.1.1 2).bind fun (a43 : (Nat × Nat)) =>
 (rdB r42.2 a43.1 a43.2).bind fun (v44 : Bool) =>
 some ((v44, ()), r42.2)) (fun (z45 : (Bool × Unit)) =>
 some ((z45.1, ()), p40.2)) p40.1) (fun (z46 : (Bool × Unit)) =>
 some ((z46.1, ()), p33.2)) p33.1)) (fun (z47 : (Bool × Unit)) =>
 some ((z47.1, ()), p16.2)) p16.1))
noncomputable def law05_NandDead.c : Callee := .full [.agg [.int .i64, .int .i64, .int .i64], .one (.int .i64), .one (.sl 4)] [.one .bool] (fun x H => law05_NandDead x.1 x.2.1 x.2.2.1 H)
noncomputable def law05_NandDead.calls : Nat → Option Callee
  | 0 => some law05_Geometry.c
  | 1 => some nand_New.c
  | 2 => some law05_awake.c
  | 3 => some law05_text.c
  | 4 => some nand_Chip_Program.c
  | 5 => some nand_Chip_Erase.c
  | 6 => some nand_Chip_Read.c
  | 7 => some nand_Chip_Dead.c
  | _ => none
theorem law05_NandDead.eq : evFull law05_NandDead.calls law05_NandDead.af = (fun x H => law05_NandDead x.1 x.2.1 x.2.2.1 H) := by kernel_rfl

/-! ### tinderbox/tinderboxlaw05.NandNone -/
def law05_NandNone.af : AFun := ⟨[.agg [.int .i64, .int .i64, .int .i64], .one (.int .i64), .one (.int .i64)], [.one .bool], [.t 6],
 .seq (.reg [.op ⟨0, some 3, .box (.t 0), none⟩,
  .op ⟨1, some 6, .mv (.c (.one (.bool false))), none⟩])
 (.seq (.reg [.op ⟨0, some 7, .mv (.c (.one (.ptr none))), none⟩])
 (.seq (.reg [.op ⟨0, some 16, .mv (.t 7), none⟩,
  .op ⟨1, some 17, .call 0 [(.t 16)], none⟩])
 (.seq (.reg [.op ⟨0, some 18, .mv (.t 7), none⟩,
  .op ⟨1, some 19, .build [.sl 3 Sl.nil, .sl 1 Sl.nil, .sl 1 Sl.nil] [], none⟩,
  .op ⟨2, some 20, .call 1 [(.t 18), (.t 19)], none⟩])
 (.seq (.reg [.op ⟨0, some 22, .mv (.t 7), none⟩,
  .op ⟨1, some 23, .mv (.t 1), none⟩,
  .op ⟨2, some 24, .mv (.t 2), none⟩,
  .op ⟨3, some 25, .call 2 [(.t 22), (.t 23), (.t 24)], none⟩,
  .op ⟨4, some 21, .mv (.t 25), none⟩,
  .op ⟨5, some 26, .ext (.t 21) 0, none⟩,
  .op ⟨6, some 27, .ext (.t 21) 1, none⟩,
  .op ⟨7, some 28, .ext (.t 21) 2, none⟩,
  .op ⟨8, some 8, .mv (.t 26), none⟩,
  .op ⟨9, some 9, .mv (.t 27), none⟩,
  .op ⟨10, some 10, .mv (.t 28), none⟩])
 (.seq (.reg [.op ⟨0, some 30, .mv (.t 7), none⟩,
  .op ⟨1, some 31, .mv (.t 1), none⟩,
  .op ⟨2, some 32, .call 3 [(.t 30), (.t 31)], none⟩,
  .op ⟨3, some 29, .mv (.t 32), none⟩,
  .op ⟨4, some 33, .ext (.t 29) 0, none⟩,
  .op ⟨5, some 34, .ext (.t 29) 1, none⟩,
  .op ⟨6, some 11, .mv (.t 33), none⟩,
  .op ⟨7, some 12, .mv (.t 34), none⟩])
 (.seq (.scope [(.normal, [(13, .one .bool)])] (.reg [.op ⟨0, some 35, .addr 0 (.t 3), none⟩,
  .op ⟨1, some 36, .load (.one (.int .i64)) (.t 35), none⟩,
  .op ⟨2, some 37, .bin .geq (.t 36) (.c (.one (.int .i64 8))), none⟩,
  .op ⟨3, some 38, .mv (.t 37), none⟩,
  .op ⟨4, some 39, .addr 0 (.t 3), some (38, true)⟩,
  .op ⟨5, some 40, .load (.one (.int .i64)) (.t 39), some (38, true)⟩,
  .op ⟨6, some 41, .bin .leq (.t 40) (.c (.one (.int .i64 32))), some (38, true)⟩,
  .op ⟨7, some 42, .pick (.t 38) (.t 41) (.c (.one (.bool false))), none⟩,
  .op ⟨8, some 43, .mv (.t 42), none⟩,
  .op ⟨9, some 44, .addr 1 (.t 3), some (43, true)⟩,
  .op ⟨10, some 45, .load (.one (.int .i64)) (.t 44), some (43, true)⟩,
  .op ⟨11, some 46, .bin .geq (.t 45) (.c (.one (.int .i64 4))), some (43, true)⟩,
  .op ⟨12, some 47, .pick (.t 43) (.t 46) (.c (.one (.bool false))), none⟩,
  .op ⟨13, some 48, .mv (.t 47), none⟩,
  .op ⟨14, some 49, .addr 1 (.t 3), some (48, true)⟩,
  .op ⟨15, some 50, .load (.one (.int .i64)) (.t 49), some (48, true)⟩,
  .op ⟨16, some 51, .bin .leq (.t 50) (.c (.one (.int .i64 16))), some (48, true)⟩,
  .op ⟨17, some 52, .pick (.t 48) (.t 51) (.c (.one (.bool false))), none⟩,
  .op ⟨18, some 53, .mv (.t 52), none⟩,
  .op ⟨19, some 54, .addr 2 (.t 3), some (53, true)⟩,
  .op ⟨20, some 55, .load (.one (.int .i64)) (.t 54), some (53, true)⟩,
  .op ⟨21, some 56, .bin .geq (.t 55) (.c (.one (.int .i64 64))), some (53, true)⟩,
  .op ⟨22, some 57, .pick (.t 53) (.t 56) (.c (.one (.bool false))), none⟩,
  .op ⟨23, some 58, .mv (.t 57), none⟩,
  .op ⟨24, some 59, .addr 2 (.t 3), some (58, true)⟩,
  .op ⟨25, some 60, .load (.one (.int .i64)) (.t 59), some (58, true)⟩,
  .op ⟨26, some 61, .bin .leq (.t 60) (.c (.one (.int .i64 256))), some (58, true)⟩,
  .op ⟨27, some 62, .pick (.t 58) (.t 61) (.c (.one (.bool false))), none⟩,
  .op ⟨28, some 13, .mv (.t 62), none⟩]))
 (.seq (.reg [.op ⟨0, some 64, .load (.agg [.int .i64, .int .i64, .int .i64]) (.t 3), none⟩,
  .op ⟨1, some 65, .build [.sl 3 Sl.nil, .sl 1 Sl.nil, .sl 1 Sl.nil] [], none⟩,
  .op ⟨2, some 66, .call 4 [(.t 64), (.t 65)], none⟩,
  .op ⟨3, some 63, .mv (.t 66), none⟩,
  .op ⟨4, some 67, .ext (.t 63) 0, none⟩,
  .op ⟨5, some 68, .ext (.t 63) 1, none⟩,
  .op ⟨6, some 14, .mv (.t 67), none⟩,
  .op ⟨7, some 15, .mv (.t 68), none⟩])
 (.seq (.reg [.op ⟨0, some 69, .call 5 [], none⟩,
  .op ⟨1, some 70, .mv (.t 69), none⟩,
  .op ⟨2, some 71, .mv (.t 10), some (70, true)⟩,
  .op ⟨3, some 72, .bin .eql (.t 71) (.c (.one (.int .i64 1))), some (70, true)⟩,
  .op ⟨4, some 73, .pick (.t 70) (.t 72) (.c (.one (.bool false))), none⟩,
  .op ⟨5, some 74, .mv (.t 73), none⟩,
  .op ⟨6, some 75, .mv (.t 12), some (74, true)⟩,
  .op ⟨7, some 76, .bin .eql (.t 75) (.c (.one (.int .i64 1))), some (74, true)⟩,
  .op ⟨8, some 77, .pick (.t 74) (.t 76) (.c (.one (.bool false))), none⟩,
  .op ⟨9, some 78, .mv (.t 77), none⟩,
  .op ⟨10, some 79, .mv (.t 7), some (78, true)⟩,
  .op ⟨11, some 80, .mv (.t 1), some (78, true)⟩,
  .op ⟨12, some 81, .mv (.t 2), some (78, true)⟩,
  .op ⟨13, some 82, .call 6 [(.t 79), (.t 80), (.t 81), (.c (.one (.str []))), (.c (.one (.str [])))], some (78, true)⟩,
  .op ⟨14, some 83, .bin .eql (.t 82) (.c (.one (.int .i64 1))), some (78, true)⟩,
  .op ⟨15, some 84, .pick (.t 78) (.t 83) (.c (.one (.bool false))), none⟩,
  .op ⟨16, some 85, .mv (.t 84), none⟩,
  .op ⟨17, some 86, .mv (.t 7), some (85, true)⟩,
  .op ⟨18, some 87, .mv (.t 1), some (85, true)⟩,
  .op ⟨19, some 88, .call 7 [(.t 86), (.t 87)], some (85, true)⟩,
  .op ⟨20, some 89, .bin .eql (.t 88) (.c (.one (.int .i64 1))), some (85, true)⟩,
  .op ⟨21, some 90, .pick (.t 85) (.t 89) (.c (.one (.bool false))), none⟩,
  .op ⟨22, some 91, .mv (.t 90), none⟩,
  .op ⟨23, some 92, .mv (.t 7), some (91, true)⟩,
  .op ⟨24, some 93, .mv (.t 1), some (91, true)⟩,
  .op ⟨25, some 94, .call 8 [(.t 92), (.t 93)], some (91, true)⟩,
  .op ⟨26, some 95, .bin .eql (.t 94) (.c (.one (.int .i64 1))), some (91, true)⟩,
  .op ⟨27, some 96, .pick (.t 91) (.t 95) (.c (.one (.bool false))), none⟩,
  .op ⟨28, some 97, .mv (.t 96), none⟩,
  .op ⟨29, some 98, .mv (.t 7), some (97, true)⟩,
  .op ⟨30, some 99, .call 9 [(.t 98)], some (97, true)⟩,
  .op ⟨31, some 100, .pick (.t 97) (.t 99) (.c (.one (.bool false))), none⟩,
  .op ⟨32, some 101, .mv (.t 100), none⟩,
  .op ⟨33, some 102, .mv (.t 7), some (101, true)⟩,
  .op ⟨34, some 103, .call 10 [(.t 102)], some (101, true)⟩,
  .op ⟨35, some 104, .bin .eql (.t 103) (.c (.one (.int .i64 0))), some (101, true)⟩,
  .op ⟨36, some 105, .pick (.t 101) (.t 104) (.c (.one (.bool false))), none⟩,
  .op ⟨37, some 106, .mv (.t 105), none⟩,
  .op ⟨38, some 107, .mv (.t 7), some (106, true)⟩,
  .op ⟨39, some 108, .call 11 [(.t 107)], some (106, true)⟩,
  .op ⟨40, some 109, .len (.t 108), some (106, true)⟩,
  .op ⟨41, some 110, .bin .eql (.t 109) (.c (.one (.int .i64 0))), some (106, true)⟩,
  .op ⟨42, some 111, .pick (.t 106) (.t 110) (.c (.one (.bool false))), none⟩,
  .op ⟨43, some 112, .mv (.t 111), none⟩,
  .op ⟨44, some 113, .mv (.t 7), some (112, true)⟩,
  .op ⟨45, some 114, .call 12 [(.t 113)], some (112, true)⟩,
  .op ⟨46, some 115, .len (.t 114), some (112, true)⟩,
  .op ⟨47, some 116, .bin .eql (.t 115) (.c (.one (.int .i64 0))), some (112, true)⟩,
  .op ⟨48, some 117, .pick (.t 112) (.t 116) (.c (.one (.bool false))), none⟩,
  .op ⟨49, some 118, .mv (.t 117), none⟩,
  .op ⟨50, some 119, .mv (.t 7), some (118, true)⟩,
  .op ⟨51, some 120, .call 13 [(.t 119)], some (118, true)⟩,
  .op ⟨52, some 121, .build [.int .i64 0, .int .i64 0, .int .i64 0] [], some (118, true)⟩,
  .op ⟨53, some 122, .eqagg false [.int .i64, .int .i64, .int .i64] (.t 120) (.t 121), some (118, true)⟩,
  .op ⟨54, some 123, .pick (.t 118) (.t 122) (.c (.one (.bool false))), none⟩,
  .op ⟨55, some 124, .mv (.t 123), none⟩,
  .op ⟨56, some 125, .load (.agg [.int .i64, .int .i64, .int .i64]) (.t 3), some (124, true)⟩,
  .op ⟨57, some 126, .call 14 [(.t 125)], some (124, true)⟩,
  .op ⟨58, some 127, .mv (.t 13), some (124, true)⟩,
  .op ⟨59, some 128, .eqb false (.t 126) (.t 127), some (124, true)⟩,
  .op ⟨60, some 129, .pick (.t 124) (.t 128) (.c (.one (.bool false))), none⟩,
  .op ⟨61, some 130, .mv (.t 129), none⟩,
  .op ⟨62, some 131, .mv (.t 15), some (130, true)⟩,
  .op ⟨63, some 132, .bin .eql (.t 131) (.c (.one (.int .i64 0))), some (130, true)⟩,
  .op ⟨64, some 133, .mv (.t 13), some (130, true)⟩,
  .op ⟨65, some 134, .eqb false (.t 132) (.t 133), some (130, true)⟩,
  .op ⟨66, some 135, .pick (.t 130) (.t 134) (.c (.one (.bool false))), none⟩,
  .op ⟨67, some 136, .mv (.t 135), none⟩,
  .op ⟨68, some 137, .mv (.t 14), some (136, true)⟩,
  .op ⟨69, some 138, .isnil true (.t 137), some (136, true)⟩,
  .op ⟨70, some 139, .mv (.t 13), some (136, true)⟩,
  .op ⟨71, some 140, .eqb false (.t 138) (.t 139), some (136, true)⟩,
  .op ⟨72, some 141, .pick (.t 136) (.t 140) (.c (.one (.bool false))), none⟩,
  .op ⟨73, some 6, .mv (.t 141), none⟩])
 (.ret)))))))))⟩
noncomputable def law05_NandNone.on (x0 : (Int × Int × Int × Unit)) (x1 : Int) (x2 : Int) (H : Heap) : Option (Bool × Unit) :=
 let H1 : Heap := H ++ [Blk.cells [.int .i64 x0.1, .int .i64 x0.2.1, .int .i64 x0.2.2.1] .exact]
 (nand_Chip_Power none H1).bind fun (r2 : ((Unit) × Heap)) =>
 (nand_Chip_Arm none (⟨none, 0, 0⟩, ⟨none, 0, 0⟩, ⟨none, 0, 0⟩, ()) r2.2).bind fun (r3 : ((Unit) × Heap)) =>
 (nand_Chip_Read none x1 x2 r3.2).bind fun (r4 : ((Bytes × Bytes × Int × Unit) × Heap)) =>
 (nand_Chip_Marked none x1 r4.2).bind fun (r5 : ((Bool × Int × Unit) × Heap)) =>
 ((rdI .i64 r5.2 H.length 0).bind fun (v6 : Int) =>
 cond (decide (8 ≤ v6)) (
 (rdI .i64 r5.2 H.length 0).bind fun (v7 : Int) =>
 cond (decide (v7 ≤ 32)) (
 (rdI .i64 r5.2 H.length 1).bind fun (v8 : Int) =>
 cond (decide (4 ≤ v8)) (
 (rdI .i64 r5.2 H.length 1).bind fun (v9 : Int) =>
 cond (decide (v9 ≤ 16)) (
 (rdI .i64 r5.2 H.length 2).bind fun (v10 : Int) =>
 cond (decide (64 ≤ v10)) (
 (rdI .i64 r5.2 H.length 2).bind fun (v11 : Int) =>
 some (((decide (v11 ≤ 256)), ()), r5.2)) (
 some ((false, ()), r5.2))) (
 some ((false, ()), r5.2))) (
 some ((false, ()), r5.2))) (
 some ((false, ()), r5.2))) (
 some ((false, ()), r5.2)) : Option ((Bool × Unit) × Heap)).bind fun (p12 : (Bool × Unit) × Heap) =>
 Option.bind (α := (Int × Int × Int × Unit)) (rd p12.2 (.agg [.int .i64, .int .i64, .int .i64]) H.length 0) fun (v13 : (Int × Int × Int × Unit)) =>
 (nand_New (v13.1, v13.2.1, v13.2.2.1, ()) (⟨none, 0, 0⟩, ⟨none, 0, 0⟩, ⟨none, 0, 0⟩, ()) p12.2).bind fun (r14 : ((Ptr × Int × Unit) × Heap)) =>
 (law05_awake).bind fun (r15 : (Bool × Unit)) =>
 cond r15.1 (
 cond (decide (r4.1.2.2.1 = 1)) (
 cond (decide (r5.1.2.1 = 1)) (
 (nand_Chip_Program none x1 x2 [] [] r14.2).bind fun (r16 : ((Int × Unit) × Heap)) =>
 cond (decide (r16.1.1 = 1)) (
 (nand_Chip_Erase none x1 r16.2).bind fun (r17 : ((Int × Unit) × Heap)) =>
 cond (decide (r17.1.1 = 1)) (
 (nand_Chip_Mark none x1 r17.2).bind fun (r18 : ((Int × Unit) × Heap)) =>
 cond (decide (r18.1.1 = 1)) (
 (nand_Chip_Off none r18.2).bind fun (r19 : ((Bool × Unit) × Heap)) =>
 cond r19.1.1 (
 (nand_Chip_Did none r19.2).bind fun (r20 : ((Int × Unit) × Heap)) =>
 cond (decide (r20.1.1 = 0)) (
 (nand_Chip_Worn none r20.2).bind fun (r21 : ((Sl × Unit) × Heap)) =>
 cond (decide ((r21.1.1.len : Int) = 0)) (
 (nand_Chip_Dead none r21.2).bind fun (r22 : ((Sl × Unit) × Heap)) =>
 cond (decide ((r22.1.1.len : Int) = 0)) (
 (nand_Chip_Geometry none r22.2).bind fun (r23 : (((Int × Int × Int × Unit) × Unit) × Heap)) =>
 cond ((decide (r23.1.1.1 = 0)) && ((decide (r23.1.1.2.1 = 0)) && ((decide (r23.1.1.2.2.1 = 0)) && true))) (
 Option.bind (α := (Int × Int × Int × Unit)) (rd r23.2 (.agg [.int .i64, .int .i64, .int .i64]) H.length 0) fun (v24 : (Int × Int × Int × Unit)) =>
 (nand_Check (v24.1, v24.2.1, v24.2.2.1, ())).bind fun (r25 : (Bool × Unit)) =>
 cond (r25.1 == p12.1.1) (
 cond ((decide (r14.1.2.1 = 0)) == p12.1.1) (
 some (((!(Option.isNone r14.1.1)) == p12.1.1), ())) (
 some (false, ()))) (
 some (false, ()))) (
 some (false, ()))) (
 some (false, ()))) (
 some (false, ()))) (
 some (false, ()))) (
 some (false, ()))) (
 some (false, ()))) (
 some (false, ()))) (
 some (false, ()))) (
 some (false, ()))) (
 some (false, ()))) (
 some (false, ()))
noncomputable def law05_NandNone (x0 : (Int × Int × Int × Unit)) (x1 : Int) (x2 : Int) : Option (Bool × Unit) := law05_NandNone.on x0 x1 x2 []
noncomputable def law05_NandNone.c : Callee := .pure [.agg [.int .i64, .int .i64, .int .i64], .one (.int .i64), .one (.int .i64)] [.one .bool] (fun x => law05_NandNone x.1 x.2.1 x.2.2.1)
noncomputable def law05_NandNone.calls : Nat → Option Callee
  | 0 => some nand_Chip_Power.c
  | 1 => some nand_Chip_Arm.c
  | 2 => some nand_Chip_Read.c
  | 3 => some nand_Chip_Marked.c
  | 4 => some nand_New.c
  | 5 => some law05_awake.c
  | 6 => some nand_Chip_Program.c
  | 7 => some nand_Chip_Erase.c
  | 8 => some nand_Chip_Mark.c
  | 9 => some nand_Chip_Off.c
  | 10 => some nand_Chip_Did.c
  | 11 => some nand_Chip_Worn.c
  | 12 => some nand_Chip_Dead.c
  | 13 => some nand_Chip_Geometry.c
  | 14 => some nand_Check.c
  | _ => none
theorem law05_NandNone.eq : evPure law05_NandNone.calls law05_NandNone.af = (fun x H => law05_NandNone.on x.1 x.2.1 x.2.2.1 H) := by kernel_rfl
end Ev
