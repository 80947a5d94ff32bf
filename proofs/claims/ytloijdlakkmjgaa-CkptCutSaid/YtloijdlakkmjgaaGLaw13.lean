/- What the functions of the package Law13 compute: abstract code, and a function of plain Lean for each; the kernel checks that they are the same. Written by gen2.py. -/
import Derived.Test.YtloijdlakkmjgaaEvCore
import Derived.Test.YtloijdlakkmjgaaGLaw05
import Derived.Test.YtloijdlakkmjgaaGLife
import Derived.Test.YtloijdlakkmjgaaGNand
import Derived.Test.YtloijdlakkmjgaaGWrite
import Derived.KernelRfl
set_option linter.unusedVariables false
set_option maxRecDepth 100000
namespace Ev
open Go (IntKind BinOp UnOp)

/-! ### tinderbox/tinderboxlaw13.Begun -/
def law13_Begun.af : AFun := ⟨[.agg [.int .i64, .int .i64, .int .i64], .agg [.sl 3, .sl 1, .sl 1]], [.one .ptr, .one .ptr, .one .bool], [.t 4, .t 5, .t 6],
 .seq (.reg [.op ⟨0, some 2, .box (.t 0), none⟩,
  .op ⟨1, some 3, .box (.t 1), none⟩,
  .op ⟨2, some 4, .mv (.c (.one (.ptr none))), none⟩,
  .op ⟨3, some 5, .mv (.c (.one (.ptr none))), none⟩,
  .op ⟨4, some 6, .mv (.c (.one (.bool false))), none⟩])
 (.seq (.reg [.op ⟨0, some 12, .load (.agg [.int .i64, .int .i64, .int .i64]) (.t 2), none⟩,
  .op ⟨1, some 13, .call 0 [(.t 12)], none⟩,
  .op ⟨2, some 7, .new [.int .i64 0, .int .i64 0, .int .i64 0], none⟩,
  .op ⟨3, none, .store 3 (.t 7) (.t 13), none⟩])
 (.seq (.reg [.op ⟨0, some 15, .load (.agg [.int .i64, .int .i64, .int .i64]) (.t 7), none⟩,
  .op ⟨1, some 16, .addr 0 (.t 3), none⟩,
  .op ⟨2, some 17, .load (.one (.sl 3)) (.t 16), none⟩,
  .op ⟨3, some 18, .addr 0 (.t 3), none⟩,
  .op ⟨4, some 19, .load (.one (.sl 3)) (.t 18), none⟩,
  .op ⟨5, some 20, .len (.t 19), none⟩,
  .op ⟨6, some 21, .min [(.t 20), (.c (.one (.int .i64 8)))], none⟩,
  .op ⟨7, some 22, .slc 3 (.t 17) none (some (.t 21)) none, none⟩,
  .op ⟨8, some 23, .addr 1 (.t 3), none⟩,
  .op ⟨9, some 24, .load (.one (.sl 1)) (.t 23), none⟩,
  .op ⟨10, some 25, .addr 1 (.t 3), none⟩,
  .op ⟨11, some 26, .load (.one (.sl 1)) (.t 25), none⟩,
  .op ⟨12, some 27, .len (.t 26), none⟩,
  .op ⟨13, some 28, .min [(.t 27), (.c (.one (.int .i64 8)))], none⟩,
  .op ⟨14, some 29, .slc 1 (.t 24) none (some (.t 28)) none, none⟩,
  .op ⟨15, some 30, .build [.sl 3 Sl.nil, .sl 1 Sl.nil, .sl 1 Sl.nil] [(0, 1, (.t 22)), (1, 1, (.t 29))], none⟩,
  .op ⟨16, some 31, .call 1 [(.t 15), (.t 30)], none⟩,
  .op ⟨17, some 14, .mv (.t 31), none⟩,
  .op ⟨18, some 32, .ext (.t 14) 0, none⟩,
  .op ⟨19, some 33, .ext (.t 14) 1, none⟩,
  .op ⟨20, some 4, .mv (.t 32), none⟩,
  .op ⟨21, some 8, .mv (.t 33), none⟩])
 (.seq (.reg [.op ⟨0, some 35, .addr 0 (.t 7), none⟩,
  .op ⟨1, some 36, .load (.one (.int .i64)) (.t 35), none⟩,
  .op ⟨2, some 37, .addr 1 (.t 7), none⟩,
  .op ⟨3, some 38, .load (.one (.int .i64)) (.t 37), none⟩,
  .op ⟨4, some 39, .call 2 [(.t 36), (.t 38)], none⟩,
  .op ⟨5, some 34, .mv (.t 39), none⟩,
  .op ⟨6, some 40, .ext (.t 34) 0, none⟩,
  .op ⟨7, some 41, .ext (.t 34) 1, none⟩,
  .op ⟨8, some 9, .mv (.t 40), none⟩,
  .op ⟨9, some 10, .mv (.t 41), none⟩])
 (.seq (.reg [.op ⟨0, some 43, .mv (.t 4), none⟩,
  .op ⟨1, some 44, .mv (.t 9), none⟩,
  .op ⟨2, some 45, .addr 0 (.t 7), none⟩,
  .op ⟨3, some 46, .load (.one (.int .i64)) (.t 45), none⟩,
  .op ⟨4, some 47, .mk 1 8 [.int .i64 0] (.t 46) (.t 46), none⟩,
  .op ⟨5, some 48, .call 3 [(.t 43), (.t 44), (.t 47)], none⟩,
  .op ⟨6, some 42, .mv (.t 48), none⟩,
  .op ⟨7, some 49, .ext (.t 42) 0, none⟩,
  .op ⟨8, some 50, .ext (.t 42) 1, none⟩,
  .op ⟨9, some 5, .mv (.t 49), none⟩,
  .op ⟨10, some 11, .mv (.t 50), none⟩])
 (.seq (.reg [.op ⟨0, some 51, .mv (.t 4), none⟩,
  .op ⟨1, some 52, .mv (.t 5), none⟩,
  .op ⟨2, some 53, .mv (.t 8), none⟩,
  .op ⟨3, some 54, .bin .eql (.t 53) (.c (.one (.int .i64 0))), none⟩,
  .op ⟨4, some 55, .mv (.t 54), none⟩,
  .op ⟨5, some 56, .mv (.t 10), some (55, true)⟩,
  .op ⟨6, some 57, .bin .eql (.t 56) (.c (.one (.int .i64 0))), some (55, true)⟩,
  .op ⟨7, some 58, .pick (.t 55) (.t 57) (.c (.one (.bool false))), none⟩,
  .op ⟨8, some 59, .mv (.t 58), none⟩,
  .op ⟨9, some 60, .mv (.t 11), some (59, true)⟩,
  .op ⟨10, some 61, .bin .eql (.t 60) (.c (.one (.int .i64 0))), some (59, true)⟩,
  .op ⟨11, some 62, .pick (.t 59) (.t 61) (.c (.one (.bool false))), none⟩,
  .op ⟨12, some 4, .mv (.t 51), none⟩,
  .op ⟨13, some 5, .mv (.t 52), none⟩,
  .op ⟨14, some 6, .mv (.t 62), none⟩])
 (.ret))))))⟩
noncomputable def law13_Begun (x0 : (Int × Int × Int × Unit)) (x1 : (Sl × Sl × Sl × Unit)) (H : Heap) : Option ((Ptr × Ptr × Bool × Unit) × Heap) :=
 let H1 : Heap := H ++ [Blk.cells [.int .i64 x0.1, .int .i64 x0.2.1, .int .i64 x0.2.2.1] .exact]
 let H2 : Heap := H1 ++ [Blk.cells [.sl 3 x1.1, .sl 1 x1.2.1, .sl 1 x1.2.2.1] .exact]
 Option.bind (α := (Int × Int × Int × Unit)) (rd H2 (.agg [.int .i64, .int .i64, .int .i64]) H.length 0) fun (v3 : (Int × Int × Int × Unit)) =>
 (law05_Geometry (v3.1, v3.2.1, v3.2.2.1, ()) H2).bind fun (r4 : (((Int × Int × Int × Unit) × Unit) × Heap)) =>
 let H5 : Heap := r4.2 ++ [Blk.cells [.int .i64 0, .int .i64 0, .int .i64 0] .exact]
 (wr H5 r4.2.length 0 [.int .i64 r4.1.1.1, .int .i64 r4.1.1.2.1, .int .i64 r4.1.1.2.2.1]).bind fun (H6 : Heap) =>
 Option.bind (α := (Int × Int × Int × Unit)) (rd H6 (.agg [.int .i64, .int .i64, .int .i64]) r4.2.length 0) fun (v7 : (Int × Int × Int × Unit)) =>
 (rdSl 3 H6 H1.length 0).bind fun (v8 : Sl) =>
 (rdSl 3 H6 H1.length 0).bind fun (v9 : Sl) =>
 (Sl.sub 3 v8 0 (if 8 < (v9.len : Int) then 8 else (v9.len : Int)) (v8.cap : Int)).bind fun (t10 : Sl) =>
 (rdSl 1 H6 H1.length 1).bind fun (v11 : Sl) =>
 (rdSl 1 H6 H1.length 1).bind fun (v12 : Sl) =>
 (Sl.sub 1 v11 0 (if 8 < (v12.len : Int) then 8 else (v12.len : Int)) (v11.cap : Int)).bind fun (t13 : Sl) =>
 (nand_New (v7.1, v7.2.1, v7.2.2.1, ()) (t10, t13, ⟨none, 0, 0⟩, ()) H6).bind fun (r14 : ((Ptr × Int × Unit) × Heap)) =>
 (rdI .i64 r14.2 r4.2.length 0).bind fun (v15 : Int) =>
 (rdI .i64 r14.2 r4.2.length 1).bind fun (v16 : Int) =>
 (life_New v15 v16 r14.2).bind fun (r17 : ((Ptr × Int × Unit) × Heap)) =>
 (rdI .i64 r17.2 r4.2.length 0).bind fun (v18 : Int) =>
 (mkS r17.2 8 [.int .i64 0] v18 v18).bind fun (p19 : (Sl × Heap)) =>
 (write_New r14.1.1 r17.1.1 p19.1 p19.2).bind fun (r20 : ((Ptr × Int × Unit) × Heap)) =>
 cond (decide (r14.1.2.1 = 0)) (
 cond (decide (r17.1.2.1 = 0)) (
 some ((r14.1.1, r20.1.1, (decide (r20.1.2.1 = 0)), ()), r20.2)) (
 some ((r14.1.1, r20.1.1, false, ()), r20.2))) (
 some ((r14.1.1, r20.1.1, false, ()), r20.2))
noncomputable def law13_Begun.c : Callee := .full [.agg [.int .i64, .int .i64, .int .i64], .agg [.sl 3, .sl 1, .sl 1]] [.one .ptr, .one .ptr, .one .bool] (fun x H => law13_Begun x.1 x.2.1 H)
noncomputable def law13_Begun.calls : Nat → Option Callee
  | 0 => some law05_Geometry.c
  | 1 => some nand_New.c
  | 2 => some life_New.c
  | 3 => some write_New.c
  | _ => none
theorem law13_Begun.eq : evFull law13_Begun.calls law13_Begun.af = (fun x H => law13_Begun x.1 x.2.1 H) := by kernel_rfl

/-! ### tinderbox/tinderboxlaw13.tag -/
def law13_tag.af : AFun := ⟨[.one (.int .i64)], [.agg [.int .i64, .int .u64, .int .i64, .int .i64, .int .i64]], [.cell 2],
 .seq (.reg [.op ⟨0, some 2, .new [.int .i64 0, .int .u64 0, .int .i64 0, .int .i64 0, .int .i64 0], none⟩])
 (.seq (.reg [.op ⟨0, some 3, .mv (.t 0), none⟩,
  .op ⟨1, some 4, .conv .u64 (.t 3), none⟩,
  .op ⟨2, some 5, .build [.int .i64 0, .int .u64 0, .int .i64 0, .int .i64 0, .int .i64 0] [(0, 1, (.c (.one (.int .i64 1)))), (1, 1, (.t 4)), (3, 1, (.c (.one (.int .i64 1))))], none⟩,
  .op ⟨3, none, .store 5 (.t 2) (.t 5), none⟩])
 (.ret))⟩
noncomputable def law13_tag.on (x0 : Int) (H : Heap) : Option ((Int × Int × Int × Int × Int × Unit) × Unit) :=
 let H1 : Heap := H ++ [Blk.cells [.int .i64 0, .int .u64 0, .int .i64 0, .int .i64 0, .int .i64 0] .exact]
 (wr H1 H.length 0 [.int .i64 1, .int .u64 (IntKind.wrap .u64 x0), .int .i64 0, .int .i64 1, .int .i64 0]).bind fun (H2 : Heap) =>
 Option.bind (α := (Int × Int × Int × Int × Int × Unit)) (rd H2 (.agg [.int .i64, .int .u64, .int .i64, .int .i64, .int .i64]) H.length 0) fun (v3 : (Int × Int × Int × Int × Int × Unit)) =>
 some (v3, ())
noncomputable def law13_tag (x0 : Int) : Option ((Int × Int × Int × Int × Int × Unit) × Unit) := law13_tag.on x0 []
noncomputable def law13_tag.c : Callee := .pure [.one (.int .i64)] [.agg [.int .i64, .int .u64, .int .i64, .int .i64, .int .i64]] (fun x => law13_tag x.1)
noncomputable def law13_tag.calls : Nat → Option Callee
  | _ => none
theorem law13_tag.eq : evPure law13_tag.calls law13_tag.af = (fun x H => law13_tag.on x.1 H) := by kernel_rfl

/-! ### tinderbox/tinderboxlaw13.awake -/
def law13_awake.af : AFun := ⟨[], [.one .bool], [.t 0],
 .seq (.reg [.op ⟨0, some 0, .mv (.c (.one (.bool false))), none⟩])
 (.seq (.reg [.op ⟨0, some 12, .build [.int .i64 0, .int .i64 0, .int .i64 0] [], none⟩,
  .op ⟨1, some 13, .build [.sl 3 Sl.nil, .sl 1 Sl.nil, .sl 1 Sl.nil] [], none⟩,
  .op ⟨2, some 14, .call 0 [(.t 12), (.t 13)], none⟩,
  .op ⟨3, some 11, .mv (.t 14), none⟩,
  .op ⟨4, some 15, .ext (.t 11) 0, none⟩,
  .op ⟨5, some 16, .ext (.t 11) 1, none⟩,
  .op ⟨6, some 17, .ext (.t 11) 2, none⟩,
  .op ⟨7, some 1, .mv (.t 15), none⟩,
  .op ⟨8, some 2, .mv (.t 16), none⟩,
  .op ⟨9, some 3, .mv (.t 17), none⟩])
 (.seq (.seq (.reg [.op ⟨0, some 18, .mv (.t 3), none⟩,
  .op ⟨1, some 19, .un .not (.t 18), none⟩])
 (.cond (.t 19) (.seq (.reg [.op ⟨0, some 0, .mv (.c (.one (.bool false))), none⟩])
 (.ret)) (.skip)))
 (.seq (.reg [.op ⟨0, some 21, .mv (.t 2), none⟩,
  .op ⟨1, some 22, .call 1 [(.c (.one (.int .i64 1)))], none⟩,
  .op ⟨2, some 23, .call 2 [(.t 21), (.t 22), (.c (.one (.str [111, 110, 101])))], none⟩,
  .op ⟨3, some 20, .mv (.t 23), none⟩,
  .op ⟨4, some 24, .ext (.t 20) 0, none⟩,
  .op ⟨5, some 25, .ext (.t 20) 1, none⟩,
  .op ⟨6, some 4, .mv (.t 24), none⟩,
  .op ⟨7, some 5, .mv (.t 25), none⟩])
 (.seq (.reg [.op ⟨0, some 27, .mv (.t 2), none⟩,
  .op ⟨1, some 28, .call 1 [(.c (.one (.int .i64 2)))], none⟩,
  .op ⟨2, some 29, .call 2 [(.t 27), (.t 28), (.c (.one (.str [116, 119, 111])))], none⟩,
  .op ⟨3, some 26, .mv (.t 29), none⟩,
  .op ⟨4, some 30, .ext (.t 26) 0, none⟩,
  .op ⟨5, some 31, .ext (.t 26) 1, none⟩,
  .op ⟨6, some 6, .mv (.t 30), none⟩,
  .op ⟨7, some 7, .mv (.t 31), none⟩])
 (.seq (.reg [.op ⟨0, some 33, .mv (.t 2), none⟩,
  .op ⟨1, some 34, .call 3 [(.t 33), (.c (.one (.int .i64 1)))], none⟩,
  .op ⟨2, some 32, .mv (.t 34), none⟩,
  .op ⟨3, some 35, .ext (.t 32) 0, none⟩,
  .op ⟨4, some 36, .ext (.t 32) 1, none⟩,
  .op ⟨5, some 37, .ext (.t 32) 2, none⟩,
  .op ⟨6, some 8, .new [.int .i64 0, .int .u64 0, .int .i64 0, .int .i64 0, .int .i64 0], none⟩,
  .op ⟨7, none, .store 5 (.t 8) (.t 35), none⟩,
  .op ⟨8, some 9, .mv (.t 36), none⟩,
  .op ⟨9, some 10, .mv (.t 37), none⟩])
 (.seq (.reg [.op ⟨0, some 38, .mv (.t 5), none⟩,
  .op ⟨1, some 39, .bin .eql (.t 38) (.c (.one (.int .i64 0))), none⟩,
  .op ⟨2, some 40, .mv (.t 39), none⟩,
  .op ⟨3, some 41, .mv (.t 7), some (40, true)⟩,
  .op ⟨4, some 42, .bin .eql (.t 41) (.c (.one (.int .i64 0))), some (40, true)⟩,
  .op ⟨5, some 43, .pick (.t 40) (.t 42) (.c (.one (.bool false))), none⟩,
  .op ⟨6, some 44, .mv (.t 43), none⟩,
  .op ⟨7, some 45, .mv (.t 10), some (44, true)⟩,
  .op ⟨8, some 46, .bin .eql (.t 45) (.c (.one (.int .i64 0))), some (44, true)⟩,
  .op ⟨9, some 47, .pick (.t 44) (.t 46) (.c (.one (.bool false))), none⟩,
  .op ⟨10, some 48, .mv (.t 47), none⟩,
  .op ⟨11, some 49, .mv (.t 4), some (48, true)⟩,
  .op ⟨12, some 50, .bin .eql (.t 49) (.c (.one (.int .i64 0))), some (48, true)⟩,
  .op ⟨13, some 51, .pick (.t 48) (.t 50) (.c (.one (.bool false))), none⟩,
  .op ⟨14, some 52, .mv (.t 51), none⟩,
  .op ⟨15, some 53, .mv (.t 6), some (52, true)⟩,
  .op ⟨16, some 54, .bin .eql (.t 53) (.c (.one (.int .i64 1))), some (52, true)⟩,
  .op ⟨17, some 55, .pick (.t 52) (.t 54) (.c (.one (.bool false))), none⟩,
  .op ⟨18, some 56, .mv (.t 55), none⟩,
  .op ⟨19, some 57, .mv (.t 9), some (56, true)⟩,
  .op ⟨20, some 58, .bin .eql (.t 57) (.c (.one (.str [116, 119, 111]))), some (56, true)⟩,
  .op ⟨21, some 59, .pick (.t 56) (.t 58) (.c (.one (.bool false))), none⟩,
  .op ⟨22, some 60, .mv (.t 59), none⟩,
  .op ⟨23, some 61, .addr 1 (.t 8), some (60, true)⟩,
  .op ⟨24, some 62, .load (.one (.int .u64)) (.t 61), some (60, true)⟩,
  .op ⟨25, some 63, .bin .eql (.t 62) (.c (.one (.int .u64 2))), some (60, true)⟩,
  .op ⟨26, some 64, .pick (.t 60) (.t 63) (.c (.one (.bool false))), none⟩,
  .op ⟨27, some 65, .mv (.t 64), none⟩,
  .op ⟨28, some 66, .mv (.t 2), some (65, true)⟩,
  .op ⟨29, some 67, .call 4 [(.t 66)], some (65, true)⟩,
  .op ⟨30, some 68, .call 5 [(.t 67), (.c (.one (.int .i64 0)))], some (65, true)⟩,
  .op ⟨31, some 69, .bin .eql (.t 68) (.c (.one (.int .i64 1))), some (65, true)⟩,
  .op ⟨32, some 70, .pick (.t 65) (.t 69) (.c (.one (.bool false))), none⟩,
  .op ⟨33, some 0, .mv (.t 70), none⟩])
 (.ret)))))))⟩
noncomputable def law13_awake.on (H : Heap) : Option (Bool × Unit) :=
 (law13_Begun (0, 0, 0, ()) (⟨none, 0, 0⟩, ⟨none, 0, 0⟩, ⟨none, 0, 0⟩, ()) H).bind fun (r1 : ((Ptr × Ptr × Bool × Unit) × Heap)) =>
 cond (!r1.1.2.2.1) (
 some (false, ())) (
 (law13_tag 1).bind fun (r2 : ((Int × Int × Int × Int × Int × Unit) × Unit)) =>
 (write_Writer_Append r1.1.2.1 (r2.1.1, r2.1.2.1, r2.1.2.2.1, r2.1.2.2.2.1, r2.1.2.2.2.2.1, ()) [111, 110, 101] r1.2).bind fun (r3 : ((Int × Int × Unit) × Heap)) =>
 (law13_tag 2).bind fun (r4 : ((Int × Int × Int × Int × Int × Unit) × Unit)) =>
 (write_Writer_Append r1.1.2.1 (r4.1.1, r4.1.2.1, r4.1.2.2.1, r4.1.2.2.2.1, r4.1.2.2.2.2.1, ()) [116, 119, 111] r3.2).bind fun (r5 : ((Int × Int × Unit) × Heap)) =>
 (write_Writer_Read r1.1.2.1 1 r5.2).bind fun (r6 : (((Int × Int × Int × Int × Int × Unit) × Bytes × Int × Unit) × Heap)) =>
 let H7 : Heap := r6.2 ++ [Blk.cells [.int .i64 0, .int .u64 0, .int .i64 0, .int .i64 0, .int .i64 0] .exact]
 (wr H7 r6.2.length 0 [.int .i64 r6.1.1.1, .int .u64 r6.1.1.2.1, .int .i64 r6.1.1.2.2.1, .int .i64 r6.1.1.2.2.2.1, .int .i64 r6.1.1.2.2.2.2.1]).bind fun (H8 : Heap) =>
 cond (decide (r3.1.2.1 = 0)) (
 cond (decide (r5.1.2.1 = 0)) (
 cond (decide (r6.1.2.2.1 = 0)) (
 cond (decide (r3.1.1 = 0)) (
 cond (decide (r5.1.1 = 1)) (
 cond (decide ((r6.1.2.1 : Bytes) = [116, 119, 111])) (
 (rdI .u64 H8 r6.2.length 1).bind fun (v9 : Int) =>
 cond (decide (v9 = 2)) (
 (write_Writer_Life r1.1.2.1 H8).bind fun (r10 : ((Ptr × Unit) × Heap)) =>
 (life_Life_Is r10.1.1 0 r10.2).bind fun (r11 : ((Int × Unit) × Heap)) =>
 some ((decide (r11.1.1 = 1)), ())) (
 some (false, ()))) (
 some (false, ()))) (
 some (false, ()))) (
 some (false, ()))) (
 some (false, ()))) (
 some (false, ()))) (
 some (false, ())))
noncomputable def law13_awake  : Option (Bool × Unit) := law13_awake.on []
noncomputable def law13_awake.c : Callee := .pure [] [.one .bool] (fun _ => law13_awake)
noncomputable def law13_awake.calls : Nat → Option Callee
  | 0 => some law13_Begun.c
  | 1 => some law13_tag.c
  | 2 => some write_Writer_Append.c
  | 3 => some write_Writer_Read.c
  | 4 => some write_Writer_Life.c
  | 5 => some life_Life_Is.c
  | _ => none
theorem law13_awake.eq : evPure law13_awake.calls law13_awake.af = (fun _ H => law13_awake.on H) := by kernel_rfl

/-! ### tinderbox/tinderboxlaw13.WriteCuts -/
def law13_WriteCuts.af : AFun := ⟨[.agg [.int .i64, .int .i64, .int .i64], .agg [.int .i64, .int .i64, .int .u8], .one (.int .i64)], [.one .bool], [.t 6],
 .seq (.reg [.op ⟨0, some 3, .box (.t 0), none⟩,
  .op ⟨1, some 4, .box (.t 1), none⟩,
  .op ⟨2, some 6, .mv (.c (.one (.bool false))), none⟩])
 (.seq (.reg [.op ⟨0, some 20, .load (.agg [.int .i64, .int .i64, .int .u8]) (.t 4), none⟩,
  .op ⟨1, some 7, .new [.int .i64 0, .int .i64 0, .int .u8 0], none⟩,
  .op ⟨2, none, .store 3 (.t 7) (.t 20), none⟩])
 (.seq (.reg [.op ⟨0, some 21, .addr 0 (.t 4), none⟩,
  .op ⟨1, some 22, .load (.one (.int .i64)) (.t 21), none⟩,
  .op ⟨2, some 23, .bin .and (.t 22) (.c (.one (.int .i64 31))), none⟩,
  .op ⟨3, some 24, .bin .add (.c (.one (.int .i64 1))) (.t 23), none⟩,
  .op ⟨4, some 25, .addr 0 (.t 7), none⟩,
  .op ⟨5, none, .store 1 (.t 25) (.t 24), none⟩])
 (.seq (.reg [.op ⟨0, some 27, .load (.agg [.int .i64, .int .i64, .int .i64]) (.t 3), none⟩,
  .op ⟨1, some 28, .load (.agg [.int .i64, .int .i64, .int .u8]) (.t 7), none⟩,
  .op ⟨2, some 29, .bslice 3 1 [.int .i64 0, .int .i64 0, .int .u8 0] [(0, 3, (.t 28))], none⟩,
  .op ⟨3, some 30, .build [.sl 3 Sl.nil, .sl 1 Sl.nil, .sl 1 Sl.nil] [(0, 1, (.t 29))], none⟩,
  .op ⟨4, some 31, .call 0 [(.t 27), (.t 30)], none⟩,
  .op ⟨5, some 26, .mv (.t 31), none⟩,
  .op ⟨6, some 32, .ext (.t 26) 0, none⟩,
  .op ⟨7, some 33, .ext (.t 26) 1, none⟩,
  .op ⟨8, some 34, .ext (.t 26) 2, none⟩,
  .op ⟨9, some 8, .mv (.t 32), none⟩,
  .op ⟨10, some 9, .mv (.t 33), none⟩,
  .op ⟨11, some 10, .mv (.t 34), none⟩])
 (.seq (.seq (.reg [.op ⟨0, some 35, .call 1 [], none⟩,
  .op ⟨1, some 36, .un .not (.t 35), none⟩,
  .op ⟨2, some 37, .mv (.t 36), none⟩,
  .op ⟨3, some 38, .mv (.t 10), some (37, false)⟩,
  .op ⟨4, some 39, .un .not (.t 38), some (37, false)⟩,
  .op ⟨5, some 40, .pick (.t 37) (.c (.one (.bool true))) (.t 39), none⟩])
 (.cond (.t 40) (.seq (.reg [.op ⟨0, some 6, .mv (.c (.one (.bool false))), none⟩])
 (.ret)) (.skip)))
 (.seq (.reg [.op ⟨0, some 11, .mv (.c (.one (.int .i64 0))), none⟩,
  .op ⟨1, some 12, .mv (.c (.one (.bool false))), none⟩])
 (.seq (.seq (.reg [.op ⟨0, some 13, .mv (.c (.one (.int .i64 0))), none⟩])
 (.block 0 (.loop [(11, .one (.int .i64)), (12, .one .bool), (13, .one (.int .i64))] [(.exit 0, [(11, .one (.int .i64)), (12, .one .bool)]), (.ret, [(6, .one .bool)])] (.seq (.seq (.reg [.op ⟨0, some 41, .mv (.t 13), none⟩,
  .op ⟨1, some 42, .mv (.t 2), none⟩,
  .op ⟨2, some 43, .bin .and (.t 42) (.c (.one (.int .i64 63))), none⟩,
  .op ⟨3, some 44, .bin .lss (.t 41) (.t 43), none⟩])
 (.cond (.t 44) (.skip) (.exit 0)))
 (.seq (.block 1 (.seq (.reg [.op ⟨0, some 48, .mv (.t 9), none⟩,
  .op ⟨1, some 49, .mv (.t 13), none⟩,
  .op ⟨2, some 50, .call 2 [(.t 49)], none⟩,
  .op ⟨3, some 51, .call 3 [(.t 48), (.t 50), (.c (.one (.str [116, 101, 120, 116])))], none⟩,
  .op ⟨4, some 47, .mv (.t 51), none⟩,
  .op ⟨5, some 52, .ext (.t 47) 0, none⟩,
  .op ⟨6, some 53, .ext (.t 47) 1, none⟩,
  .op ⟨7, some 14, .mv (.t 52), none⟩,
  .op ⟨8, some 15, .mv (.t 53), none⟩])
 (.seq (.seq (.reg [.op ⟨0, some 54, .mv (.t 15), none⟩,
  .op ⟨1, some 55, .bin .eql (.t 54) (.c (.one (.int .i64 130))), none⟩])
 (.cond (.t 55) (.exit 0) (.skip)))
 (.seq (.scope [(.normal, []), (.ret, [(6, .one .bool)])] (.seq (.reg [.op ⟨0, some 56, .mv (.t 12), none⟩,
  .op ⟨1, some 57, .mv (.t 56), none⟩,
  .op ⟨2, some 58, .mv (.t 15), some (57, true)⟩,
  .op ⟨3, some 59, .bin .neq (.t 58) (.c (.one (.int .i64 51))), some (57, true)⟩,
  .op ⟨4, some 60, .pick (.t 57) (.t 59) (.c (.one (.bool false))), none⟩,
  .op ⟨5, some 61, .mv (.t 60), none⟩,
  .op ⟨6, some 62, .mv (.t 12), some (61, false)⟩,
  .op ⟨7, some 63, .un .not (.t 62), some (61, false)⟩,
  .op ⟨8, some 64, .mv (.t 63), some (61, false)⟩,
  .op ⟨9, some 65, .mv (.t 15), some (64, true)⟩,
  .op ⟨10, some 66, .bin .neq (.t 65) (.c (.one (.int .i64 0))), some (64, true)⟩,
  .op ⟨11, some 67, .pick (.t 64) (.t 66) (.c (.one (.bool false))), some (61, false)⟩,
  .op ⟨12, some 68, .mv (.t 67), some (61, false)⟩,
  .op ⟨13, some 69, .mv (.t 15), some (68, true)⟩,
  .op ⟨14, some 70, .bin .neq (.t 69) (.c (.one (.int .i64 51))), some (68, true)⟩,
  .op ⟨15, some 71, .pick (.t 68) (.t 70) (.c (.one (.bool false))), some (61, false)⟩,
  .op ⟨16, some 72, .pick (.t 61) (.c (.one (.bool true))) (.t 71), none⟩])
 (.cond (.t 72) (.seq (.reg [.op ⟨0, some 6, .mv (.c (.one (.bool false))), none⟩])
 (.ret)) (.skip))))
 (.seq (.scope [(.normal, [(12, .one .bool)])] (.reg [.op ⟨0, some 73, .mv (.t 12), none⟩,
  .op ⟨1, some 74, .mv (.t 73), none⟩,
  .op ⟨2, some 75, .mv (.t 15), some (74, false)⟩,
  .op ⟨3, some 76, .bin .eql (.t 75) (.c (.one (.int .i64 51))), some (74, false)⟩,
  .op ⟨4, some 77, .pick (.t 74) (.c (.one (.bool true))) (.t 76), none⟩,
  .op ⟨5, some 12, .mv (.t 77), none⟩]))
 (.seq (.reg [.op ⟨0, some 78, .mv (.t 15), none⟩,
  .op ⟨1, some 79, .bin .eql (.t 78) (.c (.one (.int .i64 0))), none⟩])
 (.cond (.t 79) (.reg [.op ⟨0, some 80, .mv (.t 11), none⟩,
  .op ⟨1, some 81, .bin .add (.t 80) (.c (.one (.int .i64 1))), none⟩,
  .op ⟨2, some 11, .mv (.t 81), none⟩]) (.skip))))))))
 (.reg [.op ⟨0, some 45, .mv (.t 13), none⟩,
  .op ⟨1, some 46, .bin .add (.t 45) (.c (.one (.int .i64 1))), none⟩,
  .op ⟨2, some 13, .mv (.t 46), none⟩]))))))
 (.seq (.reg [.op ⟨0, some 82, .mv (.t 8), none⟩,
  .op ⟨1, some 83, .call 4 [(.t 82)], none⟩])
 (.seq (.seq (.reg [.op ⟨0, some 16, .mv (.c (.one (.int .i64 0))), none⟩])
 (.block 2 (.loop [(16, .one (.int .i64))] [(.exit 2, []), (.ret, [(6, .one .bool)])] (.seq (.seq (.reg [.op ⟨0, some 84, .mv (.t 16), none⟩,
  .op ⟨1, some 85, .mv (.t 11), none⟩,
  .op ⟨2, some 86, .bin .lss (.t 84) (.t 85), none⟩])
 (.cond (.t 86) (.skip) (.exit 2)))
 (.seq (.block 3 (.seq (.reg [.op ⟨0, some 90, .mv (.t 9), none⟩,
  .op ⟨1, some 91, .mv (.t 16), none⟩,
  .op ⟨2, some 92, .call 5 [(.t 90), (.t 91)], none⟩,
  .op ⟨3, some 89, .mv (.t 92), none⟩,
  .op ⟨4, some 93, .ext (.t 89) 0, none⟩,
  .op ⟨5, some 94, .ext (.t 89) 1, none⟩,
  .op ⟨6, some 95, .ext (.t 89) 2, none⟩,
  .op ⟨7, some 17, .new [.int .i64 0, .int .u64 0, .int .i64 0, .int .i64 0, .int .i64 0], none⟩,
  .op ⟨8, none, .store 5 (.t 17) (.t 93), none⟩,
  .op ⟨9, some 18, .mv (.t 94), none⟩,
  .op ⟨10, some 19, .mv (.t 95), none⟩])
 (.seq (.reg [.op ⟨0, some 96, .mv (.t 19), none⟩,
  .op ⟨1, some 97, .bin .neq (.t 96) (.c (.one (.int .i64 0))), none⟩,
  .op ⟨2, some 98, .mv (.t 97), none⟩,
  .op ⟨3, some 99, .mv (.t 18), some (98, false)⟩,
  .op ⟨4, some 100, .bin .neq (.t 99) (.c (.one (.str [116, 101, 120, 116]))), some (98, false)⟩,
  .op ⟨5, some 101, .pick (.t 98) (.c (.one (.bool true))) (.t 100), none⟩,
  .op ⟨6, some 102, .mv (.t 101), none⟩,
  .op ⟨7, some 103, .addr 1 (.t 17), some (102, false)⟩,
  .op ⟨8, some 104, .load (.one (.int .u64)) (.t 103), some (102, false)⟩,
  .op ⟨9, some 105, .mv (.t 16), some (102, false)⟩,
  .op ⟨10, some 106, .conv .u64 (.t 105), some (102, false)⟩,
  .op ⟨11, some 107, .bin .neq (.t 104) (.t 106), some (102, false)⟩,
  .op ⟨12, some 108, .pick (.t 102) (.c (.one (.bool true))) (.t 107), none⟩])
 (.cond (.t 108) (.seq (.reg [.op ⟨0, some 6, .mv (.c (.one (.bool false))), none⟩])
 (.ret)) (.skip)))))
 (.reg [.op ⟨0, some 87, .mv (.t 16), none⟩,
  .op ⟨1, some 88, .bin .add (.t 87) (.c (.one (.int .i64 1))), none⟩,
  .op ⟨2, some 16, .mv (.t 88), none⟩]))))))
 (.seq (.reg [.op ⟨0, some 109, .mv (.t 11), none⟩,
  .op ⟨1, some 110, .addr 0 (.t 7), none⟩,
  .op ⟨2, some 111, .load (.one (.int .i64)) (.t 110), none⟩,
  .op ⟨3, some 112, .bin .sub (.t 111) (.c (.one (.int .i64 1))), none⟩,
  .op ⟨4, some 113, .bin .leq (.t 109) (.t 112), none⟩,
  .op ⟨5, some 114, .mv (.t 113), none⟩,
  .op ⟨6, some 115, .mv (.t 12), some (114, false)⟩,
  .op ⟨7, some 116, .un .not (.t 115), some (114, false)⟩,
  .op ⟨8, some 117, .mv (.t 116), some (114, false)⟩,
  .op ⟨9, some 118, .mv (.t 11), some (117, true)⟩,
  .op ⟨10, some 119, .mv (.t 2), some (117, true)⟩,
  .op ⟨11, some 120, .bin .and (.t 119) (.c (.one (.int .i64 63))), some (117, true)⟩,
  .op ⟨12, some 121, .bin .leq (.t 118) (.t 120), some (117, true)⟩,
  .op ⟨13, some 122, .pick (.t 117) (.t 121) (.c (.one (.bool false))), some (114, false)⟩,
  .op ⟨14, some 123, .pick (.t 114) (.c (.one (.bool true))) (.t 122), none⟩,
  .op ⟨15, some 6, .mv (.t 123), none⟩])
 (.ret))))))))))⟩
noncomputable def law13_WriteCuts.s1 (x2 : Int) (r11 : ((Ptr × Ptr × Bool × Unit) × Heap)) (s13 : (Int × Bool × Int × Unit)) (H14 : Heap) : Option (((Int × Bool × Int × Unit) ⊕ ((Int × Bool × Unit) ⊕ (Bool × Unit))) × Heap) :=
 cond (decide (s13.2.2.1 < (bitsI .and .i64 x2 63))) (
 (law13_tag s13.2.2.1).bind fun (r15 : ((Int × Int × Int × Int × Int × Unit) × Unit)) =>
 (write_Writer_Append r11.1.2.1 (r15.1.1, r15.1.2.1, r15.1.2.2.1, r15.1.2.2.2.1, r15.1.2.2.2.2.1, ()) [116, 101, 120, 116] H14).bind fun (r16 : ((Int × Int × Unit) × Heap)) =>
 cond (decide (r16.1.2.1 = 130)) (
 some (Sum.inr (Sum.inl (s13.1, s13.2.1, ())), r16.2)) (
 (cond s13.2.1 (
 cond (!decide (r16.1.2.1 = 51)) (
 some (Sum.inr (false, ()), r16.2)) (
 cond (!s13.2.1) (
 cond (!decide (r16.1.2.1 = 0)) (
 cond (!decide (r16.1.2.1 = 51)) (
 some (Sum.inr (false, ()), r16.2)) (
 some (Sum.inl (()), r16.2))) (
 some (Sum.inl (()), r16.2))) (
 some (Sum.inl (()), r16.2)))) (
 cond (!s13.2.1) (
 cond (!decide (r16.1.2.1 = 0)) (
 cond (!decide (r16.1.2.1 = 51)) (
 some (Sum.inr (false, ()), r16.2)) (
 some (Sum.inl (()), r16.2))) (
 some (Sum.inl (()), r16.2))) (
 some (Sum.inl (()), r16.2))) : Option (((Unit) ⊕ (Bool × Unit)) × Heap)).bind fun (p17 : ((Unit) ⊕ (Bool × Unit)) × Heap) =>
 Sum.elim (fun (y18 : (Unit)) =>
 (cond s13.2.1 (
 some ((true, ()), p17.2)) (
 some (((decide (r16.1.2.1 = 51)), ()), p17.2)) : Option ((Bool × Unit) × Heap)).bind fun (p19 : (Bool × Unit) × Heap) =>
 cond (decide (r16.1.2.1 = 0)) (
 some (Sum.inl ((IntKind.wrap .i64 (s13.1 + 1)), p19.1.1, (IntKind.wrap .i64 (s13.2.2.1 + 1)), ()), p19.2)) (
 some (Sum.inl (s13.1, p19.1.1, (IntKind.wrap .i64 (s13.2.2.1 + 1)), ()), p19.2))) (fun (z20 : (Bool × Unit)) =>
 some (Sum.inr (Sum.inr (z20.1, ())), p17.2)) p17.1)) (
 some (Sum.inr (Sum.inl (s13.1, s13.2.1, ())), H14))
noncomputable def law13_WriteCuts.s2 (r11 : ((Ptr × Ptr × Bool × Unit) × Heap)) (y22 : (Int × Bool × Unit)) (s24 : (Int × Unit)) (H25 : Heap) : Option (((Int × Unit) ⊕ ((Unit) ⊕ (Bool × Unit))) × Heap) :=
 cond (decide (s24.1 < y22.1)) (
 (write_Writer_Read r11.1.2.1 s24.1 H25).bind fun (r26 : (((Int × Int × Int × Int × Int × Unit) × Bytes × Int × Unit) × Heap)) =>
 let H27 : Heap := r26.2 ++ [Blk.cells [.int .i64 0, .int .u64 0, .int .i64 0, .int .i64 0, .int .i64 0] .exact]
 (wr H27 r26.2.length 0 [.int .i64 r26.1.1.1, .int .u64 r26.1.1.2.1, .int .i64 r26.1.1.2.2.1, .int .i64 r26.1.1.2.2.2.1, .int .i64 r26.1.1.2.2.2.2.1]).bind fun (H28 : Heap) =>
 cond (!decide (r26.1.2.2.1 = 0)) (
 some (Sum.inr (Sum.inr (false, ())), H28)) (
 cond (!decide ((r26.1.2.1 : Bytes) = [116, 101, 120, 116])) (
 some (Sum.inr (Sum.inr (false, ())), H28)) (
 (rdI .u64 H28 r26.2.length 1).bind fun (v29 : Int) =>
 cond (!decide (v29 = (IntKind.wrap .u64 s24.1))) (
 some (Sum.inr (Sum.inr (false, ())), H28)) (
 some (Sum.inl ((IntKind.wrap .i64 (s24.1 + 1)), ()), H28))))) (
 some (Sum.inr (Sum.inl (())), H25))
noncomputable def law13_WriteCuts.on (x0 : (Int × Int × Int × Unit)) (x1 : (Int × Int × Int × Unit)) (x2 : Int) (H : Heap) : Option (Bool × Unit) :=
 let H1 : Heap := H ++ [Blk.cells [.int .i64 x0.1, .int .i64 x0.2.1, .int .i64 x0.2.2.1] .exact]
 let H2 : Heap := H1 ++ [Blk.cells [.int .i64 x1.1, .int .i64 x1.2.1, .int .u8 x1.2.2.1] .exact]
 Option.bind (α := (Int × Int × Int × Unit)) (rd H2 (.agg [.int .i64, .int .i64, .int .u8]) H1.length 0) fun (v3 : (Int × Int × Int × Unit)) =>
 let H4 : Heap := H2 ++ [Blk.cells [.int .i64 0, .int .i64 0, .int .u8 0] .exact]
 (wr H4 H2.length 0 [.int .i64 v3.1, .int .i64 v3.2.1, .int .u8 v3.2.2.1]).bind fun (H5 : Heap) =>
 (rdI .i64 H5 H1.length 0).bind fun (v6 : Int) =>
 (wr H5 H2.length 0 [.int .i64 (IntKind.wrap .i64 (1 + (bitsI .and .i64 v6 31)))]).bind fun (H7 : Heap) =>
 Option.bind (α := (Int × Int × Int × Unit)) (rd H7 (.agg [.int .i64, .int .i64, .int .i64]) H.length 0) fun (v8 : (Int × Int × Int × Unit)) =>
 Option.bind (α := (Int × Int × Int × Unit)) (rd H7 (.agg [.int .i64, .int .i64, .int .u8]) H2.length 0) fun (v9 : (Int × Int × Int × Unit)) =>
 let H10 : Heap := H7 ++ [Blk.cells [.int .i64 v9.1, .int .i64 v9.2.1, .int .u8 v9.2.2.1] .exact]
 (law13_Begun (v8.1, v8.2.1, v8.2.2.1, ()) (⟨some (H7.length, 0), 1, 1⟩, ⟨none, 0, 0⟩, ⟨none, 0, 0⟩, ()) H10).bind fun (r11 : ((Ptr × Ptr × Bool × Unit) × Heap)) =>
 (law13_awake).bind fun (r12 : (Bool × Unit)) =>
 cond (!r12.1) (
 some (false, ())) (
 cond (!r11.1.2.2.1) (
 some (false, ())) (
 (loopW (law13_WriteCuts.s1 x2 r11) (0, false, 0, ()) r11.2).bind fun (p21 : ((Int × Bool × Unit) ⊕ (Bool × Unit)) × Heap) =>
 Sum.elim (fun (y22 : (Int × Bool × Unit)) =>
 (nand_Chip_Power r11.1.1 p21.2).bind fun (r23 : ((Unit) × Heap)) =>
 (loopW (law13_WriteCuts.s2 r11 y22) (0, ()) r23.2).bind fun (p30 : ((Unit) ⊕ (Bool × Unit)) × Heap) =>
 Sum.elim (fun (y31 : (Unit)) =>
 (rdI .i64 p30.2 H2.length 0).bind fun (v32 : Int) =>
 cond (decide (y22.1 ≤ (IntKind.wrap .i64 (v32 - 1)))) (
 some (true, ())) (
 cond (!y22.2.1) (
 some ((decide (y22.1 ≤ (bitsI .and .i64 x2 63))), ())) (
 some (false, ())))) (fun (z33 : (Bool × Unit)) =>
 some (z33.1, ())) p30.1) (fun (z34 : (Bool × Unit)) =>
 some (z34.1, ())) p21.1))
noncomputable def law13_WriteCuts (x0 : (Int × Int × Int × Unit)) (x1 : (Int × Int × Int × Unit)) (x2 : Int) : Option (Bool × Unit) := law13_WriteCuts.on x0 x1 x2 []
noncomputable def law13_WriteCuts.c : Callee := .pure [.agg [.int .i64, .int .i64, .int .i64], .agg [.int .i64, .int .i64, .int .u8], .one (.int .i64)] [.one .bool] (fun x => law13_WriteCuts x.1 x.2.1 x.2.2.1)
noncomputable def law13_WriteCuts.calls : Nat → Option Callee
  | 0 => some law13_Begun.c
  | 1 => some law13_awake.c
  | 2 => some law13_tag.c
  | 3 => some write_Writer_Append.c
  | 4 => some nand_Chip_Power.c
  | 5 => some write_Writer_Read.c
  | _ => none
theorem law13_WriteCuts.eq : evPure law13_WriteCuts.calls law13_WriteCuts.af = (fun x H => law13_WriteCuts.on x.1 x.2.1 x.2.2.1 H) := by kernel_rfl

/-! ### tinderbox/tinderboxlaw13.WriteBad -/
def law13_WriteBad.af : AFun := ⟨[.agg [.int .i64, .int .i64, .int .i64], .one (.int .i64), .one (.int .i64)], [.one .bool], [.t 6],
 .seq (.reg [.op ⟨0, some 3, .box (.t 0), none⟩,
  .op ⟨1, some 6, .mv (.c (.one (.bool false))), none⟩])
 (.seq (.reg [.op ⟨0, some 21, .mv (.t 1), none⟩,
  .op ⟨1, some 22, .bin .and (.t 21) (.c (.one (.int .i64 15))), none⟩,
  .op ⟨2, some 23, .bin .add (.c (.one (.int .i64 1))) (.t 22), none⟩,
  .op ⟨3, some 7, .mv (.t 23), none⟩])
 (.seq (.reg [.op ⟨0, some 25, .load (.agg [.int .i64, .int .i64, .int .i64]) (.t 3), none⟩,
  .op ⟨1, some 26, .mv (.t 7), none⟩,
  .op ⟨2, some 27, .bslice 1 1 [.int .i64 0] [(0, 1, (.t 26))], none⟩,
  .op ⟨3, some 28, .build [.sl 3 Sl.nil, .sl 1 Sl.nil, .sl 1 Sl.nil] [(1, 1, (.t 27))], none⟩,
  .op ⟨4, some 29, .call 0 [(.t 25), (.t 28)], none⟩,
  .op ⟨5, some 24, .mv (.t 29), none⟩,
  .op ⟨6, some 30, .ext (.t 24) 0, none⟩,
  .op ⟨7, some 31, .ext (.t 24) 1, none⟩,
  .op ⟨8, some 32, .ext (.t 24) 2, none⟩,
  .op ⟨9, some 8, .mv (.t 30), none⟩,
  .op ⟨10, some 9, .mv (.t 31), none⟩,
  .op ⟨11, some 10, .mv (.t 32), none⟩])
 (.seq (.seq (.reg [.op ⟨0, some 33, .call 1 [], none⟩,
  .op ⟨1, some 34, .un .not (.t 33), none⟩,
  .op ⟨2, some 35, .mv (.t 34), none⟩,
  .op ⟨3, some 36, .mv (.t 10), some (35, false)⟩,
  .op ⟨4, some 37, .un .not (.t 36), some (35, false)⟩,
  .op ⟨5, some 38, .pick (.t 35) (.c (.one (.bool true))) (.t 37), none⟩])
 (.cond (.t 38) (.seq (.reg [.op ⟨0, some 6, .mv (.c (.one (.bool false))), none⟩])
 (.ret)) (.skip)))
 (.seq (.reg [.op ⟨0, some 11, .mv (.c (.one (.int .i64 (-1)))), none⟩])
 (.seq (.seq (.reg [.op ⟨0, some 12, .mv (.c (.one (.int .i64 1))), none⟩])
 (.block 0 (.loop [(11, .one (.int .i64)), (12, .one (.int .i64))] [(.exit 0, [(11, .one (.int .i64))]), (.ret, [(6, .one .bool)])] (.seq (.seq (.reg [.op ⟨0, some 39, .mv (.t 12), none⟩,
  .op ⟨1, some 40, .mv (.t 7), none⟩,
  .op ⟨2, some 41, .mv (.t 2), none⟩,
  .op ⟨3, some 42, .bin .and (.t 41) (.c (.one (.int .i64 15))), none⟩,
  .op ⟨4, some 43, .bin .add (.t 40) (.t 42), none⟩,
  .op ⟨5, some 44, .bin .leq (.t 39) (.t 43), none⟩])
 (.cond (.t 44) (.skip) (.exit 0)))
 (.seq (.block 1 (.seq (.reg [.op ⟨0, some 48, .mv (.t 9), none⟩,
  .op ⟨1, some 49, .call 2 [(.t 48)], none⟩,
  .op ⟨2, some 50, .call 3 [(.t 49)], none⟩,
  .op ⟨3, some 47, .mv (.t 50), none⟩,
  .op ⟨4, some 51, .ext (.t 47) 0, none⟩,
  .op ⟨5, some 52, .ext (.t 47) 1, none⟩,
  .op ⟨6, some 53, .ext (.t 47) 2, none⟩,
  .op ⟨7, some 13, .mv (.t 51), none⟩,
  .op ⟨8, some 14, .mv (.t 52), none⟩,
  .op ⟨9, some 15, .mv (.t 53), none⟩])
 (.seq (.reg [.op ⟨0, some 55, .mv (.t 9), none⟩,
  .op ⟨1, some 56, .mv (.t 12), none⟩,
  .op ⟨2, some 57, .call 4 [(.t 56)], none⟩,
  .op ⟨3, some 58, .call 5 [(.t 55), (.t 57), (.c (.one (.str [116, 101, 120, 116])))], none⟩,
  .op ⟨4, some 54, .mv (.t 58), none⟩,
  .op ⟨5, some 59, .ext (.t 54) 0, none⟩,
  .op ⟨6, some 60, .ext (.t 54) 1, none⟩,
  .op ⟨7, some 16, .mv (.t 59), none⟩,
  .op ⟨8, some 17, .mv (.t 60), none⟩])
 (.seq (.seq (.reg [.op ⟨0, some 61, .mv (.t 17), none⟩,
  .op ⟨1, some 62, .bin .neq (.t 61) (.c (.one (.int .i64 0))), none⟩])
 (.cond (.t 62) (.seq (.reg [.op ⟨0, some 63, .mv (.t 17), none⟩,
  .op ⟨1, some 64, .bin .eql (.t 63) (.c (.one (.int .i64 130))), none⟩,
  .op ⟨2, some 6, .mv (.t 64), none⟩])
 (.ret)) (.skip)))
 (.seq (.reg [.op ⟨0, some 65, .mv (.t 9), none⟩,
  .op ⟨1, some 66, .call 6 [(.t 65)], none⟩,
  .op ⟨2, some 18, .mv (.t 66), none⟩])
 (.seq (.scope [(.normal, [(11, .one (.int .i64))]), (.ret, [(6, .one .bool)])] (.seq (.reg [.op ⟨0, some 67, .mv (.t 12), none⟩,
  .op ⟨1, some 68, .mv (.t 7), none⟩,
  .op ⟨2, some 69, .bin .eql (.t 67) (.t 68), none⟩])
 (.cond (.t 69) (.seq (.seq (.reg [.op ⟨0, some 70, .mv (.t 18), none⟩,
  .op ⟨1, some 71, .len (.t 70), none⟩,
  .op ⟨2, some 72, .bin .neq (.t 71) (.c (.one (.int .i64 1))), none⟩,
  .op ⟨3, some 73, .mv (.t 72), none⟩,
  .op ⟨4, some 74, .mv (.t 15), some (73, false)⟩,
  .op ⟨5, some 75, .mv (.t 74), some (73, false)⟩,
  .op ⟨6, some 76, .mv (.t 18), some (75, true)⟩,
  .op ⟨7, some 77, .idxa 1 (.t 76) (.c (.one (.int .i64 0))), some (75, true)⟩,
  .op ⟨8, some 78, .load (.one (.int .i64)) (.t 77), some (75, true)⟩,
  .op ⟨9, some 79, .mv (.t 13), some (75, true)⟩,
  .op ⟨10, some 80, .bin .neq (.t 78) (.t 79), some (75, true)⟩,
  .op ⟨11, some 81, .pick (.t 75) (.t 80) (.c (.one (.bool false))), some (73, false)⟩,
  .op ⟨12, some 82, .pick (.t 73) (.c (.one (.bool true))) (.t 81), none⟩])
 (.cond (.t 82) (.seq (.reg [.op ⟨0, some 6, .mv (.c (.one (.bool false))), none⟩])
 (.ret)) (.skip)))
 (.reg [.op ⟨0, some 83, .mv (.t 18), none⟩,
  .op ⟨1, some 84, .idxa 1 (.t 83) (.c (.one (.int .i64 0))), none⟩,
  .op ⟨2, some 85, .load (.one (.int .i64)) (.t 84), none⟩,
  .op ⟨3, some 11, .mv (.t 85), none⟩])) (.seq (.reg [.op ⟨0, some 86, .mv (.t 18), none⟩,
  .op ⟨1, some 87, .len (.t 86), none⟩,
  .op ⟨2, some 88, .bin .neq (.t 87) (.c (.one (.int .i64 0))), none⟩])
 (.cond (.t 88) (.seq (.reg [.op ⟨0, some 6, .mv (.c (.one (.bool false))), none⟩])
 (.ret)) (.skip))))))
 (.seq (.reg [.op ⟨0, some 89, .mv (.t 11), none⟩,
  .op ⟨1, some 90, .bin .geq (.t 89) (.c (.one (.int .i64 0))), none⟩,
  .op ⟨2, some 91, .mv (.t 90), none⟩,
  .op ⟨3, some 92, .mv (.t 16), some (91, true)⟩,
  .op ⟨4, some 93, .mv (.t 8), some (91, true)⟩,
  .op ⟨5, some 94, .call 7 [(.t 93)], some (91, true)⟩,
  .op ⟨6, some 95, .field (.one (.int .i64)) 1 (.t 94), some (91, true)⟩,
  .op ⟨7, some 96, .bin .quo (.t 92) (.t 95), some (91, true)⟩,
  .op ⟨8, some 97, .mv (.t 11), some (91, true)⟩,
  .op ⟨9, some 98, .bin .eql (.t 96) (.t 97), some (91, true)⟩,
  .op ⟨10, some 99, .pick (.t 91) (.t 98) (.c (.one (.bool false))), none⟩,
  .op ⟨11, some 100, .mv (.t 99), none⟩,
  .op ⟨12, some 101, .mv (.t 12), some (100, true)⟩,
  .op ⟨13, some 102, .mv (.t 7), some (100, true)⟩,
  .op ⟨14, some 103, .bin .geq (.t 101) (.t 102), some (100, true)⟩,
  .op ⟨15, some 104, .pick (.t 100) (.t 103) (.c (.one (.bool false))), none⟩])
 (.cond (.t 104) (.seq (.reg [.op ⟨0, some 6, .mv (.c (.one (.bool false))), none⟩])
 (.ret)) (.skip)))))))))
 (.reg [.op ⟨0, some 45, .mv (.t 12), none⟩,
  .op ⟨1, some 46, .bin .add (.t 45) (.c (.one (.int .i64 1))), none⟩,
  .op ⟨2, some 12, .mv (.t 46), none⟩]))))))
 (.seq (.seq (.reg [.op ⟨0, some 105, .mv (.t 11), none⟩,
  .op ⟨1, some 106, .bin .lss (.t 105) (.c (.one (.int .i64 0))), none⟩])
 (.cond (.t 106) (.seq (.reg [.op ⟨0, some 6, .mv (.c (.one (.bool true))), none⟩])
 (.ret)) (.skip)))
 (.seq (.reg [.op ⟨0, some 108, .mv (.t 8), none⟩,
  .op ⟨1, some 109, .mv (.t 11), none⟩,
  .op ⟨2, some 110, .call 8 [(.t 108), (.t 109)], none⟩,
  .op ⟨3, some 107, .mv (.t 110), none⟩,
  .op ⟨4, some 111, .ext (.t 107) 0, none⟩,
  .op ⟨5, some 112, .ext (.t 107) 1, none⟩,
  .op ⟨6, some 19, .mv (.t 111), none⟩,
  .op ⟨7, some 20, .mv (.t 112), none⟩])
 (.seq (.reg [.op ⟨0, some 113, .mv (.t 20), none⟩,
  .op ⟨1, some 114, .bin .eql (.t 113) (.c (.one (.int .i64 0))), none⟩,
  .op ⟨2, some 115, .mv (.t 114), none⟩,
  .op ⟨3, some 116, .mv (.t 19), some (115, true)⟩,
  .op ⟨4, some 117, .pick (.t 115) (.t 116) (.c (.one (.bool false))), none⟩,
  .op ⟨5, some 118, .mv (.t 117), none⟩,
  .op ⟨6, some 119, .mv (.t 9), some (118, true)⟩,
  .op ⟨7, some 120, .call 2 [(.t 119)], some (118, true)⟩,
  .op ⟨8, some 121, .mv (.t 11), some (118, true)⟩,
  .op ⟨9, some 122, .call 9 [(.t 120), (.t 121)], some (118, true)⟩,
  .op ⟨10, some 123, .bin .eql (.t 122) (.c (.one (.int .i64 3))), some (118, true)⟩,
  .op ⟨11, some 124, .pick (.t 118) (.t 123) (.c (.one (.bool false))), none⟩,
  .op ⟨12, some 125, .mv (.t 124), none⟩,
  .op ⟨13, some 126, .mv (.t 8), some (125, true)⟩,
  .op ⟨14, some 127, .call 10 [(.t 126)], some (125, true)⟩,
  .op ⟨15, some 128, .mv (.t 11), some (125, true)⟩,
  .op ⟨16, some 129, .idxa 1 (.t 127) (.t 128), some (125, true)⟩,
  .op ⟨17, some 130, .load (.one .bool) (.t 129), some (125, true)⟩,
  .op ⟨18, some 131, .pick (.t 125) (.t 130) (.c (.one (.bool false))), none⟩,
  .op ⟨19, some 6, .mv (.t 131), none⟩])
 (.ret)))))))))⟩
noncomputable def law13_WriteBad.s1 (x1 : Int) (x2 : Int) (r4 : ((Ptr × Ptr × Bool × Unit) × Heap)) (s6 : (Int × Int × Unit)) (H7 : Heap) : Option (((Int × Int × Unit) ⊕ ((Int × Unit) ⊕ (Bool × Unit))) × Heap) :=
 cond (decide (s6.2.1 ≤ (IntKind.wrap .i64 ((IntKind.wrap .i64 (1 + (bitsI .and .i64 x1 15))) + (bitsI .and .i64 x2 15))))) (
 (write_Writer_Life r4.1.2.1 H7).bind fun (r8 : ((Ptr × Unit) × Heap)) =>
 (life_Life_At r8.1.1 r8.2).bind fun (r9 : ((Int × Int × Bool × Unit) × Heap)) =>
 (law13_tag s6.2.1).bind fun (r10 : ((Int × Int × Int × Int × Int × Unit) × Unit)) =>
 (write_Writer_Append r4.1.2.1 (r10.1.1, r10.1.2.1, r10.1.2.2.1, r10.1.2.2.2.1, r10.1.2.2.2.2.1, ()) [116, 101, 120, 116] r9.2).bind fun (r11 : ((Int × Int × Unit) × Heap)) =>
 cond (!decide (r11.1.2.1 = 0)) (
 some (Sum.inr (Sum.inr ((decide (r11.1.2.1 = 130)), ())), r11.2)) (
 (write_Writer_Bads r4.1.2.1 r11.2).bind fun (r12 : ((Sl × Unit) × Heap)) =>
 (cond (decide (s6.2.1 = (IntKind.wrap .i64 (1 + (bitsI .and .i64 x1 15))))) (
 cond (!decide ((r12.1.1.len : Int) = 1)) (
 some (Sum.inr (false, ()), r12.2)) (
 cond r9.1.2.2.1 (
 (Sl.at 1 r12.1.1 0).bind fun (a13 : (Nat × Nat)) =>
 (rdI .i64 r12.2 a13.1 a13.2).bind fun (v14 : Int) =>
 cond (!decide (v14 = r9.1.1)) (
 some (Sum.inr (false, ()), r12.2)) (
 (Sl.at 1 r12.1.1 0).bind fun (a15 : (Nat × Nat)) =>
 (rdI .i64 r12.2 a15.1 a15.2).bind fun (v16 : Int) =>
 some (Sum.inl (v16, ()), r12.2))) (
 (Sl.at 1 r12.1.1 0).bind fun (a17 : (Nat × Nat)) =>
 (rdI .i64 r12.2 a17.1 a17.2).bind fun (v18 : Int) =>
 some (Sum.inl (v18, ()), r12.2)))) (
 cond (!decide ((r12.1.1.len : Int) = 0)) (
 some (Sum.inr (false, ()), r12.2)) (
 some (Sum.inl (s6.1, ()), r12.2))) : Option (((Int × Unit) ⊕ (Bool × Unit)) × Heap)).bind fun (p19 : ((Int × Unit) ⊕ (Bool × Unit)) × Heap) =>
 Sum.elim (fun (y20 : (Int × Unit)) =>
 cond (decide (0 ≤ y20.1)) (
 (nand_Chip_Geometry r4.1.1 p19.2).bind fun (r21 : (((Int × Int × Int × Unit) × Unit) × Heap)) =>
 cond (decide (r21.1.1.2.1 = 0)) none (
 cond (decide ((IntKind.wrap .i64 (Int.tdiv r11.1.1 r21.1.1.2.1)) = y20.1)) (
 cond (decide ((IntKind.wrap .i64 (1 + (bitsI .and .i64 x1 15))) ≤ s6.2.1)) (
 some (Sum.inr (Sum.inr (false, ())), r21.2)) (
 some (Sum.inl (y20.1, (IntKind.wrap .i64 (s6.2.1 + 1)), ()), r21.2))) (
 some (Sum.inl (y20.1, (IntKind.wrap .i64 (s6.2.1 + 1)), ()), r21.2)))) (
 some (Sum.inl (y20.1, (IntKind.wrap .i64 (s6.2.1 + 1)), ()), p19.2))) (fun (z22 : (Bool × Unit)) =>
 some (Sum.inr (Sum.inr (z22.1, ())), p19.2)) p19.1)) (
 some (Sum.inr (Sum.inl (s6.1, ())), H7))
noncomputable def law13_WriteBad.on (x0 : (Int × Int × Int × Unit)) (x1 : Int) (x2 : Int) (H : Heap) : Option (Bool × Unit) :=
 let H1 : Heap := H ++ [Blk.cells [.int .i64 x0.1, .int .i64 x0.2.1, .int .i64 x0.2.2.1] .exact]
 Option.bind (α := (Int × Int × Int × Unit)) (rd H1 (.agg [.int .i64, .int .i64, .int .i64]) H.length 0) fun (v2 : (Int × Int × Int × Unit)) =>
 let H3 : Heap := H1 ++ [Blk.cells [.int .i64 (IntKind.wrap .i64 (1 + (bitsI .and .i64 x1 15)))] .exact]
 (law13_Begun (v2.1, v2.2.1, v2.2.2.1, ()) (⟨none, 0, 0⟩, ⟨some (H1.length, 0), 1, 1⟩, ⟨none, 0, 0⟩, ()) H3).bind fun (r4 : ((Ptr × Ptr × Bool × Unit) × Heap)) =>
 (law13_awake).bind fun (r5 : (Bool × Unit)) =>
 cond (!r5.1) (
 some (false, ())) (
 cond (!r4.1.2.2.1) (
 some (false, ())) (
 (loopW (law13_WriteBad.s1 x1 x2 r4) ((-1), 1, ()) r4.2).bind fun (p23 : ((Int × Unit) ⊕ (Bool × Unit)) × Heap) =>
 Sum.elim (fun (y24 : (Int × Unit)) =>
 cond (decide (y24.1 < 0)) (
 some (true, ())) (
 (nand_Chip_Marked r4.1.1 y24.1 p23.2).bind fun (r25 : ((Bool × Int × Unit) × Heap)) =>
 cond (decide (r25.1.2.1 = 0)) (
 cond r25.1.1 (
 (write_Writer_Life r4.1.2.1 r25.2).bind fun (r26 : ((Ptr × Unit) × Heap)) =>
 (life_Life_Is r26.1.1 y24.1 r26.2).bind fun (r27 : ((Int × Unit) × Heap)) =>
 cond (decide (r27.1.1 = 3)) (
 (nand_Chip_Dead r4.1.1 r27.2).bind fun (r28 : ((Sl × Unit) × Heap)) =>
 (Sl.at 1 r28.1.1 y24.1).bind fun (a29 : (Nat × Nat)) =>
 (rdB r28.2 a29.1 a29.2).bind fun (v30 : Bool) =>
 some (v30, ())) (
 some (false, ()))) (
 some (false, ()))) (
 some (false, ())))) (fun (z31 : (Bool × Unit)) =>
 some (z31.1, ())) p23.1))
noncomputable def law13_WriteBad (x0 : (Int × Int × Int × Unit)) (x1 : Int) (x2 : Int) : Option (Bool × Unit) := law13_WriteBad.on x0 x1 x2 []
noncomputable def law13_WriteBad.c : Callee := .pure [.agg [.int .i64, .int .i64, .int .i64], .one (.int .i64), .one (.int .i64)] [.one .bool] (fun x => law13_WriteBad x.1 x.2.1 x.2.2.1)
noncomputable def law13_WriteBad.calls : Nat → Option Callee
  | 0 => some law13_Begun.c
  | 1 => some law13_awake.c
  | 2 => some write_Writer_Life.c
  | 3 => some life_Life_At.c
  | 4 => some law13_tag.c
  | 5 => some write_Writer_Append.c
  | 6 => some write_Writer_Bads.c
  | 7 => some nand_Chip_Geometry.c
  | 8 => some nand_Chip_Marked.c
  | 9 => some life_Life_Is.c
  | 10 => some nand_Chip_Dead.c
  | _ => none
theorem law13_WriteBad.eq : evPure law13_WriteBad.calls law13_WriteBad.af = (fun x H => law13_WriteBad.on x.1 x.2.1 x.2.2.1 H) := by kernel_rfl

/-! ### tinderbox/tinderboxlaw13.few -/
def law13_few.af : AFun := ⟨[.one .str], [.one .str], [.t 2],
 .seq (.reg [.op ⟨0, some 2, .mv (.c (.one (.str []))), none⟩])
 (.seq (.seq (.reg [.op ⟨0, some 3, .mv (.t 0), none⟩,
  .op ⟨1, some 4, .lens (.t 3), none⟩,
  .op ⟨2, some 5, .bin .gtr (.t 4) (.c (.one (.int .i64 70))), none⟩])
 (.cond (.t 5) (.seq (.reg [.op ⟨0, some 6, .mv (.t 0), none⟩,
  .op ⟨1, some 7, .slstr (.t 6) none (some (.c (.one (.int .i64 70)))), none⟩,
  .op ⟨2, some 2, .mv (.t 7), none⟩])
 (.ret)) (.skip)))
 (.seq (.reg [.op ⟨0, some 8, .mv (.t 0), none⟩,
  .op ⟨1, some 2, .mv (.t 8), none⟩])
 (.ret)))⟩
noncomputable def law13_few.on (x0 : Bytes) (H : Heap) : Option (Bytes × Unit) :=
 cond (decide (70 < (List.length (x0 : Bytes) : Int))) (
 (subS x0 0 70).bind fun (s1 : Bytes) =>
 some (s1, ())) (
 some (x0, ()))
noncomputable def law13_few (x0 : Bytes) : Option (Bytes × Unit) := law13_few.on x0 []
noncomputable def law13_few.c : Callee := .pure [.one .str] [.one .str] (fun x => law13_few x.1)
noncomputable def law13_few.calls : Nat → Option Callee
  | _ => none
theorem law13_few.eq : evPure law13_few.calls law13_few.af = (fun x H => law13_few.on x.1 H) := by kernel_rfl

/-! ### tinderbox/tinderboxlaw13.WriteReads -/
def law13_WriteReads.af : AFun := ⟨[.agg [.int .i64, .int .i64, .int .i64], .one (.sl 1), .one (.sl 3)], [.one .bool], [.t 6],
 .seq (.reg [.op ⟨0, some 3, .box (.t 0), none⟩,
  .op ⟨1, some 6, .mv (.c (.one (.bool false))), none⟩])
 (.seq (.reg [.op ⟨0, some 27, .load (.agg [.int .i64, .int .i64, .int .i64]) (.t 3), none⟩,
  .op ⟨1, some 28, .mv (.t 1), none⟩,
  .op ⟨2, some 29, .build [.sl 3 Sl.nil, .sl 1 Sl.nil, .sl 1 Sl.nil] [(1, 1, (.t 28))], none⟩,
  .op ⟨3, some 30, .call 0 [(.t 27), (.t 29)], none⟩,
  .op ⟨4, some 26, .mv (.t 30), none⟩,
  .op ⟨5, some 31, .ext (.t 26) 0, none⟩,
  .op ⟨6, some 32, .ext (.t 26) 1, none⟩,
  .op ⟨7, some 33, .ext (.t 26) 2, none⟩,
  .op ⟨8, some 7, .mv (.t 31), none⟩,
  .op ⟨9, some 8, .mv (.t 32), none⟩,
  .op ⟨10, some 9, .mv (.t 33), none⟩])
 (.seq (.seq (.reg [.op ⟨0, some 34, .call 1 [], none⟩,
  .op ⟨1, some 35, .un .not (.t 34), none⟩,
  .op ⟨2, some 36, .mv (.t 35), none⟩,
  .op ⟨3, some 37, .mv (.t 9), some (36, false)⟩,
  .op ⟨4, some 38, .un .not (.t 37), some (36, false)⟩,
  .op ⟨5, some 39, .pick (.t 36) (.c (.one (.bool true))) (.t 38), none⟩])
 (.cond (.t 39) (.seq (.reg [.op ⟨0, some 6, .mv (.c (.one (.bool false))), none⟩])
 (.ret)) (.skip)))
 (.seq (.reg [.op ⟨0, some 40, .mv (.t 7), none⟩,
  .op ⟨1, some 41, .call 2 [(.t 40)], none⟩,
  .op ⟨2, some 10, .new [.int .i64 0, .int .i64 0, .int .i64 0], none⟩,
  .op ⟨3, none, .store 3 (.t 10) (.t 41), none⟩])
 (.seq (.reg [.op ⟨0, some 42, .addr 0 (.t 10), none⟩,
  .op ⟨1, some 43, .load (.one (.int .i64)) (.t 42), none⟩,
  .op ⟨2, some 44, .addr 1 (.t 10), none⟩,
  .op ⟨3, some 45, .load (.one (.int .i64)) (.t 44), none⟩,
  .op ⟨4, some 46, .bin .mul (.t 43) (.t 45), none⟩,
  .op ⟨5, some 47, .mk 1 16 [.str []] (.t 46) (.t 46), none⟩,
  .op ⟨6, some 48, .addr 0 (.t 10), none⟩,
  .op ⟨7, some 49, .load (.one (.int .i64)) (.t 48), none⟩,
  .op ⟨8, some 50, .addr 1 (.t 10), none⟩,
  .op ⟨9, some 51, .load (.one (.int .i64)) (.t 50), none⟩,
  .op ⟨10, some 52, .bin .mul (.t 49) (.t 51), none⟩,
  .op ⟨11, some 53, .mk 1 1 [.bool false] (.t 52) (.t 52), none⟩,
  .op ⟨12, some 11, .mv (.t 47), none⟩,
  .op ⟨13, some 12, .mv (.t 53), none⟩])
 (.seq (.seq (.reg [.op ⟨0, some 13, .mv (.c (.one (.int .i64 0))), none⟩])
 (.block 0 (.loop [(13, .one (.int .i64))] [(.exit 0, []), (.ret, [(6, .one .bool)])] (.seq (.seq (.reg [.op ⟨0, some 54, .mv (.t 13), none⟩,
  .op ⟨1, some 55, .mv (.t 2), none⟩,
  .op ⟨2, some 56, .len (.t 55), none⟩,
  .op ⟨3, some 57, .bin .lss (.t 54) (.t 56), none⟩,
  .op ⟨4, some 58, .mv (.t 57), none⟩,
  .op ⟨5, some 59, .mv (.t 13), some (58, true)⟩,
  .op ⟨6, some 60, .bin .lss (.t 59) (.c (.one (.int .i64 80))), some (58, true)⟩,
  .op ⟨7, some 61, .pick (.t 58) (.t 60) (.c (.one (.bool false))), none⟩])
 (.cond (.t 61) (.skip) (.exit 0)))
 (.seq (.block 1 (.seq (.reg [.op ⟨0, some 64, .mv (.t 2), none⟩,
  .op ⟨1, some 65, .mv (.t 13), none⟩,
  .op ⟨2, some 66, .idxa 3 (.t 64) (.t 65), none⟩,
  .op ⟨3, some 67, .addr 2 (.t 66), none⟩,
  .op ⟨4, some 68, .load (.one .str) (.t 67), none⟩,
  .op ⟨5, some 69, .call 3 [(.t 68)], none⟩,
  .op ⟨6, some 14, .mv (.t 69), none⟩])
 (.seq (.reg [.op ⟨0, some 70, .mv (.t 2), none⟩,
  .op ⟨1, some 71, .mv (.t 13), none⟩,
  .op ⟨2, some 72, .idxa 3 (.t 70) (.t 71), none⟩,
  .op ⟨3, some 73, .addr 1 (.t 72), none⟩,
  .op ⟨4, some 74, .load (.one (.int .i64)) (.t 73), none⟩,
  .op ⟨5, some 75, .addr 0 (.t 10), none⟩,
  .op ⟨6, some 76, .load (.one (.int .i64)) (.t 75), none⟩,
  .op ⟨7, some 77, .bin .rem (.t 74) (.t 76), none⟩,
  .op ⟨8, some 78, .addr 0 (.t 10), none⟩,
  .op ⟨9, some 79, .load (.one (.int .i64)) (.t 78), none⟩,
  .op ⟨10, some 80, .bin .add (.t 77) (.t 79), none⟩,
  .op ⟨11, some 81, .addr 0 (.t 10), none⟩,
  .op ⟨12, some 82, .load (.one (.int .i64)) (.t 81), none⟩,
  .op ⟨13, some 83, .bin .rem (.t 80) (.t 82), none⟩,
  .op ⟨14, some 15, .mv (.t 83), none⟩])
 (.seq (.scope [(.normal, []), (.exit 1, []), (.ret, [(6, .one .bool)])] (.seq (.reg [.op ⟨0, some 84, .mv (.t 2), none⟩,
  .op ⟨1, some 85, .mv (.t 13), none⟩,
  .op ⟨2, some 86, .idxa 3 (.t 84) (.t 85), none⟩,
  .op ⟨3, some 87, .addr 0 (.t 86), none⟩,
  .op ⟨4, some 88, .load (.one (.int .i64)) (.t 87), none⟩])
 (.block 2 (.seq (.reg [.op ⟨0, some 132, .bin .eql (.t 88) (.c (.one (.int .i64 4))), none⟩,
  .op ⟨1, some 131, .mv (.t 132), none⟩])
 (.cond (.t 131) (.seq (.seq (.reg [.op ⟨0, some 133, .mv (.t 8), none⟩,
  .op ⟨1, some 134, .call 4 [(.t 133)], none⟩,
  .op ⟨2, some 135, .mv (.t 15), none⟩,
  .op ⟨3, some 136, .call 5 [(.t 134), (.t 135)], none⟩,
  .op ⟨4, some 137, .bin .eql (.t 136) (.c (.one (.int .i64 3))), none⟩])
 (.cond (.t 137) (.exit 1) (.skip)))
 (.seq (.seq (.reg [.op ⟨0, some 138, .mv (.t 8), none⟩,
  .op ⟨1, some 139, .mv (.t 15), none⟩,
  .op ⟨2, some 140, .call 6 [(.t 138), (.t 139)], none⟩,
  .op ⟨3, some 141, .bin .neq (.t 140) (.c (.one (.int .i64 0))), none⟩])
 (.cond (.t 141) (.seq (.reg [.op ⟨0, some 6, .mv (.c (.one (.bool false))), none⟩])
 (.ret)) (.skip)))
 (.seq (.reg [.op ⟨0, some 16, .mv (.c (.one (.int .i64 0))), none⟩])
 (.block 3 (.loop [(16, .one (.int .i64))] [(.exit 3, [])] (.seq (.seq (.reg [.op ⟨0, some 142, .mv (.t 16), none⟩,
  .op ⟨1, some 143, .addr 1 (.t 10), none⟩,
  .op ⟨2, some 144, .load (.one (.int .i64)) (.t 143), none⟩,
  .op ⟨3, some 145, .bin .lss (.t 142) (.t 144), none⟩,
  .op ⟨4, some 146, .mv (.t 145), none⟩,
  .op ⟨5, some 147, .mv (.t 8), some (146, true)⟩,
  .op ⟨6, some 148, .call 4 [(.t 147)], some (146, true)⟩,
  .op ⟨7, some 149, .mv (.t 15), some (146, true)⟩,
  .op ⟨8, some 150, .call 5 [(.t 148), (.t 149)], some (146, true)⟩,
  .op ⟨9, some 151, .bin .eql (.t 150) (.c (.one (.int .i64 0))), some (146, true)⟩,
  .op ⟨10, some 152, .pick (.t 146) (.t 151) (.c (.one (.bool false))), none⟩])
 (.cond (.t 152) (.skip) (.exit 3)))
 (.seq (.block 4 (.reg [.op ⟨0, some 155, .mv (.t 12), none⟩,
  .op ⟨1, some 156, .mv (.t 15), none⟩,
  .op ⟨2, some 157, .addr 1 (.t 10), none⟩,
  .op ⟨3, some 158, .load (.one (.int .i64)) (.t 157), none⟩,
  .op ⟨4, some 159, .bin .mul (.t 156) (.t 158), none⟩,
  .op ⟨5, some 160, .mv (.t 16), none⟩,
  .op ⟨6, some 161, .bin .add (.t 159) (.t 160), none⟩,
  .op ⟨7, some 162, .idxa 1 (.t 155) (.t 161), none⟩,
  .op ⟨8, none, .store 1 (.t 162) (.c (.one (.bool false))), none⟩]))
 (.reg [.op ⟨0, some 153, .mv (.t 16), none⟩,
  .op ⟨1, some 154, .bin .add (.t 153) (.c (.one (.int .i64 1))), none⟩,
  .op ⟨2, some 16, .mv (.t 154), none⟩])))))))) (.seq (.reg [.op ⟨0, some 164, .bin .eql (.t 88) (.c (.one (.int .i64 5))), none⟩,
  .op ⟨1, some 163, .mv (.t 164), none⟩])
 (.cond (.t 163) (.seq (.reg [.op ⟨0, some 166, .mv (.t 8), none⟩,
  .op ⟨1, some 167, .call 4 [(.t 166)], none⟩,
  .op ⟨2, some 168, .call 7 [(.t 167)], none⟩,
  .op ⟨3, some 165, .mv (.t 168), none⟩,
  .op ⟨4, some 169, .ext (.t 165) 0, none⟩,
  .op ⟨5, some 170, .ext (.t 165) 1, none⟩,
  .op ⟨6, some 171, .ext (.t 165) 2, none⟩,
  .op ⟨7, some 17, .mv (.t 169), none⟩,
  .op ⟨8, some 18, .mv (.t 170), none⟩,
  .op ⟨9, some 19, .mv (.t 171), none⟩])
 (.seq (.reg [.op ⟨0, some 172, .mv (.t 19), none⟩])
 (.cond (.t 172) (.reg [.op ⟨0, some 173, .mv (.t 8), none⟩,
  .op ⟨1, some 174, .call 4 [(.t 173)], none⟩,
  .op ⟨2, some 175, .mv (.t 17), none⟩,
  .op ⟨3, some 176, .call 8 [(.t 174), (.t 175)], none⟩]) (.skip)))) (.seq (.reg [.op ⟨0, some 90, .mv (.t 8), none⟩,
  .op ⟨1, some 91, .mv (.t 13), none⟩,
  .op ⟨2, some 92, .call 9 [(.t 91)], none⟩,
  .op ⟨3, some 93, .mv (.t 14), none⟩,
  .op ⟨4, some 94, .call 10 [(.t 90), (.t 92), (.t 93)], none⟩,
  .op ⟨5, some 89, .mv (.t 94), none⟩,
  .op ⟨6, some 95, .ext (.t 89) 0, none⟩,
  .op ⟨7, some 96, .ext (.t 89) 1, none⟩,
  .op ⟨8, some 20, .mv (.t 95), none⟩,
  .op ⟨9, some 21, .mv (.t 96), none⟩])
 (.seq (.seq (.reg [.op ⟨0, some 97, .mv (.t 14), none⟩,
  .op ⟨1, some 98, .lens (.t 97), none⟩,
  .op ⟨2, some 99, .addr 2 (.t 10), none⟩,
  .op ⟨3, some 100, .load (.one (.int .i64)) (.t 99), none⟩,
  .op ⟨4, some 101, .bin .gtr (.t 98) (.t 100), none⟩])
 (.cond (.t 101) (.seq (.seq (.reg [.op ⟨0, some 102, .mv (.t 21), none⟩,
  .op ⟨1, some 103, .bin .neq (.t 102) (.c (.one (.int .i64 1))), none⟩])
 (.cond (.t 103) (.seq (.reg [.op ⟨0, some 6, .mv (.c (.one (.bool false))), none⟩])
 (.ret)) (.skip)))
 (.exit 1)) (.skip)))
 (.seq (.seq (.reg [.op ⟨0, some 104, .mv (.t 21), none⟩,
  .op ⟨1, some 105, .bin .eql (.t 104) (.c (.one (.int .i64 130))), none⟩])
 (.cond (.t 105) (.exit 1) (.skip)))
 (.seq (.seq (.reg [.op ⟨0, some 106, .mv (.t 21), none⟩,
  .op ⟨1, some 107, .bin .neq (.t 106) (.c (.one (.int .i64 0))), none⟩,
  .op ⟨2, some 108, .mv (.t 107), none⟩,
  .op ⟨3, some 109, .mv (.t 20), some (108, false)⟩,
  .op ⟨4, some 110, .bin .lss (.t 109) (.c (.one (.int .i64 0))), some (108, false)⟩,
  .op ⟨5, some 111, .pick (.t 108) (.c (.one (.bool true))) (.t 110), none⟩,
  .op ⟨6, some 112, .mv (.t 111), none⟩,
  .op ⟨7, some 113, .mv (.t 20), some (112, false)⟩,
  .op ⟨8, some 114, .mv (.t 12), some (112, false)⟩,
  .op ⟨9, some 115, .len (.t 114), some (112, false)⟩,
  .op ⟨10, some 116, .bin .geq (.t 113) (.t 115), some (112, false)⟩,
  .op ⟨11, some 117, .pick (.t 112) (.c (.one (.bool true))) (.t 116), none⟩,
  .op ⟨12, some 118, .mv (.t 117), none⟩,
  .op ⟨13, some 119, .mv (.t 12), some (118, false)⟩,
  .op ⟨14, some 120, .mv (.t 20), some (118, false)⟩,
  .op ⟨15, some 121, .idxa 1 (.t 119) (.t 120), some (118, false)⟩,
  .op ⟨16, some 122, .load (.one .bool) (.t 121), some (118, false)⟩,
  .op ⟨17, some 123, .pick (.t 118) (.c (.one (.bool true))) (.t 122), none⟩])
 (.cond (.t 123) (.seq (.reg [.op ⟨0, some 6, .mv (.c (.one (.bool false))), none⟩])
 (.ret)) (.skip)))
 (.reg [.op ⟨0, some 124, .mv (.t 11), none⟩,
  .op ⟨1, some 125, .mv (.t 20), none⟩,
  .op ⟨2, some 126, .mv (.t 12), none⟩,
  .op ⟨3, some 127, .mv (.t 20), none⟩,
  .op ⟨4, some 128, .mv (.t 14), none⟩,
  .op ⟨5, some 129, .idxa 1 (.t 124) (.t 125), none⟩,
  .op ⟨6, none, .store 1 (.t 129) (.t 128), none⟩,
  .op ⟨7, some 130, .idxa 1 (.t 126) (.t 127), none⟩,
  .op ⟨8, none, .store 1 (.t 130) (.c (.one (.bool true))), none⟩]))))))))))))
 (.seq (.reg [.op ⟨0, some 22, .mv (.c (.one (.int .i64 0))), none⟩])
 (.block 5 (.loop [(22, .one (.int .i64))] [(.exit 5, []), (.ret, [(6, .one .bool)])] (.seq (.seq (.reg [.op ⟨0, some 177, .mv (.t 22), none⟩,
  .op ⟨1, some 178, .mv (.t 12), none⟩,
  .op ⟨2, some 179, .len (.t 178), none⟩,
  .op ⟨3, some 180, .bin .lss (.t 177) (.t 179), none⟩])
 (.cond (.t 180) (.skip) (.exit 5)))
 (.seq (.block 6 (.seq (.seq (.reg [.op ⟨0, some 183, .mv (.t 12), none⟩,
  .op ⟨1, some 184, .mv (.t 22), none⟩,
  .op ⟨2, some 185, .idxa 1 (.t 183) (.t 184), none⟩,
  .op ⟨3, some 186, .load (.one .bool) (.t 185), none⟩,
  .op ⟨4, some 187, .un .not (.t 186), none⟩])
 (.cond (.t 187) (.exit 6) (.skip)))
 (.seq (.reg [.op ⟨0, some 189, .mv (.t 8), none⟩,
  .op ⟨1, some 190, .mv (.t 22), none⟩,
  .op ⟨2, some 191, .call 11 [(.t 189), (.t 190)], none⟩,
  .op ⟨3, some 188, .mv (.t 191), none⟩,
  .op ⟨4, some 192, .ext (.t 188) 0, none⟩,
  .op ⟨5, some 193, .ext (.t 188) 1, none⟩,
  .op ⟨6, some 194, .ext (.t 188) 2, none⟩,
  .op ⟨7, some 23, .new [.int .i64 0, .int .u64 0, .int .i64 0, .int .i64 0, .int .i64 0], none⟩,
  .op ⟨8, none, .store 5 (.t 23) (.t 192), none⟩,
  .op ⟨9, some 24, .mv (.t 193), none⟩,
  .op ⟨10, some 25, .mv (.t 194), none⟩])
 (.seq (.reg [.op ⟨0, some 195, .mv (.t 25), none⟩,
  .op ⟨1, some 196, .bin .neq (.t 195) (.c (.one (.int .i64 0))), none⟩,
  .op ⟨2, some 197, .mv (.t 196), none⟩,
  .op ⟨3, some 198, .mv (.t 24), some (197, false)⟩,
  .op ⟨4, some 199, .mv (.t 11), some (197, false)⟩,
  .op ⟨5, some 200, .mv (.t 22), some (197, false)⟩,
  .op ⟨6, some 201, .idxa 1 (.t 199) (.t 200), some (197, false)⟩,
  .op ⟨7, some 202, .load (.one .str) (.t 201), some (197, false)⟩,
  .op ⟨8, some 203, .bin .neq (.t 198) (.t 202), some (197, false)⟩,
  .op ⟨9, some 204, .pick (.t 197) (.c (.one (.bool true))) (.t 203), none⟩])
 (.cond (.t 204) (.seq (.reg [.op ⟨0, some 6, .mv (.c (.one (.bool false))), none⟩])
 (.ret)) (.skip))))))
 (.reg [.op ⟨0, some 181, .mv (.t 22), none⟩,
  .op ⟨1, some 182, .bin .add (.t 181) (.c (.one (.int .i64 1))), none⟩,
  .op ⟨2, some 22, .mv (.t 182), none⟩]))))))))))
 (.reg [.op ⟨0, some 62, .mv (.t 13), none⟩,
  .op ⟨1, some 63, .bin .add (.t 62) (.c (.one (.int .i64 1))), none⟩,
  .op ⟨2, some 13, .mv (.t 63), none⟩]))))))
 (.seq (.reg [.op ⟨0, some 6, .mv (.c (.one (.bool true))), none⟩])
 (.ret)))))))⟩
noncomputable def law13_WriteReads.s1 (r3 : ((Ptr × Ptr × Bool × Unit) × Heap)) (r5 : (((Int × Int × Int × Unit) × Unit) × Heap)) (p15 : (Sl × Heap)) (v22 : Int) (v23 : Int) (v24 : Int) (v25 : Int) (s31 : (Int × Unit)) (H32 : Heap) : Option (((Int × Unit) ⊕ (Unit)) × Heap) :=
 (rdI .i64 H32 r5.2.length 1).bind fun (v33 : Int) =>
 cond (decide (s31.1 < v33)) (
 (write_Writer_Life r3.1.2.1 H32).bind fun (r34 : ((Ptr × Unit) × Heap)) =>
 (life_Life_Is r34.1.1 (Int.tmod (IntKind.wrap .i64 ((Int.tmod v22 v23) + v24)) v25) r34.2).bind fun (r35 : ((Int × Unit) × Heap)) =>
 cond (decide (r35.1.1 = 0)) (
 (rdI .i64 r35.2 r5.2.length 1).bind fun (v36 : Int) =>
 (Sl.at 1 p15.1 (IntKind.wrap .i64 ((IntKind.wrap .i64 ((Int.tmod (IntKind.wrap .i64 ((Int.tmod v22 v23) + v24)) v25) * v36)) + s31.1))).bind fun (a37 : (Nat × Nat)) =>
 (wr r35.2 a37.1 a37.2 [.bool false]).bind fun (H38 : Heap) =>
 some (Sum.inl ((IntKind.wrap .i64 (s31.1 + 1)), ()), H38)) (
 some (Sum.inr (()), r35.2))) (
 some (Sum.inr (()), H32))
noncomputable def law13_WriteReads.s2 (r3 : ((Ptr × Ptr × Bool × Unit) × Heap)) (p11 : (Sl × Heap)) (p15 : (Sl × Heap)) (s55 : (Int × Unit)) (H56 : Heap) : Option (((Int × Unit) ⊕ ((Unit) ⊕ (Bool × Unit))) × Heap) :=
 cond (decide (s55.1 < (p15.1.len : Int))) (
 (Sl.at 1 p15.1 s55.1).bind fun (a57 : (Nat × Nat)) =>
 (rdB H56 a57.1 a57.2).bind fun (v58 : Bool) =>
 cond (!v58) (
 some (Sum.inl ((IntKind.wrap .i64 (s55.1 + 1)), ()), H56)) (
 (write_Writer_Read r3.1.2.1 s55.1 H56).bind fun (r59 : (((Int × Int × Int × Int × Int × Unit) × Bytes × Int × Unit) × Heap)) =>
 let H60 : Heap := r59.2 ++ [Blk.cells [.int .i64 0, .int .u64 0, .int .i64 0, .int .i64 0, .int .i64 0] .exact]
 (wr H60 r59.2.length 0 [.int .i64 r59.1.1.1, .int .u64 r59.1.1.2.1, .int .i64 r59.1.1.2.2.1, .int .i64 r59.1.1.2.2.2.1, .int .i64 r59.1.1.2.2.2.2.1]).bind fun (H61 : Heap) =>
 cond (!decide (r59.1.2.2.1 = 0)) (
 some (Sum.inr (Sum.inr (false, ())), H61)) (
 (Sl.at 1 p11.1 s55.1).bind fun (a62 : (Nat × Nat)) =>
 (rdS H61 a62.1 a62.2).bind fun (v63 : Bytes) =>
 cond (!decide ((r59.1.2.1 : Bytes) = v63)) (
 some (Sum.inr (Sum.inr (false, ())), H61)) (
 some (Sum.inl ((IntKind.wrap .i64 (s55.1 + 1)), ()), H61))))) (
 some (Sum.inr (Sum.inl (())), H56))
noncomputable def law13_WriteReads.s3 (x2 : Sl) (r3 : ((Ptr × Ptr × Bool × Unit) × Heap)) (r5 : (((Int × Int × Int × Unit) × Unit) × Heap)) (p11 : (Sl × Heap)) (p15 : (Sl × Heap)) (s16 : (Int × Unit)) (H17 : Heap) : Option (((Int × Unit) ⊕ ((Unit) ⊕ (Bool × Unit))) × Heap) :=
 cond (decide (s16.1 < (x2.len : Int))) (
 cond (decide (s16.1 < 80)) (
 (Sl.at 3 x2 s16.1).bind fun (a18 : (Nat × Nat)) =>
 (rdS H17 a18.1 (a18.2 + 2)).bind fun (v19 : Bytes) =>
 (law13_few v19).bind fun (r20 : (Bytes × Unit)) =>
 (Sl.at 3 x2 s16.1).bind fun (a21 : (Nat × Nat)) =>
 (rdI .i64 H17 a21.1 (a21.2 + 1)).bind fun (v22 : Int) =>
 (rdI .i64 H17 r5.2.length 0).bind fun (v23 : Int) =>
 cond (decide (v23 = 0)) none (
 (rdI .i64 H17 r5.2.length 0).bind fun (v24 : Int) =>
 (rdI .i64 H17 r5.2.length 0).bind fun (v25 : Int) =>
 cond (decide (v25 = 0)) none (
 ((Sl.at 3 x2 s16.1).bind fun (a26 : (Nat × Nat)) =>
 (rdI .i64 H17 a26.1 a26.2).bind fun (v27 : Int) =>
 cond (decide (v27 = 4)) (
 (write_Writer_Life r3.1.2.1 H17).bind fun (r28 : ((Ptr × Unit) × Heap)) =>
 (life_Life_Is r28.1.1 (Int.tmod (IntKind.wrap .i64 ((Int.tmod v22 v23) + v24)) v25) r28.2).bind fun (r29 : ((Int × Unit) × Heap)) =>
 cond (decide (r29.1.1 = 3)) (
 some (Sum.inr (Sum.inl (())), r29.2)) (
 (write_Writer_Erase r3.1.2.1 (Int.tmod (IntKind.wrap .i64 ((Int.tmod v22 v23) + v24)) v25) r29.2).bind fun (r30 : ((Int × Unit) × Heap)) =>
 cond (!decide (r30.1.1 = 0)) (
 some (Sum.inr (Sum.inr (false, ())), r30.2)) (
 (loopW (law13_WriteReads.s1 r3 r5 p15 v22 v23 v24 v25) (0, ()) r30.2).bind fun (p39 : (Unit) × Heap) =>
 some (Sum.inl (()), p39.2)))) (
 cond (decide (v27 = 5)) (
 (write_Writer_Life r3.1.2.1 H17).bind fun (r40 : ((Ptr × Unit) × Heap)) =>
 (life_Life_At r40.1.1 r40.2).bind fun (r41 : ((Int × Int × Bool × Unit) × Heap)) =>
 cond r41.1.2.2.1 (
 (write_Writer_Life r3.1.2.1 r41.2).bind fun (r42 : ((Ptr × Unit) × Heap)) =>
 (life_Life_Full r42.1.1 r41.1.1 r42.2).bind fun (r43 : ((Bool × Unit) × Heap)) =>
 some (Sum.inl (()), r43.2)) (
 some (Sum.inl (()), r41.2))) (
 (law13_tag s16.1).bind fun (r44 : ((Int × Int × Int × Int × Int × Unit) × Unit)) =>
 (write_Writer_Append r3.1.2.1 (r44.1.1, r44.1.2.1, r44.1.2.2.1, r44.1.2.2.2.1, r44.1.2.2.2.2.1, ()) r20.1 H17).bind fun (r45 : ((Int × Int × Unit) × Heap)) =>
 (rdI .i64 r45.2 r5.2.length 2).bind fun (v46 : Int) =>
 cond (decide (v46 < (List.length (r20.1 : Bytes) : Int))) (
 cond (!decide (r45.1.2.1 = 1)) (
 some (Sum.inr (Sum.inr (false, ())), r45.2)) (
 some (Sum.inr (Sum.inl (())), r45.2))) (
 cond (decide (r45.1.2.1 = 130)) (
 some (Sum.inr (Sum.inl (())), r45.2)) (
 cond (!decide (r45.1.2.1 = 0)) (
 some (Sum.inr (Sum.inr (false, ())), r45.2)) (
 cond (decide (r45.1.1 < 0)) (
 some (Sum.inr (Sum.inr (false, ())), r45.2)) (
 cond (decide ((p15.1.len : Int) ≤ r45.1.1)) (
 some (Sum.inr (Sum.inr (false, ())), r45.2)) (
 (Sl.at 1 p15.1 r45.1.1).bind fun (a47 : (Nat × Nat)) =>
 (rdB r45.2 a47.1 a47.2).bind fun (v48 : Bool) =>
 cond v48 (
 some (Sum.inr (Sum.inr (false, ())), r45.2)) (
 (Sl.at 1 p11.1 r45.1.1).bind fun (a49 : (Nat × Nat)) =>
 (wr r45.2 a49.1 a49.2 [.str r20.1]).bind fun (H50 : Heap) =>
 (Sl.at 1 p15.1 r45.1.1).bind fun (a51 : (Nat × Nat)) =>
 (wr H50 a51.1 a51.2 [.bool true]).bind fun (H52 : Heap) =>
 some (Sum.inl (()), H52))))))))) : Option (((Unit) ⊕ ((Unit) ⊕ (Bool × Unit))) × Heap)).bind fun (p53 : ((Unit) ⊕ ((Unit) ⊕ (Bool × Unit))) × Heap) =>
 Sum.elim (fun (y54 : (Unit)) =>
 (loopW (law13_WriteReads.s2 r3 p11 p15) (0, ()) p53.2).bind fun (p64 : ((Unit) ⊕ (Bool × Unit)) × Heap) =>
 Sum.elim (fun (y65 : (Unit)) =>
 some (Sum.inl ((IntKind.wrap .i64 (s16.1 + 1)), ()), p64.2)) (fun (z66 : (Bool × Unit)) =>
 some (Sum.inr (Sum.inr (z66.1, ())), p64.2)) p64.1) (fun (z67 : ((Unit) ⊕ (Bool × Unit))) =>
 Sum.elim (fun (y68 : (Unit)) =>
 some (Sum.inl ((IntKind.wrap .i64 (s16.1 + 1)), ()), p53.2)) (fun (z69 : (Bool × Unit)) =>
 some (Sum.inr (Sum.inr (z69.1, ())), p53.2)) z67) p53.1))) (
 some (Sum.inr (Sum.inl (())), H17))) (
 some (Sum.inr (Sum.inl (())), H17))
noncomputable def law13_WriteReads (x0 : (Int × Int × Int × Unit)) (x1 : Sl) (x2 : Sl) (H : Heap) : Option ((Bool × Unit) × Heap) :=
 let H1 : Heap := H ++ [Blk.cells [.int .i64 x0.1, .int .i64 x0.2.1, .int .i64 x0.2.2.1] .exact]
 Option.bind (α := (Int × Int × Int × Unit)) (rd H1 (.agg [.int .i64, .int .i64, .int .i64]) H.length 0) fun (v2 : (Int × Int × Int × Unit)) =>
 (law13_Begun (v2.1, v2.2.1, v2.2.2.1, ()) (⟨none, 0, 0⟩, x1, ⟨none, 0, 0⟩, ()) H1).bind fun (r3 : ((Ptr × Ptr × Bool × Unit) × Heap)) =>
 (law13_awake).bind fun (r4 : (Bool × Unit)) =>
 cond (!r4.1) (
 some ((false, ()), r3.2)) (
 cond (!r3.1.2.2.1) (
 some ((false, ()), r3.2)) (
 (nand_Chip_Geometry r3.1.1 r3.2).bind fun (r5 : (((Int × Int × Int × Unit) × Unit) × Heap)) =>
 let H6 : Heap := r5.2 ++ [Blk.cells [.int .i64 0, .int .i64 0, .int .i64 0] .exact]
 (wr H6 r5.2.length 0 [.int .i64 r5.1.1.1, .int .i64 r5.1.1.2.1, .int .i64 r5.1.1.2.2.1]).bind fun (H7 : Heap) =>
 (rdI .i64 H7 r5.2.length 0).bind fun (v8 : Int) =>
 (rdI .i64 H7 r5.2.length 1).bind fun (v9 : Int) =>
 let n10 : Int := (IntKind.wrap .i64 (v8 * v9))
 (mkS H7 16 [.str []] n10 n10).bind fun (p11 : (Sl × Heap)) =>
 (rdI .i64 p11.2 r5.2.length 0).bind fun (v12 : Int) =>
 (rdI .i64 p11.2 r5.2.length 1).bind fun (v13 : Int) =>
 let n14 : Int := (IntKind.wrap .i64 (v12 * v13))
 (mkS p11.2 1 [.bool false] n14 n14).bind fun (p15 : (Sl × Heap)) =>
 (loopW (law13_WriteReads.s3 x2 r3 r5 p11 p15) (0, ()) p15.2).bind fun (p70 : ((Unit) ⊕ (Bool × Unit)) × Heap) =>
 Sum.elim (fun (y71 : (Unit)) =>
 some ((true, ()), p70.2)) (fun (z72 : (Bool × Unit)) =>
 some ((z72.1, ()), p70.2)) p70.1))
noncomputable def law13_WriteReads.c : Callee := .full [.agg [.int .i64, .int .i64, .int .i64], .one (.sl 1), .one (.sl 3)] [.one .bool] (fun x H => law13_WriteReads x.1 x.2.1 x.2.2.1 H)
noncomputable def law13_WriteReads.calls : Nat → Option Callee
  | 0 => some law13_Begun.c
  | 1 => some law13_awake.c
  | 2 => some nand_Chip_Geometry.c
  | 3 => some law13_few.c
  | 4 => some write_Writer_Life.c
  | 5 => some life_Life_Is.c
  | 6 => some write_Writer_Erase.c
  | 7 => some life_Life_At.c
  | 8 => some life_Life_Full.c
  | 9 => some law13_tag.c
  | 10 => some write_Writer_Append.c
  | 11 => some write_Writer_Read.c
  | _ => none
theorem law13_WriteReads.eq : evFull law13_WriteReads.calls law13_WriteReads.af = (fun x H => law13_WriteReads x.1 x.2.1 x.2.2.1 H) := by kernel_rfl

/-! ### tinderbox/tinderboxlaw13.WriteFull -/
def law13_WriteFull.af : AFun := ⟨[.agg [.int .i64, .int .i64, .int .i64], .one (.int .i64)], [.one .bool], [.t 4],
 .seq (.reg [.op ⟨0, some 2, .box (.t 0), none⟩,
  .op ⟨1, some 4, .mv (.c (.one (.bool false))), none⟩])
 (.seq (.reg [.op ⟨0, some 19, .load (.agg [.int .i64, .int .i64, .int .i64]) (.t 2), none⟩,
  .op ⟨1, some 20, .build [.sl 3 Sl.nil, .sl 1 Sl.nil, .sl 1 Sl.nil] [], none⟩,
  .op ⟨2, some 21, .call 0 [(.t 19), (.t 20)], none⟩,
  .op ⟨3, some 18, .mv (.t 21), none⟩,
  .op ⟨4, some 22, .ext (.t 18) 0, none⟩,
  .op ⟨5, some 23, .ext (.t 18) 1, none⟩,
  .op ⟨6, some 24, .ext (.t 18) 2, none⟩,
  .op ⟨7, some 5, .mv (.t 22), none⟩,
  .op ⟨8, some 6, .mv (.t 23), none⟩,
  .op ⟨9, some 7, .mv (.t 24), none⟩])
 (.seq (.seq (.reg [.op ⟨0, some 25, .call 1 [], none⟩,
  .op ⟨1, some 26, .un .not (.t 25), none⟩,
  .op ⟨2, some 27, .mv (.t 26), none⟩,
  .op ⟨3, some 28, .mv (.t 7), some (27, false)⟩,
  .op ⟨4, some 29, .un .not (.t 28), some (27, false)⟩,
  .op ⟨5, some 30, .pick (.t 27) (.c (.one (.bool true))) (.t 29), none⟩])
 (.cond (.t 30) (.seq (.reg [.op ⟨0, some 4, .mv (.c (.one (.bool false))), none⟩])
 (.ret)) (.skip)))
 (.seq (.reg [.op ⟨0, some 31, .mv (.t 5), none⟩,
  .op ⟨1, some 32, .call 2 [(.t 31)], none⟩,
  .op ⟨2, some 8, .new [.int .i64 0, .int .i64 0, .int .i64 0], none⟩,
  .op ⟨3, none, .store 3 (.t 8) (.t 32), none⟩])
 (.seq (.seq (.reg [.op ⟨0, some 9, .mv (.c (.one (.int .i64 0))), none⟩])
 (.block 0 (.loop [(9, .one (.int .i64))] [(.exit 0, []), (.ret, [(4, .one .bool)])] (.seq (.seq (.reg [.op ⟨0, some 33, .mv (.t 9), none⟩,
  .op ⟨1, some 34, .addr 0 (.t 8), none⟩,
  .op ⟨2, some 35, .load (.one (.int .i64)) (.t 34), none⟩,
  .op ⟨3, some 36, .addr 1 (.t 8), none⟩,
  .op ⟨4, some 37, .load (.one (.int .i64)) (.t 36), none⟩,
  .op ⟨5, some 38, .bin .mul (.t 35) (.t 37), none⟩,
  .op ⟨6, some 39, .bin .lss (.t 33) (.t 38), none⟩])
 (.cond (.t 39) (.skip) (.exit 0)))
 (.seq (.block 1 (.seq (.reg [.op ⟨0, some 43, .mv (.t 6), none⟩,
  .op ⟨1, some 44, .mv (.t 9), none⟩,
  .op ⟨2, some 45, .call 3 [(.t 44)], none⟩,
  .op ⟨3, some 46, .call 4 [(.t 43), (.t 45), (.c (.one (.str [120])))], none⟩,
  .op ⟨4, some 42, .mv (.t 46), none⟩,
  .op ⟨5, some 47, .ext (.t 42) 0, none⟩,
  .op ⟨6, some 48, .ext (.t 42) 1, none⟩,
  .op ⟨7, some 10, .mv (.t 47), none⟩,
  .op ⟨8, some 11, .mv (.t 48), none⟩])
 (.seq (.reg [.op ⟨0, some 49, .mv (.t 11), none⟩,
  .op ⟨1, some 50, .bin .neq (.t 49) (.c (.one (.int .i64 0))), none⟩])
 (.cond (.t 50) (.seq (.reg [.op ⟨0, some 4, .mv (.c (.one (.bool false))), none⟩])
 (.ret)) (.skip)))))
 (.reg [.op ⟨0, some 40, .mv (.t 9), none⟩,
  .op ⟨1, some 41, .bin .add (.t 40) (.c (.one (.int .i64 1))), none⟩,
  .op ⟨2, some 9, .mv (.t 41), none⟩]))))))
 (.seq (.reg [.op ⟨0, some 52, .mv (.t 6), none⟩,
  .op ⟨1, some 53, .call 3 [(.c (.one (.int .i64 1)))], none⟩,
  .op ⟨2, some 54, .call 4 [(.t 52), (.t 53), (.c (.one (.str [120])))], none⟩,
  .op ⟨3, some 51, .mv (.t 54), none⟩,
  .op ⟨4, some 55, .ext (.t 51) 0, none⟩,
  .op ⟨5, some 56, .ext (.t 51) 1, none⟩,
  .op ⟨6, some 12, .mv (.t 55), none⟩,
  .op ⟨7, some 13, .mv (.t 56), none⟩])
 (.seq (.reg [.op ⟨0, some 57, .mv (.t 1), none⟩,
  .op ⟨1, some 58, .addr 0 (.t 8), none⟩,
  .op ⟨2, some 59, .load (.one (.int .i64)) (.t 58), none⟩,
  .op ⟨3, some 60, .bin .rem (.t 57) (.t 59), none⟩,
  .op ⟨4, some 61, .addr 0 (.t 8), none⟩,
  .op ⟨5, some 62, .load (.one (.int .i64)) (.t 61), none⟩,
  .op ⟨6, some 63, .bin .add (.t 60) (.t 62), none⟩,
  .op ⟨7, some 64, .addr 0 (.t 8), none⟩,
  .op ⟨8, some 65, .load (.one (.int .i64)) (.t 64), none⟩,
  .op ⟨9, some 66, .bin .rem (.t 63) (.t 65), none⟩,
  .op ⟨10, some 14, .mv (.t 66), none⟩])
 (.seq (.reg [.op ⟨0, some 67, .mv (.t 6), none⟩,
  .op ⟨1, some 68, .mv (.t 14), none⟩,
  .op ⟨2, some 69, .call 5 [(.t 67), (.t 68)], none⟩,
  .op ⟨3, some 15, .mv (.t 69), none⟩])
 (.seq (.reg [.op ⟨0, some 71, .mv (.t 6), none⟩,
  .op ⟨1, some 72, .call 3 [(.c (.one (.int .i64 1)))], none⟩,
  .op ⟨2, some 73, .call 4 [(.t 71), (.t 72), (.c (.one (.str [121])))], none⟩,
  .op ⟨3, some 70, .mv (.t 73), none⟩,
  .op ⟨4, some 74, .ext (.t 70) 0, none⟩,
  .op ⟨5, some 75, .ext (.t 70) 1, none⟩,
  .op ⟨6, some 16, .mv (.t 74), none⟩,
  .op ⟨7, some 17, .mv (.t 75), none⟩])
 (.seq (.reg [.op ⟨0, some 76, .mv (.t 13), none⟩,
  .op ⟨1, some 77, .bin .eql (.t 76) (.c (.one (.int .i64 130))), none⟩,
  .op ⟨2, some 78, .mv (.t 77), none⟩,
  .op ⟨3, some 79, .mv (.t 15), some (78, true)⟩,
  .op ⟨4, some 80, .bin .eql (.t 79) (.c (.one (.int .i64 0))), some (78, true)⟩,
  .op ⟨5, some 81, .pick (.t 78) (.t 80) (.c (.one (.bool false))), none⟩,
  .op ⟨6, some 82, .mv (.t 81), none⟩,
  .op ⟨7, some 83, .mv (.t 17), some (82, true)⟩,
  .op ⟨8, some 84, .bin .eql (.t 83) (.c (.one (.int .i64 0))), some (82, true)⟩,
  .op ⟨9, some 85, .pick (.t 82) (.t 84) (.c (.one (.bool false))), none⟩,
  .op ⟨10, some 86, .mv (.t 85), none⟩,
  .op ⟨11, some 87, .mv (.t 16), some (86, true)⟩,
  .op ⟨12, some 88, .mv (.t 14), some (86, true)⟩,
  .op ⟨13, some 89, .addr 1 (.t 8), some (86, true)⟩,
  .op ⟨14, some 90, .load (.one (.int .i64)) (.t 89), some (86, true)⟩,
  .op ⟨15, some 91, .bin .mul (.t 88) (.t 90), some (86, true)⟩,
  .op ⟨16, some 92, .bin .eql (.t 87) (.t 91), some (86, true)⟩,
  .op ⟨17, some 93, .pick (.t 86) (.t 92) (.c (.one (.bool false))), none⟩,
  .op ⟨18, some 4, .mv (.t 93), none⟩])
 (.ret))))))))))⟩
noncomputable def law13_WriteFull.s1 (r3 : ((Ptr × Ptr × Bool × Unit) × Heap)) (r5 : (((Int × Int × Int × Unit) × Unit) × Heap)) (s8 : (Int × Unit)) (H9 : Heap) : Option (((Int × Unit) ⊕ ((Unit) ⊕ (Bool × Unit))) × Heap) :=
 (rdI .i64 H9 r5.2.length 0).bind fun (v10 : Int) =>
 (rdI .i64 H9 r5.2.length 1).bind fun (v11 : Int) =>
 cond (decide (s8.1 < (IntKind.wrap .i64 (v10 * v11)))) (
 (law13_tag s8.1).bind fun (r12 : ((Int × Int × Int × Int × Int × Unit) × Unit)) =>
 (write_Writer_Append r3.1.2.1 (r12.1.1, r12.1.2.1, r12.1.2.2.1, r12.1.2.2.2.1, r12.1.2.2.2.2.1, ()) [120] H9).bind fun (r13 : ((Int × Int × Unit) × Heap)) =>
 cond (!decide (r13.1.2.1 = 0)) (
 some (Sum.inr (Sum.inr (false, ())), r13.2)) (
 some (Sum.inl ((IntKind.wrap .i64 (s8.1 + 1)), ()), r13.2))) (
 some (Sum.inr (Sum.inl (())), H9))
noncomputable def law13_WriteFull.on (x0 : (Int × Int × Int × Unit)) (x1 : Int) (H : Heap) : Option (Bool × Unit) :=
 let H1 : Heap := H ++ [Blk.cells [.int .i64 x0.1, .int .i64 x0.2.1, .int .i64 x0.2.2.1] .exact]
 Option.bind (α := (Int × Int × Int × Unit)) (rd H1 (.agg [.int .i64, .int .i64, .int .i64]) H.length 0) fun (v2 : (Int × Int × Int × Unit)) =>
 (law13_Begun (v2.1, v2.2.1, v2.2.2.1, ()) (⟨none, 0, 0⟩, ⟨none, 0, 0⟩, ⟨none, 0, 0⟩, ()) H1).bind fun (r3 : ((Ptr × Ptr × Bool × Unit) × Heap)) =>
 (law13_awake).bind fun (r4 : (Bool × Unit)) =>
 cond (!r4.1) (
 some (false, ())) (
 cond (!r3.1.2.2.1) (
 some (false, ())) (
 (nand_Chip_Geometry r3.1.1 r3.2).bind fun (r5 : (((Int × Int × Int × Unit) × Unit) × Heap)) =>
 let H6 : Heap := r5.2 ++ [Blk.cells [.int .i64 0, .int .i64 0, .int .i64 0] .exact]
 (wr H6 r5.2.length 0 [.int .i64 r5.1.1.1, .int .i64 r5.1.1.2.1, .int .i64 r5.1.1.2.2.1]).bind fun (H7 : Heap) =>
 (loopW (law13_WriteFull.s1 r3 r5) (0, ()) H7).bind fun (p14 : ((Unit) ⊕ (Bool × Unit)) × Heap) =>
 Sum.elim (fun (y15 : (Unit)) =>
 (law13_tag 1).bind fun (r16 : ((Int × Int × Int × Int × Int × Unit) × Unit)) =>
 (write_Writer_Append r3.1.2.1 (r16.1.1, r16.1.2.1, r16.1.2.2.1, r16.1.2.2.2.1, r16.1.2.2.2.2.1, ()) [120] p14.2).bind fun (r17 : ((Int × Int × Unit) × Heap)) =>
 (rdI .i64 r17.2 r5.2.length 0).bind fun (v18 : Int) =>
 cond (decide (v18 = 0)) none (
 (rdI .i64 r17.2 r5.2.length 0).bind fun (v19 : Int) =>
 (rdI .i64 r17.2 r5.2.length 0).bind fun (v20 : Int) =>
 cond (decide (v20 = 0)) none (
 (write_Writer_Erase r3.1.2.1 (Int.tmod (IntKind.wrap .i64 ((Int.tmod x1 v18) + v19)) v20) r17.2).bind fun (r21 : ((Int × Unit) × Heap)) =>
 (law13_tag 1).bind fun (r22 : ((Int × Int × Int × Int × Int × Unit) × Unit)) =>
 (write_Writer_Append r3.1.2.1 (r22.1.1, r22.1.2.1, r22.1.2.2.1, r22.1.2.2.2.1, r22.1.2.2.2.2.1, ()) [121] r21.2).bind fun (r23 : ((Int × Int × Unit) × Heap)) =>
 cond (decide (r17.1.2.1 = 130)) (
 cond (decide (r21.1.1 = 0)) (
 cond (decide (r23.1.2.1 = 0)) (
 (rdI .i64 r23.2 r5.2.length 1).bind fun (v24 : Int) =>
 some ((decide (r23.1.1 = (IntKind.wrap .i64 ((Int.tmod (IntKind.wrap .i64 ((Int.tmod x1 v18) + v19)) v20) * v24)))), ())) (
 some (false, ()))) (
 some (false, ()))) (
 some (false, ()))))) (fun (z25 : (Bool × Unit)) =>
 some (z25.1, ())) p14.1))
noncomputable def law13_WriteFull (x0 : (Int × Int × Int × Unit)) (x1 : Int) : Option (Bool × Unit) := law13_WriteFull.on x0 x1 []
noncomputable def law13_WriteFull.c : Callee := .pure [.agg [.int .i64, .int .i64, .int .i64], .one (.int .i64)] [.one .bool] (fun x => law13_WriteFull x.1 x.2.1)
noncomputable def law13_WriteFull.calls : Nat → Option Callee
  | 0 => some law13_Begun.c
  | 1 => some law13_awake.c
  | 2 => some nand_Chip_Geometry.c
  | 3 => some law13_tag.c
  | 4 => some write_Writer_Append.c
  | 5 => some write_Writer_Erase.c
  | _ => none
theorem law13_WriteFull.eq : evPure law13_WriteFull.calls law13_WriteFull.af = (fun x H => law13_WriteFull.on x.1 x.2.1 H) := by kernel_rfl

/-! ### tinderbox/tinderboxlaw13.WriteNone -/
def law13_WriteNone.af : AFun := ⟨[.agg [.int .i64, .int .i64, .int .i64], .one (.int .i64)], [.one .bool], [.t 4],
 .seq (.reg [.op ⟨0, some 2, .box (.t 0), none⟩,
  .op ⟨1, some 4, .mv (.c (.one (.bool false))), none⟩])
 (.seq (.reg [.op ⟨0, some 5, .mv (.c (.one (.ptr none))), none⟩])
 (.seq (.reg [.op ⟨0, some 23, .load (.agg [.int .i64, .int .i64, .int .i64]) (.t 2), none⟩,
  .op ⟨1, some 24, .build [.sl 3 Sl.nil, .sl 1 Sl.nil, .sl 1 Sl.nil] [], none⟩,
  .op ⟨2, some 25, .call 0 [(.t 23), (.t 24)], none⟩,
  .op ⟨3, some 22, .mv (.t 25), none⟩,
  .op ⟨4, some 26, .ext (.t 22) 0, none⟩,
  .op ⟨5, some 27, .ext (.t 22) 1, none⟩,
  .op ⟨6, some 28, .ext (.t 22) 2, none⟩,
  .op ⟨7, some 6, .mv (.t 26), none⟩,
  .op ⟨8, some 7, .mv (.t 27), none⟩,
  .op ⟨9, some 8, .mv (.t 28), none⟩])
 (.seq (.reg [.op ⟨0, some 30, .call 1 [(.c (.one (.int .i64 4))), (.c (.one (.int .i64 4)))], none⟩,
  .op ⟨1, some 29, .mv (.t 30), none⟩,
  .op ⟨2, some 31, .ext (.t 29) 0, none⟩,
  .op ⟨3, some 32, .ext (.t 29) 1, none⟩,
  .op ⟨4, some 9, .mv (.t 31), none⟩,
  .op ⟨5, some 10, .mv (.t 32), none⟩])
 (.seq (.reg [.op ⟨0, some 34, .mv (.t 5), none⟩,
  .op ⟨1, some 35, .call 2 [(.c (.one (.int .i64 1)))], none⟩,
  .op ⟨2, some 36, .call 3 [(.t 34), (.t 35), (.c (.one (.str [120])))], none⟩,
  .op ⟨3, some 33, .mv (.t 36), none⟩,
  .op ⟨4, some 37, .ext (.t 33) 0, none⟩,
  .op ⟨5, some 38, .ext (.t 33) 1, none⟩,
  .op ⟨6, some 11, .mv (.t 37), none⟩,
  .op ⟨7, some 12, .mv (.t 38), none⟩])
 (.seq (.reg [.op ⟨0, some 40, .mv (.t 5), none⟩,
  .op ⟨1, some 41, .mv (.t 1), none⟩,
  .op ⟨2, some 42, .call 4 [(.t 40), (.t 41)], none⟩,
  .op ⟨3, some 39, .mv (.t 42), none⟩,
  .op ⟨4, some 43, .ext (.t 39) 0, none⟩,
  .op ⟨5, some 44, .ext (.t 39) 1, none⟩,
  .op ⟨6, some 45, .ext (.t 39) 2, none⟩,
  .op ⟨7, some 13, .new [.int .i64 0, .int .u64 0, .int .i64 0, .int .i64 0, .int .i64 0], none⟩,
  .op ⟨8, none, .store 5 (.t 13) (.t 43), none⟩,
  .op ⟨9, some 14, .mv (.t 44), none⟩,
  .op ⟨10, some 15, .mv (.t 45), none⟩])
 (.seq (.reg [.op ⟨0, some 47, .mv (.t 9), none⟩,
  .op ⟨1, some 48, .call 5 [(.c (.one (.ptr none))), (.t 47), (.c (.one (.sl 1 (⟨none, 0, 0⟩))))], none⟩,
  .op ⟨2, some 46, .mv (.t 48), none⟩,
  .op ⟨3, some 49, .ext (.t 46) 0, none⟩,
  .op ⟨4, some 50, .ext (.t 46) 1, none⟩,
  .op ⟨5, some 16, .mv (.t 49), none⟩,
  .op ⟨6, some 17, .mv (.t 50), none⟩])
 (.seq (.reg [.op ⟨0, some 52, .mv (.t 6), none⟩,
  .op ⟨1, some 53, .mk 1 8 [.int .i64 0] (.c (.one (.int .i64 8))) (.c (.one (.int .i64 8))), none⟩,
  .op ⟨2, some 54, .call 5 [(.t 52), (.c (.one (.ptr none))), (.t 53)], none⟩,
  .op ⟨3, some 51, .mv (.t 54), none⟩,
  .op ⟨4, some 55, .ext (.t 51) 0, none⟩,
  .op ⟨5, some 56, .ext (.t 51) 1, none⟩,
  .op ⟨6, some 18, .mv (.t 55), none⟩,
  .op ⟨7, some 19, .mv (.t 56), none⟩])
 (.seq (.reg [.op ⟨0, some 58, .mv (.t 6), none⟩,
  .op ⟨1, some 59, .mv (.t 9), none⟩,
  .op ⟨2, some 60, .mk 1 8 [.int .i64 0] (.c (.one (.int .i64 3))) (.c (.one (.int .i64 3))), none⟩,
  .op ⟨3, some 61, .call 5 [(.t 58), (.t 59), (.t 60)], none⟩,
  .op ⟨4, some 57, .mv (.t 61), none⟩,
  .op ⟨5, some 62, .ext (.t 57) 0, none⟩,
  .op ⟨6, some 63, .ext (.t 57) 1, none⟩,
  .op ⟨7, some 20, .mv (.t 62), none⟩,
  .op ⟨8, some 21, .mv (.t 63), none⟩])
 (.seq (.reg [.op ⟨0, some 64, .call 6 [], none⟩,
  .op ⟨1, some 65, .mv (.t 64), none⟩,
  .op ⟨2, some 66, .mv (.t 8), some (65, true)⟩,
  .op ⟨3, some 67, .pick (.t 65) (.t 66) (.c (.one (.bool false))), none⟩,
  .op ⟨4, some 68, .mv (.t 67), none⟩,
  .op ⟨5, some 69, .mv (.t 12), some (68, true)⟩,
  .op ⟨6, some 70, .bin .eql (.t 69) (.c (.one (.int .i64 1))), some (68, true)⟩,
  .op ⟨7, some 71, .pick (.t 68) (.t 70) (.c (.one (.bool false))), none⟩,
  .op ⟨8, some 72, .mv (.t 71), none⟩,
  .op ⟨9, some 73, .mv (.t 15), some (72, true)⟩,
  .op ⟨10, some 74, .bin .eql (.t 73) (.c (.one (.int .i64 1))), some (72, true)⟩,
  .op ⟨11, some 75, .pick (.t 72) (.t 74) (.c (.one (.bool false))), none⟩,
  .op ⟨12, some 76, .mv (.t 75), none⟩,
  .op ⟨13, some 77, .mv (.t 5), some (76, true)⟩,
  .op ⟨14, some 78, .mv (.t 1), some (76, true)⟩,
  .op ⟨15, some 79, .call 7 [(.t 77), (.t 78)], some (76, true)⟩,
  .op ⟨16, some 80, .bin .eql (.t 79) (.c (.one (.int .i64 1))), some (76, true)⟩,
  .op ⟨17, some 81, .pick (.t 76) (.t 80) (.c (.one (.bool false))), none⟩,
  .op ⟨18, some 82, .mv (.t 81), none⟩,
  .op ⟨19, some 83, .mv (.t 5), some (82, true)⟩,
  .op ⟨20, some 84, .call 8 [(.t 83)], some (82, true)⟩,
  .op ⟨21, some 85, .isnil false (.t 84), some (82, true)⟩,
  .op ⟨22, some 86, .pick (.t 82) (.t 85) (.c (.one (.bool false))), none⟩,
  .op ⟨23, some 87, .mv (.t 86), none⟩,
  .op ⟨24, some 88, .mv (.t 5), some (87, true)⟩,
  .op ⟨25, some 89, .call 9 [(.t 88)], some (87, true)⟩,
  .op ⟨26, some 90, .len (.t 89), some (87, true)⟩,
  .op ⟨27, some 91, .bin .eql (.t 90) (.c (.one (.int .i64 0))), some (87, true)⟩,
  .op ⟨28, some 92, .pick (.t 87) (.t 91) (.c (.one (.bool false))), none⟩,
  .op ⟨29, some 93, .mv (.t 92), none⟩,
  .op ⟨30, some 94, .mv (.t 5), some (93, true)⟩,
  .op ⟨31, some 95, .call 10 [(.t 94)], some (93, true)⟩,
  .op ⟨32, some 96, .len (.t 95), some (93, true)⟩,
  .op ⟨33, some 97, .bin .eql (.t 96) (.c (.one (.int .i64 0))), some (93, true)⟩,
  .op ⟨34, some 98, .pick (.t 93) (.t 97) (.c (.one (.bool false))), none⟩,
  .op ⟨35, some 99, .mv (.t 98), none⟩,
  .op ⟨36, some 100, .mv (.t 5), some (99, true)⟩,
  .op ⟨37, some 101, .bslice 1 1 [.int .i64 0] [(0, 1, (.c (.one (.int .i64 0))))], some (99, true)⟩,
  .op ⟨38, some 102, .call 11 [(.t 100), (.t 101)], some (99, true)⟩,
  .op ⟨39, some 103, .len (.t 102), some (99, true)⟩,
  .op ⟨40, some 104, .bin .eql (.t 103) (.c (.one (.int .i64 0))), some (99, true)⟩,
  .op ⟨41, some 105, .pick (.t 99) (.t 104) (.c (.one (.bool false))), none⟩,
  .op ⟨42, some 106, .mv (.t 105), none⟩,
  .op ⟨43, some 107, .mv (.t 17), some (106, true)⟩,
  .op ⟨44, some 108, .bin .eql (.t 107) (.c (.one (.int .i64 1))), some (106, true)⟩,
  .op ⟨45, some 109, .pick (.t 106) (.t 108) (.c (.one (.bool false))), none⟩,
  .op ⟨46, some 110, .mv (.t 109), none⟩,
  .op ⟨47, some 111, .mv (.t 19), some (110, true)⟩,
  .op ⟨48, some 112, .bin .eql (.t 111) (.c (.one (.int .i64 1))), some (110, true)⟩,
  .op ⟨49, some 113, .pick (.t 110) (.t 112) (.c (.one (.bool false))), none⟩,
  .op ⟨50, some 114, .mv (.t 113), none⟩,
  .op ⟨51, some 115, .mv (.t 21), some (114, true)⟩,
  .op ⟨52, some 116, .bin .eql (.t 115) (.c (.one (.int .i64 1))), some (114, true)⟩,
  .op ⟨53, some 117, .pick (.t 114) (.t 116) (.c (.one (.bool false))), none⟩,
  .op ⟨54, some 4, .mv (.t 117), none⟩])
 (.ret))))))))))⟩
noncomputable def law13_WriteNone.on (x0 : (Int × Int × Int × Unit)) (x1 : Int) (H : Heap) : Option (Bool × Unit) :=
 let H1 : Heap := H ++ [Blk.cells [.int .i64 x0.1, .int .i64 x0.2.1, .int .i64 x0.2.2.1] .exact]
 Option.bind (α := (Int × Int × Int × Unit)) (rd H1 (.agg [.int .i64, .int .i64, .int .i64]) H.length 0) fun (v2 : (Int × Int × Int × Unit)) =>
 (law13_Begun (v2.1, v2.2.1, v2.2.2.1, ()) (⟨none, 0, 0⟩, ⟨none, 0, 0⟩, ⟨none, 0, 0⟩, ()) H1).bind fun (r3 : ((Ptr × Ptr × Bool × Unit) × Heap)) =>
 (life_New 4 4 r3.2).bind fun (r4 : ((Ptr × Int × Unit) × Heap)) =>
 (law13_tag 1).bind fun (r5 : ((Int × Int × Int × Int × Int × Unit) × Unit)) =>
 (write_Writer_Append none (r5.1.1, r5.1.2.1, r5.1.2.2.1, r5.1.2.2.2.1, r5.1.2.2.2.2.1, ()) [120] r4.2).bind fun (r6 : ((Int × Int × Unit) × Heap)) =>
 (write_Writer_Read none x1 r6.2).bind fun (r7 : (((Int × Int × Int × Int × Int × Unit) × Bytes × Int × Unit) × Heap)) =>
 let H8 : Heap := r7.2 ++ [Blk.cells [.int .i64 0, .int .u64 0, .int .i64 0, .int .i64 0, .int .i64 0] .exact]
 (wr H8 r7.2.length 0 [.int .i64 r7.1.1.1, .int .u64 r7.1.1.2.1, .int .i64 r7.1.1.2.2.1, .int .i64 r7.1.1.2.2.2.1, .int .i64 r7.1.1.2.2.2.2.1]).bind fun (H9 : Heap) =>
 (write_New none r4.1.1 (⟨none, 0, 0⟩) H9).bind fun (r10 : ((Ptr × Int × Unit) × Heap)) =>
 (mkS r10.2 8 [.int .i64 0] 8 8).bind fun (p11 : (Sl × Heap)) =>
 (write_New r3.1.1 none p11.1 p11.2).bind fun (r12 : ((Ptr × Int × Unit) × Heap)) =>
 (mkS r12.2 8 [.int .i64 0] 3 3).bind fun (p13 : (Sl × Heap)) =>
 (write_New r3.1.1 r4.1.1 p13.1 p13.2).bind fun (r14 : ((Ptr × Int × Unit) × Heap)) =>
 (law13_awake).bind fun (r15 : (Bool × Unit)) =>
 cond r15.1 (
 cond r3.1.2.2.1 (
 cond (decide (r6.1.2.1 = 1)) (
 cond (decide (r7.1.2.2.1 = 1)) (
 (write_Writer_Erase none x1 r14.2).bind fun (r16 : ((Int × Unit) × Heap)) =>
 cond (decide (r16.1.1 = 1)) (
 (write_Writer_Life none r16.2).bind fun (r17 : ((Ptr × Unit) × Heap)) =>
 cond (Option.isNone r17.1.1) (
 (write_Writer_Worn none r17.2).bind fun (r18 : ((Sl × Unit) × Heap)) =>
 cond (decide ((r18.1.1.len : Int) = 0)) (
 (write_Writer_Bads none r18.2).bind fun (r19 : ((Sl × Unit) × Heap)) =>
 cond (decide ((r19.1.1.len : Int) = 0)) (
 let H20 : Heap := r19.2 ++ [Blk.cells [.int .i64 0] .exact]
 (write_Writer_Wears none (⟨some (r19.2.length, 0), 1, 1⟩) H20).bind fun (r21 : ((Sl × Unit) × Heap)) =>
 cond (decide ((r21.1.1.len : Int) = 0)) (
 cond (decide (r10.1.2.1 = 1)) (
 cond (decide (r12.1.2.1 = 1)) (
 some ((decide (r14.1.2.1 = 1)), ())) (
 some (false, ()))) (
 some (false, ()))) (
 some (false, ()))) (
 some (false, ()))) (
 some (false, ()))) (
 some (false, ()))) (
 some (false, ()))) (
 some (false, ()))) (
 some (false, ()))) (
 some (false, ()))) (
 some (false, ()))
noncomputable def law13_WriteNone (x0 : (Int × Int × Int × Unit)) (x1 : Int) : Option (Bool × Unit) := law13_WriteNone.on x0 x1 []
noncomputable def law13_WriteNone.c : Callee := .pure [.agg [.int .i64, .int .i64, .int .i64], .one (.int .i64)] [.one .bool] (fun x => law13_WriteNone x.1 x.2.1)
noncomputable def law13_WriteNone.calls : Nat → Option Callee
  | 0 => some law13_Begun.c
  | 1 => some life_New.c
  | 2 => some law13_tag.c
  | 3 => some write_Writer_Append.c
  | 4 => some write_Writer_Read.c
  | 5 => some write_New.c
  | 6 => some law13_awake.c
  | 7 => some write_Writer_Erase.c
  | 8 => some write_Writer_Life.c
  | 9 => some write_Writer_Worn.c
  | 10 => some write_Writer_Bads.c
  | 11 => some write_Writer_Wears.c
  | _ => none
theorem law13_WriteNone.eq : evPure law13_WriteNone.calls law13_WriteNone.af = (fun x H => law13_WriteNone.on x.1 x.2.1 H) := by kernel_rfl

/-! ### tinderbox/tinderboxlaw13.WriteLevels -/
def law13_WriteLevels.af : AFun := ⟨[.agg [.int .i64, .int .i64, .int .i64], .one (.int .i64)], [.one .bool], [.t 4],
 .seq (.reg [.op ⟨0, some 2, .box (.t 0), none⟩,
  .op ⟨1, some 4, .mv (.c (.one (.bool false))), none⟩])
 (.seq (.reg [.op ⟨0, some 18, .load (.agg [.int .i64, .int .i64, .int .i64]) (.t 2), none⟩,
  .op ⟨1, some 19, .build [.sl 3 Sl.nil, .sl 1 Sl.nil, .sl 1 Sl.nil] [], none⟩,
  .op ⟨2, some 20, .call 0 [(.t 18), (.t 19)], none⟩,
  .op ⟨3, some 17, .mv (.t 20), none⟩,
  .op ⟨4, some 21, .ext (.t 17) 0, none⟩,
  .op ⟨5, some 22, .ext (.t 17) 1, none⟩,
  .op ⟨6, some 23, .ext (.t 17) 2, none⟩,
  .op ⟨7, some 5, .mv (.t 21), none⟩,
  .op ⟨8, some 6, .mv (.t 22), none⟩,
  .op ⟨9, some 7, .mv (.t 23), none⟩])
 (.seq (.seq (.reg [.op ⟨0, some 24, .call 1 [], none⟩,
  .op ⟨1, some 25, .un .not (.t 24), none⟩,
  .op ⟨2, some 26, .mv (.t 25), none⟩,
  .op ⟨3, some 27, .mv (.t 7), some (26, false)⟩,
  .op ⟨4, some 28, .un .not (.t 27), some (26, false)⟩,
  .op ⟨5, some 29, .pick (.t 26) (.c (.one (.bool true))) (.t 28), none⟩])
 (.cond (.t 29) (.seq (.reg [.op ⟨0, some 4, .mv (.c (.one (.bool false))), none⟩])
 (.ret)) (.skip)))
 (.seq (.reg [.op ⟨0, some 30, .mv (.t 5), none⟩,
  .op ⟨1, some 31, .call 2 [(.t 30)], none⟩,
  .op ⟨2, some 8, .new [.int .i64 0, .int .i64 0, .int .i64 0], none⟩,
  .op ⟨3, none, .store 3 (.t 8) (.t 31), none⟩])
 (.seq (.seq (.reg [.op ⟨0, some 9, .mv (.c (.one (.int .i64 0))), none⟩])
 (.block 0 (.loop [(9, .one (.int .i64))] [(.exit 0, []), (.ret, [(4, .one .bool)])] (.seq (.seq (.reg [.op ⟨0, some 32, .mv (.t 9), none⟩,
  .op ⟨1, some 33, .mv (.t 1), none⟩,
  .op ⟨2, some 34, .bin .and (.t 33) (.c (.one (.int .i64 1023))), none⟩,
  .op ⟨3, some 35, .bin .lss (.t 32) (.t 34), none⟩])
 (.cond (.t 35) (.skip) (.exit 0)))
 (.seq (.block 1 (.seq (.reg [.op ⟨0, some 39, .mv (.t 6), none⟩,
  .op ⟨1, some 40, .mv (.t 9), none⟩,
  .op ⟨2, some 41, .call 3 [(.t 40)], none⟩,
  .op ⟨3, some 42, .call 4 [(.t 39), (.t 41), (.c (.one (.str [120])))], none⟩,
  .op ⟨4, some 38, .mv (.t 42), none⟩,
  .op ⟨5, some 43, .ext (.t 38) 0, none⟩,
  .op ⟨6, some 44, .ext (.t 38) 1, none⟩,
  .op ⟨7, some 10, .mv (.t 43), none⟩,
  .op ⟨8, some 11, .mv (.t 44), none⟩])
 (.seq (.seq (.reg [.op ⟨0, some 45, .mv (.t 11), none⟩,
  .op ⟨1, some 46, .bin .neq (.t 45) (.c (.one (.int .i64 0))), none⟩])
 (.cond (.t 46) (.seq (.reg [.op ⟨0, some 4, .mv (.c (.one (.bool false))), none⟩])
 (.ret)) (.skip)))
 (.seq (.reg [.op ⟨0, some 47, .mv (.t 10), none⟩,
  .op ⟨1, some 48, .addr 1 (.t 8), none⟩,
  .op ⟨2, some 49, .load (.one (.int .i64)) (.t 48), none⟩,
  .op ⟨3, some 50, .bin .rem (.t 47) (.t 49), none⟩,
  .op ⟨4, some 51, .addr 1 (.t 8), none⟩,
  .op ⟨5, some 52, .load (.one (.int .i64)) (.t 51), none⟩,
  .op ⟨6, some 53, .bin .sub (.t 52) (.c (.one (.int .i64 1))), none⟩,
  .op ⟨7, some 54, .bin .eql (.t 50) (.t 53), none⟩,
  .op ⟨8, some 55, .mv (.t 54), none⟩,
  .op ⟨9, some 56, .mv (.t 6), some (55, true)⟩,
  .op ⟨10, some 57, .mv (.t 10), some (55, true)⟩,
  .op ⟨11, some 58, .addr 1 (.t 8), some (55, true)⟩,
  .op ⟨12, some 59, .load (.one (.int .i64)) (.t 58), some (55, true)⟩,
  .op ⟨13, some 60, .bin .quo (.t 57) (.t 59), some (55, true)⟩,
  .op ⟨14, some 61, .call 5 [(.t 56), (.t 60)], some (55, true)⟩,
  .op ⟨15, some 62, .bin .neq (.t 61) (.c (.one (.int .i64 0))), some (55, true)⟩,
  .op ⟨16, some 63, .pick (.t 55) (.t 62) (.c (.one (.bool false))), none⟩])
 (.cond (.t 63) (.seq (.reg [.op ⟨0, some 4, .mv (.c (.one (.bool false))), none⟩])
 (.ret)) (.skip))))))
 (.reg [.op ⟨0, some 36, .mv (.t 9), none⟩,
  .op ⟨1, some 37, .bin .add (.t 36) (.c (.one (.int .i64 1))), none⟩,
  .op ⟨2, some 9, .mv (.t 37), none⟩]))))))
 (.seq (.reg [.op ⟨0, some 12, .mv (.c (.one (.int .i64 1073741824))), none⟩,
  .op ⟨1, some 13, .mv (.c (.one (.int .i64 0))), none⟩])
 (.seq (.reg [.op ⟨0, some 64, .mv (.t 5), none⟩,
  .op ⟨1, some 65, .call 6 [(.t 64)], none⟩,
  .op ⟨2, some 66, .mv (.t 6), none⟩,
  .op ⟨3, some 67, .call 7 [(.t 66)], none⟩,
  .op ⟨4, some 14, .mv (.t 65), none⟩,
  .op ⟨5, some 15, .mv (.t 67), none⟩])
 (.seq (.seq (.reg [.op ⟨0, some 16, .mv (.c (.one (.int .i64 0))), none⟩])
 (.block 2 (.loop [(12, .one (.int .i64)), (13, .one (.int .i64)), (16, .one (.int .i64))] [(.exit 2, [(12, .one (.int .i64)), (13, .one (.int .i64))]), (.ret, [(4, .one .bool)])] (.seq (.seq (.reg [.op ⟨0, some 68, .mv (.t 16), none⟩,
  .op ⟨1, some 69, .mv (.t 14), none⟩,
  .op ⟨2, some 70, .len (.t 69), none⟩,
  .op ⟨3, some 71, .bin .lss (.t 68) (.t 70), none⟩])
 (.cond (.t 71) (.skip) (.exit 2)))
 (.seq (.block 3 (.seq (.seq (.reg [.op ⟨0, some 74, .mv (.t 14), none⟩,
  .op ⟨1, some 75, .mv (.t 16), none⟩,
  .op ⟨2, some 76, .idxa 1 (.t 74) (.t 75), none⟩,
  .op ⟨3, some 77, .load (.one (.int .i64)) (.t 76), none⟩,
  .op ⟨4, some 78, .mv (.t 15), none⟩,
  .op ⟨5, some 79, .mv (.t 16), none⟩,
  .op ⟨6, some 80, .idxa 1 (.t 78) (.t 79), none⟩,
  .op ⟨7, some 81, .load (.one (.int .i64)) (.t 80), none⟩,
  .op ⟨8, some 82, .bin .neq (.t 77) (.t 81), none⟩])
 (.cond (.t 82) (.seq (.reg [.op ⟨0, some 4, .mv (.c (.one (.bool false))), none⟩])
 (.ret)) (.skip)))
 (.reg [.op ⟨0, some 83, .mv (.t 12), none⟩,
  .op ⟨1, some 84, .mv (.t 14), none⟩,
  .op ⟨2, some 85, .mv (.t 16), none⟩,
  .op ⟨3, some 86, .idxa 1 (.t 84) (.t 85), none⟩,
  .op ⟨4, some 87, .load (.one (.int .i64)) (.t 86), none⟩,
  .op ⟨5, some 88, .min [(.t 83), (.t 87)], none⟩,
  .op ⟨6, some 89, .mv (.t 13), none⟩,
  .op ⟨7, some 90, .mv (.t 14), none⟩,
  .op ⟨8, some 91, .mv (.t 16), none⟩,
  .op ⟨9, some 92, .idxa 1 (.t 90) (.t 91), none⟩,
  .op ⟨10, some 93, .load (.one (.int .i64)) (.t 92), none⟩,
  .op ⟨11, some 94, .max [(.t 89), (.t 93)], none⟩,
  .op ⟨12, some 12, .mv (.t 88), none⟩,
  .op ⟨13, some 13, .mv (.t 94), none⟩])))
 (.reg [.op ⟨0, some 72, .mv (.t 16), none⟩,
  .op ⟨1, some 73, .bin .add (.t 72) (.c (.one (.int .i64 1))), none⟩,
  .op ⟨2, some 16, .mv (.t 73), none⟩]))))))
 (.seq (.reg [.op ⟨0, some 95, .mv (.t 13), none⟩,
  .op ⟨1, some 96, .mv (.t 12), none⟩,
  .op ⟨2, some 97, .bin .sub (.t 95) (.t 96), none⟩,
  .op ⟨3, some 98, .bin .leq (.t 97) (.c (.one (.int .i64 1))), none⟩,
  .op ⟨4, some 4, .mv (.t 98), none⟩])
 (.ret)))))))))⟩
noncomputable def law13_WriteLevels.s1 (x1 : Int) (r3 : ((Ptr × Ptr × Bool × Unit) × Heap)) (r5 : (((Int × Int × Int × Unit) × Unit) × Heap)) (s8 : (Int × Unit)) (H9 : Heap) : Option (((Int × Unit) ⊕ ((Unit) ⊕ (Bool × Unit))) × Heap) :=
 cond (decide (s8.1 < (bitsI .and .i64 x1 1023))) (
 (law13_tag s8.1).bind fun (r10 : ((Int × Int × Int × Int × Int × Unit) × Unit)) =>
 (write_Writer_Append r3.1.2.1 (r10.1.1, r10.1.2.1, r10.1.2.2.1, r10.1.2.2.2.1, r10.1.2.2.2.2.1, ()) [120] H9).bind fun (r11 : ((Int × Int × Unit) × Heap)) =>
 cond (!decide (r11.1.2.1 = 0)) (
 some (Sum.inr (Sum.inr (false, ())), r11.2)) (
 (rdI .i64 r11.2 r5.2.length 1).bind fun (v12 : Int) =>
 cond (decide (v12 = 0)) none (
 (rdI .i64 r11.2 r5.2.length 1).bind fun (v13 : Int) =>
 cond (decide ((Int.tmod r11.1.1 v12) = (IntKind.wrap .i64 (v13 - 1)))) (
 (rdI .i64 r11.2 r5.2.length 1).bind fun (v14 : Int) =>
 cond (decide (v14 = 0)) none (
 (write_Writer_Erase r3.1.2.1 (IntKind.wrap .i64 (Int.tdiv r11.1.1 v14)) r11.2).bind fun (r15 : ((Int × Unit) × Heap)) =>
 cond (!decide (r15.1.1 = 0)) (
 some (Sum.inr (Sum.inr (false, ())), r15.2)) (
 some (Sum.inl ((IntKind.wrap .i64 (s8.1 + 1)), ()), r15.2)))) (
 some (Sum.inl ((IntKind.wrap .i64 (s8.1 + 1)), ()), r11.2))))) (
 some (Sum.inr (Sum.inl (())), H9))
noncomputable def law13_WriteLevels.s2 (r18 : ((Sl × Unit) × Heap)) (r19 : ((Sl × Unit) × Heap)) (s20 : (Int × Int × Int × Unit)) (H21 : Heap) : Option (((Int × Int × Int × Unit) ⊕ ((Int × Int × Unit) ⊕ (Bool × Unit))) × Heap) :=
 cond (decide (s20.2.2.1 < (r18.1.1.len : Int))) (
 (Sl.at 1 r18.1.1 s20.2.2.1).bind fun (a22 : (Nat × Nat)) =>
 (rdI .i64 H21 a22.1 a22.2).bind fun (v23 : Int) =>
 (Sl.at 1 r19.1.1 s20.2.2.1).bind fun (a24 : (Nat × Nat)) =>
 (rdI .i64 H21 a24.1 a24.2).bind fun (v25 : Int) =>
 cond (!decide (v23 = v25)) (
 some (Sum.inr (Sum.inr (false, ())), H21)) (
 (Sl.at 1 r18.1.1 s20.2.2.1).bind fun (a26 : (Nat × Nat)) =>
 (rdI .i64 H21 a26.1 a26.2).bind fun (v27 : Int) =>
 (Sl.at 1 r18.1.1 s20.2.2.1).bind fun (a28 : (Nat × Nat)) =>
 (rdI .i64 H21 a28.1 a28.2).bind fun (v29 : Int) =>
 some (Sum.inl ((if v27 < s20.1 then v27 else s20.1), (if v29 > s20.2.1 then v29 else s20.2.1), (IntKind.wrap .i64 (s20.2.2.1 + 1)), ()), H21))) (
 some (Sum.inr (Sum.inl (s20.1, s20.2.1, ())), H21))
noncomputable def law13_WriteLevels.on (x0 : (Int × Int × Int × Unit)) (x1 : Int) (H : Heap) : Option (Bool × Unit) :=
 let H1 : Heap := H ++ [Blk.cells [.int .i64 x0.1, .int .i64 x0.2.1, .int .i64 x0.2.2.1] .exact]
 Option.bind (α := (Int × Int × Int × Unit)) (rd H1 (.agg [.int .i64, .int .i64, .int .i64]) H.length 0) fun (v2 : (Int × Int × Int × Unit)) =>
 (law13_Begun (v2.1, v2.2.1, v2.2.2.1, ()) (⟨none, 0, 0⟩, ⟨none, 0, 0⟩, ⟨none, 0, 0⟩, ()) H1).bind fun (r3 : ((Ptr × Ptr × Bool × Unit) × Heap)) =>
 (law13_awake).bind fun (r4 : (Bool × Unit)) =>
 cond (!r4.1) (
 some (false, ())) (
 cond (!r3.1.2.2.1) (
 some (false, ())) (
 (nand_Chip_Geometry r3.1.1 r3.2).bind fun (r5 : (((Int × Int × Int × Unit) × Unit) × Heap)) =>
 let H6 : Heap := r5.2 ++ [Blk.cells [.int .i64 0, .int .i64 0, .int .i64 0] .exact]
 (wr H6 r5.2.length 0 [.int .i64 r5.1.1.1, .int .i64 r5.1.1.2.1, .int .i64 r5.1.1.2.2.1]).bind fun (H7 : Heap) =>
 (loopW (law13_WriteLevels.s1 x1 r3 r5) (0, ()) H7).bind fun (p16 : ((Unit) ⊕ (Bool × Unit)) × Heap) =>
 Sum.elim (fun (y17 : (Unit)) =>
 (nand_Chip_Worn r3.1.1 p16.2).bind fun (r18 : ((Sl × Unit) × Heap)) =>
 (write_Writer_Worn r3.1.2.1 r18.2).bind fun (r19 : ((Sl × Unit) × Heap)) =>
 (loopW (law13_WriteLevels.s2 r18 r19) (1073741824, 0, 0, ()) r19.2).bind fun (p30 : ((Int × Int × Unit) ⊕ (Bool × Unit)) × Heap) =>
 Sum.elim (fun (y31 : (Int × Int × Unit)) =>
 some ((decide ((IntKind.wrap .i64 (y31.2.1 - y31.1)) ≤ 1)), ())) (fun (z32 : (Bool × Unit)) =>
 some (z32.1, ())) p30.1) (fun (z33 : (Bool × Unit)) =>
 some (z33.1, ())) p16.1))
noncomputable def law13_WriteLevels (x0 : (Int × Int × Int × Unit)) (x1 : Int) : Option (Bool × Unit) := law13_WriteLevels.on x0 x1 []
noncomputable def law13_WriteLevels.c : Callee := .pure [.agg [.int .i64, .int .i64, .int .i64], .one (.int .i64)] [.one .bool] (fun x => law13_WriteLevels x.1 x.2.1)
noncomputable def law13_WriteLevels.calls : Nat → Option Callee
  | 0 => some law13_Begun.c
  | 1 => some law13_awake.c
  | 2 => some nand_Chip_Geometry.c
  | 3 => some law13_tag.c
  | 4 => some write_Writer_Append.c
  | 5 => some write_Writer_Erase.c
  | 6 => some nand_Chip_Worn.c
  | 7 => some write_Writer_Worn.c
  | _ => none
theorem law13_WriteLevels.eq : evPure law13_WriteLevels.calls law13_WriteLevels.af = (fun x H => law13_WriteLevels.on x.1 x.2.1 H) := by kernel_rfl
end Ev
