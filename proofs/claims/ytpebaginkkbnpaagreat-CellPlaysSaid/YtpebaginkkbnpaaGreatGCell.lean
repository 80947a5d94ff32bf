/- What the functions of the package Cell compute: abstract code, and a function of plain Lean for each; the kernel checks that they are the same. Written by gen2.py. -/
import Derived.Test.YtpebaginkkbnpaaGreatEvCore
import Derived.Test.YtpebaginkkbnpaaGreatGNand
import Derived.Test.YtpebaginkkbnpaaGreatGSlices
import Derived.Test.YtpebaginkkbnpaaGreatGWeave
import Derived.KernelRfl
set_option linter.unusedVariables false
set_option maxRecDepth 100000
namespace Ev
open Go (IntKind BinOp UnOp)

/-! ### tinderbox/cell.Raw -/
def cell_Raw.af : AFun := ⟨[.agg [.int .i64, .int .i64, .int .i64]], [.agg [.int .i64, .int .i64, .int .i64], .agg [.int .i64, .int .i64, .int .i64, .int .i64], .one .bool], [.cell 2, .cell 3, .t 4],
 .seq (.reg [.op ⟨0, some 1, .box (.t 0), none⟩,
  .op ⟨1, some 2, .new [.int .i64 0, .int .i64 0, .int .i64 0], none⟩,
  .op ⟨2, some 3, .new [.int .i64 0, .int .i64 0, .int .i64 0, .int .i64 0], none⟩,
  .op ⟨3, some 4, .mv (.c (.one (.bool false))), none⟩])
 (.seq (.reg [.op ⟨0, some 9, .addr 2 (.t 1), none⟩,
  .op ⟨1, some 10, .load (.one (.int .i64)) (.t 9), none⟩,
  .op ⟨2, some 11, .bin .add (.t 10) (.c (.one (.int .i64 32))), none⟩,
  .op ⟨3, some 12, .call 0 [(.t 11), (.c (.one (.int .i64 8)))], none⟩,
  .op ⟨4, some 8, .mv (.t 12), none⟩,
  .op ⟨5, some 13, .ext (.t 8) 0, none⟩,
  .op ⟨6, some 14, .ext (.t 8) 1, none⟩,
  .op ⟨7, some 5, .new [.int .i64 0, .int .i64 0, .int .i64 0, .int .i64 0], none⟩,
  .op ⟨8, none, .store 4 (.t 5) (.t 13), none⟩,
  .op ⟨9, some 6, .mv (.t 14), none⟩])
 (.seq (.reg [.op ⟨0, some 15, .addr 0 (.t 1), none⟩,
  .op ⟨1, some 16, .load (.one (.int .i64)) (.t 15), none⟩,
  .op ⟨2, some 17, .addr 1 (.t 1), none⟩,
  .op ⟨3, some 18, .load (.one (.int .i64)) (.t 17), none⟩,
  .op ⟨4, some 19, .addr 3 (.t 5), none⟩,
  .op ⟨5, some 20, .load (.one (.int .i64)) (.t 19), none⟩,
  .op ⟨6, some 21, .bin .sub (.t 20) (.c (.one (.int .i64 32))), none⟩,
  .op ⟨7, some 22, .build [.int .i64 0, .int .i64 0, .int .i64 0] [(0, 1, (.t 16)), (1, 1, (.t 18)), (2, 1, (.t 21))], none⟩,
  .op ⟨8, some 7, .new [.int .i64 0, .int .i64 0, .int .i64 0], none⟩,
  .op ⟨9, none, .store 3 (.t 7) (.t 22), none⟩])
 (.seq (.reg [.op ⟨0, some 23, .load (.agg [.int .i64, .int .i64, .int .i64]) (.t 7), none⟩,
  .op ⟨1, some 24, .load (.agg [.int .i64, .int .i64, .int .i64, .int .i64]) (.t 5), none⟩,
  .op ⟨2, some 25, .mv (.t 6), none⟩,
  .op ⟨3, some 26, .mv (.t 25), none⟩,
  .op ⟨4, some 27, .load (.agg [.int .i64, .int .i64, .int .i64]) (.t 1), some (26, true)⟩,
  .op ⟨5, some 28, .call 1 [(.t 27)], some (26, true)⟩,
  .op ⟨6, some 29, .pick (.t 26) (.t 28) (.c (.one (.bool false))), none⟩,
  .op ⟨7, some 30, .mv (.t 29), none⟩,
  .op ⟨8, some 31, .load (.agg [.int .i64, .int .i64, .int .i64]) (.t 7), some (30, true)⟩,
  .op ⟨9, some 32, .call 1 [(.t 31)], some (30, true)⟩,
  .op ⟨10, some 33, .pick (.t 30) (.t 32) (.c (.one (.bool false))), none⟩,
  .op ⟨11, none, .store 3 (.t 2) (.t 23), none⟩,
  .again ⟨1, some 24, .load (.agg [.int .i64, .int .i64, .int .i64, .int .i64]) (.t 5), none⟩,
  .op ⟨12, none, .store 4 (.t 3) (.t 24), none⟩,
  .op ⟨13, some 4, .mv (.t 33), none⟩])
 (.ret))))⟩
noncomputable def cell_Raw.on (x0 : (Int × Int × Int × Unit)) (H : Heap) : Option ((Int × Int × Int × Unit) × (Int × Int × Int × Int × Unit) × Bool × Unit) :=
 let H1 : Heap := H ++ [Blk.cells [.int .i64 x0.1, .int .i64 x0.2.1, .int .i64 x0.2.2.1] .exact]
 let H2 : Heap := H1 ++ [Blk.cells [.int .i64 0, .int .i64 0, .int .i64 0] .exact]
 let H3 : Heap := H2 ++ [Blk.cells [.int .i64 0, .int .i64 0, .int .i64 0, .int .i64 0] .exact]
 (rdI .i64 H3 H.length 2).bind fun (v4 : Int) =>
 (weave_ShapeOf (IntKind.wrap .i64 (v4 + 32)) 8).bind fun (r5 : ((Int × Int × Int × Int × Unit) × Bool × Unit)) =>
 let H6 : Heap := H3 ++ [Blk.cells [.int .i64 0, .int .i64 0, .int .i64 0, .int .i64 0] .exact]
 (wr H6 H3.length 0 [.int .i64 r5.1.1, .int .i64 r5.1.2.1, .int .i64 r5.1.2.2.1, .int .i64 r5.1.2.2.2.1]).bind fun (H7 : Heap) =>
 (rdI .i64 H7 H.length 0).bind fun (v8 : Int) =>
 (rdI .i64 H7 H.length 1).bind fun (v9 : Int) =>
 (rdI .i64 H7 H3.length 3).bind fun (v10 : Int) =>
 let H11 : Heap := H7 ++ [Blk.cells [.int .i64 0, .int .i64 0, .int .i64 0] .exact]
 (wr H11 H7.length 0 [.int .i64 v8, .int .i64 v9, .int .i64 (IntKind.wrap .i64 (v10 - 32))]).bind fun (H12 : Heap) =>
 Option.bind (α := (Int × Int × Int × Unit)) (rd H12 (.agg [.int .i64, .int .i64, .int .i64]) H7.length 0) fun (v13 : (Int × Int × Int × Unit)) =>
 Option.bind (α := (Int × Int × Int × Int × Unit)) (rd H12 (.agg [.int .i64, .int .i64, .int .i64, .int .i64]) H3.length 0) fun (v14 : (Int × Int × Int × Int × Unit)) =>
 cond r5.2.1 (
 Option.bind (α := (Int × Int × Int × Unit)) (rd H12 (.agg [.int .i64, .int .i64, .int .i64]) H.length 0) fun (v15 : (Int × Int × Int × Unit)) =>
 (nand_Check (v15.1, v15.2.1, v15.2.2.1, ())).bind fun (r16 : (Bool × Unit)) =>
 cond r16.1 (
 Option.bind (α := (Int × Int × Int × Unit)) (rd H12 (.agg [.int .i64, .int .i64, .int .i64]) H7.length 0) fun (v17 : (Int × Int × Int × Unit)) =>
 (nand_Check (v17.1, v17.2.1, v17.2.2.1, ())).bind fun (r18 : (Bool × Unit)) =>
 (wr H12 H1.length 0 [.int .i64 v13.1, .int .i64 v13.2.1, .int .i64 v13.2.2.1]).bind fun (H19 : Heap) =>
 Option.bind (α := (Int × Int × Int × Int × Unit)) (rd H19 (.agg [.int .i64, .int .i64, .int .i64, .int .i64]) H3.length 0) fun (v20 : (Int × Int × Int × Int × Unit)) =>
 if V.w (.agg [.int .i64 v20.1, .int .i64 v20.2.1, .int .i64 v20.2.2.1, .int .i64 v20.2.2.2.1]) = V.w (.agg [.int .i64 v14.1, .int .i64 v14.2.1, .int .i64 v14.2.2.1, .int .i64 v14.2.2.2.1]) then
 (wr H19 H2.length 0 [.int .i64 v14.1, .int .i64 v14.2.1, .int .i64 v14.2.2.1, .int .i64 v14.2.2.2.1]).bind fun (H21 : Heap) =>
 Option.bind (α := (Int × Int × Int × Unit)) (rd H21 (.agg [.int .i64, .int .i64, .int .i64]) H1.length 0) fun (v22 : (Int × Int × Int × Unit)) =>
 Option.bind (α := (Int × Int × Int × Int × Unit)) (rd H21 (.agg [.int .i64, .int .i64, .int .i64, .int .i64]) H2.length 0) fun (v23 : (Int × Int × Int × Int × Unit)) =>
 some (v22, v23, r18.1, ())
 else none) (
 (wr H12 H1.length 0 [.int .i64 v13.1, .int .i64 v13.2.1, .int .i64 v13.2.2.1]).bind fun (H24 : Heap) =>
 Option.bind (α := (Int × Int × Int × Int × Unit)) (rd H24 (.agg [.int .i64, .int .i64, .int .i64, .int .i64]) H3.length 0) fun (v25 : (Int × Int × Int × Int × Unit)) =>
 if V.w (.agg [.int .i64 v25.1, .int .i64 v25.2.1, .int .i64 v25.2.2.1, .int .i64 v25.2.2.2.1]) = V.w (.agg [.int .i64 v14.1, .int .i64 v14.2.1, .int .i64 v14.2.2.1, .int .i64 v14.2.2.2.1]) then
 (wr H24 H2.length 0 [.int .i64 v14.1, .int .i64 v14.2.1, .int .i64 v14.2.2.1, .int .i64 v14.2.2.2.1]).bind fun (H26 : Heap) =>
 Option.bind (α := (Int × Int × Int × Unit)) (rd H26 (.agg [.int .i64, .int .i64, .int .i64]) H1.length 0) fun (v27 : (Int × Int × Int × Unit)) =>
 Option.bind (α := (Int × Int × Int × Int × Unit)) (rd H26 (.agg [.int .i64, .int .i64, .int .i64, .int .i64]) H2.length 0) fun (v28 : (Int × Int × Int × Int × Unit)) =>
 some (v27, v28, false, ())
 else none)) (
 (wr H12 H1.length 0 [.int .i64 v13.1, .int .i64 v13.2.1, .int .i64 v13.2.2.1]).bind fun (H29 : Heap) =>
 Option.bind (α := (Int × Int × Int × Int × Unit)) (rd H29 (.agg [.int .i64, .int .i64, .int .i64, .int .i64]) H3.length 0) fun (v30 : (Int × Int × Int × Int × Unit)) =>
 if V.w (.agg [.int .i64 v30.1, .int .i64 v30.2.1, .int .i64 v30.2.2.1, .int .i64 v30.2.2.2.1]) = V.w (.agg [.int .i64 v14.1, .int .i64 v14.2.1, .int .i64 v14.2.2.1, .int .i64 v14.2.2.2.1]) then
 (wr H29 H2.length 0 [.int .i64 v14.1, .int .i64 v14.2.1, .int .i64 v14.2.2.1, .int .i64 v14.2.2.2.1]).bind fun (H31 : Heap) =>
 Option.bind (α := (Int × Int × Int × Unit)) (rd H31 (.agg [.int .i64, .int .i64, .int .i64]) H1.length 0) fun (v32 : (Int × Int × Int × Unit)) =>
 Option.bind (α := (Int × Int × Int × Int × Unit)) (rd H31 (.agg [.int .i64, .int .i64, .int .i64, .int .i64]) H2.length 0) fun (v33 : (Int × Int × Int × Int × Unit)) =>
 some (v32, v33, false, ())
 else none)
noncomputable def cell_Raw (x0 : (Int × Int × Int × Unit)) : Option ((Int × Int × Int × Unit) × (Int × Int × Int × Int × Unit) × Bool × Unit) := cell_Raw.on x0 []
noncomputable def cell_Raw.c : Callee := .pure [.agg [.int .i64, .int .i64, .int .i64]] [.agg [.int .i64, .int .i64, .int .i64], .agg [.int .i64, .int .i64, .int .i64, .int .i64], .one .bool] (fun x => cell_Raw x.1)
noncomputable def cell_Raw.calls : Nat → Option Callee
  | 0 => some weave_ShapeOf.c
  | 1 => some nand_Check.c
  | _ => none
theorem cell_Raw.eq : evPure cell_Raw.calls cell_Raw.af = (fun x H => cell_Raw.on x.1 H) := by kernel_rfl

/-! ### tinderbox/cell.New -/
def cell_New.af : AFun := ⟨[.agg [.int .i64, .int .i64, .int .i64], .agg [.sl 3, .sl 1, .sl 1], .one (.sl 5), .one (.int .i64)], [.one .ptr, .one (.int .i64)], [.t 8, .t 9],
 .seq (.reg [.op ⟨0, some 4, .box (.t 0), none⟩,
  .op ⟨1, some 5, .box (.t 1), none⟩,
  .op ⟨2, some 8, .mv (.c (.one (.ptr none))), none⟩,
  .op ⟨3, some 9, .mv (.c (.one (.int .i64 0))), none⟩])
 (.seq (.reg [.op ⟨0, some 16, .load (.agg [.int .i64, .int .i64, .int .i64]) (.t 4), none⟩,
  .op ⟨1, some 17, .call 0 [(.t 16)], none⟩,
  .op ⟨2, some 15, .mv (.t 17), none⟩,
  .op ⟨3, some 18, .ext (.t 15) 0, none⟩,
  .op ⟨4, some 19, .ext (.t 15) 1, none⟩,
  .op ⟨5, some 20, .ext (.t 15) 2, none⟩,
  .op ⟨6, some 10, .new [.int .i64 0, .int .i64 0, .int .i64 0], none⟩,
  .op ⟨7, some 11, .new [.int .i64 0, .int .i64 0, .int .i64 0, .int .i64 0], none⟩,
  .op ⟨8, none, .store 3 (.t 10) (.t 18), none⟩,
  .op ⟨9, none, .store 4 (.t 11) (.t 19), none⟩,
  .op ⟨10, some 12, .mv (.t 20), none⟩])
 (.seq (.seq (.reg [.op ⟨0, some 21, .mv (.t 12), none⟩,
  .op ⟨1, some 22, .un .not (.t 21), none⟩])
 (.cond (.t 22) (.seq (.reg [.op ⟨0, some 8, .mv (.c (.one (.ptr none))), none⟩,
  .op ⟨1, some 9, .mv (.c (.one (.int .i64 1))), none⟩])
 (.ret)) (.skip)))
 (.seq (.reg [.op ⟨0, some 24, .load (.agg [.int .i64, .int .i64, .int .i64]) (.t 10), none⟩,
  .op ⟨1, some 25, .load (.agg [.sl 3, .sl 1, .sl 1]) (.t 5), none⟩,
  .op ⟨2, some 26, .call 1 [(.t 24), (.t 25)], none⟩,
  .op ⟨3, some 23, .mv (.t 26), none⟩,
  .op ⟨4, some 27, .ext (.t 23) 0, none⟩,
  .op ⟨5, some 28, .ext (.t 23) 1, none⟩,
  .op ⟨6, some 13, .mv (.t 27), none⟩,
  .op ⟨7, some 14, .mv (.t 28), none⟩])
 (.seq (.seq (.reg [.op ⟨0, some 29, .mv (.t 14), none⟩,
  .op ⟨1, some 30, .bin .neq (.t 29) (.c (.one (.int .i64 0))), none⟩])
 (.cond (.t 30) (.seq (.reg [.op ⟨0, some 31, .mv (.t 14), none⟩,
  .op ⟨1, some 8, .mv (.c (.one (.ptr none))), none⟩,
  .op ⟨2, some 9, .mv (.t 31), none⟩])
 (.ret)) (.skip)))
 (.seq (.reg [.op ⟨0, some 32, .mv (.t 13), none⟩,
  .op ⟨1, some 33, .load (.agg [.int .i64, .int .i64, .int .i64]) (.t 4), none⟩,
  .op ⟨2, some 34, .load (.agg [.int .i64, .int .i64, .int .i64, .int .i64]) (.t 11), none⟩,
  .op ⟨3, some 35, .mv (.t 2), none⟩,
  .op ⟨5, some 37, .mkm, none⟩,
  .op ⟨6, some 38, .mv (.t 3), none⟩,
  .op ⟨4, some 36, .call 2 [(.t 35)], none⟩,
  .op ⟨7, some 39, .build [.ptr none, .int .i64 0, .int .i64 0, .int .i64 0, .int .i64 0, .int .i64 0, .int .i64 0, .int .i64 0, .sl 5 Sl.nil, .mp none, .int .i64 0, .int .i64 0, .int .i64 0, .bool false] [(0, 1, (.t 32)), (1, 3, (.t 33)), (4, 4, (.t 34)), (8, 1, (.t 36)), (9, 1, (.t 37)), (11, 1, (.t 38))], none⟩,
  .op ⟨8, some 40, .box (.t 39), none⟩,
  .op ⟨9, some 8, .mv (.t 40), none⟩,
  .op ⟨10, some 9, .mv (.c (.one (.int .i64 0))), none⟩,
  .again ⟨1, some 33, .load (.agg [.int .i64, .int .i64, .int .i64]) (.t 4), none⟩,
  .again ⟨2, some 34, .load (.agg [.int .i64, .int .i64, .int .i64, .int .i64]) (.t 11), none⟩,
  .still ⟨5, some 37, .mkm, none⟩])
 (.ret))))))⟩
noncomputable def cell_New (x0 : (Int × Int × Int × Unit)) (x1 : (Sl × Sl × Sl × Unit)) (x2 : Sl) (x3 : Int) (H : Heap) : Option ((Ptr × Int × Unit) × Heap) :=
 let H1 : Heap := H ++ [Blk.cells [.int .i64 x0.1, .int .i64 x0.2.1, .int .i64 x0.2.2.1] .exact]
 let H2 : Heap := H1 ++ [Blk.cells [.sl 3 x1.1, .sl 1 x1.2.1, .sl 1 x1.2.2.1] .exact]
 Option.bind (α := (Int × Int × Int × Unit)) (rd H2 (.agg [.int .i64, .int .i64, .int .i64]) H.length 0) fun (v3 : (Int × Int × Int × Unit)) =>
 (cell_Raw (v3.1, v3.2.1, v3.2.2.1, ())).bind fun (r4 : ((Int × Int × Int × Unit) × (Int × Int × Int × Int × Unit) × Bool × Unit)) =>
 let H5 : Heap := H2 ++ [Blk.cells [.int .i64 0, .int .i64 0, .int .i64 0] .exact]
 let H6 : Heap := H5 ++ [Blk.cells [.int .i64 0, .int .i64 0, .int .i64 0, .int .i64 0] .exact]
 (wr H6 H2.length 0 [.int .i64 r4.1.1, .int .i64 r4.1.2.1, .int .i64 r4.1.2.2.1]).bind fun (H7 : Heap) =>
 (wr H7 H5.length 0 [.int .i64 r4.2.1.1, .int .i64 r4.2.1.2.1, .int .i64 r4.2.1.2.2.1, .int .i64 r4.2.1.2.2.2.1]).bind fun (H8 : Heap) =>
 cond (!r4.2.2.1) (
 some ((none, 1, ()), H8)) (
 Option.bind (α := (Int × Int × Int × Unit)) (rd H8 (.agg [.int .i64, .int .i64, .int .i64]) H2.length 0) fun (v9 : (Int × Int × Int × Unit)) =>
 Option.bind (α := (Sl × Sl × Sl × Unit)) (rd H8 (.agg [.sl 3, .sl 1, .sl 1]) H1.length 0) fun (v10 : (Sl × Sl × Sl × Unit)) =>
 (nand_New (v9.1, v9.2.1, v9.2.2.1, ()) (v10.1, v10.2.1, v10.2.2.1, ()) H8).bind fun (r11 : ((Ptr × Int × Unit) × Heap)) =>
 cond (!decide (r11.1.2.1 = 0)) (
 some ((none, r11.1.2.1, ()), r11.2)) (
 Option.bind (α := (Int × Int × Int × Unit)) (rd r11.2 (.agg [.int .i64, .int .i64, .int .i64]) H.length 0) fun (v12 : (Int × Int × Int × Unit)) =>
 Option.bind (α := (Int × Int × Int × Int × Unit)) (rd r11.2 (.agg [.int .i64, .int .i64, .int .i64, .int .i64]) H5.length 0) fun (v13 : (Int × Int × Int × Int × Unit)) =>
 let H14 : Heap := r11.2 ++ [Blk.mp [] 0]
 (slices_Clone_api_Noise_api_Noise x2 H14).bind fun (r15 : ((Sl × Unit) × Heap)) =>
 let H16 : Heap := r15.2 ++ [Blk.cells [.ptr r11.1.1, .int .i64 v12.1, .int .i64 v12.2.1, .int .i64 v12.2.2.1, .int .i64 v13.1, .int .i64 v13.2.1, .int .i64 v13.2.2.1, .int .i64 v13.2.2.2.1, .sl 5 r15.1.1, .mp (some (r11.2.length)), .int .i64 0, .int .i64 x3, .int .i64 0, .bool false] .exact]
 Option.bind (α := (Int × Int × Int × Unit)) (rd H16 (.agg [.int .i64, .int .i64, .int .i64]) H.length 0) fun (v17 : (Int × Int × Int × Unit)) =>
 if V.w (.agg [.int .i64 v17.1, .int .i64 v17.2.1, .int .i64 v17.2.2.1]) = V.w (.agg [.int .i64 v12.1, .int .i64 v12.2.1, .int .i64 v12.2.2.1]) then
 Option.bind (α := (Int × Int × Int × Int × Unit)) (rd H16 (.agg [.int .i64, .int .i64, .int .i64, .int .i64]) H5.length 0) fun (v18 : (Int × Int × Int × Int × Unit)) =>
 if V.w (.agg [.int .i64 v18.1, .int .i64 v18.2.1, .int .i64 v18.2.2.1, .int .i64 v18.2.2.2.1]) = V.w (.agg [.int .i64 v13.1, .int .i64 v13.2.1, .int .i64 v13.2.2.1, .int .i64 v13.2.2.2.1]) then
 if H16[(r11.2.length)]? = some (Blk.mp [] 0) then
 some ((some (r15.2.length, 0), 0, ()), H16)
 else none
 else none
 else none))
noncomputable def cell_New.c : Callee := .full [.agg [.int .i64, .int .i64, .int .i64], .agg [.sl 3, .sl 1, .sl 1], .one (.sl 5), .one (.int .i64)] [.one .ptr, .one (.int .i64)] (fun x H => cell_New x.1 x.2.1 x.2.2.1 x.2.2.2.1 H)
noncomputable def cell_New.calls : Nat → Option Callee
  | 0 => some cell_Raw.c
  | 1 => some nand_New.c
  | 2 => some slices_Clone_api_Noise_api_Noise.c
  | _ => none
theorem cell_New.eq : evFull cell_New.calls cell_New.af = (fun x H => cell_New x.1 x.2.1 x.2.2.1 x.2.2.2.1 H) := by kernel_rfl

/-! ### (*tinderbox/cell.Cells).at -/
def cell_Cells_at.af : AFun := ⟨[.one .ptr, .one (.int .i64), .one (.int .i64)], [.one (.int .i64)], [.t 6],
 .seq (.reg [.op ⟨0, some 6, .mv (.c (.one (.int .i64 0))), none⟩])
 (.seq (.reg [.op ⟨0, some 7, .mv (.t 1), none⟩,
  .op ⟨1, some 8, .mv (.t 0), none⟩,
  .op ⟨2, some 9, .nilc (.t 8), none⟩,
  .op ⟨3, some 10, .addr 1 (.t 9), none⟩,
  .op ⟨4, some 11, .addr 1 (.t 10), none⟩,
  .op ⟨5, some 12, .load (.one (.int .i64)) (.t 11), none⟩,
  .op ⟨6, some 13, .bin .mul (.t 7) (.t 12), none⟩,
  .op ⟨7, some 14, .mv (.t 2), none⟩,
  .op ⟨8, some 15, .bin .add (.t 13) (.t 14), none⟩,
  .op ⟨9, some 6, .mv (.t 15), none⟩])
 (.ret))⟩
noncomputable def cell_Cells_at (x0 : Ptr) (x1 : Int) (x2 : Int) (H : Heap) : Option ((Int × Unit) × Heap) :=
 (x0).bind fun (a1 : Nat × Nat) =>
 (rdI .i64 H a1.1 (a1.2 + 2)).bind fun (v2 : Int) =>
 some (((IntKind.wrap .i64 ((IntKind.wrap .i64 (x1 * v2)) + x2)), ()), H)
noncomputable def cell_Cells_at.c : Callee := .full [.one .ptr, .one (.int .i64), .one (.int .i64)] [.one (.int .i64)] (fun x H => cell_Cells_at x.1 x.2.1 x.2.2.1 H)
noncomputable def cell_Cells_at.calls : Nat → Option Callee
  | _ => none
theorem cell_Cells_at.eq : evFull cell_Cells_at.calls cell_Cells_at.af = (fun x H => cell_Cells_at x.1 x.2.1 x.2.2.1 H) := by kernel_rfl

/-! ### (*tinderbox/cell.Cells).mask -/
def cell_Cells_mask.af : AFun := ⟨[.one .ptr, .one (.int .i64), .one (.int .i64)], [.one (.int .i64)], [.t 6],
 .seq (.reg [.op ⟨0, some 6, .mv (.c (.one (.int .i64 0))), none⟩])
 (.seq (.reg [.op ⟨0, some 7, .mv (.t 0), none⟩,
  .op ⟨1, some 8, .nilc (.t 7), none⟩,
  .op ⟨2, some 9, .addr 11 (.t 8), none⟩,
  .op ⟨3, some 10, .load (.one (.int .i64)) (.t 9), none⟩,
  .op ⟨4, some 11, .mv (.t 0), none⟩,
  .op ⟨5, some 12, .mv (.t 1), none⟩,
  .op ⟨6, some 13, .mv (.t 2), none⟩,
  .op ⟨7, some 14, .call 0 [(.t 11), (.t 12), (.t 13)], none⟩,
  .op ⟨8, some 15, .bin .add (.t 10) (.t 14), none⟩,
  .op ⟨9, some 6, .mv (.t 15), none⟩,
  .again ⟨3, some 10, .load (.one (.int .i64)) (.t 9), none⟩])
 (.ret))⟩
noncomputable def cell_Cells_mask (x0 : Ptr) (x1 : Int) (x2 : Int) (H : Heap) : Option ((Int × Unit) × Heap) :=
 (x0).bind fun (a1 : Nat × Nat) =>
 (rdI .i64 H a1.1 (a1.2 + 11)).bind fun (v2 : Int) =>
 (cell_Cells_at x0 x1 x2 H).bind fun (r3 : ((Int × Unit) × Heap)) =>
 (rdI .i64 r3.2 a1.1 (a1.2 + 11)).bind fun (v4 : Int) =>
 if V.w (.one (.int .i64 v4)) = V.w (.one (.int .i64 v2)) then
 some (((IntKind.wrap .i64 (v2 + r3.1.1)), ()), r3.2)
 else none
noncomputable def cell_Cells_mask.c : Callee := .full [.one .ptr, .one (.int .i64), .one (.int .i64)] [.one (.int .i64)] (fun x H => cell_Cells_mask x.1 x.2.1 x.2.2.1 H)
noncomputable def cell_Cells_mask.calls : Nat → Option Callee
  | 0 => some cell_Cells_at.c
  | _ => none
theorem cell_Cells_mask.eq : evFull cell_Cells_mask.calls cell_Cells_mask.af = (fun x H => cell_Cells_mask x.1 x.2.1 x.2.2.1 H) := by kernel_rfl

/-! ### (*tinderbox/cell.Cells).Program -/
def cell_Cells_Program.af : AFun := ⟨[.one .ptr, .one (.int .i64), .one (.int .i64), .one .str, .one .str], [.one (.int .i64)], [.t 10],
 .seq (.reg [.op ⟨0, some 10, .mv (.c (.one (.int .i64 0))), none⟩])
 (.seq (.seq (.reg [.op ⟨0, some 17, .mv (.t 0), none⟩,
  .op ⟨1, some 18, .isnil false (.t 17), none⟩])
 (.cond (.t 18) (.seq (.reg [.op ⟨0, some 10, .mv (.c (.one (.int .i64 1))), none⟩])
 (.ret)) (.skip)))
 (.seq (.seq (.reg [.op ⟨0, some 20, .mv (.t 0), none⟩,
  .op ⟨1, some 21, .nilc (.t 20), none⟩,
  .op ⟨2, some 22, .addr 0 (.t 21), none⟩,
  .op ⟨3, some 23, .load (.one .ptr) (.t 22), none⟩,
  .op ⟨4, some 24, .mv (.t 1), none⟩,
  .op ⟨5, some 25, .mv (.t 2), none⟩,
  .op ⟨6, some 26, .call 0 [(.t 23), (.t 24), (.t 25)], none⟩,
  .op ⟨7, some 19, .mv (.t 26), none⟩,
  .op ⟨8, some 27, .ext (.t 19) 0, none⟩,
  .op ⟨9, some 28, .ext (.t 19) 1, none⟩,
  .op ⟨10, some 29, .ext (.t 19) 2, none⟩,
  .op ⟨11, some 11, .mv (.t 27), none⟩,
  .op ⟨12, some 12, .mv (.t 28), none⟩,
  .op ⟨13, some 13, .mv (.t 29), none⟩])
 (.seq (.reg [.op ⟨0, some 30, .mv (.t 13), none⟩,
  .op ⟨1, some 31, .bin .neq (.t 30) (.c (.one (.int .i64 0))), none⟩])
 (.cond (.t 31) (.seq (.reg [.op ⟨0, some 32, .mv (.t 13), none⟩,
  .op ⟨1, some 10, .mv (.t 32), none⟩])
 (.ret)) (.skip))))
 (.seq (.seq (.reg [.op ⟨0, some 33, .mv (.t 3), none⟩,
  .op ⟨1, some 34, .lens (.t 33), none⟩,
  .op ⟨2, some 35, .mv (.t 0), none⟩,
  .op ⟨3, some 36, .nilc (.t 35), none⟩,
  .op ⟨4, some 37, .addr 1 (.t 36), none⟩,
  .op ⟨5, some 38, .addr 2 (.t 37), none⟩,
  .op ⟨6, some 39, .load (.one (.int .i64)) (.t 38), none⟩,
  .op ⟨7, some 40, .bin .neq (.t 34) (.t 39), none⟩,
  .op ⟨8, some 41, .mv (.t 40), none⟩,
  .op ⟨9, some 42, .mv (.t 4), some (41, false)⟩,
  .op ⟨10, some 43, .lens (.t 42), some (41, false)⟩,
  .op ⟨11, some 44, .bin .neq (.t 43) (.c (.one (.int .i64 32))), some (41, false)⟩,
  .op ⟨12, some 45, .pick (.t 41) (.c (.one (.bool true))) (.t 44), none⟩])
 (.cond (.t 45) (.seq (.reg [.op ⟨0, some 10, .mv (.c (.one (.int .i64 1))), none⟩])
 (.ret)) (.skip)))
 (.seq (.reg [.op ⟨0, some 47, .mv (.t 3), none⟩,
  .op ⟨1, some 48, .mv (.t 4), none⟩,
  .op ⟨2, some 49, .bin .add (.t 47) (.t 48), none⟩,
  .op ⟨3, some 50, .mv (.t 0), none⟩,
  .op ⟨4, some 51, .nilc (.t 50), none⟩,
  .op ⟨5, some 52, .addr 4 (.t 51), none⟩,
  .op ⟨6, some 53, .load (.agg [.int .i64, .int .i64, .int .i64, .int .i64]) (.t 52), none⟩,
  .op ⟨7, some 54, .mv (.t 0), none⟩,
  .op ⟨8, some 55, .mv (.t 1), none⟩,
  .op ⟨9, some 56, .mv (.t 2), none⟩,
  .op ⟨10, some 57, .call 1 [(.t 54), (.t 55), (.t 56)], none⟩,
  .op ⟨11, some 58, .call 2 [(.t 49), (.t 53), (.t 57)], none⟩,
  .op ⟨12, some 46, .mv (.t 58), none⟩,
  .op ⟨13, some 59, .ext (.t 46) 0, none⟩,
  .op ⟨14, some 60, .ext (.t 46) 1, none⟩,
  .op ⟨15, some 14, .mv (.t 59), none⟩,
  .op ⟨16, some 15, .mv (.t 60), none⟩,
  .again ⟨6, some 53, .load (.agg [.int .i64, .int .i64, .int .i64, .int .i64]) (.t 52), none⟩])
 (.seq (.seq (.reg [.op ⟨0, some 61, .mv (.t 15), none⟩,
  .op ⟨1, some 62, .bin .neq (.t 61) (.c (.one (.int .i64 0))), none⟩])
 (.cond (.t 62) (.seq (.reg [.op ⟨0, some 63, .mv (.t 15), none⟩,
  .op ⟨1, some 10, .mv (.t 63), none⟩])
 (.ret)) (.skip)))
 (.seq (.scope [(.normal, [(14, .one .str)])] (.seq (.reg [.op ⟨0, some 64, .mv (.t 3), none⟩,
  .op ⟨1, some 65, .mv (.t 4), none⟩,
  .op ⟨2, some 66, .bin .add (.t 64) (.t 65), none⟩,
  .op ⟨3, some 67, .call 3 [(.t 66), (.c (.one (.int .i64 0)))], none⟩])
 (.cond (.t 67) (.reg [.op ⟨0, some 68, .bslice 1 1 [.int .u8 0] [(0, 1, (.c (.one (.int .u8 255))))], none⟩,
  .op ⟨1, some 69, .b2s (.t 68), none⟩,
  .op ⟨2, some 70, .mv (.t 0), none⟩,
  .op ⟨3, some 71, .nilc (.t 70), none⟩,
  .op ⟨4, some 72, .addr 4 (.t 71), none⟩,
  .op ⟨5, some 73, .addr 3 (.t 72), none⟩,
  .op ⟨6, some 74, .load (.one (.int .i64)) (.t 73), none⟩,
  .op ⟨7, some 75, .call 4 [(.t 69), (.t 74)], none⟩,
  .op ⟨8, some 14, .mv (.t 75), none⟩]) (.skip))))
 (.seq (.reg [.op ⟨0, some 76, .mv (.t 0), none⟩,
  .op ⟨1, some 77, .nilc (.t 76), none⟩,
  .op ⟨2, some 78, .addr 4 (.t 77), none⟩,
  .op ⟨3, some 79, .addr 3 (.t 78), none⟩,
  .op ⟨4, some 80, .load (.one (.int .i64)) (.t 79), none⟩,
  .op ⟨5, some 81, .bin .sub (.t 80) (.c (.one (.int .i64 32))), none⟩,
  .op ⟨6, some 16, .mv (.t 81), none⟩])
 (.seq (.reg [.op ⟨0, some 82, .mv (.t 0), none⟩,
  .op ⟨1, some 83, .nilc (.t 82), none⟩,
  .op ⟨2, some 84, .addr 0 (.t 83), none⟩,
  .op ⟨3, some 85, .load (.one .ptr) (.t 84), none⟩,
  .op ⟨4, some 86, .mv (.t 1), none⟩,
  .op ⟨5, some 87, .mv (.t 2), none⟩,
  .op ⟨6, some 88, .mv (.t 14), none⟩,
  .op ⟨7, some 89, .mv (.t 16), none⟩,
  .op ⟨8, some 90, .slstr (.t 88) none (some (.t 89)), none⟩,
  .op ⟨9, some 91, .mv (.t 14), none⟩,
  .op ⟨10, some 92, .mv (.t 16), none⟩,
  .op ⟨11, some 93, .slstr (.t 91) (some (.t 92)) none, none⟩,
  .op ⟨12, some 94, .call 5 [(.t 85), (.t 86), (.t 87), (.t 90), (.t 93)], none⟩,
  .op ⟨13, some 15, .mv (.t 94), none⟩])
 (.seq (.seq (.reg [.op ⟨0, some 95, .mv (.t 15), none⟩,
  .op ⟨1, some 96, .bin .neq (.t 95) (.c (.one (.int .i64 52))), none⟩])
 (.cond (.t 96) (.reg [.op ⟨0, some 97, .mv (.t 0), none⟩,
  .op ⟨1, some 98, .nilc (.t 97), none⟩,
  .op ⟨2, some 99, .addr 9 (.t 98), none⟩,
  .op ⟨3, some 100, .load (.one .mp) (.t 99), none⟩,
  .op ⟨4, some 101, .mv (.t 0), none⟩,
  .op ⟨5, some 102, .mv (.t 1), none⟩,
  .op ⟨6, some 103, .mv (.t 2), none⟩,
  .op ⟨7, some 104, .call 6 [(.t 101), (.t 102), (.t 103)], none⟩,
  .again ⟨3, some 100, .load (.one .mp) (.t 99), none⟩,
  .op ⟨8, none, .mdel (.t 100) (.t 104), none⟩]) (.skip)))
 (.seq (.reg [.op ⟨0, some 105, .mv (.t 15), none⟩,
  .op ⟨1, some 10, .mv (.t 105), none⟩])
 (.ret)))))))))))⟩
noncomputable def cell_Cells_Program (x0 : Ptr) (x1 : Int) (x2 : Int) (x3 : Bytes) (x4 : Bytes) (H : Heap) : Option ((Int × Unit) × Heap) :=
 cond (Option.isNone x0) (
 some ((1, ()), H)) (
 (x0).bind fun (a1 : Nat × Nat) =>
 (rdP H a1.1 a1.2).bind fun (v2 : Ptr) =>
 (nand_Chip_Read v2 x1 x2 H).bind fun (r3 : ((Bytes × Bytes × Int × Unit) × Heap)) =>
 cond (!decide (r3.1.2.2.1 = 0)) (
 some ((r3.1.2.2.1, ()), r3.2)) (
 (x0).bind fun (a4 : Nat × Nat) =>
 (rdI .i64 r3.2 a4.1 (a4.2 + 3)).bind fun (v5 : Int) =>
 cond (!decide ((List.length (x3 : Bytes) : Int) = v5)) (
 some ((1, ()), r3.2)) (
 cond (!decide ((List.length (x4 : Bytes) : Int) = 32)) (
 some ((1, ()), r3.2)) (
 (catS x3 x4).bind fun (s6 : Bytes) =>
 (x0).bind fun (a7 : Nat × Nat) =>
 Option.bind (α := (Int × Int × Int × Int × Unit)) (rd r3.2 (.agg [.int .i64, .int .i64, .int .i64, .int .i64]) a7.1 (a7.2 + 4)) fun (v8 : (Int × Int × Int × Int × Unit)) =>
 (cell_Cells_mask x0 x1 x2 r3.2).bind fun (r9 : ((Int × Unit) × Heap)) =>
 (weave_Encode s6 (v8.1, v8.2.1, v8.2.2.1, v8.2.2.2.1, ()) r9.1.1).bind fun (r10 : (Bytes × Int × Unit)) =>
 Option.bind (α := (Int × Int × Int × Int × Unit)) (rd r9.2 (.agg [.int .i64, .int .i64, .int .i64, .int .i64]) a7.1 (a7.2 + 4)) fun (v11 : (Int × Int × Int × Int × Unit)) =>
 if V.w (.agg [.int .i64 v11.1, .int .i64 v11.2.1, .int .i64 v11.2.2.1, .int .i64 v11.2.2.2.1]) = V.w (.agg [.int .i64 v8.1, .int .i64 v8.2.1, .int .i64 v8.2.2.1, .int .i64 v8.2.2.2.1]) then
 cond (!decide (r10.2.1 = 0)) (
 some ((r10.2.1, ()), r9.2)) (
 ((catS x3 x4).bind fun (s12 : Bytes) =>
 (weave_Erased s12 0).bind fun (r13 : (Bool × Unit)) =>
 cond r13.1 (
 let H14 : Heap := r9.2 ++ [Blk.cells [.int .u8 255] .exact]
 (strOf H14 (⟨some (r9.2.length, 0), 1, 1⟩)).bind fun (s15 : Bytes) =>
 (x0).bind fun (a16 : Nat × Nat) =>
 (rdI .i64 H14 a16.1 (a16.2 + 7)).bind fun (v17 : Int) =>
 (strings_Repeat s15 v17).bind fun (r18 : (Bytes × Unit)) =>
 some ((r18.1, ()), H14)) (
 some ((r10.1, ()), r9.2)) : Option ((Bytes × Unit) × Heap)).bind fun (p19 : (Bytes × Unit) × Heap) =>
 (x0).bind fun (a20 : Nat × Nat) =>
 (rdI .i64 p19.2 a20.1 (a20.2 + 7)).bind fun (v21 : Int) =>
 (x0).bind fun (a22 : Nat × Nat) =>
 (rdP p19.2 a22.1 a22.2).bind fun (v23 : Ptr) =>
 (subS p19.1.1 0 (IntKind.wrap .i64 (v21 - 32))).bind fun (s24 : Bytes) =>
 (subS p19.1.1 (IntKind.wrap .i64 (v21 - 32)) (List.length (p19.1.1 : Bytes) : Int)).bind fun (s25 : Bytes) =>
 (nand_Chip_Program v23 x1 x2 s24 s25 p19.2).bind fun (r26 : ((Int × Unit) × Heap)) =>
 cond (!decide (r26.1.1 = 52)) (
 (x0).bind fun (a27 : Nat × Nat) =>
 (rdM r26.2 a27.1 (a27.2 + 9)).bind fun (v28 : Option Nat) =>
 (cell_Cells_at x0 x1 x2 r26.2).bind fun (r29 : ((Int × Unit) × Heap)) =>
 (rdM r29.2 a27.1 (a27.2 + 9)).bind fun (v30 : Option Nat) =>
 if V.w (.one (.mp v30)) = V.w (.one (.mp v28)) then
 (mdel r29.2 v28 r29.1.1).bind fun (H31 : Heap) =>
 some ((r26.1.1, ()), H31)
 else none) (
 some ((r26.1.1, ()), r26.2)))
 else none))))
noncomputable def cell_Cells_Program.c : Callee := .full [.one .ptr, .one (.int .i64), .one (.int .i64), .one .str, .one .str] [.one (.int .i64)] (fun x H => cell_Cells_Program x.1 x.2.1 x.2.2.1 x.2.2.2.1 x.2.2.2.2.1 H)
noncomputable def cell_Cells_Program.calls : Nat → Option Callee
  | 0 => some nand_Chip_Read.c
  | 1 => some cell_Cells_mask.c
  | 2 => some weave_Encode.c
  | 3 => some weave_Erased.c
  | 4 => some strings_Repeat.c
  | 5 => some nand_Chip_Program.c
  | 6 => some cell_Cells_at.c
  | _ => none
theorem cell_Cells_Program.eq : evFull cell_Cells_Program.calls cell_Cells_Program.af = (fun x H => cell_Cells_Program x.1 x.2.1 x.2.2.1 x.2.2.2.1 x.2.2.2.2.1 H) := by kernel_rfl

/-! ### (*tinderbox/cell.Cells).turn -/
def cell_Cells_turn.af : AFun := ⟨[.one .ptr], [], [],
 .seq (.reg [.op ⟨0, some 6, .mv (.t 0), none⟩,
  .op ⟨1, some 7, .nilc (.t 6), none⟩,
  .op ⟨2, some 8, .addr 10 (.t 7), none⟩,
  .op ⟨3, some 9, .load (.one (.int .i64)) (.t 8), none⟩,
  .op ⟨4, some 10, .bin .add (.t 9) (.c (.one (.int .i64 1))), none⟩,
  .op ⟨5, some 11, .nilc (.t 6), none⟩,
  .op ⟨6, some 12, .addr 10 (.t 11), none⟩,
  .op ⟨7, none, .store 1 (.t 12) (.t 10), none⟩])
 (.seq (.reg [.op ⟨0, some 13, .mv (.t 0), none⟩,
  .op ⟨1, some 14, .nilc (.t 13), none⟩,
  .op ⟨2, some 15, .addr 8 (.t 14), none⟩,
  .op ⟨3, some 16, .load (.one (.sl 5)) (.t 15), none⟩,
  .op ⟨4, some 17, .len (.t 16), none⟩,
  .op ⟨5, some 18, .mv (.c (.one (.int .i64 0))), none⟩])
 (.block 0 (.loop [(18, .one (.int .i64))] [(.exit 0, [])] (.seq (.reg [.op ⟨0, some 19, .bin .lss (.t 18) (.t 17), none⟩])
 (.seq (.cond (.t 19) (.skip) (.exit 0))
 (.seq (.block 1 (.seq (.reg [.op ⟨0, some 20, .idxa 5 (.t 16) (.t 18), none⟩,
  .op ⟨1, some 21, .load (.agg [.int .i64, .int .i64, .int .i64, .int .i64, .int .u8]) (.t 20), none⟩,
  .op ⟨2, some 3, .new [.int .i64 0, .int .i64 0, .int .i64 0, .int .i64 0, .int .u8 0], none⟩,
  .op ⟨3, none, .store 5 (.t 3) (.t 21), none⟩])
 (.seq (.seq (.reg [.op ⟨0, some 22, .addr 0 (.t 3), none⟩,
  .op ⟨1, some 23, .load (.one (.int .i64)) (.t 22), none⟩,
  .op ⟨2, some 24, .mv (.t 0), none⟩,
  .op ⟨3, some 25, .nilc (.t 24), none⟩,
  .op ⟨4, some 26, .addr 10 (.t 25), none⟩,
  .op ⟨5, some 27, .load (.one (.int .i64)) (.t 26), none⟩,
  .op ⟨6, some 28, .bin .neq (.t 23) (.t 27), none⟩,
  .op ⟨7, some 29, .mv (.t 28), none⟩,
  .op ⟨8, some 30, .addr 1 (.t 3), some (29, false)⟩,
  .op ⟨9, some 31, .load (.one (.int .i64)) (.t 30), some (29, false)⟩,
  .op ⟨10, some 32, .bin .lss (.t 31) (.c (.one (.int .i64 0))), some (29, false)⟩,
  .op ⟨11, some 33, .pick (.t 29) (.c (.one (.bool true))) (.t 32), none⟩,
  .op ⟨12, some 34, .mv (.t 33), none⟩,
  .op ⟨13, some 35, .addr 1 (.t 3), some (34, false)⟩,
  .op ⟨14, some 36, .load (.one (.int .i64)) (.t 35), some (34, false)⟩,
  .op ⟨15, some 37, .mv (.t 0), some (34, false)⟩,
  .op ⟨16, some 38, .nilc (.t 37), some (34, false)⟩,
  .op ⟨17, some 39, .addr 1 (.t 38), some (34, false)⟩,
  .op ⟨18, some 40, .addr 0 (.t 39), some (34, false)⟩,
  .op ⟨19, some 41, .load (.one (.int .i64)) (.t 40), some (34, false)⟩,
  .op ⟨20, some 42, .bin .geq (.t 36) (.t 41), some (34, false)⟩,
  .op ⟨21, some 43, .pick (.t 34) (.c (.one (.bool true))) (.t 42), none⟩,
  .op ⟨22, some 44, .mv (.t 43), none⟩,
  .op ⟨23, some 45, .addr 2 (.t 3), some (44, false)⟩,
  .op ⟨24, some 46, .load (.one (.int .i64)) (.t 45), some (44, false)⟩,
  .op ⟨25, some 47, .bin .lss (.t 46) (.c (.one (.int .i64 0))), some (44, false)⟩,
  .op ⟨26, some 48, .pick (.t 44) (.c (.one (.bool true))) (.t 47), none⟩,
  .op ⟨27, some 49, .mv (.t 48), none⟩,
  .op ⟨28, some 50, .addr 2 (.t 3), some (49, false)⟩,
  .op ⟨29, some 51, .load (.one (.int .i64)) (.t 50), some (49, false)⟩,
  .op ⟨30, some 52, .mv (.t 0), some (49, false)⟩,
  .op ⟨31, some 53, .nilc (.t 52), some (49, false)⟩,
  .op ⟨32, some 54, .addr 1 (.t 53), some (49, false)⟩,
  .op ⟨33, some 55, .addr 1 (.t 54), some (49, false)⟩,
  .op ⟨34, some 56, .load (.one (.int .i64)) (.t 55), some (49, false)⟩,
  .op ⟨35, some 57, .bin .geq (.t 51) (.t 56), some (49, false)⟩,
  .op ⟨36, some 58, .pick (.t 49) (.c (.one (.bool true))) (.t 57), none⟩,
  .op ⟨37, some 59, .mv (.t 58), none⟩,
  .op ⟨38, some 60, .addr 3 (.t 3), some (59, false)⟩,
  .op ⟨39, some 61, .load (.one (.int .i64)) (.t 60), some (59, false)⟩,
  .op ⟨40, some 62, .bin .lss (.t 61) (.c (.one (.int .i64 0))), some (59, false)⟩,
  .op ⟨41, some 63, .pick (.t 59) (.c (.one (.bool true))) (.t 62), none⟩,
  .op ⟨42, some 64, .mv (.t 63), none⟩,
  .op ⟨43, some 65, .addr 3 (.t 3), some (64, false)⟩,
  .op ⟨44, some 66, .load (.one (.int .i64)) (.t 65), some (64, false)⟩,
  .op ⟨45, some 67, .mv (.t 0), some (64, false)⟩,
  .op ⟨46, some 68, .nilc (.t 67), some (64, false)⟩,
  .op ⟨47, some 69, .addr 4 (.t 68), some (64, false)⟩,
  .op ⟨48, some 70, .addr 3 (.t 69), some (64, false)⟩,
  .op ⟨49, some 71, .load (.one (.int .i64)) (.t 70), some (64, false)⟩,
  .op ⟨50, some 72, .bin .geq (.t 66) (.t 71), some (64, false)⟩,
  .op ⟨51, some 73, .pick (.t 64) (.c (.one (.bool true))) (.t 72), none⟩])
 (.cond (.t 73) (.exit 1) (.skip)))
 (.seq (.reg [.op ⟨0, some 74, .mv (.t 0), none⟩,
  .op ⟨1, some 75, .addr 1 (.t 3), none⟩,
  .op ⟨2, some 76, .load (.one (.int .i64)) (.t 75), none⟩,
  .op ⟨3, some 77, .addr 2 (.t 3), none⟩,
  .op ⟨4, some 78, .load (.one (.int .i64)) (.t 77), none⟩,
  .op ⟨5, some 79, .call 0 [(.t 74), (.t 76), (.t 78)], none⟩,
  .op ⟨6, some 4, .mv (.t 79), none⟩])
 (.seq (.reg [.op ⟨0, some 80, .mv (.t 0), none⟩,
  .op ⟨1, some 81, .nilc (.t 80), none⟩,
  .op ⟨2, some 82, .addr 9 (.t 81), none⟩,
  .op ⟨3, some 83, .load (.one .mp) (.t 82), none⟩,
  .op ⟨4, some 84, .mv (.t 4), none⟩,
  .op ⟨5, some 85, .mget (.one .str) (.one (.str [])) false (.t 83) (.t 84), none⟩,
  .op ⟨6, some 5, .mv (.t 85), none⟩])
 (.seq (.scope [(.normal, [(5, .one .str)])] (.seq (.reg [.op ⟨0, some 86, .mv (.t 5), none⟩,
  .op ⟨1, some 87, .bin .eql (.t 86) (.c (.one (.str []))), none⟩])
 (.cond (.t 87) (.reg [.op ⟨0, some 88, .mv (.t 0), none⟩,
  .op ⟨1, some 89, .nilc (.t 88), none⟩,
  .op ⟨2, some 90, .addr 4 (.t 89), none⟩,
  .op ⟨3, some 91, .addr 3 (.t 90), none⟩,
  .op ⟨4, some 92, .load (.one (.int .i64)) (.t 91), none⟩,
  .op ⟨5, some 93, .call 1 [(.c (.one (.str [0]))), (.t 92)], none⟩,
  .op ⟨6, some 5, .mv (.t 93), none⟩]) (.skip))))
 (.reg [.op ⟨0, some 94, .mv (.t 0), none⟩,
  .op ⟨1, some 95, .nilc (.t 94), none⟩,
  .op ⟨2, some 96, .addr 9 (.t 95), none⟩,
  .op ⟨3, some 97, .load (.one .mp) (.t 96), none⟩,
  .op ⟨4, some 98, .mv (.t 4), none⟩,
  .op ⟨5, some 99, .mv (.t 5), none⟩,
  .op ⟨6, some 100, .addr 3 (.t 3), none⟩,
  .op ⟨7, some 101, .load (.one (.int .i64)) (.t 100), none⟩,
  .op ⟨8, some 102, .slstr (.t 99) none (some (.t 101)), none⟩,
  .op ⟨9, some 103, .mv (.t 5), none⟩,
  .op ⟨10, some 104, .addr 3 (.t 3), none⟩,
  .op ⟨11, some 105, .load (.one (.int .i64)) (.t 104), none⟩,
  .op ⟨12, some 106, .index (.t 103) (.t 105), none⟩,
  .op ⟨13, some 107, .addr 4 (.t 3), none⟩,
  .op ⟨14, some 108, .load (.one (.int .u8)) (.t 107), none⟩,
  .op ⟨15, some 109, .bin .xor (.t 106) (.t 108), none⟩,
  .op ⟨16, some 110, .bslice 1 1 [.int .u8 0] [(0, 1, (.t 109))], none⟩,
  .op ⟨17, some 111, .b2s (.t 110), none⟩,
  .op ⟨18, some 112, .bin .add (.t 102) (.t 111), none⟩,
  .op ⟨19, some 113, .mv (.t 5), none⟩,
  .op ⟨20, some 114, .addr 3 (.t 3), none⟩,
  .op ⟨21, some 115, .load (.one (.int .i64)) (.t 114), none⟩,
  .op ⟨22, some 116, .bin .add (.t 115) (.c (.one (.int .i64 1))), none⟩,
  .op ⟨23, some 117, .slstr (.t 113) (some (.t 116)) none, none⟩,
  .op ⟨24, some 118, .bin .add (.t 112) (.t 117), none⟩,
  .op ⟨25, none, .mset (.t 97) (.t 98) (.t 118), none⟩])))))))
 (.reg [.op ⟨0, some 119, .bin .add (.t 18) (.c (.one (.int .i64 1))), none⟩,
  .op ⟨1, some 18, .mv (.t 119), none⟩])))))))⟩
noncomputable def cell_Cells_turn.s1 (x0 : Ptr) (v6 : Sl) (s7 : (Int × Unit)) (H8 : Heap) : Option (((Int × Unit) ⊕ (Unit)) × Heap) :=
 cond (decide (s7.1 < (v6.len : Int))) (
 (Sl.at 5 v6 s7.1).bind fun (a9 : (Nat × Nat)) =>
 Option.bind (α := (Int × Int × Int × Int × Int × Unit)) (rd H8 (.agg [.int .i64, .int .i64, .int .i64, .int .i64, .int .u8]) a9.1 a9.2) fun (v10 : (Int × Int × Int × Int × Int × Unit)) =>
 let H11 : Heap := H8 ++ [Blk.cells [.int .i64 0, .int .i64 0, .int .i64 0, .int .i64 0, .int .u8 0] .exact]
 (wr H11 H8.length 0 [.int .i64 v10.1, .int .i64 v10.2.1, .int .i64 v10.2.2.1, .int .i64 v10.2.2.2.1, .int .u8 v10.2.2.2.2.1]).bind fun (H12 : Heap) =>
 (rdI .i64 H12 H8.length 0).bind fun (v13 : Int) =>
 (x0).bind fun (a14 : Nat × Nat) =>
 (rdI .i64 H12 a14.1 (a14.2 + 10)).bind fun (v15 : Int) =>
 cond (!decide (v13 = v15)) (
 some (Sum.inl ((IntKind.wrap .i64 (s7.1 + 1)), ()), H12)) (
 (rdI .i64 H12 H8.length 1).bind fun (v16 : Int) =>
 cond (decide (v16 < 0)) (
 some (Sum.inl ((IntKind.wrap .i64 (s7.1 + 1)), ()), H12)) (
 (rdI .i64 H12 H8.length 1).bind fun (v17 : Int) =>
 (x0).bind fun (a18 : Nat × Nat) =>
 (rdI .i64 H12 a18.1 (a18.2 + 1)).bind fun (v19 : Int) =>
 cond (decide (v19 ≤ v17)) (
 some (Sum.inl ((IntKind.wrap .i64 (s7.1 + 1)), ()), H12)) (
 (rdI .i64 H12 H8.length 2).bind fun (v20 : Int) =>
 cond (decide (v20 < 0)) (
 some (Sum.inl ((IntKind.wrap .i64 (s7.1 + 1)), ()), H12)) (
 (rdI .i64 H12 H8.length 2).bind fun (v21 : Int) =>
 (x0).bind fun (a22 : Nat × Nat) =>
 (rdI .i64 H12 a22.1 (a22.2 + 2)).bind fun (v23 : Int) =>
 cond (decide (v23 ≤ v21)) (
 some (Sum.inl ((IntKind.wrap .i64 (s7.1 + 1)), ()), H12)) (
 (rdI .i64 H12 H8.length 3).bind fun (v24 : Int) =>
 cond (decide (v24 < 0)) (
 some (Sum.inl ((IntKind.wrap .i64 (s7.1 + 1)), ()), H12)) (
 (rdI .i64 H12 H8.length 3).bind fun (v25 : Int) =>
 (x0).bind fun (a26 : Nat × Nat) =>
 (rdI .i64 H12 a26.1 (a26.2 + 7)).bind fun (v27 : Int) =>
 cond (decide (v27 ≤ v25)) (
 some (Sum.inl ((IntKind.wrap .i64 (s7.1 + 1)), ()), H12)) (
 (rdI .i64 H12 H8.length 1).bind fun (v28 : Int) =>
 (rdI .i64 H12 H8.length 2).bind fun (v29 : Int) =>
 (cell_Cells_at x0 v28 v29 H12).bind fun (r30 : ((Int × Unit) × Heap)) =>
 (x0).bind fun (a31 : Nat × Nat) =>
 (rdM r30.2 a31.1 (a31.2 + 9)).bind fun (v32 : Option Nat) =>
 Option.bind (α := (Bytes × Bool)) (mget r30.2 (.one .str) (.one (.str [])) v32 r30.1.1) fun (v33 : (Bytes × Bool)) =>
 (cond (decide ((v33.1 : Bytes) = [])) (
 (x0).bind fun (a34 : Nat × Nat) =>
 (rdI .i64 r30.2 a34.1 (a34.2 + 7)).bind fun (v35 : Int) =>
 (strings_Repeat [0] v35).bind fun (r36 : (Bytes × Unit)) =>
 some ((r36.1, ()), r30.2)) (
 some ((v33.1, ()), r30.2)) : Option ((Bytes × Unit) × Heap)).bind fun (p37 : (Bytes × Unit) × Heap) =>
 (x0).bind fun (a38 : Nat × Nat) =>
 (rdM p37.2 a38.1 (a38.2 + 9)).bind fun (v39 : Option Nat) =>
 (rdI .i64 p37.2 H8.length 3).bind fun (v40 : Int) =>
 (subS p37.1.1 0 v40).bind fun (s41 : Bytes) =>
 (rdI .i64 p37.2 H8.length 3).bind fun (v42 : Int) =>
 (idxS p37.1.1 v42).bind fun (n43 : Int) =>
 (rdI .u8 p37.2 H8.length 4).bind fun (v44 : Int) =>
 let H45 : Heap := p37.2 ++ [Blk.cells [.int .u8 (bitsI .xor .u8 n43 v44)] .exact]
 (strOf H45 (⟨some (p37.2.length, 0), 1, 1⟩)).bind fun (s46 : Bytes) =>
 (catS s41 s46).bind fun (s47 : Bytes) =>
 (rdI .i64 H45 H8.length 3).bind fun (v48 : Int) =>
 (subS p37.1.1 (IntKind.wrap .i64 (v48 + 1)) (List.length (p37.1.1 : Bytes) : Int)).bind fun (s49 : Bytes) =>
 (catS s47 s49).bind fun (s50 : Bytes) =>
 (mset H45 v39 r30.1.1 (.one (.str s50))).bind fun (H51 : Heap) =>
 some (Sum.inl ((IntKind.wrap .i64 (s7.1 + 1)), ()), H51))))))))) (
 some (Sum.inr (()), H8))
noncomputable def cell_Cells_turn (x0 : Ptr) (H : Heap) : Option ((Unit) × Heap) :=
 (x0).bind fun (a1 : Nat × Nat) =>
 (rdI .i64 H a1.1 (a1.2 + 10)).bind fun (v2 : Int) =>
 (x0).bind fun (a3 : Nat × Nat) =>
 (wr H a3.1 (a3.2 + 10) [.int .i64 (IntKind.wrap .i64 (v2 + 1))]).bind fun (H4 : Heap) =>
 (x0).bind fun (a5 : Nat × Nat) =>
 (rdSl 5 H4 a5.1 (a5.2 + 8)).bind fun (v6 : Sl) =>
 (loopW (cell_Cells_turn.s1 x0 v6) (0, ()) H4).bind fun (p52 : (Unit) × Heap) =>
 some ((()), p52.2)
noncomputable def cell_Cells_turn.c : Callee := .full [.one .ptr] [] (fun x H => cell_Cells_turn x.1 H)
noncomputable def cell_Cells_turn.calls : Nat → Option Callee
  | 0 => some cell_Cells_at.c
  | 1 => some strings_Repeat.c
  | _ => none
theorem cell_Cells_turn.eq : evFull cell_Cells_turn.calls cell_Cells_turn.af = (fun x H => cell_Cells_turn x.1 H) := by kernel_rfl

/-! ### (*tinderbox/cell.Cells).raw -/
def cell_Cells_raw.af : AFun := ⟨[.one .ptr, .one (.int .i64), .one (.int .i64)], [.one .str, .one (.int .i64)], [.t 6, .t 7],
 .seq (.reg [.op ⟨0, some 6, .mv (.c (.one (.str []))), none⟩,
  .op ⟨1, some 7, .mv (.c (.one (.int .i64 0))), none⟩])
 (.seq (.reg [.op ⟨0, some 14, .mv (.t 0), none⟩,
  .op ⟨1, some 15, .nilc (.t 14), none⟩,
  .op ⟨2, some 16, .addr 0 (.t 15), none⟩,
  .op ⟨3, some 17, .load (.one .ptr) (.t 16), none⟩,
  .op ⟨4, some 18, .mv (.t 1), none⟩,
  .op ⟨5, some 19, .mv (.t 2), none⟩,
  .op ⟨6, some 20, .call 0 [(.t 17), (.t 18), (.t 19)], none⟩,
  .op ⟨7, some 13, .mv (.t 20), none⟩,
  .op ⟨8, some 21, .ext (.t 13) 0, none⟩,
  .op ⟨9, some 22, .ext (.t 13) 1, none⟩,
  .op ⟨10, some 23, .ext (.t 13) 2, none⟩,
  .op ⟨11, some 8, .mv (.t 21), none⟩,
  .op ⟨12, some 9, .mv (.t 22), none⟩,
  .op ⟨13, some 10, .mv (.t 23), none⟩])
 (.seq (.seq (.reg [.op ⟨0, some 24, .mv (.t 10), none⟩,
  .op ⟨1, some 25, .bin .neq (.t 24) (.c (.one (.int .i64 0))), none⟩])
 (.cond (.t 25) (.seq (.reg [.op ⟨0, some 26, .mv (.t 10), none⟩,
  .op ⟨1, some 6, .mv (.c (.one (.str []))), none⟩,
  .op ⟨2, some 7, .mv (.t 26), none⟩])
 (.ret)) (.skip)))
 (.seq (.reg [.op ⟨0, some 27, .mv (.t 8), none⟩,
  .op ⟨1, some 28, .mv (.t 9), none⟩,
  .op ⟨2, some 29, .bin .add (.t 27) (.t 28), none⟩,
  .op ⟨3, some 11, .mv (.t 29), none⟩])
 (.seq (.seq (.reg [.op ⟨0, some 30, .mv (.t 0), none⟩,
  .op ⟨1, some 31, .nilc (.t 30), none⟩,
  .op ⟨2, some 32, .addr 9 (.t 31), none⟩,
  .op ⟨3, some 33, .load (.one .mp) (.t 32), none⟩,
  .op ⟨4, some 34, .mv (.t 0), none⟩,
  .op ⟨5, some 35, .mv (.t 1), none⟩,
  .op ⟨6, some 36, .mv (.t 2), none⟩,
  .op ⟨7, some 37, .call 1 [(.t 34), (.t 35), (.t 36)], none⟩,
  .op ⟨8, some 38, .mget (.one .str) (.one (.str [])) false (.t 33) (.t 37), none⟩,
  .op ⟨9, some 12, .mv (.t 38), none⟩,
  .again ⟨3, some 33, .load (.one .mp) (.t 32), none⟩])
 (.seq (.reg [.op ⟨0, some 39, .mv (.t 12), none⟩,
  .op ⟨1, some 40, .bin .neq (.t 39) (.c (.one (.str []))), none⟩])
 (.cond (.t 40) (.reg [.op ⟨0, some 41, .mv (.t 11), none⟩,
  .op ⟨1, some 42, .mv (.t 12), none⟩,
  .op ⟨2, some 43, .call 2 [(.t 41), (.t 42)], none⟩,
  .op ⟨3, some 11, .mv (.t 43), none⟩]) (.skip))))
 (.seq (.reg [.op ⟨0, some 44, .mv (.t 11), none⟩,
  .op ⟨1, some 6, .mv (.t 44), none⟩,
  .op ⟨2, some 7, .mv (.c (.one (.int .i64 0))), none⟩])
 (.ret))))))⟩
noncomputable def cell_Cells_raw (x0 : Ptr) (x1 : Int) (x2 : Int) (H : Heap) : Option ((Bytes × Int × Unit) × Heap) :=
 (x0).bind fun (a1 : Nat × Nat) =>
 (rdP H a1.1 a1.2).bind fun (v2 : Ptr) =>
 (nand_Chip_Read v2 x1 x2 H).bind fun (r3 : ((Bytes × Bytes × Int × Unit) × Heap)) =>
 cond (!decide (r3.1.2.2.1 = 0)) (
 some (([], r3.1.2.2.1, ()), r3.2)) (
 (catS r3.1.1 r3.1.2.1).bind fun (s4 : Bytes) =>
 (x0).bind fun (a5 : Nat × Nat) =>
 (rdM r3.2 a5.1 (a5.2 + 9)).bind fun (v6 : Option Nat) =>
 (cell_Cells_at x0 x1 x2 r3.2).bind fun (r7 : ((Int × Unit) × Heap)) =>
 Option.bind (α := (Bytes × Bool)) (mget r7.2 (.one .str) (.one (.str [])) v6 r7.1.1) fun (v8 : (Bytes × Bool)) =>
 (rdM r7.2 a5.1 (a5.2 + 9)).bind fun (v9 : Option Nat) =>
 if V.w (.one (.mp v9)) = V.w (.one (.mp v6)) then
 cond (!decide ((v8.1 : Bytes) = [])) (
 (weave_Mix s4 v8.1).bind fun (r10 : (Bytes × Unit)) =>
 some ((r10.1, 0, ()), r7.2)) (
 some ((s4, 0, ()), r7.2))
 else none)
noncomputable def cell_Cells_raw.c : Callee := .full [.one .ptr, .one (.int .i64), .one (.int .i64)] [.one .str, .one (.int .i64)] (fun x H => cell_Cells_raw x.1 x.2.1 x.2.2.1 H)
noncomputable def cell_Cells_raw.calls : Nat → Option Callee
  | 0 => some nand_Chip_Read.c
  | 1 => some cell_Cells_at.c
  | 2 => some weave_Mix.c
  | _ => none
theorem cell_Cells_raw.eq : evFull cell_Cells_raw.calls cell_Cells_raw.af = (fun x H => cell_Cells_raw x.1 x.2.1 x.2.2.1 H) := by kernel_rfl

/-! ### (*tinderbox/cell.Cells).Read -/
def cell_Cells_Read.af : AFun := ⟨[.one .ptr, .one (.int .i64), .one (.int .i64)], [.one .str, .one .str, .one (.int .i64)], [.t 6, .t 7, .t 8],
 .seq (.reg [.op ⟨0, some 6, .mv (.c (.one (.str []))), none⟩,
  .op ⟨1, some 7, .mv (.c (.one (.str []))), none⟩,
  .op ⟨2, some 8, .mv (.c (.one (.int .i64 0))), none⟩])
 (.seq (.seq (.reg [.op ⟨0, some 17, .mv (.t 0), none⟩,
  .op ⟨1, some 18, .isnil false (.t 17), none⟩])
 (.cond (.t 18) (.seq (.reg [.op ⟨0, some 6, .mv (.c (.one (.str []))), none⟩,
  .op ⟨1, some 7, .mv (.c (.one (.str []))), none⟩,
  .op ⟨2, some 8, .mv (.c (.one (.int .i64 1))), none⟩])
 (.ret)) (.skip)))
 (.seq (.reg [.op ⟨0, some 19, .mv (.t 0), none⟩,
  .op ⟨1, some 20, .build [.int .i64 0, .bool false] [], none⟩,
  .op ⟨2, some 21, .nilc (.t 19), none⟩,
  .op ⟨3, some 22, .addr 12 (.t 21), none⟩,
  .op ⟨4, none, .store 2 (.t 22) (.t 20), none⟩])
 (.seq (.seq (.reg [.op ⟨0, some 24, .mv (.t 0), none⟩,
  .op ⟨1, some 25, .nilc (.t 24), none⟩,
  .op ⟨2, some 26, .addr 0 (.t 25), none⟩,
  .op ⟨3, some 27, .load (.one .ptr) (.t 26), none⟩,
  .op ⟨4, some 28, .mv (.t 1), none⟩,
  .op ⟨5, some 29, .mv (.t 2), none⟩,
  .op ⟨6, some 30, .call 0 [(.t 27), (.t 28), (.t 29)], none⟩,
  .op ⟨7, some 23, .mv (.t 30), none⟩,
  .op ⟨8, some 31, .ext (.t 23) 0, none⟩,
  .op ⟨9, some 32, .ext (.t 23) 1, none⟩,
  .op ⟨10, some 33, .ext (.t 23) 2, none⟩,
  .op ⟨11, some 9, .mv (.t 31), none⟩,
  .op ⟨12, some 10, .mv (.t 32), none⟩,
  .op ⟨13, some 11, .mv (.t 33), none⟩])
 (.seq (.reg [.op ⟨0, some 34, .mv (.t 11), none⟩,
  .op ⟨1, some 35, .bin .neq (.t 34) (.c (.one (.int .i64 0))), none⟩])
 (.cond (.t 35) (.seq (.reg [.op ⟨0, some 36, .mv (.t 11), none⟩,
  .op ⟨1, some 6, .mv (.c (.one (.str []))), none⟩,
  .op ⟨2, some 7, .mv (.c (.one (.str []))), none⟩,
  .op ⟨3, some 8, .mv (.t 36), none⟩])
 (.ret)) (.skip))))
 (.seq (.reg [.op ⟨0, some 37, .mv (.t 0), none⟩,
  .op ⟨1, some 38, .call 1 [(.t 37)], none⟩])
 (.seq (.reg [.op ⟨0, some 40, .mv (.t 0), none⟩,
  .op ⟨1, some 41, .mv (.t 1), none⟩,
  .op ⟨2, some 42, .mv (.t 2), none⟩,
  .op ⟨3, some 43, .call 2 [(.t 40), (.t 41), (.t 42)], none⟩,
  .op ⟨4, some 39, .mv (.t 43), none⟩,
  .op ⟨5, some 44, .ext (.t 39) 0, none⟩,
  .op ⟨6, some 45, .ext (.t 39) 1, none⟩,
  .op ⟨7, some 12, .mv (.t 44), none⟩,
  .op ⟨8, some 13, .mv (.t 45), none⟩])
 (.seq (.seq (.reg [.op ⟨0, some 46, .mv (.t 13), none⟩,
  .op ⟨1, some 47, .bin .neq (.t 46) (.c (.one (.int .i64 0))), none⟩])
 (.cond (.t 47) (.seq (.reg [.op ⟨0, some 48, .mv (.t 13), none⟩,
  .op ⟨1, some 6, .mv (.c (.one (.str []))), none⟩,
  .op ⟨2, some 7, .mv (.c (.one (.str []))), none⟩,
  .op ⟨3, some 8, .mv (.t 48), none⟩])
 (.ret)) (.skip)))
 (.seq (.seq (.reg [.op ⟨0, some 49, .mv (.t 12), none⟩,
  .op ⟨1, some 50, .call 3 [(.t 49), (.c (.one (.int .i64 16)))], none⟩])
 (.cond (.t 50) (.seq (.reg [.op ⟨0, some 51, .mv (.t 0), none⟩,
  .op ⟨1, some 52, .mv (.t 12), none⟩,
  .op ⟨2, some 53, .call 3 [(.t 52), (.c (.one (.int .i64 0)))], none⟩,
  .op ⟨3, some 54, .un .not (.t 53), none⟩,
  .op ⟨4, some 55, .nilc (.t 51), none⟩,
  .op ⟨5, some 56, .addr 12 (.t 55), none⟩,
  .op ⟨6, some 57, .addr 1 (.t 56), none⟩,
  .op ⟨7, none, .store 1 (.t 57) (.t 54), none⟩])
 (.seq (.reg [.op ⟨0, some 58, .bslice 1 1 [.int .u8 0] [(0, 1, (.c (.one (.int .u8 255))))], none⟩,
  .op ⟨1, some 59, .b2s (.t 58), none⟩,
  .op ⟨2, some 60, .mv (.t 0), none⟩,
  .op ⟨3, some 61, .nilc (.t 60), none⟩,
  .op ⟨4, some 62, .addr 1 (.t 61), none⟩,
  .op ⟨5, some 63, .addr 2 (.t 62), none⟩,
  .op ⟨6, some 64, .load (.one (.int .i64)) (.t 63), none⟩,
  .op ⟨7, some 65, .bin .add (.t 64) (.c (.one (.int .i64 32))), none⟩,
  .op ⟨8, some 66, .call 4 [(.t 59), (.t 65)], none⟩,
  .op ⟨9, some 14, .mv (.t 66), none⟩])
 (.seq (.reg [.op ⟨0, some 67, .mv (.t 14), none⟩,
  .op ⟨1, some 68, .mv (.t 0), none⟩,
  .op ⟨2, some 69, .nilc (.t 68), none⟩,
  .op ⟨3, some 70, .addr 1 (.t 69), none⟩,
  .op ⟨4, some 71, .addr 2 (.t 70), none⟩,
  .op ⟨5, some 72, .load (.one (.int .i64)) (.t 71), none⟩,
  .op ⟨6, some 73, .slstr (.t 67) none (some (.t 72)), none⟩,
  .op ⟨7, some 74, .mv (.t 14), none⟩,
  .op ⟨8, some 75, .mv (.t 0), none⟩,
  .op ⟨9, some 76, .nilc (.t 75), none⟩,
  .op ⟨10, some 77, .addr 1 (.t 76), none⟩,
  .op ⟨11, some 78, .addr 2 (.t 77), none⟩,
  .op ⟨12, some 79, .load (.one (.int .i64)) (.t 78), none⟩,
  .op ⟨13, some 80, .slstr (.t 74) (some (.t 79)) none, none⟩,
  .op ⟨14, some 6, .mv (.t 73), none⟩,
  .op ⟨15, some 7, .mv (.t 80), none⟩,
  .op ⟨16, some 8, .mv (.c (.one (.int .i64 0))), none⟩])
 (.ret)))) (.skip)))
 (.seq (.reg [.op ⟨0, some 82, .mv (.t 12), none⟩,
  .op ⟨1, some 83, .mv (.t 0), none⟩,
  .op ⟨2, some 84, .nilc (.t 83), none⟩,
  .op ⟨3, some 85, .addr 4 (.t 84), none⟩,
  .op ⟨4, some 86, .load (.agg [.int .i64, .int .i64, .int .i64, .int .i64]) (.t 85), none⟩,
  .op ⟨5, some 87, .mv (.t 0), none⟩,
  .op ⟨6, some 88, .mv (.t 1), none⟩,
  .op ⟨7, some 89, .mv (.t 2), none⟩,
  .op ⟨8, some 90, .call 5 [(.t 87), (.t 88), (.t 89)], none⟩,
  .again ⟨4, some 86, .load (.agg [.int .i64, .int .i64, .int .i64, .int .i64]) (.t 85), none⟩,
  .op ⟨9, some 91, .call 6 [(.t 82), (.t 86), (.t 90), (.c (.one (.sl 1 (⟨none, 0, 0⟩))))], none⟩,
  .op ⟨10, some 81, .mv (.t 91), none⟩,
  .op ⟨11, some 92, .ext (.t 81) 0, none⟩,
  .op ⟨12, some 93, .ext (.t 81) 1, none⟩,
  .op ⟨13, some 94, .ext (.t 81) 2, none⟩,
  .op ⟨14, some 15, .mv (.t 92), none⟩,
  .op ⟨15, some 16, .mv (.t 93), none⟩,
  .op ⟨16, some 13, .mv (.t 94), none⟩])
 (.seq (.seq (.reg [.op ⟨0, some 95, .mv (.t 13), none⟩,
  .op ⟨1, some 96, .bin .neq (.t 95) (.c (.one (.int .i64 0))), none⟩])
 (.cond (.t 96) (.seq (.reg [.op ⟨0, some 97, .mv (.t 13), none⟩,
  .op ⟨1, some 6, .mv (.c (.one (.str []))), none⟩,
  .op ⟨2, some 7, .mv (.c (.one (.str []))), none⟩,
  .op ⟨3, some 8, .mv (.t 97), none⟩])
 (.ret)) (.skip)))
 (.seq (.reg [.op ⟨0, some 98, .mv (.t 0), none⟩,
  .op ⟨1, some 99, .mv (.t 16), none⟩,
  .op ⟨2, some 100, .mv (.t 16), none⟩,
  .op ⟨3, some 101, .bin .geq (.t 100) (.c (.one (.int .i64 2))), none⟩,
  .op ⟨4, some 102, .build [.int .i64 0, .bool false] [(0, 1, (.t 99)), (1, 1, (.t 101))], none⟩,
  .op ⟨5, some 103, .nilc (.t 98), none⟩,
  .op ⟨6, some 104, .addr 12 (.t 103), none⟩,
  .op ⟨7, none, .store 2 (.t 104) (.t 102), none⟩])
 (.seq (.reg [.op ⟨0, some 105, .mv (.t 15), none⟩,
  .op ⟨1, some 106, .mv (.t 0), none⟩,
  .op ⟨2, some 107, .nilc (.t 106), none⟩,
  .op ⟨3, some 108, .addr 1 (.t 107), none⟩,
  .op ⟨4, some 109, .addr 2 (.t 108), none⟩,
  .op ⟨5, some 110, .load (.one (.int .i64)) (.t 109), none⟩,
  .op ⟨6, some 111, .slstr (.t 105) none (some (.t 110)), none⟩,
  .op ⟨7, some 112, .mv (.t 15), none⟩,
  .op ⟨8, some 113, .mv (.t 0), none⟩,
  .op ⟨9, some 114, .nilc (.t 113), none⟩,
  .op ⟨10, some 115, .addr 1 (.t 114), none⟩,
  .op ⟨11, some 116, .addr 2 (.t 115), none⟩,
  .op ⟨12, some 117, .load (.one (.int .i64)) (.t 116), none⟩,
  .op ⟨13, some 118, .slstr (.t 112) (some (.t 117)) none, none⟩,
  .op ⟨14, some 6, .mv (.t 111), none⟩,
  .op ⟨15, some 7, .mv (.t 118), none⟩,
  .op ⟨16, some 8, .mv (.c (.one (.int .i64 0))), none⟩])
 (.ret))))))))))))⟩
noncomputable def cell_Cells_Read (x0 : Ptr) (x1 : Int) (x2 : Int) (H : Heap) : Option ((Bytes × Bytes × Int × Unit) × Heap) :=
 cond (Option.isNone x0) (
 some (([], [], 1, ()), H)) (
 (x0).bind fun (a1 : Nat × Nat) =>
 (wr H a1.1 (a1.2 + 12) [.int .i64 0, .bool false]).bind fun (H2 : Heap) =>
 (x0).bind fun (a3 : Nat × Nat) =>
 (rdP H2 a3.1 a3.2).bind fun (v4 : Ptr) =>
 (nand_Chip_Read v4 x1 x2 H2).bind fun (r5 : ((Bytes × Bytes × Int × Unit) × Heap)) =>
 cond (!decide (r5.1.2.2.1 = 0)) (
 some (([], [], r5.1.2.2.1, ()), r5.2)) (
 (cell_Cells_turn x0 r5.2).bind fun (r6 : ((Unit) × Heap)) =>
 (cell_Cells_raw x0 x1 x2 r6.2).bind fun (r7 : ((Bytes × Int × Unit) × Heap)) =>
 cond (!decide (r7.1.2.1 = 0)) (
 some (([], [], r7.1.2.1, ()), r7.2)) (
 (weave_Erased r7.1.1 16).bind fun (r8 : (Bool × Unit)) =>
 cond r8.1 (
 (weave_Erased r7.1.1 0).bind fun (r9 : (Bool × Unit)) =>
 (x0).bind fun (a10 : Nat × Nat) =>
 (wr r7.2 a10.1 (a10.2 + 13) [.bool (!r9.1)]).bind fun (H11 : Heap) =>
 let H12 : Heap := H11 ++ [Blk.cells [.int .u8 255] .exact]
 (strOf H12 (⟨some (H11.length, 0), 1, 1⟩)).bind fun (s13 : Bytes) =>
 (x0).bind fun (a14 : Nat × Nat) =>
 (rdI .i64 H12 a14.1 (a14.2 + 3)).bind fun (v15 : Int) =>
 (strings_Repeat s13 (IntKind.wrap .i64 (v15 + 32))).bind fun (r16 : (Bytes × Unit)) =>
 (x0).bind fun (a17 : Nat × Nat) =>
 (rdI .i64 H12 a17.1 (a17.2 + 3)).bind fun (v18 : Int) =>
 (subS r16.1 0 v18).bind fun (s19 : Bytes) =>
 (x0).bind fun (a20 : Nat × Nat) =>
 (rdI .i64 H12 a20.1 (a20.2 + 3)).bind fun (v21 : Int) =>
 (subS r16.1 v21 (List.length (r16.1 : Bytes) : Int)).bind fun (s22 : Bytes) =>
 some ((s19, s22, 0, ()), H12)) (
 (x0).bind fun (a23 : Nat × Nat) =>
 Option.bind (α := (Int × Int × Int × Int × Unit)) (rd r7.2 (.agg [.int .i64, .int .i64, .int .i64, .int .i64]) a23.1 (a23.2 + 4)) fun (v24 : (Int × Int × Int × Int × Unit)) =>
 (cell_Cells_mask x0 x1 x2 r7.2).bind fun (r25 : ((Int × Unit) × Heap)) =>
 Option.bind (α := (Int × Int × Int × Int × Unit)) (rd r25.2 (.agg [.int .i64, .int .i64, .int .i64, .int .i64]) a23.1 (a23.2 + 4)) fun (v26 : (Int × Int × Int × Int × Unit)) =>
 if V.w (.agg [.int .i64 v26.1, .int .i64 v26.2.1, .int .i64 v26.2.2.1, .int .i64 v26.2.2.2.1]) = V.w (.agg [.int .i64 v24.1, .int .i64 v24.2.1, .int .i64 v24.2.2.1, .int .i64 v24.2.2.2.1]) then
 (weave_Decode r7.1.1 (v24.1, v24.2.1, v24.2.2.1, v24.2.2.2.1, ()) r25.1.1 (⟨none, 0, 0⟩) r25.2).bind fun (r27 : ((Bytes × Int × Int × Unit) × Heap)) =>
 cond (!decide (r27.1.2.2.1 = 0)) (
 some (([], [], r27.1.2.2.1, ()), r27.2)) (
 (x0).bind fun (a28 : Nat × Nat) =>
 (wr r27.2 a28.1 (a28.2 + 12) [.int .i64 r27.1.2.1, .bool (decide (2 ≤ r27.1.2.1))]).bind fun (H29 : Heap) =>
 (x0).bind fun (a30 : Nat × Nat) =>
 (rdI .i64 H29 a30.1 (a30.2 + 3)).bind fun (v31 : Int) =>
 (subS r27.1.1 0 v31).bind fun (s32 : Bytes) =>
 (x0).bind fun (a33 : Nat × Nat) =>
 (rdI .i64 H29 a33.1 (a33.2 + 3)).bind fun (v34 : Int) =>
 (subS r27.1.1 v34 (List.length (r27.1.1 : Bytes) : Int)).bind fun (s35 : Bytes) =>
 some ((s32, s35, 0, ()), H29))
 else none))))
noncomputable def cell_Cells_Read.c : Callee := .full [.one .ptr, .one (.int .i64), .one (.int .i64)] [.one .str, .one .str, .one (.int .i64)] (fun x H => cell_Cells_Read x.1 x.2.1 x.2.2.1 H)
noncomputable def cell_Cells_Read.calls : Nat → Option Callee
  | 0 => some nand_Chip_Read.c
  | 1 => some cell_Cells_turn.c
  | 2 => some cell_Cells_raw.c
  | 3 => some weave_Erased.c
  | 4 => some strings_Repeat.c
  | 5 => some cell_Cells_mask.c
  | 6 => some weave_Decode.c
  | _ => none
theorem cell_Cells_Read.eq : evFull cell_Cells_Read.calls cell_Cells_Read.af = (fun x H => cell_Cells_Read x.1 x.2.1 x.2.2.1 H) := by kernel_rfl

/-! ### (*tinderbox/cell.Cells).Health -/
def cell_Cells_Health.af : AFun := ⟨[.one .ptr], [.agg [.int .i64, .bool]], [.cell 2],
 .seq (.reg [.op ⟨0, some 2, .new [.int .i64 0, .bool false], none⟩])
 (.seq (.seq (.reg [.op ⟨0, some 3, .mv (.t 0), none⟩,
  .op ⟨1, some 4, .isnil false (.t 3), none⟩])
 (.cond (.t 4) (.seq (.reg [.op ⟨0, some 5, .build [.int .i64 0, .bool false] [], none⟩,
  .op ⟨1, none, .store 2 (.t 2) (.t 5), none⟩])
 (.ret)) (.skip)))
 (.seq (.reg [.op ⟨0, some 6, .mv (.t 0), none⟩,
  .op ⟨1, some 7, .nilc (.t 6), none⟩,
  .op ⟨2, some 8, .addr 12 (.t 7), none⟩,
  .op ⟨3, some 9, .load (.agg [.int .i64, .bool]) (.t 8), none⟩,
  .op ⟨4, none, .store 2 (.t 2) (.t 9), none⟩])
 (.ret)))⟩
noncomputable def cell_Cells_Health (x0 : Ptr) (H : Heap) : Option (((Int × Bool × Unit) × Unit) × Heap) :=
 let H1 : Heap := H ++ [Blk.cells [.int .i64 0, .bool false] .exact]
 cond (Option.isNone x0) (
 (wr H1 H.length 0 [.int .i64 0, .bool false]).bind fun (H2 : Heap) =>
 Option.bind (α := (Int × Bool × Unit)) (rd H2 (.agg [.int .i64, .bool]) H.length 0) fun (v3 : (Int × Bool × Unit)) =>
 some ((v3, ()), H2)) (
 (x0).bind fun (a4 : Nat × Nat) =>
 Option.bind (α := (Int × Bool × Unit)) (rd H1 (.agg [.int .i64, .bool]) a4.1 (a4.2 + 12)) fun (v5 : (Int × Bool × Unit)) =>
 (wr H1 H.length 0 [.int .i64 v5.1, .bool v5.2.1]).bind fun (H6 : Heap) =>
 Option.bind (α := (Int × Bool × Unit)) (rd H6 (.agg [.int .i64, .bool]) H.length 0) fun (v7 : (Int × Bool × Unit)) =>
 some ((v7, ()), H6))
noncomputable def cell_Cells_Health.c : Callee := .full [.one .ptr] [.agg [.int .i64, .bool]] (fun x H => cell_Cells_Health x.1 H)
noncomputable def cell_Cells_Health.calls : Nat → Option Callee
  | _ => none
theorem cell_Cells_Health.eq : evFull cell_Cells_Health.calls cell_Cells_Health.af = (fun x H => cell_Cells_Health x.1 H) := by kernel_rfl

/-! ### (*tinderbox/cell.Cells).Reads -/
def cell_Cells_Reads.af : AFun := ⟨[.one .ptr], [.one (.int .i64)], [.t 2],
 .seq (.reg [.op ⟨0, some 2, .mv (.c (.one (.int .i64 0))), none⟩])
 (.seq (.seq (.reg [.op ⟨0, some 3, .mv (.t 0), none⟩,
  .op ⟨1, some 4, .isnil false (.t 3), none⟩])
 (.cond (.t 4) (.seq (.reg [.op ⟨0, some 2, .mv (.c (.one (.int .i64 0))), none⟩])
 (.ret)) (.skip)))
 (.seq (.reg [.op ⟨0, some 5, .mv (.t 0), none⟩,
  .op ⟨1, some 6, .nilc (.t 5), none⟩,
  .op ⟨2, some 7, .addr 10 (.t 6), none⟩,
  .op ⟨3, some 8, .load (.one (.int .i64)) (.t 7), none⟩,
  .op ⟨4, some 2, .mv (.t 8), none⟩])
 (.ret)))⟩
noncomputable def cell_Cells_Reads (x0 : Ptr) (H : Heap) : Option ((Int × Unit) × Heap) :=
 cond (Option.isNone x0) (
 some ((0, ()), H)) (
 (x0).bind fun (a1 : Nat × Nat) =>
 (rdI .i64 H a1.1 (a1.2 + 10)).bind fun (v2 : Int) =>
 some ((v2, ()), H))
noncomputable def cell_Cells_Reads.c : Callee := .full [.one .ptr] [.one (.int .i64)] (fun x H => cell_Cells_Reads x.1 H)
noncomputable def cell_Cells_Reads.calls : Nat → Option Callee
  | _ => none
theorem cell_Cells_Reads.eq : evFull cell_Cells_Reads.calls cell_Cells_Reads.af = (fun x H => cell_Cells_Reads x.1 H) := by kernel_rfl

/-! ### (*tinderbox/cell.Cells).Erase -/
def cell_Cells_Erase.af : AFun := ⟨[.one .ptr, .one (.int .i64)], [.one (.int .i64)], [.t 4],
 .seq (.reg [.op ⟨0, some 4, .mv (.c (.one (.int .i64 0))), none⟩])
 (.seq (.seq (.reg [.op ⟨0, some 7, .mv (.t 0), none⟩,
  .op ⟨1, some 8, .isnil false (.t 7), none⟩])
 (.cond (.t 8) (.seq (.reg [.op ⟨0, some 4, .mv (.c (.one (.int .i64 1))), none⟩])
 (.ret)) (.skip)))
 (.seq (.reg [.op ⟨0, some 9, .mv (.t 0), none⟩,
  .op ⟨1, some 10, .nilc (.t 9), none⟩,
  .op ⟨2, some 11, .addr 0 (.t 10), none⟩,
  .op ⟨3, some 12, .load (.one .ptr) (.t 11), none⟩,
  .op ⟨4, some 13, .mv (.t 1), none⟩,
  .op ⟨5, some 14, .call 0 [(.t 12), (.t 13)], none⟩,
  .op ⟨6, some 5, .mv (.t 14), none⟩])
 (.seq (.seq (.reg [.op ⟨0, some 15, .mv (.t 5), none⟩,
  .op ⟨1, some 16, .bin .eql (.t 15) (.c (.one (.int .i64 0))), none⟩])
 (.cond (.t 16) (.seq (.reg [.op ⟨0, some 17, .mv (.t 0), none⟩,
  .op ⟨1, some 18, .nilc (.t 17), none⟩,
  .op ⟨2, some 19, .addr 1 (.t 18), none⟩,
  .op ⟨3, some 20, .addr 1 (.t 19), none⟩,
  .op ⟨4, some 21, .load (.one (.int .i64)) (.t 20), none⟩,
  .op ⟨5, some 22, .mv (.c (.one (.int .i64 0))), none⟩])
 (.block 0 (.loop [(22, .one (.int .i64))] [(.exit 0, [])] (.seq (.reg [.op ⟨0, some 23, .bin .lss (.t 22) (.t 21), none⟩])
 (.seq (.cond (.t 23) (.skip) (.exit 0))
 (.seq (.block 1 (.seq (.reg [.op ⟨0, some 24, .mv (.t 22), none⟩,
  .op ⟨1, some 6, .mv (.t 24), none⟩])
 (.reg [.op ⟨0, some 25, .mv (.t 0), none⟩,
  .op ⟨1, some 26, .nilc (.t 25), none⟩,
  .op ⟨2, some 27, .addr 9 (.t 26), none⟩,
  .op ⟨3, some 28, .load (.one .mp) (.t 27), none⟩,
  .op ⟨4, some 29, .mv (.t 0), none⟩,
  .op ⟨5, some 30, .mv (.t 1), none⟩,
  .op ⟨6, some 31, .mv (.t 6), none⟩,
  .op ⟨7, some 32, .call 1 [(.t 29), (.t 30), (.t 31)], none⟩,
  .again ⟨3, some 28, .load (.one .mp) (.t 27), none⟩,
  .op ⟨8, none, .mdel (.t 28) (.t 32), none⟩])))
 (.reg [.op ⟨0, some 33, .bin .add (.t 22) (.c (.one (.int .i64 1))), none⟩,
  .op ⟨1, some 22, .mv (.t 33), none⟩]))))))) (.skip)))
 (.seq (.reg [.op ⟨0, some 34, .mv (.t 5), none⟩,
  .op ⟨1, some 4, .mv (.t 34), none⟩])
 (.ret)))))⟩
noncomputable def cell_Cells_Erase.s1 (x0 : Ptr) (x1 : Int) (v5 : Int) (s6 : (Int × Unit)) (H7 : Heap) : Option (((Int × Unit) ⊕ (Unit)) × Heap) :=
 cond (decide (s6.1 < v5)) (
 (x0).bind fun (a8 : Nat × Nat) =>
 (rdM H7 a8.1 (a8.2 + 9)).bind fun (v9 : Option Nat) =>
 (cell_Cells_at x0 x1 s6.1 H7).bind fun (r10 : ((Int × Unit) × Heap)) =>
 (rdM r10.2 a8.1 (a8.2 + 9)).bind fun (v11 : Option Nat) =>
 if V.w (.one (.mp v11)) = V.w (.one (.mp v9)) then
 (mdel r10.2 v9 r10.1.1).bind fun (H12 : Heap) =>
 some (Sum.inl ((IntKind.wrap .i64 (s6.1 + 1)), ()), H12)
 else none) (
 some (Sum.inr (()), H7))
noncomputable def cell_Cells_Erase (x0 : Ptr) (x1 : Int) (H : Heap) : Option ((Int × Unit) × Heap) :=
 cond (Option.isNone x0) (
 some ((1, ()), H)) (
 (x0).bind fun (a1 : Nat × Nat) =>
 (rdP H a1.1 a1.2).bind fun (v2 : Ptr) =>
 (nand_Chip_Erase v2 x1 H).bind fun (r3 : ((Int × Unit) × Heap)) =>
 cond (decide (r3.1.1 = 0)) (
 (x0).bind fun (a4 : Nat × Nat) =>
 (rdI .i64 r3.2 a4.1 (a4.2 + 2)).bind fun (v5 : Int) =>
 (loopW (cell_Cells_Erase.s1 x0 x1 v5) (0, ()) r3.2).bind fun (p13 : (Unit) × Heap) =>
 some ((r3.1.1, ()), p13.2)) (
 some ((r3.1.1, ()), r3.2)))
noncomputable def cell_Cells_Erase.c : Callee := .full [.one .ptr, .one (.int .i64)] [.one (.int .i64)] (fun x H => cell_Cells_Erase x.1 x.2.1 H)
noncomputable def cell_Cells_Erase.calls : Nat → Option Callee
  | 0 => some nand_Chip_Erase.c
  | 1 => some cell_Cells_at.c
  | _ => none
theorem cell_Cells_Erase.eq : evFull cell_Cells_Erase.calls cell_Cells_Erase.af = (fun x H => cell_Cells_Erase x.1 x.2.1 H) := by kernel_rfl

/-! ### (*tinderbox/cell.Cells).Chip -/
def cell_Cells_Chip.af : AFun := ⟨[.one .ptr], [.one .ptr], [.t 2],
 .seq (.reg [.op ⟨0, some 2, .mv (.c (.one (.ptr none))), none⟩])
 (.seq (.seq (.reg [.op ⟨0, some 3, .mv (.t 0), none⟩,
  .op ⟨1, some 4, .isnil false (.t 3), none⟩])
 (.cond (.t 4) (.seq (.reg [.op ⟨0, some 2, .mv (.c (.one (.ptr none))), none⟩])
 (.ret)) (.skip)))
 (.seq (.reg [.op ⟨0, some 5, .mv (.t 0), none⟩,
  .op ⟨1, some 6, .nilc (.t 5), none⟩,
  .op ⟨2, some 7, .addr 0 (.t 6), none⟩,
  .op ⟨3, some 8, .load (.one .ptr) (.t 7), none⟩,
  .op ⟨4, some 2, .mv (.t 8), none⟩])
 (.ret)))⟩
noncomputable def cell_Cells_Chip (x0 : Ptr) (H : Heap) : Option ((Ptr × Unit) × Heap) :=
 cond (Option.isNone x0) (
 some ((none, ()), H)) (
 (x0).bind fun (a1 : Nat × Nat) =>
 (rdP H a1.1 a1.2).bind fun (v2 : Ptr) =>
 some ((v2, ()), H))
noncomputable def cell_Cells_Chip.c : Callee := .full [.one .ptr] [.one .ptr] (fun x H => cell_Cells_Chip x.1 H)
noncomputable def cell_Cells_Chip.calls : Nat → Option Callee
  | _ => none
theorem cell_Cells_Chip.eq : evFull cell_Cells_Chip.calls cell_Cells_Chip.af = (fun x H => cell_Cells_Chip x.1 H) := by kernel_rfl
end Ev
