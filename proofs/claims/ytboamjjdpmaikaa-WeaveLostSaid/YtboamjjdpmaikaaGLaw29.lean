/- What the functions of the package Law29 compute: abstract code, and a function of plain Lean for each; the kernel checks that they are the same. Written by gen2.py. -/
import Derived.Test.YtboamjjdpmaikaaEvCore
import Derived.Test.YtboamjjdpmaikaaGRef29
import Derived.Test.YtboamjjdpmaikaaGWeave
import Derived.KernelRfl
set_option linter.unusedVariables false
set_option maxRecDepth 100000
namespace Ev
open Go (IntKind BinOp UnOp)

/-! ### tinderbox/tinderboxlaw29.awake -/
def law29_awake.af : AFun := ⟨[], [.one .bool], [.t 0],
 .seq (.reg [.op ⟨0, some 0, .mv (.c (.one (.bool false))), none⟩])
 (.seq (.reg [.op ⟨0, some 10, .call 0 [(.c (.one (.int .i64 10))), (.c (.one (.int .i64 2)))], none⟩,
  .op ⟨1, some 9, .mv (.t 10), none⟩,
  .op ⟨2, some 11, .ext (.t 9) 0, none⟩,
  .op ⟨3, some 12, .ext (.t 9) 1, none⟩,
  .op ⟨4, some 1, .new [.int .i64 0, .int .i64 0, .int .i64 0, .int .i64 0], none⟩,
  .op ⟨5, none, .store 4 (.t 1) (.t 11), none⟩,
  .op ⟨6, some 2, .mv (.t 12), none⟩])
 (.seq (.reg [.op ⟨0, some 14, .load (.agg [.int .i64, .int .i64, .int .i64, .int .i64]) (.t 1), none⟩,
  .op ⟨1, some 15, .call 1 [(.c (.one (.str [48, 49, 50, 51, 52, 53, 54, 55, 56, 57]))), (.t 14), (.c (.one (.int .i64 5)))], none⟩,
  .op ⟨2, some 13, .mv (.t 15), none⟩,
  .op ⟨3, some 16, .ext (.t 13) 0, none⟩,
  .op ⟨4, some 17, .ext (.t 13) 1, none⟩,
  .op ⟨5, some 3, .mv (.t 16), none⟩,
  .op ⟨6, some 4, .mv (.t 17), none⟩])
 (.seq (.seq (.reg [.op ⟨0, some 18, .mv (.t 2), none⟩,
  .op ⟨1, some 19, .un .not (.t 18), none⟩,
  .op ⟨2, some 20, .mv (.t 19), none⟩,
  .op ⟨3, some 21, .mv (.t 4), some (20, false)⟩,
  .op ⟨4, some 22, .bin .neq (.t 21) (.c (.one (.int .i64 0))), some (20, false)⟩,
  .op ⟨5, some 23, .pick (.t 20) (.c (.one (.bool true))) (.t 22), none⟩,
  .op ⟨6, some 24, .mv (.t 23), none⟩,
  .op ⟨7, some 25, .mv (.t 3), some (24, false)⟩,
  .op ⟨8, some 26, .lens (.t 25), some (24, false)⟩,
  .op ⟨9, some 27, .bin .neq (.t 26) (.c (.one (.int .i64 12))), some (24, false)⟩,
  .op ⟨10, some 28, .pick (.t 24) (.c (.one (.bool true))) (.t 27), none⟩])
 (.cond (.t 28) (.seq (.reg [.op ⟨0, some 0, .mv (.c (.one (.bool false))), none⟩])
 (.ret)) (.skip)))
 (.seq (.reg [.op ⟨0, some 29, .mv (.t 3), none⟩,
  .op ⟨1, some 30, .s2b (.t 29), none⟩,
  .op ⟨2, some 5, .mv (.t 30), none⟩])
 (.seq (.reg [.op ⟨0, some 31, .mv (.t 5), none⟩,
  .op ⟨1, some 32, .idxa 1 (.t 31) (.c (.one (.int .i64 3))), none⟩,
  .op ⟨2, some 33, .load (.one (.int .u8)) (.t 32), none⟩,
  .op ⟨3, some 34, .bin .xor (.t 33) (.c (.one (.int .u8 9))), none⟩,
  .op ⟨4, some 35, .idxa 1 (.t 31) (.c (.one (.int .i64 3))), none⟩,
  .op ⟨5, none, .store 1 (.t 35) (.t 34), none⟩])
 (.seq (.reg [.op ⟨0, some 37, .mv (.t 5), none⟩,
  .op ⟨1, some 38, .b2s (.t 37), none⟩,
  .op ⟨2, some 39, .load (.agg [.int .i64, .int .i64, .int .i64, .int .i64]) (.t 1), none⟩,
  .op ⟨3, some 40, .call 2 [(.t 38), (.t 39), (.c (.one (.int .i64 5))), (.c (.one (.sl 1 (⟨none, 0, 0⟩))))], none⟩,
  .op ⟨4, some 36, .mv (.t 40), none⟩,
  .op ⟨5, some 41, .ext (.t 36) 0, none⟩,
  .op ⟨6, some 42, .ext (.t 36) 1, none⟩,
  .op ⟨7, some 43, .ext (.t 36) 2, none⟩,
  .op ⟨8, some 6, .mv (.t 41), none⟩,
  .op ⟨9, some 7, .mv (.t 42), none⟩,
  .op ⟨10, some 8, .mv (.t 43), none⟩])
 (.seq (.reg [.op ⟨0, some 44, .mv (.t 8), none⟩,
  .op ⟨1, some 45, .bin .eql (.t 44) (.c (.one (.int .i64 0))), none⟩,
  .op ⟨2, some 46, .mv (.t 45), none⟩,
  .op ⟨3, some 47, .mv (.t 6), some (46, true)⟩,
  .op ⟨4, some 48, .bin .eql (.t 47) (.c (.one (.str [48, 49, 50, 51, 52, 53, 54, 55, 56, 57]))), some (46, true)⟩,
  .op ⟨5, some 49, .pick (.t 46) (.t 48) (.c (.one (.bool false))), none⟩,
  .op ⟨6, some 50, .mv (.t 49), none⟩,
  .op ⟨7, some 51, .mv (.t 7), some (50, true)⟩,
  .op ⟨8, some 52, .bin .eql (.t 51) (.c (.one (.int .i64 1))), some (50, true)⟩,
  .op ⟨9, some 53, .pick (.t 50) (.t 52) (.c (.one (.bool false))), none⟩,
  .op ⟨10, some 0, .mv (.t 53), none⟩])
 (.ret))))))))⟩
noncomputable def law29_awake.on (H : Heap) : Option (Bool × Unit) :=
 (weave_ShapeOf 10 2).bind fun (r1 : ((Int × Int × Int × Int × Unit) × Bool × Unit)) =>
 let H2 : Heap := H ++ [Blk.cells [.int .i64 0, .int .i64 0, .int .i64 0, .int .i64 0] .exact]
 (wr H2 H.length 0 [.int .i64 r1.1.1, .int .i64 r1.1.2.1, .int .i64 r1.1.2.2.1, .int .i64 r1.1.2.2.2.1]).bind fun (H3 : Heap) =>
 Option.bind (α := (Int × Int × Int × Int × Unit)) (rd H3 (.agg [.int .i64, .int .i64, .int .i64, .int .i64]) H.length 0) fun (v4 : (Int × Int × Int × Int × Unit)) =>
 (weave_Encode [48, 49, 50, 51, 52, 53, 54, 55, 56, 57] (v4.1, v4.2.1, v4.2.2.1, v4.2.2.2.1, ()) 5).bind fun (r5 : (Bytes × Int × Unit)) =>
 cond (!r1.2.1) (
 some (false, ())) (
 cond (!decide (r5.2.1 = 0)) (
 some (false, ())) (
 cond (!decide ((List.length (r5.1 : Bytes) : Int) = 12)) (
 some (false, ())) (
 let H6 : Heap := H3 ++ [Blk.cells (cellsOf r5.1) .loose]
 (Sl.at 1 (⟨some (H3.length, 0), (List.length (r5.1 : Bytes)), (List.length (r5.1 : Bytes))⟩) 3).bind fun (a7 : (Nat × Nat)) =>
 (rdI .u8 H6 a7.1 a7.2).bind fun (v8 : Int) =>
 (Sl.at 1 (⟨some (H3.length, 0), (List.length (r5.1 : Bytes)), (List.length (r5.1 : Bytes))⟩) 3).bind fun (a9 : (Nat × Nat)) =>
 (wr H6 a9.1 a9.2 [.int .u8 (bitsI .xor .u8 v8 9)]).bind fun (H10 : Heap) =>
 (strOf H10 (⟨some (H3.length, 0), (List.length (r5.1 : Bytes)), (List.length (r5.1 : Bytes))⟩)).bind fun (s11 : Bytes) =>
 Option.bind (α := (Int × Int × Int × Int × Unit)) (rd H10 (.agg [.int .i64, .int .i64, .int .i64, .int .i64]) H.length 0) fun (v12 : (Int × Int × Int × Int × Unit)) =>
 (weave_Decode s11 (v12.1, v12.2.1, v12.2.2.1, v12.2.2.2.1, ()) 5 (⟨none, 0, 0⟩) H10).bind fun (r13 : ((Bytes × Int × Int × Unit) × Heap)) =>
 cond (decide (r13.1.2.2.1 = 0)) (
 cond (decide ((r13.1.1 : Bytes) = [48, 49, 50, 51, 52, 53, 54, 55, 56, 57])) (
 some ((decide (r13.1.2.1 = 1)), ())) (
 some (false, ()))) (
 some (false, ())))))
noncomputable def law29_awake  : Option (Bool × Unit) := law29_awake.on []
noncomputable def law29_awake.c : Callee := .pure [] [.one .bool] (fun _ => law29_awake)
noncomputable def law29_awake.calls : Nat → Option Callee
  | 0 => some weave_ShapeOf.c
  | 1 => some weave_Encode.c
  | 2 => some weave_Decode.c
  | _ => none
theorem law29_awake.eq : evPure law29_awake.calls law29_awake.af = (fun _ H => law29_awake.on H) := by kernel_rfl

/-! ### tinderbox/tinderboxlaw29.WeaveShapes -/
def law29_WeaveShapes.af : AFun := ⟨[.one (.int .i64), .one (.int .i64)], [.one .bool], [.t 4],
 .seq (.reg [.op ⟨0, some 4, .mv (.c (.one (.bool false))), none⟩])
 (.seq (.reg [.op ⟨0, some 10, .mv (.t 0), none⟩,
  .op ⟨1, some 11, .mv (.t 1), none⟩,
  .op ⟨2, some 12, .call 0 [(.t 10), (.t 11)], none⟩,
  .op ⟨3, some 9, .mv (.t 12), none⟩,
  .op ⟨4, some 13, .ext (.t 9) 0, none⟩,
  .op ⟨5, some 14, .ext (.t 9) 1, none⟩,
  .op ⟨6, some 5, .new [.int .i64 0, .int .i64 0, .int .i64 0, .int .i64 0], none⟩,
  .op ⟨7, none, .store 4 (.t 5) (.t 13), none⟩,
  .op ⟨8, some 6, .mv (.t 14), none⟩])
 (.seq (.reg [.op ⟨0, some 16, .mv (.t 0), none⟩,
  .op ⟨1, some 17, .mv (.t 1), none⟩,
  .op ⟨2, some 18, .call 1 [(.t 16), (.t 17)], none⟩,
  .op ⟨3, some 15, .mv (.t 18), none⟩,
  .op ⟨4, some 19, .ext (.t 15) 0, none⟩,
  .op ⟨5, some 20, .ext (.t 15) 1, none⟩,
  .op ⟨6, some 7, .new [.int .i64 0, .int .i64 0, .int .i64 0, .int .i64 0], none⟩,
  .op ⟨7, none, .store 4 (.t 7) (.t 19), none⟩,
  .op ⟨8, some 8, .mv (.t 20), none⟩])
 (.seq (.reg [.op ⟨0, some 21, .call 2 [], none⟩,
  .op ⟨1, some 22, .mv (.t 21), none⟩,
  .op ⟨2, some 23, .mv (.t 6), some (22, true)⟩,
  .op ⟨3, some 24, .mv (.t 8), some (22, true)⟩,
  .op ⟨4, some 25, .eqb false (.t 23) (.t 24), some (22, true)⟩,
  .op ⟨5, some 26, .pick (.t 22) (.t 25) (.c (.one (.bool false))), none⟩,
  .op ⟨6, some 27, .mv (.t 26), none⟩,
  .op ⟨7, some 28, .load (.agg [.int .i64, .int .i64, .int .i64, .int .i64]) (.t 5), some (27, true)⟩,
  .op ⟨8, some 29, .load (.agg [.int .i64, .int .i64, .int .i64, .int .i64]) (.t 7), some (27, true)⟩,
  .op ⟨9, some 30, .eqagg false [.int .i64, .int .i64, .int .i64, .int .i64] (.t 28) (.t 29), some (27, true)⟩,
  .op ⟨10, some 31, .pick (.t 27) (.t 30) (.c (.one (.bool false))), none⟩,
  .op ⟨11, some 4, .mv (.t 31), none⟩])
 (.ret))))⟩
noncomputable def law29_WeaveShapes.on (x0 : Int) (x1 : Int) (H : Heap) : Option (Bool × Unit) :=
 (weave_ShapeOf x0 x1).bind fun (r1 : ((Int × Int × Int × Int × Unit) × Bool × Unit)) =>
 let H2 : Heap := H ++ [Blk.cells [.int .i64 0, .int .i64 0, .int .i64 0, .int .i64 0] .exact]
 (wr H2 H.length 0 [.int .i64 r1.1.1, .int .i64 r1.1.2.1, .int .i64 r1.1.2.2.1, .int .i64 r1.1.2.2.2.1]).bind fun (H3 : Heap) =>
 (ref29_Shape x0 x1).bind fun (r4 : ((Int × Int × Int × Int × Unit) × Bool × Unit)) =>
 let H5 : Heap := H3 ++ [Blk.cells [.int .i64 0, .int .i64 0, .int .i64 0, .int .i64 0] .exact]
 (wr H5 H3.length 0 [.int .i64 r4.1.1, .int .i64 r4.1.2.1, .int .i64 r4.1.2.2.1, .int .i64 r4.1.2.2.2.1]).bind fun (H6 : Heap) =>
 (law29_awake).bind fun (r7 : (Bool × Unit)) =>
 cond r7.1 (
 cond (r1.2.1 == r4.2.1) (
 Option.bind (α := (Int × Int × Int × Int × Unit)) (rd H6 (.agg [.int .i64, .int .i64, .int .i64, .int .i64]) H.length 0) fun (v8 : (Int × Int × Int × Int × Unit)) =>
 Option.bind (α := (Int × Int × Int × Int × Unit)) (rd H6 (.agg [.int .i64, .int .i64, .int .i64, .int .i64]) H3.length 0) fun (v9 : (Int × Int × Int × Int × Unit)) =>
 some (((decide (v8.1 = v9.1)) && ((decide (v8.2.1 = v9.2.1)) && ((decide (v8.2.2.1 = v9.2.2.1)) && ((decide (v8.2.2.2.1 = v9.2.2.2.1)) && true)))), ())) (
 some (false, ()))) (
 some (false, ()))
noncomputable def law29_WeaveShapes (x0 : Int) (x1 : Int) : Option (Bool × Unit) := law29_WeaveShapes.on x0 x1 []
noncomputable def law29_WeaveShapes.c : Callee := .pure [.one (.int .i64), .one (.int .i64)] [.one .bool] (fun x => law29_WeaveShapes x.1 x.2.1)
noncomputable def law29_WeaveShapes.calls : Nat → Option Callee
  | 0 => some weave_ShapeOf.c
  | 1 => some ref29_Shape.c
  | 2 => some law29_awake.c
  | _ => none
theorem law29_WeaveShapes.eq : evPure law29_WeaveShapes.calls law29_WeaveShapes.af = (fun x H => law29_WeaveShapes.on x.1 x.2.1 H) := by kernel_rfl

/-! ### tinderbox/tinderboxlaw29.WeaveMasks -/
def law29_WeaveMasks.af : AFun := ⟨[.one (.int .i64), .one (.int .i64), .one .str], [.one .bool], [.t 6],
 .seq (.reg [.op ⟨0, some 6, .mv (.c (.one (.bool false))), none⟩])
 (.seq (.reg [.op ⟨0, some 11, .mv (.t 2), none⟩,
  .op ⟨1, some 12, .mv (.t 2), none⟩,
  .op ⟨2, some 13, .lens (.t 12), none⟩,
  .op ⟨3, some 14, .min [(.t 13), (.c (.one (.int .i64 100)))], none⟩,
  .op ⟨4, some 15, .slstr (.t 11) none (some (.t 14)), none⟩,
  .op ⟨5, some 16, .mv (.t 1), none⟩,
  .op ⟨6, some 17, .bin .rem (.t 16) (.c (.one (.int .i64 300))), none⟩,
  .op ⟨7, some 7, .mv (.t 15), none⟩,
  .op ⟨8, some 8, .mv (.t 17), none⟩])
 (.seq (.reg [.op ⟨0, some 18, .mv (.t 0), none⟩,
  .op ⟨1, some 19, .mv (.t 8), none⟩,
  .op ⟨2, some 20, .call 0 [(.t 18), (.t 19)], none⟩,
  .op ⟨3, some 9, .mv (.t 20), none⟩])
 (.seq (.reg [.op ⟨0, some 21, .mv (.t 0), none⟩,
  .op ⟨1, some 22, .mv (.t 7), none⟩,
  .op ⟨2, some 23, .lens (.t 22), none⟩,
  .op ⟨3, some 24, .call 0 [(.t 21), (.t 23)], none⟩,
  .op ⟨4, some 10, .mv (.t 24), none⟩])
 (.seq (.reg [.op ⟨0, some 25, .call 1 [], none⟩,
  .op ⟨1, some 26, .mv (.t 25), none⟩,
  .op ⟨2, some 27, .mv (.t 9), some (26, true)⟩,
  .op ⟨3, some 28, .mv (.t 0), some (26, true)⟩,
  .op ⟨4, some 29, .mv (.t 8), some (26, true)⟩,
  .op ⟨5, some 30, .call 2 [(.t 28), (.t 29)], some (26, true)⟩,
  .op ⟨6, some 31, .bin .eql (.t 27) (.t 30), some (26, true)⟩,
  .op ⟨7, some 32, .pick (.t 26) (.t 31) (.c (.one (.bool false))), none⟩,
  .op ⟨8, some 33, .mv (.t 32), none⟩,
  .op ⟨9, some 34, .mv (.t 7), some (33, true)⟩,
  .op ⟨10, some 35, .mv (.t 10), some (33, true)⟩,
  .op ⟨11, some 36, .call 3 [(.t 34), (.t 35)], some (33, true)⟩,
  .op ⟨12, some 37, .mv (.t 10), some (33, true)⟩,
  .op ⟨13, some 38, .call 3 [(.t 36), (.t 37)], some (33, true)⟩,
  .op ⟨14, some 39, .mv (.t 7), some (33, true)⟩,
  .op ⟨15, some 40, .bin .eql (.t 38) (.t 39), some (33, true)⟩,
  .op ⟨16, some 41, .pick (.t 33) (.t 40) (.c (.one (.bool false))), none⟩,
  .op ⟨17, some 42, .mv (.t 41), none⟩,
  .op ⟨18, some 43, .mv (.t 7), some (42, true)⟩,
  .op ⟨19, some 44, .call 3 [(.t 43), (.c (.one (.str [97, 98])))], some (42, true)⟩,
  .op ⟨20, some 45, .lens (.t 44), some (42, true)⟩,
  .op ⟨21, some 46, .mv (.t 7), some (42, true)⟩,
  .op ⟨22, some 47, .lens (.t 46), some (42, true)⟩,
  .op ⟨23, some 48, .min [(.t 47), (.c (.one (.int .i64 2)))], some (42, true)⟩,
  .op ⟨24, some 49, .bin .eql (.t 45) (.t 48), some (42, true)⟩,
  .op ⟨25, some 50, .pick (.t 42) (.t 49) (.c (.one (.bool false))), none⟩,
  .op ⟨26, some 6, .mv (.t 50), none⟩])
 (.ret)))))⟩
noncomputable def law29_WeaveMasks.on (x0 : Int) (x1 : Int) (x2 : Bytes) (H : Heap) : Option (Bool × Unit) :=
 (subS x2 0 (if 100 < (List.length (x2 : Bytes) : Int) then 100 else (List.length (x2 : Bytes) : Int))).bind fun (s1 : Bytes) =>
 (weave_Mask x0 (Int.tmod x1 300)).bind fun (r2 : (Bytes × Unit)) =>
 (weave_Mask x0 (List.length (s1 : Bytes) : Int)).bind fun (r3 : (Bytes × Unit)) =>
 (law29_awake).bind fun (r4 : (Bool × Unit)) =>
 cond r4.1 (
 (ref29_Mask x0 (Int.tmod x1 300)).bind fun (r5 : (Bytes × Unit)) =>
 cond (decide ((r2.1 : Bytes) = r5.1)) (
 (weave_Mix s1 r3.1).bind fun (r6 : (Bytes × Unit)) =>
 (weave_Mix r6.1 r3.1).bind fun (r7 : (Bytes × Unit)) =>
 cond (decide ((r7.1 : Bytes) = s1)) (
 (weave_Mix s1 [97, 98]).bind fun (r8 : (Bytes × Unit)) =>
 some ((decide ((List.length (r8.1 : Bytes) : Int) = (if 2 < (List.length (s1 : Bytes) : Int) then 2 else (List.length (s1 : Bytes) : Int)))), ())) (
 some (false, ()))) (
 some (false, ()))) (
 some (false, ()))
noncomputable def law29_WeaveMasks (x0 : Int) (x1 : Int) (x2 : Bytes) : Option (Bool × Unit) := law29_WeaveMasks.on x0 x1 x2 []
noncomputable def law29_WeaveMasks.c : Callee := .pure [.one (.int .i64), .one (.int .i64), .one .str] [.one .bool] (fun x => law29_WeaveMasks x.1 x.2.1 x.2.2.1)
noncomputable def law29_WeaveMasks.calls : Nat → Option Callee
  | 0 => some weave_Mask.c
  | 1 => some law29_awake.c
  | 2 => some ref29_Mask.c
  | 3 => some weave_Mix.c
  | _ => none
theorem law29_WeaveMasks.eq : evPure law29_WeaveMasks.calls law29_WeaveMasks.af = (fun x H => law29_WeaveMasks.on x.1 x.2.1 x.2.2.1 H) := by kernel_rfl

/-! ### tinderbox/tinderboxlaw29.page -/
def law29_page.af : AFun := ⟨[.one .str, .one (.int .i64)], [.one .str], [.t 4],
 .seq (.reg [.op ⟨0, some 4, .mv (.c (.one (.str []))), none⟩])
 (.seq (.reg [.op ⟨0, some 6, .mv (.t 0), none⟩,
  .op ⟨1, some 7, .mv (.t 0), none⟩,
  .op ⟨2, some 8, .lens (.t 7), none⟩,
  .op ⟨3, some 9, .mv (.t 1), none⟩,
  .op ⟨4, some 10, .min [(.t 8), (.t 9)], none⟩,
  .op ⟨5, some 11, .slstr (.t 6) none (some (.t 10)), none⟩,
  .op ⟨6, some 12, .s2b (.t 11), none⟩,
  .op ⟨7, some 5, .mv (.t 12), none⟩])
 (.seq (.block 0 (.loop [(5, .one (.sl 1))] [(.exit 0, [(5, .one (.sl 1))])] (.seq (.seq (.reg [.op ⟨0, some 13, .mv (.t 5), none⟩,
  .op ⟨1, some 14, .len (.t 13), none⟩,
  .op ⟨2, some 15, .mv (.t 1), none⟩,
  .op ⟨3, some 16, .bin .lss (.t 14) (.t 15), none⟩])
 (.cond (.t 16) (.skip) (.exit 0)))
 (.block 1 (.reg [.op ⟨0, some 17, .mv (.t 5), none⟩,
  .op ⟨1, some 18, .mv (.t 5), none⟩,
  .op ⟨2, some 19, .len (.t 18), none⟩,
  .op ⟨3, some 20, .conv .u8 (.t 19), none⟩,
  .op ⟨4, some 21, .bslice 1 1 [.int .u8 0] [(0, 1, (.t 20))], none⟩,
  .op ⟨5, some 22, .app 1 1 (.t 17) (.t 21), none⟩,
  .op ⟨6, some 5, .mv (.t 22), none⟩])))))
 (.seq (.reg [.op ⟨0, some 23, .mv (.t 5), none⟩,
  .op ⟨1, some 24, .b2s (.t 23), none⟩,
  .op ⟨2, some 4, .mv (.t 24), none⟩])
 (.ret))))⟩
noncomputable def law29_page.s1 (x1 : Int) (s3 : (Sl × Unit)) (H4 : Heap) : Option (((Sl × Unit) ⊕ (Sl × Unit)) × Heap) :=
 cond (decide ((s3.1.len : Int) < x1)) (
 let H5 : Heap := H4 ++ [Blk.cells [.int .u8 (IntKind.wrap .u8 (s3.1.len : Int))] .exact]
 (slRow H5 1 (⟨some (H4.length, 0), 1, 1⟩)).bind fun (cs6 : (List C)) =>
 (appS H5 1 1 s3.1 1 cs6).bind fun (p7 : (Sl × Heap)) =>
 some (Sum.inl (p7.1, ()), p7.2)) (
 some (Sum.inr (s3.1, ()), H4))
noncomputable def law29_page.on (x0 : Bytes) (x1 : Int) (H : Heap) : Option (Bytes × Unit) :=
 (subS x0 0 (if x1 < (List.length (x0 : Bytes) : Int) then x1 else (List.length (x0 : Bytes) : Int))).bind fun (s1 : Bytes) =>
 let H2 : Heap := H ++ [Blk.cells (cellsOf s1) .loose]
 (loopW (law29_page.s1 x1) (⟨some (H.length, 0), (List.length (s1 : Bytes)), (List.length (s1 : Bytes))⟩, ()) H2).bind fun (p8 : (Sl × Unit) × Heap) =>
 (strOf p8.2 p8.1.1).bind fun (s9 : Bytes) =>
 some (s9, ())
noncomputable def law29_page (x0 : Bytes) (x1 : Int) : Option (Bytes × Unit) := law29_page.on x0 x1 []
noncomputable def law29_page.c : Callee := .pure [.one .str, .one (.int .i64)] [.one .str] (fun x => law29_page x.1 x.2.1)
noncomputable def law29_page.calls : Nat → Option Callee
  | _ => none
theorem law29_page.eq : evPure law29_page.calls law29_page.af = (fun x H => law29_page.on x.1 x.2.1 H) := by kernel_rfl

/-! ### tinderbox/tinderboxlaw29.WeaveKeeps -/
def law29_WeaveKeeps.af : AFun := ⟨[.one .str, .one (.int .i64), .one (.int .i64)], [.one .bool], [.t 6],
 .seq (.reg [.op ⟨0, some 6, .mv (.c (.one (.bool false))), none⟩])
 (.seq (.reg [.op ⟨0, some 22, .mv (.t 1), none⟩,
  .op ⟨1, some 23, .bin .and (.t 22) (.c (.one (.int .i64 255))), none⟩,
  .op ⟨2, some 24, .bin .add (.c (.one (.int .i64 1))) (.t 23), none⟩,
  .op ⟨3, some 25, .mv (.t 1), none⟩,
  .op ⟨4, some 26, .bin .shr (.t 25) (.c (.one (.int .u64 8))), none⟩,
  .op ⟨5, some 27, .bin .and (.t 26) (.c (.one (.int .i64 15))), none⟩,
  .op ⟨6, some 28, .bin .add (.c (.one (.int .i64 2))) (.t 27), none⟩,
  .op ⟨7, some 7, .mv (.t 24), none⟩,
  .op ⟨8, some 8, .mv (.t 28), none⟩])
 (.seq (.reg [.op ⟨0, some 30, .mv (.t 7), none⟩,
  .op ⟨1, some 31, .mv (.t 8), none⟩,
  .op ⟨2, some 32, .call 0 [(.t 30), (.t 31)], none⟩,
  .op ⟨3, some 29, .mv (.t 32), none⟩,
  .op ⟨4, some 33, .ext (.t 29) 0, none⟩,
  .op ⟨5, some 34, .ext (.t 29) 1, none⟩,
  .op ⟨6, some 9, .new [.int .i64 0, .int .i64 0, .int .i64 0, .int .i64 0], none⟩,
  .op ⟨7, none, .store 4 (.t 9) (.t 33), none⟩,
  .op ⟨8, some 10, .mv (.t 34), none⟩])
 (.seq (.seq (.reg [.op ⟨0, some 35, .call 1 [], none⟩,
  .op ⟨1, some 36, .un .not (.t 35), none⟩,
  .op ⟨2, some 37, .mv (.t 36), none⟩,
  .op ⟨3, some 38, .mv (.t 10), some (37, false)⟩,
  .op ⟨4, some 39, .un .not (.t 38), some (37, false)⟩,
  .op ⟨5, some 40, .pick (.t 37) (.c (.one (.bool true))) (.t 39), none⟩])
 (.cond (.t 40) (.seq (.reg [.op ⟨0, some 6, .mv (.c (.one (.bool false))), none⟩])
 (.ret)) (.skip)))
 (.seq (.reg [.op ⟨0, some 41, .mv (.t 0), none⟩,
  .op ⟨1, some 42, .mv (.t 7), none⟩,
  .op ⟨2, some 43, .call 2 [(.t 41), (.t 42)], none⟩,
  .op ⟨3, some 11, .mv (.t 43), none⟩])
 (.seq (.reg [.op ⟨0, some 45, .mv (.t 11), none⟩,
  .op ⟨1, some 46, .load (.agg [.int .i64, .int .i64, .int .i64, .int .i64]) (.t 9), none⟩,
  .op ⟨2, some 47, .mv (.t 2), none⟩,
  .op ⟨3, some 48, .call 3 [(.t 45), (.t 46), (.t 47)], none⟩,
  .op ⟨4, some 44, .mv (.t 48), none⟩,
  .op ⟨5, some 49, .ext (.t 44) 0, none⟩,
  .op ⟨6, some 50, .ext (.t 44) 1, none⟩,
  .op ⟨7, some 12, .mv (.t 49), none⟩,
  .op ⟨8, some 13, .mv (.t 50), none⟩])
 (.seq (.reg [.op ⟨0, some 52, .mv (.t 12), none⟩,
  .op ⟨1, some 53, .load (.agg [.int .i64, .int .i64, .int .i64, .int .i64]) (.t 9), none⟩,
  .op ⟨2, some 54, .mv (.t 2), none⟩,
  .op ⟨3, some 55, .call 4 [(.t 52), (.t 53), (.t 54), (.c (.one (.sl 1 (⟨none, 0, 0⟩))))], none⟩,
  .op ⟨4, some 51, .mv (.t 55), none⟩,
  .op ⟨5, some 56, .ext (.t 51) 0, none⟩,
  .op ⟨6, some 57, .ext (.t 51) 1, none⟩,
  .op ⟨7, some 58, .ext (.t 51) 2, none⟩,
  .op ⟨8, some 14, .mv (.t 56), none⟩,
  .op ⟨9, some 15, .mv (.t 57), none⟩,
  .op ⟨10, some 16, .mv (.t 58), none⟩])
 (.seq (.reg [.op ⟨0, some 60, .mv (.t 11), none⟩,
  .op ⟨1, some 61, .bin .add (.t 60) (.c (.one (.str [120]))), none⟩,
  .op ⟨2, some 62, .load (.agg [.int .i64, .int .i64, .int .i64, .int .i64]) (.t 9), none⟩,
  .op ⟨3, some 63, .mv (.t 2), none⟩,
  .op ⟨4, some 64, .call 3 [(.t 61), (.t 62), (.t 63)], none⟩,
  .op ⟨5, some 59, .mv (.t 64), none⟩,
  .op ⟨6, some 65, .ext (.t 59) 0, none⟩,
  .op ⟨7, some 66, .ext (.t 59) 1, none⟩,
  .op ⟨8, some 17, .mv (.t 65), none⟩,
  .op ⟨9, some 18, .mv (.t 66), none⟩])
 (.seq (.reg [.op ⟨0, some 68, .mv (.t 12), none⟩,
  .op ⟨1, some 69, .bin .add (.t 68) (.c (.one (.str [120]))), none⟩,
  .op ⟨2, some 70, .load (.agg [.int .i64, .int .i64, .int .i64, .int .i64]) (.t 9), none⟩,
  .op ⟨3, some 71, .mv (.t 2), none⟩,
  .op ⟨4, some 72, .call 4 [(.t 69), (.t 70), (.t 71), (.c (.one (.sl 1 (⟨none, 0, 0⟩))))], none⟩,
  .op ⟨5, some 67, .mv (.t 72), none⟩,
  .op ⟨6, some 73, .ext (.t 67) 0, none⟩,
  .op ⟨7, some 74, .ext (.t 67) 1, none⟩,
  .op ⟨8, some 75, .ext (.t 67) 2, none⟩,
  .op ⟨9, some 19, .mv (.t 73), none⟩,
  .op ⟨10, some 20, .mv (.t 74), none⟩,
  .op ⟨11, some 21, .mv (.t 75), none⟩])
 (.seq (.reg [.op ⟨0, some 76, .mv (.t 13), none⟩,
  .op ⟨1, some 77, .bin .eql (.t 76) (.c (.one (.int .i64 0))), none⟩,
  .op ⟨2, some 78, .mv (.t 77), none⟩,
  .op ⟨3, some 79, .mv (.t 11), some (78, true)⟩,
  .op ⟨4, some 80, .mv (.t 12), some (78, true)⟩,
  .op ⟨5, some 81, .load (.agg [.int .i64, .int .i64, .int .i64, .int .i64]) (.t 9), some (78, true)⟩,
  .op ⟨6, some 82, .mv (.t 2), some (78, true)⟩,
  .op ⟨7, some 83, .call 5 [(.t 79), (.t 80), (.t 81), (.t 82)], some (78, true)⟩,
  .op ⟨8, some 84, .pick (.t 78) (.t 83) (.c (.one (.bool false))), none⟩,
  .op ⟨9, some 85, .mv (.t 84), none⟩,
  .op ⟨10, some 86, .mv (.t 16), some (85, true)⟩,
  .op ⟨11, some 87, .bin .eql (.t 86) (.c (.one (.int .i64 0))), some (85, true)⟩,
  .op ⟨12, some 88, .pick (.t 85) (.t 87) (.c (.one (.bool false))), none⟩,
  .op ⟨13, some 89, .mv (.t 88), none⟩,
  .op ⟨14, some 90, .mv (.t 14), some (89, true)⟩,
  .op ⟨15, some 91, .mv (.t 11), some (89, true)⟩,
  .op ⟨16, some 92, .bin .eql (.t 90) (.t 91), some (89, true)⟩,
  .op ⟨17, some 93, .pick (.t 89) (.t 92) (.c (.one (.bool false))), none⟩,
  .op ⟨18, some 94, .mv (.t 93), none⟩,
  .op ⟨19, some 95, .mv (.t 15), some (94, true)⟩,
  .op ⟨20, some 96, .bin .eql (.t 95) (.c (.one (.int .i64 0))), some (94, true)⟩,
  .op ⟨21, some 97, .pick (.t 94) (.t 96) (.c (.one (.bool false))), none⟩,
  .op ⟨22, some 98, .mv (.t 97), none⟩,
  .op ⟨23, some 99, .mv (.t 18), some (98, true)⟩,
  .op ⟨24, some 100, .bin .eql (.t 99) (.c (.one (.int .i64 1))), some (98, true)⟩,
  .op ⟨25, some 101, .pick (.t 98) (.t 100) (.c (.one (.bool false))), none⟩,
  .op ⟨26, some 102, .mv (.t 101), none⟩,
  .op ⟨27, some 103, .mv (.t 21), some (102, true)⟩,
  .op ⟨28, some 104, .bin .eql (.t 103) (.c (.one (.int .i64 1))), some (102, true)⟩,
  .op ⟨29, some 105, .pick (.t 102) (.t 104) (.c (.one (.bool false))), none⟩,
  .op ⟨30, some 6, .mv (.t 105), none⟩])
 (.ret))))))))))⟩
noncomputable def law29_WeaveKeeps.on (x0 : Bytes) (x1 : Int) (x2 : Int) (H : Heap) : Option (Bool × Unit) :=
 (weave_ShapeOf (IntKind.wrap .i64 (1 + (bitsI .and .i64 x1 255))) (IntKind.wrap .i64 (2 + (bitsI .and .i64 (Int.fdiv x1 (2 ^ (min (Int.toNat 8) (IntKind.bits .i64)))) 15)))).bind fun (r1 : ((Int × Int × Int × Int × Unit) × Bool × Unit)) =>
 let H2 : Heap := H ++ [Blk.cells [.int .i64 0, .int .i64 0, .int .i64 0, .int .i64 0] .exact]
 (wr H2 H.length 0 [.int .i64 r1.1.1, .int .i64 r1.1.2.1, .int .i64 r1.1.2.2.1, .int .i64 r1.1.2.2.2.1]).bind fun (H3 : Heap) =>
 (law29_awake).bind fun (r4 : (Bool × Unit)) =>
 cond (!r4.1) (
 some (false, ())) (
 cond (!r1.2.1) (
 some (false, ())) (
 (law29_page x0 (IntKind.wrap .i64 (1 + (bitsI .and .i64 x1 255)))).bind fun (r5 : (Bytes × Unit)) =>
 Option.bind (α := (Int × Int × Int × Int × Unit)) (rd H3 (.agg [.int .i64, .int .i64, .int .i64, .int .i64]) H.length 0) fun (v6 : (Int × Int × Int × Int × Unit)) =>
 (weave_Encode r5.1 (v6.1, v6.2.1, v6.2.2.1, v6.2.2.2.1, ()) x2).bind fun (r7 : (Bytes × Int × Unit)) =>
 Option.bind (α := (Int × Int × Int × Int × Unit)) (rd H3 (.agg [.int .i64, .int .i64, .int .i64, .int .i64]) H.length 0) fun (v8 : (Int × Int × Int × Int × Unit)) =>
 (weave_Decode r7.1 (v8.1, v8.2.1, v8.2.2.1, v8.2.2.2.1, ()) x2 (⟨none, 0, 0⟩) H3).bind fun (r9 : ((Bytes × Int × Int × Unit) × Heap)) =>
 (catS r5.1 [120]).bind fun (s10 : Bytes) =>
 Option.bind (α := (Int × Int × Int × Int × Unit)) (rd r9.2 (.agg [.int .i64, .int .i64, .int .i64, .int .i64]) H.length 0) fun (v11 : (Int × Int × Int × Int × Unit)) =>
 (weave_Encode s10 (v11.1, v11.2.1, v11.2.2.1, v11.2.2.2.1, ()) x2).bind fun (r12 : (Bytes × Int × Unit)) =>
 (catS r7.1 [120]).bind fun (s13 : Bytes) =>
 Option.bind (α := (Int × Int × Int × Int × Unit)) (rd r9.2 (.agg [.int .i64, .int .i64, .int .i64, .int .i64]) H.length 0) fun (v14 : (Int × Int × Int × Int × Unit)) =>
 (weave_Decode s13 (v14.1, v14.2.1, v14.2.2.1, v14.2.2.2.1, ()) x2 (⟨none, 0, 0⟩) r9.2).bind fun (r15 : ((Bytes × Int × Int × Unit) × Heap)) =>
 cond (decide (r7.2.1 = 0)) (
 Option.bind (α := (Int × Int × Int × Int × Unit)) (rd r15.2 (.agg [.int .i64, .int .i64, .int .i64, .int .i64]) H.length 0) fun (v16 : (Int × Int × Int × Int × Unit)) =>
 (ref29_Kept r5.1 r7.1 (v16.1, v16.2.1, v16.2.2.1, v16.2.2.2.1, ()) x2).bind fun (r17 : (Bool × Unit)) =>
 cond r17.1 (
 cond (decide (r9.1.2.2.1 = 0)) (
 cond (decide ((r9.1.1 : Bytes) = r5.1)) (
 cond (decide (r9.1.2.1 = 0)) (
 cond (decide (r12.2.1 = 1)) (
 some ((decide (r15.1.2.2.1 = 1)), ())) (
 some (false, ()))) (
 some (false, ()))) (
 some (false, ()))) (
 some (false, ()))) (
 some (false, ()))) (
 some (false, ()))))
noncomputable def law29_WeaveKeeps (x0 : Bytes) (x1 : Int) (x2 : Int) : Option (Bool × Unit) := law29_WeaveKeeps.on x0 x1 x2 []
noncomputable def law29_WeaveKeeps.c : Callee := .pure [.one .str, .one (.int .i64), .one (.int .i64)] [.one .bool] (fun x => law29_WeaveKeeps x.1 x.2.1 x.2.2.1)
noncomputable def law29_WeaveKeeps.calls : Nat → Option Callee
  | 0 => some weave_ShapeOf.c
  | 1 => some law29_awake.c
  | 2 => some law29_page.c
  | 3 => some weave_Encode.c
  | 4 => some weave_Decode.c
  | 5 => some ref29_Kept.c
  | _ => none
theorem law29_WeaveKeeps.eq : evPure law29_WeaveKeeps.calls law29_WeaveKeeps.af = (fun x H => law29_WeaveKeeps.on x.1 x.2.1 x.2.2.1 H) := by kernel_rfl

/-! ### tinderbox/tinderboxlaw29.WeaveBursts -/
def law29_WeaveBursts.af : AFun := ⟨[.one .str, .one (.int .i64), .one (.sl 1)], [.one .bool], [.t 6],
 .seq (.reg [.op ⟨0, some 6, .mv (.c (.one (.bool false))), none⟩])
 (.seq (.reg [.op ⟨0, some 21, .call 0 [(.c (.one (.int .i64 250))), (.c (.one (.int .i64 8)))], none⟩,
  .op ⟨1, some 20, .mv (.t 21), none⟩,
  .op ⟨2, some 22, .ext (.t 20) 0, none⟩,
  .op ⟨3, some 23, .ext (.t 20) 1, none⟩,
  .op ⟨4, some 7, .new [.int .i64 0, .int .i64 0, .int .i64 0, .int .i64 0], none⟩,
  .op ⟨5, none, .store 4 (.t 7) (.t 22), none⟩,
  .op ⟨6, some 8, .mv (.t 23), none⟩])
 (.seq (.seq (.reg [.op ⟨0, some 24, .call 1 [], none⟩,
  .op ⟨1, some 25, .un .not (.t 24), none⟩,
  .op ⟨2, some 26, .mv (.t 25), none⟩,
  .op ⟨3, some 27, .mv (.t 8), some (26, false)⟩,
  .op ⟨4, some 28, .un .not (.t 27), some (26, false)⟩,
  .op ⟨5, some 29, .pick (.t 26) (.c (.one (.bool true))) (.t 28), none⟩,
  .op ⟨6, some 30, .mv (.t 29), none⟩,
  .op ⟨7, some 31, .addr 0 (.t 7), some (30, false)⟩,
  .op ⟨8, some 32, .load (.one (.int .i64)) (.t 31), some (30, false)⟩,
  .op ⟨9, some 33, .bin .neq (.t 32) (.c (.one (.int .i64 3))), some (30, false)⟩,
  .op ⟨10, some 34, .pick (.t 30) (.c (.one (.bool true))) (.t 33), none⟩])
 (.cond (.t 34) (.seq (.reg [.op ⟨0, some 6, .mv (.c (.one (.bool false))), none⟩])
 (.ret)) (.skip)))
 (.seq (.reg [.op ⟨0, some 35, .mv (.t 0), none⟩,
  .op ⟨1, some 36, .call 2 [(.t 35), (.c (.one (.int .i64 250)))], none⟩,
  .op ⟨2, some 9, .mv (.t 36), none⟩])
 (.seq (.reg [.op ⟨0, some 38, .mv (.t 9), none⟩,
  .op ⟨1, some 39, .load (.agg [.int .i64, .int .i64, .int .i64, .int .i64]) (.t 7), none⟩,
  .op ⟨2, some 40, .call 3 [(.t 38), (.t 39), (.c (.one (.int .i64 7)))], none⟩,
  .op ⟨3, some 37, .mv (.t 40), none⟩,
  .op ⟨4, some 41, .ext (.t 37) 0, none⟩,
  .op ⟨5, some 42, .ext (.t 37) 1, none⟩,
  .op ⟨6, some 10, .mv (.t 41), none⟩,
  .op ⟨7, some 11, .mv (.t 42), none⟩])
 (.seq (.seq (.reg [.op ⟨0, some 43, .mv (.t 11), none⟩,
  .op ⟨1, some 44, .bin .neq (.t 43) (.c (.one (.int .i64 0))), none⟩])
 (.cond (.t 44) (.seq (.reg [.op ⟨0, some 6, .mv (.c (.one (.bool false))), none⟩])
 (.ret)) (.skip)))
 (.seq (.reg [.op ⟨0, some 45, .mv (.t 10), none⟩,
  .op ⟨1, some 46, .s2b (.t 45), none⟩,
  .op ⟨2, some 12, .mv (.t 46), none⟩])
 (.seq (.reg [.op ⟨0, some 13, .mv (.c (.one (.int .i64 12))), none⟩,
  .op ⟨1, some 14, .mv (.c (.one (.int .i64 0))), none⟩])
 (.seq (.reg [.op ⟨0, some 47, .mv (.t 1), none⟩,
  .op ⟨1, some 48, .mv (.t 12), none⟩,
  .op ⟨2, some 49, .len (.t 48), none⟩,
  .op ⟨3, some 50, .mv (.t 13), none⟩,
  .op ⟨4, some 51, .bin .sub (.t 49) (.t 50), none⟩,
  .op ⟨5, some 52, .bin .rem (.t 47) (.t 51), none⟩,
  .op ⟨6, some 53, .mv (.t 12), none⟩,
  .op ⟨7, some 54, .len (.t 53), none⟩,
  .op ⟨8, some 55, .bin .add (.t 52) (.t 54), none⟩,
  .op ⟨9, some 56, .mv (.t 13), none⟩,
  .op ⟨10, some 57, .bin .sub (.t 55) (.t 56), none⟩,
  .op ⟨11, some 58, .mv (.t 12), none⟩,
  .op ⟨12, some 59, .len (.t 58), none⟩,
  .op ⟨13, some 60, .mv (.t 13), none⟩,
  .op ⟨14, some 61, .bin .sub (.t 59) (.t 60), none⟩,
  .op ⟨15, some 62, .bin .rem (.t 57) (.t 61), none⟩,
  .op ⟨16, some 15, .mv (.t 62), none⟩])
 (.seq (.seq (.reg [.op ⟨0, some 16, .mv (.c (.one (.int .i64 0))), none⟩])
 (.block 0 (.loop [(14, .one (.int .i64)), (16, .one (.int .i64))] [(.exit 0, [(14, .one (.int .i64))])] (.seq (.seq (.reg [.op ⟨0, some 63, .mv (.t 16), none⟩,
  .op ⟨1, some 64, .mv (.t 13), none⟩,
  .op ⟨2, some 65, .bin .lss (.t 63) (.t 64), none⟩,
  .op ⟨3, some 66, .mv (.t 65), none⟩,
  .op ⟨4, some 67, .mv (.t 16), some (66, true)⟩,
  .op ⟨5, some 68, .mv (.t 2), some (66, true)⟩,
  .op ⟨6, some 69, .len (.t 68), some (66, true)⟩,
  .op ⟨7, some 70, .bin .lss (.t 67) (.t 69), some (66, true)⟩,
  .op ⟨8, some 71, .pick (.t 66) (.t 70) (.c (.one (.bool false))), none⟩])
 (.cond (.t 71) (.skip) (.exit 0)))
 (.seq (.block 1 (.seq (.reg [.op ⟨0, some 74, .mv (.t 12), none⟩,
  .op ⟨1, some 75, .mv (.t 15), none⟩,
  .op ⟨2, some 76, .mv (.t 16), none⟩,
  .op ⟨3, some 77, .bin .add (.t 75) (.t 76), none⟩,
  .op ⟨4, some 78, .idxa 1 (.t 74) (.t 77), none⟩,
  .op ⟨5, some 79, .load (.one (.int .u8)) (.t 78), none⟩,
  .op ⟨6, some 80, .mv (.t 2), none⟩,
  .op ⟨7, some 81, .mv (.t 16), none⟩,
  .op ⟨8, some 82, .idxa 1 (.t 80) (.t 81), none⟩,
  .op ⟨9, some 83, .load (.one (.int .u8)) (.t 82), none⟩,
  .op ⟨10, some 84, .bin .xor (.t 79) (.t 83), none⟩,
  .op ⟨11, some 85, .idxa 1 (.t 74) (.t 77), none⟩,
  .op ⟨12, none, .store 1 (.t 85) (.t 84), none⟩])
 (.seq (.reg [.op ⟨0, some 86, .mv (.t 2), none⟩,
  .op ⟨1, some 87, .mv (.t 16), none⟩,
  .op ⟨2, some 88, .idxa 1 (.t 86) (.t 87), none⟩,
  .op ⟨3, some 89, .load (.one (.int .u8)) (.t 88), none⟩,
  .op ⟨4, some 90, .bin .neq (.t 89) (.c (.one (.int .u8 0))), none⟩])
 (.cond (.t 90) (.reg [.op ⟨0, some 91, .mv (.t 14), none⟩,
  .op ⟨1, some 92, .bin .add (.t 91) (.c (.one (.int .i64 1))), none⟩,
  .op ⟨2, some 14, .mv (.t 92), none⟩]) (.skip)))))
 (.reg [.op ⟨0, some 72, .mv (.t 16), none⟩,
  .op ⟨1, some 73, .bin .add (.t 72) (.c (.one (.int .i64 1))), none⟩,
  .op ⟨2, some 16, .mv (.t 73), none⟩]))))))
 (.seq (.reg [.op ⟨0, some 94, .mv (.t 12), none⟩,
  .op ⟨1, some 95, .b2s (.t 94), none⟩,
  .op ⟨2, some 96, .load (.agg [.int .i64, .int .i64, .int .i64, .int .i64]) (.t 7), none⟩,
  .op ⟨3, some 97, .call 4 [(.t 95), (.t 96), (.c (.one (.int .i64 7))), (.c (.one (.sl 1 (⟨none, 0, 0⟩))))], none⟩,
  .op ⟨4, some 93, .mv (.t 97), none⟩,
  .op ⟨5, some 98, .ext (.t 93) 0, none⟩,
  .op ⟨6, some 99, .ext (.t 93) 1, none⟩,
  .op ⟨7, some 100, .ext (.t 93) 2, none⟩,
  .op ⟨8, some 17, .mv (.t 98), none⟩,
  .op ⟨9, some 18, .mv (.t 99), none⟩,
  .op ⟨10, some 19, .mv (.t 100), none⟩])
 (.seq (.reg [.op ⟨0, some 101, .mv (.t 19), none⟩,
  .op ⟨1, some 102, .bin .eql (.t 101) (.c (.one (.int .i64 0))), none⟩,
  .op ⟨2, some 103, .mv (.t 102), none⟩,
  .op ⟨3, some 104, .mv (.t 17), some (103, true)⟩,
  .op ⟨4, some 105, .mv (.t 9), some (103, true)⟩,
  .op ⟨5, some 106, .bin .eql (.t 104) (.t 105), some (103, true)⟩,
  .op ⟨6, some 107, .pick (.t 103) (.t 106) (.c (.one (.bool false))), none⟩,
  .op ⟨7, some 108, .mv (.t 107), none⟩,
  .op ⟨8, some 109, .mv (.t 18), some (108, true)⟩,
  .op ⟨9, some 110, .mv (.t 14), some (108, true)⟩,
  .op ⟨10, some 111, .bin .eql (.t 109) (.t 110), some (108, true)⟩,
  .op ⟨11, some 112, .pick (.t 108) (.t 111) (.c (.one (.bool false))), none⟩,
  .op ⟨12, some 6, .mv (.t 112), none⟩])
 (.ret))))))))))))⟩
noncomputable def law29_WeaveBursts.s1 (x1 : Int) (x2 : Sl) (H3 : Heap) (r8 : (Bytes × Int × Unit)) (s10 : (Int × Int × Unit)) (H11 : Heap) : Option (((Int × Int × Unit) ⊕ (Int × Unit)) × Heap) :=
 cond (decide (s10.2.1 < 12)) (
 cond (decide (s10.2.1 < (x2.len : Int))) (
 let n12 : Int := (IntKind.wrap .i64 ((Int.tmod (IntKind.wrap .i64 ((IntKind.wrap .i64 ((Int.tmod x1 (IntKind.wrap .i64 (((List.length (r8.1 : Bytes)) : Int) - 12))) + ((List.length (r8.1 : Bytes)) : Int))) - 12)) (IntKind.wrap .i64 (((List.length (r8.1 : Bytes)) : Int) - 12))) + s10.2.1))
 (Sl.at 1 (⟨some (H3.length, 0), (List.length (r8.1 : Bytes)), (List.length (r8.1 : Bytes))⟩) n12).bind fun (a13 : (Nat × Nat)) =>
 (rdI .u8 H11 a13.1 a13.2).bind fun (v14 : Int) =>
 (Sl.at 1 x2 s10.2.1).bind fun (a15 : (Nat × Nat)) =>
 (rdI .u8 H11 a15.1 a15.2).bind fun (v16 : Int) =>
 (Sl.at 1 (⟨some (H3.length, 0), (List.length (r8.1 : Bytes)), (List.length (r8.1 : Bytes))⟩) n12).bind fun (a17 : (Nat × Nat)) =>
 (wr H11 a17.1 a17.2 [.int .u8 (bitsI .xor .u8 v14 v16)]).bind fun (H18 : Heap) =>
 (Sl.at 1 x2 s10.2.1).bind fun (a19 : (Nat × Nat)) =>
 (rdI .u8 H18 a19.1 a19.2).bind fun (v20 : Int) =>
 cond (!decide (v20 = 0)) (
 some (Sum.inl ((IntKind.wrap .i64 (s10.1 + 1)), (IntKind.wrap .i64 (s10.2.1 + 1)), ()), H18)) (
 some (Sum.inl (s10.1, (IntKind.wrap .i64 (s10.2.1 + 1)), ()), H18))) (
 some (Sum.inr (s10.1, ()), H11))) (
 some (Sum.inr (s10.1, ()), H11))
noncomputable def law29_WeaveBursts (x0 : Bytes) (x1 : Int) (x2 : Sl) (H : Heap) : Option ((Bool × Unit) × Heap) :=
 (weave_ShapeOf 250 8).bind fun (r1 : ((Int × Int × Int × Int × Unit) × Bool × Unit)) =>
 let H2 : Heap := H ++ [Blk.cells [.int .i64 0, .int .i64 0, .int .i64 0, .int .i64 0] .exact]
 (wr H2 H.length 0 [.int .i64 r1.1.1, .int .i64 r1.1.2.1, .int .i64 r1.1.2.2.1, .int .i64 r1.1.2.2.2.1]).bind fun (H3 : Heap) =>
 (law29_awake).bind fun (r4 : (Bool × Unit)) =>
 cond (!r4.1) (
 some ((false, ()), H3)) (
 cond (!r1.2.1) (
 some ((false, ()), H3)) (
 (rdI .i64 H3 H.length 0).bind fun (v5 : Int) =>
 cond (!decide (v5 = 3)) (
 some ((false, ()), H3)) (
 (law29_page x0 250).bind fun (r6 : (Bytes × Unit)) =>
 Option.bind (α := (Int × Int × Int × Int × Unit)) (rd H3 (.agg [.int .i64, .int .i64, .int .i64, .int .i64]) H.length 0) fun (v7 : (Int × Int × Int × Int × Unit)) =>
 (weave_Encode r6.1 (v7.1, v7.2.1, v7.2.2.1, v7.2.2.2.1, ()) 7).bind fun (r8 : (Bytes × Int × Unit)) =>
 cond (!decide (r8.2.1 = 0)) (
 some ((false, ()), H3)) (
 let H9 : Heap := H3 ++ [Blk.cells (cellsOf r8.1) .loose]
 cond (decide ((IntKind.wrap .i64 (((List.length (r8.1 : Bytes)) : Int) - 12)) = 0)) none (
 cond (decide ((IntKind.wrap .i64 (((List.length (r8.1 : Bytes)) : Int) - 12)) = 0)) none (
 (loopW (law29_WeaveBursts.s1 x1 x2 H3 r8) (0, 0, ()) H9).bind fun (p21 : (Int × Unit) × Heap) =>
 (strOf p21.2 (⟨some (H3.length, 0), (List.length (r8.1 : Bytes)), (List.length (r8.1 : Bytes))⟩)).bind fun (s22 : Bytes) =>
 Option.bind (α := (Int × Int × Int × Int × Unit)) (rd p21.2 (.agg [.int .i64, .int .i64, .int .i64, .int .i64]) H.length 0) fun (v23 : (Int × Int × Int × Int × Unit)) =>
 (weave_Decode s22 (v23.1, v23.2.1, v23.2.2.1, v23.2.2.2.1, ()) 7 (⟨none, 0, 0⟩) p21.2).bind fun (r24 : ((Bytes × Int × Int × Unit) × Heap)) =>
 cond (decide (r24.1.2.2.1 = 0)) (
 cond (decide ((r24.1.1 : Bytes) = r6.1)) (
 some (((decide (r24.1.2.1 = p21.1.1)), ()), r24.2)) (
 some ((false, ()), r24.2))) (
 some ((false, ()), r24.2))))))))
noncomputable def law29_WeaveBursts.c : Callee := .full [.one .str, .one (.int .i64), .one (.sl 1)] [.one .bool] (fun x H => law29_WeaveBursts x.1 x.2.1 x.2.2.1 H)
noncomputable def law29_WeaveBursts.calls : Nat → Option Callee
  | 0 => some weave_ShapeOf.c
  | 1 => some law29_awake.c
  | 2 => some law29_page.c
  | 3 => some weave_Encode.c
  | 4 => some weave_Decode.c
  | _ => none
theorem law29_WeaveBursts.eq : evFull law29_WeaveBursts.calls law29_WeaveBursts.af = (fun x H => law29_WeaveBursts x.1 x.2.1 x.2.2.1 H) := by kernel_rfl

/-! ### tinderbox/tinderboxlaw29.WeaveLost -/
def law29_WeaveLost.af : AFun := ⟨[.one .str, .one (.int .i64), .one (.int .u8)], [.one .bool], [.t 6],
 .seq (.reg [.op ⟨0, some 6, .mv (.c (.one (.bool false))), none⟩])
 (.seq (.reg [.op ⟨0, some 21, .call 0 [(.c (.one (.int .i64 250))), (.c (.one (.int .i64 8)))], none⟩,
  .op ⟨1, some 20, .mv (.t 21), none⟩,
  .op ⟨2, some 22, .ext (.t 20) 0, none⟩,
  .op ⟨3, some 23, .ext (.t 20) 1, none⟩,
  .op ⟨4, some 7, .new [.int .i64 0, .int .i64 0, .int .i64 0, .int .i64 0], none⟩,
  .op ⟨5, none, .store 4 (.t 7) (.t 22), none⟩,
  .op ⟨6, some 8, .mv (.t 23), none⟩])
 (.seq (.seq (.reg [.op ⟨0, some 24, .call 1 [], none⟩,
  .op ⟨1, some 25, .un .not (.t 24), none⟩,
  .op ⟨2, some 26, .mv (.t 25), none⟩,
  .op ⟨3, some 27, .mv (.t 8), some (26, false)⟩,
  .op ⟨4, some 28, .un .not (.t 27), some (26, false)⟩,
  .op ⟨5, some 29, .pick (.t 26) (.c (.one (.bool true))) (.t 28), none⟩])
 (.cond (.t 29) (.seq (.reg [.op ⟨0, some 6, .mv (.c (.one (.bool false))), none⟩])
 (.ret)) (.skip)))
 (.seq (.reg [.op ⟨0, some 30, .mv (.t 0), none⟩,
  .op ⟨1, some 31, .call 2 [(.t 30), (.c (.one (.int .i64 250)))], none⟩,
  .op ⟨2, some 9, .mv (.t 31), none⟩])
 (.seq (.reg [.op ⟨0, some 33, .mv (.t 9), none⟩,
  .op ⟨1, some 34, .load (.agg [.int .i64, .int .i64, .int .i64, .int .i64]) (.t 7), none⟩,
  .op ⟨2, some 35, .call 3 [(.t 33), (.t 34), (.c (.one (.int .i64 3)))], none⟩,
  .op ⟨3, some 32, .mv (.t 35), none⟩,
  .op ⟨4, some 36, .ext (.t 32) 0, none⟩,
  .op ⟨5, some 37, .ext (.t 32) 1, none⟩,
  .op ⟨6, some 10, .mv (.t 36), none⟩,
  .op ⟨7, some 11, .mv (.t 37), none⟩])
 (.seq (.seq (.reg [.op ⟨0, some 38, .mv (.t 11), none⟩,
  .op ⟨1, some 39, .bin .neq (.t 38) (.c (.one (.int .i64 0))), none⟩])
 (.cond (.t 39) (.seq (.reg [.op ⟨0, some 6, .mv (.c (.one (.bool false))), none⟩])
 (.ret)) (.skip)))
 (.seq (.reg [.op ⟨0, some 40, .mv (.t 10), none⟩,
  .op ⟨1, some 41, .s2b (.t 40), none⟩,
  .op ⟨2, some 42, .mv (.t 10), none⟩,
  .op ⟨3, some 43, .lens (.t 42), none⟩,
  .op ⟨4, some 44, .bslice 1 2 [.int .i64 0, .int .i64 0] [(0, 1, (.c (.one (.int .i64 (-1))))), (1, 1, (.t 43))], none⟩,
  .op ⟨5, some 12, .mv (.t 41), none⟩,
  .op ⟨6, some 13, .mv (.t 44), none⟩])
 (.seq (.reg [.op ⟨0, some 14, .mv (.c (.one (.int .i64 24))), none⟩])
 (.seq (.reg [.op ⟨0, some 45, .mv (.t 1), none⟩,
  .op ⟨1, some 46, .mv (.t 12), none⟩,
  .op ⟨2, some 47, .len (.t 46), none⟩,
  .op ⟨3, some 48, .mv (.t 14), none⟩,
  .op ⟨4, some 49, .bin .sub (.t 47) (.t 48), none⟩,
  .op ⟨5, some 50, .bin .rem (.t 45) (.t 49), none⟩,
  .op ⟨6, some 51, .mv (.t 12), none⟩,
  .op ⟨7, some 52, .len (.t 51), none⟩,
  .op ⟨8, some 53, .bin .add (.t 50) (.t 52), none⟩,
  .op ⟨9, some 54, .mv (.t 14), none⟩,
  .op ⟨10, some 55, .bin .sub (.t 53) (.t 54), none⟩,
  .op ⟨11, some 56, .mv (.t 12), none⟩,
  .op ⟨12, some 57, .len (.t 56), none⟩,
  .op ⟨13, some 58, .mv (.t 14), none⟩,
  .op ⟨14, some 59, .bin .sub (.t 57) (.t 58), none⟩,
  .op ⟨15, some 60, .bin .rem (.t 55) (.t 59), none⟩,
  .op ⟨16, some 15, .mv (.t 60), none⟩])
 (.seq (.seq (.reg [.op ⟨0, some 16, .mv (.c (.one (.int .i64 0))), none⟩])
 (.block 0 (.loop [(13, .one (.sl 1)), (16, .one (.int .i64))] [(.exit 0, [(13, .one (.sl 1))])] (.seq (.seq (.reg [.op ⟨0, some 61, .mv (.t 16), none⟩,
  .op ⟨1, some 62, .mv (.t 14), none⟩,
  .op ⟨2, some 63, .bin .lss (.t 61) (.t 62), none⟩])
 (.cond (.t 63) (.skip) (.exit 0)))
 (.seq (.block 1 (.seq (.reg [.op ⟨0, some 66, .mv (.t 12), none⟩,
  .op ⟨1, some 67, .mv (.t 15), none⟩,
  .op ⟨2, some 68, .mv (.t 16), none⟩,
  .op ⟨3, some 69, .bin .add (.t 67) (.t 68), none⟩,
  .op ⟨4, some 70, .mv (.t 2), none⟩,
  .op ⟨5, some 71, .idxa 1 (.t 66) (.t 69), none⟩,
  .op ⟨6, none, .store 1 (.t 71) (.t 70), none⟩])
 (.reg [.op ⟨0, some 72, .mv (.t 13), none⟩,
  .op ⟨1, some 73, .mv (.t 15), none⟩,
  .op ⟨2, some 74, .mv (.t 16), none⟩,
  .op ⟨3, some 75, .bin .add (.t 73) (.t 74), none⟩,
  .op ⟨4, some 76, .bslice 1 1 [.int .i64 0] [(0, 1, (.t 75))], none⟩,
  .op ⟨5, some 77, .app 1 8 (.t 72) (.t 76), none⟩,
  .op ⟨6, some 13, .mv (.t 77), none⟩])))
 (.reg [.op ⟨0, some 64, .mv (.t 16), none⟩,
  .op ⟨1, some 65, .bin .add (.t 64) (.c (.one (.int .i64 1))), none⟩,
  .op ⟨2, some 16, .mv (.t 65), none⟩]))))))
 (.seq (.reg [.op ⟨0, some 79, .mv (.t 12), none⟩,
  .op ⟨1, some 80, .b2s (.t 79), none⟩,
  .op ⟨2, some 81, .load (.agg [.int .i64, .int .i64, .int .i64, .int .i64]) (.t 7), none⟩,
  .op ⟨3, some 82, .mv (.t 13), none⟩,
  .op ⟨4, some 83, .call 4 [(.t 80), (.t 81), (.c (.one (.int .i64 3))), (.t 82)], none⟩,
  .op ⟨5, some 78, .mv (.t 83), none⟩,
  .op ⟨6, some 84, .ext (.t 78) 0, none⟩,
  .op ⟨7, some 85, .ext (.t 78) 1, none⟩,
  .op ⟨8, some 86, .ext (.t 78) 2, none⟩,
  .op ⟨9, some 17, .mv (.t 84), none⟩,
  .op ⟨10, some 18, .mv (.t 85), none⟩,
  .op ⟨11, some 19, .mv (.t 86), none⟩])
 (.seq (.reg [.op ⟨0, some 87, .mv (.t 19), none⟩,
  .op ⟨1, some 88, .bin .eql (.t 87) (.c (.one (.int .i64 0))), none⟩,
  .op ⟨2, some 89, .mv (.t 88), none⟩,
  .op ⟨3, some 90, .mv (.t 17), some (89, true)⟩,
  .op ⟨4, some 91, .mv (.t 9), some (89, true)⟩,
  .op ⟨5, some 92, .bin .eql (.t 90) (.t 91), some (89, true)⟩,
  .op ⟨6, some 93, .pick (.t 89) (.t 92) (.c (.one (.bool false))), none⟩,
  .op ⟨7, some 6, .mv (.t 93), none⟩])
 (.ret))))))))))))⟩
noncomputable def law29_WeaveLost.s1 (x1 : Int) (x2 : Int) (H3 : Heap) (r7 : (Bytes × Int × Unit)) (s10 : (Sl × Int × Unit)) (H11 : Heap) : Option (((Sl × Int × Unit) ⊕ (Sl × Unit)) × Heap) :=
 cond (decide (s10.2.1 < 24)) (
 (Sl.at 1 (⟨some (H3.length, 0), (List.length (r7.1 : Bytes)), (List.length (r7.1 : Bytes))⟩) (IntKind.wrap .i64 ((Int.tmod (IntKind.wrap .i64 ((IntKind.wrap .i64 ((Int.tmod x1 (IntKind.wrap .i64 (((List.length (r7.1 : Bytes)) : Int) - 24))) + ((List.length (r7.1 : Bytes)) : Int))) - 24)) (IntKind.wrap .i64 (((List.length (r7.1 : Bytes)) : Int) - 24))) + s10.2.1))).bind fun (a12 : (Nat × Nat)) =>
 (wr H11 a12.1 a12.2 [.int .u8 x2]).bind fun (H13 : Heap) =>
 let H14 : Heap := H13 ++ [Blk.cells [.int .i64 (IntKind.wrap .i64 ((Int.tmod (IntKind.wrap .i64 ((IntKind.wrap .i64 ((Int.tmod x1 (IntKind.wrap .i64 (((List.length (r7.1 : Bytes)) : Int) - 24))) + ((List.length (r7.1 : Bytes)) : Int))) - 24)) (IntKind.wrap .i64 (((List.length (r7.1 : Bytes)) : Int) - 24))) + s10.2.1))] .exact]
 (slRow H14 1 (⟨some (H13.length, 0), 1, 1⟩)).bind fun (cs15 : (List C)) =>
 (appS H14 1 8 s10.1 1 cs15).bind fun (p16 : (Sl × Heap)) =>
 some (Sum.inl (p16.1, (IntKind.wrap .i64 (s10.2.1 + 1)), ()), p16.2)) (
 some (Sum.inr (s10.1, ()), H11))
noncomputable def law29_WeaveLost.on (x0 : Bytes) (x1 : Int) (x2 : Int) (H : Heap) : Option (Bool × Unit) :=
 (weave_ShapeOf 250 8).bind fun (r1 : ((Int × Int × Int × Int × Unit) × Bool × Unit)) =>
 let H2 : Heap := H ++ [Blk.cells [.int .i64 0, .int .i64 0, .int .i64 0, .int .i64 0] .exact]
 (wr H2 H.length 0 [.int .i64 r1.1.1, .int .i64 r1.1.2.1, .int .i64 r1.1.2.2.1, .int .i64 r1.1.2.2.2.1]).bind fun (H3 : Heap) =>
 (law29_awake).bind fun (r4 : (Bool × Unit)) =>
 cond (!r4.1) (
 some (false, ())) (
 cond (!r1.2.1) (
 some (false, ())) (
 (law29_page x0 250).bind fun (r5 : (Bytes × Unit)) =>
 Option.bind (α := (Int × Int × Int × Int × Unit)) (rd H3 (.agg [.int .i64, .int .i64, .int .i64, .int .i64]) H.length 0) fun (v6 : (Int × Int × Int × Int × Unit)) =>
 (weave_Encode r5.1 (v6.1, v6.2.1, v6.2.2.1, v6.2.2.2.1, ()) 3).bind fun (r7 : (Bytes × Int × Unit)) =>
 cond (!decide (r7.2.1 = 0)) (
 some (false, ())) (
 let H8 : Heap := H3 ++ [Blk.cells (cellsOf r7.1) .loose]
 let H9 : Heap := H8 ++ [Blk.cells [.int .i64 (-1), .int .i64 (List.length (r7.1 : Bytes) : Int)] .exact]
 cond (decide ((IntKind.wrap .i64 (((List.length (r7.1 : Bytes)) : Int) - 24)) = 0)) none (
 cond (decide ((IntKind.wrap .i64 (((List.length (r7.1 : Bytes)) : Int) - 24)) = 0)) none (
 (loopW (law29_WeaveLost.s1 x1 x2 H3 r7) (⟨some (H8.length, 0), 2, 2⟩, 0, ()) H9).bind fun (p17 : (Sl × Unit) × Heap) =>
 (strOf p17.2 (⟨some (H3.length, 0), (List.length (r7.1 : Bytes)), (List.length (r7.1 : Bytes))⟩)).bind fun (s18 : Bytes) =>
 Option.bind (α := (Int × Int × Int × Int × Unit)) (rd p17.2 (.agg [.int .i64, .int .i64, .int .i64, .int .i64]) H.length 0) fun (v19 : (Int × Int × Int × Int × Unit)) =>
 (weave_Decode s18 (v19.1, v19.2.1, v19.2.2.1, v19.2.2.2.1, ()) 3 p17.1.1 p17.2).bind fun (r20 : ((Bytes × Int × Int × Unit) × Heap)) =>
 cond (decide (r20.1.2.2.1 = 0)) (
 some ((decide ((r20.1.1 : Bytes) = r5.1)), ())) (
 some (false, ())))))))
noncomputable def law29_WeaveLost (x0 : Bytes) (x1 : Int) (x2 : Int) : Option (Bool × Unit) := law29_WeaveLost.on x0 x1 x2 []
noncomputable def law29_WeaveLost.c : Callee := .pure [.one .str, .one (.int .i64), .one (.int .u8)] [.one .bool] (fun x => law29_WeaveLost x.1 x.2.1 x.2.2.1)
noncomputable def law29_WeaveLost.calls : Nat → Option Callee
  | 0 => some weave_ShapeOf.c
  | 1 => some law29_awake.c
  | 2 => some law29_page.c
  | 3 => some weave_Encode.c
  | 4 => some weave_Decode.c
  | _ => none
theorem law29_WeaveLost.eq : evPure law29_WeaveLost.calls law29_WeaveLost.af = (fun x H => law29_WeaveLost.on x.1 x.2.1 x.2.2.1 H) := by kernel_rfl

/-! ### tinderbox/tinderboxlaw29.WeaveErased -/
def law29_WeaveErased.af : AFun := ⟨[.one .str, .one (.int .i64)], [.one .bool], [.t 4],
 .seq (.reg [.op ⟨0, some 4, .mv (.c (.one (.bool false))), none⟩])
 (.seq (.reg [.op ⟨0, some 10, .mv (.t 0), none⟩,
  .op ⟨1, some 11, .mv (.t 0), none⟩,
  .op ⟨2, some 12, .lens (.t 11), none⟩,
  .op ⟨3, some 13, .min [(.t 12), (.c (.one (.int .i64 100)))], none⟩,
  .op ⟨4, some 14, .slstr (.t 10) none (some (.t 13)), none⟩,
  .op ⟨5, some 15, .mv (.t 1), none⟩,
  .op ⟨6, some 16, .bin .and (.t 15) (.c (.one (.int .i64 63))), none⟩,
  .op ⟨7, some 5, .mv (.t 14), none⟩,
  .op ⟨8, some 6, .mv (.c (.one (.int .i64 0))), none⟩,
  .op ⟨9, some 7, .mv (.t 16), none⟩])
 (.seq (.seq (.reg [.op ⟨0, some 8, .mv (.c (.one (.int .i64 0))), none⟩])
 (.block 0 (.loop [(6, .one (.int .i64)), (8, .one (.int .i64))] [(.exit 0, [(6, .one (.int .i64))])] (.seq (.seq (.reg [.op ⟨0, some 17, .mv (.t 8), none⟩,
  .op ⟨1, some 18, .mv (.t 5), none⟩,
  .op ⟨2, some 19, .lens (.t 18), none⟩,
  .op ⟨3, some 20, .bin .lss (.t 17) (.t 19), none⟩])
 (.cond (.t 20) (.skip) (.exit 0)))
 (.seq (.block 1 (.seq (.reg [.op ⟨0, some 9, .mv (.c (.one (.int .i64 0))), none⟩])
 (.block 2 (.loop [(6, .one (.int .i64)), (9, .one (.int .i64))] [(.exit 2, [(6, .one (.int .i64))])] (.seq (.seq (.reg [.op ⟨0, some 23, .mv (.t 9), none⟩,
  .op ⟨1, some 24, .bin .lss (.t 23) (.c (.one (.int .i64 8))), none⟩])
 (.cond (.t 24) (.skip) (.exit 2)))
 (.seq (.block 3 (.seq (.reg [.op ⟨0, some 27, .mv (.t 5), none⟩,
  .op ⟨1, some 28, .mv (.t 8), none⟩,
  .op ⟨2, some 29, .index (.t 27) (.t 28), none⟩,
  .op ⟨3, some 30, .mv (.t 9), none⟩,
  .op ⟨4, some 31, .conv .u64 (.t 30), none⟩,
  .op ⟨5, some 32, .bin .shr (.t 29) (.t 31), none⟩,
  .op ⟨6, some 33, .bin .rem (.t 32) (.c (.one (.int .u8 2))), none⟩,
  .op ⟨7, some 34, .bin .eql (.t 33) (.c (.one (.int .u8 0))), none⟩])
 (.cond (.t 34) (.reg [.op ⟨0, some 35, .mv (.t 6), none⟩,
  .op ⟨1, some 36, .bin .add (.t 35) (.c (.one (.int .i64 1))), none⟩,
  .op ⟨2, some 6, .mv (.t 36), none⟩]) (.skip))))
 (.reg [.op ⟨0, some 25, .mv (.t 9), none⟩,
  .op ⟨1, some 26, .bin .add (.t 25) (.c (.one (.int .i64 1))), none⟩,
  .op ⟨2, some 9, .mv (.t 26), none⟩])))))))
 (.reg [.op ⟨0, some 21, .mv (.t 8), none⟩,
  .op ⟨1, some 22, .bin .add (.t 21) (.c (.one (.int .i64 1))), none⟩,
  .op ⟨2, some 8, .mv (.t 22), none⟩]))))))
 (.seq (.reg [.op ⟨0, some 37, .call 0 [], none⟩,
  .op ⟨1, some 38, .mv (.t 37), none⟩,
  .op ⟨2, some 39, .mv (.t 5), some (38, true)⟩,
  .op ⟨3, some 40, .mv (.t 7), some (38, true)⟩,
  .op ⟨4, some 41, .call 1 [(.t 39), (.t 40)], some (38, true)⟩,
  .op ⟨5, some 42, .mv (.t 6), some (38, true)⟩,
  .op ⟨6, some 43, .mv (.t 7), some (38, true)⟩,
  .op ⟨7, some 44, .bin .leq (.t 42) (.t 43), some (38, true)⟩,
  .op ⟨8, some 45, .eqb false (.t 41) (.t 44), some (38, true)⟩,
  .op ⟨9, some 46, .pick (.t 38) (.t 45) (.c (.one (.bool false))), none⟩,
  .op ⟨10, some 4, .mv (.t 46), none⟩])
 (.ret))))⟩
noncomputable def law29_WeaveErased.s1 (s1 : Bytes) (s2 : (Int × Int × Unit)) (s4 : (Int × Int × Unit)) (H5 : Heap) : Option (((Int × Int × Unit) ⊕ (Int × Unit)) × Heap) :=
 cond (decide (s4.2.1 < 8)) (
 (idxS s1 s2.2.1).bind fun (n6 : Int) =>
 cond (decide ((IntKind.wrap .u64 s4.2.1) < 0)) none (
 cond (decide ((Int.tmod (Int.fdiv n6 (2 ^ (min (Int.toNat (IntKind.wrap .u64 s4.2.1)) (IntKind.bits .u8)))) 2) = 0)) (
 some (Sum.inl ((IntKind.wrap .i64 (s4.1 + 1)), (IntKind.wrap .i64 (s4.2.1 + 1)), ()), H5)) (
 some (Sum.inl (s4.1, (IntKind.wrap .i64 (s4.2.1 + 1)), ()), H5)))) (
 some (Sum.inr (s4.1, ()), H5))
noncomputable def law29_WeaveErased.s2 (s1 : Bytes) (s2 : (Int × Int × Unit)) (H3 : Heap) : Option (((Int × Int × Unit) ⊕ (Int × Unit)) × Heap) :=
 cond (decide (s2.2.1 < (List.length (s1 : Bytes) : Int))) (
 (loopW (law29_WeaveErased.s1 s1 s2) (s2.1, 0, ()) H3).bind fun (p7 : (Int × Unit) × Heap) =>
 some (Sum.inl (p7.1.1, (IntKind.wrap .i64 (s2.2.1 + 1)), ()), p7.2)) (
 some (Sum.inr (s2.1, ()), H3))
noncomputable def law29_WeaveErased.on (x0 : Bytes) (x1 : Int) (H : Heap) : Option (Bool × Unit) :=
 (subS x0 0 (if 100 < (List.length (x0 : Bytes) : Int) then 100 else (List.length (x0 : Bytes) : Int))).bind fun (s1 : Bytes) =>
 (loopW (law29_WeaveErased.s2 s1) (0, 0, ()) H).bind fun (p8 : (Int × Unit) × Heap) =>
 (law29_awake).bind fun (r9 : (Bool × Unit)) =>
 cond r9.1 (
 (weave_Erased s1 (bitsI .and .i64 x1 63)).bind fun (r10 : (Bool × Unit)) =>
 some ((r10.1 == (decide (p8.1.1 ≤ (bitsI .and .i64 x1 63)))), ())) (
 some (false, ()))
noncomputable def law29_WeaveErased (x0 : Bytes) (x1 : Int) : Option (Bool × Unit) := law29_WeaveErased.on x0 x1 []
noncomputable def law29_WeaveErased.c : Callee := .pure [.one .str, .one (.int .i64)] [.one .bool] (fun x => law29_WeaveErased x.1 x.2.1)
noncomputable def law29_WeaveErased.calls : Nat → Option Callee
  | 0 => some law29_awake.c
  | 1 => some weave_Erased.c
  | _ => none
theorem law29_WeaveErased.eq : evPure law29_WeaveErased.calls law29_WeaveErased.af = (fun x H => law29_WeaveErased.on x.1 x.2.1 H) := by kernel_rfl
end Ev
