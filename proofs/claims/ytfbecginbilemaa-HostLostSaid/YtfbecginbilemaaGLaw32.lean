/- What the functions of the package Law32 compute: abstract code, and a function of plain Lean for each; the kernel checks that they are the same. Written by gen2.py. -/
import Derived.Test.YtfbecginbilemaaEvCore
import Derived.Test.YtfbecginbilemaaGBus
import Derived.Test.YtfbecginbilemaaGHost
import Derived.Test.YtfbecginbilemaaGLaw05
import Derived.Test.YtfbecginbilemaaGNand
import Derived.Test.YtfbecginbilemaaGRef01
import Derived.Test.YtfbecginbilemaaGRef04
import Derived.KernelRfl
set_option linter.unusedVariables false
set_option maxRecDepth 100000
namespace Ev
open Go (IntKind BinOp UnOp)

/-! ### tinderbox/tinderboxlaw32.right -/
def law32_right.af : AFun := ⟨[.one .str], [.one .bool], [.t 2],
 .seq (.reg [.op ⟨0, some 2, .mv (.c (.one (.bool false))), none⟩])
 (.seq (.reg [.op ⟨0, some 10, .mv (.t 0), none⟩,
  .op ⟨1, some 11, .slstr (.t 10) (some (.c (.one (.int .i64 3)))) (some (.c (.one (.int .i64 17)))), none⟩,
  .op ⟨2, some 12, .build [.str [], .int .i64 0] [(0, 1, (.t 11))], none⟩,
  .op ⟨3, some 3, .new [.str [], .int .i64 0], none⟩,
  .op ⟨4, none, .store 2 (.t 3) (.t 12), none⟩])
 (.seq (.reg [.op ⟨0, some 14, .load (.agg [.str, .int .i64]) (.t 3), none⟩,
  .op ⟨1, some 15, .call 0 [(.t 14), (.c (.one (.int .i64 12)))], none⟩,
  .op ⟨2, some 13, .mv (.t 15), none⟩,
  .op ⟨3, some 16, .ext (.t 13) 0, none⟩,
  .op ⟨4, some 17, .ext (.t 13) 1, none⟩,
  .op ⟨5, some 4, .new [.str [], .int .i64 0], none⟩,
  .op ⟨6, none, .store 2 (.t 4) (.t 16), none⟩,
  .op ⟨7, some 5, .mv (.t 17), none⟩])
 (.seq (.reg [.op ⟨0, some 19, .load (.agg [.str, .int .i64]) (.t 4), none⟩,
  .op ⟨1, some 20, .call 1 [(.t 19), (.c (.one (.int .i64 2)))], none⟩,
  .op ⟨2, some 18, .mv (.t 20), none⟩,
  .op ⟨3, some 21, .ext (.t 18) 0, none⟩,
  .op ⟨4, some 22, .ext (.t 18) 1, none⟩,
  .op ⟨5, some 6, .new [.str [], .int .i64 0], none⟩,
  .op ⟨6, none, .store 2 (.t 6) (.t 21), none⟩,
  .op ⟨7, some 7, .mv (.t 22), none⟩])
 (.seq (.reg [.op ⟨0, some 24, .mv (.t 0), none⟩,
  .op ⟨1, some 25, .slstr (.t 24) (some (.c (.one (.int .i64 20)))) none, none⟩,
  .op ⟨2, some 26, .build [.str [], .int .i64 0] [(0, 1, (.t 25))], none⟩,
  .op ⟨3, some 27, .call 1 [(.t 26), (.c (.one (.int .i64 4)))], none⟩,
  .op ⟨4, some 23, .mv (.t 27), none⟩,
  .op ⟨5, some 28, .ext (.t 23) 0, none⟩,
  .op ⟨6, some 29, .ext (.t 23) 1, none⟩,
  .op ⟨7, some 8, .new [.str [], .int .i64 0], none⟩,
  .op ⟨8, none, .store 2 (.t 8) (.t 28), none⟩,
  .op ⟨9, some 9, .mv (.t 29), none⟩])
 (.seq (.reg [.op ⟨0, some 30, .mv (.t 7), none⟩,
  .op ⟨1, some 31, .bin .eql (.t 30) (.c (.one (.int .u64 32))), none⟩,
  .op ⟨2, some 32, .mv (.t 31), none⟩,
  .op ⟨3, some 33, .mv (.t 9), some (32, true)⟩,
  .op ⟨4, some 34, .mv (.t 0), some (32, true)⟩,
  .op ⟨5, some 35, .slstr (.t 34) none (some (.c (.one (.int .i64 20)))), some (32, true)⟩,
  .op ⟨6, some 36, .call 2 [(.t 35)], some (32, true)⟩,
  .op ⟨7, some 37, .conv .u64 (.t 36), some (32, true)⟩,
  .op ⟨8, some 38, .bin .eql (.t 33) (.t 37), some (32, true)⟩,
  .op ⟨9, some 39, .pick (.t 32) (.t 38) (.c (.one (.bool false))), none⟩,
  .op ⟨10, some 2, .mv (.t 39), none⟩])
 (.ret))))))⟩
noncomputable def law32_right.on (x0 : Bytes) (H : Heap) : Option (Bool × Unit) :=
 (subS x0 3 17).bind fun (s1 : Bytes) =>
 let H2 : Heap := H ++ [Blk.cells [.str [], .int .i64 0] .exact]
 (wr H2 H.length 0 [.str s1, .int .i64 0]).bind fun (H3 : Heap) =>
 Option.bind (α := (Bytes × Int × Unit)) (rd H3 (.agg [.str, .int .i64]) H.length 0) fun (v4 : (Bytes × Int × Unit)) =>
 (ref04_At_Bytes (v4.1, v4.2.1, ()) 12).bind fun (r5 : ((Bytes × Int × Unit) × Bytes × Unit)) =>
 let H6 : Heap := H3 ++ [Blk.cells [.str [], .int .i64 0] .exact]
 (wr H6 H3.length 0 [.str r5.1.1, .int .i64 r5.1.2.1]).bind fun (H7 : Heap) =>
 Option.bind (α := (Bytes × Int × Unit)) (rd H7 (.agg [.str, .int .i64]) H3.length 0) fun (v8 : (Bytes × Int × Unit)) =>
 (ref04_At_Fixed (v8.1, v8.2.1, ()) 2).bind fun (r9 : ((Bytes × Int × Unit) × Int × Unit)) =>
 let H10 : Heap := H7 ++ [Blk.cells [.str [], .int .i64 0] .exact]
 (wr H10 H7.length 0 [.str r9.1.1, .int .i64 r9.1.2.1]).bind fun (H11 : Heap) =>
 (subS x0 20 (List.length (x0 : Bytes) : Int)).bind fun (s12 : Bytes) =>
 (ref04_At_Fixed (s12, 0, ()) 4).bind fun (r13 : ((Bytes × Int × Unit) × Int × Unit)) =>
 let H14 : Heap := H11 ++ [Blk.cells [.str [], .int .i64 0] .exact]
 (wr H14 H11.length 0 [.str r13.1.1, .int .i64 r13.1.2.1]).bind fun (H15 : Heap) =>
 cond (decide (r9.2.1 = 32)) (
 (subS x0 0 20).bind fun (s16 : Bytes) =>
 (ref01_Sum s16).bind fun (r17 : (Int × Unit)) =>
 some ((decide (r13.2.1 = (IntKind.wrap .u64 r17.1))), ())) (
 some (false, ()))
noncomputable def law32_right (x0 : Bytes) : Option (Bool × Unit) := law32_right.on x0 []
noncomputable def law32_right.c : Callee := .pure [.one .str] [.one .bool] (fun x => law32_right x.1)
noncomputable def law32_right.calls : Nat → Option Callee
  | 0 => some ref04_At_Bytes.c
  | 1 => some ref04_At_Fixed.c
  | 2 => some ref01_Sum.c
  | _ => none
theorem law32_right.eq : evPure law32_right.calls law32_right.af = (fun x H => law32_right.on x.1 H) := by kernel_rfl

/-! ### tinderbox/tinderboxlaw32.begun -/
def law32_begun.af : AFun := ⟨[.agg [.int .i64, .int .i64, .int .i64], .agg [.sl 3, .sl 1, .sl 1]], [.one .ptr, .one .ptr, .one .bool], [.t 4, .t 5, .t 6],
 .seq (.reg [.op ⟨0, some 2, .box (.t 0), none⟩,
  .op ⟨1, some 3, .box (.t 1), none⟩,
  .op ⟨2, some 4, .mv (.c (.one (.ptr none))), none⟩,
  .op ⟨3, some 5, .mv (.c (.one (.ptr none))), none⟩,
  .op ⟨4, some 6, .mv (.c (.one (.bool false))), none⟩])
 (.seq (.reg [.op ⟨0, some 14, .load (.agg [.int .i64, .int .i64, .int .i64]) (.t 2), none⟩,
  .op ⟨2, some 16, .load (.agg [.sl 3, .sl 1, .sl 1]) (.t 3), none⟩,
  .op ⟨1, some 15, .call 0 [(.t 14)], none⟩,
  .again ⟨2, some 16, .load (.agg [.sl 3, .sl 1, .sl 1]) (.t 3), none⟩,
  .op ⟨3, some 17, .call 1 [(.t 15), (.t 16)], none⟩,
  .op ⟨4, some 13, .mv (.t 17), none⟩,
  .op ⟨5, some 18, .ext (.t 13) 0, none⟩,
  .op ⟨6, some 19, .ext (.t 13) 1, none⟩,
  .op ⟨7, some 7, .mv (.t 18), none⟩,
  .op ⟨8, some 8, .mv (.t 19), none⟩])
 (.seq (.reg [.op ⟨0, some 21, .mv (.t 7), none⟩,
  .op ⟨1, some 22, .call 2 [(.t 21)], none⟩,
  .op ⟨2, some 20, .mv (.t 22), none⟩,
  .op ⟨3, some 23, .ext (.t 20) 0, none⟩,
  .op ⟨4, some 24, .ext (.t 20) 1, none⟩,
  .op ⟨5, some 9, .mv (.t 23), none⟩,
  .op ⟨6, some 10, .mv (.t 24), none⟩])
 (.seq (.reg [.op ⟨0, some 26, .mv (.t 9), none⟩,
  .op ⟨1, some 27, .call 3 [(.t 26)], none⟩,
  .op ⟨2, some 25, .mv (.t 27), none⟩,
  .op ⟨3, some 28, .ext (.t 25) 0, none⟩,
  .op ⟨4, some 29, .ext (.t 25) 1, none⟩,
  .op ⟨5, some 11, .mv (.t 28), none⟩,
  .op ⟨6, some 12, .mv (.t 29), none⟩])
 (.seq (.reg [.op ⟨0, some 30, .mv (.t 7), none⟩,
  .op ⟨1, some 31, .mv (.t 11), none⟩,
  .op ⟨2, some 32, .mv (.t 8), none⟩,
  .op ⟨3, some 33, .bin .eql (.t 32) (.c (.one (.int .i64 0))), none⟩,
  .op ⟨4, some 34, .mv (.t 33), none⟩,
  .op ⟨5, some 35, .mv (.t 10), some (34, true)⟩,
  .op ⟨6, some 36, .bin .eql (.t 35) (.c (.one (.int .i64 0))), some (34, true)⟩,
  .op ⟨7, some 37, .pick (.t 34) (.t 36) (.c (.one (.bool false))), none⟩,
  .op ⟨8, some 38, .mv (.t 37), none⟩,
  .op ⟨9, some 39, .mv (.t 12), some (38, true)⟩,
  .op ⟨10, some 40, .bin .eql (.t 39) (.c (.one (.int .i64 0))), some (38, true)⟩,
  .op ⟨11, some 41, .pick (.t 38) (.t 40) (.c (.one (.bool false))), none⟩,
  .op ⟨12, some 4, .mv (.t 30), none⟩,
  .op ⟨13, some 5, .mv (.t 31), none⟩,
  .op ⟨14, some 6, .mv (.t 41), none⟩])
 (.ret)))))⟩
noncomputable def law32_begun (x0 : (Int × Int × Int × Unit)) (x1 : (Sl × Sl × Sl × Unit)) (H : Heap) : Option ((Ptr × Ptr × Bool × Unit) × Heap) :=
 let H1 : Heap := H ++ [Blk.cells [.int .i64 x0.1, .int .i64 x0.2.1, .int .i64 x0.2.2.1] .exact]
 let H2 : Heap := H1 ++ [Blk.cells [.sl 3 x1.1, .sl 1 x1.2.1, .sl 1 x1.2.2.1] .exact]
 Option.bind (α := (Int × Int × Int × Unit)) (rd H2 (.agg [.int .i64, .int .i64, .int .i64]) H.length 0) fun (v3 : (Int × Int × Int × Unit)) =>
 Option.bind (α := (Sl × Sl × Sl × Unit)) (rd H2 (.agg [.sl 3, .sl 1, .sl 1]) H1.length 0) fun (v4 : (Sl × Sl × Sl × Unit)) =>
 (law05_Geometry (v3.1, v3.2.1, v3.2.2.1, ()) H2).bind fun (r5 : (((Int × Int × Int × Unit) × Unit) × Heap)) =>
 Option.bind (α := (Sl × Sl × Sl × Unit)) (rd r5.2 (.agg [.sl 3, .sl 1, .sl 1]) H1.length 0) fun (v6 : (Sl × Sl × Sl × Unit)) =>
 if V.w (.agg [.sl 3 v6.1, .sl 1 v6.2.1, .sl 1 v6.2.2.1]) = V.w (.agg [.sl 3 v4.1, .sl 1 v4.2.1, .sl 1 v4.2.2.1]) then
 (nand_New (r5.1.1.1, r5.1.1.2.1, r5.1.1.2.2.1, ()) (v4.1, v4.2.1, v4.2.2.1, ()) r5.2).bind fun (r7 : ((Ptr × Int × Unit) × Heap)) =>
 (bus_New r7.1.1 r7.2).bind fun (r8 : ((Ptr × Int × Unit) × Heap)) =>
 (host_Probe r8.1.1 r8.2).bind fun (r9 : ((Ptr × Int × Unit) × Heap)) =>
 cond (decide (r7.1.2.1 = 0)) (
 cond (decide (r8.1.2.1 = 0)) (
 some ((r7.1.1, r9.1.1, (decide (r9.1.2.1 = 0)), ()), r9.2)) (
 some ((r7.1.1, r9.1.1, false, ()), r9.2))) (
 some ((r7.1.1, r9.1.1, false, ()), r9.2))
 else none
noncomputable def law32_begun.c : Callee := .full [.agg [.int .i64, .int .i64, .int .i64], .agg [.sl 3, .sl 1, .sl 1]] [.one .ptr, .one .ptr, .one .bool] (fun x H => law32_begun x.1 x.2.1 H)
noncomputable def law32_begun.calls : Nat → Option Callee
  | 0 => some law05_Geometry.c
  | 1 => some nand_New.c
  | 2 => some bus_New.c
  | 3 => some host_Probe.c
  | _ => none
theorem law32_begun.eq : evFull law32_begun.calls law32_begun.af = (fun x H => law32_begun x.1 x.2.1 H) := by kernel_rfl

/-! ### tinderbox/tinderboxlaw32.awake -/
def law32_awake.af : AFun := ⟨[], [.one .bool], [.t 0],
 .seq (.reg [.op ⟨0, some 0, .mv (.c (.one (.bool false))), none⟩])
 (.seq (.reg [.op ⟨0, some 5, .build [.int .i64 0, .int .i64 0, .int .i64 0] [], none⟩,
  .op ⟨1, some 6, .build [.sl 3 Sl.nil, .sl 1 Sl.nil, .sl 1 Sl.nil] [], none⟩,
  .op ⟨2, some 7, .call 0 [(.t 5), (.t 6)], none⟩,
  .op ⟨3, some 4, .mv (.t 7), none⟩,
  .op ⟨4, some 8, .ext (.t 4) 0, none⟩,
  .op ⟨5, some 9, .ext (.t 4) 1, none⟩,
  .op ⟨6, some 10, .ext (.t 4) 2, none⟩,
  .op ⟨7, some 1, .mv (.t 8), none⟩,
  .op ⟨8, some 2, .mv (.t 9), none⟩,
  .op ⟨9, some 3, .mv (.t 10), none⟩])
 (.seq (.reg [.op ⟨0, some 11, .mv (.t 3), none⟩,
  .op ⟨1, some 12, .mv (.t 11), none⟩,
  .op ⟨2, some 13, .mv (.t 2), some (12, true)⟩,
  .op ⟨3, some 14, .call 1 [(.t 13)], some (12, true)⟩,
  .op ⟨4, some 15, .mv (.t 1), some (12, true)⟩,
  .op ⟨5, some 16, .call 2 [(.t 15)], some (12, true)⟩,
  .op ⟨6, some 17, .eqagg false [.int .i64, .int .i64, .int .i64] (.t 14) (.t 16), some (12, true)⟩,
  .op ⟨7, some 18, .pick (.t 12) (.t 17) (.c (.one (.bool false))), none⟩,
  .op ⟨8, some 19, .mv (.t 18), none⟩,
  .op ⟨9, some 20, .mv (.t 2), some (19, true)⟩,
  .op ⟨10, some 21, .call 3 [(.t 20)], some (19, true)⟩,
  .op ⟨11, some 22, .bin .geq (.t 21) (.c (.one (.int .i64 2))), some (19, true)⟩,
  .op ⟨12, some 23, .pick (.t 19) (.t 22) (.c (.one (.bool false))), none⟩,
  .op ⟨13, some 0, .mv (.t 23), none⟩])
 (.ret)))⟩
noncomputable def law32_awake.on (H : Heap) : Option (Bool × Unit) :=
 (law32_begun (0, 0, 0, ()) (⟨none, 0, 0⟩, ⟨none, 0, 0⟩, ⟨none, 0, 0⟩, ()) H).bind fun (r1 : ((Ptr × Ptr × Bool × Unit) × Heap)) =>
 cond r1.1.2.2.1 (
 (host_Host_Geometry r1.1.2.1 r1.2).bind fun (r2 : (((Int × Int × Int × Unit) × Unit) × Heap)) =>
 (nand_Chip_Geometry r1.1.1 r2.2).bind fun (r3 : (((Int × Int × Int × Unit) × Unit) × Heap)) =>
 cond ((decide (r2.1.1.1 = r3.1.1.1)) && ((decide (r2.1.1.2.1 = r3.1.1.2.1)) && ((decide (r2.1.1.2.2.1 = r3.1.1.2.2.1)) && true))) (
 (host_Host_Polls r1.1.2.1 r3.2).bind fun (r4 : ((Int × Unit) × Heap)) =>
 some ((decide (2 ≤ r4.1.1)), ())) (
 some (false, ()))) (
 some (false, ()))
noncomputable def law32_awake  : Option (Bool × Unit) := law32_awake.on []
noncomputable def law32_awake.c : Callee := .pure [] [.one .bool] (fun _ => law32_awake)
noncomputable def law32_awake.calls : Nat → Option Callee
  | 0 => some law32_begun.c
  | 1 => some host_Host_Geometry.c
  | 2 => some nand_Chip_Geometry.c
  | 3 => some host_Host_Polls.c
  | _ => none
theorem law32_awake.eq : evPure law32_awake.calls law32_awake.af = (fun _ H => law32_awake.on H) := by kernel_rfl

/-! ### tinderbox/tinderboxlaw32.HostLost -/
def law32_HostLost.af : AFun := ⟨[.one .str], [.one .bool], [.t 2],
 .seq (.reg [.op ⟨0, some 2, .mv (.c (.one (.bool false))), none⟩])
 (.seq (.reg [.op ⟨0, some 10, .mv (.t 0), none⟩,
  .op ⟨1, some 11, .s2b (.t 10), none⟩,
  .op ⟨2, some 3, .mv (.t 11), none⟩])
 (.seq (.block 0 (.loop [(3, .one (.sl 1))] [(.exit 0, [(3, .one (.sl 1))])] (.seq (.seq (.reg [.op ⟨0, some 12, .mv (.t 3), none⟩,
  .op ⟨1, some 13, .len (.t 12), none⟩,
  .op ⟨2, some 14, .bin .lss (.t 13) (.c (.one (.int .i64 72))), none⟩])
 (.cond (.t 14) (.skip) (.exit 0)))
 (.block 1 (.reg [.op ⟨0, some 15, .mv (.t 3), none⟩,
  .op ⟨1, some 16, .mv (.t 3), none⟩,
  .op ⟨2, some 17, .len (.t 16), none⟩,
  .op ⟨3, some 18, .conv .u8 (.t 17), none⟩,
  .op ⟨4, some 19, .bslice 1 1 [.int .u8 0] [(0, 1, (.t 18))], none⟩,
  .op ⟨5, some 20, .app 1 1 (.t 15) (.t 19), none⟩,
  .op ⟨6, some 3, .mv (.t 20), none⟩])))))
 (.seq (.reg [.op ⟨0, some 21, .mv (.t 3), none⟩,
  .op ⟨1, some 22, .slc 1 (.t 21) none (some (.c (.one (.int .i64 72)))) none, none⟩,
  .op ⟨2, some 23, .b2s (.t 22), none⟩,
  .op ⟨3, some 4, .mv (.t 23), none⟩])
 (.seq (.reg [.op ⟨0, some 24, .mk 1 1 [.int .u8 0] (.c (.one (.int .i64 24))) (.c (.one (.int .i64 24))), none⟩,
  .op ⟨1, some 5, .mv (.t 24), none⟩])
 (.seq (.seq (.reg [.op ⟨0, some 6, .mv (.c (.one (.int .i64 0))), none⟩])
 (.block 2 (.loop [(6, .one (.int .i64))] [(.exit 2, [])] (.seq (.seq (.reg [.op ⟨0, some 25, .mv (.t 6), none⟩,
  .op ⟨1, some 26, .bin .lss (.t 25) (.c (.one (.int .i64 24))), none⟩])
 (.cond (.t 26) (.skip) (.exit 2)))
 (.seq (.block 3 (.reg [.op ⟨0, some 29, .mv (.t 5), none⟩,
  .op ⟨1, some 30, .mv (.t 6), none⟩,
  .op ⟨2, some 31, .mv (.t 4), none⟩,
  .op ⟨3, some 32, .mv (.t 6), none⟩,
  .op ⟨4, some 33, .index (.t 31) (.t 32), none⟩,
  .op ⟨5, some 34, .mv (.t 4), none⟩,
  .op ⟨6, some 35, .mv (.t 6), none⟩,
  .op ⟨7, some 36, .bin .add (.t 35) (.c (.one (.int .i64 24))), none⟩,
  .op ⟨8, some 37, .index (.t 34) (.t 36), none⟩,
  .op ⟨9, some 38, .bin .and (.t 33) (.t 37), none⟩,
  .op ⟨10, some 39, .mv (.t 4), none⟩,
  .op ⟨11, some 40, .mv (.t 6), none⟩,
  .op ⟨12, some 41, .index (.t 39) (.t 40), none⟩,
  .op ⟨13, some 42, .mv (.t 4), none⟩,
  .op ⟨14, some 43, .mv (.t 6), none⟩,
  .op ⟨15, some 44, .bin .add (.t 43) (.c (.one (.int .i64 48))), none⟩,
  .op ⟨16, some 45, .index (.t 42) (.t 44), none⟩,
  .op ⟨17, some 46, .bin .and (.t 41) (.t 45), none⟩,
  .op ⟨18, some 47, .bin .or (.t 38) (.t 46), none⟩,
  .op ⟨19, some 48, .mv (.t 4), none⟩,
  .op ⟨20, some 49, .mv (.t 6), none⟩,
  .op ⟨21, some 50, .bin .add (.t 49) (.c (.one (.int .i64 24))), none⟩,
  .op ⟨22, some 51, .index (.t 48) (.t 50), none⟩,
  .op ⟨23, some 52, .mv (.t 4), none⟩,
  .op ⟨24, some 53, .mv (.t 6), none⟩,
  .op ⟨25, some 54, .bin .add (.t 53) (.c (.one (.int .i64 48))), none⟩,
  .op ⟨26, some 55, .index (.t 52) (.t 54), none⟩,
  .op ⟨27, some 56, .bin .and (.t 51) (.t 55), none⟩,
  .op ⟨28, some 57, .bin .or (.t 47) (.t 56), none⟩,
  .op ⟨29, some 58, .idxa 1 (.t 29) (.t 30), none⟩,
  .op ⟨30, none, .store 1 (.t 58) (.t 57), none⟩]))
 (.reg [.op ⟨0, some 27, .mv (.t 6), none⟩,
  .op ⟨1, some 28, .bin .add (.t 27) (.c (.one (.int .i64 1))), none⟩,
  .op ⟨2, some 6, .mv (.t 28), none⟩]))))))
 (.seq (.reg [.op ⟨0, some 60, .mv (.t 4), none⟩,
  .op ⟨1, some 61, .call 0 [(.t 60)], none⟩,
  .op ⟨2, some 59, .mv (.t 61), none⟩,
  .op ⟨3, some 62, .ext (.t 59) 0, none⟩,
  .op ⟨4, some 63, .ext (.t 59) 1, none⟩,
  .op ⟨5, some 7, .new [.int .i64 0, .int .i64 0, .int .i64 0], none⟩,
  .op ⟨6, none, .store 3 (.t 7) (.t 62), none⟩,
  .op ⟨7, some 8, .mv (.t 63), none⟩])
 (.seq (.scope [(.normal, [(9, .one .bool)])] (.reg [.op ⟨0, some 64, .mv (.t 4), none⟩,
  .op ⟨1, some 65, .slstr (.t 64) none (some (.c (.one (.int .i64 24)))), none⟩,
  .op ⟨2, some 66, .call 1 [(.t 65)], none⟩,
  .op ⟨3, some 67, .mv (.t 66), none⟩,
  .op ⟨4, some 68, .mv (.t 4), some (67, false)⟩,
  .op ⟨5, some 69, .slstr (.t 68) (some (.c (.one (.int .i64 24)))) (some (.c (.one (.int .i64 48)))), some (67, false)⟩,
  .op ⟨6, some 70, .call 1 [(.t 69)], some (67, false)⟩,
  .op ⟨7, some 71, .pick (.t 67) (.c (.one (.bool true))) (.t 70), none⟩,
  .op ⟨8, some 72, .mv (.t 71), none⟩,
  .op ⟨9, some 73, .mv (.t 4), some (72, false)⟩,
  .op ⟨10, some 74, .slstr (.t 73) (some (.c (.one (.int .i64 48)))) none, some (72, false)⟩,
  .op ⟨11, some 75, .call 1 [(.t 74)], some (72, false)⟩,
  .op ⟨12, some 76, .pick (.t 72) (.c (.one (.bool true))) (.t 75), none⟩,
  .op ⟨13, some 77, .mv (.t 76), none⟩,
  .op ⟨14, some 78, .mv (.t 5), some (77, false)⟩,
  .op ⟨15, some 79, .b2s (.t 78), some (77, false)⟩,
  .op ⟨16, some 80, .call 1 [(.t 79)], some (77, false)⟩,
  .op ⟨17, some 81, .pick (.t 77) (.c (.one (.bool true))) (.t 80), none⟩,
  .op ⟨18, some 9, .mv (.t 81), none⟩]))
 (.seq (.reg [.op ⟨0, some 82, .call 2 [], none⟩,
  .op ⟨1, some 83, .mv (.t 82), none⟩,
  .op ⟨2, some 84, .mv (.t 8), some (83, true)⟩,
  .op ⟨3, some 85, .mv (.t 9), some (83, true)⟩,
  .op ⟨4, some 86, .eqb false (.t 84) (.t 85), some (83, true)⟩,
  .op ⟨5, some 87, .pick (.t 83) (.t 86) (.c (.one (.bool false))), none⟩,
  .op ⟨6, some 88, .mv (.t 87), none⟩,
  .op ⟨7, some 89, .mv (.t 8), some (88, true)⟩,
  .op ⟨8, some 90, .mv (.t 89), some (88, true)⟩,
  .op ⟨9, some 91, .load (.agg [.int .i64, .int .i64, .int .i64]) (.t 7), some (90, false)⟩,
  .op ⟨10, some 92, .build [.int .i64 0, .int .i64 0, .int .i64 0] [], some (90, false)⟩,
  .op ⟨11, some 93, .eqagg false [.int .i64, .int .i64, .int .i64] (.t 91) (.t 92), some (90, false)⟩,
  .op ⟨12, some 94, .pick (.t 90) (.c (.one (.bool true))) (.t 93), some (88, true)⟩,
  .op ⟨13, some 95, .pick (.t 88) (.t 94) (.c (.one (.bool false))), none⟩,
  .op ⟨14, some 2, .mv (.t 95), none⟩])
 (.ret)))))))))⟩
noncomputable def law32_HostLost.s1 (s2 : (Sl × Unit)) (H3 : Heap) : Option (((Sl × Unit) ⊕ (Sl × Unit)) × Heap) :=
 cond (decide ((s2.1.len : Int) < 72)) (
 let H4 : Heap := H3 ++ [Blk.cells [.int .u8 (IntKind.wrap .u8 (s2.1.len : Int))] .exact]
 (slRow H4 1 (⟨some (H3.length, 0), 1, 1⟩)).bind fun (cs5 : (List C)) =>
 (appS H4 1 1 s2.1 1 cs5).bind fun (p6 : (Sl × Heap)) =>
 some (Sum.inl (p6.1, ()), p6.2)) (
 some (Sum.inr (s2.1, ()), H3))
noncomputable def law32_HostLost.s2 (s9 : Bytes) (p10 : (Sl × Heap)) (s11 : (Int × Unit)) (H12 : Heap) : Option (((Int × Unit) ⊕ (Unit)) × Heap) :=
 cond (decide (s11.1 < 24)) (
 (idxS s9 s11.1).bind fun (n13 : Int) =>
 (idxS s9 (IntKind.wrap .i64 (s11.1 + 24))).bind fun (n14 : Int) =>
 (idxS s9 s11.1).bind fun (n15 : Int) =>
 (idxS s9 (IntKind.wrap .i64 (s11.1 + 48))).bind fun (n16 : Int) =>
 (idxS s9 (IntKind.wrap .i64 (s11.1 + 24))).bind fun (n17 : Int) =>
 (idxS s9 (IntKind.wrap .i64 (s11.1 + 48))).bind fun (n18 : Int) =>
 (Sl.at 1 p10.1 s11.1).bind fun (a19 : (Nat × Nat)) =>
 (wr H12 a19.1 a19.2 [.int .u8 (bitsI .or .u8 (bitsI .or .u8 (bitsI .and .u8 n13 n14) (bitsI .and .u8 n15 n16)) (bitsI .and .u8 n17 n18))]).bind fun (H20 : Heap) =>
 some (Sum.inl ((IntKind.wrap .i64 (s11.1 + 1)), ()), H20)) (
 some (Sum.inr (()), H12))
noncomputable def law32_HostLost.on (x0 : Bytes) (H : Heap) : Option (Bool × Unit) :=
 let H1 : Heap := H ++ [Blk.cells (cellsOf x0) .loose]
 (loopW (law32_HostLost.s1) (⟨some (H.length, 0), (List.length (x0 : Bytes)), (List.length (x0 : Bytes))⟩, ()) H1).bind fun (p7 : (Sl × Unit) × Heap) =>
 (Sl.sub 1 p7.1.1 0 72 (p7.1.1.cap : Int)).bind fun (t8 : Sl) =>
 (strOf p7.2 t8).bind fun (s9 : Bytes) =>
 (mkS p7.2 1 [.int .u8 0] 24 24).bind fun (p10 : (Sl × Heap)) =>
 (loopW (law32_HostLost.s2 s9 p10) (0, ()) p10.2).bind fun (p21 : (Unit) × Heap) =>
 (host_Params s9).bind fun (r22 : ((Int × Int × Int × Unit) × Bool × Unit)) =>
 let H23 : Heap := p21.2 ++ [Blk.cells [.int .i64 0, .int .i64 0, .int .i64 0] .exact]
 (wr H23 p21.2.length 0 [.int .i64 r22.1.1, .int .i64 r22.1.2.1, .int .i64 r22.1.2.2.1]).bind fun (H24 : Heap) =>
 ((subS s9 0 24).bind fun (s25 : Bytes) =>
 (law32_right s25).bind fun (r26 : (Bool × Unit)) =>
 cond r26.1 (
 some ((true, ()), H24)) (
 (subS s9 24 48).bind fun (s27 : Bytes) =>
 (law32_right s27).bind fun (r28 : (Bool × Unit)) =>
 cond r28.1 (
 some ((true, ()), H24)) (
 (subS s9 48 (List.length (s9 : Bytes) : Int)).bind fun (s29 : Bytes) =>
 (law32_right s29).bind fun (r30 : (Bool × Unit)) =>
 cond r30.1 (
 some ((true, ()), H24)) (
 (strOf H24 p10.1).bind fun (s31 : Bytes) =>
 (law32_right s31).bind fun (r32 : (Bool × Unit)) =>
 some ((r32.1, ()), H24)))) : Option ((Bool × Unit) × Heap)).bind fun (p33 : (Bool × Unit) × Heap) =>
 (law32_awake).bind fun (r34 : (Bool × Unit)) =>
 cond r34.1 (
 cond (r22.2.1 == p33.1.1) (
 cond r22.2.1 (
 some (true, ())) (
 Option.bind (α := (Int × Int × Int × Unit)) (rd p33.2 (.agg [.int .i64, .int .i64, .int .i64]) p21.2.length 0) fun (v35 : (Int × Int × Int × Unit)) =>
 some (((decide (v35.1 = 0)) && ((decide (v35.2.1 = 0)) && ((decide (v35.2.2.1 = 0)) && true))), ()))) (
 some (false, ()))) (
 some (false, ()))
noncomputable def law32_HostLost (x0 : Bytes) : Option (Bool × Unit) := law32_HostLost.on x0 []
noncomputable def law32_HostLost.c : Callee := .pure [.one .str] [.one .bool] (fun x => law32_HostLost x.1)
noncomputable def law32_HostLost.calls : Nat → Option Callee
  | 0 => some host_Params.c
  | 1 => some law32_right.c
  | 2 => some law32_awake.c
  | _ => none
theorem law32_HostLost.eq : evPure law32_HostLost.calls law32_HostLost.af = (fun x H => law32_HostLost.on x.1 H) := by kernel_rfl

/-! ### tinderbox/tinderboxlaw32.HostNone -/
def law32_HostNone.af : AFun := ⟨[.one (.int .i64), .one (.int .i64)], [.one .bool], [.t 4],
 .seq (.reg [.op ⟨0, some 4, .mv (.c (.one (.bool false))), none⟩])
 (.seq (.reg [.op ⟨0, some 5, .mv (.c (.one (.ptr none))), none⟩])
 (.seq (.reg [.op ⟨0, some 14, .call 0 [(.c (.one (.ptr none)))], none⟩,
  .op ⟨1, some 13, .mv (.t 14), none⟩,
  .op ⟨2, some 15, .ext (.t 13) 0, none⟩,
  .op ⟨3, some 16, .ext (.t 13) 1, none⟩,
  .op ⟨4, some 6, .mv (.t 15), none⟩,
  .op ⟨5, some 7, .mv (.t 16), none⟩])
 (.seq (.reg [.op ⟨0, some 18, .mv (.t 5), none⟩,
  .op ⟨1, some 19, .mv (.t 0), none⟩,
  .op ⟨2, some 20, .mv (.t 1), none⟩,
  .op ⟨3, some 21, .call 1 [(.t 18), (.t 19), (.t 20)], none⟩,
  .op ⟨4, some 17, .mv (.t 21), none⟩,
  .op ⟨5, some 22, .ext (.t 17) 0, none⟩,
  .op ⟨6, some 23, .ext (.t 17) 1, none⟩,
  .op ⟨7, some 24, .ext (.t 17) 2, none⟩,
  .op ⟨8, some 8, .mv (.t 22), none⟩,
  .op ⟨9, some 9, .mv (.t 23), none⟩,
  .op ⟨10, some 10, .mv (.t 24), none⟩])
 (.seq (.reg [.op ⟨0, some 26, .mv (.t 5), none⟩,
  .op ⟨1, some 27, .mv (.t 0), none⟩,
  .op ⟨2, some 28, .call 2 [(.t 26), (.t 27)], none⟩,
  .op ⟨3, some 25, .mv (.t 28), none⟩,
  .op ⟨4, some 29, .ext (.t 25) 0, none⟩,
  .op ⟨5, some 30, .ext (.t 25) 1, none⟩,
  .op ⟨6, some 11, .mv (.t 29), none⟩,
  .op ⟨7, some 12, .mv (.t 30), none⟩])
 (.seq (.reg [.op ⟨0, some 31, .call 3 [], none⟩,
  .op ⟨1, some 32, .mv (.t 31), none⟩,
  .op ⟨2, some 33, .mv (.t 7), some (32, true)⟩,
  .op ⟨3, some 34, .bin .eql (.t 33) (.c (.one (.int .i64 1))), some (32, true)⟩,
  .op ⟨4, some 35, .pick (.t 32) (.t 34) (.c (.one (.bool false))), none⟩,
  .op ⟨5, some 36, .mv (.t 35), none⟩,
  .op ⟨6, some 37, .mv (.t 10), some (36, true)⟩,
  .op ⟨7, some 38, .bin .eql (.t 37) (.c (.one (.int .i64 1))), some (36, true)⟩,
  .op ⟨8, some 39, .pick (.t 36) (.t 38) (.c (.one (.bool false))), none⟩,
  .op ⟨9, some 40, .mv (.t 39), none⟩,
  .op ⟨10, some 41, .mv (.t 12), some (40, true)⟩,
  .op ⟨11, some 42, .bin .eql (.t 41) (.c (.one (.int .i64 1))), some (40, true)⟩,
  .op ⟨12, some 43, .pick (.t 40) (.t 42) (.c (.one (.bool false))), none⟩,
  .op ⟨13, some 44, .mv (.t 43), none⟩,
  .op ⟨14, some 45, .mv (.t 5), some (44, true)⟩,
  .op ⟨15, some 46, .mv (.t 0), some (44, true)⟩,
  .op ⟨16, some 47, .mv (.t 1), some (44, true)⟩,
  .op ⟨17, some 48, .call 4 [(.t 45), (.t 46), (.t 47), (.c (.one (.str []))), (.c (.one (.str [])))], some (44, true)⟩,
  .op ⟨18, some 49, .bin .eql (.t 48) (.c (.one (.int .i64 1))), some (44, true)⟩,
  .op ⟨19, some 50, .pick (.t 44) (.t 49) (.c (.one (.bool false))), none⟩,
  .op ⟨20, some 51, .mv (.t 50), none⟩,
  .op ⟨21, some 52, .mv (.t 5), some (51, true)⟩,
  .op ⟨22, some 53, .mv (.t 0), some (51, true)⟩,
  .op ⟨23, some 54, .call 5 [(.t 52), (.t 53)], some (51, true)⟩,
  .op ⟨24, some 55, .bin .eql (.t 54) (.c (.one (.int .i64 1))), some (51, true)⟩,
  .op ⟨25, some 56, .pick (.t 51) (.t 55) (.c (.one (.bool false))), none⟩,
  .op ⟨26, some 57, .mv (.t 56), none⟩,
  .op ⟨27, some 58, .mv (.t 5), some (57, true)⟩,
  .op ⟨28, some 59, .mv (.t 0), some (57, true)⟩,
  .op ⟨29, some 60, .call 6 [(.t 58), (.t 59)], some (57, true)⟩,
  .op ⟨30, some 61, .bin .eql (.t 60) (.c (.one (.int .i64 1))), some (57, true)⟩,
  .op ⟨31, some 62, .pick (.t 57) (.t 61) (.c (.one (.bool false))), none⟩,
  .op ⟨32, some 63, .mv (.t 62), none⟩,
  .op ⟨33, some 64, .mv (.t 5), some (63, true)⟩,
  .op ⟨34, some 65, .call 7 [(.t 64)], some (63, true)⟩,
  .op ⟨35, some 66, .build [.int .i64 0, .int .i64 0, .int .i64 0] [], some (63, true)⟩,
  .op ⟨36, some 67, .eqagg false [.int .i64, .int .i64, .int .i64] (.t 65) (.t 66), some (63, true)⟩,
  .op ⟨37, some 68, .pick (.t 63) (.t 67) (.c (.one (.bool false))), none⟩,
  .op ⟨38, some 69, .mv (.t 68), none⟩,
  .op ⟨39, some 70, .mv (.t 5), some (69, true)⟩,
  .op ⟨40, some 71, .call 8 [(.t 70)], some (69, true)⟩,
  .op ⟨41, some 72, .bin .eql (.t 71) (.c (.one (.int .i64 0))), some (69, true)⟩,
  .op ⟨42, some 73, .pick (.t 69) (.t 72) (.c (.one (.bool false))), none⟩,
  .op ⟨43, some 4, .mv (.t 73), none⟩])
 (.ret))))))⟩
noncomputable def law32_HostNone.on (x0 : Int) (x1 : Int) (H : Heap) : Option (Bool × Unit) :=
 (host_Probe none H).bind fun (r1 : ((Ptr × Int × Unit) × Heap)) =>
 (host_Host_Read none x0 x1 r1.2).bind fun (r2 : ((Bytes × Bytes × Int × Unit) × Heap)) =>
 (host_Host_Marked none x0 r2.2).bind fun (r3 : ((Bool × Int × Unit) × Heap)) =>
 (law32_awake).bind fun (r4 : (Bool × Unit)) =>
 cond r4.1 (
 cond (decide (r1.1.2.1 = 1)) (
 cond (decide (r2.1.2.2.1 = 1)) (
 cond (decide (r3.1.2.1 = 1)) (
 (host_Host_Program none x0 x1 [] [] r3.2).bind fun (r5 : ((Int × Unit) × Heap)) =>
 cond (decide (r5.1.1 = 1)) (
 (host_Host_Erase none x0 r5.2).bind fun (r6 : ((Int × Unit) × Heap)) =>
 cond (decide (r6.1.1 = 1)) (
 (host_Host_Mark none x0 r6.2).bind fun (r7 : ((Int × Unit) × Heap)) =>
 cond (decide (r7.1.1 = 1)) (
 (host_Host_Geometry none r7.2).bind fun (r8 : (((Int × Int × Int × Unit) × Unit) × Heap)) =>
 cond ((decide (r8.1.1.1 = 0)) && ((decide (r8.1.1.2.1 = 0)) && ((decide (r8.1.1.2.2.1 = 0)) && true))) (
 (host_Host_Polls none r8.2).bind fun (r9 : ((Int × Unit) × Heap)) =>
 some ((decide (r9.1.1 = 0)), ())) (
 some (false, ()))) (
 some (false, ()))) (
 some (false, ()))) (
 some (false, ()))) (
 some (false, ()))) (
 some (false, ()))) (
 some (false, ()))) (
 some (false, ()))
noncomputable def law32_HostNone (x0 : Int) (x1 : Int) : Option (Bool × Unit) := law32_HostNone.on x0 x1 []
noncomputable def law32_HostNone.c : Callee := .pure [.one (.int .i64), .one (.int .i64)] [.one .bool] (fun x => law32_HostNone x.1 x.2.1)
noncomputable def law32_HostNone.calls : Nat → Option Callee
  | 0 => some host_Probe.c
  | 1 => some host_Host_Read.c
  | 2 => some host_Host_Marked.c
  | 3 => some law32_awake.c
  | 4 => some host_Host_Program.c
  | 5 => some host_Host_Erase.c
  | 6 => some host_Host_Mark.c
  | 7 => some host_Host_Geometry.c
  | 8 => some host_Host_Polls.c
  | _ => none
theorem law32_HostNone.eq : evPure law32_HostNone.calls law32_HostNone.af = (fun x H => law32_HostNone.on x.1 x.2.1 H) := by kernel_rfl

/-! ### tinderbox/tinderboxlaw32.text -/
def law32_text.af : AFun := ⟨[.one (.int .i64), .one (.int .u8)], [.one .str], [.t 4],
 .seq (.reg [.op ⟨0, some 4, .mv (.c (.one (.str []))), none⟩])
 (.seq (.reg [.op ⟨0, some 7, .mv (.t 0), none⟩,
  .op ⟨1, some 8, .mk 1 1 [.int .u8 0] (.t 7) (.t 7), none⟩,
  .op ⟨2, some 5, .mv (.t 8), none⟩])
 (.seq (.seq (.reg [.op ⟨0, some 6, .mv (.c (.one (.int .i64 0))), none⟩])
 (.block 0 (.loop [(6, .one (.int .i64))] [(.exit 0, [])] (.seq (.seq (.reg [.op ⟨0, some 9, .mv (.t 6), none⟩,
  .op ⟨1, some 10, .mv (.t 0), none⟩,
  .op ⟨2, some 11, .bin .lss (.t 9) (.t 10), none⟩])
 (.cond (.t 11) (.skip) (.exit 0)))
 (.seq (.block 1 (.reg [.op ⟨0, some 14, .mv (.t 5), none⟩,
  .op ⟨1, some 15, .mv (.t 6), none⟩,
  .op ⟨2, some 16, .mv (.t 1), none⟩,
  .op ⟨3, some 17, .idxa 1 (.t 14) (.t 15), none⟩,
  .op ⟨4, none, .store 1 (.t 17) (.t 16), none⟩]))
 (.reg [.op ⟨0, some 12, .mv (.t 6), none⟩,
  .op ⟨1, some 13, .bin .add (.t 12) (.c (.one (.int .i64 1))), none⟩,
  .op ⟨2, some 6, .mv (.t 13), none⟩]))))))
 (.seq (.reg [.op ⟨0, some 18, .mv (.t 5), none⟩,
  .op ⟨1, some 19, .b2s (.t 18), none⟩,
  .op ⟨2, some 4, .mv (.t 19), none⟩])
 (.ret))))⟩
noncomputable def law32_text.s1 (x0 : Int) (x1 : Int) (p1 : (Sl × Heap)) (s2 : (Int × Unit)) (H3 : Heap) : Option (((Int × Unit) ⊕ (Unit)) × Heap) :=
 cond (decide (s2.1 < x0)) (
 (Sl.at 1 p1.1 s2.1).bind fun (a4 : (Nat × Nat)) =>
 (wr H3 a4.1 a4.2 [.int .u8 x1]).bind fun (H5 : Heap) =>
 some (Sum.inl ((IntKind.wrap .i64 (s2.1 + 1)), ()), H5)) (
 some (Sum.inr (()), H3))
noncomputable def law32_text.on (x0 : Int) (x1 : Int) (H : Heap) : Option (Bytes × Unit) :=
 (mkS H 1 [.int .u8 0] x0 x0).bind fun (p1 : (Sl × Heap)) =>
 (loopW (law32_text.s1 x0 x1 p1) (0, ()) p1.2).bind fun (p6 : (Unit) × Heap) =>
 (strOf p6.2 p1.1).bind fun (s7 : Bytes) =>
 some (s7, ())
noncomputable def law32_text (x0 : Int) (x1 : Int) : Option (Bytes × Unit) := law32_text.on x0 x1 []
noncomputable def law32_text.c : Callee := .pure [.one (.int .i64), .one (.int .u8)] [.one .str] (fun x => law32_text x.1 x.2.1)
noncomputable def law32_text.calls : Nat → Option Callee
  | _ => none
theorem law32_text.eq : evPure law32_text.calls law32_text.af = (fun x H => law32_text.on x.1 x.2.1 H) := by kernel_rfl

/-! ### tinderbox/tinderboxlaw32.HostPlays -/
def law32_HostPlays.af : AFun := ⟨[.agg [.int .i64, .int .i64, .int .i64], .agg [.sl 3, .sl 1, .sl 1], .one (.sl 4)], [.one .bool], [.t 6],
 .seq (.reg [.op ⟨0, some 3, .box (.t 0), none⟩,
  .op ⟨1, some 4, .box (.t 1), none⟩,
  .op ⟨2, some 6, .mv (.c (.one (.bool false))), none⟩])
 (.seq (.reg [.op ⟨0, some 28, .addr 0 (.t 4), none⟩,
  .op ⟨1, some 29, .load (.one (.sl 3)) (.t 28), none⟩,
  .op ⟨2, some 30, .addr 0 (.t 4), none⟩,
  .op ⟨3, some 31, .load (.one (.sl 3)) (.t 30), none⟩,
  .op ⟨4, some 32, .len (.t 31), none⟩,
  .op ⟨5, some 33, .min [(.t 32), (.c (.one (.int .i64 4)))], none⟩,
  .op ⟨6, some 34, .slc 3 (.t 29) none (some (.t 33)) none, none⟩,
  .op ⟨7, some 35, .addr 1 (.t 4), none⟩,
  .op ⟨8, some 36, .load (.one (.sl 1)) (.t 35), none⟩,
  .op ⟨9, some 37, .addr 1 (.t 4), none⟩,
  .op ⟨10, some 38, .load (.one (.sl 1)) (.t 37), none⟩,
  .op ⟨11, some 39, .len (.t 38), none⟩,
  .op ⟨12, some 40, .min [(.t 39), (.c (.one (.int .i64 4)))], none⟩,
  .op ⟨13, some 41, .slc 1 (.t 36) none (some (.t 40)) none, none⟩,
  .op ⟨14, some 42, .addr 2 (.t 4), none⟩,
  .op ⟨15, some 43, .load (.one (.sl 1)) (.t 42), none⟩,
  .op ⟨16, some 44, .addr 2 (.t 4), none⟩,
  .op ⟨17, some 45, .load (.one (.sl 1)) (.t 44), none⟩,
  .op ⟨18, some 46, .len (.t 45), none⟩,
  .op ⟨19, some 47, .min [(.t 46), (.c (.one (.int .i64 4)))], none⟩,
  .op ⟨20, some 48, .slc 1 (.t 43) none (some (.t 47)) none, none⟩,
  .op ⟨21, some 49, .build [.sl 3 Sl.nil, .sl 1 Sl.nil, .sl 1 Sl.nil] [(0, 1, (.t 34)), (1, 1, (.t 41)), (2, 1, (.t 48))], none⟩,
  .op ⟨22, some 7, .new [.sl 3 Sl.nil, .sl 1 Sl.nil, .sl 1 Sl.nil], none⟩,
  .op ⟨23, none, .store 3 (.t 7) (.t 49), none⟩])
 (.seq (.reg [.op ⟨0, some 51, .load (.agg [.int .i64, .int .i64, .int .i64]) (.t 3), none⟩,
  .op ⟨1, some 52, .load (.agg [.sl 3, .sl 1, .sl 1]) (.t 7), none⟩,
  .op ⟨2, some 53, .call 0 [(.t 51), (.t 52)], none⟩,
  .op ⟨3, some 50, .mv (.t 53), none⟩,
  .op ⟨4, some 54, .ext (.t 50) 0, none⟩,
  .op ⟨5, some 55, .ext (.t 50) 1, none⟩,
  .op ⟨6, some 56, .ext (.t 50) 2, none⟩,
  .op ⟨7, some 8, .mv (.t 54), none⟩,
  .op ⟨8, some 9, .mv (.t 55), none⟩,
  .op ⟨9, some 10, .mv (.t 56), none⟩])
 (.seq (.reg [.op ⟨0, some 58, .load (.agg [.int .i64, .int .i64, .int .i64]) (.t 3), none⟩,
  .op ⟨2, some 60, .load (.agg [.sl 3, .sl 1, .sl 1]) (.t 7), none⟩,
  .op ⟨1, some 59, .call 1 [(.t 58)], none⟩,
  .again ⟨2, some 60, .load (.agg [.sl 3, .sl 1, .sl 1]) (.t 7), none⟩,
  .op ⟨3, some 61, .call 2 [(.t 59), (.t 60)], none⟩,
  .op ⟨4, some 57, .mv (.t 61), none⟩,
  .op ⟨5, some 62, .ext (.t 57) 0, none⟩,
  .op ⟨6, some 63, .ext (.t 57) 1, none⟩,
  .op ⟨7, some 11, .mv (.t 62), none⟩,
  .op ⟨8, some 12, .mv (.t 63), none⟩])
 (.seq (.seq (.reg [.op ⟨0, some 64, .call 3 [], none⟩,
  .op ⟨1, some 65, .un .not (.t 64), none⟩,
  .op ⟨2, some 66, .mv (.t 65), none⟩,
  .op ⟨3, some 67, .mv (.t 10), some (66, false)⟩,
  .op ⟨4, some 68, .un .not (.t 67), some (66, false)⟩,
  .op ⟨5, some 69, .pick (.t 66) (.c (.one (.bool true))) (.t 68), none⟩,
  .op ⟨6, some 70, .mv (.t 69), none⟩,
  .op ⟨7, some 71, .mv (.t 12), some (70, false)⟩,
  .op ⟨8, some 72, .bin .neq (.t 71) (.c (.one (.int .i64 0))), some (70, false)⟩,
  .op ⟨9, some 73, .pick (.t 70) (.c (.one (.bool true))) (.t 72), none⟩])
 (.cond (.t 73) (.seq (.reg [.op ⟨0, some 6, .mv (.c (.one (.bool false))), none⟩])
 (.ret)) (.skip)))
 (.seq (.reg [.op ⟨0, some 74, .mv (.t 8), none⟩,
  .op ⟨1, some 75, .call 4 [(.t 74)], none⟩,
  .op ⟨2, some 13, .new [.int .i64 0, .int .i64 0, .int .i64 0], none⟩,
  .op ⟨3, none, .store 3 (.t 13) (.t 75), none⟩])
 (.seq (.seq (.reg [.op ⟨0, some 14, .mv (.c (.one (.int .i64 0))), none⟩])
 (.block 0 (.loop [(14, .one (.int .i64))] [(.exit 0, []), (.ret, [(6, .one .bool)])] (.seq (.seq (.reg [.op ⟨0, some 76, .mv (.t 14), none⟩,
  .op ⟨1, some 77, .mv (.t 2), none⟩,
  .op ⟨2, some 78, .len (.t 77), none⟩,
  .op ⟨3, some 79, .bin .lss (.t 76) (.t 78), none⟩,
  .op ⟨4, some 80, .mv (.t 79), none⟩,
  .op ⟨5, some 81, .mv (.t 14), some (80, true)⟩,
  .op ⟨6, some 82, .bin .lss (.t 81) (.c (.one (.int .i64 25))), some (80, true)⟩,
  .op ⟨7, some 83, .pick (.t 80) (.t 82) (.c (.one (.bool false))), none⟩])
 (.cond (.t 83) (.skip) (.exit 0)))
 (.seq (.block 1 (.seq (.reg [.op ⟨0, some 86, .mv (.t 2), none⟩,
  .op ⟨1, some 87, .mv (.t 14), none⟩,
  .op ⟨2, some 88, .idxa 4 (.t 86) (.t 87), none⟩,
  .op ⟨3, some 89, .load (.agg [.int .i64, .int .i64, .int .i64, .int .u8]) (.t 88), none⟩,
  .op ⟨4, some 15, .new [.int .i64 0, .int .i64 0, .int .i64 0, .int .u8 0], none⟩,
  .op ⟨5, none, .store 4 (.t 15) (.t 89), none⟩])
 (.seq (.reg [.op ⟨0, some 90, .addr 2 (.t 13), none⟩,
  .op ⟨1, some 91, .load (.one (.int .i64)) (.t 90), none⟩,
  .op ⟨2, some 92, .addr 3 (.t 15), none⟩,
  .op ⟨3, some 93, .load (.one (.int .u8)) (.t 92), none⟩,
  .op ⟨4, some 94, .call 5 [(.t 91), (.t 93)], none⟩,
  .op ⟨5, some 95, .addr 3 (.t 15), none⟩,
  .op ⟨6, some 96, .load (.one (.int .u8)) (.t 95), none⟩,
  .op ⟨7, some 97, .bin .add (.t 96) (.c (.one (.int .u8 1))), none⟩,
  .op ⟨8, some 98, .call 5 [(.c (.one (.int .i64 32))), (.t 97)], none⟩,
  .op ⟨9, some 16, .mv (.t 94), none⟩,
  .op ⟨10, some 17, .mv (.t 98), none⟩])
 (.seq (.scope [(.normal, []), (.ret, [(6, .one .bool)])] (.seq (.reg [.op ⟨0, some 99, .addr 0 (.t 15), none⟩,
  .op ⟨1, some 100, .load (.one (.int .i64)) (.t 99), none⟩])
 (.block 2 (.seq (.scope [(.normal, [(118, .one .bool)])] (.seq (.reg [.op ⟨0, some 119, .bin .eql (.t 100) (.c (.one (.int .i64 4))), none⟩,
  .op ⟨1, some 118, .mv (.t 119), none⟩])
 (.cond (.t 118) (.skip) (.reg [.op ⟨0, some 120, .bin .eql (.t 100) (.c (.one (.int .i64 5))), none⟩,
  .op ⟨1, some 118, .mv (.t 120), none⟩]))))
 (.cond (.t 118) (.seq (.reg [.op ⟨0, some 121, .mv (.t 9), none⟩,
  .op ⟨1, some 122, .addr 1 (.t 15), none⟩,
  .op ⟨2, some 123, .load (.one (.int .i64)) (.t 122), none⟩,
  .op ⟨4, some 125, .mv (.t 11), none⟩,
  .op ⟨5, some 126, .addr 1 (.t 15), none⟩,
  .op ⟨6, some 127, .load (.one (.int .i64)) (.t 126), none⟩,
  .op ⟨3, some 124, .call 6 [(.t 121), (.t 123)], none⟩,
  .again ⟨6, some 127, .load (.one (.int .i64)) (.t 126), none⟩,
  .op ⟨7, some 128, .call 7 [(.t 125), (.t 127)], none⟩,
  .op ⟨8, some 129, .bin .neq (.t 124) (.t 128), none⟩])
 (.cond (.t 129) (.seq (.reg [.op ⟨0, some 6, .mv (.c (.one (.bool false))), none⟩])
 (.ret)) (.skip))) (.seq (.reg [.op ⟨0, some 131, .bin .eql (.t 100) (.c (.one (.int .i64 6))), none⟩,
  .op ⟨1, some 130, .mv (.t 131), none⟩])
 (.cond (.t 130) (.seq (.reg [.op ⟨0, some 132, .mv (.t 9), none⟩,
  .op ⟨1, some 133, .addr 1 (.t 15), none⟩,
  .op ⟨2, some 134, .load (.one (.int .i64)) (.t 133), none⟩,
  .op ⟨4, some 136, .mv (.t 11), none⟩,
  .op ⟨5, some 137, .addr 1 (.t 15), none⟩,
  .op ⟨6, some 138, .load (.one (.int .i64)) (.t 137), none⟩,
  .op ⟨3, some 135, .call 8 [(.t 132), (.t 134)], none⟩,
  .again ⟨6, some 138, .load (.one (.int .i64)) (.t 137), none⟩,
  .op ⟨7, some 139, .call 9 [(.t 136), (.t 138)], none⟩,
  .op ⟨8, some 140, .bin .neq (.t 135) (.t 139), none⟩])
 (.cond (.t 140) (.seq (.reg [.op ⟨0, some 6, .mv (.c (.one (.bool false))), none⟩])
 (.ret)) (.skip))) (.seq (.reg [.op ⟨0, some 142, .bin .eql (.t 100) (.c (.one (.int .i64 7))), none⟩,
  .op ⟨1, some 141, .mv (.t 142), none⟩])
 (.cond (.t 141) (.seq (.reg [.op ⟨0, some 143, .mv (.t 8), none⟩,
  .op ⟨1, some 144, .call 10 [(.t 143)], none⟩])
 (.reg [.op ⟨0, some 145, .mv (.t 11), none⟩,
  .op ⟨1, some 146, .call 10 [(.t 145)], none⟩])) (.seq (.reg [.op ⟨0, some 148, .bin .eql (.t 100) (.c (.one (.int .i64 8))), none⟩,
  .op ⟨1, some 147, .mv (.t 148), none⟩])
 (.cond (.t 147) (.seq (.reg [.op ⟨0, some 150, .mv (.t 9), none⟩,
  .op ⟨1, some 151, .addr 1 (.t 15), none⟩,
  .op ⟨2, some 152, .load (.one (.int .i64)) (.t 151), none⟩,
  .op ⟨3, some 153, .addr 2 (.t 15), none⟩,
  .op ⟨4, some 154, .load (.one (.int .i64)) (.t 153), none⟩,
  .op ⟨5, some 155, .call 11 [(.t 150), (.t 152), (.t 154)], none⟩,
  .op ⟨6, some 149, .mv (.t 155), none⟩,
  .op ⟨7, some 156, .ext (.t 149) 0, none⟩,
  .op ⟨8, some 157, .ext (.t 149) 1, none⟩,
  .op ⟨9, some 158, .ext (.t 149) 2, none⟩,
  .op ⟨10, some 18, .mv (.t 156), none⟩,
  .op ⟨11, some 19, .mv (.t 157), none⟩,
  .op ⟨12, some 20, .mv (.t 158), none⟩])
 (.seq (.reg [.op ⟨0, some 160, .mv (.t 11), none⟩,
  .op ⟨1, some 161, .addr 1 (.t 15), none⟩,
  .op ⟨2, some 162, .load (.one (.int .i64)) (.t 161), none⟩,
  .op ⟨3, some 163, .addr 2 (.t 15), none⟩,
  .op ⟨4, some 164, .load (.one (.int .i64)) (.t 163), none⟩,
  .op ⟨5, some 165, .call 12 [(.t 160), (.t 162), (.t 164)], none⟩,
  .op ⟨6, some 159, .mv (.t 165), none⟩,
  .op ⟨7, some 166, .ext (.t 159) 0, none⟩,
  .op ⟨8, some 167, .ext (.t 159) 1, none⟩,
  .op ⟨9, some 168, .ext (.t 159) 2, none⟩,
  .op ⟨10, some 21, .mv (.t 166), none⟩,
  .op ⟨11, some 22, .mv (.t 167), none⟩,
  .op ⟨12, some 23, .mv (.t 168), none⟩])
 (.seq (.reg [.op ⟨0, some 169, .mv (.t 20), none⟩,
  .op ⟨1, some 170, .mv (.t 23), none⟩,
  .op ⟨2, some 171, .bin .neq (.t 169) (.t 170), none⟩,
  .op ⟨3, some 172, .mv (.t 171), none⟩,
  .op ⟨4, some 173, .mv (.t 18), some (172, false)⟩,
  .op ⟨5, some 174, .mv (.t 21), some (172, false)⟩,
  .op ⟨6, some 175, .bin .neq (.t 173) (.t 174), some (172, false)⟩,
  .op ⟨7, some 176, .pick (.t 172) (.c (.one (.bool true))) (.t 175), none⟩,
  .op ⟨8, some 177, .mv (.t 176), none⟩,
  .op ⟨9, some 178, .mv (.t 19), some (177, false)⟩,
  .op ⟨10, some 179, .mv (.t 22), some (177, false)⟩,
  .op ⟨11, some 180, .bin .neq (.t 178) (.t 179), some (177, false)⟩,
  .op ⟨12, some 181, .pick (.t 177) (.c (.one (.bool true))) (.t 180), none⟩])
 (.cond (.t 181) (.seq (.reg [.op ⟨0, some 6, .mv (.c (.one (.bool false))), none⟩])
 (.ret)) (.skip))))) (.seq (.reg [.op ⟨0, some 183, .bin .eql (.t 100) (.c (.one (.int .i64 9))), none⟩,
  .op ⟨1, some 182, .mv (.t 183), none⟩])
 (.cond (.t 182) (.seq (.reg [.op ⟨0, some 184, .mv (.t 9), none⟩,
  .op ⟨1, some 185, .addr 1 (.t 15), none⟩,
  .op ⟨2, some 186, .load (.one (.int .i64)) (.t 185), none⟩,
  .op ⟨3, some 187, .addr 2 (.t 15), none⟩,
  .op ⟨4, some 188, .load (.one (.int .i64)) (.t 187), none⟩,
  .op ⟨5, some 189, .mv (.t 16), none⟩,
  .op ⟨6, some 190, .bin .add (.t 189) (.c (.one (.str [120]))), none⟩,
  .op ⟨7, some 191, .mv (.t 17), none⟩,
  .op ⟨9, some 193, .mv (.t 11), none⟩,
  .op ⟨10, some 194, .addr 1 (.t 15), none⟩,
  .op ⟨11, some 195, .load (.one (.int .i64)) (.t 194), none⟩,
  .op ⟨12, some 196, .addr 2 (.t 15), none⟩,
  .op ⟨13, some 197, .load (.one (.int .i64)) (.t 196), none⟩,
  .op ⟨14, some 198, .mv (.t 16), none⟩,
  .op ⟨15, some 199, .bin .add (.t 198) (.c (.one (.str [120]))), none⟩,
  .op ⟨16, some 200, .mv (.t 17), none⟩,
  .op ⟨8, some 192, .call 13 [(.t 184), (.t 186), (.t 188), (.t 190), (.t 191)], none⟩,
  .again ⟨11, some 195, .load (.one (.int .i64)) (.t 194), none⟩,
  .again ⟨13, some 197, .load (.one (.int .i64)) (.t 196), none⟩,
  .op ⟨17, some 201, .call 14 [(.t 193), (.t 195), (.t 197), (.t 199), (.t 200)], none⟩,
  .op ⟨18, some 202, .bin .neq (.t 192) (.t 201), none⟩])
 (.cond (.t 202) (.seq (.reg [.op ⟨0, some 6, .mv (.c (.one (.bool false))), none⟩])
 (.ret)) (.skip))) (.seq (.reg [.op ⟨0, some 101, .mv (.t 9), none⟩,
  .op ⟨1, some 102, .addr 1 (.t 15), none⟩,
  .op ⟨2, some 103, .load (.one (.int .i64)) (.t 102), none⟩,
  .op ⟨3, some 104, .addr 2 (.t 15), none⟩,
  .op ⟨4, some 105, .load (.one (.int .i64)) (.t 104), none⟩,
  .op ⟨5, some 106, .mv (.t 16), none⟩,
  .op ⟨6, some 107, .mv (.t 17), none⟩,
  .op ⟨8, some 109, .mv (.t 11), none⟩,
  .op ⟨9, some 110, .addr 1 (.t 15), none⟩,
  .op ⟨10, some 111, .load (.one (.int .i64)) (.t 110), none⟩,
  .op ⟨11, some 112, .addr 2 (.t 15), none⟩,
  .op ⟨12, some 113, .load (.one (.int .i64)) (.t 112), none⟩,
  .op ⟨13, some 114, .mv (.t 16), none⟩,
  .op ⟨14, some 115, .mv (.t 17), none⟩,
  .op ⟨7, some 108, .call 13 [(.t 101), (.t 103), (.t 105), (.t 106), (.t 107)], none⟩,
  .again ⟨10, some 111, .load (.one (.int .i64)) (.t 110), none⟩,
  .again ⟨12, some 113, .load (.one (.int .i64)) (.t 112), none⟩,
  .op ⟨15, some 116, .call 14 [(.t 109), (.t 111), (.t 113), (.t 114), (.t 115)], none⟩,
  .op ⟨16, some 117, .bin .neq (.t 108) (.t 116), none⟩])
 (.cond (.t 117) (.seq (.reg [.op ⟨0, some 6, .mv (.c (.one (.bool false))), none⟩])
 (.ret)) (.skip))))))))))))))))
 (.seq (.seq (.reg [.op ⟨0, some 203, .mv (.t 8), none⟩,
  .op ⟨1, some 204, .call 15 [(.t 203)], none⟩,
  .op ⟨2, some 205, .mv (.t 11), none⟩,
  .op ⟨3, some 206, .call 15 [(.t 205)], none⟩,
  .op ⟨4, some 207, .bin .neq (.t 204) (.t 206), none⟩,
  .op ⟨5, some 208, .mv (.t 207), none⟩,
  .op ⟨6, some 209, .mv (.t 8), some (208, false)⟩,
  .op ⟨7, some 210, .call 16 [(.t 209)], some (208, false)⟩,
  .op ⟨8, some 211, .mv (.t 11), some (208, false)⟩,
  .op ⟨9, some 212, .call 16 [(.t 211)], some (208, false)⟩,
  .op ⟨10, some 213, .eqb true (.t 210) (.t 212), some (208, false)⟩,
  .op ⟨11, some 214, .pick (.t 208) (.c (.one (.bool true))) (.t 213), none⟩])
 (.cond (.t 214) (.seq (.reg [.op ⟨0, some 6, .mv (.c (.one (.bool false))), none⟩])
 (.ret)) (.skip)))
 (.seq (.reg [.op ⟨0, some 216, .mv (.t 9), none⟩,
  .op ⟨1, some 217, .addr 1 (.t 15), none⟩,
  .op ⟨2, some 218, .load (.one (.int .i64)) (.t 217), none⟩,
  .op ⟨3, some 219, .call 17 [(.t 216), (.t 218)], none⟩,
  .op ⟨4, some 215, .mv (.t 219), none⟩,
  .op ⟨5, some 220, .ext (.t 215) 0, none⟩,
  .op ⟨6, some 221, .ext (.t 215) 1, none⟩,
  .op ⟨7, some 24, .mv (.t 220), none⟩,
  .op ⟨8, some 25, .mv (.t 221), none⟩])
 (.seq (.reg [.op ⟨0, some 223, .mv (.t 11), none⟩,
  .op ⟨1, some 224, .addr 1 (.t 15), none⟩,
  .op ⟨2, some 225, .load (.one (.int .i64)) (.t 224), none⟩,
  .op ⟨3, some 226, .call 18 [(.t 223), (.t 225)], none⟩,
  .op ⟨4, some 222, .mv (.t 226), none⟩,
  .op ⟨5, some 227, .ext (.t 222) 0, none⟩,
  .op ⟨6, some 228, .ext (.t 222) 1, none⟩,
  .op ⟨7, some 26, .mv (.t 227), none⟩,
  .op ⟨8, some 27, .mv (.t 228), none⟩])
 (.seq (.reg [.op ⟨0, some 229, .mv (.t 24), none⟩,
  .op ⟨1, some 230, .mv (.t 26), none⟩,
  .op ⟨2, some 231, .eqb true (.t 229) (.t 230), none⟩,
  .op ⟨3, some 232, .mv (.t 231), none⟩,
  .op ⟨4, some 233, .mv (.t 25), some (232, false)⟩,
  .op ⟨5, some 234, .mv (.t 27), some (232, false)⟩,
  .op ⟨6, some 235, .bin .neq (.t 233) (.t 234), some (232, false)⟩,
  .op ⟨7, some 236, .pick (.t 232) (.c (.one (.bool true))) (.t 235), none⟩])
 (.cond (.t 236) (.seq (.reg [.op ⟨0, some 6, .mv (.c (.one (.bool false))), none⟩])
 (.ret)) (.skip))))))))))
 (.reg [.op ⟨0, some 84, .mv (.t 14), none⟩,
  .op ⟨1, some 85, .bin .add (.t 84) (.c (.one (.int .i64 1))), none⟩,
  .op ⟨2, some 14, .mv (.t 85), none⟩]))))))
 (.seq (.reg [.op ⟨0, some 6, .mv (.c (.one (.bool true))), none⟩])
 (.ret))))))))⟩
noncomputable def law32_HostPlays.s1 (x2 : Sl) (r16 : ((Ptr × Ptr × Bool × Unit) × Heap)) (r21 : ((Ptr × Int × Unit) × Heap)) (r23 : (((Int × Int × Int × Unit) × Unit) × Heap)) (s26 : (Int × Unit)) (H27 : Heap) : Option (((Int × Unit) ⊕ ((Unit) ⊕ (Bool × Unit))) × Heap) :=
 cond (decide (s26.1 < (x2.len : Int))) (
 cond (decide (s26.1 < 25)) (
 (Sl.at 4 x2 s26.1).bind fun (a28 : (Nat × Nat)) =>
 Option.bind (α := (Int × Int × Int × Int × Unit)) (rd H27 (.agg [.int .i64, .int .i64, .int .i64, .int .u8]) a28.1 a28.2) fun (v29 : (Int × Int × Int × Int × Unit)) =>
 let H30 : Heap := H27 ++ [Blk.cells [.int .i64 0, .int .i64 0, .int .i64 0, .int .u8 0] .exact]
 (wr H30 H27.length 0 [.int .i64 v29.1, .int .i64 v29.2.1, .int .i64 v29.2.2.1, .int .u8 v29.2.2.2.1]).bind fun (H31 : Heap) =>
 (rdI .i64 H31 r23.2.length 2).bind fun (v32 : Int) =>
 (rdI .u8 H31 H27.length 3).bind fun (v33 : Int) =>
 (law32_text v32 v33).bind fun (r34 : (Bytes × Unit)) =>
 (rdI .u8 H31 H27.length 3).bind fun (v35 : Int) =>
 (law32_text 32 (IntKind.wrap .u8 (v35 + 1))).bind fun (r36 : (Bytes × Unit)) =>
 ((rdI .i64 H31 H27.length 0).bind fun (v37 : Int) =>
 (cond (decide (v37 = 4)) (
 some (((decide (v37 = 4)), ()), H31)) (
 some (((decide (v37 = 5)), ()), H31)) : Option ((Bool × Unit) × Heap)).bind fun (p38 : (Bool × Unit) × Heap) =>
 cond p38.1.1 (
 (rdI .i64 p38.2 H27.length 1).bind fun (v39 : Int) =>
 (rdI .i64 p38.2 H27.length 1).bind fun (v40 : Int) =>
 (host_Host_Erase r16.1.2.1 v39 p38.2).bind fun (r41 : ((Int × Unit) × Heap)) =>
 (rdI .i64 r41.2 H27.length 1).bind fun (v42 : Int) =>
 if V.w (.one (.int .i64 v42)) = V.w (.one (.int .i64 v40)) then
 (nand_Chip_Erase r21.1.1 v40 r41.2).bind fun (r43 : ((Int × Unit) × Heap)) =>
 cond (!decide (r41.1.1 = r43.1.1)) (
 some (Sum.inr (false, ()), r43.2)) (
 some (Sum.inl (()), r43.2))
 else none) (
 cond (decide (v37 = 6)) (
 (rdI .i64 p38.2 H27.length 1).bind fun (v44 : Int) =>
 (rdI .i64 p38.2 H27.length 1).bind fun (v45 : Int) =>
 (host_Host_Mark r16.1.2.1 v44 p38.2).bind fun (r46 : ((Int × Unit) × Heap)) =>
 (rdI .i64 r46.2 H27.length 1).bind fun (v47 : Int) =>
 if V.w (.one (.int .i64 v47)) = V.w (.one (.int .i64 v45)) then
 (nand_Chip_Mark r21.1.1 v45 r46.2).bind fun (r48 : ((Int × Unit) × Heap)) =>
 cond (!decide (r46.1.1 = r48.1.1)) (
 some (Sum.inr (false, ()), r48.2)) (
 some (Sum.inl (()), r48.2))
 else none) (
 cond (decide (v37 = 7)) (
 (nand_Chip_Power r16.1.1 p38.2).bind fun (r49 : ((Unit) × Heap)) =>
 (nand_Chip_Power r21.1.1 r49.2).bind fun (r50 : ((Unit) × Heap)) =>
 some (Sum.inl (()), r50.2)) (
 cond (decide (v37 = 8)) (
 (rdI .i64 p38.2 H27.length 1).bind fun (v51 : Int) =>
 (rdI .i64 p38.2 H27.length 2).bind fun (v52 : Int) =>
 (host_Host_Read r16.1.2.1 v51 v52 p38.2).bind fun (r53 : ((Bytes × Bytes × Int × Unit) × Heap)) =>
 (rdI .i64 r53.2 H27.length 1).bind fun (v54 : Int) =>
 (rdI .i64 r53.2 H27.length 2).bind fun (v55 : Int) =>
 (nand_Chip_Read r21.1.1 v54 v55 r53.2).bind fun (r56 : ((Bytes × Bytes × Int × Unit) × Heap)) =>
 cond (!decide (r53.1.2.2.1 = r56.1.2.2.1)) (
 some (Sum.inr (false, ()), r56.2)) (
 cond (!decide ((r53.1.1 : Bytes) = r56.1.1)) (
 some (Sum.inr (false, ()), r56.2)) (
 cond (!decide ((r53.1.2.1 : Bytes) = r56.1.2.1)) (
 some (Sum.inr (false, ()), r56.2)) (
 some (Sum.inl (()), r56.2))))) (
 cond (decide (v37 = 9)) (
 (rdI .i64 p38.2 H27.length 1).bind fun (v57 : Int) =>
 (rdI .i64 p38.2 H27.length 2).bind fun (v58 : Int) =>
 (catS r34.1 [120]).bind fun (s59 : Bytes) =>
 (rdI .i64 p38.2 H27.length 1).bind fun (v60 : Int) =>
 (rdI .i64 p38.2 H27.length 2).bind fun (v61 : Int) =>
 (catS r34.1 [120]).bind fun (s62 : Bytes) =>
 (host_Host_Program r16.1.2.1 v57 v58 s59 r36.1 p38.2).bind fun (r63 : ((Int × Unit) × Heap)) =>
 (rdI .i64 r63.2 H27.length 1).bind fun (v64 : Int) =>
 if V.w (.one (.int .i64 v64)) = V.w (.one (.int .i64 v60)) then
 (rdI .i64 r63.2 H27.length 2).bind fun (v65 : Int) =>
 if V.w (.one (.int .i64 v65)) = V.w (.one (.int .i64 v61)) then
 (nand_Chip_Program r21.1.1 v60 v61 s62 r36.1 r63.2).bind fun (r66 : ((Int × Unit) × Heap)) =>
 cond (!decide (r63.1.1 = r66.1.1)) (
 some (Sum.inr (false, ()), r66.2)) (
 some (Sum.inl (()), r66.2))
 else none
 else none) (
 (rdI .i64 p38.2 H27.length 1).bind fun (v67 : Int) =>
 (rdI .i64 p38.2 H27.length 2).bind fun (v68 : Int) =>
 (rdI .i64 p38.2 H27.length 1).bind fun (v69 : Int) =>
 (rdI .i64 p38.2 H27.length 2).bind fun (v70 : Int) =>
 (host_Host_Program r16.1.2.1 v67 v68 r34.1 r36.1 p38.2).bind fun (r71 : ((Int × Unit) × Heap)) =>
 (rdI .i64 r71.2 H27.length 1).bind fun (v72 : Int) =>
 if V.w (.one (.int .i64 v72)) = V.w (.one (.int .i64 v69)) then
 (rdI .i64 r71.2 H27.length 2).bind fun (v73 : Int) =>
 if V.w (.one (.int .i64 v73)) = V.w (.one (.int .i64 v70)) then
 (nand_Chip_Program r21.1.1 v69 v70 r34.1 r36.1 r71.2).bind fun (r74 : ((Int × Unit) × Heap)) =>
 cond (!decide (r71.1.1 = r74.1.1)) (
 some (Sum.inr (false, ()), r74.2)) (
 some (Sum.inl (()), r74.2))
 else none
 else none))))) : Option (((Unit) ⊕ (Bool × Unit)) × Heap)).bind fun (p75 : ((Unit) ⊕ (Bool × Unit)) × Heap) =>
 Sum.elim (fun (y76 : (Unit)) =>
 (nand_Chip_Did r16.1.1 p75.2).bind fun (r77 : ((Int × Unit) × Heap)) =>
 (nand_Chip_Did r21.1.1 r77.2).bind fun (r78 : ((Int × Unit) × Heap)) =>
 cond (!decide (r77.1.1 = r78.1.1)) (
 some (Sum.inr (Sum.inr (false, ())), r78.2)) (
 (nand_Chip_Off r16.1.1 r78.2).bind fun (r79 : ((Bool × Unit) × Heap)) =>
 (nand_Chip_Off r21.1.1 r79.2).bind fun (r80 : ((Bool × Unit) × Heap)) =>
 cond (!(r79.1.1 == r80.1.1)) (
 some (Sum.inr (Sum.inr (false, ())), r80.2)) (
 (rdI .i64 r80.2 H27.length 1).bind fun (v81 : Int) =>
 (host_Host_Marked r16.1.2.1 v81 r80.2).bind fun (r82 : ((Bool × Int × Unit) × Heap)) =>
 (rdI .i64 r82.2 H27.length 1).bind fun (v83 : Int) =>
 (nand_Chip_Marked r21.1.1 v83 r82.2).bind fun (r84 : ((Bool × Int × Unit) × Heap)) =>
 cond (!(r82.1.1 == r84.1.1)) (
 some (Sum.inr (Sum.inr (false, ())), r84.2)) (
 cond (!decide (r82.1.2.1 = r84.1.2.1)) (
 some (Sum.inr (Sum.inr (false, ())), r84.2)) (
 some (Sum.inl ((IntKind.wrap .i64 (s26.1 + 1)), ()), r84.2)))))) (fun (z85 : (Bool × Unit)) =>
 some (Sum.inr (Sum.inr (z85.1, ())), p75.2)) p75.1) (
 some (Sum.inr (Sum.inl (())), H27))) (
 some (Sum.inr (Sum.inl (())), H27))
noncomputable def law32_HostPlays (x0 : (Int × Int × Int × Unit)) (x1 : (Sl × Sl × Sl × Unit)) (x2 : Sl) (H : Heap) : Option ((Bool × Unit) × Heap) :=
 let H1 : Heap := H ++ [Blk.cells [.int .i64 x0.1, .int .i64 x0.2.1, .int .i64 x0.2.2.1] .exact]
 let H2 : Heap := H1 ++ [Blk.cells [.sl 3 x1.1, .sl 1 x1.2.1, .sl 1 x1.2.2.1] .exact]
 (rdSl 3 H2 H1.length 0).bind fun (v3 : Sl) =>
 (rdSl 3 H2 H1.length 0).bind fun (v4 : Sl) =>
 (Sl.sub 3 v3 0 (if 4 < (v4.len : Int) then 4 else (v4.len : Int)) (v3.cap : Int)).bind fun (t5 : Sl) =>
 (rdSl 1 H2 H1.length 1).bind fun (v6 : Sl) =>
 (rdSl 1 H2 H1.length 1).bind fun (v7 : Sl) =>
 (Sl.sub 1 v6 0 (if 4 < (v7.len : Int) then 4 else (v7.len : Int)) (v6.cap : Int)).bind fun (t8 : Sl) =>
 (rdSl 1 H2 H1.length 2).bind fun (v9 : Sl) =>
 (rdSl 1 H2 H1.length 2).bind fun (v10 : Sl) =>
 (Sl.sub 1 v9 0 (if 4 < (v10.len : Int) then 4 else (v10.len : Int)) (v9.cap : Int)).bind fun (t11 : Sl) =>
 let H12 : Heap := H2 ++ [Blk.cells [.sl 3 Sl.nil, .sl 1 Sl.nil, .sl 1 Sl.nil] .exact]
 (wr H12 H2.length 0 [.sl 3 t5, .sl 1 t8, .sl 1 t11]).bind fun (H13 : Heap) =>
 Option.bind (α := (Int × Int × Int × Unit)) (rd H13 (.agg [.int .i64, .int .i64, .int .i64]) H.length 0) fun (v14 : (Int × Int × Int × Unit)) =>
 Option.bind (α := (Sl × Sl × Sl × Unit)) (rd H13 (.agg [.sl 3, .sl 1, .sl 1]) H2.length 0) fun (v15 : (Sl × Sl × Sl × Unit)) =>
 (law32_begun (v14.1, v14.2.1, v14.2.2.1, ()) (v15.1, v15.2.1, v15.2.2.1, ()) H13).bind fun (r16 : ((Ptr × Ptr × Bool × Unit) × Heap)) =>
 Option.bind (α := (Int × Int × Int × Unit)) (rd r16.2 (.agg [.int .i64, .int .i64, .int .i64]) H.length 0) fun (v17 : (Int × Int × Int × Unit)) =>
 Option.bind (α := (Sl × Sl × Sl × Unit)) (rd r16.2 (.agg [.sl 3, .sl 1, .sl 1]) H2.length 0) fun (v18 : (Sl × Sl × Sl × Unit)) =>
 (law05_Geometry (v17.1, v17.2.1, v17.2.2.1, ()) r16.2).bind fun (r19 : (((Int × Int × Int × Unit) × Unit) × Heap)) =>
 Option.bind (α := (Sl × Sl × Sl × Unit)) (rd r19.2 (.agg [.sl 3, .sl 1, .sl 1]) H2.length 0) fun (v20 : (Sl × Sl × Sl × Unit)) =>
 if V.w (.agg [.sl 3 v20.1, .sl 1 v20.2.1, .sl 1 v20.2.2.1]) = V.w (.agg [.sl 3 v18.1, .sl 1 v18.2.1, .sl 1 v18.2.2.1]) then
 (nand_New (r19.1.1.1, r19.1.1.2.1, r19.1.1.2.2.1, ()) (v18.1, v18.2.1, v18.2.2.1, ()) r19.2).bind fun (r21 : ((Ptr × Int × Unit) × Heap)) =>
 (law32_awake).bind fun (r22 : (Bool × Unit)) =>
 cond (!r22.1) (
 some ((false, ()), r21.2)) (
 cond (!r16.1.2.2.1) (
 some ((false, ()), r21.2)) (
 cond (!decide (r21.1.2.1 = 0)) (
 some ((false, ()), r21.2)) (
 (nand_Chip_Geometry r16.1.1 r21.2).bind fun (r23 : (((Int × Int × Int × Unit) × Unit) × Heap)) =>
 let H24 : Heap := r23.2 ++ [Blk.cells [.int .i64 0, .int .i64 0, .int .i64 0] .exact]
 (wr H24 r23.2.length 0 [.int .i64 r23.1.1.1, .int .i64 r23.1.1.2.1, .int .i64 r23.1.1.2.2.1]).bind fun (H25 : Heap) =>
 (loopW (law32_HostPlays.s1 x2 r16 r21 r23) (0, ()) H25).bind fun (p86 : ((Unit) ⊕ (Bool × Unit)) × Heap) =>
 Sum.elim (fun (y87 : (Unit)) =>
 some ((true, ()), p86.2)) (fun (z88 : (Bool × Unit)) =>
 some ((z88.1, ()), p86.2)) p86.1)))
 else none
noncomputable def law32_HostPlays.c : Callee := .full [.agg [.int .i64, .int .i64, .int .i64], .agg [.sl 3, .sl 1, .sl 1], .one (.sl 4)] [.one .bool] (fun x H => law32_HostPlays x.1 x.2.1 x.2.2.1 H)
noncomputable def law32_HostPlays.calls : Nat → Option Callee
  | 0 => some law32_begun.c
  | 1 => some law05_Geometry.c
  | 2 => some nand_New.c
  | 3 => some law32_awake.c
  | 4 => some nand_Chip_Geometry.c
  | 5 => some law32_text.c
  | 6 => some host_Host_Erase.c
  | 7 => some nand_Chip_Erase.c
  | 8 => some host_Host_Mark.c
  | 9 => some nand_Chip_Mark.c
  | 10 => some nand_Chip_Power.c
  | 11 => some host_Host_Read.c
  | 12 => some nand_Chip_Read.c
  | 13 => some host_Host_Program.c
  | 14 => some nand_Chip_Program.c
  | 15 => some nand_Chip_Did.c
  | 16 => some nand_Chip_Off.c
  | 17 => some host_Host_Marked.c
  | 18 => some nand_Chip_Marked.c
  | _ => none
theorem law32_HostPlays.eq : evFull law32_HostPlays.calls law32_HostPlays.af = (fun x H => law32_HostPlays x.1 x.2.1 x.2.2.1 H) := by kernel_rfl
end Ev
