/- What the functions of the package Law39 compute: abstract code, and a function of plain Lean for each; the kernel checks that they are the same. Written by gen2.py. -/
import Derived.Test.YtdjmipkijimajaaEvCore
import Derived.Test.YtdjmipkijimajaaGCounter
import Derived.Test.YtdjmipkijimajaaGLaw05
import Derived.Test.YtdjmipkijimajaaGNand
import Derived.KernelRfl
set_option linter.unusedVariables false
set_option maxRecDepth 100000
namespace Ev
open Go (IntKind BinOp UnOp)

/-! ### tinderbox/tinderboxlaw39.begun -/
def law39_begun.af : AFun := ⟨[.agg [.int .i64, .int .i64, .int .i64], .agg [.sl 3, .sl 1, .sl 1]], [.one .ptr, .one .ptr, .one .bool], [.t 4, .t 5, .t 6],
 .seq (.reg [.op ⟨0, some 2, .box (.t 0), none⟩,
  .op ⟨1, some 3, .box (.t 1), none⟩,
  .op ⟨2, some 4, .mv (.c (.one (.ptr none))), none⟩,
  .op ⟨3, some 5, .mv (.c (.one (.ptr none))), none⟩,
  .op ⟨4, some 6, .mv (.c (.one (.bool false))), none⟩])
 (.seq (.reg [.op ⟨0, some 12, .load (.agg [.int .i64, .int .i64, .int .i64]) (.t 2), none⟩,
  .op ⟨2, some 14, .load (.agg [.sl 3, .sl 1, .sl 1]) (.t 3), none⟩,
  .op ⟨1, some 13, .call 0 [(.t 12)], none⟩,
  .again ⟨2, some 14, .load (.agg [.sl 3, .sl 1, .sl 1]) (.t 3), none⟩,
  .op ⟨3, some 15, .call 1 [(.t 13), (.t 14)], none⟩,
  .op ⟨4, some 11, .mv (.t 15), none⟩,
  .op ⟨5, some 16, .ext (.t 11) 0, none⟩,
  .op ⟨6, some 17, .ext (.t 11) 1, none⟩,
  .op ⟨7, some 7, .mv (.t 16), none⟩,
  .op ⟨8, some 8, .mv (.t 17), none⟩])
 (.seq (.reg [.op ⟨0, some 19, .mv (.t 7), none⟩,
  .op ⟨1, some 20, .call 2 [(.t 19), (.c (.one (.int .i64 0))), (.c (.one (.int .i64 1)))], none⟩,
  .op ⟨2, some 18, .mv (.t 20), none⟩,
  .op ⟨3, some 21, .ext (.t 18) 0, none⟩,
  .op ⟨4, some 22, .ext (.t 18) 1, none⟩,
  .op ⟨5, some 9, .mv (.t 21), none⟩,
  .op ⟨6, some 10, .mv (.t 22), none⟩])
 (.seq (.reg [.op ⟨0, some 23, .mv (.t 7), none⟩,
  .op ⟨1, some 24, .mv (.t 9), none⟩,
  .op ⟨2, some 25, .mv (.t 8), none⟩,
  .op ⟨3, some 26, .bin .eql (.t 25) (.c (.one (.int .i64 0))), none⟩,
  .op ⟨4, some 27, .mv (.t 26), none⟩,
  .op ⟨5, some 28, .mv (.t 10), some (27, true)⟩,
  .op ⟨6, some 29, .bin .eql (.t 28) (.c (.one (.int .i64 0))), some (27, true)⟩,
  .op ⟨7, some 30, .pick (.t 27) (.t 29) (.c (.one (.bool false))), none⟩,
  .op ⟨8, some 4, .mv (.t 23), none⟩,
  .op ⟨9, some 5, .mv (.t 24), none⟩,
  .op ⟨10, some 6, .mv (.t 30), none⟩])
 (.ret))))⟩
noncomputable def law39_begun (x0 : (Int × Int × Int × Unit)) (x1 : (Sl × Sl × Sl × Unit)) (H : Heap) : Option ((Ptr × Ptr × Bool × Unit) × Heap) :=
 let H1 : Heap := H ++ [Blk.cells [.int .i64 x0.1, .int .i64 x0.2.1, .int .i64 x0.2.2.1] .exact]
 let H2 : Heap := H1 ++ [Blk.cells [.sl 3 x1.1, .sl 1 x1.2.1, .sl 1 x1.2.2.1] .exact]
 Option.bind (α := (Int × Int × Int × Unit)) (rd H2 (.agg [.int .i64, .int .i64, .int .i64]) H.length 0) fun (v3 : (Int × Int × Int × Unit)) =>
 Option.bind (α := (Sl × Sl × Sl × Unit)) (rd H2 (.agg [.sl 3, .sl 1, .sl 1]) H1.length 0) fun (v4 : (Sl × Sl × Sl × Unit)) =>
 (law05_Geometry (v3.1, v3.2.1, v3.2.2.1, ()) H2).bind fun (r5 : (((Int × Int × Int × Unit) × Unit) × Heap)) =>
 Option.bind (α := (Sl × Sl × Sl × Unit)) (rd r5.2 (.agg [.sl 3, .sl 1, .sl 1]) H1.length 0) fun (v6 : (Sl × Sl × Sl × Unit)) =>
 if V.w (.agg [.sl 3 v6.1, .sl 1 v6.2.1, .sl 1 v6.2.2.1]) = V.w (.agg [.sl 3 v4.1, .sl 1 v4.2.1, .sl 1 v4.2.2.1]) then
 (nand_New (r5.1.1.1, r5.1.1.2.1, r5.1.1.2.2.1, ()) (v4.1, v4.2.1, v4.2.2.1, ()) r5.2).bind fun (r7 : ((Ptr × Int × Unit) × Heap)) =>
 (counter_Open r7.1.1 0 1 r7.2).bind fun (r8 : ((Ptr × Int × Unit) × Heap)) =>
 cond (decide (r7.1.2.1 = 0)) (
 some ((r7.1.1, r8.1.1, (decide (r8.1.2.1 = 0)), ()), r8.2)) (
 some ((r7.1.1, r8.1.1, false, ()), r8.2))
 else none
noncomputable def law39_begun.c : Callee := .full [.agg [.int .i64, .int .i64, .int .i64], .agg [.sl 3, .sl 1, .sl 1]] [.one .ptr, .one .ptr, .one .bool] (fun x H => law39_begun x.1 x.2.1 H)
noncomputable def law39_begun.calls : Nat → Option Callee
  | 0 => some law05_Geometry.c
  | 1 => some nand_New.c
  | 2 => some counter_Open.c
  | _ => none
theorem law39_begun.eq : evFull law39_begun.calls law39_begun.af = (fun x H => law39_begun x.1 x.2.1 H) := by kernel_rfl

/-! ### tinderbox/tinderboxlaw39.awake -/
def law39_awake.af : AFun := ⟨[], [.one .bool], [.t 0],
 .seq (.reg [.op ⟨0, some 0, .mv (.c (.one (.bool false))), none⟩])
 (.seq (.reg [.op ⟨0, some 7, .build [.int .i64 0, .int .i64 0, .int .i64 0] [], none⟩,
  .op ⟨1, some 8, .build [.sl 3 Sl.nil, .sl 1 Sl.nil, .sl 1 Sl.nil] [], none⟩,
  .op ⟨2, some 9, .call 0 [(.t 7), (.t 8)], none⟩,
  .op ⟨3, some 6, .mv (.t 9), none⟩,
  .op ⟨4, some 10, .ext (.t 6) 0, none⟩,
  .op ⟨5, some 11, .ext (.t 6) 1, none⟩,
  .op ⟨6, some 12, .ext (.t 6) 2, none⟩,
  .op ⟨7, some 1, .mv (.t 10), none⟩,
  .op ⟨8, some 2, .mv (.t 11), none⟩,
  .op ⟨9, some 3, .mv (.t 12), none⟩])
 (.seq (.seq (.reg [.op ⟨0, some 13, .mv (.t 3), none⟩,
  .op ⟨1, some 14, .un .not (.t 13), none⟩,
  .op ⟨2, some 15, .mv (.t 14), none⟩,
  .op ⟨3, some 16, .mv (.t 2), some (15, false)⟩,
  .op ⟨4, some 17, .call 1 [(.t 16)], some (15, false)⟩,
  .op ⟨5, some 18, .bin .neq (.t 17) (.c (.one (.int .i64 0))), some (15, false)⟩,
  .op ⟨6, some 19, .pick (.t 15) (.c (.one (.bool true))) (.t 18), none⟩,
  .op ⟨7, some 20, .mv (.t 19), none⟩,
  .op ⟨8, some 21, .mv (.t 2), some (20, false)⟩,
  .op ⟨9, some 22, .call 2 [(.t 21), (.c (.one (.int .i64 3)))], some (20, false)⟩,
  .op ⟨10, some 23, .bin .neq (.t 22) (.c (.one (.int .i64 0))), some (20, false)⟩,
  .op ⟨11, some 24, .pick (.t 20) (.c (.one (.bool true))) (.t 23), none⟩,
  .op ⟨12, some 25, .mv (.t 24), none⟩,
  .op ⟨13, some 26, .mv (.t 2), some (25, false)⟩,
  .op ⟨14, some 27, .call 3 [(.t 26)], some (25, false)⟩,
  .op ⟨15, some 28, .bin .neq (.t 27) (.c (.one (.int .i64 0))), some (25, false)⟩,
  .op ⟨16, some 29, .pick (.t 25) (.c (.one (.bool true))) (.t 28), none⟩])
 (.cond (.t 29) (.seq (.reg [.op ⟨0, some 0, .mv (.c (.one (.bool false))), none⟩])
 (.ret)) (.skip)))
 (.seq (.reg [.op ⟨0, some 31, .mv (.t 1), none⟩,
  .op ⟨1, some 32, .call 4 [(.t 31), (.c (.one (.int .i64 0))), (.c (.one (.int .i64 1)))], none⟩,
  .op ⟨2, some 30, .mv (.t 32), none⟩,
  .op ⟨3, some 33, .ext (.t 30) 0, none⟩,
  .op ⟨4, some 34, .ext (.t 30) 1, none⟩,
  .op ⟨5, some 4, .mv (.t 33), none⟩,
  .op ⟨6, some 5, .mv (.t 34), none⟩])
 (.seq (.reg [.op ⟨0, some 35, .mv (.t 5), none⟩,
  .op ⟨1, some 36, .bin .eql (.t 35) (.c (.one (.int .i64 0))), none⟩,
  .op ⟨2, some 37, .mv (.t 36), none⟩,
  .op ⟨3, some 38, .mv (.t 4), some (37, true)⟩,
  .op ⟨4, some 39, .call 1 [(.t 38)], some (37, true)⟩,
  .op ⟨5, some 40, .bin .eql (.t 39) (.c (.one (.int .i64 4))), some (37, true)⟩,
  .op ⟨6, some 41, .pick (.t 37) (.t 40) (.c (.one (.bool false))), none⟩,
  .op ⟨7, some 42, .mv (.t 41), none⟩,
  .op ⟨8, some 43, .mv (.t 2), some (42, true)⟩,
  .op ⟨9, some 44, .call 1 [(.t 43)], some (42, true)⟩,
  .op ⟨10, some 45, .bin .eql (.t 44) (.c (.one (.int .i64 4))), some (42, true)⟩,
  .op ⟨11, some 46, .pick (.t 42) (.t 45) (.c (.one (.bool false))), none⟩,
  .op ⟨12, some 47, .mv (.t 46), none⟩,
  .op ⟨13, some 48, .mv (.t 4), some (47, true)⟩,
  .op ⟨14, some 49, .call 2 [(.t 48), (.c (.one (.int .i64 4)))], some (47, true)⟩,
  .op ⟨15, some 50, .bin .eql (.t 49) (.c (.one (.int .i64 210))), some (47, true)⟩,
  .op ⟨16, some 51, .pick (.t 47) (.t 50) (.c (.one (.bool false))), none⟩,
  .op ⟨17, some 0, .mv (.t 51), none⟩])
 (.ret)))))⟩
noncomputable def law39_awake.on (H : Heap) : Option (Bool × Unit) :=
 (law39_begun (0, 0, 0, ()) (⟨none, 0, 0⟩, ⟨none, 0, 0⟩, ⟨none, 0, 0⟩, ()) H).bind fun (r1 : ((Ptr × Ptr × Bool × Unit) × Heap)) =>
 cond (!r1.1.2.2.1) (
 some (false, ())) (
 (counter_Counter_Value r1.1.2.1 r1.2).bind fun (r2 : ((Int × Unit) × Heap)) =>
 cond (!decide (r2.1.1 = 0)) (
 some (false, ())) (
 (counter_Counter_Raise r1.1.2.1 3 r2.2).bind fun (r3 : ((Int × Unit) × Heap)) =>
 cond (!decide (r3.1.1 = 0)) (
 some (false, ())) (
 (counter_Counter_Step r1.1.2.1 r3.2).bind fun (r4 : ((Int × Unit) × Heap)) =>
 cond (!decide (r4.1.1 = 0)) (
 some (false, ())) (
 (counter_Open r1.1.1 0 1 r4.2).bind fun (r5 : ((Ptr × Int × Unit) × Heap)) =>
 cond (decide (r5.1.2.1 = 0)) (
 (counter_Counter_Value r5.1.1 r5.2).bind fun (r6 : ((Int × Unit) × Heap)) =>
 cond (decide (r6.1.1 = 4)) (
 (counter_Counter_Value r1.1.2.1 r6.2).bind fun (r7 : ((Int × Unit) × Heap)) =>
 cond (decide (r7.1.1 = 4)) (
 (counter_Counter_Raise r5.1.1 4 r7.2).bind fun (r8 : ((Int × Unit) × Heap)) =>
 some ((decide (r8.1.1 = 210)), ())) (
 some (false, ()))) (
 some (false, ()))) (
 some (false, ()))))))
noncomputable def law39_awake  : Option (Bool × Unit) := law39_awake.on []
noncomputable def law39_awake.c : Callee := .pure [] [.one .bool] (fun _ => law39_awake)
noncomputable def law39_awake.calls : Nat → Option Callee
  | 0 => some law39_begun.c
  | 1 => some counter_Counter_Value.c
  | 2 => some counter_Counter_Raise.c
  | 3 => some counter_Counter_Step.c
  | 4 => some counter_Open.c
  | _ => none
theorem law39_awake.eq : evPure law39_awake.calls law39_awake.af = (fun _ H => law39_awake.on H) := by kernel_rfl

/-! ### tinderbox/tinderboxlaw39.CounterRises -/
def law39_CounterRises.af : AFun := ⟨[.agg [.int .i64, .int .i64, .int .i64], .one (.sl 1), .one (.int .i64)], [.one .bool], [.t 6],
 .seq (.reg [.op ⟨0, some 3, .box (.t 0), none⟩,
  .op ⟨1, some 6, .mv (.c (.one (.bool false))), none⟩])
 (.seq (.reg [.op ⟨0, some 17, .load (.agg [.int .i64, .int .i64, .int .i64]) (.t 3), none⟩,
  .op ⟨1, some 18, .build [.sl 3 Sl.nil, .sl 1 Sl.nil, .sl 1 Sl.nil] [], none⟩,
  .op ⟨2, some 19, .call 0 [(.t 17), (.t 18)], none⟩,
  .op ⟨3, some 16, .mv (.t 19), none⟩,
  .op ⟨4, some 20, .ext (.t 16) 0, none⟩,
  .op ⟨5, some 21, .ext (.t 16) 1, none⟩,
  .op ⟨6, some 22, .ext (.t 16) 2, none⟩,
  .op ⟨7, some 7, .mv (.t 20), none⟩,
  .op ⟨8, some 8, .mv (.t 21), none⟩,
  .op ⟨9, some 9, .mv (.t 22), none⟩])
 (.seq (.seq (.reg [.op ⟨0, some 23, .call 1 [], none⟩,
  .op ⟨1, some 24, .un .not (.t 23), none⟩,
  .op ⟨2, some 25, .mv (.t 24), none⟩,
  .op ⟨3, some 26, .mv (.t 9), some (25, false)⟩,
  .op ⟨4, some 27, .un .not (.t 26), some (25, false)⟩,
  .op ⟨5, some 28, .pick (.t 25) (.c (.one (.bool true))) (.t 27), none⟩])
 (.cond (.t 28) (.seq (.reg [.op ⟨0, some 6, .mv (.c (.one (.bool false))), none⟩])
 (.ret)) (.skip)))
 (.seq (.reg [.op ⟨0, some 10, .mv (.c (.one (.int .i64 0))), none⟩])
 (.seq (.seq (.reg [.op ⟨0, some 11, .mv (.c (.one (.int .i64 0))), none⟩])
 (.block 0 (.loop [(8, .one .ptr), (10, .one (.int .i64)), (11, .one (.int .i64))] [(.exit 0, []), (.ret, [(6, .one .bool)])] (.seq (.seq (.reg [.op ⟨0, some 29, .mv (.t 11), none⟩,
  .op ⟨1, some 30, .mv (.t 1), none⟩,
  .op ⟨2, some 31, .len (.t 30), none⟩,
  .op ⟨3, some 32, .bin .lss (.t 29) (.t 31), none⟩,
  .op ⟨4, some 33, .mv (.t 32), none⟩,
  .op ⟨5, some 34, .mv (.t 11), some (33, true)⟩,
  .op ⟨6, some 35, .bin .lss (.t 34) (.c (.one (.int .i64 60))), some (33, true)⟩,
  .op ⟨7, some 36, .pick (.t 33) (.t 35) (.c (.one (.bool false))), none⟩])
 (.cond (.t 36) (.skip) (.exit 0)))
 (.seq (.block 1 (.seq (.reg [.op ⟨0, some 39, .mv (.t 1), none⟩,
  .op ⟨1, some 40, .mv (.t 11), none⟩,
  .op ⟨2, some 41, .idxa 1 (.t 39) (.t 40), none⟩,
  .op ⟨3, some 42, .load (.one (.int .i64)) (.t 41), none⟩,
  .op ⟨4, some 12, .mv (.t 42), none⟩])
 (.seq (.reg [.op ⟨0, some 13, .mv (.c (.one (.int .i64 0))), none⟩])
 (.seq (.scope [(.normal, [(10, .one (.int .i64)), (13, .one (.int .i64))])] (.block 2 (.seq (.reg [.op ⟨0, some 45, .mv (.t 12), none⟩,
  .op ⟨1, some 46, .bin .gtr (.t 45) (.c (.one (.int .i64 1073741824))), none⟩,
  .op ⟨2, some 44, .mv (.t 46), none⟩])
 (.cond (.t 44) (.reg [.op ⟨0, some 13, .mv (.c (.one (.int .i64 1))), none⟩]) (.seq (.reg [.op ⟨0, some 48, .mv (.t 12), none⟩,
  .op ⟨1, some 49, .mv (.t 10), none⟩,
  .op ⟨2, some 50, .bin .leq (.t 48) (.t 49), none⟩,
  .op ⟨3, some 47, .mv (.t 50), none⟩])
 (.cond (.t 47) (.reg [.op ⟨0, some 13, .mv (.c (.one (.int .i64 210))), none⟩]) (.reg [.op ⟨0, some 43, .mv (.t 12), none⟩,
  .op ⟨1, some 10, .mv (.t 43), none⟩])))))))
 (.seq (.seq (.reg [.op ⟨0, some 51, .mv (.t 8), none⟩,
  .op ⟨1, some 52, .mv (.t 12), none⟩,
  .op ⟨2, some 53, .call 2 [(.t 51), (.t 52)], none⟩,
  .op ⟨3, some 54, .mv (.t 13), none⟩,
  .op ⟨4, some 55, .bin .neq (.t 53) (.t 54), none⟩,
  .op ⟨5, some 56, .mv (.t 55), none⟩,
  .op ⟨6, some 57, .mv (.t 8), some (56, false)⟩,
  .op ⟨7, some 58, .call 3 [(.t 57)], some (56, false)⟩,
  .op ⟨8, some 59, .mv (.t 10), some (56, false)⟩,
  .op ⟨9, some 60, .bin .neq (.t 58) (.t 59), some (56, false)⟩,
  .op ⟨10, some 61, .pick (.t 56) (.c (.one (.bool true))) (.t 60), none⟩])
 (.cond (.t 61) (.seq (.reg [.op ⟨0, some 6, .mv (.c (.one (.bool false))), none⟩])
 (.ret)) (.skip)))
 (.seq (.reg [.op ⟨0, some 62, .mv (.t 11), none⟩,
  .op ⟨1, some 63, .mv (.t 2), none⟩,
  .op ⟨2, some 64, .bin .and (.t 63) (.c (.one (.int .i64 7))), none⟩,
  .op ⟨3, some 65, .bin .add (.c (.one (.int .i64 1))) (.t 64), none⟩,
  .op ⟨4, some 66, .bin .rem (.t 62) (.t 65), none⟩,
  .op ⟨5, some 67, .bin .eql (.t 66) (.c (.one (.int .i64 0))), none⟩])
 (.cond (.t 67) (.seq (.reg [.op ⟨0, some 69, .mv (.t 7), none⟩,
  .op ⟨1, some 70, .call 4 [(.t 69), (.c (.one (.int .i64 0))), (.c (.one (.int .i64 1)))], none⟩,
  .op ⟨2, some 68, .mv (.t 70), none⟩,
  .op ⟨3, some 71, .ext (.t 68) 0, none⟩,
  .op ⟨4, some 72, .ext (.t 68) 1, none⟩,
  .op ⟨5, some 14, .mv (.t 71), none⟩,
  .op ⟨6, some 15, .mv (.t 72), none⟩])
 (.seq (.seq (.reg [.op ⟨0, some 73, .mv (.t 15), none⟩,
  .op ⟨1, some 74, .bin .neq (.t 73) (.c (.one (.int .i64 0))), none⟩,
  .op ⟨2, some 75, .mv (.t 74), none⟩,
  .op ⟨3, some 76, .mv (.t 14), some (75, false)⟩,
  .op ⟨4, some 77, .call 3 [(.t 76)], some (75, false)⟩,
  .op ⟨5, some 78, .mv (.t 10), some (75, false)⟩,
  .op ⟨6, some 79, .bin .neq (.t 77) (.t 78), some (75, false)⟩,
  .op ⟨7, some 80, .pick (.t 75) (.c (.one (.bool true))) (.t 79), none⟩])
 (.cond (.t 80) (.seq (.reg [.op ⟨0, some 6, .mv (.c (.one (.bool false))), none⟩])
 (.ret)) (.skip)))
 (.reg [.op ⟨0, some 81, .mv (.t 14), none⟩,
  .op ⟨1, some 8, .mv (.t 81), none⟩]))) (.skip))))))))
 (.reg [.op ⟨0, some 37, .mv (.t 11), none⟩,
  .op ⟨1, some 38, .bin .add (.t 37) (.c (.one (.int .i64 1))), none⟩,
  .op ⟨2, some 11, .mv (.t 38), none⟩]))))))
 (.seq (.reg [.op ⟨0, some 6, .mv (.c (.one (.bool true))), none⟩])
 (.ret))))))⟩
noncomputable def law39_CounterRises.s1 (x1 : Sl) (x2 : Int) (r3 : ((Ptr × Ptr × Bool × Unit) × Heap)) (s5 : (Ptr × Int × Int × Unit)) (H6 : Heap) : Option (((Ptr × Int × Int × Unit) ⊕ ((Unit) ⊕ (Bool × Unit))) × Heap) :=
 cond (decide (s5.2.2.1 < (x1.len : Int))) (
 cond (decide (s5.2.2.1 < 60)) (
 (Sl.at 1 x1 s5.2.2.1).bind fun (a7 : (Nat × Nat)) =>
 (rdI .i64 H6 a7.1 a7.2).bind fun (v8 : Int) =>
 (cond (decide (1073741824 < v8)) (
 some ((s5.2.1, 1, ()), H6)) (
 cond (decide (v8 ≤ s5.2.1)) (
 some ((s5.2.1, 210, ()), H6)) (
 some ((v8, 0, ()), H6))) : Option ((Int × Int × Unit) × Heap)).bind fun (p9 : (Int × Int × Unit) × Heap) =>
 (counter_Counter_Raise s5.1 v8 p9.2).bind fun (r10 : ((Int × Unit) × Heap)) =>
 cond (!decide (r10.1.1 = p9.1.2.1)) (
 some (Sum.inr (Sum.inr (false, ())), r10.2)) (
 (counter_Counter_Value s5.1 r10.2).bind fun (r11 : ((Int × Unit) × Heap)) =>
 cond (!decide (r11.1.1 = p9.1.1)) (
 some (Sum.inr (Sum.inr (false, ())), r11.2)) (
 cond (decide ((IntKind.wrap .i64 (1 + (bitsI .and .i64 x2 7))) = 0)) none (
 cond (decide ((Int.tmod s5.2.2.1 (IntKind.wrap .i64 (1 + (bitsI .and .i64 x2 7)))) = 0)) (
 (counter_Open r3.1.1 0 1 r11.2).bind fun (r12 : ((Ptr × Int × Unit) × Heap)) =>
 cond (!decide (r12.1.2.1 = 0)) (
 some (Sum.inr (Sum.inr (false, ())), r12.2)) (
 (counter_Counter_Value r12.1.1 r12.2).bind fun (r13 : ((Int × Unit) × Heap)) =>
 cond (!decide (r13.1.1 = p9.1.1)) (
 some (Sum.inr (Sum.inr (false, ())), r13.2)) (
 some (Sum.inl (r12.1.1, p9.1.1, (IntKind.wrap .i64 (s5.2.2.1 + 1)), ()), r13.2)))) (
 some (Sum.inl (s5.1, p9.1.1, (IntKind.wrap .i64 (s5.2.2.1 + 1)), ()), r11.2)))))) (
 some (Sum.inr (Sum.inl (())), H6))) (
 some (Sum.inr (Sum.inl (())), H6))
noncomputable def law39_CounterRises (x0 : (Int × Int × Int × Unit)) (x1 : Sl) (x2 : Int) (H : Heap) : Option ((Bool × Unit) × Heap) :=
 let H1 : Heap := H ++ [Blk.cells [.int .i64 x0.1, .int .i64 x0.2.1, .int .i64 x0.2.2.1] .exact]
 Option.bind (α := (Int × Int × Int × Unit)) (rd H1 (.agg [.int .i64, .int .i64, .int .i64]) H.length 0) fun (v2 : (Int × Int × Int × Unit)) =>
 (law39_begun (v2.1, v2.2.1, v2.2.2.1, ()) (⟨none, 0, 0⟩, ⟨none, 0, 0⟩, ⟨none, 0, 0⟩, ()) H1).bind fun (r3 : ((Ptr × Ptr × Bool × Unit) × Heap)) =>
 (law39_awake).bind fun (r4 : (Bool × Unit)) =>
 cond (!r4.1) (
 some ((false, ()), r3.2)) (
 cond (!r3.1.2.2.1) (
 some ((false, ()), r3.2)) (
 (loopW (law39_CounterRises.s1 x1 x2 r3) (r3.1.2.1, 0, 0, ()) r3.2).bind fun (p14 : ((Unit) ⊕ (Bool × Unit)) × Heap) =>
 Sum.elim (fun (y15 : (Unit)) =>
 some ((true, ()), p14.2)) (fun (z16 : (Bool × Unit)) =>
 some ((z16.1, ()), p14.2)) p14.1))
noncomputable def law39_CounterRises.c : Callee := .full [.agg [.int .i64, .int .i64, .int .i64], .one (.sl 1), .one (.int .i64)] [.one .bool] (fun x H => law39_CounterRises x.1 x.2.1 x.2.2.1 H)
noncomputable def law39_CounterRises.calls : Nat → Option Callee
  | 0 => some law39_begun.c
  | 1 => some law39_awake.c
  | 2 => some counter_Counter_Raise.c
  | 3 => some counter_Counter_Value.c
  | 4 => some counter_Open.c
  | _ => none
theorem law39_CounterRises.eq : evFull law39_CounterRises.calls law39_CounterRises.af = (fun x H => law39_CounterRises x.1 x.2.1 x.2.2.1 H) := by kernel_rfl

/-! ### tinderbox/tinderboxlaw39.CounterNone -/
def law39_CounterNone.af : AFun := ⟨[.one (.int .i64), .one (.int .i64), .one (.int .i64)], [.one .bool], [.t 6],
 .seq (.reg [.op ⟨0, some 6, .mv (.c (.one (.bool false))), none⟩])
 (.seq (.reg [.op ⟨0, some 7, .mv (.c (.one (.ptr none))), none⟩])
 (.seq (.reg [.op ⟨0, some 16, .build [.int .i64 0, .int .i64 0, .int .i64 0] [(0, 1, (.c (.one (.int .i64 8)))), (1, 1, (.c (.one (.int .i64 4)))), (2, 1, (.c (.one (.int .i64 64))))], none⟩,
  .op ⟨1, some 17, .build [.sl 3 Sl.nil, .sl 1 Sl.nil, .sl 1 Sl.nil] [], none⟩,
  .op ⟨2, some 18, .call 0 [(.t 16), (.t 17)], none⟩,
  .op ⟨3, some 15, .mv (.t 18), none⟩,
  .op ⟨4, some 19, .ext (.t 15) 0, none⟩,
  .op ⟨5, some 20, .ext (.t 15) 1, none⟩,
  .op ⟨6, some 8, .mv (.t 19), none⟩,
  .op ⟨7, some 9, .mv (.t 20), none⟩])
 (.seq (.reg [.op ⟨0, some 22, .mv (.t 8), none⟩,
  .op ⟨1, some 23, .mv (.t 0), none⟩,
  .op ⟨2, some 24, .mv (.t 1), none⟩,
  .op ⟨3, some 25, .call 1 [(.t 22), (.t 23), (.t 24)], none⟩,
  .op ⟨4, some 21, .mv (.t 25), none⟩,
  .op ⟨5, some 26, .ext (.t 21) 0, none⟩,
  .op ⟨6, some 27, .ext (.t 21) 1, none⟩,
  .op ⟨7, some 10, .mv (.t 26), none⟩,
  .op ⟨8, some 11, .mv (.t 27), none⟩])
 (.seq (.reg [.op ⟨0, some 29, .call 1 [(.c (.one (.ptr none))), (.c (.one (.int .i64 0))), (.c (.one (.int .i64 1)))], none⟩,
  .op ⟨1, some 28, .mv (.t 29), none⟩,
  .op ⟨2, some 30, .ext (.t 28) 0, none⟩,
  .op ⟨3, some 31, .ext (.t 28) 1, none⟩,
  .op ⟨4, some 12, .mv (.t 30), none⟩,
  .op ⟨5, some 13, .mv (.t 31), none⟩])
 (.seq (.scope [(.normal, [(14, .one .bool)])] (.reg [.op ⟨0, some 32, .mv (.t 0), none⟩,
  .op ⟨1, some 33, .mv (.t 1), none⟩,
  .op ⟨2, some 34, .bin .neq (.t 32) (.t 33), none⟩,
  .op ⟨3, some 35, .mv (.t 34), none⟩,
  .op ⟨4, some 36, .mv (.t 0), some (35, true)⟩,
  .op ⟨5, some 37, .bin .geq (.t 36) (.c (.one (.int .i64 0))), some (35, true)⟩,
  .op ⟨6, some 38, .pick (.t 35) (.t 37) (.c (.one (.bool false))), none⟩,
  .op ⟨7, some 39, .mv (.t 38), none⟩,
  .op ⟨8, some 40, .mv (.t 1), some (39, true)⟩,
  .op ⟨9, some 41, .bin .geq (.t 40) (.c (.one (.int .i64 0))), some (39, true)⟩,
  .op ⟨10, some 42, .pick (.t 39) (.t 41) (.c (.one (.bool false))), none⟩,
  .op ⟨11, some 43, .mv (.t 42), none⟩,
  .op ⟨12, some 44, .mv (.t 0), some (43, true)⟩,
  .op ⟨13, some 45, .bin .lss (.t 44) (.c (.one (.int .i64 8))), some (43, true)⟩,
  .op ⟨14, some 46, .pick (.t 43) (.t 45) (.c (.one (.bool false))), none⟩,
  .op ⟨15, some 47, .mv (.t 46), none⟩,
  .op ⟨16, some 48, .mv (.t 1), some (47, true)⟩,
  .op ⟨17, some 49, .bin .lss (.t 48) (.c (.one (.int .i64 8))), some (47, true)⟩,
  .op ⟨18, some 50, .pick (.t 47) (.t 49) (.c (.one (.bool false))), none⟩,
  .op ⟨19, some 14, .mv (.t 50), none⟩]))
 (.seq (.reg [.op ⟨0, some 51, .call 2 [], none⟩,
  .op ⟨1, some 52, .mv (.t 51), none⟩,
  .op ⟨2, some 53, .mv (.t 9), some (52, true)⟩,
  .op ⟨3, some 54, .bin .eql (.t 53) (.c (.one (.int .i64 0))), some (52, true)⟩,
  .op ⟨4, some 55, .pick (.t 52) (.t 54) (.c (.one (.bool false))), none⟩,
  .op ⟨5, some 56, .mv (.t 55), none⟩,
  .op ⟨6, some 57, .mv (.t 7), some (56, true)⟩,
  .op ⟨7, some 58, .call 3 [(.t 57)], some (56, true)⟩,
  .op ⟨8, some 59, .bin .eql (.t 58) (.c (.one (.int .i64 0))), some (56, true)⟩,
  .op ⟨9, some 60, .pick (.t 56) (.t 59) (.c (.one (.bool false))), none⟩,
  .op ⟨10, some 61, .mv (.t 60), none⟩,
  .op ⟨11, some 62, .mv (.t 7), some (61, true)⟩,
  .op ⟨12, some 63, .mv (.t 2), some (61, true)⟩,
  .op ⟨13, some 64, .call 4 [(.t 62), (.t 63)], some (61, true)⟩,
  .op ⟨14, some 65, .bin .eql (.t 64) (.c (.one (.int .i64 1))), some (61, true)⟩,
  .op ⟨15, some 66, .pick (.t 61) (.t 65) (.c (.one (.bool false))), none⟩,
  .op ⟨16, some 67, .mv (.t 66), none⟩,
  .op ⟨17, some 68, .mv (.t 7), some (67, true)⟩,
  .op ⟨18, some 69, .call 5 [(.t 68)], some (67, true)⟩,
  .op ⟨19, some 70, .bin .eql (.t 69) (.c (.one (.int .i64 1))), some (67, true)⟩,
  .op ⟨20, some 71, .pick (.t 67) (.t 70) (.c (.one (.bool false))), none⟩,
  .op ⟨21, some 72, .mv (.t 71), none⟩,
  .op ⟨22, some 73, .mv (.t 11), some (72, true)⟩,
  .op ⟨23, some 74, .bin .eql (.t 73) (.c (.one (.int .i64 0))), some (72, true)⟩,
  .op ⟨24, some 75, .mv (.t 14), some (72, true)⟩,
  .op ⟨25, some 76, .eqb false (.t 74) (.t 75), some (72, true)⟩,
  .op ⟨26, some 77, .pick (.t 72) (.t 76) (.c (.one (.bool false))), none⟩,
  .op ⟨27, some 78, .mv (.t 77), none⟩,
  .op ⟨28, some 79, .mv (.t 10), some (78, true)⟩,
  .op ⟨29, some 80, .isnil true (.t 79), some (78, true)⟩,
  .op ⟨30, some 81, .mv (.t 14), some (78, true)⟩,
  .op ⟨31, some 82, .eqb false (.t 80) (.t 81), some (78, true)⟩,
  .op ⟨32, some 83, .pick (.t 78) (.t 82) (.c (.one (.bool false))), none⟩,
  .op ⟨33, some 84, .mv (.t 83), none⟩,
  .op ⟨34, some 85, .mv (.t 13), some (84, true)⟩,
  .op ⟨35, some 86, .bin .eql (.t 85) (.c (.one (.int .i64 1))), some (84, true)⟩,
  .op ⟨36, some 87, .pick (.t 84) (.t 86) (.c (.one (.bool false))), none⟩,
  .op ⟨37, some 6, .mv (.t 87), none⟩])
 (.ret)))))))⟩
noncomputable def law39_CounterNone.on (x0 : Int) (x1 : Int) (x2 : Int) (H : Heap) : Option (Bool × Unit) :=
 (nand_New (8, 4, 64, ()) (⟨none, 0, 0⟩, ⟨none, 0, 0⟩, ⟨none, 0, 0⟩, ()) H).bind fun (r1 : ((Ptr × Int × Unit) × Heap)) =>
 (counter_Open r1.1.1 x0 x1 r1.2).bind fun (r2 : ((Ptr × Int × Unit) × Heap)) =>
 (counter_Open none 0 1 r2.2).bind fun (r3 : ((Ptr × Int × Unit) × Heap)) =>
 (cond (!decide (x0 = x1)) (
 cond (decide (0 ≤ x0)) (
 cond (decide (0 ≤ x1)) (
 cond (decide (x0 < 8)) (
 some (((decide (x1 < 8)), ()), r3.2)) (
 some ((false, ()), r3.2))) (
 some ((false, ()), r3.2))) (
 some ((false, ()), r3.2))) (
 some ((false, ()), r3.2)) : Option ((Bool × Unit) × Heap)).bind fun (p4 : (Bool × Unit) × Heap) =>
 (law39_awake).bind fun (r5 : (Bool × Unit)) =>
 cond r5.1 (
 cond (decide (r1.1.2.1 = 0)) (
 (counter_Counter_Value none p4.2).bind fun (r6 : ((Int × Unit) × Heap)) =>
 cond (decide (r6.1.1 = 0)) (
 (counter_Counter_Raise none x2 r6.2).bind fun (r7 : ((Int × Unit) × Heap)) =>
 cond (decide (r7.1.1 = 1)) (
 (counter_Counter_Step none r7.2).bind fun (r8 : ((Int × Unit) × Heap)) =>
 cond (decide (r8.1.1 = 1)) (
 cond ((decide (r2.1.2.1 = 0)) == p4.1.1) (
 cond ((!(Option.isNone r2.1.1)) == p4.1.1) (
 some ((decide (r3.1.2.1 = 1)), ())) (
 some (false, ()))) (
 some (false, ()))) (
 some (false, ()))) (
 some (false, ()))) (
 some (false, ()))) (
 some (false, ()))) (
 some (false, ()))
noncomputable def law39_CounterNone (x0 : Int) (x1 : Int) (x2 : Int) : Option (Bool × Unit) := law39_CounterNone.on x0 x1 x2 []
noncomputable def law39_CounterNone.c : Callee := .pure [.one (.int .i64), .one (.int .i64), .one (.int .i64)] [.one .bool] (fun x => law39_CounterNone x.1 x.2.1 x.2.2.1)
noncomputable def law39_CounterNone.calls : Nat → Option Callee
  | 0 => some nand_New.c
  | 1 => some counter_Open.c
  | 2 => some law39_awake.c
  | 3 => some counter_Counter_Value.c
  | 4 => some counter_Counter_Raise.c
  | 5 => some counter_Counter_Step.c
  | _ => none
theorem law39_CounterNone.eq : evPure law39_CounterNone.calls law39_CounterNone.af = (fun x H => law39_CounterNone.on x.1 x.2.1 x.2.2.1 H) := by kernel_rfl

/-! ### tinderbox/tinderboxlaw39.CounterCuts -/
def law39_CounterCuts.af : AFun := ⟨[.agg [.int .i64, .int .i64, .int .i64], .one (.sl 3), .one (.int .i64)], [.one .bool], [.t 6],
 .seq (.reg [.op ⟨0, some 3, .box (.t 0), none⟩,
  .op ⟨1, some 6, .mv (.c (.one (.bool false))), none⟩])
 (.seq (.reg [.op ⟨0, some 17, .load (.agg [.int .i64, .int .i64, .int .i64]) (.t 3), none⟩,
  .op ⟨1, some 18, .mv (.t 1), none⟩,
  .op ⟨2, some 19, .mv (.t 1), none⟩,
  .op ⟨3, some 20, .len (.t 19), none⟩,
  .op ⟨4, some 21, .min [(.t 20), (.c (.one (.int .i64 6)))], none⟩,
  .op ⟨5, some 22, .slc 3 (.t 18) none (some (.t 21)) none, none⟩,
  .op ⟨6, some 23, .build [.sl 3 Sl.nil, .sl 1 Sl.nil, .sl 1 Sl.nil] [(0, 1, (.t 22))], none⟩,
  .op ⟨7, some 24, .call 0 [(.t 17), (.t 23)], none⟩,
  .op ⟨8, some 16, .mv (.t 24), none⟩,
  .op ⟨9, some 25, .ext (.t 16) 0, none⟩,
  .op ⟨10, some 26, .ext (.t 16) 1, none⟩,
  .op ⟨11, some 27, .ext (.t 16) 2, none⟩,
  .op ⟨12, some 7, .mv (.t 25), none⟩,
  .op ⟨13, some 8, .mv (.t 26), none⟩,
  .op ⟨14, some 9, .mv (.t 27), none⟩])
 (.seq (.seq (.reg [.op ⟨0, some 28, .call 1 [], none⟩,
  .op ⟨1, some 29, .un .not (.t 28), none⟩,
  .op ⟨2, some 30, .mv (.t 29), none⟩,
  .op ⟨3, some 31, .mv (.t 9), some (30, false)⟩,
  .op ⟨4, some 32, .un .not (.t 31), some (30, false)⟩,
  .op ⟨5, some 33, .pick (.t 30) (.c (.one (.bool true))) (.t 32), none⟩])
 (.cond (.t 33) (.seq (.reg [.op ⟨0, some 6, .mv (.c (.one (.bool false))), none⟩])
 (.ret)) (.skip)))
 (.seq (.reg [.op ⟨0, some 10, .mv (.c (.one (.int .i64 0))), none⟩])
 (.seq (.seq (.reg [.op ⟨0, some 11, .mv (.c (.one (.int .i64 0))), none⟩])
 (.block 0 (.loop [(8, .one .ptr), (10, .one (.int .i64)), (11, .one (.int .i64))] [(.exit 0, []), (.ret, [(6, .one .bool)])] (.seq (.seq (.reg [.op ⟨0, some 34, .mv (.t 11), none⟩,
  .op ⟨1, some 35, .mv (.t 2), none⟩,
  .op ⟨2, some 36, .bin .and (.t 35) (.c (.one (.int .i64 127))), none⟩,
  .op ⟨3, some 37, .bin .lss (.t 34) (.t 36), none⟩])
 (.cond (.t 37) (.skip) (.exit 0)))
 (.seq (.block 1 (.seq (.reg [.op ⟨0, some 40, .mv (.t 8), none⟩,
  .op ⟨1, some 41, .call 2 [(.t 40)], none⟩,
  .op ⟨2, some 12, .mv (.t 41), none⟩])
 (.seq (.scope [(.normal, [(10, .one (.int .i64))])] (.seq (.reg [.op ⟨0, some 42, .mv (.t 12), none⟩,
  .op ⟨1, some 43, .bin .eql (.t 42) (.c (.one (.int .i64 0))), none⟩])
 (.cond (.t 43) (.reg [.op ⟨0, some 44, .mv (.t 10), none⟩,
  .op ⟨1, some 45, .bin .add (.t 44) (.c (.one (.int .i64 1))), none⟩,
  .op ⟨2, some 10, .mv (.t 45), none⟩]) (.skip))))
 (.seq (.scope [(.normal, []), (.ret, [(6, .one .bool)])] (.seq (.reg [.op ⟨0, some 46, .mv (.t 12), none⟩,
  .op ⟨1, some 47, .bin .neq (.t 46) (.c (.one (.int .i64 0))), none⟩,
  .op ⟨2, some 48, .mv (.t 47), none⟩,
  .op ⟨3, some 49, .mv (.t 12), some (48, true)⟩,
  .op ⟨4, some 50, .bin .neq (.t 49) (.c (.one (.int .i64 51))), some (48, true)⟩,
  .op ⟨5, some 51, .pick (.t 48) (.t 50) (.c (.one (.bool false))), none⟩,
  .op ⟨6, some 52, .mv (.t 51), none⟩,
  .op ⟨7, some 53, .mv (.t 8), some (52, false)⟩,
  .op ⟨8, some 54, .call 3 [(.t 53)], some (52, false)⟩,
  .op ⟨9, some 55, .mv (.t 10), some (52, false)⟩,
  .op ⟨10, some 56, .bin .neq (.t 54) (.t 55), some (52, false)⟩,
  .op ⟨11, some 57, .pick (.t 52) (.c (.one (.bool true))) (.t 56), none⟩])
 (.cond (.t 57) (.seq (.reg [.op ⟨0, some 6, .mv (.c (.one (.bool false))), none⟩])
 (.ret)) (.skip))))
 (.seq (.seq (.reg [.op ⟨0, some 58, .mv (.t 12), none⟩,
  .op ⟨1, some 59, .bin .neq (.t 58) (.c (.one (.int .i64 51))), none⟩])
 (.cond (.t 59) (.exit 1) (.skip)))
 (.seq (.seq (.reg [.op ⟨0, some 60, .mv (.t 8), none⟩,
  .op ⟨1, some 61, .call 2 [(.t 60)], none⟩,
  .op ⟨2, some 62, .bin .neq (.t 61) (.c (.one (.int .i64 51))), none⟩])
 (.cond (.t 62) (.seq (.reg [.op ⟨0, some 6, .mv (.c (.one (.bool false))), none⟩])
 (.ret)) (.skip)))
 (.seq (.reg [.op ⟨0, some 13, .mv (.c (.one (.ptr none))), none⟩,
  .op ⟨1, some 14, .mv (.c (.one (.int .i64 51))), none⟩])
 (.seq (.seq (.reg [.op ⟨0, some 15, .mv (.c (.one (.int .i64 0))), none⟩])
 (.block 2 (.loop [(13, .one .ptr), (14, .one (.int .i64)), (15, .one (.int .i64))] [(.exit 2, [(13, .one .ptr), (14, .one (.int .i64))])] (.seq (.seq (.reg [.op ⟨0, some 63, .mv (.t 15), none⟩,
  .op ⟨1, some 64, .bin .lss (.t 63) (.c (.one (.int .i64 9))), none⟩,
  .op ⟨2, some 65, .mv (.t 64), none⟩,
  .op ⟨3, some 66, .mv (.t 14), some (65, true)⟩,
  .op ⟨4, some 67, .bin .eql (.t 66) (.c (.one (.int .i64 51))), some (65, true)⟩,
  .op ⟨5, some 68, .pick (.t 65) (.t 67) (.c (.one (.bool false))), none⟩])
 (.cond (.t 68) (.skip) (.exit 2)))
 (.seq (.block 3 (.seq (.reg [.op ⟨0, some 71, .mv (.t 7), none⟩,
  .op ⟨1, some 72, .call 4 [(.t 71)], none⟩])
 (.reg [.op ⟨0, some 74, .mv (.t 7), none⟩,
  .op ⟨1, some 75, .call 5 [(.t 74), (.c (.one (.int .i64 0))), (.c (.one (.int .i64 1)))], none⟩,
  .op ⟨2, some 73, .mv (.t 75), none⟩,
  .op ⟨3, some 76, .ext (.t 73) 0, none⟩,
  .op ⟨4, some 77, .ext (.t 73) 1, none⟩,
  .op ⟨5, some 13, .mv (.t 76), none⟩,
  .op ⟨6, some 14, .mv (.t 77), none⟩])))
 (.reg [.op ⟨0, some 69, .mv (.t 15), none⟩,
  .op ⟨1, some 70, .bin .add (.t 69) (.c (.one (.int .i64 1))), none⟩,
  .op ⟨2, some 15, .mv (.t 70), none⟩]))))))
 (.seq (.scope [(.normal, []), (.ret, [(6, .one .bool)])] (.seq (.reg [.op ⟨0, some 78, .mv (.t 14), none⟩,
  .op ⟨1, some 79, .bin .neq (.t 78) (.c (.one (.int .i64 0))), none⟩,
  .op ⟨2, some 80, .mv (.t 79), none⟩,
  .op ⟨3, some 81, .mv (.t 13), some (80, false)⟩,
  .op ⟨4, some 82, .call 3 [(.t 81)], some (80, false)⟩,
  .op ⟨5, some 83, .mv (.t 10), some (80, false)⟩,
  .op ⟨6, some 84, .bin .neq (.t 82) (.t 83), some (80, false)⟩,
  .op ⟨7, some 85, .mv (.t 84), some (80, false)⟩,
  .op ⟨8, some 86, .mv (.t 13), some (85, true)⟩,
  .op ⟨9, some 87, .call 3 [(.t 86)], some (85, true)⟩,
  .op ⟨10, some 88, .mv (.t 10), some (85, true)⟩,
  .op ⟨11, some 89, .bin .add (.t 88) (.c (.one (.int .i64 1))), some (85, true)⟩,
  .op ⟨12, some 90, .bin .neq (.t 87) (.t 89), some (85, true)⟩,
  .op ⟨13, some 91, .pick (.t 85) (.t 90) (.c (.one (.bool false))), some (80, false)⟩,
  .op ⟨14, some 92, .pick (.t 80) (.c (.one (.bool true))) (.t 91), none⟩])
 (.cond (.t 92) (.seq (.reg [.op ⟨0, some 6, .mv (.c (.one (.bool false))), none⟩])
 (.ret)) (.skip))))
 (.reg [.op ⟨0, some 93, .mv (.t 13), none⟩,
  .op ⟨1, some 94, .mv (.t 13), none⟩,
  .op ⟨2, some 95, .call 3 [(.t 94)], none⟩,
  .op ⟨3, some 8, .mv (.t 93), none⟩,
  .op ⟨4, some 10, .mv (.t 95), none⟩]))))))))))
 (.reg [.op ⟨0, some 38, .mv (.t 11), none⟩,
  .op ⟨1, some 39, .bin .add (.t 38) (.c (.one (.int .i64 1))), none⟩,
  .op ⟨2, some 11, .mv (.t 39), none⟩]))))))
 (.seq (.reg [.op ⟨0, some 6, .mv (.c (.one (.bool true))), none⟩])
 (.ret))))))⟩
noncomputable def law39_CounterCuts.s1 (r4 : ((Ptr × Ptr × Bool × Unit) × Heap)) (s15 : (Ptr × Int × Int × Unit)) (H16 : Heap) : Option (((Ptr × Int × Int × Unit) ⊕ (Ptr × Int × Unit)) × Heap) :=
 cond (decide (s15.2.2.1 < 9)) (
 cond (decide (s15.2.1 = 51)) (
 (nand_Chip_Power r4.1.1 H16).bind fun (r17 : ((Unit) × Heap)) =>
 (counter_Open r4.1.1 0 1 r17.2).bind fun (r18 : ((Ptr × Int × Unit) × Heap)) =>
 some (Sum.inl (r18.1.1, r18.1.2.1, (IntKind.wrap .i64 (s15.2.2.1 + 1)), ()), r18.2)) (
 some (Sum.inr (s15.1, s15.2.1, ()), H16))) (
 some (Sum.inr (s15.1, s15.2.1, ()), H16))
noncomputable def law39_CounterCuts.s2 (x2 : Int) (r4 : ((Ptr × Ptr × Bool × Unit) × Heap)) (s6 : (Ptr × Int × Int × Unit)) (H7 : Heap) : Option (((Ptr × Int × Int × Unit) ⊕ ((Unit) ⊕ (Bool × Unit))) × Heap) :=
 cond (decide (s6.2.2.1 < (bitsI .and .i64 x2 127))) (
 (counter_Counter_Step s6.1 H7).bind fun (r8 : ((Int × Unit) × Heap)) =>
 (cond (decide (r8.1.1 = 0)) (
 some (((IntKind.wrap .i64 (s6.2.1 + 1)), ()), r8.2)) (
 some ((s6.2.1, ()), r8.2)) : Option ((Int × Unit) × Heap)).bind fun (p9 : (Int × Unit) × Heap) =>
 (cond (!decide (r8.1.1 = 0)) (
 cond (!decide (r8.1.1 = 51)) (
 some (Sum.inr (false, ()), p9.2)) (
 (counter_Counter_Value s6.1 p9.2).bind fun (r10 : ((Int × Unit) × Heap)) =>
 cond (!decide (r10.1.1 = p9.1.1)) (
 some (Sum.inr (false, ()), r10.2)) (
 some (Sum.inl (()), r10.2)))) (
 (counter_Counter_Value s6.1 p9.2).bind fun (r11 : ((Int × Unit) × Heap)) =>
 cond (!decide (r11.1.1 = p9.1.1)) (
 some (Sum.inr (false, ()), r11.2)) (
 some (Sum.inl (()), r11.2))) : Option (((Unit) ⊕ (Bool × Unit)) × Heap)).bind fun (p12 : ((Unit) ⊕ (Bool × Unit)) × Heap) =>
 Sum.elim (fun (y13 : (Unit)) =>
 cond (!decide (r8.1.1 = 51)) (
 some (Sum.inl (s6.1, p9.1.1, (IntKind.wrap .i64 (s6.2.2.1 + 1)), ()), p12.2)) (
 (counter_Counter_Step s6.1 p12.2).bind fun (r14 : ((Int × Unit) × Heap)) =>
 cond (!decide (r14.1.1 = 51)) (
 some (Sum.inr (Sum.inr (false, ())), r14.2)) (
 (loopW (law39_CounterCuts.s1 r4) (none, 51, 0, ()) r14.2).bind fun (p19 : (Ptr × Int × Unit) × Heap) =>
 (cond (!decide (p19.1.2.1 = 0)) (
 some (Sum.inr (false, ()), p19.2)) (
 (counter_Counter_Value p19.1.1 p19.2).bind fun (r20 : ((Int × Unit) × Heap)) =>
 cond (!decide (r20.1.1 = p9.1.1)) (
 (counter_Counter_Value p19.1.1 r20.2).bind fun (r21 : ((Int × Unit) × Heap)) =>
 cond (!decide (r21.1.1 = (IntKind.wrap .i64 (p9.1.1 + 1)))) (
 some (Sum.inr (false, ()), r21.2)) (
 some (Sum.inl (()), r21.2))) (
 some (Sum.inl (()), r20.2))) : Option (((Unit) ⊕ (Bool × Unit)) × Heap)).bind fun (p22 : ((Unit) ⊕ (Bool × Unit)) × Heap) =>
 Sum.elim (fun (y23 : (Unit)) =>
 (counter_Counter_Value p19.1.1 p22.2).bind fun (r24 : ((Int × Unit) × Heap)) =>
 some (Sum.inl (p19.1.1, r24.1.1, (IntKind.wrap .i64 (s6.2.2.1 + 1)), ()), r24.2)) (fun (z25 : (Bool × Unit)) =>
 some (Sum.inr (Sum.inr (z25.1, ())), p22.2)) p22.1))) (fun (z26 : (Bool × Unit)) =>
 some (Sum.inr (Sum.inr (z26.1, ())), p12.2)) p12.1) (
 some (Sum.inr (Sum.inl (())), H7))
noncomputable def law39_CounterCuts (x0 : (Int × Int × Int × Unit)) (x1 : Sl) (x2 : Int) (H : Heap) : Option ((Bool × Unit) × Heap) :=
 let H1 : Heap := H ++ [Blk.cells [.int .i64 x0.1, .int .i64 x0.2.1, .int .i64 x0.2.2.1] .exact]
 Option.bind (α := (Int × Int × Int × Unit)) (rd H1 (.agg [.int .i64, .int .i64, .int .i64]) H.length 0) fun (v2 : (Int × Int × Int × Unit)) =>
 (Sl.sub 3 x1 0 (if 6 < (x1.len : Int) then 6 else (x1.len : Int)) (x1.cap : Int)).bind fun (t3 : Sl) =>
 (law39_begun (v2.1, v2.2.1, v2.2.2.1, ()) (t3, ⟨none, 0, 0⟩, ⟨none, 0, 0⟩, ()) H1).bind fun (r4 : ((Ptr × Ptr × Bool × Unit) × Heap)) =>
 (law39_awake).bind fun (r5 : (Bool × Unit)) =>
 cond (!r5.1) (
 some ((false, ()), r4.2)) (
 cond (!r4.1.2.2.1) (
 some ((false, ()), r4.2)) (
 (loopW (law39_CounterCuts.s2 x2 r4) (r4.1.2.1, 0, 0, ()) r4.2).bind fun (p27 : ((Unit) ⊕ (Bool × Unit)) × Heap) =>
 Sum.elim (fun (y28 : (Unit)) =>
 some ((true, ()), p27.2)) (fun (z29 : (Bool × Unit)) =>
 some ((z29.1, ()), p27.2)) p27.1))
noncomputable def law39_CounterCuts.c : Callee := .full [.agg [.int .i64, .int .i64, .int .i64], .one (.sl 3), .one (.int .i64)] [.one .bool] (fun x H => law39_CounterCuts x.1 x.2.1 x.2.2.1 H)
noncomputable def law39_CounterCuts.calls : Nat → Option Callee
  | 0 => some law39_begun.c
  | 1 => some law39_awake.c
  | 2 => some counter_Counter_Step.c
  | 3 => some counter_Counter_Value.c
  | 4 => some nand_Chip_Power.c
  | 5 => some counter_Open.c
  | _ => none
theorem law39_CounterCuts.eq : evFull law39_CounterCuts.calls law39_CounterCuts.af = (fun x H => law39_CounterCuts x.1 x.2.1 x.2.2.1 H) := by kernel_rfl

/-! ### tinderbox/tinderboxlaw39.CounterTurns -/
def law39_CounterTurns.af : AFun := ⟨[.agg [.int .i64, .int .i64, .int .i64], .one (.int .i64)], [.one .bool], [.t 4],
 .seq (.reg [.op ⟨0, some 2, .box (.t 0), none⟩,
  .op ⟨1, some 4, .mv (.c (.one (.bool false))), none⟩])
 (.seq (.reg [.op ⟨0, some 12, .load (.agg [.int .i64, .int .i64, .int .i64]) (.t 2), none⟩,
  .op ⟨1, some 13, .build [.sl 3 Sl.nil, .sl 1 Sl.nil, .sl 1 Sl.nil] [], none⟩,
  .op ⟨2, some 14, .call 0 [(.t 12), (.t 13)], none⟩,
  .op ⟨3, some 11, .mv (.t 14), none⟩,
  .op ⟨4, some 15, .ext (.t 11) 0, none⟩,
  .op ⟨5, some 16, .ext (.t 11) 1, none⟩,
  .op ⟨6, some 17, .ext (.t 11) 2, none⟩,
  .op ⟨7, some 5, .mv (.t 15), none⟩,
  .op ⟨8, some 6, .mv (.t 16), none⟩,
  .op ⟨9, some 7, .mv (.t 17), none⟩])
 (.seq (.seq (.reg [.op ⟨0, some 18, .call 1 [], none⟩,
  .op ⟨1, some 19, .un .not (.t 18), none⟩,
  .op ⟨2, some 20, .mv (.t 19), none⟩,
  .op ⟨3, some 21, .mv (.t 7), some (20, false)⟩,
  .op ⟨4, some 22, .un .not (.t 21), some (20, false)⟩,
  .op ⟨5, some 23, .pick (.t 20) (.c (.one (.bool true))) (.t 22), none⟩])
 (.cond (.t 23) (.seq (.reg [.op ⟨0, some 4, .mv (.c (.one (.bool false))), none⟩])
 (.ret)) (.skip)))
 (.seq (.seq (.reg [.op ⟨0, some 8, .mv (.c (.one (.int .i64 1))), none⟩])
 (.block 0 (.loop [(8, .one (.int .i64))] [(.exit 0, []), (.ret, [(4, .one .bool)])] (.seq (.seq (.reg [.op ⟨0, some 24, .mv (.t 8), none⟩,
  .op ⟨1, some 25, .mv (.t 1), none⟩,
  .op ⟨2, some 26, .bin .and (.t 25) (.c (.one (.int .i64 255))), none⟩,
  .op ⟨3, some 27, .bin .leq (.t 24) (.t 26), none⟩])
 (.cond (.t 27) (.skip) (.exit 0)))
 (.seq (.block 1 (.seq (.reg [.op ⟨0, some 30, .mv (.t 6), none⟩,
  .op ⟨1, some 31, .call 2 [(.t 30)], none⟩,
  .op ⟨2, some 32, .bin .neq (.t 31) (.c (.one (.int .i64 0))), none⟩,
  .op ⟨3, some 33, .mv (.t 32), none⟩,
  .op ⟨4, some 34, .mv (.t 6), some (33, false)⟩,
  .op ⟨5, some 35, .call 3 [(.t 34)], some (33, false)⟩,
  .op ⟨6, some 36, .mv (.t 8), some (33, false)⟩,
  .op ⟨7, some 37, .bin .neq (.t 35) (.t 36), some (33, false)⟩,
  .op ⟨8, some 38, .pick (.t 33) (.c (.one (.bool true))) (.t 37), none⟩])
 (.cond (.t 38) (.seq (.reg [.op ⟨0, some 4, .mv (.c (.one (.bool false))), none⟩])
 (.ret)) (.skip))))
 (.reg [.op ⟨0, some 28, .mv (.t 8), none⟩,
  .op ⟨1, some 29, .bin .add (.t 28) (.c (.one (.int .i64 1))), none⟩,
  .op ⟨2, some 8, .mv (.t 29), none⟩]))))))
 (.seq (.reg [.op ⟨0, some 39, .mv (.t 5), none⟩,
  .op ⟨1, some 40, .call 4 [(.t 39)], none⟩,
  .op ⟨2, some 9, .mv (.t 40), none⟩])
 (.seq (.reg [.op ⟨0, some 41, .mv (.t 9), none⟩,
  .op ⟨1, some 42, .idxa 1 (.t 41) (.c (.one (.int .i64 0))), none⟩,
  .op ⟨2, some 43, .load (.one (.int .i64)) (.t 42), none⟩,
  .op ⟨3, some 44, .mv (.t 9), none⟩,
  .op ⟨4, some 45, .idxa 1 (.t 44) (.c (.one (.int .i64 1))), none⟩,
  .op ⟨5, some 46, .load (.one (.int .i64)) (.t 45), none⟩,
  .op ⟨6, some 47, .bin .sub (.t 43) (.t 46), none⟩,
  .op ⟨7, some 10, .mv (.t 47), none⟩])
 (.seq (.reg [.op ⟨0, some 48, .mv (.t 10), none⟩,
  .op ⟨1, some 49, .bin .geq (.t 48) (.c (.one (.int .i64 (-1)))), none⟩,
  .op ⟨2, some 50, .mv (.t 49), none⟩,
  .op ⟨3, some 51, .mv (.t 10), some (50, true)⟩,
  .op ⟨4, some 52, .bin .leq (.t 51) (.c (.one (.int .i64 1))), some (50, true)⟩,
  .op ⟨5, some 53, .pick (.t 50) (.t 52) (.c (.one (.bool false))), none⟩,
  .op ⟨6, some 54, .mv (.t 53), none⟩,
  .op ⟨7, some 55, .mv (.t 9), some (54, true)⟩,
  .op ⟨8, some 56, .idxa 1 (.t 55) (.c (.one (.int .i64 0))), some (54, true)⟩,
  .op ⟨9, some 57, .load (.one (.int .i64)) (.t 56), some (54, true)⟩,
  .op ⟨10, some 58, .mv (.t 9), some (54, true)⟩,
  .op ⟨11, some 59, .idxa 1 (.t 58) (.c (.one (.int .i64 1))), some (54, true)⟩,
  .op ⟨12, some 60, .load (.one (.int .i64)) (.t 59), some (54, true)⟩,
  .op ⟨13, some 61, .bin .add (.t 57) (.t 60), some (54, true)⟩,
  .op ⟨14, some 62, .bin .sub (.t 61) (.c (.one (.int .i64 2))), some (54, true)⟩,
  .op ⟨15, some 63, .mv (.t 5), some (54, true)⟩,
  .op ⟨19, some 67, .mv (.t 1), some (54, true)⟩,
  .op ⟨20, some 68, .bin .and (.t 67) (.c (.one (.int .i64 255))), some (54, true)⟩,
  .op ⟨16, some 64, .call 5 [(.t 63)], some (54, true)⟩,
  .op ⟨17, some 65, .field (.one (.int .i64)) 1 (.t 64), some (54, true)⟩,
  .op ⟨18, some 66, .bin .mul (.t 62) (.t 65), some (54, true)⟩,
  .op ⟨21, some 69, .bin .leq (.t 66) (.t 68), some (54, true)⟩,
  .op ⟨22, some 70, .pick (.t 54) (.t 69) (.c (.one (.bool false))), none⟩,
  .op ⟨23, some 4, .mv (.t 70), none⟩,
  .again ⟨9, some 57, .load (.one (.int .i64)) (.t 56), some (54, true)⟩,
  .again ⟨12, some 60, .load (.one (.int .i64)) (.t 59), some (54, true)⟩])
 (.ret)))))))⟩
noncomputable def law39_CounterTurns.s1 (x1 : Int) (r3 : ((Ptr × Ptr × Bool × Unit) × Heap)) (s5 : (Int × Unit)) (H6 : Heap) : Option (((Int × Unit) ⊕ ((Unit) ⊕ (Bool × Unit))) × Heap) :=
 cond (decide (s5.1 ≤ (bitsI .and .i64 x1 255))) (
 (counter_Counter_Step r3.1.2.1 H6).bind fun (r7 : ((Int × Unit) × Heap)) =>
 cond (!decide (r7.1.1 = 0)) (
 some (Sum.inr (Sum.inr (false, ())), r7.2)) (
 (counter_Counter_Value r3.1.2.1 r7.2).bind fun (r8 : ((Int × Unit) × Heap)) =>
 cond (!decide (r8.1.1 = s5.1)) (
 some (Sum.inr (Sum.inr (false, ())), r8.2)) (
 some (Sum.inl ((IntKind.wrap .i64 (s5.1 + 1)), ()), r8.2)))) (
 some (Sum.inr (Sum.inl (())), H6))
noncomputable def law39_CounterTurns.on (x0 : (Int × Int × Int × Unit)) (x1 : Int) (H : Heap) : Option (Bool × Unit) :=
 let H1 : Heap := H ++ [Blk.cells [.int .i64 x0.1, .int .i64 x0.2.1, .int .i64 x0.2.2.1] .exact]
 Option.bind (α := (Int × Int × Int × Unit)) (rd H1 (.agg [.int .i64, .int .i64, .int .i64]) H.length 0) fun (v2 : (Int × Int × Int × Unit)) =>
 (law39_begun (v2.1, v2.2.1, v2.2.2.1, ()) (⟨none, 0, 0⟩, ⟨none, 0, 0⟩, ⟨none, 0, 0⟩, ()) H1).bind fun (r3 : ((Ptr × Ptr × Bool × Unit) × Heap)) =>
 (law39_awake).bind fun (r4 : (Bool × Unit)) =>
 cond (!r4.1) (
 some (false, ())) (
 cond (!r3.1.2.2.1) (
 some (false, ())) (
 (loopW (law39_CounterTurns.s1 x1 r3) (1, ()) r3.2).bind fun (p9 : ((Unit) ⊕ (Bool × Unit)) × Heap) =>
 Sum.elim (fun (y10 : (Unit)) =>
 (nand_Chip_Worn r3.1.1 p9.2).bind fun (r11 : ((Sl × Unit) × Heap)) =>
 (Sl.at 1 r11.1.1 0).bind fun (a12 : (Nat × Nat)) =>
 (rdI .i64 r11.2 a12.1 a12.2).bind fun (v13 : Int) =>
 (Sl.at 1 r11.1.1 1).bind fun (a14 : (Nat × Nat)) =>
 (rdI .i64 r11.2 a14.1 a14.2).bind fun (v15 : Int) =>
 cond (decide ((-1) ≤ (IntKind.wrap .i64 (v13 - v15)))) (
 cond (decide ((IntKind.wrap .i64 (v13 - v15)) ≤ 1)) (
 (Sl.at 1 r11.1.1 0).bind fun (a16 : (Nat × Nat)) =>
 (rdI .i64 r11.2 a16.1 a16.2).bind fun (v17 : Int) =>
 (Sl.at 1 r11.1.1 1).bind fun (a18 : (Nat × Nat)) =>
 (rdI .i64 r11.2 a18.1 a18.2).bind fun (v19 : Int) =>
 (nand_Chip_Geometry r3.1.1 r11.2).bind fun (r20 : (((Int × Int × Int × Unit) × Unit) × Heap)) =>
 (rdI .i64 r20.2 a16.1 a16.2).bind fun (v21 : Int) =>
 if V.w (.one (.int .i64 v21)) = V.w (.one (.int .i64 v17)) then
 (rdI .i64 r20.2 a18.1 a18.2).bind fun (v22 : Int) =>
 if V.w (.one (.int .i64 v22)) = V.w (.one (.int .i64 v19)) then
 some ((decide ((IntKind.wrap .i64 ((IntKind.wrap .i64 ((IntKind.wrap .i64 (v17 + v19)) - 2)) * r20.1.1.2.1)) ≤ (bitsI .and .i64 x1 255))), ())
 else none
 else none) (
 some (false, ()))) (
 some (false, ()))) (fun (z23 : (Bool × Unit)) =>
 some (z23.1, ())) p9.1))
noncomputable def law39_CounterTurns (x0 : (Int × Int × Int × Unit)) (x1 : Int) : Option (Bool × Unit) := law39_CounterTurns.on x0 x1 []
noncomputable def law39_CounterTurns.c : Callee := .pure [.agg [.int .i64, .int .i64, .int .i64], .one (.int .i64)] [.one .bool] (fun x => law39_CounterTurns x.1 x.2.1)
noncomputable def law39_CounterTurns.calls : Nat → Option Callee
  | 0 => some law39_begun.c
  | 1 => some law39_awake.c
  | 2 => some counter_Counter_Step.c
  | 3 => some counter_Counter_Value.c
  | 4 => some nand_Chip_Worn.c
  | 5 => some nand_Chip_Geometry.c
  | _ => none
theorem law39_CounterTurns.eq : evPure law39_CounterTurns.calls law39_CounterTurns.af = (fun x H => law39_CounterTurns.on x.1 x.2.1 H) := by kernel_rfl
end Ev
