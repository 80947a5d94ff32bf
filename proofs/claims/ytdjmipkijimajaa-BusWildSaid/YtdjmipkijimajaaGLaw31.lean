/- What the functions of the package Law31 compute: abstract code, and a function of plain Lean for each; the kernel checks that they are the same. Written by gen2.py. -/
import Derived.Test.YtdjmipkijimajaaEvCore
import Derived.Test.YtdjmipkijimajaaGBus
import Derived.Test.YtdjmipkijimajaaGLaw05
import Derived.Test.YtdjmipkijimajaaGNand
import Derived.Test.YtdjmipkijimajaaGRef31
import Derived.KernelRfl
set_option linter.unusedVariables false
set_option maxRecDepth 100000
namespace Ev
open Go (IntKind BinOp UnOp)

/-! ### tinderbox/tinderboxlaw31.begun -/
def law31_begun.af : AFun := ⟨[.agg [.int .i64, .int .i64, .int .i64], .agg [.sl 3, .sl 1, .sl 1]], [.one .ptr, .one .ptr, .one .bool], [.t 4, .t 5, .t 6],
 .seq (.reg [.op ⟨0, some 2, .box (.t 0), none⟩,
  .op ⟨1, some 3, .box (.t 1), none⟩,
  .op ⟨2, some 4, .mv (.c (.one (.ptr none))), none⟩,
  .op ⟨3, some 5, .mv (.c (.one (.ptr none))), none⟩,
  .op ⟨4, some 6, .mv (.c (.one (.bool false))), none⟩])
 (.seq (.reg [.op ⟨0, some 12, .load (.agg [.int .i64, .int .i64, .int .i64]) (.t 2), none⟩,
  .op ⟨2, some 14, .addr 0 (.t 3), none⟩,
  .op ⟨3, some 15, .load (.one (.sl 3)) (.t 14), none⟩,
  .op ⟨4, some 16, .addr 0 (.t 3), none⟩,
  .op ⟨5, some 17, .load (.one (.sl 3)) (.t 16), none⟩,
  .op ⟨6, some 18, .len (.t 17), none⟩,
  .op ⟨7, some 19, .min [(.t 18), (.c (.one (.int .i64 4)))], none⟩,
  .op ⟨8, some 20, .slc 3 (.t 15) none (some (.t 19)) none, none⟩,
  .op ⟨9, some 21, .addr 1 (.t 3), none⟩,
  .op ⟨10, some 22, .load (.one (.sl 1)) (.t 21), none⟩,
  .op ⟨11, some 23, .addr 1 (.t 3), none⟩,
  .op ⟨12, some 24, .load (.one (.sl 1)) (.t 23), none⟩,
  .op ⟨13, some 25, .len (.t 24), none⟩,
  .op ⟨14, some 26, .min [(.t 25), (.c (.one (.int .i64 4)))], none⟩,
  .op ⟨15, some 27, .slc 1 (.t 22) none (some (.t 26)) none, none⟩,
  .op ⟨16, some 28, .addr 2 (.t 3), none⟩,
  .op ⟨17, some 29, .load (.one (.sl 1)) (.t 28), none⟩,
  .op ⟨18, some 30, .addr 2 (.t 3), none⟩,
  .op ⟨19, some 31, .load (.one (.sl 1)) (.t 30), none⟩,
  .op ⟨20, some 32, .len (.t 31), none⟩,
  .op ⟨21, some 33, .min [(.t 32), (.c (.one (.int .i64 4)))], none⟩,
  .op ⟨22, some 34, .slc 1 (.t 29) none (some (.t 33)) none, none⟩,
  .op ⟨23, some 35, .build [.sl 3 Sl.nil, .sl 1 Sl.nil, .sl 1 Sl.nil] [(0, 1, (.t 20)), (1, 1, (.t 27)), (2, 1, (.t 34))], none⟩,
  .op ⟨1, some 13, .call 0 [(.t 12)], none⟩,
  .again ⟨3, some 15, .load (.one (.sl 3)) (.t 14), none⟩,
  .again ⟨5, some 17, .load (.one (.sl 3)) (.t 16), none⟩,
  .again ⟨10, some 22, .load (.one (.sl 1)) (.t 21), none⟩,
  .again ⟨12, some 24, .load (.one (.sl 1)) (.t 23), none⟩,
  .again ⟨17, some 29, .load (.one (.sl 1)) (.t 28), none⟩,
  .again ⟨19, some 31, .load (.one (.sl 1)) (.t 30), none⟩,
  .op ⟨24, some 36, .call 1 [(.t 13), (.t 35)], none⟩,
  .op ⟨25, some 11, .mv (.t 36), none⟩,
  .op ⟨26, some 37, .ext (.t 11) 0, none⟩,
  .op ⟨27, some 38, .ext (.t 11) 1, none⟩,
  .op ⟨28, some 7, .mv (.t 37), none⟩,
  .op ⟨29, some 8, .mv (.t 38), none⟩])
 (.seq (.reg [.op ⟨0, some 40, .mv (.t 7), none⟩,
  .op ⟨1, some 41, .call 2 [(.t 40)], none⟩,
  .op ⟨2, some 39, .mv (.t 41), none⟩,
  .op ⟨3, some 42, .ext (.t 39) 0, none⟩,
  .op ⟨4, some 43, .ext (.t 39) 1, none⟩,
  .op ⟨5, some 9, .mv (.t 42), none⟩,
  .op ⟨6, some 10, .mv (.t 43), none⟩])
 (.seq (.reg [.op ⟨0, some 44, .mv (.t 7), none⟩,
  .op ⟨1, some 45, .mv (.t 9), none⟩,
  .op ⟨2, some 46, .mv (.t 8), none⟩,
  .op ⟨3, some 47, .bin .eql (.t 46) (.c (.one (.int .i64 0))), none⟩,
  .op ⟨4, some 48, .mv (.t 47), none⟩,
  .op ⟨5, some 49, .mv (.t 10), some (48, true)⟩,
  .op ⟨6, some 50, .bin .eql (.t 49) (.c (.one (.int .i64 0))), some (48, true)⟩,
  .op ⟨7, some 51, .pick (.t 48) (.t 50) (.c (.one (.bool false))), none⟩,
  .op ⟨8, some 4, .mv (.t 44), none⟩,
  .op ⟨9, some 5, .mv (.t 45), none⟩,
  .op ⟨10, some 6, .mv (.t 51), none⟩])
 (.ret))))⟩
noncomputable def law31_begun (x0 : (Int × Int × Int × Unit)) (x1 : (Sl × Sl × Sl × Unit)) (H : Heap) : Option ((Ptr × Ptr × Bool × Unit) × Heap) :=
 let H1 : Heap := H ++ [Blk.cells [.int .i64 x0.1, .int .i64 x0.2.1, .int .i64 x0.2.2.1] .exact]
 let H2 : Heap := H1 ++ [Blk.cells [.sl 3 x1.1, .sl 1 x1.2.1, .sl 1 x1.2.2.1] .exact]
 Option.bind (α := (Int × Int × Int × Unit)) (rd H2 (.agg [.int .i64, .int .i64, .int .i64]) H.length 0) fun (v3 : (Int × Int × Int × Unit)) =>
 (rdSl 3 H2 H1.length 0).bind fun (v4 : Sl) =>
 (rdSl 3 H2 H1.length 0).bind fun (v5 : Sl) =>
 (Sl.sub 3 v4 0 (if 4 < (v5.len : Int) then 4 else (v5.len : Int)) (v4.cap : Int)).bind fun (t6 : Sl) =>
 (rdSl 1 H2 H1.length 1).bind fun (v7 : Sl) =>
 (rdSl 1 H2 H1.length 1).bind fun (v8 : Sl) =>
 (Sl.sub 1 v7 0 (if 4 < (v8.len : Int) then 4 else (v8.len : Int)) (v7.cap : Int)).bind fun (t9 : Sl) =>
 (rdSl 1 H2 H1.length 2).bind fun (v10 : Sl) =>
 (rdSl 1 H2 H1.length 2).bind fun (v11 : Sl) =>
 (Sl.sub 1 v10 0 (if 4 < (v11.len : Int) then 4 else (v11.len : Int)) (v10.cap : Int)).bind fun (t12 : Sl) =>
 (law05_Geometry (v3.1, v3.2.1, v3.2.2.1, ()) H2).bind fun (r13 : (((Int × Int × Int × Unit) × Unit) × Heap)) =>
 (rdSl 3 r13.2 H1.length 0).bind fun (v14 : Sl) =>
 if V.w (.one (.sl 3 v14)) = V.w (.one (.sl 3 v4)) then
 (rdSl 3 r13.2 H1.length 0).bind fun (v15 : Sl) =>
 if V.w (.one (.sl 3 v15)) = V.w (.one (.sl 3 v5)) then
 (rdSl 1 r13.2 H1.length 1).bind fun (v16 : Sl) =>
 if V.w (.one (.sl 1 v16)) = V.w (.one (.sl 1 v7)) then
 (rdSl 1 r13.2 H1.length 1).bind fun (v17 : Sl) =>
 if V.w (.one (.sl 1 v17)) = V.w (.one (.sl 1 v8)) then
 (rdSl 1 r13.2 H1.length 2).bind fun (v18 : Sl) =>
 if V.w (.one (.sl 1 v18)) = V.w (.one (.sl 1 v10)) then
 (rdSl 1 r13.2 H1.length 2).bind fun (v19 : Sl) =>
 if V.w (.one (.sl 1 v19)) = V.w (.one (.sl 1 v11)) then
 (nand_New (r13.1.1.1, r13.1.1.2.1, r13.1.1.2.2.1, ()) (t6, t9, t12, ()) r13.2).bind fun (r20 : ((Ptr × Int × Unit) × Heap)) =>
 (bus_New r20.1.1 r20.2).bind fun (r21 : ((Ptr × Int × Unit) × Heap)) =>
 cond (decide (r20.1.2.1 = 0)) (
 some ((r20.1.1, r21.1.1, (decide (r21.1.2.1 = 0)), ()), r21.2)) (
 some ((r20.1.1, r21.1.1, false, ()), r21.2))
 else none
 else none
 else none
 else none
 else none
 else none
noncomputable def law31_begun.c : Callee := .full [.agg [.int .i64, .int .i64, .int .i64], .agg [.sl 3, .sl 1, .sl 1]] [.one .ptr, .one .ptr, .one .bool] (fun x H => law31_begun x.1 x.2.1 H)
noncomputable def law31_begun.calls : Nat → Option Callee
  | 0 => some law05_Geometry.c
  | 1 => some nand_New.c
  | 2 => some bus_New.c
  | _ => none
theorem law31_begun.eq : evFull law31_begun.calls law31_begun.af = (fun x H => law31_begun x.1 x.2.1 H) := by kernel_rfl

/-! ### tinderbox/tinderboxlaw31.take -/
def law31_take.af : AFun := ⟨[.one .ptr, .one (.int .i64)], [.one .str], [.t 4],
 .seq (.reg [.op ⟨0, some 4, .mv (.c (.one (.str []))), none⟩])
 (.seq (.reg [.op ⟨0, some 7, .mv (.t 1), none⟩,
  .op ⟨1, some 8, .mk 1 1 [.int .u8 0] (.t 7) (.t 7), none⟩,
  .op ⟨2, some 5, .mv (.t 8), none⟩])
 (.seq (.seq (.reg [.op ⟨0, some 6, .mv (.c (.one (.int .i64 0))), none⟩])
 (.block 0 (.loop [(6, .one (.int .i64))] [(.exit 0, [])] (.seq (.seq (.reg [.op ⟨0, some 9, .mv (.t 6), none⟩,
  .op ⟨1, some 10, .mv (.t 1), none⟩,
  .op ⟨2, some 11, .bin .lss (.t 9) (.t 10), none⟩])
 (.cond (.t 11) (.skip) (.exit 0)))
 (.seq (.block 1 (.reg [.op ⟨0, some 14, .mv (.t 5), none⟩,
  .op ⟨1, some 15, .mv (.t 6), none⟩,
  .op ⟨2, some 16, .mv (.t 0), none⟩,
  .op ⟨3, some 17, .call 0 [(.t 16)], none⟩,
  .op ⟨4, some 18, .idxa 1 (.t 14) (.t 15), none⟩,
  .op ⟨5, none, .store 1 (.t 18) (.t 17), none⟩]))
 (.reg [.op ⟨0, some 12, .mv (.t 6), none⟩,
  .op ⟨1, some 13, .bin .add (.t 12) (.c (.one (.int .i64 1))), none⟩,
  .op ⟨2, some 6, .mv (.t 13), none⟩]))))))
 (.seq (.reg [.op ⟨0, some 19, .mv (.t 5), none⟩,
  .op ⟨1, some 20, .b2s (.t 19), none⟩,
  .op ⟨2, some 4, .mv (.t 20), none⟩])
 (.ret))))⟩
noncomputable def law31_take.s1 (x0 : Ptr) (x1 : Int) (p1 : (Sl × Heap)) (s2 : (Int × Unit)) (H3 : Heap) : Option (((Int × Unit) ⊕ (Unit)) × Heap) :=
 cond (decide (s2.1 < x1)) (
 (bus_Bus_Out x0 H3).bind fun (r4 : ((Int × Unit) × Heap)) =>
 (Sl.at 1 p1.1 s2.1).bind fun (a5 : (Nat × Nat)) =>
 (wr r4.2 a5.1 a5.2 [.int .u8 r4.1.1]).bind fun (H6 : Heap) =>
 some (Sum.inl ((IntKind.wrap .i64 (s2.1 + 1)), ()), H6)) (
 some (Sum.inr (()), H3))
noncomputable def law31_take (x0 : Ptr) (x1 : Int) (H : Heap) : Option ((Bytes × Unit) × Heap) :=
 (mkS H 1 [.int .u8 0] x1 x1).bind fun (p1 : (Sl × Heap)) =>
 (loopW (law31_take.s1 x0 x1 p1) (0, ()) p1.2).bind fun (p7 : (Unit) × Heap) =>
 (strOf p7.2 p1.1).bind fun (s8 : Bytes) =>
 some ((s8, ()), p7.2)
noncomputable def law31_take.c : Callee := .full [.one .ptr, .one (.int .i64)] [.one .str] (fun x H => law31_take x.1 x.2.1 H)
noncomputable def law31_take.calls : Nat → Option Callee
  | 0 => some bus_Bus_Out.c
  | _ => none
theorem law31_take.eq : evFull law31_take.calls law31_take.af = (fun x H => law31_take x.1 x.2.1 H) := by kernel_rfl

/-! ### tinderbox/tinderboxlaw31.awake -/
def law31_awake.af : AFun := ⟨[], [.one .bool], [.t 0],
 .seq (.reg [.op ⟨0, some 0, .mv (.c (.one (.bool false))), none⟩])
 (.seq (.reg [.op ⟨0, some 5, .build [.int .i64 0, .int .i64 0, .int .i64 0] [], none⟩,
  .op ⟨1, some 6, .build [.sl 3 Sl.nil, .sl 1 Sl.nil, .sl 1 Sl.nil] [], none⟩,
  .op ⟨2, some 7, .call 0 [(.t 5), (.t 6)], none⟩,
  .op ⟨3, some 4, .mv (.t 7), none⟩,
  .op ⟨4, some 8, .ext (.t 4) 0, none⟩,
  .op ⟨5, some 9, .ext (.t 4) 1, none⟩,
  .op ⟨6, some 10, .ext (.t 4) 2, none⟩,
  .op ⟨7, some 1, .mv (.t 8), none⟩,
  .op ⟨8, some 2, .mv (.t 9), none⟩,
  .op ⟨9, some 3, .mv (.t 10), none⟩])
 (.seq (.seq (.reg [.op ⟨0, some 11, .mv (.t 3), none⟩,
  .op ⟨1, some 12, .un .not (.t 11), none⟩])
 (.cond (.t 12) (.seq (.reg [.op ⟨0, some 0, .mv (.c (.one (.bool false))), none⟩])
 (.ret)) (.skip)))
 (.seq (.reg [.op ⟨0, some 13, .mv (.t 2), none⟩,
  .op ⟨1, some 14, .call 1 [(.t 13), (.c (.one (.int .u8 144)))], none⟩])
 (.seq (.reg [.op ⟨0, some 15, .mv (.t 2), none⟩,
  .op ⟨1, some 16, .call 2 [(.t 15), (.c (.one (.int .u8 0)))], none⟩])
 (.seq (.reg [.op ⟨0, some 17, .mv (.t 2), none⟩,
  .op ⟨1, some 18, .call 3 [(.t 17), (.c (.one (.int .i64 4)))], none⟩,
  .op ⟨2, some 19, .bin .eql (.t 18) (.c (.one (.str [84, 66, 1, 255]))), none⟩,
  .op ⟨3, some 20, .mv (.t 19), none⟩,
  .op ⟨4, some 21, .mv (.t 2), some (20, true)⟩,
  .op ⟨5, some 22, .call 4 [(.t 21)], some (20, true)⟩,
  .op ⟨6, some 23, .bin .eql (.t 22) (.c (.one (.int .i64 0))), some (20, true)⟩,
  .op ⟨7, some 24, .pick (.t 20) (.t 23) (.c (.one (.bool false))), none⟩,
  .op ⟨8, some 0, .mv (.t 24), none⟩])
 (.ret))))))⟩
noncomputable def law31_awake.on (H : Heap) : Option (Bool × Unit) :=
 (law31_begun (0, 0, 0, ()) (⟨none, 0, 0⟩, ⟨none, 0, 0⟩, ⟨none, 0, 0⟩, ()) H).bind fun (r1 : ((Ptr × Ptr × Bool × Unit) × Heap)) =>
 cond (!r1.1.2.2.1) (
 some (false, ())) (
 (bus_Bus_Command r1.1.2.1 144 r1.2).bind fun (r2 : ((Unit) × Heap)) =>
 (bus_Bus_Address r1.1.2.1 0 r2.2).bind fun (r3 : ((Unit) × Heap)) =>
 (law31_take r1.1.2.1 4 r3.2).bind fun (r4 : ((Bytes × Unit) × Heap)) =>
 cond (decide ((r4.1.1 : Bytes) = [84, 66, 1, 255])) (
 (bus_Bus_Wrong r1.1.2.1 r4.2).bind fun (r5 : ((Int × Unit) × Heap)) =>
 some ((decide (r5.1.1 = 0)), ())) (
 some (false, ())))
noncomputable def law31_awake  : Option (Bool × Unit) := law31_awake.on []
noncomputable def law31_awake.c : Callee := .pure [] [.one .bool] (fun _ => law31_awake)
noncomputable def law31_awake.calls : Nat → Option Callee
  | 0 => some law31_begun.c
  | 1 => some bus_Bus_Command.c
  | 2 => some bus_Bus_Address.c
  | 3 => some law31_take.c
  | 4 => some bus_Bus_Wrong.c
  | _ => none
theorem law31_awake.eq : evPure law31_awake.calls law31_awake.af = (fun _ H => law31_awake.on H) := by kernel_rfl

/-! ### tinderbox/tinderboxlaw31.BusNone -/
def law31_BusNone.af : AFun := ⟨[.one (.int .u8)], [.one .bool], [.t 2],
 .seq (.reg [.op ⟨0, some 2, .mv (.c (.one (.bool false))), none⟩])
 (.seq (.reg [.op ⟨0, some 3, .mv (.c (.one (.ptr none))), none⟩])
 (.seq (.reg [.op ⟨0, some 6, .mv (.t 3), none⟩,
  .op ⟨1, some 7, .mv (.t 0), none⟩,
  .op ⟨2, some 8, .call 0 [(.t 6), (.t 7)], none⟩])
 (.seq (.reg [.op ⟨0, some 9, .mv (.t 3), none⟩,
  .op ⟨1, some 10, .mv (.t 0), none⟩,
  .op ⟨2, some 11, .call 1 [(.t 9), (.t 10)], none⟩])
 (.seq (.reg [.op ⟨0, some 12, .mv (.t 3), none⟩,
  .op ⟨1, some 13, .mv (.t 0), none⟩,
  .op ⟨2, some 14, .call 2 [(.t 12), (.t 13)], none⟩])
 (.seq (.reg [.op ⟨0, some 16, .call 3 [(.c (.one (.ptr none)))], none⟩,
  .op ⟨1, some 15, .mv (.t 16), none⟩,
  .op ⟨2, some 17, .ext (.t 15) 0, none⟩,
  .op ⟨3, some 18, .ext (.t 15) 1, none⟩,
  .op ⟨4, some 4, .mv (.t 17), none⟩,
  .op ⟨5, some 5, .mv (.t 18), none⟩])
 (.seq (.reg [.op ⟨0, some 19, .call 4 [], none⟩,
  .op ⟨1, some 20, .mv (.t 19), none⟩,
  .op ⟨2, some 21, .mv (.t 3), some (20, true)⟩,
  .op ⟨3, some 22, .call 5 [(.t 21)], some (20, true)⟩,
  .op ⟨4, some 23, .bin .eql (.t 22) (.c (.one (.int .u8 255))), some (20, true)⟩,
  .op ⟨5, some 24, .pick (.t 20) (.t 23) (.c (.one (.bool false))), none⟩,
  .op ⟨6, some 25, .mv (.t 24), none⟩,
  .op ⟨7, some 26, .mv (.t 3), some (25, true)⟩,
  .op ⟨8, some 27, .call 6 [(.t 26)], some (25, true)⟩,
  .op ⟨9, some 28, .un .not (.t 27), some (25, true)⟩,
  .op ⟨10, some 29, .pick (.t 25) (.t 28) (.c (.one (.bool false))), none⟩,
  .op ⟨11, some 30, .mv (.t 29), none⟩,
  .op ⟨12, some 31, .mv (.t 3), some (30, true)⟩,
  .op ⟨13, some 32, .call 7 [(.t 31)], some (30, true)⟩,
  .op ⟨14, some 33, .bin .eql (.t 32) (.c (.one (.int .i64 0))), some (30, true)⟩,
  .op ⟨15, some 34, .pick (.t 30) (.t 33) (.c (.one (.bool false))), none⟩,
  .op ⟨16, some 35, .mv (.t 34), none⟩,
  .op ⟨17, some 36, .mv (.t 3), some (35, true)⟩,
  .op ⟨18, some 37, .call 8 [(.t 36)], some (35, true)⟩,
  .op ⟨19, some 38, .isnil false (.t 37), some (35, true)⟩,
  .op ⟨20, some 39, .pick (.t 35) (.t 38) (.c (.one (.bool false))), none⟩,
  .op ⟨21, some 40, .mv (.t 39), none⟩,
  .op ⟨22, some 41, .mv (.t 5), some (40, true)⟩,
  .op ⟨23, some 42, .bin .eql (.t 41) (.c (.one (.int .i64 1))), some (40, true)⟩,
  .op ⟨24, some 43, .pick (.t 40) (.t 42) (.c (.one (.bool false))), none⟩,
  .op ⟨25, some 2, .mv (.t 43), none⟩])
 (.ret)))))))⟩
noncomputable def law31_BusNone.on (x0 : Int) (H : Heap) : Option (Bool × Unit) :=
 (bus_Bus_Command none x0 H).bind fun (r1 : ((Unit) × Heap)) =>
 (bus_Bus_Address none x0 r1.2).bind fun (r2 : ((Unit) × Heap)) =>
 (bus_Bus_In none x0 r2.2).bind fun (r3 : ((Unit) × Heap)) =>
 (bus_New none r3.2).bind fun (r4 : ((Ptr × Int × Unit) × Heap)) =>
 (law31_awake).bind fun (r5 : (Bool × Unit)) =>
 cond r5.1 (
 (bus_Bus_Out none r4.2).bind fun (r6 : ((Int × Unit) × Heap)) =>
 cond (decide (r6.1.1 = 255)) (
 (bus_Bus_Ready none r6.2).bind fun (r7 : ((Bool × Unit) × Heap)) =>
 cond (!r7.1.1) (
 (bus_Bus_Wrong none r7.2).bind fun (r8 : ((Int × Unit) × Heap)) =>
 cond (decide (r8.1.1 = 0)) (
 (bus_Bus_Chip none r8.2).bind fun (r9 : ((Ptr × Unit) × Heap)) =>
 cond (Option.isNone r9.1.1) (
 some ((decide (r4.1.2.1 = 1)), ())) (
 some (false, ()))) (
 some (false, ()))) (
 some (false, ()))) (
 some (false, ()))) (
 some (false, ()))
noncomputable def law31_BusNone (x0 : Int) : Option (Bool × Unit) := law31_BusNone.on x0 []
noncomputable def law31_BusNone.c : Callee := .pure [.one (.int .u8)] [.one .bool] (fun x => law31_BusNone x.1)
noncomputable def law31_BusNone.calls : Nat → Option Callee
  | 0 => some bus_Bus_Command.c
  | 1 => some bus_Bus_Address.c
  | 2 => some bus_Bus_In.c
  | 3 => some bus_New.c
  | 4 => some law31_awake.c
  | 5 => some bus_Bus_Out.c
  | 6 => some bus_Bus_Ready.c
  | 7 => some bus_Bus_Wrong.c
  | 8 => some bus_Bus_Chip.c
  | _ => none
theorem law31_BusNone.eq : evPure law31_BusNone.calls law31_BusNone.af = (fun x H => law31_BusNone.on x.1 H) := by kernel_rfl

/-! ### tinderbox/tinderboxlaw31.BusOrder -/
def law31_BusOrder.af : AFun := ⟨[.one (.int .i64), .one (.int .u8)], [.one .bool], [.t 4],
 .seq (.reg [.op ⟨0, some 4, .mv (.c (.one (.bool false))), none⟩])
 (.seq (.reg [.op ⟨0, some 9, .build [.int .i64 0, .int .i64 0, .int .i64 0] [], none⟩,
  .op ⟨1, some 10, .build [.sl 3 Sl.nil, .sl 1 Sl.nil, .sl 1 Sl.nil] [], none⟩,
  .op ⟨2, some 11, .call 0 [(.t 9), (.t 10)], none⟩,
  .op ⟨3, some 8, .mv (.t 11), none⟩,
  .op ⟨4, some 12, .ext (.t 8) 0, none⟩,
  .op ⟨5, some 13, .ext (.t 8) 1, none⟩,
  .op ⟨6, some 14, .ext (.t 8) 2, none⟩,
  .op ⟨7, some 5, .mv (.t 12), none⟩,
  .op ⟨8, some 6, .mv (.t 13), none⟩,
  .op ⟨9, some 7, .mv (.t 14), none⟩])
 (.seq (.seq (.reg [.op ⟨0, some 15, .call 1 [], none⟩,
  .op ⟨1, some 16, .un .not (.t 15), none⟩,
  .op ⟨2, some 17, .mv (.t 16), none⟩,
  .op ⟨3, some 18, .mv (.t 7), some (17, false)⟩,
  .op ⟨4, some 19, .un .not (.t 18), some (17, false)⟩,
  .op ⟨5, some 20, .pick (.t 17) (.c (.one (.bool true))) (.t 19), none⟩])
 (.cond (.t 20) (.seq (.reg [.op ⟨0, some 4, .mv (.c (.one (.bool false))), none⟩])
 (.ret)) (.skip)))
 (.seq (.scope [(.normal, [])] (.seq (.reg [.op ⟨0, some 21, .mv (.t 0), none⟩,
  .op ⟨1, some 22, .bin .rem (.t 21) (.c (.one (.int .i64 6))), none⟩,
  .op ⟨2, some 23, .bin .add (.t 22) (.c (.one (.int .i64 6))), none⟩,
  .op ⟨3, some 24, .bin .rem (.t 23) (.c (.one (.int .i64 6))), none⟩])
 (.block 0 (.seq (.reg [.op ⟨0, some 28, .bin .eql (.t 24) (.c (.one (.int .i64 0))), none⟩,
  .op ⟨1, some 27, .mv (.t 28), none⟩])
 (.cond (.t 27) (.reg [.op ⟨0, some 29, .mv (.t 6), none⟩,
  .op ⟨1, some 30, .call 2 [(.t 29), (.c (.one (.int .u8 16)))], none⟩]) (.seq (.reg [.op ⟨0, some 32, .bin .eql (.t 24) (.c (.one (.int .i64 1))), none⟩,
  .op ⟨1, some 31, .mv (.t 32), none⟩])
 (.cond (.t 31) (.reg [.op ⟨0, some 33, .mv (.t 6), none⟩,
  .op ⟨1, some 34, .mv (.t 1), none⟩,
  .op ⟨2, some 35, .call 3 [(.t 33), (.t 34)], none⟩]) (.seq (.reg [.op ⟨0, some 37, .bin .eql (.t 24) (.c (.one (.int .i64 2))), none⟩,
  .op ⟨1, some 36, .mv (.t 37), none⟩])
 (.cond (.t 36) (.reg [.op ⟨0, some 38, .mv (.t 6), none⟩,
  .op ⟨1, some 39, .mv (.t 1), none⟩,
  .op ⟨2, some 40, .call 4 [(.t 38), (.t 39)], none⟩]) (.seq (.reg [.op ⟨0, some 42, .bin .eql (.t 24) (.c (.one (.int .i64 3))), none⟩,
  .op ⟨1, some 41, .mv (.t 42), none⟩])
 (.cond (.t 41) (.reg [.op ⟨0, some 43, .mv (.t 6), none⟩,
  .op ⟨1, some 44, .call 5 [(.t 43)], none⟩]) (.seq (.reg [.op ⟨0, some 46, .bin .eql (.t 24) (.c (.one (.int .i64 4))), none⟩,
  .op ⟨1, some 45, .mv (.t 46), none⟩])
 (.cond (.t 45) (.seq (.reg [.op ⟨0, some 47, .mv (.t 6), none⟩,
  .op ⟨1, some 48, .call 2 [(.t 47), (.c (.one (.int .u8 255)))], none⟩])
 (.reg [.op ⟨0, some 49, .mv (.t 6), none⟩,
  .op ⟨1, some 50, .call 2 [(.t 49), (.c (.one (.int .u8 0)))], none⟩])) (.reg [.op ⟨0, some 25, .mv (.t 6), none⟩,
  .op ⟨1, some 26, .call 2 [(.t 25), (.c (.one (.int .u8 1)))], none⟩]))))))))))))))
 (.seq (.reg [.op ⟨0, some 51, .mv (.t 6), none⟩,
  .op ⟨1, some 52, .call 6 [(.t 51)], none⟩,
  .op ⟨2, some 53, .bin .eql (.t 52) (.c (.one (.int .i64 1))), none⟩,
  .op ⟨3, some 54, .mv (.t 53), none⟩,
  .op ⟨4, some 55, .mv (.t 5), some (54, true)⟩,
  .op ⟨5, some 56, .call 7 [(.t 55)], some (54, true)⟩,
  .op ⟨6, some 57, .bin .eql (.t 56) (.c (.one (.int .i64 0))), some (54, true)⟩,
  .op ⟨7, some 58, .pick (.t 54) (.t 57) (.c (.one (.bool false))), none⟩,
  .op ⟨8, some 4, .mv (.t 58), none⟩])
 (.ret)))))⟩
noncomputable def law31_BusOrder.on (x0 : Int) (x1 : Int) (H : Heap) : Option (Bool × Unit) :=
 (law31_begun (0, 0, 0, ()) (⟨none, 0, 0⟩, ⟨none, 0, 0⟩, ⟨none, 0, 0⟩, ()) H).bind fun (r1 : ((Ptr × Ptr × Bool × Unit) × Heap)) =>
 (law31_awake).bind fun (r2 : (Bool × Unit)) =>
 cond (!r2.1) (
 some (false, ())) (
 cond (!r1.1.2.2.1) (
 some (false, ())) (
 (let n3 : Int := (Int.tmod (IntKind.wrap .i64 ((Int.tmod x0 6) + 6)) 6)
 cond (decide (n3 = 0)) (
 (bus_Bus_Command r1.1.2.1 16 r1.2).bind fun (r4 : ((Unit) × Heap)) =>
 some ((()), r4.2)) (
 cond (decide (n3 = 1)) (
 (bus_Bus_Address r1.1.2.1 x1 r1.2).bind fun (r5 : ((Unit) × Heap)) =>
 some ((()), r5.2)) (
 cond (decide (n3 = 2)) (
 (bus_Bus_In r1.1.2.1 x1 r1.2).bind fun (r6 : ((Unit) × Heap)) =>
 some ((()), r6.2)) (
 cond (decide (n3 = 3)) (
 (bus_Bus_Out r1.1.2.1 r1.2).bind fun (r7 : ((Int × Unit) × Heap)) =>
 some ((()), r7.2)) (
 cond (decide (n3 = 4)) (
 (bus_Bus_Command r1.1.2.1 255 r1.2).bind fun (r8 : ((Unit) × Heap)) =>
 (bus_Bus_Command r1.1.2.1 0 r8.2).bind fun (r9 : ((Unit) × Heap)) =>
 some ((()), r9.2)) (
 (bus_Bus_Command r1.1.2.1 1 r1.2).bind fun (r10 : ((Unit) × Heap)) =>
 some ((()), r10.2)))))) : Option ((Unit) × Heap)).bind fun (p11 : (Unit) × Heap) =>
 (bus_Bus_Wrong r1.1.2.1 p11.2).bind fun (r12 : ((Int × Unit) × Heap)) =>
 cond (decide (r12.1.1 = 1)) (
 (nand_Chip_Did r1.1.1 r12.2).bind fun (r13 : ((Int × Unit) × Heap)) =>
 some ((decide (r13.1.1 = 0)), ())) (
 some (false, ()))))
noncomputable def law31_BusOrder (x0 : Int) (x1 : Int) : Option (Bool × Unit) := law31_BusOrder.on x0 x1 []
noncomputable def law31_BusOrder.c : Callee := .pure [.one (.int .i64), .one (.int .u8)] [.one .bool] (fun x => law31_BusOrder x.1 x.2.1)
noncomputable def law31_BusOrder.calls : Nat → Option Callee
  | 0 => some law31_begun.c
  | 1 => some law31_awake.c
  | 2 => some bus_Bus_Command.c
  | 3 => some bus_Bus_Address.c
  | 4 => some bus_Bus_In.c
  | 5 => some bus_Bus_Out.c
  | 6 => some bus_Bus_Wrong.c
  | 7 => some nand_Chip_Did.c
  | _ => none
theorem law31_BusOrder.eq : evPure law31_BusOrder.calls law31_BusOrder.af = (fun x H => law31_BusOrder.on x.1 x.2.1 H) := by kernel_rfl

/-! ### tinderbox/tinderboxlaw31.polls -/
def law31_polls.af : AFun := ⟨[.one .ptr], [.one (.int .i64)], [.t 2],
 .seq (.reg [.op ⟨0, some 2, .mv (.c (.one (.int .i64 0))), none⟩])
 (.seq (.seq (.reg [.op ⟨0, some 3, .mv (.c (.one (.int .i64 1))), none⟩])
 (.block 0 (.loop [(3, .one (.int .i64))] [(.exit 0, []), (.ret, [(2, .one (.int .i64))])] (.seq (.seq (.reg [.op ⟨0, some 4, .mv (.t 3), none⟩,
  .op ⟨1, some 5, .bin .lss (.t 4) (.c (.one (.int .i64 50))), none⟩])
 (.cond (.t 5) (.skip) (.exit 0)))
 (.seq (.block 1 (.seq (.reg [.op ⟨0, some 8, .mv (.t 0), none⟩,
  .op ⟨1, some 9, .call 0 [(.t 8)], none⟩])
 (.cond (.t 9) (.seq (.reg [.op ⟨0, some 10, .mv (.t 3), none⟩,
  .op ⟨1, some 2, .mv (.t 10), none⟩])
 (.ret)) (.skip))))
 (.reg [.op ⟨0, some 6, .mv (.t 3), none⟩,
  .op ⟨1, some 7, .bin .add (.t 6) (.c (.one (.int .i64 1))), none⟩,
  .op ⟨2, some 3, .mv (.t 7), none⟩]))))))
 (.seq (.reg [.op ⟨0, some 2, .mv (.c (.one (.int .i64 50))), none⟩])
 (.ret)))⟩
noncomputable def law31_polls.s1 (x0 : Ptr) (s1 : (Int × Unit)) (H2 : Heap) : Option (((Int × Unit) ⊕ ((Unit) ⊕ (Int × Unit))) × Heap) :=
 cond (decide (s1.1 < 50)) (
 (bus_Bus_Ready x0 H2).bind fun (r3 : ((Bool × Unit) × Heap)) =>
 cond r3.1.1 (
 some (Sum.inr (Sum.inr (s1.1, ())), r3.2)) (
 some (Sum.inl ((IntKind.wrap .i64 (s1.1 + 1)), ()), r3.2))) (
 some (Sum.inr (Sum.inl (())), H2))
noncomputable def law31_polls (x0 : Ptr) (H : Heap) : Option ((Int × Unit) × Heap) :=
 (loopW (law31_polls.s1 x0) (1, ()) H).bind fun (p4 : ((Unit) ⊕ (Int × Unit)) × Heap) =>
 Sum.elim (fun (y5 : (Unit)) =>
 some ((50, ()), p4.2)) (fun (z6 : (Int × Unit)) =>
 some ((z6.1, ()), p4.2)) p4.1
noncomputable def law31_polls.c : Callee := .full [.one .ptr] [.one (.int .i64)] (fun x H => law31_polls x.1 H)
noncomputable def law31_polls.calls : Nat → Option Callee
  | 0 => some bus_Bus_Ready.c
  | _ => none
theorem law31_polls.eq : evFull law31_polls.calls law31_polls.af = (fun x H => law31_polls x.1 H) := by kernel_rfl

/-! ### tinderbox/tinderboxlaw31.BusParams -/
def law31_BusParams.af : AFun := ⟨[.agg [.int .i64, .int .i64, .int .i64]], [.one .bool], [.t 2],
 .seq (.reg [.op ⟨0, some 1, .box (.t 0), none⟩,
  .op ⟨1, some 2, .mv (.c (.one (.bool false))), none⟩])
 (.seq (.reg [.op ⟨0, some 10, .load (.agg [.int .i64, .int .i64, .int .i64]) (.t 1), none⟩,
  .op ⟨1, some 11, .build [.sl 3 Sl.nil, .sl 1 Sl.nil, .sl 1 Sl.nil] [], none⟩,
  .op ⟨2, some 12, .call 0 [(.t 10), (.t 11)], none⟩,
  .op ⟨3, some 9, .mv (.t 12), none⟩,
  .op ⟨4, some 13, .ext (.t 9) 0, none⟩,
  .op ⟨5, some 14, .ext (.t 9) 1, none⟩,
  .op ⟨6, some 15, .ext (.t 9) 2, none⟩,
  .op ⟨7, some 3, .mv (.t 13), none⟩,
  .op ⟨8, some 4, .mv (.t 14), none⟩,
  .op ⟨9, some 5, .mv (.t 15), none⟩])
 (.seq (.seq (.reg [.op ⟨0, some 16, .call 1 [], none⟩,
  .op ⟨1, some 17, .un .not (.t 16), none⟩,
  .op ⟨2, some 18, .mv (.t 17), none⟩,
  .op ⟨3, some 19, .mv (.t 5), some (18, false)⟩,
  .op ⟨4, some 20, .un .not (.t 19), some (18, false)⟩,
  .op ⟨5, some 21, .pick (.t 18) (.c (.one (.bool true))) (.t 20), none⟩])
 (.cond (.t 21) (.seq (.reg [.op ⟨0, some 2, .mv (.c (.one (.bool false))), none⟩])
 (.ret)) (.skip)))
 (.seq (.reg [.op ⟨0, some 22, .mv (.t 3), none⟩,
  .op ⟨1, some 23, .call 2 [(.t 22)], none⟩,
  .op ⟨2, some 24, .call 3 [(.t 23)], none⟩,
  .op ⟨3, some 6, .mv (.t 24), none⟩])
 (.seq (.reg [.op ⟨0, some 25, .mv (.t 4), none⟩,
  .op ⟨1, some 26, .call 4 [(.t 25), (.c (.one (.int .u8 236)))], none⟩])
 (.seq (.reg [.op ⟨0, some 27, .mv (.t 4), none⟩,
  .op ⟨1, some 28, .call 5 [(.t 27), (.c (.one (.int .u8 0)))], none⟩])
 (.seq (.reg [.op ⟨0, some 29, .mv (.t 4), none⟩,
  .op ⟨1, some 30, .call 6 [(.t 29)], none⟩,
  .op ⟨2, some 7, .mv (.t 30), none⟩])
 (.seq (.reg [.op ⟨0, some 31, .mv (.t 4), none⟩,
  .op ⟨1, some 32, .call 7 [(.t 31), (.c (.one (.int .i64 72)))], none⟩,
  .op ⟨2, some 8, .mv (.t 32), none⟩])
 (.seq (.reg [.op ⟨0, some 33, .mv (.t 3), none⟩,
  .op ⟨1, some 34, .call 2 [(.t 33)], none⟩,
  .op ⟨2, some 35, .call 8 [(.t 34)], none⟩,
  .op ⟨3, some 36, .mv (.t 6), none⟩,
  .op ⟨4, some 37, .mv (.t 6), none⟩,
  .op ⟨5, some 38, .bin .add (.t 36) (.t 37), none⟩,
  .op ⟨6, some 39, .mv (.t 6), none⟩,
  .op ⟨7, some 40, .bin .add (.t 38) (.t 39), none⟩,
  .op ⟨8, some 41, .bin .eql (.t 35) (.t 40), none⟩,
  .op ⟨9, some 42, .mv (.t 41), none⟩,
  .op ⟨10, some 43, .mv (.t 7), some (42, true)⟩,
  .op ⟨11, some 44, .bin .eql (.t 43) (.c (.one (.int .i64 3))), some (42, true)⟩,
  .op ⟨12, some 45, .pick (.t 42) (.t 44) (.c (.one (.bool false))), none⟩,
  .op ⟨13, some 46, .mv (.t 45), none⟩,
  .op ⟨14, some 47, .mv (.t 8), some (46, true)⟩,
  .op ⟨15, some 48, .mv (.t 6), some (46, true)⟩,
  .op ⟨16, some 49, .mv (.t 6), some (46, true)⟩,
  .op ⟨17, some 50, .bin .add (.t 48) (.t 49), some (46, true)⟩,
  .op ⟨18, some 51, .mv (.t 6), some (46, true)⟩,
  .op ⟨19, some 52, .bin .add (.t 50) (.t 51), some (46, true)⟩,
  .op ⟨20, some 53, .bin .eql (.t 47) (.t 52), some (46, true)⟩,
  .op ⟨21, some 54, .pick (.t 46) (.t 53) (.c (.one (.bool false))), none⟩,
  .op ⟨22, some 55, .mv (.t 54), none⟩,
  .op ⟨23, some 56, .mv (.t 4), some (55, true)⟩,
  .op ⟨24, some 57, .call 9 [(.t 56)], some (55, true)⟩,
  .op ⟨25, some 58, .bin .eql (.t 57) (.c (.one (.int .u8 255))), some (55, true)⟩,
  .op ⟨26, some 59, .pick (.t 55) (.t 58) (.c (.one (.bool false))), none⟩,
  .op ⟨27, some 60, .mv (.t 59), none⟩,
  .op ⟨28, some 61, .mv (.t 4), some (60, true)⟩,
  .op ⟨29, some 62, .call 10 [(.t 61)], some (60, true)⟩,
  .op ⟨30, some 63, .bin .eql (.t 62) (.c (.one (.int .i64 0))), some (60, true)⟩,
  .op ⟨31, some 64, .pick (.t 60) (.t 63) (.c (.one (.bool false))), none⟩,
  .op ⟨32, some 2, .mv (.t 64), none⟩])
 (.ret)))))))))⟩
noncomputable def law31_BusParams.on (x0 : (Int × Int × Int × Unit)) (H : Heap) : Option (Bool × Unit) :=
 let H1 : Heap := H ++ [Blk.cells [.int .i64 x0.1, .int .i64 x0.2.1, .int .i64 x0.2.2.1] .exact]
 Option.bind (α := (Int × Int × Int × Unit)) (rd H1 (.agg [.int .i64, .int .i64, .int .i64]) H.length 0) fun (v2 : (Int × Int × Int × Unit)) =>
 (law31_begun (v2.1, v2.2.1, v2.2.2.1, ()) (⟨none, 0, 0⟩, ⟨none, 0, 0⟩, ⟨none, 0, 0⟩, ()) H1).bind fun (r3 : ((Ptr × Ptr × Bool × Unit) × Heap)) =>
 (law31_awake).bind fun (r4 : (Bool × Unit)) =>
 cond (!r4.1) (
 some (false, ())) (
 cond (!r3.1.2.2.1) (
 some (false, ())) (
 (nand_Chip_Geometry r3.1.1 r3.2).bind fun (r5 : (((Int × Int × Int × Unit) × Unit) × Heap)) =>
 (ref31_Param (r5.1.1.1, r5.1.1.2.1, r5.1.1.2.2.1, ())).bind fun (r6 : (Bytes × Unit)) =>
 (bus_Bus_Command r3.1.2.1 236 r5.2).bind fun (r7 : ((Unit) × Heap)) =>
 (bus_Bus_Address r3.1.2.1 0 r7.2).bind fun (r8 : ((Unit) × Heap)) =>
 (law31_polls r3.1.2.1 r8.2).bind fun (r9 : ((Int × Unit) × Heap)) =>
 (law31_take r3.1.2.1 72 r9.2).bind fun (r10 : ((Bytes × Unit) × Heap)) =>
 (nand_Chip_Geometry r3.1.1 r10.2).bind fun (r11 : (((Int × Int × Int × Unit) × Unit) × Heap)) =>
 (bus_Param (r11.1.1.1, r11.1.1.2.1, r11.1.1.2.2.1, ())).bind fun (r12 : (Bytes × Unit)) =>
 (catS r6.1 r6.1).bind fun (s13 : Bytes) =>
 (catS s13 r6.1).bind fun (s14 : Bytes) =>
 cond (decide ((r12.1 : Bytes) = s14)) (
 cond (decide (r9.1.1 = 3)) (
 (catS r6.1 r6.1).bind fun (s15 : Bytes) =>
 (catS s15 r6.1).bind fun (s16 : Bytes) =>
 cond (decide ((r10.1.1 : Bytes) = s16)) (
 (bus_Bus_Out r3.1.2.1 r11.2).bind fun (r17 : ((Int × Unit) × Heap)) =>
 cond (decide (r17.1.1 = 255)) (
 (bus_Bus_Wrong r3.1.2.1 r17.2).bind fun (r18 : ((Int × Unit) × Heap)) =>
 some ((decide (r18.1.1 = 0)), ())) (
 some (false, ()))) (
 some (false, ()))) (
 some (false, ()))) (
 some (false, ()))))
noncomputable def law31_BusParams (x0 : (Int × Int × Int × Unit)) : Option (Bool × Unit) := law31_BusParams.on x0 []
noncomputable def law31_BusParams.c : Callee := .pure [.agg [.int .i64, .int .i64, .int .i64]] [.one .bool] (fun x => law31_BusParams x.1)
noncomputable def law31_BusParams.calls : Nat → Option Callee
  | 0 => some law31_begun.c
  | 1 => some law31_awake.c
  | 2 => some nand_Chip_Geometry.c
  | 3 => some ref31_Param.c
  | 4 => some bus_Bus_Command.c
  | 5 => some bus_Bus_Address.c
  | 6 => some law31_polls.c
  | 7 => some law31_take.c
  | 8 => some bus_Param.c
  | 9 => some bus_Bus_Out.c
  | 10 => some bus_Bus_Wrong.c
  | _ => none
theorem law31_BusParams.eq : evPure law31_BusParams.calls law31_BusParams.af = (fun x H => law31_BusParams.on x.1 H) := by kernel_rfl

/-! ### tinderbox/tinderboxlaw31.send -/
def law31_send.af : AFun := ⟨[.one .ptr, .one (.int .i64), .one (.int .i64)], [], [],
 .seq (.reg [.op ⟨0, some 6, .mv (.c (.one (.int .i64 0))), none⟩])
 (.block 0 (.loop [(6, .one (.int .i64))] [(.exit 0, [])] (.seq (.seq (.reg [.op ⟨0, some 7, .mv (.t 6), none⟩,
  .op ⟨1, some 8, .mv (.t 2), none⟩,
  .op ⟨2, some 9, .bin .lss (.t 7) (.t 8), none⟩])
 (.cond (.t 9) (.skip) (.exit 0)))
 (.seq (.block 1 (.reg [.op ⟨0, some 12, .mv (.t 0), none⟩,
  .op ⟨1, some 13, .mv (.t 1), none⟩,
  .op ⟨2, some 14, .mv (.t 6), none⟩,
  .op ⟨3, some 15, .bin .mul (.c (.one (.int .i64 8))) (.t 14), none⟩,
  .op ⟨4, some 16, .conv .u64 (.t 15), none⟩,
  .op ⟨5, some 17, .bin .shr (.t 13) (.t 16), none⟩,
  .op ⟨6, some 18, .conv .u8 (.t 17), none⟩,
  .op ⟨7, some 19, .call 0 [(.t 12), (.t 18)], none⟩]))
 (.reg [.op ⟨0, some 10, .mv (.t 6), none⟩,
  .op ⟨1, some 11, .bin .add (.t 10) (.c (.one (.int .i64 1))), none⟩,
  .op ⟨2, some 6, .mv (.t 11), none⟩])))))⟩
noncomputable def law31_send.s1 (x0 : Ptr) (x1 : Int) (x2 : Int) (s1 : (Int × Unit)) (H2 : Heap) : Option (((Int × Unit) ⊕ (Unit)) × Heap) :=
 cond (decide (s1.1 < x2)) (
 cond (decide ((IntKind.wrap .u64 (IntKind.wrap .i64 (8 * s1.1))) < 0)) none (
 (bus_Bus_Address x0 (IntKind.wrap .u8 (Int.fdiv x1 (2 ^ (min (Int.toNat (IntKind.wrap .u64 (IntKind.wrap .i64 (8 * s1.1)))) (IntKind.bits .i64))))) H2).bind fun (r3 : ((Unit) × Heap)) =>
 some (Sum.inl ((IntKind.wrap .i64 (s1.1 + 1)), ()), r3.2))) (
 some (Sum.inr (()), H2))
noncomputable def law31_send (x0 : Ptr) (x1 : Int) (x2 : Int) (H : Heap) : Option ((Unit) × Heap) :=
 (loopW (law31_send.s1 x0 x1 x2) (0, ()) H).bind fun (p4 : (Unit) × Heap) =>
 some ((()), p4.2)
noncomputable def law31_send.c : Callee := .full [.one .ptr, .one (.int .i64), .one (.int .i64)] [] (fun x H => law31_send x.1 x.2.1 x.2.2.1 H)
noncomputable def law31_send.calls : Nat → Option Callee
  | 0 => some bus_Bus_Address.c
  | _ => none
theorem law31_send.eq : evFull law31_send.calls law31_send.af = (fun x H => law31_send x.1 x.2.1 x.2.2.1 H) := by kernel_rfl

/-! ### tinderbox/tinderboxlaw31.BusFails -/
def law31_BusFails.af : AFun := ⟨[.agg [.int .i64, .int .i64, .int .i64], .one (.int .i64), .one .bool], [.one .bool], [.t 6],
 .seq (.reg [.op ⟨0, some 3, .box (.t 0), none⟩,
  .op ⟨1, some 6, .mv (.c (.one (.bool false))), none⟩])
 (.seq (.reg [.op ⟨0, some 16, .build [.sl 3 Sl.nil, .sl 1 Sl.nil, .sl 1 Sl.nil] [], none⟩,
  .op ⟨1, some 7, .new [.sl 3 Sl.nil, .sl 1 Sl.nil, .sl 1 Sl.nil], none⟩,
  .op ⟨2, none, .store 3 (.t 7) (.t 16), none⟩])
 (.seq (.scope [(.normal, [])] (.seq (.reg [.op ⟨0, some 17, .mv (.t 2), none⟩])
 (.cond (.t 17) (.reg [.op ⟨0, some 18, .bslice 1 1 [.int .i64 0] [(0, 1, (.c (.one (.int .i64 2))))], none⟩,
  .op ⟨1, some 19, .addr 2 (.t 7), none⟩,
  .op ⟨2, none, .store 1 (.t 19) (.t 18), none⟩]) (.skip))))
 (.seq (.reg [.op ⟨0, some 21, .load (.agg [.int .i64, .int .i64, .int .i64]) (.t 3), none⟩,
  .op ⟨1, some 22, .load (.agg [.sl 3, .sl 1, .sl 1]) (.t 7), none⟩,
  .op ⟨2, some 23, .call 0 [(.t 21), (.t 22)], none⟩,
  .op ⟨3, some 20, .mv (.t 23), none⟩,
  .op ⟨4, some 24, .ext (.t 20) 0, none⟩,
  .op ⟨5, some 25, .ext (.t 20) 1, none⟩,
  .op ⟨6, some 26, .ext (.t 20) 2, none⟩,
  .op ⟨7, some 8, .mv (.t 24), none⟩,
  .op ⟨8, some 9, .mv (.t 25), none⟩,
  .op ⟨9, some 10, .mv (.t 26), none⟩])
 (.seq (.seq (.reg [.op ⟨0, some 27, .call 1 [], none⟩,
  .op ⟨1, some 28, .un .not (.t 27), none⟩,
  .op ⟨2, some 29, .mv (.t 28), none⟩,
  .op ⟨3, some 30, .mv (.t 10), some (29, false)⟩,
  .op ⟨4, some 31, .un .not (.t 30), some (29, false)⟩,
  .op ⟨5, some 32, .pick (.t 29) (.c (.one (.bool true))) (.t 31), none⟩])
 (.cond (.t 32) (.seq (.reg [.op ⟨0, some 6, .mv (.c (.one (.bool false))), none⟩])
 (.ret)) (.skip)))
 (.seq (.reg [.op ⟨0, some 33, .mv (.t 8), none⟩,
  .op ⟨1, some 34, .call 2 [(.t 33)], none⟩,
  .op ⟨2, some 35, .field (.one (.int .i64)) 0 (.t 34), none⟩,
  .op ⟨3, some 11, .mv (.t 35), none⟩])
 (.seq (.reg [.op ⟨0, some 36, .mv (.t 1), none⟩,
  .op ⟨1, some 37, .mv (.t 11), none⟩,
  .op ⟨2, some 38, .bin .rem (.t 36) (.t 37), none⟩,
  .op ⟨3, some 39, .mv (.t 11), none⟩,
  .op ⟨4, some 40, .bin .add (.t 38) (.t 39), none⟩,
  .op ⟨5, some 41, .mv (.t 11), none⟩,
  .op ⟨6, some 42, .bin .rem (.t 40) (.t 41), none⟩,
  .op ⟨7, some 12, .mv (.t 42), none⟩])
 (.seq (.reg [.op ⟨0, some 43, .mv (.t 9), none⟩,
  .op ⟨1, some 44, .call 3 [(.t 43), (.c (.one (.int .u8 96)))], none⟩])
 (.seq (.reg [.op ⟨0, some 45, .mv (.t 9), none⟩,
  .op ⟨1, some 46, .mv (.t 12), none⟩,
  .op ⟨2, some 47, .mv (.t 8), none⟩,
  .op ⟨3, some 48, .call 2 [(.t 47)], none⟩,
  .op ⟨4, some 49, .field (.one (.int .i64)) 1 (.t 48), none⟩,
  .op ⟨5, some 50, .bin .mul (.t 46) (.t 49), none⟩,
  .op ⟨6, some 51, .call 4 [(.t 45), (.t 50), (.c (.one (.int .i64 3)))], none⟩])
 (.seq (.reg [.op ⟨0, some 52, .mv (.t 9), none⟩,
  .op ⟨1, some 53, .call 3 [(.t 52), (.c (.one (.int .u8 208)))], none⟩])
 (.seq (.reg [.op ⟨0, some 54, .mv (.t 9), none⟩,
  .op ⟨1, some 55, .call 5 [(.t 54)], none⟩,
  .op ⟨2, some 13, .mv (.t 55), none⟩])
 (.seq (.reg [.op ⟨0, some 56, .mv (.t 9), none⟩,
  .op ⟨1, some 57, .call 3 [(.t 56), (.c (.one (.int .u8 112)))], none⟩])
 (.seq (.reg [.op ⟨0, some 58, .mv (.t 9), none⟩,
  .op ⟨1, some 59, .call 6 [(.t 58)], none⟩,
  .op ⟨2, some 60, .bin .and (.t 59) (.c (.one (.int .u8 1))), none⟩,
  .op ⟨3, some 61, .bin .neq (.t 60) (.c (.one (.int .u8 0))), none⟩,
  .op ⟨4, some 14, .mv (.t 61), none⟩])
 (.seq (.reg [.op ⟨0, some 62, .mv (.t 9), none⟩,
  .op ⟨1, some 63, .call 3 [(.t 62), (.c (.one (.int .u8 165)))], none⟩])
 (.seq (.reg [.op ⟨0, some 64, .mv (.t 9), none⟩,
  .op ⟨1, some 65, .mv (.t 12), none⟩,
  .op ⟨2, some 66, .mv (.t 8), none⟩,
  .op ⟨3, some 67, .call 2 [(.t 66)], none⟩,
  .op ⟨4, some 68, .field (.one (.int .i64)) 1 (.t 67), none⟩,
  .op ⟨5, some 69, .bin .mul (.t 65) (.t 68), none⟩,
  .op ⟨6, some 70, .call 4 [(.t 64), (.t 69), (.c (.one (.int .i64 3)))], none⟩])
 (.seq (.reg [.op ⟨0, some 71, .mv (.t 9), none⟩,
  .op ⟨1, some 72, .call 5 [(.t 71)], none⟩])
 (.seq (.reg [.op ⟨0, some 73, .mv (.t 9), none⟩,
  .op ⟨1, some 74, .call 6 [(.t 73)], none⟩,
  .op ⟨2, some 15, .mv (.t 74), none⟩])
 (.seq (.reg [.op ⟨0, some 75, .mv (.t 13), none⟩,
  .op ⟨1, some 76, .bin .eql (.t 75) (.c (.one (.int .i64 15))), none⟩,
  .op ⟨2, some 77, .mv (.t 76), none⟩,
  .op ⟨3, some 78, .mv (.t 14), some (77, true)⟩,
  .op ⟨4, some 79, .mv (.t 2), some (77, true)⟩,
  .op ⟨5, some 80, .mv (.t 79), some (77, true)⟩,
  .op ⟨6, some 81, .mv (.t 12), some (80, true)⟩,
  .op ⟨7, some 82, .bin .eql (.t 81) (.c (.one (.int .i64 2))), some (80, true)⟩,
  .op ⟨8, some 83, .pick (.t 80) (.t 82) (.c (.one (.bool false))), some (77, true)⟩,
  .op ⟨9, some 84, .eqb false (.t 78) (.t 83), some (77, true)⟩,
  .op ⟨10, some 85, .pick (.t 77) (.t 84) (.c (.one (.bool false))), none⟩,
  .op ⟨11, some 86, .mv (.t 85), none⟩,
  .op ⟨12, some 87, .mv (.t 15), some (86, true)⟩,
  .op ⟨13, some 88, .bin .eql (.t 87) (.c (.one (.int .u8 0))), some (86, true)⟩,
  .op ⟨14, some 89, .mv (.t 2), some (86, true)⟩,
  .op ⟨15, some 90, .mv (.t 89), some (86, true)⟩,
  .op ⟨16, some 91, .mv (.t 12), some (90, true)⟩,
  .op ⟨17, some 92, .bin .eql (.t 91) (.c (.one (.int .i64 2))), some (90, true)⟩,
  .op ⟨18, some 93, .pick (.t 90) (.t 92) (.c (.one (.bool false))), some (86, true)⟩,
  .op ⟨19, some 94, .eqb false (.t 88) (.t 93), some (86, true)⟩,
  .op ⟨20, some 95, .pick (.t 86) (.t 94) (.c (.one (.bool false))), none⟩,
  .op ⟨21, some 96, .mv (.t 95), none⟩,
  .op ⟨22, some 97, .mv (.t 9), some (96, true)⟩,
  .op ⟨23, some 98, .call 7 [(.t 97)], some (96, true)⟩,
  .op ⟨24, some 99, .bin .eql (.t 98) (.c (.one (.int .i64 0))), some (96, true)⟩,
  .op ⟨25, some 100, .pick (.t 96) (.t 99) (.c (.one (.bool false))), none⟩,
  .op ⟨26, some 6, .mv (.t 100), none⟩])
 (.ret))))))))))))))))))⟩
noncomputable def law31_BusFails.on (x0 : (Int × Int × Int × Unit)) (x1 : Int) (x2 : Bool) (H : Heap) : Option (Bool × Unit) :=
 let H1 : Heap := H ++ [Blk.cells [.int .i64 x0.1, .int .i64 x0.2.1, .int .i64 x0.2.2.1] .exact]
 let H2 : Heap := H1 ++ [Blk.cells [.sl 3 Sl.nil, .sl 1 Sl.nil, .sl 1 Sl.nil] .exact]
 (wr H2 H1.length 0 [.sl 3 (⟨none, 0, 0⟩), .sl 1 (⟨none, 0, 0⟩), .sl 1 (⟨none, 0, 0⟩)]).bind fun (H3 : Heap) =>
 (cond x2 (
 let H4 : Heap := H3 ++ [Blk.cells [.int .i64 2] .exact]
 (wr H4 H1.length 2 [.sl 1 (⟨some (H3.length, 0), 1, 1⟩)]).bind fun (H5 : Heap) =>
 some ((()), H5)) (
 some ((()), H3)) : Option ((Unit) × Heap)).bind fun (p6 : (Unit) × Heap) =>
 Option.bind (α := (Int × Int × Int × Unit)) (rd p6.2 (.agg [.int .i64, .int .i64, .int .i64]) H.length 0) fun (v7 : (Int × Int × Int × Unit)) =>
 Option.bind (α := (Sl × Sl × Sl × Unit)) (rd p6.2 (.agg [.sl 3, .sl 1, .sl 1]) H1.length 0) fun (v8 : (Sl × Sl × Sl × Unit)) =>
 (law31_begun (v7.1, v7.2.1, v7.2.2.1, ()) (v8.1, v8.2.1, v8.2.2.1, ()) p6.2).bind fun (r9 : ((Ptr × Ptr × Bool × Unit) × Heap)) =>
 (law31_awake).bind fun (r10 : (Bool × Unit)) =>
 cond (!r10.1) (
 some (false, ())) (
 cond (!r9.1.2.2.1) (
 some (false, ())) (
 (nand_Chip_Geometry r9.1.1 r9.2).bind fun (r11 : (((Int × Int × Int × Unit) × Unit) × Heap)) =>
 cond (decide (r11.1.1.1 = 0)) none (
 cond (decide (r11.1.1.1 = 0)) none (
 (bus_Bus_Command r9.1.2.1 96 r11.2).bind fun (r12 : ((Unit) × Heap)) =>
 (nand_Chip_Geometry r9.1.1 r12.2).bind fun (r13 : (((Int × Int × Int × Unit) × Unit) × Heap)) =>
 (law31_send r9.1.2.1 (IntKind.wrap .i64 ((Int.tmod (IntKind.wrap .i64 ((Int.tmod x1 r11.1.1.1) + r11.1.1.1)) r11.1.1.1) * r13.1.1.2.1)) 3 r13.2).bind fun (r14 : ((Unit) × Heap)) =>
 (bus_Bus_Command r9.1.2.1 208 r14.2).bind fun (r15 : ((Unit) × Heap)) =>
 (law31_polls r9.1.2.1 r15.2).bind fun (r16 : ((Int × Unit) × Heap)) =>
 (bus_Bus_Command r9.1.2.1 112 r16.2).bind fun (r17 : ((Unit) × Heap)) =>
 (bus_Bus_Out r9.1.2.1 r17.2).bind fun (r18 : ((Int × Unit) × Heap)) =>
 (bus_Bus_Command r9.1.2.1 165 r18.2).bind fun (r19 : ((Unit) × Heap)) =>
 (nand_Chip_Geometry r9.1.1 r19.2).bind fun (r20 : (((Int × Int × Int × Unit) × Unit) × Heap)) =>
 (law31_send r9.1.2.1 (IntKind.wrap .i64 ((Int.tmod (IntKind.wrap .i64 ((Int.tmod x1 r11.1.1.1) + r11.1.1.1)) r11.1.1.1) * r20.1.1.2.1)) 3 r20.2).bind fun (r21 : ((Unit) × Heap)) =>
 (law31_polls r9.1.2.1 r21.2).bind fun (r22 : ((Int × Unit) × Heap)) =>
 (bus_Bus_Out r9.1.2.1 r22.2).bind fun (r23 : ((Int × Unit) × Heap)) =>
 cond (decide (r16.1.1 = 15)) (
 cond x2 (
 cond ((!decide ((bitsI .and .u8 r18.1.1 1) = 0)) == (decide ((Int.tmod (IntKind.wrap .i64 ((Int.tmod x1 r11.1.1.1) + r11.1.1.1)) r11.1.1.1) = 2))) (
 cond x2 (
 cond ((decide (r23.1.1 = 0)) == (decide ((Int.tmod (IntKind.wrap .i64 ((Int.tmod x1 r11.1.1.1) + r11.1.1.1)) r11.1.1.1) = 2))) (
 (bus_Bus_Wrong r9.1.2.1 r23.2).bind fun (r24 : ((Int × Unit) × Heap)) =>
 some ((decide (r24.1.1 = 0)), ())) (
 some (false, ()))) (
 cond ((decide (r23.1.1 = 0)) == false) (
 (bus_Bus_Wrong r9.1.2.1 r23.2).bind fun (r25 : ((Int × Unit) × Heap)) =>
 some ((decide (r25.1.1 = 0)), ())) (
 some (false, ())))) (
 some (false, ()))) (
 cond ((!decide ((bitsI .and .u8 r18.1.1 1) = 0)) == false) (
 cond x2 (
 cond ((decide (r23.1.1 = 0)) == (decide ((Int.tmod (IntKind.wrap .i64 ((Int.tmod x1 r11.1.1.1) + r11.1.1.1)) r11.1.1.1) = 2))) (
 (bus_Bus_Wrong r9.1.2.1 r23.2).bind fun (r26 : ((Int × Unit) × Heap)) =>
 some ((decide (r26.1.1 = 0)), ())) (
 some (false, ()))) (
 cond ((decide (r23.1.1 = 0)) == false) (
 (bus_Bus_Wrong r9.1.2.1 r23.2).bind fun (r27 : ((Int × Unit) × Heap)) =>
 some ((decide (r27.1.1 = 0)), ())) (
 some (false, ())))) (
 some (false, ())))) (
 some (false, ()))))))
noncomputable def law31_BusFails (x0 : (Int × Int × Int × Unit)) (x1 : Int) (x2 : Bool) : Option (Bool × Unit) := law31_BusFails.on x0 x1 x2 []
noncomputable def law31_BusFails.c : Callee := .pure [.agg [.int .i64, .int .i64, .int .i64], .one (.int .i64), .one .bool] [.one .bool] (fun x => law31_BusFails x.1 x.2.1 x.2.2.1)
noncomputable def law31_BusFails.calls : Nat → Option Callee
  | 0 => some law31_begun.c
  | 1 => some law31_awake.c
  | 2 => some nand_Chip_Geometry.c
  | 3 => some bus_Bus_Command.c
  | 4 => some law31_send.c
  | 5 => some law31_polls.c
  | 6 => some bus_Bus_Out.c
  | 7 => some bus_Bus_Wrong.c
  | _ => none
theorem law31_BusFails.eq : evPure law31_BusFails.calls law31_BusFails.af = (fun x H => law31_BusFails.on x.1 x.2.1 x.2.2.1 H) := by kernel_rfl

/-! ### tinderbox/tinderboxlaw31.BusWrites -/
def law31_BusWrites.af : AFun := ⟨[.agg [.int .i64, .int .i64, .int .i64], .one .str, .agg [.int .i64, .int .i64, .int .i64]], [.one .bool], [.t 6],
 .seq (.reg [.op ⟨0, some 3, .box (.t 0), none⟩,
  .op ⟨1, some 5, .box (.t 2), none⟩,
  .op ⟨2, some 6, .mv (.c (.one (.bool false))), none⟩])
 (.seq (.reg [.op ⟨0, some 24, .load (.agg [.int .i64, .int .i64, .int .i64]) (.t 3), none⟩,
  .op ⟨1, some 25, .build [.sl 3 Sl.nil, .sl 1 Sl.nil, .sl 1 Sl.nil] [], none⟩,
  .op ⟨2, some 26, .call 0 [(.t 24), (.t 25)], none⟩,
  .op ⟨3, some 23, .mv (.t 26), none⟩,
  .op ⟨4, some 27, .ext (.t 23) 0, none⟩,
  .op ⟨5, some 28, .ext (.t 23) 1, none⟩,
  .op ⟨6, some 29, .ext (.t 23) 2, none⟩,
  .op ⟨7, some 7, .mv (.t 27), none⟩,
  .op ⟨8, some 8, .mv (.t 28), none⟩,
  .op ⟨9, some 9, .mv (.t 29), none⟩])
 (.seq (.seq (.reg [.op ⟨0, some 30, .call 1 [], none⟩,
  .op ⟨1, some 31, .un .not (.t 30), none⟩,
  .op ⟨2, some 32, .mv (.t 31), none⟩,
  .op ⟨3, some 33, .mv (.t 9), some (32, false)⟩,
  .op ⟨4, some 34, .un .not (.t 33), some (32, false)⟩,
  .op ⟨5, some 35, .pick (.t 32) (.c (.one (.bool true))) (.t 34), none⟩])
 (.cond (.t 35) (.seq (.reg [.op ⟨0, some 6, .mv (.c (.one (.bool false))), none⟩])
 (.ret)) (.skip)))
 (.seq (.reg [.op ⟨0, some 36, .mv (.t 7), none⟩,
  .op ⟨1, some 37, .call 2 [(.t 36)], none⟩,
  .op ⟨2, some 10, .new [.int .i64 0, .int .i64 0, .int .i64 0], none⟩,
  .op ⟨3, none, .store 3 (.t 10) (.t 37), none⟩])
 (.seq (.reg [.op ⟨0, some 38, .addr 2 (.t 10), none⟩,
  .op ⟨1, some 39, .load (.one (.int .i64)) (.t 38), none⟩,
  .op ⟨2, some 40, .bin .add (.t 39) (.c (.one (.int .i64 32))), none⟩,
  .op ⟨3, some 11, .mv (.t 40), none⟩])
 (.seq (.reg [.op ⟨0, some 41, .idxarr 1 3 (.t 5) (.c (.one (.int .i64 0))), none⟩,
  .op ⟨1, some 42, .load (.one (.int .i64)) (.t 41), none⟩,
  .op ⟨2, some 43, .addr 0 (.t 10), none⟩,
  .op ⟨3, some 44, .load (.one (.int .i64)) (.t 43), none⟩,
  .op ⟨4, some 45, .addr 1 (.t 10), none⟩,
  .op ⟨5, some 46, .load (.one (.int .i64)) (.t 45), none⟩,
  .op ⟨6, some 47, .bin .mul (.t 44) (.t 46), none⟩,
  .op ⟨7, some 48, .bin .rem (.t 42) (.t 47), none⟩,
  .op ⟨8, some 49, .addr 0 (.t 10), none⟩,
  .op ⟨9, some 50, .load (.one (.int .i64)) (.t 49), none⟩,
  .op ⟨10, some 51, .addr 1 (.t 10), none⟩,
  .op ⟨11, some 52, .load (.one (.int .i64)) (.t 51), none⟩,
  .op ⟨12, some 53, .bin .mul (.t 50) (.t 52), none⟩,
  .op ⟨13, some 54, .bin .add (.t 48) (.t 53), none⟩,
  .op ⟨14, some 55, .addr 0 (.t 10), none⟩,
  .op ⟨15, some 56, .load (.one (.int .i64)) (.t 55), none⟩,
  .op ⟨16, some 57, .addr 1 (.t 10), none⟩,
  .op ⟨17, some 58, .load (.one (.int .i64)) (.t 57), none⟩,
  .op ⟨18, some 59, .bin .mul (.t 56) (.t 58), none⟩,
  .op ⟨19, some 60, .bin .rem (.t 54) (.t 59), none⟩,
  .op ⟨20, some 12, .mv (.t 60), none⟩])
 (.seq (.reg [.op ⟨0, some 61, .idxarr 1 3 (.t 5) (.c (.one (.int .i64 1))), none⟩,
  .op ⟨1, some 62, .load (.one (.int .i64)) (.t 61), none⟩,
  .op ⟨2, some 63, .mv (.t 11), none⟩,
  .op ⟨3, some 64, .bin .rem (.t 62) (.t 63), none⟩,
  .op ⟨4, some 65, .mv (.t 11), none⟩,
  .op ⟨5, some 66, .bin .add (.t 64) (.t 65), none⟩,
  .op ⟨6, some 67, .mv (.t 11), none⟩,
  .op ⟨7, some 68, .bin .rem (.t 66) (.t 67), none⟩,
  .op ⟨8, some 69, .idxarr 1 3 (.t 5) (.c (.one (.int .i64 2))), none⟩,
  .op ⟨9, some 70, .load (.one (.int .i64)) (.t 69), none⟩,
  .op ⟨10, some 71, .mv (.t 11), none⟩,
  .op ⟨11, some 72, .bin .rem (.t 70) (.t 71), none⟩,
  .op ⟨12, some 73, .mv (.t 11), none⟩,
  .op ⟨13, some 74, .bin .add (.t 72) (.t 73), none⟩,
  .op ⟨14, some 75, .mv (.t 11), none⟩,
  .op ⟨15, some 76, .bin .rem (.t 74) (.t 75), none⟩,
  .op ⟨16, some 13, .mv (.t 68), none⟩,
  .op ⟨17, some 14, .mv (.t 76), none⟩])
 (.seq (.reg [.op ⟨0, some 77, .mv (.t 1), none⟩,
  .op ⟨1, some 78, .mv (.t 1), none⟩,
  .op ⟨2, some 79, .lens (.t 78), none⟩,
  .op ⟨3, some 80, .mv (.t 11), none⟩,
  .op ⟨4, some 81, .mv (.t 13), none⟩,
  .op ⟨5, some 82, .bin .sub (.t 80) (.t 81), none⟩,
  .op ⟨6, some 83, .min [(.t 79), (.t 82)], none⟩,
  .op ⟨7, some 84, .slstr (.t 77) none (some (.t 83)), none⟩,
  .op ⟨8, some 15, .mv (.t 84), none⟩])
 (.seq (.reg [.op ⟨0, some 85, .mv (.t 8), none⟩,
  .op ⟨1, some 86, .call 3 [(.t 85), (.c (.one (.int .u8 128)))], none⟩])
 (.seq (.reg [.op ⟨0, some 87, .mv (.t 8), none⟩,
  .op ⟨1, some 88, .mv (.t 13), none⟩,
  .op ⟨2, some 89, .call 4 [(.t 87), (.t 88), (.c (.one (.int .i64 2)))], none⟩])
 (.seq (.reg [.op ⟨0, some 90, .mv (.t 8), none⟩,
  .op ⟨1, some 91, .mv (.t 12), none⟩,
  .op ⟨2, some 92, .call 4 [(.t 90), (.t 91), (.c (.one (.int .i64 3)))], none⟩])
 (.seq (.seq (.reg [.op ⟨0, some 16, .mv (.c (.one (.int .i64 0))), none⟩])
 (.block 0 (.loop [(16, .one (.int .i64))] [(.exit 0, [])] (.seq (.seq (.reg [.op ⟨0, some 93, .mv (.t 16), none⟩,
  .op ⟨1, some 94, .mv (.t 15), none⟩,
  .op ⟨2, some 95, .lens (.t 94), none⟩,
  .op ⟨3, some 96, .bin .lss (.t 93) (.t 95), none⟩])
 (.cond (.t 96) (.skip) (.exit 0)))
 (.seq (.block 1 (.reg [.op ⟨0, some 99, .mv (.t 8), none⟩,
  .op ⟨1, some 100, .mv (.t 15), none⟩,
  .op ⟨2, some 101, .mv (.t 16), none⟩,
  .op ⟨3, some 102, .index (.t 100) (.t 101), none⟩,
  .op ⟨4, some 103, .call 5 [(.t 99), (.t 102)], none⟩]))
 (.reg [.op ⟨0, some 97, .mv (.t 16), none⟩,
  .op ⟨1, some 98, .bin .add (.t 97) (.c (.one (.int .i64 1))), none⟩,
  .op ⟨2, some 16, .mv (.t 98), none⟩]))))))
 (.seq (.reg [.op ⟨0, some 104, .mv (.t 8), none⟩,
  .op ⟨1, some 105, .call 3 [(.t 104), (.c (.one (.int .u8 16)))], none⟩])
 (.seq (.reg [.op ⟨0, some 106, .mv (.t 8), none⟩,
  .op ⟨1, some 107, .call 6 [(.t 106)], none⟩,
  .op ⟨2, some 17, .mv (.t 107), none⟩])
 (.seq (.reg [.op ⟨0, some 108, .mv (.t 8), none⟩,
  .op ⟨1, some 109, .call 3 [(.t 108), (.c (.one (.int .u8 112)))], none⟩])
 (.seq (.reg [.op ⟨0, some 110, .mv (.t 8), none⟩,
  .op ⟨1, some 111, .call 7 [(.t 110)], none⟩,
  .op ⟨2, some 18, .mv (.t 111), none⟩])
 (.seq (.reg [.op ⟨0, some 112, .mv (.t 8), none⟩,
  .op ⟨1, some 113, .call 3 [(.t 112), (.c (.one (.int .u8 0)))], none⟩])
 (.seq (.reg [.op ⟨0, some 114, .mv (.t 8), none⟩,
  .op ⟨1, some 115, .mv (.t 14), none⟩,
  .op ⟨2, some 116, .call 4 [(.t 114), (.t 115), (.c (.one (.int .i64 2)))], none⟩])
 (.seq (.reg [.op ⟨0, some 117, .mv (.t 8), none⟩,
  .op ⟨1, some 118, .mv (.t 12), none⟩,
  .op ⟨2, some 119, .call 4 [(.t 117), (.t 118), (.c (.one (.int .i64 3)))], none⟩])
 (.seq (.reg [.op ⟨0, some 120, .mv (.t 8), none⟩,
  .op ⟨1, some 121, .call 3 [(.t 120), (.c (.one (.int .u8 48)))], none⟩])
 (.seq (.reg [.op ⟨0, some 122, .mv (.t 8), none⟩,
  .op ⟨1, some 123, .call 6 [(.t 122)], none⟩,
  .op ⟨2, some 19, .mv (.t 123), none⟩])
 (.seq (.reg [.op ⟨0, some 124, .mv (.t 8), none⟩,
  .op ⟨1, some 125, .mv (.t 11), none⟩,
  .op ⟨2, some 126, .mv (.t 14), none⟩,
  .op ⟨3, some 127, .bin .sub (.t 125) (.t 126), none⟩,
  .op ⟨4, some 128, .call 8 [(.t 124), (.t 127)], none⟩,
  .op ⟨5, some 20, .mv (.t 128), none⟩])
 (.seq (.reg [.op ⟨0, some 129, .mv (.t 11), none⟩,
  .op ⟨1, some 130, .mk 1 1 [.int .u8 0] (.t 129) (.t 129), none⟩,
  .op ⟨2, some 21, .mv (.t 130), none⟩])
 (.seq (.seq (.reg [.op ⟨0, some 22, .mv (.c (.one (.int .i64 0))), none⟩])
 (.block 2 (.loop [(22, .one (.int .i64))] [(.exit 2, [])] (.seq (.seq (.reg [.op ⟨0, some 131, .mv (.t 22), none⟩,
  .op ⟨1, some 132, .mv (.t 11), none⟩,
  .op ⟨2, some 133, .bin .lss (.t 131) (.t 132), none⟩])
 (.cond (.t 133) (.skip) (.exit 2)))
 (.seq (.block 3 (.seq (.reg [.op ⟨0, some 136, .mv (.t 21), none⟩,
  .op ⟨1, some 137, .mv (.t 22), none⟩,
  .op ⟨2, some 138, .idxa 1 (.t 136) (.t 137), none⟩,
  .op ⟨3, none, .store 1 (.t 138) (.c (.one (.int .u8 255))), none⟩])
 (.seq (.scope [(.normal, [(149, .one .bool)])] (.reg [.op ⟨0, some 139, .mv (.t 22), none⟩,
  .op ⟨1, some 140, .mv (.t 13), none⟩,
  .op ⟨2, some 141, .bin .geq (.t 139) (.t 140), none⟩,
  .op ⟨3, some 142, .mv (.t 141), none⟩,
  .op ⟨4, some 143, .mv (.t 22), some (142, true)⟩,
  .op ⟨5, some 144, .mv (.t 13), some (142, true)⟩,
  .op ⟨6, some 145, .mv (.t 15), some (142, true)⟩,
  .op ⟨7, some 146, .lens (.t 145), some (142, true)⟩,
  .op ⟨8, some 147, .bin .add (.t 144) (.t 146), some (142, true)⟩,
  .op ⟨9, some 148, .bin .lss (.t 143) (.t 147), some (142, true)⟩,
  .op ⟨10, some 149, .pick (.t 142) (.t 148) (.c (.one (.bool false))), none⟩]))
 (.cond (.t 149) (.reg [.op ⟨0, some 150, .mv (.t 21), none⟩,
  .op ⟨1, some 151, .mv (.t 22), none⟩,
  .op ⟨2, some 152, .mv (.t 15), none⟩,
  .op ⟨3, some 153, .mv (.t 22), none⟩,
  .op ⟨4, some 154, .mv (.t 13), none⟩,
  .op ⟨5, some 155, .bin .sub (.t 153) (.t 154), none⟩,
  .op ⟨6, some 156, .index (.t 152) (.t 155), none⟩,
  .op ⟨7, some 157, .idxa 1 (.t 150) (.t 151), none⟩,
  .op ⟨8, none, .store 1 (.t 157) (.t 156), none⟩]) (.skip)))))
 (.reg [.op ⟨0, some 134, .mv (.t 22), none⟩,
  .op ⟨1, some 135, .bin .add (.t 134) (.c (.one (.int .i64 1))), none⟩,
  .op ⟨2, some 22, .mv (.t 135), none⟩]))))))
 (.seq (.reg [.op ⟨0, some 158, .mv (.t 17), none⟩,
  .op ⟨1, some 159, .bin .eql (.t 158) (.c (.one (.int .i64 7))), none⟩,
  .op ⟨2, some 160, .mv (.t 159), none⟩,
  .op ⟨3, some 161, .mv (.t 19), some (160, true)⟩,
  .op ⟨4, some 162, .bin .eql (.t 161) (.c (.one (.int .i64 3))), some (160, true)⟩,
  .op ⟨5, some 163, .pick (.t 160) (.t 162) (.c (.one (.bool false))), none⟩,
  .op ⟨6, some 164, .mv (.t 163), none⟩,
  .op ⟨7, some 165, .mv (.t 18), some (164, true)⟩,
  .op ⟨8, some 166, .bin .eql (.t 165) (.c (.one (.int .u8 192))), some (164, true)⟩,
  .op ⟨9, some 167, .pick (.t 164) (.t 166) (.c (.one (.bool false))), none⟩,
  .op ⟨10, some 168, .mv (.t 167), none⟩,
  .op ⟨11, some 169, .mv (.t 20), some (168, true)⟩,
  .op ⟨12, some 170, .mv (.t 21), some (168, true)⟩,
  .op ⟨13, some 171, .mv (.t 14), some (168, true)⟩,
  .op ⟨14, some 172, .slc 1 (.t 170) (some (.t 171)) none none, some (168, true)⟩,
  .op ⟨15, some 173, .b2s (.t 172), some (168, true)⟩,
  .op ⟨16, some 174, .bin .eql (.t 169) (.t 173), some (168, true)⟩,
  .op ⟨17, some 175, .pick (.t 168) (.t 174) (.c (.one (.bool false))), none⟩,
  .op ⟨18, some 176, .mv (.t 175), none⟩,
  .op ⟨19, some 177, .mv (.t 8), some (176, true)⟩,
  .op ⟨20, some 178, .call 7 [(.t 177)], some (176, true)⟩,
  .op ⟨21, some 179, .bin .eql (.t 178) (.c (.one (.int .u8 255))), some (176, true)⟩,
  .op ⟨22, some 180, .pick (.t 176) (.t 179) (.c (.one (.bool false))), none⟩,
  .op ⟨23, some 181, .mv (.t 180), none⟩,
  .op ⟨24, some 182, .mv (.t 8), some (181, true)⟩,
  .op ⟨25, some 183, .call 9 [(.t 182)], some (181, true)⟩,
  .op ⟨26, some 184, .bin .eql (.t 183) (.c (.one (.int .i64 0))), some (181, true)⟩,
  .op ⟨27, some 185, .pick (.t 181) (.t 184) (.c (.one (.bool false))), none⟩,
  .op ⟨28, some 186, .mv (.t 185), none⟩,
  .op ⟨29, some 187, .mv (.t 7), some (186, true)⟩,
  .op ⟨30, some 188, .call 10 [(.t 187)], some (186, true)⟩,
  .op ⟨31, some 189, .bin .eql (.t 188) (.c (.one (.int .i64 1))), some (186, true)⟩,
  .op ⟨32, some 190, .pick (.t 186) (.t 189) (.c (.one (.bool false))), none⟩,
  .op ⟨33, some 6, .mv (.t 190), none⟩])
 (.ret)))))))))))))))))))))))))⟩
noncomputable def law31_BusWrites.s1 (r4 : ((Ptr × Ptr × Bool × Unit) × Heap)) (s22 : Bytes) (s26 : (Int × Unit)) (H27 : Heap) : Option (((Int × Unit) ⊕ (Unit)) × Heap) :=
 cond (decide (s26.1 < (List.length (s22 : Bytes) : Int))) (
 (idxS s22 s26.1).bind fun (n28 : Int) =>
 (bus_Bus_In r4.1.2.1 n28 H27).bind fun (r29 : ((Unit) × Heap)) =>
 some (Sum.inl ((IntKind.wrap .i64 (s26.1 + 1)), ()), r29.2)) (
 some (Sum.inr (()), H27))
noncomputable def law31_BusWrites.s2 (v9 : Int) (v19 : Int) (s22 : Bytes) (p41 : (Sl × Heap)) (s42 : (Int × Unit)) (H43 : Heap) : Option (((Int × Unit) ⊕ (Unit)) × Heap) :=
 cond (decide (s42.1 < (IntKind.wrap .i64 (v9 + 32)))) (
 (Sl.at 1 p41.1 s42.1).bind fun (a44 : (Nat × Nat)) =>
 (wr H43 a44.1 a44.2 [.int .u8 255]).bind fun (H45 : Heap) =>
 (cond (decide ((Int.tmod (IntKind.wrap .i64 ((Int.tmod v19 (IntKind.wrap .i64 (v9 + 32))) + (IntKind.wrap .i64 (v9 + 32)))) (IntKind.wrap .i64 (v9 + 32))) ≤ s42.1)) (
 some (((decide (s42.1 < (IntKind.wrap .i64 ((Int.tmod (IntKind.wrap .i64 ((Int.tmod v19 (IntKind.wrap .i64 (v9 + 32))) + (IntKind.wrap .i64 (v9 + 32)))) (IntKind.wrap .i64 (v9 + 32))) + (List.length (s22 : Bytes) : Int))))), ()), H45)) (
 some ((false, ()), H45)) : Option ((Bool × Unit) × Heap)).bind fun (p46 : (Bool × Unit) × Heap) =>
 cond p46.1.1 (
 (idxS s22 (IntKind.wrap .i64 (s42.1 - (Int.tmod (IntKind.wrap .i64 ((Int.tmod v19 (IntKind.wrap .i64 (v9 + 32))) + (IntKind.wrap .i64 (v9 + 32)))) (IntKind.wrap .i64 (v9 + 32)))))).bind fun (n47 : Int) =>
 (Sl.at 1 p41.1 s42.1).bind fun (a48 : (Nat × Nat)) =>
 (wr p46.2 a48.1 a48.2 [.int .u8 n47]).bind fun (H49 : Heap) =>
 some (Sum.inl ((IntKind.wrap .i64 (s42.1 + 1)), ()), H49)) (
 some (Sum.inl ((IntKind.wrap .i64 (s42.1 + 1)), ()), p46.2))) (
 some (Sum.inr (()), H43))
noncomputable def law31_BusWrites.on (x0 : (Int × Int × Int × Unit)) (x1 : Bytes) (x2 : (Int × Int × Int × Unit)) (H : Heap) : Option (Bool × Unit) :=
 let H1 : Heap := H ++ [Blk.cells [.int .i64 x0.1, .int .i64 x0.2.1, .int .i64 x0.2.2.1] .exact]
 let H2 : Heap := H1 ++ [Blk.cells [.int .i64 x2.1, .int .i64 x2.2.1, .int .i64 x2.2.2.1] .exact]
 Option.bind (α := (Int × Int × Int × Unit)) (rd H2 (.agg [.int .i64, .int .i64, .int .i64]) H.length 0) fun (v3 : (Int × Int × Int × Unit)) =>
 (law31_begun (v3.1, v3.2.1, v3.2.2.1, ()) (⟨none, 0, 0⟩, ⟨none, 0, 0⟩, ⟨none, 0, 0⟩, ()) H2).bind fun (r4 : ((Ptr × Ptr × Bool × Unit) × Heap)) =>
 (law31_awake).bind fun (r5 : (Bool × Unit)) =>
 cond (!r5.1) (
 some (false, ())) (
 cond (!r4.1.2.2.1) (
 some (false, ())) (
 (nand_Chip_Geometry r4.1.1 r4.2).bind fun (r6 : (((Int × Int × Int × Unit) × Unit) × Heap)) =>
 let H7 : Heap := r6.2 ++ [Blk.cells [.int .i64 0, .int .i64 0, .int .i64 0] .exact]
 (wr H7 r6.2.length 0 [.int .i64 r6.1.1.1, .int .i64 r6.1.1.2.1, .int .i64 r6.1.1.2.2.1]).bind fun (H8 : Heap) =>
 (rdI .i64 H8 r6.2.length 2).bind fun (v9 : Int) =>
 (arrAt 1 3 (H1.length, 0) 0).bind fun (a10 : (Nat × Nat)) =>
 (rdI .i64 H8 a10.1 a10.2).bind fun (v11 : Int) =>
 (rdI .i64 H8 r6.2.length 0).bind fun (v12 : Int) =>
 (rdI .i64 H8 r6.2.length 1).bind fun (v13 : Int) =>
 cond (decide ((IntKind.wrap .i64 (v12 * v13)) = 0)) none (
 (rdI .i64 H8 r6.2.length 0).bind fun (v14 : Int) =>
 (rdI .i64 H8 r6.2.length 1).bind fun (v15 : Int) =>
 (rdI .i64 H8 r6.2.length 0).bind fun (v16 : Int) =>
 (rdI .i64 H8 r6.2.length 1).bind fun (v17 : Int) =>
 cond (decide ((IntKind.wrap .i64 (v16 * v17)) = 0)) none (
 (arrAt 1 3 (H1.length, 0) 1).bind fun (a18 : (Nat × Nat)) =>
 (rdI .i64 H8 a18.1 a18.2).bind fun (v19 : Int) =>
 cond (decide ((IntKind.wrap .i64 (v9 + 32)) = 0)) none (
 cond (decide ((IntKind.wrap .i64 (v9 + 32)) = 0)) none (
 (arrAt 1 3 (H1.length, 0) 2).bind fun (a20 : (Nat × Nat)) =>
 (rdI .i64 H8 a20.1 a20.2).bind fun (v21 : Int) =>
 cond (decide ((IntKind.wrap .i64 (v9 + 32)) = 0)) none (
 cond (decide ((IntKind.wrap .i64 (v9 + 32)) = 0)) none (
 (subS x1 0 (if (IntKind.wrap .i64 ((IntKind.wrap .i64 (v9 + 32)) - (Int.tmod (IntKind.wrap .i64 ((Int.tmod v19 (IntKind.wrap .i64 (v9 + 32))) + (IntKind.wrap .i64 (v9 + 32)))) (IntKind.wrap .i64 (v9 + 32))))) < (List.length (x1 : Bytes) : Int) then (IntKind.wrap .i64 ((IntKind.wrap .i64 (v9 + 32)) - (Int.tmod (IntKind.wrap .i64 ((Int.tmod v19 (IntKind.wrap .i64 (v9 + 32))) + (IntKind.wrap .i64 (v9 + 32)))) (IntKind.wrap .i64 (v9 + 32))))) else (List.length (x1 : Bytes) : Int))).bind fun (s22 : Bytes) =>
 (bus_Bus_Command r4.1.2.1 128 H8).bind fun (r23 : ((Unit) × Heap)) =>
 (law31_send r4.1.2.1 (Int.tmod (IntKind.wrap .i64 ((Int.tmod v19 (IntKind.wrap .i64 (v9 + 32))) + (IntKind.wrap .i64 (v9 + 32)))) (IntKind.wrap .i64 (v9 + 32))) 2 r23.2).bind fun (r24 : ((Unit) × Heap)) =>
 (law31_send r4.1.2.1 (Int.tmod (IntKind.wrap .i64 ((Int.tmod v11 (IntKind.wrap .i64 (v12 * v13))) + (IntKind.wrap .i64 (v14 * v15)))) (IntKind.wrap .i64 (v16 * v17))) 3 r24.2).bind fun (r25 : ((Unit) × Heap)) =>
 (loopW (law31_BusWrites.s1 r4 s22) (0, ()) r25.2).bind fun (p30 : (Unit) × Heap) =>
 (bus_Bus_Command r4.1.2.1 16 p30.2).bind fun (r31 : ((Unit) × Heap)) =>
 (law31_polls r4.1.2.1 r31.2).bind fun (r32 : ((Int × Unit) × Heap)) =>
 (bus_Bus_Command r4.1.2.1 112 r32.2).bind fun (r33 : ((Unit) × Heap)) =>
 (bus_Bus_Out r4.1.2.1 r33.2).bind fun (r34 : ((Int × Unit) × Heap)) =>
 (bus_Bus_Command r4.1.2.1 0 r34.2).bind fun (r35 : ((Unit) × Heap)) =>
 (law31_send r4.1.2.1 (Int.tmod (IntKind.wrap .i64 ((Int.tmod v21 (IntKind.wrap .i64 (v9 + 32))) + (IntKind.wrap .i64 (v9 + 32)))) (IntKind.wrap .i64 (v9 + 32))) 2 r35.2).bind fun (r36 : ((Unit) × Heap)) =>
 (law31_send r4.1.2.1 (Int.tmod (IntKind.wrap .i64 ((Int.tmod v11 (IntKind.wrap .i64 (v12 * v13))) + (IntKind.wrap .i64 (v14 * v15)))) (IntKind.wrap .i64 (v16 * v17))) 3 r36.2).bind fun (r37 : ((Unit) × Heap)) =>
 (bus_Bus_Command r4.1.2.1 48 r37.2).bind fun (r38 : ((Unit) × Heap)) =>
 (law31_polls r4.1.2.1 r38.2).bind fun (r39 : ((Int × Unit) × Heap)) =>
 (law31_take r4.1.2.1 (IntKind.wrap .i64 ((IntKind.wrap .i64 (v9 + 32)) - (Int.tmod (IntKind.wrap .i64 ((Int.tmod v21 (IntKind.wrap .i64 (v9 + 32))) + (IntKind.wrap .i64 (v9 + 32)))) (IntKind.wrap .i64 (v9 + 32))))) r39.2).bind fun (r40 : ((Bytes × Unit) × Heap)) =>
 (mkS r40.2 1 [.int .u8 0] (IntKind.wrap .i64 (v9 + 32)) (IntKind.wrap .i64 (v9 + 32))).bind fun (p41 : (Sl × Heap)) =>
 (loopW (law31_BusWrites.s2 v9 v19 s22 p41) (0, ()) p41.2).bind fun (p50 : (Unit) × Heap) =>
 cond (decide (r32.1.1 = 7)) (
 cond (decide (r39.1.1 = 3)) (
 cond (decide (r34.1.1 = 192)) (
 (Sl.sub 1 p41.1 (Int.tmod (IntKind.wrap .i64 ((Int.tmod v21 (IntKind.wrap .i64 (v9 + 32))) + (IntKind.wrap .i64 (v9 + 32)))) (IntKind.wrap .i64 (v9 + 32))) (p41.1.len : Int) (p41.1.cap : Int)).bind fun (t51 : Sl) =>
 (strOf p50.2 t51).bind fun (s52 : Bytes) =>
 cond (decide ((r40.1.1 : Bytes) = s52)) (
 (bus_Bus_Out r4.1.2.1 p50.2).bind fun (r53 : ((Int × Unit) × Heap)) =>
 cond (decide (r53.1.1 = 255)) (
 (bus_Bus_Wrong r4.1.2.1 r53.2).bind fun (r54 : ((Int × Unit) × Heap)) =>
 cond (decide (r54.1.1 = 0)) (
 (nand_Chip_Did r4.1.1 r54.2).bind fun (r55 : ((Int × Unit) × Heap)) =>
 some ((decide (r55.1.1 = 1)), ())) (
 some (false, ()))) (
 some (false, ()))) (
 some (false, ()))) (
 some (false, ()))) (
 some (false, ()))) (
 some (false, ()))))))))))
noncomputable def law31_BusWrites (x0 : (Int × Int × Int × Unit)) (x1 : Bytes) (x2 : (Int × Int × Int × Unit)) : Option (Bool × Unit) := law31_BusWrites.on x0 x1 x2 []
noncomputable def law31_BusWrites.c : Callee := .pure [.agg [.int .i64, .int .i64, .int .i64], .one .str, .agg [.int .i64, .int .i64, .int .i64]] [.one .bool] (fun x => law31_BusWrites x.1 x.2.1 x.2.2.1)
noncomputable def law31_BusWrites.calls : Nat → Option Callee
  | 0 => some law31_begun.c
  | 1 => some law31_awake.c
  | 2 => some nand_Chip_Geometry.c
  | 3 => some bus_Bus_Command.c
  | 4 => some law31_send.c
  | 5 => some bus_Bus_In.c
  | 6 => some law31_polls.c
  | 7 => some bus_Bus_Out.c
  | 8 => some law31_take.c
  | 9 => some bus_Bus_Wrong.c
  | 10 => some nand_Chip_Did.c
  | _ => none
theorem law31_BusWrites.eq : evPure law31_BusWrites.calls law31_BusWrites.af = (fun x H => law31_BusWrites.on x.1 x.2.1 x.2.2.1 H) := by kernel_rfl

/-! ### tinderbox/tinderboxlaw31.BusWild -/
def law31_BusWild.af : AFun := ⟨[.agg [.sl 3, .sl 1, .sl 1], .one (.sl 2)], [.one .bool], [.t 4],
 .seq (.reg [.op ⟨0, some 2, .box (.t 0), none⟩,
  .op ⟨1, some 4, .mv (.c (.one (.bool false))), none⟩])
 (.seq (.reg [.op ⟨0, some 14, .build [.int .i64 0, .int .i64 0, .int .i64 0] [], none⟩,
  .op ⟨1, some 15, .load (.agg [.sl 3, .sl 1, .sl 1]) (.t 2), none⟩,
  .op ⟨2, some 16, .call 0 [(.t 14), (.t 15)], none⟩,
  .op ⟨3, some 13, .mv (.t 16), none⟩,
  .op ⟨4, some 17, .ext (.t 13) 0, none⟩,
  .op ⟨5, some 18, .ext (.t 13) 1, none⟩,
  .op ⟨6, some 19, .ext (.t 13) 2, none⟩,
  .op ⟨7, some 5, .mv (.t 17), none⟩,
  .op ⟨8, some 6, .mv (.t 18), none⟩,
  .op ⟨9, some 7, .mv (.t 19), none⟩])
 (.seq (.seq (.reg [.op ⟨0, some 20, .call 1 [], none⟩,
  .op ⟨1, some 21, .un .not (.t 20), none⟩,
  .op ⟨2, some 22, .mv (.t 21), none⟩,
  .op ⟨3, some 23, .mv (.t 7), some (22, false)⟩,
  .op ⟨4, some 24, .un .not (.t 23), some (22, false)⟩,
  .op ⟨5, some 25, .pick (.t 22) (.c (.one (.bool true))) (.t 24), none⟩])
 (.cond (.t 25) (.seq (.reg [.op ⟨0, some 4, .mv (.c (.one (.bool false))), none⟩])
 (.ret)) (.skip)))
 (.seq (.reg [.op ⟨0, some 8, .mv (.c (.one (.int .i64 0))), none⟩])
 (.seq (.seq (.reg [.op ⟨0, some 9, .mv (.c (.one (.int .i64 0))), none⟩])
 (.block 0 (.loop [(8, .one (.int .i64)), (9, .one (.int .i64))] [(.exit 0, [(8, .one (.int .i64))])] (.seq (.seq (.reg [.op ⟨0, some 26, .mv (.t 9), none⟩,
  .op ⟨1, some 27, .mv (.t 1), none⟩,
  .op ⟨2, some 28, .len (.t 27), none⟩,
  .op ⟨3, some 29, .bin .lss (.t 26) (.t 28), none⟩,
  .op ⟨4, some 30, .mv (.t 29), none⟩,
  .op ⟨5, some 31, .mv (.t 9), some (30, true)⟩,
  .op ⟨6, some 32, .bin .lss (.t 31) (.c (.one (.int .i64 150))), some (30, true)⟩,
  .op ⟨7, some 33, .pick (.t 30) (.t 32) (.c (.one (.bool false))), none⟩])
 (.cond (.t 33) (.skip) (.exit 0)))
 (.seq (.block 1 (.seq (.reg [.op ⟨0, some 36, .mv (.t 1), none⟩,
  .op ⟨1, some 37, .mv (.t 9), none⟩,
  .op ⟨2, some 38, .idxa 2 (.t 36) (.t 37), none⟩,
  .op ⟨3, some 39, .addr 1 (.t 38), none⟩,
  .op ⟨4, some 40, .load (.one (.int .u8)) (.t 39), none⟩,
  .op ⟨5, some 10, .mv (.t 40), none⟩])
 (.seq (.reg [.op ⟨0, some 41, .mv (.t 1), none⟩,
  .op ⟨1, some 42, .mv (.t 9), none⟩,
  .op ⟨2, some 43, .idxa 2 (.t 41) (.t 42), none⟩,
  .op ⟨3, some 44, .addr 0 (.t 43), none⟩,
  .op ⟨4, some 45, .load (.one (.int .i64)) (.t 44), none⟩])
 (.block 2 (.seq (.reg [.op ⟨0, some 49, .bin .eql (.t 45) (.c (.one (.int .i64 0))), none⟩,
  .op ⟨1, some 48, .mv (.t 49), none⟩])
 (.cond (.t 48) (.seq (.reg [.op ⟨0, some 50, .mv (.t 6), none⟩,
  .op ⟨1, some 51, .mv (.t 10), none⟩,
  .op ⟨2, some 52, .call 2 [(.t 50), (.t 51)], none⟩])
 (.seq (.reg [.op ⟨0, some 53, .mv (.t 10), none⟩,
  .op ⟨1, some 54, .bin .eql (.t 53) (.c (.one (.int .u8 16))), none⟩,
  .op ⟨2, some 55, .mv (.t 54), none⟩,
  .op ⟨3, some 56, .mv (.t 10), some (55, false)⟩,
  .op ⟨4, some 57, .bin .eql (.t 56) (.c (.one (.int .u8 208))), some (55, false)⟩,
  .op ⟨5, some 58, .pick (.t 55) (.c (.one (.bool true))) (.t 57), none⟩])
 (.cond (.t 58) (.reg [.op ⟨0, some 59, .mv (.t 8), none⟩,
  .op ⟨1, some 60, .bin .add (.t 59) (.c (.one (.int .i64 1))), none⟩,
  .op ⟨2, some 8, .mv (.t 60), none⟩]) (.skip)))) (.seq (.reg [.op ⟨0, some 62, .bin .eql (.t 45) (.c (.one (.int .i64 1))), none⟩,
  .op ⟨1, some 61, .mv (.t 62), none⟩])
 (.cond (.t 61) (.seq (.reg [.op ⟨0, some 63, .mv (.t 6), none⟩,
  .op ⟨1, some 64, .mv (.t 10), none⟩,
  .op ⟨2, some 65, .call 3 [(.t 63), (.t 64)], none⟩])
 (.reg [.op ⟨0, some 66, .mv (.t 8), none⟩,
  .op ⟨1, some 67, .bin .add (.t 66) (.c (.one (.int .i64 1))), none⟩,
  .op ⟨2, some 8, .mv (.t 67), none⟩])) (.seq (.reg [.op ⟨0, some 69, .bin .eql (.t 45) (.c (.one (.int .i64 2))), none⟩,
  .op ⟨1, some 68, .mv (.t 69), none⟩])
 (.cond (.t 68) (.reg [.op ⟨0, some 70, .mv (.t 6), none⟩,
  .op ⟨1, some 71, .mv (.t 10), none⟩,
  .op ⟨2, some 72, .call 4 [(.t 70), (.t 71)], none⟩]) (.seq (.reg [.op ⟨0, some 74, .bin .eql (.t 45) (.c (.one (.int .i64 3))), none⟩,
  .op ⟨1, some 73, .mv (.t 74), none⟩])
 (.cond (.t 73) (.reg [.op ⟨0, some 75, .mv (.t 6), none⟩,
  .op ⟨1, some 76, .call 5 [(.t 75)], none⟩]) (.reg [.op ⟨0, some 46, .mv (.t 6), none⟩,
  .op ⟨1, some 47, .call 6 [(.t 46)], none⟩])))))))))))))
 (.reg [.op ⟨0, some 34, .mv (.t 9), none⟩,
  .op ⟨1, some 35, .bin .add (.t 34) (.c (.one (.int .i64 1))), none⟩,
  .op ⟨2, some 9, .mv (.t 35), none⟩]))))))
 (.seq (.reg [.op ⟨0, some 77, .mv (.t 6), none⟩,
  .op ⟨1, some 78, .call 7 [(.t 77)], none⟩,
  .op ⟨2, some 11, .mv (.t 78), none⟩])
 (.seq (.reg [.op ⟨0, some 79, .mv (.t 6), none⟩,
  .op ⟨1, some 80, .call 2 [(.t 79), (.c (.one (.int .u8 255)))], none⟩])
 (.seq (.reg [.op ⟨0, some 81, .mv (.t 6), none⟩,
  .op ⟨1, some 82, .call 8 [(.t 81)], none⟩,
  .op ⟨2, some 12, .mv (.t 82), none⟩])
 (.seq (.reg [.op ⟨0, some 83, .mv (.t 6), none⟩,
  .op ⟨1, some 84, .call 2 [(.t 83), (.c (.one (.int .u8 144)))], none⟩])
 (.seq (.reg [.op ⟨0, some 85, .mv (.t 6), none⟩,
  .op ⟨1, some 86, .call 3 [(.t 85), (.c (.one (.int .u8 0)))], none⟩])
 (.seq (.reg [.op ⟨0, some 87, .mv (.t 5), none⟩,
  .op ⟨1, some 88, .call 9 [(.t 87)], none⟩,
  .op ⟨2, some 89, .mv (.t 8), none⟩,
  .op ⟨3, some 90, .bin .leq (.t 88) (.t 89), none⟩,
  .op ⟨4, some 91, .mv (.t 90), none⟩,
  .op ⟨5, some 92, .mv (.t 12), some (91, true)⟩,
  .op ⟨6, some 93, .bin .eql (.t 92) (.c (.one (.int .i64 3))), some (91, true)⟩,
  .op ⟨7, some 94, .pick (.t 91) (.t 93) (.c (.one (.bool false))), none⟩,
  .op ⟨8, some 95, .mv (.t 94), none⟩,
  .op ⟨9, some 96, .mv (.t 6), some (95, true)⟩,
  .op ⟨10, some 97, .call 10 [(.t 96), (.c (.one (.int .i64 3)))], some (95, true)⟩,
  .op ⟨11, some 98, .bin .eql (.t 97) (.c (.one (.str [84, 66, 1]))), some (95, true)⟩,
  .op ⟨12, some 99, .pick (.t 95) (.t 98) (.c (.one (.bool false))), none⟩,
  .op ⟨13, some 100, .mv (.t 99), none⟩,
  .op ⟨14, some 101, .mv (.t 6), some (100, true)⟩,
  .op ⟨15, some 102, .call 7 [(.t 101)], some (100, true)⟩,
  .op ⟨16, some 103, .mv (.t 11), some (100, true)⟩,
  .op ⟨17, some 104, .bin .eql (.t 102) (.t 103), some (100, true)⟩,
  .op ⟨18, some 105, .pick (.t 100) (.t 104) (.c (.one (.bool false))), none⟩,
  .op ⟨19, some 4, .mv (.t 105), none⟩])
 (.ret)))))))))))⟩
noncomputable def law31_BusWild.s1 (x1 : Sl) (r3 : ((Ptr × Ptr × Bool × Unit) × Heap)) (s5 : (Int × Int × Unit)) (H6 : Heap) : Option (((Int × Int × Unit) ⊕ (Int × Unit)) × Heap) :=
 cond (decide (s5.2.1 < (x1.len : Int))) (
 cond (decide (s5.2.1 < 150)) (
 (Sl.at 2 x1 s5.2.1).bind fun (a7 : (Nat × Nat)) =>
 (rdI .u8 H6 a7.1 (a7.2 + 1)).bind fun (v8 : Int) =>
 (Sl.at 2 x1 s5.2.1).bind fun (a9 : (Nat × Nat)) =>
 (rdI .i64 H6 a9.1 a9.2).bind fun (v10 : Int) =>
 cond (decide (v10 = 0)) (
 (bus_Bus_Command r3.1.2.1 v8 H6).bind fun (r11 : ((Unit) × Heap)) =>
 cond (decide (v8 = 16)) (
 some (Sum.inl ((IntKind.wrap .i64 (s5.1 + 1)), (IntKind.wrap .i64 (s5.2.1 + 1)), ()), r11.2)) (
 cond (decide (v8 = 208)) (
 some (Sum.inl ((IntKind.wrap .i64 (s5.1 + 1)), (IntKind.wrap .i64 (s5.2.1 + 1)), ()), r11.2)) (
 some (Sum.inl (s5.1, (IntKind.wrap .i64 (s5.2.1 + 1)), ()), r11.2)))) (
 cond (decide (v10 = 1)) (
 (bus_Bus_Address r3.1.2.1 v8 H6).bind fun (r12 : ((Unit) × Heap)) =>
 some (Sum.inl ((IntKind.wrap .i64 (s5.1 + 1)), (IntKind.wrap .i64 (s5.2.1 + 1)), ()), r12.2)) (
 cond (decide (v10 = 2)) (
 (bus_Bus_In r3.1.2.1 v8 H6).bind fun (r13 : ((Unit) × Heap)) =>
 some (Sum.inl (s5.1, (IntKind.wrap .i64 (s5.2.1 + 1)), ()), r13.2)) (
 cond (decide (v10 = 3)) (
 (bus_Bus_Out r3.1.2.1 H6).bind fun (r14 : ((Int × Unit) × Heap)) =>
 some (Sum.inl (s5.1, (IntKind.wrap .i64 (s5.2.1 + 1)), ()), r14.2)) (
 (bus_Bus_Ready r3.1.2.1 H6).bind fun (r15 : ((Bool × Unit) × Heap)) =>
 some (Sum.inl (s5.1, (IntKind.wrap .i64 (s5.2.1 + 1)), ()), r15.2)))))) (
 some (Sum.inr (s5.1, ()), H6))) (
 some (Sum.inr (s5.1, ()), H6))
noncomputable def law31_BusWild (x0 : (Sl × Sl × Sl × Unit)) (x1 : Sl) (H : Heap) : Option ((Bool × Unit) × Heap) :=
 let H1 : Heap := H ++ [Blk.cells [.sl 3 x0.1, .sl 1 x0.2.1, .sl 1 x0.2.2.1] .exact]
 Option.bind (α := (Sl × Sl × Sl × Unit)) (rd H1 (.agg [.sl 3, .sl 1, .sl 1]) H.length 0) fun (v2 : (Sl × Sl × Sl × Unit)) =>
 (law31_begun (0, 0, 0, ()) (v2.1, v2.2.1, v2.2.2.1, ()) H1).bind fun (r3 : ((Ptr × Ptr × Bool × Unit) × Heap)) =>
 (law31_awake).bind fun (r4 : (Bool × Unit)) =>
 cond (!r4.1) (
 some ((false, ()), r3.2)) (
 cond (!r3.1.2.2.1) (
 some ((false, ()), r3.2)) (
 (loopW (law31_BusWild.s1 x1 r3) (0, 0, ()) r3.2).bind fun (p16 : (Int × Unit) × Heap) =>
 (bus_Bus_Wrong r3.1.2.1 p16.2).bind fun (r17 : ((Int × Unit) × Heap)) =>
 (bus_Bus_Command r3.1.2.1 255 r17.2).bind fun (r18 : ((Unit) × Heap)) =>
 (law31_polls r3.1.2.1 r18.2).bind fun (r19 : ((Int × Unit) × Heap)) =>
 (bus_Bus_Command r3.1.2.1 144 r19.2).bind fun (r20 : ((Unit) × Heap)) =>
 (bus_Bus_Address r3.1.2.1 0 r20.2).bind fun (r21 : ((Unit) × Heap)) =>
 (nand_Chip_Did r3.1.1 r21.2).bind fun (r22 : ((Int × Unit) × Heap)) =>
 cond (decide (r22.1.1 ≤ p16.1.1)) (
 cond (decide (r19.1.1 = 3)) (
 (law31_take r3.1.2.1 3 r22.2).bind fun (r23 : ((Bytes × Unit) × Heap)) =>
 cond (decide ((r23.1.1 : Bytes) = [84, 66, 1])) (
 (bus_Bus_Wrong r3.1.2.1 r23.2).bind fun (r24 : ((Int × Unit) × Heap)) =>
 some (((decide (r24.1.1 = r17.1.1)), ()), r24.2)) (
 some ((false, ()), r23.2))) (
 some ((false, ()), r22.2))) (
 some ((false, ()), r22.2))))
noncomputable def law31_BusWild.c : Callee := .full [.agg [.sl 3, .sl 1, .sl 1], .one (.sl 2)] [.one .bool] (fun x H => law31_BusWild x.1 x.2.1 H)
noncomputable def law31_BusWild.calls : Nat → Option Callee
  | 0 => some law31_begun.c
  | 1 => some law31_awake.c
  | 2 => some bus_Bus_Command.c
  | 3 => some bus_Bus_Address.c
  | 4 => some bus_Bus_In.c
  | 5 => some bus_Bus_Out.c
  | 6 => some bus_Bus_Ready.c
  | 7 => some bus_Bus_Wrong.c
  | 8 => some law31_polls.c
  | 9 => some nand_Chip_Did.c
  | 10 => some law31_take.c
  | _ => none
theorem law31_BusWild.eq : evFull law31_BusWild.calls law31_BusWild.af = (fun x H => law31_BusWild x.1 x.2.1 H) := by kernel_rfl
end Ev
