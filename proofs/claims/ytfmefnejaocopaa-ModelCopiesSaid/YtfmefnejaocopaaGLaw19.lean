/- What the functions of the package Law19 compute: abstract code, and a function of plain Lean for each; the kernel checks that they are the same. Written by gen2.py. -/
import Derived.Test.YtfmefnejaocopaaEvCore
import Derived.Test.YtfmefnejaocopaaGLaw17
import Derived.Test.YtfmefnejaocopaaGModel
import Derived.Test.YtfmefnejaocopaaGRef08
import Derived.Test.YtfmefnejaocopaaGRef16
import Derived.KernelRfl
set_option linter.unusedVariables false
set_option maxRecDepth 100000
namespace Ev
open Go (IntKind BinOp UnOp)

/-! ### tinderbox/tinderboxlaw19.room -/
def law19_room.af : AFun := ⟨[.one (.int .i64)], [.agg [.int .i64, .int .i64, .int .i64, .int .i64]], [.cell 2],
 .seq (.reg [.op ⟨0, some 2, .new [.int .i64 0, .int .i64 0, .int .i64 0, .int .i64 0], none⟩])
 (.seq (.reg [.op ⟨0, some 3, .mv (.t 0), none⟩,
  .op ⟨1, some 4, .bin .and (.t 3) (.c (.one (.int .i64 15))), none⟩,
  .op ⟨2, some 5, .bin .add (.c (.one (.int .i64 1))) (.t 4), none⟩,
  .op ⟨3, some 6, .mv (.t 0), none⟩,
  .op ⟨4, some 7, .bin .mul (.c (.one (.int .i64 2))) (.t 6), none⟩,
  .op ⟨5, some 8, .bin .and (.t 7) (.c (.one (.int .i64 31))), none⟩,
  .op ⟨6, some 9, .bin .add (.c (.one (.int .i64 2))) (.t 8), none⟩,
  .op ⟨7, some 10, .build [.int .i64 0, .int .i64 0, .int .i64 0, .int .i64 0] [(0, 1, (.t 5)), (1, 1, (.t 9))], none⟩,
  .op ⟨8, none, .store 4 (.t 2) (.t 10), none⟩])
 (.ret))⟩
noncomputable def law19_room.on (x0 : Int) (H : Heap) : Option ((Int × Int × Int × Int × Unit) × Unit) :=
 let H1 : Heap := H ++ [Blk.cells [.int .i64 0, .int .i64 0, .int .i64 0, .int .i64 0] .exact]
 (wr H1 H.length 0 [.int .i64 (IntKind.wrap .i64 (1 + (bitsI .and .i64 x0 15))), .int .i64 (IntKind.wrap .i64 (2 + (bitsI .and .i64 (IntKind.wrap .i64 (2 * x0)) 31))), .int .i64 0, .int .i64 0]).bind fun (H2 : Heap) =>
 Option.bind (α := (Int × Int × Int × Int × Unit)) (rd H2 (.agg [.int .i64, .int .i64, .int .i64, .int .i64]) H.length 0) fun (v3 : (Int × Int × Int × Int × Unit)) =>
 some (v3, ())
noncomputable def law19_room (x0 : Int) : Option ((Int × Int × Int × Int × Unit) × Unit) := law19_room.on x0 []
noncomputable def law19_room.c : Callee := .pure [.one (.int .i64)] [.agg [.int .i64, .int .i64, .int .i64, .int .i64]] (fun x => law19_room x.1)
noncomputable def law19_room.calls : Nat → Option Callee
  | _ => none
theorem law19_room.eq : evPure law19_room.calls law19_room.af = (fun x H => law19_room.on x.1 H) := by kernel_rfl

/-! ### tinderbox/tinderboxlaw19.awake -/
def law19_awake.af : AFun := ⟨[], [.one .bool], [.t 0],
 .seq (.reg [.op ⟨0, some 0, .mv (.c (.one (.bool false))), none⟩])
 (.seq (.reg [.op ⟨0, some 8, .call 0 [(.c (.one (.int .i64 9)))], none⟩,
  .op ⟨1, some 9, .call 1 [(.t 8), (.c (.one (.int .i64 64)))], none⟩,
  .op ⟨2, some 1, .mv (.t 9), none⟩])
 (.seq (.reg [.op ⟨0, some 10, .mv (.t 1), none⟩,
  .op ⟨1, some 11, .call 2 [(.t 10)], none⟩,
  .op ⟨2, some 12, .mv (.t 1), none⟩,
  .op ⟨3, some 13, .build [.int .i64 0, .int .i64 0, .int .i64 0, .int .i64 0, .int .i64 0, .int .i64 0] [(0, 1, (.c (.one (.int .i64 4)))), (1, 1, (.c (.one (.int .i64 1)))), (5, 1, (.c (.one (.int .i64 4))))], none⟩,
  .op ⟨4, some 14, .call 3 [(.t 12), (.t 13)], none⟩,
  .op ⟨5, some 15, .mv (.t 1), none⟩,
  .op ⟨6, some 16, .call 4 [(.t 15), (.c (.one (.int .i64 1))), (.c (.one (.int .i64 0))), (.c (.one (.str [116, 101, 120, 116])))], none⟩,
  .op ⟨7, some 17, .mv (.t 1), none⟩,
  .op ⟨8, some 18, .call 5 [(.t 17)], none⟩,
  .op ⟨9, some 2, .mv (.t 11), none⟩,
  .op ⟨10, some 3, .mv (.t 14), none⟩,
  .op ⟨11, some 4, .mv (.t 16), none⟩,
  .op ⟨12, some 5, .mv (.t 18), none⟩])
 (.seq (.reg [.op ⟨0, some 20, .mv (.t 1), none⟩,
  .op ⟨1, some 21, .call 6 [(.t 20), (.c (.one (.int .i64 1))), (.c (.one (.int .i64 0)))], none⟩,
  .op ⟨2, some 19, .mv (.t 21), none⟩,
  .op ⟨3, some 22, .ext (.t 19) 0, none⟩,
  .op ⟨4, some 23, .ext (.t 19) 1, none⟩,
  .op ⟨5, some 6, .mv (.t 22), none⟩,
  .op ⟨6, some 7, .mv (.t 23), none⟩])
 (.seq (.reg [.op ⟨0, some 24, .mv (.t 2), none⟩,
  .op ⟨1, some 25, .bin .eql (.t 24) (.c (.one (.int .i64 0))), none⟩,
  .op ⟨2, some 26, .mv (.t 25), none⟩,
  .op ⟨3, some 27, .mv (.t 3), some (26, true)⟩,
  .op ⟨4, some 28, .bin .eql (.t 27) (.c (.one (.int .i64 0))), some (26, true)⟩,
  .op ⟨5, some 29, .pick (.t 26) (.t 28) (.c (.one (.bool false))), none⟩,
  .op ⟨6, some 30, .mv (.t 29), none⟩,
  .op ⟨7, some 31, .mv (.t 4), some (30, true)⟩,
  .op ⟨8, some 32, .bin .eql (.t 31) (.c (.one (.int .i64 0))), some (30, true)⟩,
  .op ⟨9, some 33, .pick (.t 30) (.t 32) (.c (.one (.bool false))), none⟩,
  .op ⟨10, some 34, .mv (.t 33), none⟩,
  .op ⟨11, some 35, .mv (.t 5), some (34, true)⟩,
  .op ⟨12, some 36, .bin .eql (.t 35) (.c (.one (.int .i64 0))), some (34, true)⟩,
  .op ⟨13, some 37, .pick (.t 34) (.t 36) (.c (.one (.bool false))), none⟩,
  .op ⟨14, some 38, .mv (.t 37), none⟩,
  .op ⟨15, some 39, .mv (.t 7), some (38, true)⟩,
  .op ⟨16, some 40, .bin .eql (.t 39) (.c (.one (.int .i64 0))), some (38, true)⟩,
  .op ⟨17, some 41, .pick (.t 38) (.t 40) (.c (.one (.bool false))), none⟩,
  .op ⟨18, some 42, .mv (.t 41), none⟩,
  .op ⟨19, some 43, .mv (.t 6), some (42, true)⟩,
  .op ⟨20, some 44, .bin .eql (.t 43) (.c (.one (.str [116, 101, 120, 116]))), some (42, true)⟩,
  .op ⟨21, some 45, .pick (.t 42) (.t 44) (.c (.one (.bool false))), none⟩,
  .op ⟨22, some 46, .mv (.t 45), none⟩,
  .op ⟨23, some 47, .mv (.t 1), some (46, true)⟩,
  .op ⟨24, some 48, .call 7 [(.t 47)], some (46, true)⟩,
  .op ⟨25, some 49, .len (.t 48), some (46, true)⟩,
  .op ⟨26, some 50, .bin .eql (.t 49) (.c (.one (.int .i64 1))), some (46, true)⟩,
  .op ⟨27, some 51, .pick (.t 46) (.t 50) (.c (.one (.bool false))), none⟩,
  .op ⟨28, some 52, .mv (.t 51), none⟩,
  .op ⟨29, some 53, .mv (.t 1), some (52, true)⟩,
  .op ⟨30, some 54, .call 8 [(.t 53)], some (52, true)⟩,
  .op ⟨31, some 55, .len (.t 54), some (52, true)⟩,
  .op ⟨32, some 56, .bin .eql (.t 55) (.c (.one (.int .i64 1))), some (52, true)⟩,
  .op ⟨33, some 57, .pick (.t 52) (.t 56) (.c (.one (.bool false))), none⟩,
  .op ⟨34, some 0, .mv (.t 57), none⟩])
 (.ret)))))⟩
noncomputable def law19_awake.on (H : Heap) : Option (Bool × Unit) :=
 (law19_room 9).bind fun (r1 : ((Int × Int × Int × Int × Unit) × Unit)) =>
 (model_New (r1.1.1, r1.1.2.1, r1.1.2.2.1, r1.1.2.2.2.1, ()) 64 H).bind fun (r2 : ((Ptr × Unit) × Heap)) =>
 (model_Model_Begin r2.1.1 r2.2).bind fun (r3 : ((Int × Unit) × Heap)) =>
 (model_Model_Do r2.1.1 (4, 1, 0, 0, 0, 4, ()) r3.2).bind fun (r4 : ((Int × Unit) × Heap)) =>
 (model_Model_Put r2.1.1 1 0 [116, 101, 120, 116] r4.2).bind fun (r5 : ((Int × Unit) × Heap)) =>
 (model_Model_Commit r2.1.1 r5.2).bind fun (r6 : ((Int × Unit) × Heap)) =>
 (model_Model_Get r2.1.1 1 0 r6.2).bind fun (r7 : ((Bytes × Int × Unit) × Heap)) =>
 cond (decide (r3.1.1 = 0)) (
 cond (decide (r4.1.1 = 0)) (
 cond (decide (r5.1.1 = 0)) (
 cond (decide (r6.1.1 = 0)) (
 cond (decide (r7.1.2.1 = 0)) (
 cond (decide ((r7.1.1 : Bytes) = [116, 101, 120, 116])) (
 (model_Model_Leaves r2.1.1 r7.2).bind fun (r8 : ((Sl × Unit) × Heap)) =>
 cond (decide ((r8.1.1.len : Int) = 1)) (
 (model_Model_Spaces r2.1.1 r8.2).bind fun (r9 : ((Sl × Unit) × Heap)) =>
 some ((decide ((r9.1.1.len : Int) = 1)), ())) (
 some (false, ()))) (
 some (false, ()))) (
 some (false, ()))) (
 some (false, ()))) (
 some (false, ()))) (
 some (false, ()))) (
 some (false, ()))
noncomputable def law19_awake  : Option (Bool × Unit) := law19_awake.on []
noncomputable def law19_awake.c : Callee := .pure [] [.one .bool] (fun _ => law19_awake)
noncomputable def law19_awake.calls : Nat → Option Callee
  | 0 => some law19_room.c
  | 1 => some model_New.c
  | 2 => some model_Model_Begin.c
  | 3 => some model_Model_Do.c
  | 4 => some model_Model_Put.c
  | 5 => some model_Model_Commit.c
  | 6 => some model_Model_Get.c
  | 7 => some model_Model_Leaves.c
  | 8 => some model_Model_Spaces.c
  | _ => none
theorem law19_awake.eq : evPure law19_awake.calls law19_awake.af = (fun _ H => law19_awake.on H) := by kernel_rfl

/-! ### tinderbox/tinderboxlaw19.same -/
def law19_same.af : AFun := ⟨[.one .ptr, .agg [.sl 3, .sl 3, .sl 1, .sl 2, .sl 1]], [.one .bool], [.t 4],
 .seq (.reg [.op ⟨0, some 3, .box (.t 1), none⟩,
  .op ⟨1, some 4, .mv (.c (.one (.bool false))), none⟩])
 (.seq (.reg [.op ⟨0, some 15, .mv (.t 0), none⟩,
  .op ⟨1, some 16, .call 0 [(.t 15)], none⟩,
  .op ⟨2, some 17, .mv (.t 0), none⟩,
  .op ⟨3, some 18, .call 1 [(.t 17)], none⟩,
  .op ⟨4, some 5, .mv (.t 16), none⟩,
  .op ⟨5, some 6, .mv (.t 18), none⟩])
 (.seq (.seq (.reg [.op ⟨0, some 19, .mv (.t 5), none⟩,
  .op ⟨1, some 20, .len (.t 19), none⟩,
  .op ⟨2, some 21, .addr 0 (.t 3), none⟩,
  .op ⟨3, some 22, .addr 0 (.t 21), none⟩,
  .op ⟨4, some 23, .load (.one (.sl 3)) (.t 22), none⟩,
  .op ⟨5, some 24, .len (.t 23), none⟩,
  .op ⟨6, some 25, .bin .neq (.t 20) (.t 24), none⟩,
  .op ⟨7, some 26, .mv (.t 25), none⟩,
  .op ⟨8, some 27, .mv (.t 6), some (26, false)⟩,
  .op ⟨9, some 28, .len (.t 27), some (26, false)⟩,
  .op ⟨10, some 29, .addr 0 (.t 3), some (26, false)⟩,
  .op ⟨11, some 30, .addr 1 (.t 29), some (26, false)⟩,
  .op ⟨12, some 31, .load (.one (.sl 3)) (.t 30), some (26, false)⟩,
  .op ⟨13, some 32, .len (.t 31), some (26, false)⟩,
  .op ⟨14, some 33, .bin .neq (.t 28) (.t 32), some (26, false)⟩,
  .op ⟨15, some 34, .pick (.t 26) (.c (.one (.bool true))) (.t 33), none⟩])
 (.cond (.t 34) (.seq (.reg [.op ⟨0, some 4, .mv (.c (.one (.bool false))), none⟩])
 (.ret)) (.skip)))
 (.seq (.seq (.reg [.op ⟨0, some 7, .mv (.c (.one (.int .i64 0))), none⟩])
 (.block 0 (.loop [(7, .one (.int .i64))] [(.exit 0, []), (.ret, [(4, .one .bool)])] (.seq (.seq (.reg [.op ⟨0, some 35, .mv (.t 7), none⟩,
  .op ⟨1, some 36, .mv (.t 5), none⟩,
  .op ⟨2, some 37, .len (.t 36), none⟩,
  .op ⟨3, some 38, .bin .lss (.t 35) (.t 37), none⟩])
 (.cond (.t 38) (.skip) (.exit 0)))
 (.seq (.block 1 (.seq (.reg [.op ⟨0, some 41, .addr 0 (.t 3), none⟩,
  .op ⟨1, some 42, .addr 0 (.t 41), none⟩,
  .op ⟨2, some 43, .load (.one (.sl 3)) (.t 42), none⟩,
  .op ⟨3, some 44, .mv (.t 7), none⟩,
  .op ⟨4, some 45, .idxa 3 (.t 43) (.t 44), none⟩,
  .op ⟨5, some 46, .load (.agg [.int .i64, .int .i64, .bool]) (.t 45), none⟩,
  .op ⟨6, some 8, .new [.int .i64 0, .int .i64 0, .bool false], none⟩,
  .op ⟨7, none, .store 3 (.t 8) (.t 46), none⟩])
 (.seq (.reg [.op ⟨0, some 47, .mv (.t 5), none⟩,
  .op ⟨1, some 48, .mv (.t 7), none⟩,
  .op ⟨2, some 49, .idxa 4 (.t 47) (.t 48), none⟩,
  .op ⟨3, some 50, .load (.agg [.int .i64, .int .i64, .int .i64, .bool]) (.t 49), none⟩,
  .op ⟨4, some 51, .addr 0 (.t 8), none⟩,
  .op ⟨5, some 52, .load (.one (.int .i64)) (.t 51), none⟩,
  .op ⟨6, some 53, .addr 1 (.t 8), none⟩,
  .op ⟨7, some 54, .load (.one (.int .i64)) (.t 53), none⟩,
  .op ⟨8, some 55, .addr 0 (.t 3), none⟩,
  .op ⟨9, some 56, .load (.agg [.sl 3, .sl 3, .sl 1, .sl 2]) (.t 55), none⟩,
  .op ⟨10, some 57, .addr 0 (.t 8), none⟩,
  .op ⟨11, some 58, .load (.one (.int .i64)) (.t 57), none⟩,
  .op ⟨13, some 60, .addr 2 (.t 8), none⟩,
  .op ⟨14, some 61, .load (.one .bool) (.t 60), none⟩,
  .op ⟨12, some 59, .call 2 [(.t 56), (.t 58)], none⟩,
  .op ⟨15, some 62, .build [.int .i64 0, .int .i64 0, .int .i64 0, .bool false] [(0, 1, (.t 52)), (1, 1, (.t 54)), (2, 1, (.t 59)), (3, 1, (.t 61))], none⟩,
  .op ⟨16, some 63, .eqagg true [.int .i64, .int .i64, .int .i64, .bool] (.t 50) (.t 62), none⟩,
  .again ⟨3, some 50, .load (.agg [.int .i64, .int .i64, .int .i64, .bool]) (.t 49), none⟩,
  .again ⟨5, some 52, .load (.one (.int .i64)) (.t 51), none⟩,
  .again ⟨7, some 54, .load (.one (.int .i64)) (.t 53), none⟩,
  .again ⟨14, some 61, .load (.one .bool) (.t 60), none⟩])
 (.cond (.t 63) (.seq (.reg [.op ⟨0, some 4, .mv (.c (.one (.bool false))), none⟩])
 (.ret)) (.skip)))))
 (.reg [.op ⟨0, some 39, .mv (.t 7), none⟩,
  .op ⟨1, some 40, .bin .add (.t 39) (.c (.one (.int .i64 1))), none⟩,
  .op ⟨2, some 7, .mv (.t 40), none⟩]))))))
 (.seq (.seq (.reg [.op ⟨0, some 9, .mv (.c (.one (.int .i64 0))), none⟩])
 (.block 2 (.loop [(9, .one (.int .i64))] [(.exit 2, []), (.ret, [(4, .one .bool)])] (.seq (.seq (.reg [.op ⟨0, some 64, .mv (.t 9), none⟩,
  .op ⟨1, some 65, .mv (.t 6), none⟩,
  .op ⟨2, some 66, .len (.t 65), none⟩,
  .op ⟨3, some 67, .bin .lss (.t 64) (.t 66), none⟩])
 (.cond (.t 67) (.skip) (.exit 2)))
 (.seq (.block 3 (.seq (.reg [.op ⟨0, some 70, .addr 0 (.t 3), none⟩,
  .op ⟨1, some 71, .addr 1 (.t 70), none⟩,
  .op ⟨2, some 72, .load (.one (.sl 3)) (.t 71), none⟩,
  .op ⟨3, some 73, .mv (.t 9), none⟩,
  .op ⟨4, some 74, .idxa 3 (.t 72) (.t 73), none⟩,
  .op ⟨5, some 75, .load (.agg [.int .i64, .int .i64, .int .i64]) (.t 74), none⟩,
  .op ⟨6, some 10, .new [.int .i64 0, .int .i64 0, .int .i64 0], none⟩,
  .op ⟨7, none, .store 3 (.t 10) (.t 75), none⟩])
 (.seq (.reg [.op ⟨0, some 77, .load (.agg [.sl 3, .sl 3, .sl 1, .sl 2, .sl 1]) (.t 3), none⟩,
  .op ⟨1, some 78, .addr 0 (.t 10), none⟩,
  .op ⟨2, some 79, .load (.one (.int .i64)) (.t 78), none⟩,
  .op ⟨3, some 80, .addr 1 (.t 10), none⟩,
  .op ⟨4, some 81, .load (.one (.int .i64)) (.t 80), none⟩,
  .op ⟨5, some 82, .call 3 [(.t 77), (.t 79), (.t 81)], none⟩,
  .op ⟨6, some 76, .mv (.t 82), none⟩,
  .op ⟨7, some 83, .ext (.t 76) 0, none⟩,
  .op ⟨8, some 84, .ext (.t 76) 1, none⟩,
  .op ⟨9, some 11, .mv (.t 83), none⟩,
  .op ⟨10, some 12, .mv (.t 84), none⟩])
 (.seq (.reg [.op ⟨0, some 86, .mv (.t 0), none⟩,
  .op ⟨1, some 87, .addr 0 (.t 10), none⟩,
  .op ⟨2, some 88, .load (.one (.int .i64)) (.t 87), none⟩,
  .op ⟨3, some 89, .addr 1 (.t 10), none⟩,
  .op ⟨4, some 90, .load (.one (.int .i64)) (.t 89), none⟩,
  .op ⟨5, some 91, .call 4 [(.t 86), (.t 88), (.t 90)], none⟩,
  .op ⟨6, some 85, .mv (.t 91), none⟩,
  .op ⟨7, some 92, .ext (.t 85) 0, none⟩,
  .op ⟨8, some 93, .ext (.t 85) 1, none⟩,
  .op ⟨9, some 13, .mv (.t 92), none⟩,
  .op ⟨10, some 14, .mv (.t 93), none⟩])
 (.seq (.reg [.op ⟨0, some 94, .mv (.t 6), none⟩,
  .op ⟨1, some 95, .mv (.t 9), none⟩,
  .op ⟨2, some 96, .idxa 3 (.t 94) (.t 95), none⟩,
  .op ⟨3, some 97, .load (.agg [.int .i64, .int .i64, .str]) (.t 96), none⟩,
  .op ⟨4, some 98, .addr 0 (.t 10), none⟩,
  .op ⟨5, some 99, .load (.one (.int .i64)) (.t 98), none⟩,
  .op ⟨6, some 100, .addr 1 (.t 10), none⟩,
  .op ⟨7, some 101, .load (.one (.int .i64)) (.t 100), none⟩,
  .op ⟨8, some 102, .mv (.t 11), none⟩,
  .op ⟨9, some 103, .build [.int .i64 0, .int .i64 0, .str []] [(0, 1, (.t 99)), (1, 1, (.t 101)), (2, 1, (.t 102))], none⟩,
  .op ⟨10, some 104, .eqagg true [.int .i64, .int .i64, .str] (.t 97) (.t 103), none⟩,
  .op ⟨11, some 105, .mv (.t 104), none⟩,
  .op ⟨12, some 106, .mv (.t 14), some (105, false)⟩,
  .op ⟨13, some 107, .bin .neq (.t 106) (.c (.one (.int .i64 0))), some (105, false)⟩,
  .op ⟨14, some 108, .pick (.t 105) (.c (.one (.bool true))) (.t 107), none⟩,
  .op ⟨15, some 109, .mv (.t 108), none⟩,
  .op ⟨16, some 110, .mv (.t 13), some (109, false)⟩,
  .op ⟨17, some 111, .mv (.t 11), some (109, false)⟩,
  .op ⟨18, some 112, .bin .neq (.t 110) (.t 111), some (109, false)⟩,
  .op ⟨19, some 113, .pick (.t 109) (.c (.one (.bool true))) (.t 112), none⟩])
 (.cond (.t 113) (.seq (.reg [.op ⟨0, some 4, .mv (.c (.one (.bool false))), none⟩])
 (.ret)) (.skip)))))))
 (.reg [.op ⟨0, some 68, .mv (.t 9), none⟩,
  .op ⟨1, some 69, .bin .add (.t 68) (.c (.one (.int .i64 1))), none⟩,
  .op ⟨2, some 9, .mv (.t 69), none⟩]))))))
 (.seq (.reg [.op ⟨0, some 4, .mv (.c (.one (.bool true))), none⟩])
 (.ret))))))⟩
noncomputable def law19_same.s1 (H : Heap) (r2 : ((Sl × Unit) × Heap)) (s6 : (Int × Unit)) (H7 : Heap) : Option (((Int × Unit) ⊕ ((Unit) ⊕ (Bool × Unit))) × Heap) :=
 cond (decide (s6.1 < (r2.1.1.len : Int))) (
 (rdSl 3 H7 H.length 0).bind fun (v8 : Sl) =>
 (Sl.at 3 v8 s6.1).bind fun (a9 : (Nat × Nat)) =>
 Option.bind (α := (Int × Int × Bool × Unit)) (rd H7 (.agg [.int .i64, .int .i64, .bool]) a9.1 a9.2) fun (v10 : (Int × Int × Bool × Unit)) =>
 let H11 : Heap := H7 ++ [Blk.cells [.int .i64 0, .int .i64 0, .bool false] .exact]
 (wr H11 H7.length 0 [.int .i64 v10.1, .int .i64 v10.2.1, .bool v10.2.2.1]).bind fun (H12 : Heap) =>
 (Sl.at 4 r2.1.1 s6.1).bind fun (a13 : (Nat × Nat)) =>
 Option.bind (α := (Int × Int × Int × Bool × Unit)) (rd H12 (.agg [.int .i64, .int .i64, .int .i64, .bool]) a13.1 a13.2) fun (v14 : (Int × Int × Int × Bool × Unit)) =>
 (rdI .i64 H12 H7.length 0).bind fun (v15 : Int) =>
 (rdI .i64 H12 H7.length 1).bind fun (v16 : Int) =>
 Option.bind (α := (Sl × Sl × Sl × Sl × Unit)) (rd H12 (.agg [.sl 3, .sl 3, .sl 1, .sl 2]) H.length 0) fun (v17 : (Sl × Sl × Sl × Sl × Unit)) =>
 (rdI .i64 H12 H7.length 0).bind fun (v18 : Int) =>
 (rdB H12 H7.length 2).bind fun (v19 : Bool) =>
 (ref08_State_Pages (v17.1, v17.2.1, v17.2.2.1, v17.2.2.2.1, ()) v18 H12).bind fun (r20 : ((Int × Unit) × Heap)) =>
 Option.bind (α := (Int × Int × Int × Bool × Unit)) (rd r20.2 (.agg [.int .i64, .int .i64, .int .i64, .bool]) a13.1 a13.2) fun (v21 : (Int × Int × Int × Bool × Unit)) =>
 if V.w (.agg [.int .i64 v21.1, .int .i64 v21.2.1, .int .i64 v21.2.2.1, .bool v21.2.2.2.1]) = V.w (.agg [.int .i64 v14.1, .int .i64 v14.2.1, .int .i64 v14.2.2.1, .bool v14.2.2.2.1]) then
 (rdI .i64 r20.2 H7.length 0).bind fun (v22 : Int) =>
 if V.w (.one (.int .i64 v22)) = V.w (.one (.int .i64 v15)) then
 (rdI .i64 r20.2 H7.length 1).bind fun (v23 : Int) =>
 if V.w (.one (.int .i64 v23)) = V.w (.one (.int .i64 v16)) then
 (rdB r20.2 H7.length 2).bind fun (v24 : Bool) =>
 if V.w (.one (.bool v24)) = V.w (.one (.bool v19)) then
 cond (!((decide (v14.1 = v15)) && ((decide (v14.2.1 = v16)) && ((decide (v14.2.2.1 = r20.1.1)) && ((v14.2.2.2.1 == v19) && true))))) (
 some (Sum.inr (Sum.inr (false, ())), r20.2)) (
 some (Sum.inl ((IntKind.wrap .i64 (s6.1 + 1)), ()), r20.2))
 else none
 else none
 else none
 else none) (
 some (Sum.inr (Sum.inl (())), H7))
noncomputable def law19_same.s2 (x0 : Ptr) (H : Heap) (r3 : ((Sl × Unit) × Heap)) (s27 : (Int × Unit)) (H28 : Heap) : Option (((Int × Unit) ⊕ ((Unit) ⊕ (Bool × Unit))) × Heap) :=
 cond (decide (s27.1 < (r3.1.1.len : Int))) (
 (rdSl 3 H28 H.length 1).bind fun (v29 : Sl) =>
 (Sl.at 3 v29 s27.1).bind fun (a30 : (Nat × Nat)) =>
 Option.bind (α := (Int × Int × Int × Unit)) (rd H28 (.agg [.int .i64, .int .i64, .int .i64]) a30.1 a30.2) fun (v31 : (Int × Int × Int × Unit)) =>
 let H32 : Heap := H28 ++ [Blk.cells [.int .i64 0, .int .i64 0, .int .i64 0] .exact]
 (wr H32 H28.length 0 [.int .i64 v31.1, .int .i64 v31.2.1, .int .i64 v31.2.2.1]).bind fun (H33 : Heap) =>
 Option.bind (α := (Sl × Sl × Sl × Sl × Sl × Unit)) (rd H33 (.agg [.sl 3, .sl 3, .sl 1, .sl 2, .sl 1]) H.length 0) fun (v34 : (Sl × Sl × Sl × Sl × Sl × Unit)) =>
 (rdI .i64 H33 H28.length 0).bind fun (v35 : Int) =>
 (rdI .i64 H33 H28.length 1).bind fun (v36 : Int) =>
 (ref16_Plain_Get (v34.1, v34.2.1, v34.2.2.1, v34.2.2.2.1, v34.2.2.2.2.1, ()) v35 v36 H33).bind fun (r37 : ((Bytes × Bool × Unit) × Heap)) =>
 (rdI .i64 r37.2 H28.length 0).bind fun (v38 : Int) =>
 (rdI .i64 r37.2 H28.length 1).bind fun (v39 : Int) =>
 (model_Model_Get x0 v38 v39 r37.2).bind fun (r40 : ((Bytes × Int × Unit) × Heap)) =>
 (Sl.at 3 r3.1.1 s27.1).bind fun (a41 : (Nat × Nat)) =>
 Option.bind (α := (Int × Int × Bytes × Unit)) (rd r40.2 (.agg [.int .i64, .int .i64, .str]) a41.1 a41.2) fun (v42 : (Int × Int × Bytes × Unit)) =>
 (rdI .i64 r40.2 H28.length 0).bind fun (v43 : Int) =>
 (rdI .i64 r40.2 H28.length 1).bind fun (v44 : Int) =>
 cond (!((decide (v42.1 = v43)) && ((decide (v42.2.1 = v44)) && ((decide ((v42.2.2.1 : Bytes) = r37.1.1)) && true)))) (
 some (Sum.inr (Sum.inr (false, ())), r40.2)) (
 cond (!decide (r40.1.2.1 = 0)) (
 some (Sum.inr (Sum.inr (false, ())), r40.2)) (
 cond (!decide ((r40.1.1 : Bytes) = r37.1.1)) (
 some (Sum.inr (Sum.inr (false, ())), r40.2)) (
 some (Sum.inl ((IntKind.wrap .i64 (s27.1 + 1)), ()), r40.2))))) (
 some (Sum.inr (Sum.inl (())), H28))
noncomputable def law19_same (x0 : Ptr) (x1 : (Sl × Sl × Sl × Sl × Sl × Unit)) (H : Heap) : Option ((Bool × Unit) × Heap) :=
 let H1 : Heap := H ++ [Blk.cells [.sl 3 x1.1, .sl 3 x1.2.1, .sl 1 x1.2.2.1, .sl 2 x1.2.2.2.1, .sl 1 x1.2.2.2.2.1] .exact]
 (model_Model_Spaces x0 H1).bind fun (r2 : ((Sl × Unit) × Heap)) =>
 (model_Model_Leaves x0 r2.2).bind fun (r3 : ((Sl × Unit) × Heap)) =>
 (rdSl 3 r3.2 H.length 0).bind fun (v4 : Sl) =>
 cond (!decide ((r2.1.1.len : Int) = (v4.len : Int))) (
 some ((false, ()), r3.2)) (
 (rdSl 3 r3.2 H.length 1).bind fun (v5 : Sl) =>
 cond (!decide ((r3.1.1.len : Int) = (v5.len : Int))) (
 some ((false, ()), r3.2)) (
 (loopW (law19_same.s1 H r2) (0, ()) r3.2).bind fun (p25 : ((Unit) ⊕ (Bool × Unit)) × Heap) =>
 Sum.elim (fun (y26 : (Unit)) =>
 (loopW (law19_same.s2 x0 H r3) (0, ()) p25.2).bind fun (p45 : ((Unit) ⊕ (Bool × Unit)) × Heap) =>
 Sum.elim (fun (y46 : (Unit)) =>
 some ((true, ()), p45.2)) (fun (z47 : (Bool × Unit)) =>
 some ((z47.1, ()), p45.2)) p45.1) (fun (z48 : (Bool × Unit)) =>
 some ((z48.1, ()), p25.2)) p25.1))
noncomputable def law19_same.c : Callee := .full [.one .ptr, .agg [.sl 3, .sl 3, .sl 1, .sl 2, .sl 1]] [.one .bool] (fun x H => law19_same x.1 x.2.1 H)
noncomputable def law19_same.calls : Nat → Option Callee
  | 0 => some model_Model_Spaces.c
  | 1 => some model_Model_Leaves.c
  | 2 => some ref08_State_Pages.c
  | 3 => some ref16_Plain_Get.c
  | 4 => some model_Model_Get.c
  | _ => none
theorem law19_same.eq : evFull law19_same.calls law19_same.af = (fun x H => law19_same x.1 x.2.1 H) := by kernel_rfl

/-! ### tinderbox/tinderboxlaw19.ModelPlays -/
def law19_ModelPlays.af : AFun := ⟨[.one (.sl 8), .one (.int .i64)], [.one .bool], [.t 4],
 .seq (.reg [.op ⟨0, some 4, .mv (.c (.one (.bool false))), none⟩])
 (.seq (.reg [.op ⟨0, some 15, .mv (.t 1), none⟩,
  .op ⟨1, some 16, .call 0 [(.t 15)], none⟩,
  .op ⟨2, some 5, .new [.int .i64 0, .int .i64 0, .int .i64 0, .int .i64 0], none⟩,
  .op ⟨3, none, .store 4 (.t 5) (.t 16), none⟩])
 (.seq (.reg [.op ⟨0, some 17, .load (.agg [.int .i64, .int .i64, .int .i64, .int .i64]) (.t 5), none⟩,
  .op ⟨1, some 18, .call 1 [(.t 17), (.c (.one (.int .i64 64)))], none⟩,
  .op ⟨2, some 19, .build [.sl 3 Sl.nil, .sl 3 Sl.nil, .sl 1 Sl.nil, .sl 2 Sl.nil, .sl 1 Sl.nil] [], none⟩,
  .op ⟨3, some 20, .build [.sl 3 Sl.nil, .sl 3 Sl.nil, .sl 1 Sl.nil, .sl 2 Sl.nil, .sl 1 Sl.nil, .int .i64 0] [], none⟩,
  .op ⟨4, some 7, .new [.sl 3 Sl.nil, .sl 3 Sl.nil, .sl 1 Sl.nil, .sl 2 Sl.nil, .sl 1 Sl.nil], none⟩,
  .op ⟨5, some 9, .new [.sl 3 Sl.nil, .sl 3 Sl.nil, .sl 1 Sl.nil, .sl 2 Sl.nil, .sl 1 Sl.nil, .int .i64 0], none⟩,
  .op ⟨6, some 6, .mv (.t 18), none⟩,
  .op ⟨7, none, .store 5 (.t 7) (.t 19), none⟩,
  .op ⟨8, some 8, .mv (.c (.one (.bool false))), none⟩,
  .op ⟨9, none, .store 6 (.t 9) (.t 20), none⟩])
 (.seq (.seq (.reg [.op ⟨0, some 21, .call 2 [], none⟩,
  .op ⟨1, some 22, .un .not (.t 21), none⟩])
 (.cond (.t 22) (.seq (.reg [.op ⟨0, some 4, .mv (.c (.one (.bool false))), none⟩])
 (.ret)) (.skip)))
 (.seq (.seq (.reg [.op ⟨0, some 10, .mv (.c (.one (.int .i64 0))), none⟩])
 (.block 0 (.loop [(8, .one .bool), (10, .one (.int .i64))] [(.exit 0, []), (.ret, [(4, .one .bool)])] (.seq (.seq (.reg [.op ⟨0, some 23, .mv (.t 10), none⟩,
  .op ⟨1, some 24, .mv (.t 0), none⟩,
  .op ⟨2, some 25, .len (.t 24), none⟩,
  .op ⟨3, some 26, .bin .lss (.t 23) (.t 25), none⟩,
  .op ⟨4, some 27, .mv (.t 26), none⟩,
  .op ⟨5, some 28, .mv (.t 10), some (27, true)⟩,
  .op ⟨6, some 29, .bin .lss (.t 28) (.c (.one (.int .i64 100))), some (27, true)⟩,
  .op ⟨7, some 30, .pick (.t 27) (.t 29) (.c (.one (.bool false))), none⟩])
 (.cond (.t 30) (.skip) (.exit 0)))
 (.seq (.block 1 (.seq (.reg [.op ⟨0, some 33, .mv (.t 0), none⟩,
  .op ⟨1, some 34, .mv (.t 10), none⟩,
  .op ⟨2, some 35, .idxa 8 (.t 33) (.t 34), none⟩,
  .op ⟨3, some 36, .addr 1 (.t 35), none⟩,
  .op ⟨4, some 37, .load (.agg [.int .i64, .int .i64, .int .i64, .int .i64, .int .i64, .int .i64, .str]) (.t 36), none⟩,
  .op ⟨5, some 11, .new [.int .i64 0, .int .i64 0, .int .i64 0, .int .i64 0, .int .i64 0, .int .i64 0, .str []], none⟩,
  .op ⟨6, none, .store 7 (.t 11) (.t 37), none⟩,
  .op ⟨7, some 12, .mv (.c (.one (.int .i64 180))), none⟩,
  .op ⟨8, some 13, .mv (.c (.one (.int .i64 0))), none⟩])
 (.seq (.scope [(.normal, [(8, .one .bool), (12, .one (.int .i64)), (13, .one (.int .i64))])] (.seq (.reg [.op ⟨0, some 38, .mv (.t 0), none⟩,
  .op ⟨1, some 39, .mv (.t 10), none⟩,
  .op ⟨2, some 40, .idxa 8 (.t 38) (.t 39), none⟩,
  .op ⟨3, some 41, .addr 0 (.t 40), none⟩,
  .op ⟨4, some 42, .load (.one (.int .i64)) (.t 41), none⟩])
 (.block 2 (.seq (.reg [.op ⟨0, some 98, .bin .eql (.t 42) (.c (.one (.int .i64 0))), none⟩,
  .op ⟨1, some 97, .mv (.t 98), none⟩])
 (.cond (.t 97) (.seq (.reg [.op ⟨0, some 99, .mv (.t 6), none⟩,
  .op ⟨1, some 100, .call 3 [(.t 99)], none⟩,
  .op ⟨2, some 13, .mv (.t 100), none⟩])
 (.seq (.reg [.op ⟨0, some 101, .mv (.t 8), none⟩,
  .op ⟨1, some 102, .un .not (.t 101), none⟩])
 (.cond (.t 102) (.reg [.op ⟨0, some 103, .load (.agg [.sl 3, .sl 3, .sl 1, .sl 2, .sl 1]) (.t 7), none⟩,
  .op ⟨1, some 104, .build [.sl 3 Sl.nil, .sl 3 Sl.nil, .sl 1 Sl.nil, .sl 2 Sl.nil, .sl 1 Sl.nil, .int .i64 0] [(0, 5, (.t 103))], none⟩,
  .op ⟨2, some 8, .mv (.c (.one (.bool true))), none⟩,
  .op ⟨3, none, .store 6 (.t 9) (.t 104), none⟩,
  .op ⟨4, some 12, .mv (.c (.one (.int .i64 0))), none⟩]) (.skip)))) (.seq (.scope [(.normal, [(105, .one .bool)])] (.seq (.reg [.op ⟨0, some 106, .bin .eql (.t 42) (.c (.one (.int .i64 1))), none⟩,
  .op ⟨1, some 105, .mv (.t 106), none⟩])
 (.cond (.t 105) (.skip) (.reg [.op ⟨0, some 107, .bin .eql (.t 42) (.c (.one (.int .i64 2))), none⟩,
  .op ⟨1, some 105, .mv (.t 107), none⟩]))))
 (.cond (.t 105) (.seq (.reg [.op ⟨0, some 108, .mv (.t 6), none⟩,
  .op ⟨1, some 109, .call 4 [(.t 108)], none⟩,
  .op ⟨2, some 13, .mv (.t 109), none⟩])
 (.seq (.reg [.op ⟨0, some 110, .mv (.t 8), none⟩])
 (.cond (.t 110) (.reg [.op ⟨0, some 111, .addr 0 (.t 9), none⟩,
  .op ⟨1, some 112, .load (.agg [.sl 3, .sl 3, .sl 1, .sl 2, .sl 1]) (.t 111), none⟩,
  .op ⟨2, some 8, .mv (.c (.one (.bool false))), none⟩,
  .op ⟨3, none, .store 5 (.t 7) (.t 112), none⟩,
  .op ⟨4, some 12, .mv (.c (.one (.int .i64 0))), none⟩]) (.skip)))) (.seq (.reg [.op ⟨0, some 114, .bin .eql (.t 42) (.c (.one (.int .i64 3))), none⟩,
  .op ⟨1, some 113, .mv (.t 114), none⟩])
 (.cond (.t 113) (.seq (.reg [.op ⟨0, some 115, .mv (.t 6), none⟩,
  .op ⟨1, some 116, .call 5 [(.t 115)], none⟩,
  .op ⟨2, some 13, .mv (.t 116), none⟩])
 (.seq (.reg [.op ⟨0, some 117, .mv (.t 8), none⟩])
 (.cond (.t 117) (.reg [.op ⟨0, some 8, .mv (.c (.one (.bool false))), none⟩,
  .op ⟨1, some 12, .mv (.c (.one (.int .i64 0))), none⟩]) (.skip)))) (.seq (.scope [(.normal, [(13, .one (.int .i64))])] (.seq (.reg [.op ⟨0, some 43, .addr 0 (.t 11), none⟩,
  .op ⟨1, some 44, .addr 0 (.t 43), none⟩,
  .op ⟨2, some 45, .load (.one (.int .i64)) (.t 44), none⟩,
  .op ⟨3, some 46, .bin .eql (.t 45) (.c (.one (.int .i64 1))), none⟩])
 (.cond (.t 46) (.reg [.op ⟨0, some 47, .mv (.t 6), none⟩,
  .op ⟨1, some 48, .addr 0 (.t 11), none⟩,
  .op ⟨2, some 49, .addr 1 (.t 48), none⟩,
  .op ⟨3, some 50, .load (.one (.int .i64)) (.t 49), none⟩,
  .op ⟨4, some 51, .addr 0 (.t 11), none⟩,
  .op ⟨5, some 52, .addr 2 (.t 51), none⟩,
  .op ⟨6, some 53, .load (.one (.int .i64)) (.t 52), none⟩,
  .op ⟨7, some 54, .addr 6 (.t 11), none⟩,
  .op ⟨8, some 55, .load (.one .str) (.t 54), none⟩,
  .op ⟨9, some 56, .call 6 [(.t 47), (.t 50), (.t 53), (.t 55)], none⟩,
  .op ⟨10, some 13, .mv (.t 56), none⟩]) (.reg [.op ⟨0, some 57, .mv (.t 6), none⟩,
  .op ⟨1, some 58, .addr 0 (.t 11), none⟩,
  .op ⟨2, some 59, .load (.agg [.int .i64, .int .i64, .int .i64, .int .i64, .int .i64, .int .i64]) (.t 58), none⟩,
  .op ⟨3, some 60, .call 7 [(.t 57), (.t 59)], none⟩,
  .op ⟨4, some 13, .mv (.t 60), none⟩]))))
 (.seq (.scope [(.normal, [(12, .one (.int .i64))])] (.seq (.scope [(.normal, [(67, .one .bool)])] (.reg [.op ⟨0, some 61, .mv (.t 8), none⟩,
  .op ⟨1, some 62, .mv (.t 61), none⟩,
  .op ⟨2, some 63, .addr 0 (.t 11), some (62, true)⟩,
  .op ⟨3, some 64, .addr 0 (.t 63), some (62, true)⟩,
  .op ⟨4, some 65, .load (.one (.int .i64)) (.t 64), some (62, true)⟩,
  .op ⟨5, some 66, .bin .eql (.t 65) (.c (.one (.int .i64 1))), some (62, true)⟩,
  .op ⟨6, some 67, .pick (.t 62) (.t 66) (.c (.one (.bool false))), none⟩]))
 (.cond (.t 67) (.reg [.op ⟨0, some 69, .load (.agg [.sl 3, .sl 3, .sl 1, .sl 2, .sl 1, .int .i64]) (.t 9), none⟩,
  .op ⟨1, some 70, .addr 0 (.t 11), none⟩,
  .op ⟨2, some 71, .addr 1 (.t 70), none⟩,
  .op ⟨3, some 72, .load (.one (.int .i64)) (.t 71), none⟩,
  .op ⟨4, some 73, .addr 0 (.t 11), none⟩,
  .op ⟨5, some 74, .addr 2 (.t 73), none⟩,
  .op ⟨6, some 75, .load (.one (.int .i64)) (.t 74), none⟩,
  .op ⟨7, some 76, .addr 6 (.t 11), none⟩,
  .op ⟨8, some 77, .load (.one .str) (.t 76), none⟩,
  .op ⟨9, some 78, .load (.agg [.int .i64, .int .i64, .int .i64, .int .i64]) (.t 5), none⟩,
  .op ⟨10, some 79, .call 8 [(.t 69), (.t 72), (.t 75), (.t 77), (.t 78), (.c (.one (.int .i64 64)))], none⟩,
  .op ⟨11, some 68, .mv (.t 79), none⟩,
  .op ⟨12, some 80, .ext (.t 68) 0, none⟩,
  .op ⟨13, some 81, .ext (.t 68) 1, none⟩,
  .op ⟨14, none, .store 6 (.t 9) (.t 80), none⟩,
  .op ⟨15, some 12, .mv (.t 81), none⟩]) (.skip))))
 (.seq (.scope [(.normal, [(88, .one .bool)])] (.reg [.op ⟨0, some 82, .mv (.t 8), none⟩,
  .op ⟨1, some 83, .mv (.t 82), none⟩,
  .op ⟨2, some 84, .addr 0 (.t 11), some (83, true)⟩,
  .op ⟨3, some 85, .addr 0 (.t 84), some (83, true)⟩,
  .op ⟨4, some 86, .load (.one (.int .i64)) (.t 85), some (83, true)⟩,
  .op ⟨5, some 87, .bin .neq (.t 86) (.c (.one (.int .i64 1))), some (83, true)⟩,
  .op ⟨6, some 88, .pick (.t 83) (.t 87) (.c (.one (.bool false))), none⟩]))
 (.cond (.t 88) (.reg [.op ⟨0, some 90, .load (.agg [.sl 3, .sl 3, .sl 1, .sl 2, .sl 1, .int .i64]) (.t 9), none⟩,
  .op ⟨1, some 91, .addr 0 (.t 11), none⟩,
  .op ⟨2, some 92, .load (.agg [.int .i64, .int .i64, .int .i64, .int .i64, .int .i64, .int .i64]) (.t 91), none⟩,
  .op ⟨3, some 93, .load (.agg [.int .i64, .int .i64, .int .i64, .int .i64]) (.t 5), none⟩,
  .op ⟨4, some 94, .call 9 [(.t 90), (.t 92), (.t 93)], none⟩,
  .op ⟨5, some 89, .mv (.t 94), none⟩,
  .op ⟨6, some 95, .ext (.t 89) 0, none⟩,
  .op ⟨7, some 96, .ext (.t 89) 1, none⟩,
  .op ⟨8, none, .store 6 (.t 9) (.t 95), none⟩,
  .op ⟨9, some 12, .mv (.t 96), none⟩]) (.skip))))))))))))))
 (.seq (.reg [.op ⟨0, some 118, .load (.agg [.sl 3, .sl 3, .sl 1, .sl 2, .sl 1]) (.t 7), none⟩,
  .op ⟨1, some 14, .new [.sl 3 Sl.nil, .sl 3 Sl.nil, .sl 1 Sl.nil, .sl 2 Sl.nil, .sl 1 Sl.nil], none⟩,
  .op ⟨2, none, .store 5 (.t 14) (.t 118), none⟩])
 (.seq (.scope [(.normal, [])] (.seq (.reg [.op ⟨0, some 119, .mv (.t 8), none⟩])
 (.cond (.t 119) (.reg [.op ⟨0, some 120, .addr 0 (.t 9), none⟩,
  .op ⟨1, some 121, .load (.agg [.sl 3, .sl 3, .sl 1, .sl 2, .sl 1]) (.t 120), none⟩,
  .op ⟨2, none, .store 5 (.t 14) (.t 121), none⟩]) (.skip))))
 (.seq (.reg [.op ⟨0, some 122, .mv (.t 13), none⟩,
  .op ⟨1, some 123, .mv (.t 12), none⟩,
  .op ⟨2, some 124, .bin .neq (.t 122) (.t 123), none⟩,
  .op ⟨3, some 125, .mv (.t 124), none⟩,
  .op ⟨4, some 126, .mv (.t 6), some (125, false)⟩,
  .op ⟨5, some 127, .load (.agg [.sl 3, .sl 3, .sl 1, .sl 2, .sl 1]) (.t 14), some (125, false)⟩,
  .op ⟨6, some 128, .call 10 [(.t 126), (.t 127)], some (125, false)⟩,
  .op ⟨7, some 129, .un .not (.t 128), some (125, false)⟩,
  .op ⟨8, some 130, .pick (.t 125) (.c (.one (.bool true))) (.t 129), none⟩])
 (.cond (.t 130) (.seq (.reg [.op ⟨0, some 4, .mv (.c (.one (.bool false))), none⟩])
 (.ret)) (.skip))))))))
 (.reg [.op ⟨0, some 31, .mv (.t 10), none⟩,
  .op ⟨1, some 32, .bin .add (.t 31) (.c (.one (.int .i64 1))), none⟩,
  .op ⟨2, some 10, .mv (.t 32), none⟩]))))))
 (.seq (.reg [.op ⟨0, some 4, .mv (.c (.one (.bool true))), none⟩])
 (.ret))))))⟩
noncomputable def law19_ModelPlays.s1 (x0 : Sl) (H : Heap) (r5 : ((Ptr × Unit) × Heap)) (H6 : Heap) (s11 : (Bool × Int × Unit)) (H12 : Heap) : Option (((Bool × Int × Unit) ⊕ ((Unit) ⊕ (Bool × Unit))) × Heap) :=
 cond (decide (s11.2.1 < (x0.len : Int))) (
 cond (decide (s11.2.1 < 100)) (
 (Sl.at 8 x0 s11.2.1).bind fun (a13 : (Nat × Nat)) =>
 Option.bind (α := (Int × Int × Int × Int × Int × Int × Bytes × Unit)) (rd H12 (.agg [.int .i64, .int .i64, .int .i64, .int .i64, .int .i64, .int .i64, .str]) a13.1 (a13.2 + 1)) fun (v14 : (Int × Int × Int × Int × Int × Int × Bytes × Unit)) =>
 let H15 : Heap := H12 ++ [Blk.cells [.int .i64 0, .int .i64 0, .int .i64 0, .int .i64 0, .int .i64 0, .int .i64 0, .str []] .exact]
 (wr H15 H12.length 0 [.int .i64 v14.1, .int .i64 v14.2.1, .int .i64 v14.2.2.1, .int .i64 v14.2.2.2.1, .int .i64 v14.2.2.2.2.1, .int .i64 v14.2.2.2.2.2.1, .str v14.2.2.2.2.2.2.1]).bind fun (H16 : Heap) =>
 ((Sl.at 8 x0 s11.2.1).bind fun (a17 : (Nat × Nat)) =>
 (rdI .i64 H16 a17.1 a17.2).bind fun (v18 : Int) =>
 cond (decide (v18 = 0)) (
 (model_Model_Begin r5.1.1 H16).bind fun (r19 : ((Int × Unit) × Heap)) =>
 cond (!s11.1) (
 Option.bind (α := (Sl × Sl × Sl × Sl × Sl × Unit)) (rd r19.2 (.agg [.sl 3, .sl 3, .sl 1, .sl 2, .sl 1]) r5.2.length 0) fun (v20 : (Sl × Sl × Sl × Sl × Sl × Unit)) =>
 (wr r19.2 H6.length 0 [.sl 3 v20.1, .sl 3 v20.2.1, .sl 1 v20.2.2.1, .sl 2 v20.2.2.2.1, .sl 1 v20.2.2.2.2.1, .int .i64 0]).bind fun (H21 : Heap) =>
 some ((true, 0, r19.1.1, ()), H21)) (
 some ((s11.1, 180, r19.1.1, ()), r19.2))) (
 (cond (decide (v18 = 1)) (
 some (((decide (v18 = 1)), ()), H16)) (
 some (((decide (v18 = 2)), ()), H16)) : Option ((Bool × Unit) × Heap)).bind fun (p22 : (Bool × Unit) × Heap) =>
 cond p22.1.1 (
 (model_Model_Commit r5.1.1 p22.2).bind fun (r23 : ((Int × Unit) × Heap)) =>
 cond s11.1 (
 Option.bind (α := (Sl × Sl × Sl × Sl × Sl × Unit)) (rd r23.2 (.agg [.sl 3, .sl 3, .sl 1, .sl 2, .sl 1]) H6.length 0) fun (v24 : (Sl × Sl × Sl × Sl × Sl × Unit)) =>
 (wr r23.2 r5.2.length 0 [.sl 3 v24.1, .sl 3 v24.2.1, .sl 1 v24.2.2.1, .sl 2 v24.2.2.2.1, .sl 1 v24.2.2.2.2.1]).bind fun (H25 : Heap) =>
 some ((false, 0, r23.1.1, ()), H25)) (
 some ((s11.1, 180, r23.1.1, ()), r23.2))) (
 cond (decide (v18 = 3)) (
 (model_Model_Abort r5.1.1 p22.2).bind fun (r26 : ((Int × Unit) × Heap)) =>
 cond s11.1 (
 some ((false, 0, r26.1.1, ()), r26.2)) (
 some ((s11.1, 180, r26.1.1, ()), r26.2))) (
 ((rdI .i64 p22.2 H12.length 0).bind fun (v27 : Int) =>
 cond (decide (v27 = 1)) (
 (rdI .i64 p22.2 H12.length 1).bind fun (v28 : Int) =>
 (rdI .i64 p22.2 H12.length 2).bind fun (v29 : Int) =>
 (rdS p22.2 H12.length 6).bind fun (v30 : Bytes) =>
 (model_Model_Put r5.1.1 v28 v29 v30 p22.2).bind fun (r31 : ((Int × Unit) × Heap)) =>
 some ((r31.1.1, ()), r31.2)) (
 Option.bind (α := (Int × Int × Int × Int × Int × Int × Unit)) (rd p22.2 (.agg [.int .i64, .int .i64, .int .i64, .int .i64, .int .i64, .int .i64]) H12.length 0) fun (v32 : (Int × Int × Int × Int × Int × Int × Unit)) =>
 (model_Model_Do r5.1.1 (v32.1, v32.2.1, v32.2.2.1, v32.2.2.2.1, v32.2.2.2.2.1, v32.2.2.2.2.2.1, ()) p22.2).bind fun (r33 : ((Int × Unit) × Heap)) =>
 some ((r33.1.1, ()), r33.2)) : Option ((Int × Unit) × Heap)).bind fun (p34 : (Int × Unit) × Heap) =>
 ((cond s11.1 (
 (rdI .i64 p34.2 H12.length 0).bind fun (v35 : Int) =>
 some (((decide (v35 = 1)), ()), p34.2)) (
 some ((false, ()), p34.2)) : Option ((Bool × Unit) × Heap)).bind fun (p36 : (Bool × Unit) × Heap) =>
 cond p36.1.1 (
 Option.bind (α := (Sl × Sl × Sl × Sl × Sl × Int × Unit)) (rd p36.2 (.agg [.sl 3, .sl 3, .sl 1, .sl 2, .sl 1, .int .i64]) H6.length 0) fun (v37 : (Sl × Sl × Sl × Sl × Sl × Int × Unit)) =>
 (rdI .i64 p36.2 H12.length 1).bind fun (v38 : Int) =>
 (rdI .i64 p36.2 H12.length 2).bind fun (v39 : Int) =>
 (rdS p36.2 H12.length 6).bind fun (v40 : Bytes) =>
 Option.bind (α := (Int × Int × Int × Int × Unit)) (rd p36.2 (.agg [.int .i64, .int .i64, .int .i64, .int .i64]) H.length 0) fun (v41 : (Int × Int × Int × Int × Unit)) =>
 (law17_Plain_Put (v37.1, v37.2.1, v37.2.2.1, v37.2.2.2.1, v37.2.2.2.2.1, v37.2.2.2.2.2.1, ()) v38 v39 v40 (v41.1, v41.2.1, v41.2.2.1, v41.2.2.2.1, ()) 64 p36.2).bind fun (r42 : (((Sl × Sl × Sl × Sl × Sl × Int × Unit) × Int × Unit) × Heap)) =>
 (wr r42.2 H6.length 0 [.sl 3 r42.1.1.1, .sl 3 r42.1.1.2.1, .sl 1 r42.1.1.2.2.1, .sl 2 r42.1.1.2.2.2.1, .sl 1 r42.1.1.2.2.2.2.1, .int .i64 r42.1.1.2.2.2.2.2.1]).bind fun (H43 : Heap) =>
 some ((r42.1.2.1, ()), H43)) (
 some ((180, ()), p36.2)) : Option ((Int × Unit) × Heap)).bind fun (p44 : (Int × Unit) × Heap) =>
 (cond s11.1 (
 (rdI .i64 p44.2 H12.length 0).bind fun (v45 : Int) =>
 some (((!decide (v45 = 1)), ()), p44.2)) (
 some ((false, ()), p44.2)) : Option ((Bool × Unit) × Heap)).bind fun (p46 : (Bool × Unit) × Heap) =>
 cond p46.1.1 (
 Option.bind (α := (Sl × Sl × Sl × Sl × Sl × Int × Unit)) (rd p46.2 (.agg [.sl 3, .sl 3, .sl 1, .sl 2, .sl 1, .int .i64]) H6.length 0) fun (v47 : (Sl × Sl × Sl × Sl × Sl × Int × Unit)) =>
 Option.bind (α := (Int × Int × Int × Int × Int × Int × Unit)) (rd p46.2 (.agg [.int .i64, .int .i64, .int .i64, .int .i64, .int .i64, .int .i64]) H12.length 0) fun (v48 : (Int × Int × Int × Int × Int × Int × Unit)) =>
 Option.bind (α := (Int × Int × Int × Int × Unit)) (rd p46.2 (.agg [.int .i64, .int .i64, .int .i64, .int .i64]) H.length 0) fun (v49 : (Int × Int × Int × Int × Unit)) =>
 (law17_Plain_Do (v47.1, v47.2.1, v47.2.2.1, v47.2.2.2.1, v47.2.2.2.2.1, v47.2.2.2.2.2.1, ()) (v48.1, v48.2.1, v48.2.2.1, v48.2.2.2.1, v48.2.2.2.2.1, v48.2.2.2.2.2.1, ()) (v49.1, v49.2.1, v49.2.2.1, v49.2.2.2.1, ()) p46.2).bind fun (r50 : (((Sl × Sl × Sl × Sl × Sl × Int × Unit) × Int × Unit) × Heap)) =>
 (wr r50.2 H6.length 0 [.sl 3 r50.1.1.1, .sl 3 r50.1.1.2.1, .sl 1 r50.1.1.2.2.1, .sl 2 r50.1.1.2.2.2.1, .sl 1 r50.1.1.2.2.2.2.1, .int .i64 r50.1.1.2.2.2.2.2.1]).bind fun (H51 : Heap) =>
 some ((s11.1, r50.1.2.1, p34.1.1, ()), H51)) (
 some ((s11.1, p44.1.1, p34.1.1, ()), p46.2))))) : Option ((Bool × Int × Int × Unit) × Heap)).bind fun (p52 : (Bool × Int × Int × Unit) × Heap) =>
 Option.bind (α := (Sl × Sl × Sl × Sl × Sl × Unit)) (rd p52.2 (.agg [.sl 3, .sl 3, .sl 1, .sl 2, .sl 1]) r5.2.length 0) fun (v53 : (Sl × Sl × Sl × Sl × Sl × Unit)) =>
 let H54 : Heap := p52.2 ++ [Blk.cells [.sl 3 Sl.nil, .sl 3 Sl.nil, .sl 1 Sl.nil, .sl 2 Sl.nil, .sl 1 Sl.nil] .exact]
 (wr H54 p52.2.length 0 [.sl 3 v53.1, .sl 3 v53.2.1, .sl 1 v53.2.2.1, .sl 2 v53.2.2.2.1, .sl 1 v53.2.2.2.2.1]).bind fun (H55 : Heap) =>
 (cond p52.1.1 (
 Option.bind (α := (Sl × Sl × Sl × Sl × Sl × Unit)) (rd H55 (.agg [.sl 3, .sl 3, .sl 1, .sl 2, .sl 1]) H6.length 0) fun (v56 : (Sl × Sl × Sl × Sl × Sl × Unit)) =>
 (wr H55 p52.2.length 0 [.sl 3 v56.1, .sl 3 v56.2.1, .sl 1 v56.2.2.1, .sl 2 v56.2.2.2.1, .sl 1 v56.2.2.2.2.1]).bind fun (H57 : Heap) =>
 some ((()), H57)) (
 some ((()), H55)) : Option ((Unit) × Heap)).bind fun (p58 : (Unit) × Heap) =>
 cond (!decide (p52.1.2.2.1 = p52.1.2.1)) (
 some (Sum.inr (Sum.inr (false, ())), p58.2)) (
 Option.bind (α := (Sl × Sl × Sl × Sl × Sl × Unit)) (rd p58.2 (.agg [.sl 3, .sl 3, .sl 1, .sl 2, .sl 1]) p52.2.length 0) fun (v59 : (Sl × Sl × Sl × Sl × Sl × Unit)) =>
 (law19_same r5.1.1 (v59.1, v59.2.1, v59.2.2.1, v59.2.2.2.1, v59.2.2.2.2.1, ()) p58.2).bind fun (r60 : ((Bool × Unit) × Heap)) =>
 cond (!r60.1.1) (
 some (Sum.inr (Sum.inr (false, ())), r60.2)) (
 some (Sum.inl (p52.1.1, (IntKind.wrap .i64 (s11.2.1 + 1)), ()), r60.2)))) (
 some (Sum.inr (Sum.inl (())), H12))) (
 some (Sum.inr (Sum.inl (())), H12))
noncomputable def law19_ModelPlays (x0 : Sl) (x1 : Int) (H : Heap) : Option ((Bool × Unit) × Heap) :=
 (law19_room x1).bind fun (r1 : ((Int × Int × Int × Int × Unit) × Unit)) =>
 let H2 : Heap := H ++ [Blk.cells [.int .i64 0, .int .i64 0, .int .i64 0, .int .i64 0] .exact]
 (wr H2 H.length 0 [.int .i64 r1.1.1, .int .i64 r1.1.2.1, .int .i64 r1.1.2.2.1, .int .i64 r1.1.2.2.2.1]).bind fun (H3 : Heap) =>
 Option.bind (α := (Int × Int × Int × Int × Unit)) (rd H3 (.agg [.int .i64, .int .i64, .int .i64, .int .i64]) H.length 0) fun (v4 : (Int × Int × Int × Int × Unit)) =>
 (model_New (v4.1, v4.2.1, v4.2.2.1, v4.2.2.2.1, ()) 64 H3).bind fun (r5 : ((Ptr × Unit) × Heap)) =>
 let H6 : Heap := r5.2 ++ [Blk.cells [.sl 3 Sl.nil, .sl 3 Sl.nil, .sl 1 Sl.nil, .sl 2 Sl.nil, .sl 1 Sl.nil] .exact]
 let H7 : Heap := H6 ++ [Blk.cells [.sl 3 Sl.nil, .sl 3 Sl.nil, .sl 1 Sl.nil, .sl 2 Sl.nil, .sl 1 Sl.nil, .int .i64 0] .exact]
 (wr H7 r5.2.length 0 [.sl 3 (⟨none, 0, 0⟩), .sl 3 (⟨none, 0, 0⟩), .sl 1 (⟨none, 0, 0⟩), .sl 2 (⟨none, 0, 0⟩), .sl 1 (⟨none, 0, 0⟩)]).bind fun (H8 : Heap) =>
 (wr H8 H6.length 0 [.sl 3 (⟨none, 0, 0⟩), .sl 3 (⟨none, 0, 0⟩), .sl 1 (⟨none, 0, 0⟩), .sl 2 (⟨none, 0, 0⟩), .sl 1 (⟨none, 0, 0⟩), .int .i64 0]).bind fun (H9 : Heap) =>
 (law19_awake).bind fun (r10 : (Bool × Unit)) =>
 cond (!r10.1) (
 some ((false, ()), H9)) (
 (loopW (law19_ModelPlays.s1 x0 H r5 H6) (false, 0, ()) H9).bind fun (p61 : ((Unit) ⊕ (Bool × Unit)) × Heap) =>
 Sum.elim (fun (y62 : (Unit)) =>
 some ((true, ()), p61.2)) (fun (z63 : (Bool × Unit)) =>
 some ((z63.1, ()), p61.2)) p61.1)
noncomputable def law19_ModelPlays.c : Callee := .full [.one (.sl 8), .one (.int .i64)] [.one .bool] (fun x H => law19_ModelPlays x.1 x.2.1 H)
noncomputable def law19_ModelPlays.calls : Nat → Option Callee
  | 0 => some law19_room.c
  | 1 => some model_New.c
  | 2 => some law19_awake.c
  | 3 => some model_Model_Begin.c
  | 4 => some model_Model_Commit.c
  | 5 => some model_Model_Abort.c
  | 6 => some model_Model_Put.c
  | 7 => some model_Model_Do.c
  | 8 => some law17_Plain_Put.c
  | 9 => some law17_Plain_Do.c
  | 10 => some law19_same.c
  | _ => none
theorem law19_ModelPlays.eq : evFull law19_ModelPlays.calls law19_ModelPlays.af = (fun x H => law19_ModelPlays x.1 x.2.1 H) := by kernel_rfl

/-! ### tinderbox/tinderboxlaw19.play -/
def law19_play.af : AFun := ⟨[.one .ptr, .one (.sl 8)], [], [],
 .seq (.reg [.op ⟨0, some 4, .mv (.c (.one (.int .i64 0))), none⟩])
 (.block 0 (.loop [(4, .one (.int .i64))] [(.exit 0, [])] (.seq (.seq (.reg [.op ⟨0, some 6, .mv (.t 4), none⟩,
  .op ⟨1, some 7, .mv (.t 1), none⟩,
  .op ⟨2, some 8, .len (.t 7), none⟩,
  .op ⟨3, some 9, .bin .lss (.t 6) (.t 8), none⟩,
  .op ⟨4, some 10, .mv (.t 9), none⟩,
  .op ⟨5, some 11, .mv (.t 4), some (10, true)⟩,
  .op ⟨6, some 12, .bin .lss (.t 11) (.c (.one (.int .i64 60))), some (10, true)⟩,
  .op ⟨7, some 13, .pick (.t 10) (.t 12) (.c (.one (.bool false))), none⟩])
 (.cond (.t 13) (.skip) (.exit 0)))
 (.seq (.block 1 (.seq (.reg [.op ⟨0, some 16, .mv (.t 1), none⟩,
  .op ⟨1, some 17, .mv (.t 4), none⟩,
  .op ⟨2, some 18, .idxa 8 (.t 16) (.t 17), none⟩,
  .op ⟨3, some 19, .addr 1 (.t 18), none⟩,
  .op ⟨4, some 20, .load (.agg [.int .i64, .int .i64, .int .i64, .int .i64, .int .i64, .int .i64, .str]) (.t 19), none⟩,
  .op ⟨5, some 5, .new [.int .i64 0, .int .i64 0, .int .i64 0, .int .i64 0, .int .i64 0, .int .i64 0, .str []], none⟩,
  .op ⟨6, none, .store 7 (.t 5) (.t 20), none⟩])
 (.seq (.reg [.op ⟨0, some 21, .mv (.t 1), none⟩,
  .op ⟨1, some 22, .mv (.t 4), none⟩,
  .op ⟨2, some 23, .idxa 8 (.t 21) (.t 22), none⟩,
  .op ⟨3, some 24, .addr 0 (.t 23), none⟩,
  .op ⟨4, some 25, .load (.one (.int .i64)) (.t 24), none⟩])
 (.block 2 (.seq (.reg [.op ⟨0, some 45, .bin .eql (.t 25) (.c (.one (.int .i64 0))), none⟩,
  .op ⟨1, some 44, .mv (.t 45), none⟩])
 (.cond (.t 44) (.reg [.op ⟨0, some 46, .mv (.t 0), none⟩,
  .op ⟨1, some 47, .call 0 [(.t 46)], none⟩]) (.seq (.scope [(.normal, [(48, .one .bool)])] (.seq (.reg [.op ⟨0, some 49, .bin .eql (.t 25) (.c (.one (.int .i64 1))), none⟩,
  .op ⟨1, some 48, .mv (.t 49), none⟩])
 (.cond (.t 48) (.skip) (.reg [.op ⟨0, some 50, .bin .eql (.t 25) (.c (.one (.int .i64 2))), none⟩,
  .op ⟨1, some 48, .mv (.t 50), none⟩]))))
 (.cond (.t 48) (.reg [.op ⟨0, some 51, .mv (.t 0), none⟩,
  .op ⟨1, some 52, .call 1 [(.t 51)], none⟩]) (.seq (.reg [.op ⟨0, some 54, .bin .eql (.t 25) (.c (.one (.int .i64 3))), none⟩,
  .op ⟨1, some 53, .mv (.t 54), none⟩])
 (.cond (.t 53) (.reg [.op ⟨0, some 55, .mv (.t 0), none⟩,
  .op ⟨1, some 56, .call 2 [(.t 55)], none⟩]) (.seq (.reg [.op ⟨0, some 26, .addr 0 (.t 5), none⟩,
  .op ⟨1, some 27, .addr 0 (.t 26), none⟩,
  .op ⟨2, some 28, .load (.one (.int .i64)) (.t 27), none⟩,
  .op ⟨3, some 29, .bin .eql (.t 28) (.c (.one (.int .i64 1))), none⟩])
 (.cond (.t 29) (.reg [.op ⟨0, some 30, .mv (.t 0), none⟩,
  .op ⟨1, some 31, .addr 0 (.t 5), none⟩,
  .op ⟨2, some 32, .addr 1 (.t 31), none⟩,
  .op ⟨3, some 33, .load (.one (.int .i64)) (.t 32), none⟩,
  .op ⟨4, some 34, .addr 0 (.t 5), none⟩,
  .op ⟨5, some 35, .addr 2 (.t 34), none⟩,
  .op ⟨6, some 36, .load (.one (.int .i64)) (.t 35), none⟩,
  .op ⟨7, some 37, .addr 6 (.t 5), none⟩,
  .op ⟨8, some 38, .load (.one .str) (.t 37), none⟩,
  .op ⟨9, some 39, .call 3 [(.t 30), (.t 33), (.t 36), (.t 38)], none⟩]) (.reg [.op ⟨0, some 40, .mv (.t 0), none⟩,
  .op ⟨1, some 41, .addr 0 (.t 5), none⟩,
  .op ⟨2, some 42, .load (.agg [.int .i64, .int .i64, .int .i64, .int .i64, .int .i64, .int .i64]) (.t 41), none⟩,
  .op ⟨3, some 43, .call 4 [(.t 40), (.t 42)], none⟩])))))))))))))
 (.reg [.op ⟨0, some 14, .mv (.t 4), none⟩,
  .op ⟨1, some 15, .bin .add (.t 14) (.c (.one (.int .i64 1))), none⟩,
  .op ⟨2, some 4, .mv (.t 15), none⟩])))))⟩
noncomputable def law19_play.s1 (x0 : Ptr) (x1 : Sl) (s1 : (Int × Unit)) (H2 : Heap) : Option (((Int × Unit) ⊕ (Unit)) × Heap) :=
 cond (decide (s1.1 < (x1.len : Int))) (
 cond (decide (s1.1 < 60)) (
 (Sl.at 8 x1 s1.1).bind fun (a3 : (Nat × Nat)) =>
 Option.bind (α := (Int × Int × Int × Int × Int × Int × Bytes × Unit)) (rd H2 (.agg [.int .i64, .int .i64, .int .i64, .int .i64, .int .i64, .int .i64, .str]) a3.1 (a3.2 + 1)) fun (v4 : (Int × Int × Int × Int × Int × Int × Bytes × Unit)) =>
 let H5 : Heap := H2 ++ [Blk.cells [.int .i64 0, .int .i64 0, .int .i64 0, .int .i64 0, .int .i64 0, .int .i64 0, .str []] .exact]
 (wr H5 H2.length 0 [.int .i64 v4.1, .int .i64 v4.2.1, .int .i64 v4.2.2.1, .int .i64 v4.2.2.2.1, .int .i64 v4.2.2.2.2.1, .int .i64 v4.2.2.2.2.2.1, .str v4.2.2.2.2.2.2.1]).bind fun (H6 : Heap) =>
 (Sl.at 8 x1 s1.1).bind fun (a7 : (Nat × Nat)) =>
 (rdI .i64 H6 a7.1 a7.2).bind fun (v8 : Int) =>
 cond (decide (v8 = 0)) (
 (model_Model_Begin x0 H6).bind fun (r9 : ((Int × Unit) × Heap)) =>
 some (Sum.inl ((IntKind.wrap .i64 (s1.1 + 1)), ()), r9.2)) (
 (cond (decide (v8 = 1)) (
 some (((decide (v8 = 1)), ()), H6)) (
 some (((decide (v8 = 2)), ()), H6)) : Option ((Bool × Unit) × Heap)).bind fun (p10 : (Bool × Unit) × Heap) =>
 cond p10.1.1 (
 (model_Model_Commit x0 p10.2).bind fun (r11 : ((Int × Unit) × Heap)) =>
 some (Sum.inl ((IntKind.wrap .i64 (s1.1 + 1)), ()), r11.2)) (
 cond (decide (v8 = 3)) (
 (model_Model_Abort x0 p10.2).bind fun (r12 : ((Int × Unit) × Heap)) =>
 some (Sum.inl ((IntKind.wrap .i64 (s1.1 + 1)), ()), r12.2)) (
 (rdI .i64 p10.2 H2.length 0).bind fun (v13 : Int) =>
 cond (decide (v13 = 1)) (
 (rdI .i64 p10.2 H2.length 1).bind fun (v14 : Int) =>
 (rdI .i64 p10.2 H2.length 2).bind fun (v15 : Int) =>
 (rdS p10.2 H2.length 6).bind fun (v16 : Bytes) =>
 (model_Model_Put x0 v14 v15 v16 p10.2).bind fun (r17 : ((Int × Unit) × Heap)) =>
 some (Sum.inl ((IntKind.wrap .i64 (s1.1 + 1)), ()), r17.2)) (
 Option.bind (α := (Int × Int × Int × Int × Int × Int × Unit)) (rd p10.2 (.agg [.int .i64, .int .i64, .int .i64, .int .i64, .int .i64, .int .i64]) H2.length 0) fun (v18 : (Int × Int × Int × Int × Int × Int × Unit)) =>
 (model_Model_Do x0 (v18.1, v18.2.1, v18.2.2.1, v18.2.2.2.1, v18.2.2.2.2.1, v18.2.2.2.2.2.1, ()) p10.2).bind fun (r19 : ((Int × Unit) × Heap)) =>
 some (Sum.inl ((IntKind.wrap .i64 (s1.1 + 1)), ()), r19.2)))))) (
 some (Sum.inr (()), H2))) (
 some (Sum.inr (()), H2))
noncomputable def law19_play (x0 : Ptr) (x1 : Sl) (H : Heap) : Option ((Unit) × Heap) :=
 (loopW (law19_play.s1 x0 x1) (0, ()) H).bind fun (p20 : (Unit) × Heap) =>
 some ((()), p20.2)
noncomputable def law19_play.c : Callee := .full [.one .ptr, .one (.sl 8)] [] (fun x H => law19_play x.1 x.2.1 H)
noncomputable def law19_play.calls : Nat → Option Callee
  | 0 => some model_Model_Begin.c
  | 1 => some model_Model_Commit.c
  | 2 => some model_Model_Abort.c
  | 3 => some model_Model_Put.c
  | 4 => some model_Model_Do.c
  | _ => none
theorem law19_play.eq : evFull law19_play.calls law19_play.af = (fun x H => law19_play x.1 x.2.1 H) := by kernel_rfl

/-! ### tinderbox/tinderboxlaw19.ModelCopies -/
def law19_ModelCopies.af : AFun := ⟨[.one (.sl 8), .one (.sl 8)], [.one .bool], [.t 4],
 .seq (.reg [.op ⟨0, some 4, .mv (.c (.one (.bool false))), none⟩])
 (.seq (.reg [.op ⟨0, some 13, .call 0 [(.c (.one (.int .i64 9)))], none⟩,
  .op ⟨1, some 14, .call 1 [(.t 13), (.c (.one (.int .i64 64)))], none⟩,
  .op ⟨2, some 5, .mv (.t 14), none⟩])
 (.seq (.reg [.op ⟨0, some 15, .mv (.t 5), none⟩,
  .op ⟨1, some 16, .mv (.t 0), none⟩,
  .op ⟨2, some 17, .call 2 [(.t 15), (.t 16)], none⟩])
 (.seq (.reg [.op ⟨0, some 18, .mv (.t 5), none⟩,
  .op ⟨1, some 19, .call 3 [(.t 18)], none⟩,
  .op ⟨2, some 20, .mv (.t 5), none⟩,
  .op ⟨3, some 21, .call 4 [(.t 20)], none⟩,
  .op ⟨4, some 6, .mv (.t 19), none⟩,
  .op ⟨5, some 7, .mv (.t 21), none⟩])
 (.seq (.reg [.op ⟨0, some 22, .mv (.t 5), none⟩,
  .op ⟨1, some 23, .call 5 [(.t 22)], none⟩,
  .op ⟨2, some 8, .mv (.t 23), none⟩])
 (.seq (.reg [.op ⟨0, some 24, .mv (.t 8), none⟩,
  .op ⟨1, some 25, .mv (.t 1), none⟩,
  .op ⟨2, some 26, .call 2 [(.t 24), (.t 25)], none⟩])
 (.seq (.reg [.op ⟨0, some 27, .mv (.t 5), none⟩,
  .op ⟨1, some 28, .call 3 [(.t 27)], none⟩,
  .op ⟨2, some 29, .mv (.t 5), none⟩,
  .op ⟨3, some 30, .call 4 [(.t 29)], none⟩,
  .op ⟨4, some 9, .mv (.t 28), none⟩,
  .op ⟨5, some 10, .mv (.t 30), none⟩])
 (.seq (.seq (.reg [.op ⟨0, some 31, .call 6 [], none⟩,
  .op ⟨1, some 32, .un .not (.t 31), none⟩,
  .op ⟨2, some 33, .mv (.t 32), none⟩,
  .op ⟨3, some 34, .mv (.t 6), some (33, false)⟩,
  .op ⟨4, some 35, .len (.t 34), some (33, false)⟩,
  .op ⟨5, some 36, .mv (.t 9), some (33, false)⟩,
  .op ⟨6, some 37, .len (.t 36), some (33, false)⟩,
  .op ⟨7, some 38, .bin .neq (.t 35) (.t 37), some (33, false)⟩,
  .op ⟨8, some 39, .pick (.t 33) (.c (.one (.bool true))) (.t 38), none⟩,
  .op ⟨9, some 40, .mv (.t 39), none⟩,
  .op ⟨10, some 41, .mv (.t 7), some (40, false)⟩,
  .op ⟨11, some 42, .len (.t 41), some (40, false)⟩,
  .op ⟨12, some 43, .mv (.t 10), some (40, false)⟩,
  .op ⟨13, some 44, .len (.t 43), some (40, false)⟩,
  .op ⟨14, some 45, .bin .neq (.t 42) (.t 44), some (40, false)⟩,
  .op ⟨15, some 46, .pick (.t 40) (.c (.one (.bool true))) (.t 45), none⟩])
 (.cond (.t 46) (.seq (.reg [.op ⟨0, some 4, .mv (.c (.one (.bool false))), none⟩])
 (.ret)) (.skip)))
 (.seq (.seq (.reg [.op ⟨0, some 11, .mv (.c (.one (.int .i64 0))), none⟩])
 (.block 0 (.loop [(11, .one (.int .i64))] [(.exit 0, []), (.ret, [(4, .one .bool)])] (.seq (.seq (.reg [.op ⟨0, some 47, .mv (.t 11), none⟩,
  .op ⟨1, some 48, .mv (.t 6), none⟩,
  .op ⟨2, some 49, .len (.t 48), none⟩,
  .op ⟨3, some 50, .bin .lss (.t 47) (.t 49), none⟩])
 (.cond (.t 50) (.skip) (.exit 0)))
 (.seq (.block 1 (.seq (.reg [.op ⟨0, some 53, .mv (.t 6), none⟩,
  .op ⟨1, some 54, .mv (.t 11), none⟩,
  .op ⟨2, some 55, .idxa 3 (.t 53) (.t 54), none⟩,
  .op ⟨3, some 56, .load (.agg [.int .i64, .int .i64, .str]) (.t 55), none⟩,
  .op ⟨4, some 57, .mv (.t 9), none⟩,
  .op ⟨5, some 58, .mv (.t 11), none⟩,
  .op ⟨6, some 59, .idxa 3 (.t 57) (.t 58), none⟩,
  .op ⟨7, some 60, .load (.agg [.int .i64, .int .i64, .str]) (.t 59), none⟩,
  .op ⟨8, some 61, .eqagg true [.int .i64, .int .i64, .str] (.t 56) (.t 60), none⟩])
 (.cond (.t 61) (.seq (.reg [.op ⟨0, some 4, .mv (.c (.one (.bool false))), none⟩])
 (.ret)) (.skip))))
 (.reg [.op ⟨0, some 51, .mv (.t 11), none⟩,
  .op ⟨1, some 52, .bin .add (.t 51) (.c (.one (.int .i64 1))), none⟩,
  .op ⟨2, some 11, .mv (.t 52), none⟩]))))))
 (.seq (.seq (.reg [.op ⟨0, some 12, .mv (.c (.one (.int .i64 0))), none⟩])
 (.block 2 (.loop [(12, .one (.int .i64))] [(.exit 2, []), (.ret, [(4, .one .bool)])] (.seq (.seq (.reg [.op ⟨0, some 62, .mv (.t 12), none⟩,
  .op ⟨1, some 63, .mv (.t 7), none⟩,
  .op ⟨2, some 64, .len (.t 63), none⟩,
  .op ⟨3, some 65, .bin .lss (.t 62) (.t 64), none⟩])
 (.cond (.t 65) (.skip) (.exit 2)))
 (.seq (.block 3 (.seq (.reg [.op ⟨0, some 68, .mv (.t 7), none⟩,
  .op ⟨1, some 69, .mv (.t 12), none⟩,
  .op ⟨2, some 70, .idxa 4 (.t 68) (.t 69), none⟩,
  .op ⟨3, some 71, .load (.agg [.int .i64, .int .i64, .int .i64, .bool]) (.t 70), none⟩,
  .op ⟨4, some 72, .mv (.t 10), none⟩,
  .op ⟨5, some 73, .mv (.t 12), none⟩,
  .op ⟨6, some 74, .idxa 4 (.t 72) (.t 73), none⟩,
  .op ⟨7, some 75, .load (.agg [.int .i64, .int .i64, .int .i64, .bool]) (.t 74), none⟩,
  .op ⟨8, some 76, .eqagg true [.int .i64, .int .i64, .int .i64, .bool] (.t 71) (.t 75), none⟩])
 (.cond (.t 76) (.seq (.reg [.op ⟨0, some 4, .mv (.c (.one (.bool false))), none⟩])
 (.ret)) (.skip))))
 (.reg [.op ⟨0, some 66, .mv (.t 12), none⟩,
  .op ⟨1, some 67, .bin .add (.t 66) (.c (.one (.int .i64 1))), none⟩,
  .op ⟨2, some 12, .mv (.t 67), none⟩]))))))
 (.seq (.reg [.op ⟨0, some 77, .mv (.t 5), none⟩,
  .op ⟨1, some 78, .mv (.t 1), none⟩,
  .op ⟨2, some 79, .call 2 [(.t 77), (.t 78)], none⟩])
 (.seq (.reg [.op ⟨0, some 80, .mv (.t 5), none⟩,
  .op ⟨1, some 81, .call 3 [(.t 80)], none⟩,
  .op ⟨2, some 82, .len (.t 81), none⟩,
  .op ⟨3, some 83, .mv (.t 8), none⟩,
  .op ⟨4, some 84, .call 3 [(.t 83)], none⟩,
  .op ⟨5, some 85, .len (.t 84), none⟩,
  .op ⟨6, some 86, .bin .eql (.t 82) (.t 85), none⟩,
  .op ⟨7, some 87, .mv (.t 86), none⟩,
  .op ⟨8, some 88, .mv (.t 5), some (87, true)⟩,
  .op ⟨9, some 89, .call 4 [(.t 88)], some (87, true)⟩,
  .op ⟨10, some 90, .len (.t 89), some (87, true)⟩,
  .op ⟨11, some 91, .mv (.t 8), some (87, true)⟩,
  .op ⟨12, some 92, .call 4 [(.t 91)], some (87, true)⟩,
  .op ⟨13, some 93, .len (.t 92), some (87, true)⟩,
  .op ⟨14, some 94, .bin .eql (.t 90) (.t 93), some (87, true)⟩,
  .op ⟨15, some 95, .pick (.t 87) (.t 94) (.c (.one (.bool false))), none⟩,
  .op ⟨16, some 4, .mv (.t 95), none⟩])
 (.ret))))))))))))⟩
noncomputable def law19_ModelCopies.s1 (r4 : ((Sl × Unit) × Heap)) (r8 : ((Sl × Unit) × Heap)) (s11 : (Int × Unit)) (H12 : Heap) : Option (((Int × Unit) ⊕ ((Unit) ⊕ (Bool × Unit))) × Heap) :=
 cond (decide (s11.1 < (r4.1.1.len : Int))) (
 (Sl.at 3 r4.1.1 s11.1).bind fun (a13 : (Nat × Nat)) =>
 Option.bind (α := (Int × Int × Bytes × Unit)) (rd H12 (.agg [.int .i64, .int .i64, .str]) a13.1 a13.2) fun (v14 : (Int × Int × Bytes × Unit)) =>
 (Sl.at 3 r8.1.1 s11.1).bind fun (a15 : (Nat × Nat)) =>
 Option.bind (α := (Int × Int × Bytes × Unit)) (rd H12 (.agg [.int .i64, .int .i64, .str]) a15.1 a15.2) fun (v16 : (Int × Int × Bytes × Unit)) =>
 cond (!((decide (v14.1 = v16.1)) && ((decide (v14.2.1 = v16.2.1)) && ((decide ((v14.2.2.1 : Bytes) = v16.2.2.1)) && true)))) (
 some (Sum.inr (Sum.inr (false, ())), H12)) (
 some (Sum.inl ((IntKind.wrap .i64 (s11.1 + 1)), ()), H12))) (
 some (Sum.inr (Sum.inl (())), H12))
noncomputable def law19_ModelCopies.s2 (r5 : ((Sl × Unit) × Heap)) (r9 : ((Sl × Unit) × Heap)) (s19 : (Int × Unit)) (H20 : Heap) : Option (((Int × Unit) ⊕ ((Unit) ⊕ (Bool × Unit))) × Heap) :=
 cond (decide (s19.1 < (r5.1.1.len : Int))) (
 (Sl.at 4 r5.1.1 s19.1).bind fun (a21 : (Nat × Nat)) =>
 Option.bind (α := (Int × Int × Int × Bool × Unit)) (rd H20 (.agg [.int .i64, .int .i64, .int .i64, .bool]) a21.1 a21.2) fun (v22 : (Int × Int × Int × Bool × Unit)) =>
 (Sl.at 4 r9.1.1 s19.1).bind fun (a23 : (Nat × Nat)) =>
 Option.bind (α := (Int × Int × Int × Bool × Unit)) (rd H20 (.agg [.int .i64, .int .i64, .int .i64, .bool]) a23.1 a23.2) fun (v24 : (Int × Int × Int × Bool × Unit)) =>
 cond (!((decide (v22.1 = v24.1)) && ((decide (v22.2.1 = v24.2.1)) && ((decide (v22.2.2.1 = v24.2.2.1)) && ((v22.2.2.2.1 == v24.2.2.2.1) && true))))) (
 some (Sum.inr (Sum.inr (false, ())), H20)) (
 some (Sum.inl ((IntKind.wrap .i64 (s19.1 + 1)), ()), H20))) (
 some (Sum.inr (Sum.inl (())), H20))
noncomputable def law19_ModelCopies (x0 : Sl) (x1 : Sl) (H : Heap) : Option ((Bool × Unit) × Heap) :=
 (law19_room 9).bind fun (r1 : ((Int × Int × Int × Int × Unit) × Unit)) =>
 (model_New (r1.1.1, r1.1.2.1, r1.1.2.2.1, r1.1.2.2.2.1, ()) 64 H).bind fun (r2 : ((Ptr × Unit) × Heap)) =>
 (law19_play r2.1.1 x0 r2.2).bind fun (r3 : ((Unit) × Heap)) =>
 (model_Model_Leaves r2.1.1 r3.2).bind fun (r4 : ((Sl × Unit) × Heap)) =>
 (model_Model_Spaces r2.1.1 r4.2).bind fun (r5 : ((Sl × Unit) × Heap)) =>
 (model_Model_Copy r2.1.1 r5.2).bind fun (r6 : ((Ptr × Unit) × Heap)) =>
 (law19_play r6.1.1 x1 r6.2).bind fun (r7 : ((Unit) × Heap)) =>
 (model_Model_Leaves r2.1.1 r7.2).bind fun (r8 : ((Sl × Unit) × Heap)) =>
 (model_Model_Spaces r2.1.1 r8.2).bind fun (r9 : ((Sl × Unit) × Heap)) =>
 (law19_awake).bind fun (r10 : (Bool × Unit)) =>
 cond (!r10.1) (
 some ((false, ()), r9.2)) (
 cond (!decide ((r4.1.1.len : Int) = (r8.1.1.len : Int))) (
 some ((false, ()), r9.2)) (
 cond (!decide ((r5.1.1.len : Int) = (r9.1.1.len : Int))) (
 some ((false, ()), r9.2)) (
 (loopW (law19_ModelCopies.s1 r4 r8) (0, ()) r9.2).bind fun (p17 : ((Unit) ⊕ (Bool × Unit)) × Heap) =>
 Sum.elim (fun (y18 : (Unit)) =>
 (loopW (law19_ModelCopies.s2 r5 r9) (0, ()) p17.2).bind fun (p25 : ((Unit) ⊕ (Bool × Unit)) × Heap) =>
 Sum.elim (fun (y26 : (Unit)) =>
 (law19_play r2.1.1 x1 p25.2).bind fun (r27 : ((Unit) × Heap)) =>
 (model_Model_Leaves r2.1.1 r27.2).bind fun (r28 : ((Sl × Unit) × Heap)) =>
 (model_Model_Leaves r6.1.1 r28.2).bind fun (r29 : ((Sl × Unit) × Heap)) =>
 cond (decide ((r28.1.1.len : Int) = (r29.1.1.len : Int))) (
 (model_Model_Spaces r2.1.1 r29.2).bind fun (r30 : ((Sl × Unit) × Heap)) =>
 (model_Model_Spaces r6.1.1 r30.2).bind fun (r31 : ((Sl × Unit) × Heap)) =>
 some (((decide ((r30.1.1.len : Int) = (r31.1.1.len : Int))), ()), r31.2)) (
 some ((false, ()), r29.2))) (fun (z32 : (Bool × Unit)) =>
 some ((z32.1, ()), p25.2)) p25.1) (fun (z33 : (Bool × Unit)) =>
 some ((z33.1, ()), p17.2)) p17.1)))
noncomputable def law19_ModelCopies.c : Callee := .full [.one (.sl 8), .one (.sl 8)] [.one .bool] (fun x H => law19_ModelCopies x.1 x.2.1 H)
noncomputable def law19_ModelCopies.calls : Nat → Option Callee
  | 0 => some law19_room.c
  | 1 => some model_New.c
  | 2 => some law19_play.c
  | 3 => some model_Model_Leaves.c
  | 4 => some model_Model_Spaces.c
  | 5 => some model_Model_Copy.c
  | 6 => some law19_awake.c
  | _ => none
theorem law19_ModelCopies.eq : evFull law19_ModelCopies.calls law19_ModelCopies.af = (fun x H => law19_ModelCopies x.1 x.2.1 H) := by kernel_rfl

/-! ### tinderbox/tinderboxlaw19.ModelNone -/
def law19_ModelNone.af : AFun := ⟨[.one (.int .i64), .one (.int .i64)], [.one .bool], [.t 4],
 .seq (.reg [.op ⟨0, some 4, .mv (.c (.one (.bool false))), none⟩])
 (.seq (.reg [.op ⟨0, some 5, .mv (.c (.one (.ptr none))), none⟩])
 (.seq (.reg [.op ⟨0, some 9, .mv (.t 5), none⟩,
  .op ⟨1, some 10, .mv (.t 0), none⟩,
  .op ⟨2, some 11, .mv (.t 1), none⟩,
  .op ⟨3, some 12, .call 0 [(.t 9), (.t 10), (.t 11)], none⟩,
  .op ⟨4, some 8, .mv (.t 12), none⟩,
  .op ⟨5, some 13, .ext (.t 8) 0, none⟩,
  .op ⟨6, some 14, .ext (.t 8) 1, none⟩,
  .op ⟨7, some 6, .mv (.t 13), none⟩,
  .op ⟨8, some 7, .mv (.t 14), none⟩])
 (.seq (.reg [.op ⟨0, some 15, .call 1 [], none⟩,
  .op ⟨1, some 16, .mv (.t 15), none⟩,
  .op ⟨2, some 17, .mv (.t 7), some (16, true)⟩,
  .op ⟨3, some 18, .bin .eql (.t 17) (.c (.one (.int .i64 1))), some (16, true)⟩,
  .op ⟨4, some 19, .pick (.t 16) (.t 18) (.c (.one (.bool false))), none⟩,
  .op ⟨5, some 20, .mv (.t 19), none⟩,
  .op ⟨6, some 21, .mv (.t 5), some (20, true)⟩,
  .op ⟨7, some 22, .call 2 [(.t 21)], some (20, true)⟩,
  .op ⟨8, some 23, .bin .eql (.t 22) (.c (.one (.int .i64 1))), some (20, true)⟩,
  .op ⟨9, some 24, .pick (.t 20) (.t 23) (.c (.one (.bool false))), none⟩,
  .op ⟨10, some 25, .mv (.t 24), none⟩,
  .op ⟨11, some 26, .mv (.t 5), some (25, true)⟩,
  .op ⟨12, some 27, .mv (.t 0), some (25, true)⟩,
  .op ⟨13, some 28, .mv (.t 1), some (25, true)⟩,
  .op ⟨14, some 29, .call 3 [(.t 26), (.t 27), (.t 28), (.c (.one (.str [])))], some (25, true)⟩,
  .op ⟨15, some 30, .bin .eql (.t 29) (.c (.one (.int .i64 1))), some (25, true)⟩,
  .op ⟨16, some 31, .pick (.t 25) (.t 30) (.c (.one (.bool false))), none⟩,
  .op ⟨17, some 32, .mv (.t 31), none⟩,
  .op ⟨18, some 33, .mv (.t 5), some (32, true)⟩,
  .op ⟨19, some 34, .build [.int .i64 0, .int .i64 0, .int .i64 0, .int .i64 0, .int .i64 0, .int .i64 0] [], some (32, true)⟩,
  .op ⟨20, some 35, .call 4 [(.t 33), (.t 34)], some (32, true)⟩,
  .op ⟨21, some 36, .bin .eql (.t 35) (.c (.one (.int .i64 1))), some (32, true)⟩,
  .op ⟨22, some 37, .pick (.t 32) (.t 36) (.c (.one (.bool false))), none⟩,
  .op ⟨23, some 38, .mv (.t 37), none⟩,
  .op ⟨24, some 39, .mv (.t 5), some (38, true)⟩,
  .op ⟨25, some 40, .call 5 [(.t 39)], some (38, true)⟩,
  .op ⟨26, some 41, .bin .eql (.t 40) (.c (.one (.int .i64 1))), some (38, true)⟩,
  .op ⟨27, some 42, .pick (.t 38) (.t 41) (.c (.one (.bool false))), none⟩,
  .op ⟨28, some 43, .mv (.t 42), none⟩,
  .op ⟨29, some 44, .mv (.t 5), some (43, true)⟩,
  .op ⟨30, some 45, .call 6 [(.t 44)], some (43, true)⟩,
  .op ⟨31, some 46, .bin .eql (.t 45) (.c (.one (.int .i64 1))), some (43, true)⟩,
  .op ⟨32, some 47, .pick (.t 43) (.t 46) (.c (.one (.bool false))), none⟩,
  .op ⟨33, some 48, .mv (.t 47), none⟩,
  .op ⟨34, some 49, .mv (.t 5), some (48, true)⟩,
  .op ⟨35, some 50, .call 7 [(.t 49)], some (48, true)⟩,
  .op ⟨36, some 51, .len (.t 50), some (48, true)⟩,
  .op ⟨37, some 52, .bin .eql (.t 51) (.c (.one (.int .i64 0))), some (48, true)⟩,
  .op ⟨38, some 53, .pick (.t 48) (.t 52) (.c (.one (.bool false))), none⟩,
  .op ⟨39, some 54, .mv (.t 53), none⟩,
  .op ⟨40, some 55, .mv (.t 5), some (54, true)⟩,
  .op ⟨41, some 56, .call 8 [(.t 55)], some (54, true)⟩,
  .op ⟨42, some 57, .len (.t 56), some (54, true)⟩,
  .op ⟨43, some 58, .bin .eql (.t 57) (.c (.one (.int .i64 0))), some (54, true)⟩,
  .op ⟨44, some 59, .pick (.t 54) (.t 58) (.c (.one (.bool false))), none⟩,
  .op ⟨45, some 60, .mv (.t 59), none⟩,
  .op ⟨46, some 61, .mv (.t 5), some (60, true)⟩,
  .op ⟨47, some 62, .call 9 [(.t 61)], some (60, true)⟩,
  .op ⟨48, some 63, .isnil false (.t 62), some (60, true)⟩,
  .op ⟨49, some 64, .pick (.t 60) (.t 63) (.c (.one (.bool false))), none⟩,
  .op ⟨50, some 4, .mv (.t 64), none⟩])
 (.ret))))⟩
noncomputable def law19_ModelNone.on (x0 : Int) (x1 : Int) (H : Heap) : Option (Bool × Unit) :=
 (model_Model_Get none x0 x1 H).bind fun (r1 : ((Bytes × Int × Unit) × Heap)) =>
 (law19_awake).bind fun (r2 : (Bool × Unit)) =>
 cond r2.1 (
 cond (decide (r1.1.2.1 = 1)) (
 (model_Model_Begin none r1.2).bind fun (r3 : ((Int × Unit) × Heap)) =>
 cond (decide (r3.1.1 = 1)) (
 (model_Model_Put none x0 x1 [] r3.2).bind fun (r4 : ((Int × Unit) × Heap)) =>
 cond (decide (r4.1.1 = 1)) (
 (model_Model_Do none (0, 0, 0, 0, 0, 0, ()) r4.2).bind fun (r5 : ((Int × Unit) × Heap)) =>
 cond (decide (r5.1.1 = 1)) (
 (model_Model_Commit none r5.2).bind fun (r6 : ((Int × Unit) × Heap)) =>
 cond (decide (r6.1.1 = 1)) (
 (model_Model_Abort none r6.2).bind fun (r7 : ((Int × Unit) × Heap)) =>
 cond (decide (r7.1.1 = 1)) (
 (model_Model_Spaces none r7.2).bind fun (r8 : ((Sl × Unit) × Heap)) =>
 cond (decide ((r8.1.1.len : Int) = 0)) (
 (model_Model_Leaves none r8.2).bind fun (r9 : ((Sl × Unit) × Heap)) =>
 cond (decide ((r9.1.1.len : Int) = 0)) (
 (model_Model_Copy none r9.2).bind fun (r10 : ((Ptr × Unit) × Heap)) =>
 some ((Option.isNone r10.1.1), ())) (
 some (false, ()))) (
 some (false, ()))) (
 some (false, ()))) (
 some (false, ()))) (
 some (false, ()))) (
 some (false, ()))) (
 some (false, ()))) (
 some (false, ()))) (
 some (false, ()))
noncomputable def law19_ModelNone (x0 : Int) (x1 : Int) : Option (Bool × Unit) := law19_ModelNone.on x0 x1 []
noncomputable def law19_ModelNone.c : Callee := .pure [.one (.int .i64), .one (.int .i64)] [.one .bool] (fun x => law19_ModelNone x.1 x.2.1)
noncomputable def law19_ModelNone.calls : Nat → Option Callee
  | 0 => some model_Model_Get.c
  | 1 => some law19_awake.c
  | 2 => some model_Model_Begin.c
  | 3 => some model_Model_Put.c
  | 4 => some model_Model_Do.c
  | 5 => some model_Model_Commit.c
  | 6 => some model_Model_Abort.c
  | 7 => some model_Model_Spaces.c
  | 8 => some model_Model_Leaves.c
  | 9 => some model_Model_Copy.c
  | _ => none
theorem law19_ModelNone.eq : evPure law19_ModelNone.calls law19_ModelNone.af = (fun x H => law19_ModelNone.on x.1 x.2.1 H) := by kernel_rfl
end Ev
