/- What the functions of the package Law08 compute: abstract code, and a function of plain Lean for each; the kernel checks that they are the same. Written by gen2.py. -/
import Derived.Test.YtfmefnejaocopaaEvCore
import Derived.Test.YtfmefnejaocopaaGRef08
import Derived.Test.YtfmefnejaocopaaGState
import Derived.KernelRfl
set_option linter.unusedVariables false
set_option maxRecDepth 100000
namespace Ev
open Go (IntKind BinOp UnOp)

/-! ### tinderbox/tinderboxlaw08.awake -/
def law08_awake.af : AFun := ⟨[], [.one .bool], [.t 0],
 .seq (.reg [.op ⟨0, some 0, .mv (.c (.one (.bool false))), none⟩])
 (.seq (.reg [.op ⟨0, some 7, .call 0 [], none⟩,
  .op ⟨1, some 1, .mv (.t 7), none⟩])
 (.seq (.reg [.op ⟨0, some 8, .mv (.t 1), none⟩,
  .op ⟨1, some 9, .build [.int .i64 0, .int .i64 0, .int .i64 0, .int .i64 0, .int .i64 0, .int .i64 0] [(0, 1, (.c (.one (.int .i64 4)))), (1, 1, (.c (.one (.int .i64 1)))), (5, 1, (.c (.one (.int .i64 4))))], none⟩,
  .op ⟨2, some 10, .call 1 [(.t 8), (.t 9)], none⟩,
  .op ⟨3, some 2, .mv (.t 10), none⟩])
 (.seq (.reg [.op ⟨0, some 11, .mv (.t 1), none⟩,
  .op ⟨1, some 12, .build [.int .i64 0, .int .i64 0, .int .i64 0, .int .i64 0, .int .i64 0, .int .i64 0] [(0, 1, (.c (.one (.int .i64 1)))), (1, 1, (.c (.one (.int .i64 1)))), (3, 1, (.c (.one (.int .i64 5))))], none⟩,
  .op ⟨2, some 13, .call 1 [(.t 11), (.t 12)], none⟩,
  .op ⟨3, some 3, .mv (.t 13), none⟩])
 (.seq (.reg [.op ⟨0, some 14, .mv (.t 1), none⟩,
  .op ⟨1, some 15, .build [.int .i64 0, .int .i64 0, .int .i64 0, .int .i64 0, .int .i64 0, .int .i64 0] [(0, 1, (.c (.one (.int .i64 6)))), (1, 1, (.c (.one (.int .i64 1)))), (4, 1, (.c (.one (.int .i64 2))))], none⟩,
  .op ⟨2, some 16, .call 1 [(.t 14), (.t 15)], none⟩,
  .op ⟨3, some 4, .mv (.t 16), none⟩])
 (.seq (.reg [.op ⟨0, some 18, .mv (.t 1), none⟩,
  .op ⟨1, some 19, .call 2 [(.t 18), (.c (.one (.int .i64 2))), (.c (.one (.int .i64 0)))], none⟩,
  .op ⟨2, some 17, .mv (.t 19), none⟩,
  .op ⟨3, some 20, .ext (.t 17) 0, none⟩,
  .op ⟨4, some 21, .ext (.t 17) 1, none⟩,
  .op ⟨5, some 5, .mv (.t 20), none⟩,
  .op ⟨6, some 6, .mv (.t 21), none⟩])
 (.seq (.reg [.op ⟨0, some 22, .mv (.t 2), none⟩,
  .op ⟨1, some 23, .bin .eql (.t 22) (.c (.one (.int .i64 0))), none⟩,
  .op ⟨2, some 24, .mv (.t 23), none⟩,
  .op ⟨3, some 25, .mv (.t 3), some (24, true)⟩,
  .op ⟨4, some 26, .bin .eql (.t 25) (.c (.one (.int .i64 0))), some (24, true)⟩,
  .op ⟨5, some 27, .pick (.t 24) (.t 26) (.c (.one (.bool false))), none⟩,
  .op ⟨6, some 28, .mv (.t 27), none⟩,
  .op ⟨7, some 29, .mv (.t 4), some (28, true)⟩,
  .op ⟨8, some 30, .bin .eql (.t 29) (.c (.one (.int .i64 0))), some (28, true)⟩,
  .op ⟨9, some 31, .pick (.t 28) (.t 30) (.c (.one (.bool false))), none⟩,
  .op ⟨10, some 32, .mv (.t 31), none⟩,
  .op ⟨11, some 33, .mv (.t 6), some (32, true)⟩,
  .op ⟨12, some 34, .pick (.t 32) (.t 33) (.c (.one (.bool false))), none⟩,
  .op ⟨13, some 35, .mv (.t 34), none⟩,
  .op ⟨14, some 36, .mv (.t 5), some (35, true)⟩,
  .op ⟨15, some 37, .bin .eql (.t 36) (.c (.one (.int .i64 5))), some (35, true)⟩,
  .op ⟨16, some 38, .pick (.t 35) (.t 37) (.c (.one (.bool false))), none⟩,
  .op ⟨17, some 39, .mv (.t 38), none⟩,
  .op ⟨18, some 40, .mv (.t 1), some (39, true)⟩,
  .op ⟨19, some 41, .call 3 [(.t 40), (.c (.one (.int .i64 5)))], some (39, true)⟩,
  .op ⟨20, some 42, .bin .eql (.t 41) (.c (.one (.int .i64 2))), some (39, true)⟩,
  .op ⟨21, some 43, .pick (.t 39) (.t 42) (.c (.one (.bool false))), none⟩,
  .op ⟨22, some 44, .mv (.t 43), none⟩,
  .op ⟨23, some 45, .mv (.t 1), some (44, true)⟩,
  .op ⟨24, some 46, .call 4 [(.t 45)], some (44, true)⟩,
  .op ⟨25, some 47, .bin .eql (.t 46) (.c (.one (.int .i64 1))), some (44, true)⟩,
  .op ⟨26, some 48, .pick (.t 44) (.t 47) (.c (.one (.bool false))), none⟩,
  .op ⟨27, some 49, .mv (.t 48), none⟩,
  .op ⟨28, some 50, .mv (.t 1), some (49, true)⟩,
  .op ⟨29, some 51, .call 5 [(.t 50)], some (49, true)⟩,
  .op ⟨30, some 52, .bin .eql (.t 51) (.c (.one (.int .i64 2))), some (49, true)⟩,
  .op ⟨31, some 53, .pick (.t 49) (.t 52) (.c (.one (.bool false))), none⟩,
  .op ⟨32, some 54, .mv (.t 53), none⟩,
  .op ⟨33, some 55, .mv (.t 1), some (54, true)⟩,
  .op ⟨34, some 56, .call 6 [(.t 55)], some (54, true)⟩,
  .op ⟨35, some 57, .len (.t 56), some (54, true)⟩,
  .op ⟨36, some 58, .bin .eql (.t 57) (.c (.one (.int .i64 2))), some (54, true)⟩,
  .op ⟨37, some 59, .pick (.t 54) (.t 58) (.c (.one (.bool false))), none⟩,
  .op ⟨38, some 0, .mv (.t 59), none⟩])
 (.ret)))))))⟩
noncomputable def law08_awake.on (H : Heap) : Option (Bool × Unit) :=
 (state_New H).bind fun (r1 : ((Ptr × Unit) × Heap)) =>
 (state_State_Apply r1.1.1 (4, 1, 0, 0, 0, 4, ()) r1.2).bind fun (r2 : ((Int × Unit) × Heap)) =>
 (state_State_Apply r1.1.1 (1, 1, 0, 5, 0, 0, ()) r2.2).bind fun (r3 : ((Int × Unit) × Heap)) =>
 (state_State_Apply r1.1.1 (6, 1, 0, 0, 2, 0, ()) r3.2).bind fun (r4 : ((Int × Unit) × Heap)) =>
 (state_State_Get r1.1.1 2 0 r4.2).bind fun (r5 : ((Int × Bool × Unit) × Heap)) =>
 cond (decide (r2.1.1 = 0)) (
 cond (decide (r3.1.1 = 0)) (
 cond (decide (r4.1.1 = 0)) (
 cond r5.1.2.1 (
 cond (decide (r5.1.1 = 5)) (
 (state_State_Refs r1.1.1 5 r5.2).bind fun (r6 : ((Int × Unit) × Heap)) =>
 cond (decide (r6.1.1 = 2)) (
 (state_State_Live r1.1.1 r6.2).bind fun (r7 : ((Int × Unit) × Heap)) =>
 cond (decide (r7.1.1 = 1)) (
 (state_State_Keys r1.1.1 r7.2).bind fun (r8 : ((Int × Unit) × Heap)) =>
 cond (decide (r8.1.1 = 2)) (
 (state_State_Spaces r1.1.1 r8.2).bind fun (r9 : ((Sl × Unit) × Heap)) =>
 some ((decide ((r9.1.1.len : Int) = 2)), ())) (
 some (false, ()))) (
 some (false, ()))) (
 some (false, ()))) (
 some (false, ()))) (
 some (false, ()))) (
 some (false, ()))) (
 some (false, ()))) (
 some (false, ()))
noncomputable def law08_awake  : Option (Bool × Unit) := law08_awake.on []
noncomputable def law08_awake.c : Callee := .pure [] [.one .bool] (fun _ => law08_awake)
noncomputable def law08_awake.calls : Nat → Option Callee
  | 0 => some state_New.c
  | 1 => some state_State_Apply.c
  | 2 => some state_State_Get.c
  | 3 => some state_State_Refs.c
  | 4 => some state_State_Live.c
  | 5 => some state_State_Keys.c
  | 6 => some state_State_Spaces.c
  | _ => none
theorem law08_awake.eq : evPure law08_awake.calls law08_awake.af = (fun _ H => law08_awake.on H) := by kernel_rfl

/-! ### tinderbox/tinderboxlaw08.Same -/
def law08_Same.af : AFun := ⟨[.one .ptr, .agg [.sl 3, .sl 3, .sl 1, .sl 2]], [.one .bool], [.t 4],
 .seq (.reg [.op ⟨0, some 3, .box (.t 1), none⟩,
  .op ⟨1, some 4, .mv (.c (.one (.bool false))), none⟩])
 (.seq (.reg [.op ⟨0, some 17, .mv (.t 0), none⟩,
  .op ⟨1, some 18, .call 0 [(.t 17)], none⟩,
  .op ⟨2, some 5, .mv (.t 18), none⟩])
 (.seq (.seq (.reg [.op ⟨0, some 19, .mv (.t 5), none⟩,
  .op ⟨1, some 20, .len (.t 19), none⟩,
  .op ⟨2, some 21, .addr 0 (.t 3), none⟩,
  .op ⟨3, some 22, .load (.one (.sl 3)) (.t 21), none⟩,
  .op ⟨4, some 23, .len (.t 22), none⟩,
  .op ⟨5, some 24, .bin .neq (.t 20) (.t 23), none⟩,
  .op ⟨6, some 25, .mv (.t 24), none⟩,
  .op ⟨7, some 26, .mv (.t 0), some (25, false)⟩,
  .op ⟨9, some 28, .addr 1 (.t 3), some (25, false)⟩,
  .op ⟨10, some 29, .load (.one (.sl 3)) (.t 28), some (25, false)⟩,
  .op ⟨11, some 30, .len (.t 29), some (25, false)⟩,
  .op ⟨8, some 27, .call 1 [(.t 26)], some (25, false)⟩,
  .op ⟨12, some 31, .bin .neq (.t 27) (.t 30), some (25, false)⟩,
  .op ⟨13, some 32, .pick (.t 25) (.c (.one (.bool true))) (.t 31), none⟩,
  .op ⟨14, some 33, .mv (.t 32), none⟩,
  .op ⟨15, some 34, .mv (.t 0), some (33, false)⟩,
  .op ⟨17, some 36, .load (.agg [.sl 3, .sl 3, .sl 1, .sl 2]) (.t 3), some (33, false)⟩,
  .again ⟨10, some 29, .load (.one (.sl 3)) (.t 28), some (25, false)⟩,
  .op ⟨16, some 35, .call 2 [(.t 34)], some (33, false)⟩,
  .again ⟨17, some 36, .load (.agg [.sl 3, .sl 3, .sl 1, .sl 2]) (.t 3), some (33, false)⟩,
  .op ⟨18, some 37, .call 3 [(.t 36)], some (33, false)⟩,
  .op ⟨19, some 38, .bin .neq (.t 35) (.t 37), some (33, false)⟩,
  .op ⟨20, some 39, .pick (.t 33) (.c (.one (.bool true))) (.t 38), none⟩,
  .op ⟨21, some 40, .mv (.t 39), none⟩,
  .op ⟨22, some 41, .mv (.t 0), some (40, false)⟩,
  .op ⟨24, some 43, .addr 2 (.t 3), some (40, false)⟩,
  .op ⟨25, some 44, .load (.one (.sl 1)) (.t 43), some (40, false)⟩,
  .op ⟨26, some 45, .len (.t 44), some (40, false)⟩,
  .op ⟨23, some 42, .call 4 [(.t 41)], some (40, false)⟩,
  .op ⟨27, some 46, .bin .neq (.t 42) (.t 45), some (40, false)⟩,
  .op ⟨28, some 47, .pick (.t 40) (.c (.one (.bool true))) (.t 46), none⟩,
  .again ⟨25, some 44, .load (.one (.sl 1)) (.t 43), some (40, false)⟩])
 (.cond (.t 47) (.seq (.reg [.op ⟨0, some 4, .mv (.c (.one (.bool false))), none⟩])
 (.ret)) (.skip)))
 (.seq (.seq (.reg [.op ⟨0, some 6, .mv (.c (.one (.int .i64 0))), none⟩])
 (.block 0 (.loop [(6, .one (.int .i64))] [(.exit 0, []), (.ret, [(4, .one .bool)])] (.seq (.seq (.reg [.op ⟨0, some 48, .mv (.t 6), none⟩,
  .op ⟨1, some 49, .mv (.t 5), none⟩,
  .op ⟨2, some 50, .len (.t 49), none⟩,
  .op ⟨3, some 51, .bin .lss (.t 48) (.t 50), none⟩])
 (.cond (.t 51) (.skip) (.exit 0)))
 (.seq (.block 1 (.seq (.reg [.op ⟨0, some 54, .addr 0 (.t 3), none⟩,
  .op ⟨1, some 55, .load (.one (.sl 3)) (.t 54), none⟩,
  .op ⟨2, some 56, .mv (.t 6), none⟩,
  .op ⟨3, some 57, .idxa 3 (.t 55) (.t 56), none⟩,
  .op ⟨4, some 58, .load (.agg [.int .i64, .int .i64, .bool]) (.t 57), none⟩,
  .op ⟨5, some 7, .new [.int .i64 0, .int .i64 0, .bool false], none⟩,
  .op ⟨6, none, .store 3 (.t 7) (.t 58), none⟩])
 (.seq (.reg [.op ⟨0, some 60, .mv (.t 0), none⟩,
  .op ⟨1, some 61, .addr 0 (.t 7), none⟩,
  .op ⟨2, some 62, .load (.one (.int .i64)) (.t 61), none⟩,
  .op ⟨3, some 63, .call 5 [(.t 60), (.t 62)], none⟩,
  .op ⟨4, some 59, .mv (.t 63), none⟩,
  .op ⟨5, some 64, .ext (.t 59) 0, none⟩,
  .op ⟨6, some 65, .ext (.t 59) 1, none⟩,
  .op ⟨7, some 8, .new [.int .i64 0, .int .i64 0, .int .i64 0, .bool false], none⟩,
  .op ⟨8, none, .store 4 (.t 8) (.t 64), none⟩,
  .op ⟨9, some 9, .mv (.t 65), none⟩])
 (.seq (.reg [.op ⟨0, some 66, .mv (.t 5), none⟩,
  .op ⟨1, some 67, .mv (.t 6), none⟩,
  .op ⟨2, some 68, .idxa 4 (.t 66) (.t 67), none⟩,
  .op ⟨3, some 69, .load (.agg [.int .i64, .int .i64, .int .i64, .bool]) (.t 68), none⟩,
  .op ⟨4, some 70, .addr 0 (.t 7), none⟩,
  .op ⟨5, some 71, .load (.one (.int .i64)) (.t 70), none⟩,
  .op ⟨6, some 72, .addr 1 (.t 7), none⟩,
  .op ⟨7, some 73, .load (.one (.int .i64)) (.t 72), none⟩,
  .op ⟨8, some 74, .load (.agg [.sl 3, .sl 3, .sl 1, .sl 2]) (.t 3), none⟩,
  .op ⟨9, some 75, .addr 0 (.t 7), none⟩,
  .op ⟨10, some 76, .load (.one (.int .i64)) (.t 75), none⟩,
  .op ⟨12, some 78, .addr 2 (.t 7), none⟩,
  .op ⟨13, some 79, .load (.one .bool) (.t 78), none⟩,
  .op ⟨11, some 77, .call 6 [(.t 74), (.t 76)], none⟩,
  .op ⟨14, some 80, .build [.int .i64 0, .int .i64 0, .int .i64 0, .bool false] [(0, 1, (.t 71)), (1, 1, (.t 73)), (2, 1, (.t 77)), (3, 1, (.t 79))], none⟩,
  .op ⟨15, some 81, .eqagg true [.int .i64, .int .i64, .int .i64, .bool] (.t 69) (.t 80), none⟩,
  .op ⟨16, some 82, .mv (.t 81), none⟩,
  .op ⟨17, some 83, .mv (.t 9), some (82, false)⟩,
  .op ⟨18, some 84, .un .not (.t 83), some (82, false)⟩,
  .op ⟨19, some 85, .pick (.t 82) (.c (.one (.bool true))) (.t 84), none⟩,
  .op ⟨20, some 86, .mv (.t 85), none⟩,
  .op ⟨21, some 87, .load (.agg [.int .i64, .int .i64, .int .i64, .bool]) (.t 8), some (86, false)⟩,
  .op ⟨22, some 88, .mv (.t 5), some (86, false)⟩,
  .op ⟨23, some 89, .mv (.t 6), some (86, false)⟩,
  .op ⟨24, some 90, .idxa 4 (.t 88) (.t 89), some (86, false)⟩,
  .op ⟨25, some 91, .load (.agg [.int .i64, .int .i64, .int .i64, .bool]) (.t 90), some (86, false)⟩,
  .op ⟨26, some 92, .eqagg true [.int .i64, .int .i64, .int .i64, .bool] (.t 87) (.t 91), some (86, false)⟩,
  .op ⟨27, some 93, .pick (.t 86) (.c (.one (.bool true))) (.t 92), none⟩,
  .again ⟨3, some 69, .load (.agg [.int .i64, .int .i64, .int .i64, .bool]) (.t 68), none⟩,
  .again ⟨5, some 71, .load (.one (.int .i64)) (.t 70), none⟩,
  .again ⟨7, some 73, .load (.one (.int .i64)) (.t 72), none⟩,
  .again ⟨13, some 79, .load (.one .bool) (.t 78), none⟩])
 (.cond (.t 93) (.seq (.reg [.op ⟨0, some 4, .mv (.c (.one (.bool false))), none⟩])
 (.ret)) (.skip))))))
 (.reg [.op ⟨0, some 52, .mv (.t 6), none⟩,
  .op ⟨1, some 53, .bin .add (.t 52) (.c (.one (.int .i64 1))), none⟩,
  .op ⟨2, some 6, .mv (.t 53), none⟩]))))))
 (.seq (.seq (.reg [.op ⟨0, some 10, .mv (.c (.one (.int .i64 0))), none⟩])
 (.block 2 (.loop [(10, .one (.int .i64))] [(.exit 2, []), (.ret, [(4, .one .bool)])] (.seq (.seq (.reg [.op ⟨0, some 94, .mv (.t 10), none⟩,
  .op ⟨1, some 95, .addr 1 (.t 3), none⟩,
  .op ⟨2, some 96, .load (.one (.sl 3)) (.t 95), none⟩,
  .op ⟨3, some 97, .len (.t 96), none⟩,
  .op ⟨4, some 98, .bin .lss (.t 94) (.t 97), none⟩])
 (.cond (.t 98) (.skip) (.exit 2)))
 (.seq (.block 3 (.seq (.reg [.op ⟨0, some 101, .addr 1 (.t 3), none⟩,
  .op ⟨1, some 102, .load (.one (.sl 3)) (.t 101), none⟩,
  .op ⟨2, some 103, .mv (.t 10), none⟩,
  .op ⟨3, some 104, .idxa 3 (.t 102) (.t 103), none⟩,
  .op ⟨4, some 105, .load (.agg [.int .i64, .int .i64, .int .i64]) (.t 104), none⟩,
  .op ⟨5, some 11, .new [.int .i64 0, .int .i64 0, .int .i64 0], none⟩,
  .op ⟨6, none, .store 3 (.t 11) (.t 105), none⟩])
 (.seq (.reg [.op ⟨0, some 107, .mv (.t 0), none⟩,
  .op ⟨1, some 108, .addr 0 (.t 11), none⟩,
  .op ⟨2, some 109, .load (.one (.int .i64)) (.t 108), none⟩,
  .op ⟨3, some 110, .addr 1 (.t 11), none⟩,
  .op ⟨4, some 111, .load (.one (.int .i64)) (.t 110), none⟩,
  .op ⟨5, some 112, .call 7 [(.t 107), (.t 109), (.t 111)], none⟩,
  .op ⟨6, some 106, .mv (.t 112), none⟩,
  .op ⟨7, some 113, .ext (.t 106) 0, none⟩,
  .op ⟨8, some 114, .ext (.t 106) 1, none⟩,
  .op ⟨9, some 12, .mv (.t 113), none⟩,
  .op ⟨10, some 13, .mv (.t 114), none⟩])
 (.seq (.reg [.op ⟨0, some 115, .mv (.t 13), none⟩,
  .op ⟨1, some 116, .un .not (.t 115), none⟩,
  .op ⟨2, some 117, .mv (.t 116), none⟩,
  .op ⟨3, some 118, .mv (.t 12), some (117, false)⟩,
  .op ⟨4, some 119, .addr 2 (.t 11), some (117, false)⟩,
  .op ⟨5, some 120, .load (.one (.int .i64)) (.t 119), some (117, false)⟩,
  .op ⟨6, some 121, .bin .neq (.t 118) (.t 120), some (117, false)⟩,
  .op ⟨7, some 122, .pick (.t 117) (.c (.one (.bool true))) (.t 121), none⟩,
  .op ⟨8, some 123, .mv (.t 122), none⟩,
  .op ⟨9, some 124, .mv (.t 0), some (123, false)⟩,
  .op ⟨10, some 125, .addr 2 (.t 11), some (123, false)⟩,
  .op ⟨11, some 126, .load (.one (.int .i64)) (.t 125), some (123, false)⟩,
  .op ⟨13, some 128, .load (.agg [.sl 3, .sl 3, .sl 1, .sl 2]) (.t 3), some (123, false)⟩,
  .op ⟨14, some 129, .addr 2 (.t 11), some (123, false)⟩,
  .op ⟨15, some 130, .load (.one (.int .i64)) (.t 129), some (123, false)⟩,
  .op ⟨12, some 127, .call 8 [(.t 124), (.t 126)], some (123, false)⟩,
  .again ⟨13, some 128, .load (.agg [.sl 3, .sl 3, .sl 1, .sl 2]) (.t 3), some (123, false)⟩,
  .again ⟨15, some 130, .load (.one (.int .i64)) (.t 129), some (123, false)⟩,
  .op ⟨16, some 131, .call 9 [(.t 128), (.t 130)], some (123, false)⟩,
  .op ⟨17, some 132, .bin .neq (.t 127) (.t 131), some (123, false)⟩,
  .op ⟨18, some 133, .pick (.t 123) (.c (.one (.bool true))) (.t 132), none⟩])
 (.cond (.t 133) (.seq (.reg [.op ⟨0, some 4, .mv (.c (.one (.bool false))), none⟩])
 (.ret)) (.skip))))))
 (.reg [.op ⟨0, some 99, .mv (.t 10), none⟩,
  .op ⟨1, some 100, .bin .add (.t 99) (.c (.one (.int .i64 1))), none⟩,
  .op ⟨2, some 10, .mv (.t 100), none⟩]))))))
 (.seq (.reg [.op ⟨0, some 134, .mv (.t 0), none⟩,
  .op ⟨2, some 136, .load (.agg [.sl 3, .sl 3, .sl 1, .sl 2]) (.t 3), none⟩,
  .op ⟨1, some 135, .call 10 [(.t 134)], none⟩,
  .again ⟨2, some 136, .load (.agg [.sl 3, .sl 3, .sl 1, .sl 2]) (.t 3), none⟩,
  .op ⟨3, some 137, .call 11 [(.t 136)], none⟩,
  .op ⟨4, some 14, .mv (.t 135), none⟩,
  .op ⟨5, some 15, .mv (.t 137), none⟩])
 (.seq (.seq (.reg [.op ⟨0, some 138, .mv (.t 14), none⟩,
  .op ⟨1, some 139, .len (.t 138), none⟩,
  .op ⟨2, some 140, .mv (.t 15), none⟩,
  .op ⟨3, some 141, .len (.t 140), none⟩,
  .op ⟨4, some 142, .bin .neq (.t 139) (.t 141), none⟩])
 (.cond (.t 142) (.seq (.reg [.op ⟨0, some 4, .mv (.c (.one (.bool false))), none⟩])
 (.ret)) (.skip)))
 (.seq (.seq (.reg [.op ⟨0, some 16, .mv (.c (.one (.int .i64 0))), none⟩])
 (.block 4 (.loop [(16, .one (.int .i64))] [(.exit 4, []), (.ret, [(4, .one .bool)])] (.seq (.seq (.reg [.op ⟨0, some 143, .mv (.t 16), none⟩,
  .op ⟨1, some 144, .mv (.t 14), none⟩,
  .op ⟨2, some 145, .len (.t 144), none⟩,
  .op ⟨3, some 146, .bin .lss (.t 143) (.t 145), none⟩])
 (.cond (.t 146) (.skip) (.exit 4)))
 (.seq (.block 5 (.seq (.reg [.op ⟨0, some 149, .mv (.t 14), none⟩,
  .op ⟨1, some 150, .mv (.t 16), none⟩,
  .op ⟨2, some 151, .idxa 6 (.t 149) (.t 150), none⟩,
  .op ⟨3, some 152, .load (.agg [.int .i64, .int .i64, .int .i64, .int .i64, .int .i64, .int .i64]) (.t 151), none⟩,
  .op ⟨4, some 153, .mv (.t 15), none⟩,
  .op ⟨5, some 154, .mv (.t 16), none⟩,
  .op ⟨6, some 155, .idxa 6 (.t 153) (.t 154), none⟩,
  .op ⟨7, some 156, .load (.agg [.int .i64, .int .i64, .int .i64, .int .i64, .int .i64, .int .i64]) (.t 155), none⟩,
  .op ⟨8, some 157, .eqagg true [.int .i64, .int .i64, .int .i64, .int .i64, .int .i64, .int .i64] (.t 152) (.t 156), none⟩])
 (.cond (.t 157) (.seq (.reg [.op ⟨0, some 4, .mv (.c (.one (.bool false))), none⟩])
 (.ret)) (.skip))))
 (.reg [.op ⟨0, some 147, .mv (.t 16), none⟩,
  .op ⟨1, some 148, .bin .add (.t 147) (.c (.one (.int .i64 1))), none⟩,
  .op ⟨2, some 16, .mv (.t 148), none⟩]))))))
 (.seq (.reg [.op ⟨0, some 4, .mv (.c (.one (.bool true))), none⟩])
 (.ret)))))))))⟩
noncomputable def law08_Same.s1 (x0 : Ptr) (H : Heap) (r2 : ((Sl × Unit) × Heap)) (s15 : (Int × Unit)) (H16 : Heap) : Option (((Int × Unit) ⊕ ((Unit) ⊕ (Bool × Unit))) × Heap) :=
 cond (decide (s15.1 < (r2.1.1.len : Int))) (
 (rdSl 3 H16 H.length 0).bind fun (v17 : Sl) =>
 (Sl.at 3 v17 s15.1).bind fun (a18 : (Nat × Nat)) =>
 Option.bind (α := (Int × Int × Bool × Unit)) (rd H16 (.agg [.int .i64, .int .i64, .bool]) a18.1 a18.2) fun (v19 : (Int × Int × Bool × Unit)) =>
 let H20 : Heap := H16 ++ [Blk.cells [.int .i64 0, .int .i64 0, .bool false] .exact]
 (wr H20 H16.length 0 [.int .i64 v19.1, .int .i64 v19.2.1, .bool v19.2.2.1]).bind fun (H21 : Heap) =>
 (rdI .i64 H21 H16.length 0).bind fun (v22 : Int) =>
 (state_State_Space x0 v22 H21).bind fun (r23 : (((Int × Int × Int × Bool × Unit) × Bool × Unit) × Heap)) =>
 let H24 : Heap := r23.2 ++ [Blk.cells [.int .i64 0, .int .i64 0, .int .i64 0, .bool false] .exact]
 (wr H24 r23.2.length 0 [.int .i64 r23.1.1.1, .int .i64 r23.1.1.2.1, .int .i64 r23.1.1.2.2.1, .bool r23.1.1.2.2.2.1]).bind fun (H25 : Heap) =>
 (Sl.at 4 r2.1.1 s15.1).bind fun (a26 : (Nat × Nat)) =>
 Option.bind (α := (Int × Int × Int × Bool × Unit)) (rd H25 (.agg [.int .i64, .int .i64, .int .i64, .bool]) a26.1 a26.2) fun (v27 : (Int × Int × Int × Bool × Unit)) =>
 (rdI .i64 H25 H16.length 0).bind fun (v28 : Int) =>
 (rdI .i64 H25 H16.length 1).bind fun (v29 : Int) =>
 Option.bind (α := (Sl × Sl × Sl × Sl × Unit)) (rd H25 (.agg [.sl 3, .sl 3, .sl 1, .sl 2]) H.length 0) fun (v30 : (Sl × Sl × Sl × Sl × Unit)) =>
 (rdI .i64 H25 H16.length 0).bind fun (v31 : Int) =>
 (rdB H25 H16.length 2).bind fun (v32 : Bool) =>
 (ref08_State_Pages (v30.1, v30.2.1, v30.2.2.1, v30.2.2.2.1, ()) v31 H25).bind fun (r33 : ((Int × Unit) × Heap)) =>
 cond (!((decide (v27.1 = v28)) && ((decide (v27.2.1 = v29)) && ((decide (v27.2.2.1 = r33.1.1)) && ((v27.2.2.2.1 == v32) && true))))) (
 Option.bind (α := (Int × Int × Int × Bool × Unit)) (rd r33.2 (.agg [.int .i64, .int .i64, .int .i64, .bool]) a26.1 a26.2) fun (v34 : (Int × Int × Int × Bool × Unit)) =>
 if V.w (.agg [.int .i64 v34.1, .int .i64 v34.2.1, .int .i64 v34.2.2.1, .bool v34.2.2.2.1]) = V.w (.agg [.int .i64 v27.1, .int .i64 v27.2.1, .int .i64 v27.2.2.1, .bool v27.2.2.2.1]) then
 (rdI .i64 r33.2 H16.length 0).bind fun (v35 : Int) =>
 if V.w (.one (.int .i64 v35)) = V.w (.one (.int .i64 v28)) then
 (rdI .i64 r33.2 H16.length 1).bind fun (v36 : Int) =>
 if V.w (.one (.int .i64 v36)) = V.w (.one (.int .i64 v29)) then
 (rdB r33.2 H16.length 2).bind fun (v37 : Bool) =>
 if V.w (.one (.bool v37)) = V.w (.one (.bool v32)) then
 some (Sum.inr (Sum.inr (false, ())), r33.2)
 else none
 else none
 else none
 else none) (
 cond (!r23.1.2.1) (
 Option.bind (α := (Int × Int × Int × Bool × Unit)) (rd r33.2 (.agg [.int .i64, .int .i64, .int .i64, .bool]) a26.1 a26.2) fun (v38 : (Int × Int × Int × Bool × Unit)) =>
 if V.w (.agg [.int .i64 v38.1, .int .i64 v38.2.1, .int .i64 v38.2.2.1, .bool v38.2.2.2.1]) = V.w (.agg [.int .i64 v27.1, .int .i64 v27.2.1, .int .i64 v27.2.2.1, .bool v27.2.2.2.1]) then
 (rdI .i64 r33.2 H16.length 0).bind fun (v39 : Int) =>
 if V.w (.one (.int .i64 v39)) = V.w (.one (.int .i64 v28)) then
 (rdI .i64 r33.2 H16.length 1).bind fun (v40 : Int) =>
 if V.w (.one (.int .i64 v40)) = V.w (.one (.int .i64 v29)) then
 (rdB r33.2 H16.length 2).bind fun (v41 : Bool) =>
 if V.w (.one (.bool v41)) = V.w (.one (.bool v32)) then
 some (Sum.inr (Sum.inr (false, ())), r33.2)
 else none
 else none
 else none
 else none) (
 Option.bind (α := (Int × Int × Int × Bool × Unit)) (rd r33.2 (.agg [.int .i64, .int .i64, .int .i64, .bool]) r23.2.length 0) fun (v42 : (Int × Int × Int × Bool × Unit)) =>
 (Sl.at 4 r2.1.1 s15.1).bind fun (a43 : (Nat × Nat)) =>
 Option.bind (α := (Int × Int × Int × Bool × Unit)) (rd r33.2 (.agg [.int .i64, .int .i64, .int .i64, .bool]) a43.1 a43.2) fun (v44 : (Int × Int × Int × Bool × Unit)) =>
 Option.bind (α := (Int × Int × Int × Bool × Unit)) (rd r33.2 (.agg [.int .i64, .int .i64, .int .i64, .bool]) a26.1 a26.2) fun (v45 : (Int × Int × Int × Bool × Unit)) =>
 if V.w (.agg [.int .i64 v45.1, .int .i64 v45.2.1, .int .i64 v45.2.2.1, .bool v45.2.2.2.1]) = V.w (.agg [.int .i64 v27.1, .int .i64 v27.2.1, .int .i64 v27.2.2.1, .bool v27.2.2.2.1]) then
 (rdI .i64 r33.2 H16.length 0).bind fun (v46 : Int) =>
 if V.w (.one (.int .i64 v46)) = V.w (.one (.int .i64 v28)) then
 (rdI .i64 r33.2 H16.length 1).bind fun (v47 : Int) =>
 if V.w (.one (.int .i64 v47)) = V.w (.one (.int .i64 v29)) then
 (rdB r33.2 H16.length 2).bind fun (v48 : Bool) =>
 if V.w (.one (.bool v48)) = V.w (.one (.bool v32)) then
 cond (!((decide (v42.1 = v44.1)) && ((decide (v42.2.1 = v44.2.1)) && ((decide (v42.2.2.1 = v44.2.2.1)) && ((v42.2.2.2.1 == v44.2.2.2.1) && true))))) (
 some (Sum.inr (Sum.inr (false, ())), r33.2)) (
 some (Sum.inl ((IntKind.wrap .i64 (s15.1 + 1)), ()), r33.2))
 else none
 else none
 else none
 else none))) (
 some (Sum.inr (Sum.inl (())), H16))
noncomputable def law08_Same.s2 (x0 : Ptr) (H : Heap) (s51 : (Int × Unit)) (H52 : Heap) : Option (((Int × Unit) ⊕ ((Unit) ⊕ (Bool × Unit))) × Heap) :=
 (rdSl 3 H52 H.length 1).bind fun (v53 : Sl) =>
 cond (decide (s51.1 < (v53.len : Int))) (
 (rdSl 3 H52 H.length 1).bind fun (v54 : Sl) =>
 (Sl.at 3 v54 s51.1).bind fun (a55 : (Nat × Nat)) =>
 Option.bind (α := (Int × Int × Int × Unit)) (rd H52 (.agg [.int .i64, .int .i64, .int .i64]) a55.1 a55.2) fun (v56 : (Int × Int × Int × Unit)) =>
 let H57 : Heap := H52 ++ [Blk.cells [.int .i64 0, .int .i64 0, .int .i64 0] .exact]
 (wr H57 H52.length 0 [.int .i64 v56.1, .int .i64 v56.2.1, .int .i64 v56.2.2.1]).bind fun (H58 : Heap) =>
 (rdI .i64 H58 H52.length 0).bind fun (v59 : Int) =>
 (rdI .i64 H58 H52.length 1).bind fun (v60 : Int) =>
 (state_State_Get x0 v59 v60 H58).bind fun (r61 : ((Int × Bool × Unit) × Heap)) =>
 cond (!r61.1.2.1) (
 some (Sum.inr (Sum.inr (false, ())), r61.2)) (
 (rdI .i64 r61.2 H52.length 2).bind fun (v62 : Int) =>
 cond (!decide (r61.1.1 = v62)) (
 some (Sum.inr (Sum.inr (false, ())), r61.2)) (
 (rdI .i64 r61.2 H52.length 2).bind fun (v63 : Int) =>
 Option.bind (α := (Sl × Sl × Sl × Sl × Unit)) (rd r61.2 (.agg [.sl 3, .sl 3, .sl 1, .sl 2]) H.length 0) fun (v64 : (Sl × Sl × Sl × Sl × Unit)) =>
 (rdI .i64 r61.2 H52.length 2).bind fun (v65 : Int) =>
 (state_State_Refs x0 v63 r61.2).bind fun (r66 : ((Int × Unit) × Heap)) =>
 Option.bind (α := (Sl × Sl × Sl × Sl × Unit)) (rd r66.2 (.agg [.sl 3, .sl 3, .sl 1, .sl 2]) H.length 0) fun (v67 : (Sl × Sl × Sl × Sl × Unit)) =>
 if V.w (.agg [.sl 3 v67.1, .sl 3 v67.2.1, .sl 1 v67.2.2.1, .sl 2 v67.2.2.2.1]) = V.w (.agg [.sl 3 v64.1, .sl 3 v64.2.1, .sl 1 v64.2.2.1, .sl 2 v64.2.2.2.1]) then
 (rdI .i64 r66.2 H52.length 2).bind fun (v68 : Int) =>
 if V.w (.one (.int .i64 v68)) = V.w (.one (.int .i64 v65)) then
 (ref08_State_Refs (v64.1, v64.2.1, v64.2.2.1, v64.2.2.2.1, ()) v65 r66.2).bind fun (r69 : ((Int × Unit) × Heap)) =>
 cond (!decide (r66.1.1 = r69.1.1)) (
 some (Sum.inr (Sum.inr (false, ())), r69.2)) (
 some (Sum.inl ((IntKind.wrap .i64 (s51.1 + 1)), ()), r69.2))
 else none
 else none))) (
 some (Sum.inr (Sum.inl (())), H52))
noncomputable def law08_Same.s3 (r73 : ((Sl × Unit) × Heap)) (r75 : ((Sl × Unit) × Heap)) (s76 : (Int × Unit)) (H77 : Heap) : Option (((Int × Unit) ⊕ ((Unit) ⊕ (Bool × Unit))) × Heap) :=
 cond (decide (s76.1 < (r73.1.1.len : Int))) (
 (Sl.at 6 r73.1.1 s76.1).bind fun (a78 : (Nat × Nat)) =>
 Option.bind (α := (Int × Int × Int × Int × Int × Int × Unit)) (rd H77 (.agg [.int .i64, .int .i64, .int .i64, .int .i64, .int .i64, .int .i64]) a78.1 a78.2) fun (v79 : (Int × Int × Int × Int × Int × Int × Unit)) =>
 (Sl.at 6 r75.1.1 s76.1).bind fun (a80 : (Nat × Nat)) =>
 Option.bind (α := (Int × Int × Int × Int × Int × Int × Unit)) (rd H77 (.agg [.int .i64, .int .i64, .int .i64, .int .i64, .int .i64, .int .i64]) a80.1 a80.2) fun (v81 : (Int × Int × Int × Int × Int × Int × Unit)) =>
 cond (!((decide (v79.1 = v81.1)) && ((decide (v79.2.1 = v81.2.1)) && ((decide (v79.2.2.1 = v81.2.2.1)) && ((decide (v79.2.2.2.1 = v81.2.2.2.1)) && ((decide (v79.2.2.2.2.1 = v81.2.2.2.2.1)) && ((decide (v79.2.2.2.2.2.1 = v81.2.2.2.2.2.1)) && true))))))) (
 some (Sum.inr (Sum.inr (false, ())), H77)) (
 some (Sum.inl ((IntKind.wrap .i64 (s76.1 + 1)), ()), H77))) (
 some (Sum.inr (Sum.inl (())), H77))
noncomputable def law08_Same (x0 : Ptr) (x1 : (Sl × Sl × Sl × Sl × Unit)) (H : Heap) : Option ((Bool × Unit) × Heap) :=
 let H1 : Heap := H ++ [Blk.cells [.sl 3 x1.1, .sl 3 x1.2.1, .sl 1 x1.2.2.1, .sl 2 x1.2.2.2.1] .exact]
 (state_State_Spaces x0 H1).bind fun (r2 : ((Sl × Unit) × Heap)) =>
 (rdSl 3 r2.2 H.length 0).bind fun (v3 : Sl) =>
 cond (!decide ((r2.1.1.len : Int) = (v3.len : Int))) (
 some ((false, ()), r2.2)) (
 (rdSl 3 r2.2 H.length 1).bind fun (v4 : Sl) =>
 (state_State_Keys x0 r2.2).bind fun (r5 : ((Int × Unit) × Heap)) =>
 cond (!decide (r5.1.1 = (v4.len : Int))) (
 (rdSl 3 r5.2 H.length 1).bind fun (v6 : Sl) =>
 if V.w (.one (.sl 3 v6)) = V.w (.one (.sl 3 v4)) then
 some ((false, ()), r5.2)
 else none) (
 Option.bind (α := (Sl × Sl × Sl × Sl × Unit)) (rd r5.2 (.agg [.sl 3, .sl 3, .sl 1, .sl 2]) H.length 0) fun (v7 : (Sl × Sl × Sl × Sl × Unit)) =>
 (rdSl 3 r5.2 H.length 1).bind fun (v8 : Sl) =>
 if V.w (.one (.sl 3 v8)) = V.w (.one (.sl 3 v4)) then
 (state_State_Live x0 r5.2).bind fun (r9 : ((Int × Unit) × Heap)) =>
 Option.bind (α := (Sl × Sl × Sl × Sl × Unit)) (rd r9.2 (.agg [.sl 3, .sl 3, .sl 1, .sl 2]) H.length 0) fun (v10 : (Sl × Sl × Sl × Sl × Unit)) =>
 if V.w (.agg [.sl 3 v10.1, .sl 3 v10.2.1, .sl 1 v10.2.2.1, .sl 2 v10.2.2.2.1]) = V.w (.agg [.sl 3 v7.1, .sl 3 v7.2.1, .sl 1 v7.2.2.1, .sl 2 v7.2.2.2.1]) then
 (ref08_State_Live (v7.1, v7.2.1, v7.2.2.1, v7.2.2.2.1, ()) r9.2).bind fun (r11 : ((Int × Unit) × Heap)) =>
 cond (!decide (r9.1.1 = r11.1.1)) (
 some ((false, ()), r11.2)) (
 (rdSl 1 r11.2 H.length 2).bind fun (v12 : Sl) =>
 (state_State_Bads x0 r11.2).bind fun (r13 : ((Int × Unit) × Heap)) =>
 (rdSl 1 r13.2 H.length 2).bind fun (v14 : Sl) =>
 if V.w (.one (.sl 1 v14)) = V.w (.one (.sl 1 v12)) then
 cond (!decide (r13.1.1 = (v12.len : Int))) (
 some ((false, ()), r13.2)) (
 (loopW (law08_Same.s1 x0 H r2) (0, ()) r13.2).bind fun (p49 : ((Unit) ⊕ (Bool × Unit)) × Heap) =>
 Sum.elim (fun (y50 : (Unit)) =>
 (loopW (law08_Same.s2 x0 H) (0, ()) p49.2).bind fun (p70 : ((Unit) ⊕ (Bool × Unit)) × Heap) =>
 Sum.elim (fun (y71 : (Unit)) =>
 Option.bind (α := (Sl × Sl × Sl × Sl × Unit)) (rd p70.2 (.agg [.sl 3, .sl 3, .sl 1, .sl 2]) H.length 0) fun (v72 : (Sl × Sl × Sl × Sl × Unit)) =>
 (state_State_Dump x0 p70.2).bind fun (r73 : ((Sl × Unit) × Heap)) =>
 Option.bind (α := (Sl × Sl × Sl × Sl × Unit)) (rd r73.2 (.agg [.sl 3, .sl 3, .sl 1, .sl 2]) H.length 0) fun (v74 : (Sl × Sl × Sl × Sl × Unit)) =>
 if V.w (.agg [.sl 3 v74.1, .sl 3 v74.2.1, .sl 1 v74.2.2.1, .sl 2 v74.2.2.2.1]) = V.w (.agg [.sl 3 v72.1, .sl 3 v72.2.1, .sl 1 v72.2.2.1, .sl 2 v72.2.2.2.1]) then
 (ref08_State_Dump (v72.1, v72.2.1, v72.2.2.1, v72.2.2.2.1, ()) r73.2).bind fun (r75 : ((Sl × Unit) × Heap)) =>
 cond (!decide ((r73.1.1.len : Int) = (r75.1.1.len : Int))) (
 some ((false, ()), r75.2)) (
 (loopW (law08_Same.s3 r73 r75) (0, ()) r75.2).bind fun (p82 : ((Unit) ⊕ (Bool × Unit)) × Heap) =>
 Sum.elim (fun (y83 : (Unit)) =>
 some ((true, ()), p82.2)) (fun (z84 : (Bool × Unit)) =>
 some ((z84.1, ()), p82.2)) p82.1)
 else none) (fun (z85 : (Bool × Unit)) =>
 some ((z85.1, ()), p70.2)) p70.1) (fun (z86 : (Bool × Unit)) =>
 some ((z86.1, ()), p49.2)) p49.1)
 else none)
 else none
 else none))
noncomputable def law08_Same.c : Callee := .full [.one .ptr, .agg [.sl 3, .sl 3, .sl 1, .sl 2]] [.one .bool] (fun x H => law08_Same x.1 x.2.1 H)
noncomputable def law08_Same.calls : Nat → Option Callee
  | 0 => some state_State_Spaces.c
  | 1 => some state_State_Keys.c
  | 2 => some state_State_Live.c
  | 3 => some ref08_State_Live.c
  | 4 => some state_State_Bads.c
  | 5 => some state_State_Space.c
  | 6 => some ref08_State_Pages.c
  | 7 => some state_State_Get.c
  | 8 => some state_State_Refs.c
  | 9 => some ref08_State_Refs.c
  | 10 => some state_State_Dump.c
  | 11 => some ref08_State_Dump.c
  | _ => none
theorem law08_Same.eq : evFull law08_Same.calls law08_Same.af = (fun x H => law08_Same x.1 x.2.1 H) := by kernel_rfl

/-! ### tinderbox/tinderboxlaw08.StatePlays -/
def law08_StatePlays.af : AFun := ⟨[.one (.sl 6)], [.one .bool], [.t 2],
 .seq (.reg [.op ⟨0, some 2, .mv (.c (.one (.bool false))), none⟩])
 (.seq (.reg [.op ⟨0, some 12, .call 0 [], none⟩,
  .op ⟨1, some 13, .build [.sl 3 Sl.nil, .sl 3 Sl.nil, .sl 1 Sl.nil, .sl 2 Sl.nil] [], none⟩,
  .op ⟨2, some 4, .new [.sl 3 Sl.nil, .sl 3 Sl.nil, .sl 1 Sl.nil, .sl 2 Sl.nil], none⟩,
  .op ⟨3, some 3, .mv (.t 12), none⟩,
  .op ⟨4, none, .store 4 (.t 4) (.t 13), none⟩])
 (.seq (.seq (.reg [.op ⟨0, some 14, .call 1 [], none⟩,
  .op ⟨1, some 15, .un .not (.t 14), none⟩])
 (.cond (.t 15) (.seq (.reg [.op ⟨0, some 2, .mv (.c (.one (.bool false))), none⟩])
 (.ret)) (.skip)))
 (.seq (.seq (.reg [.op ⟨0, some 5, .mv (.c (.one (.int .i64 0))), none⟩])
 (.block 0 (.loop [(5, .one (.int .i64))] [(.exit 0, []), (.ret, [(2, .one .bool)])] (.seq (.seq (.reg [.op ⟨0, some 16, .mv (.t 5), none⟩,
  .op ⟨1, some 17, .mv (.t 0), none⟩,
  .op ⟨2, some 18, .len (.t 17), none⟩,
  .op ⟨3, some 19, .bin .lss (.t 16) (.t 18), none⟩,
  .op ⟨4, some 20, .mv (.t 19), none⟩,
  .op ⟨5, some 21, .mv (.t 5), some (20, true)⟩,
  .op ⟨6, some 22, .bin .lss (.t 21) (.c (.one (.int .i64 60))), some (20, true)⟩,
  .op ⟨7, some 23, .pick (.t 20) (.t 22) (.c (.one (.bool false))), none⟩])
 (.cond (.t 23) (.skip) (.exit 0)))
 (.seq (.block 1 (.seq (.reg [.op ⟨0, some 27, .load (.agg [.sl 3, .sl 3, .sl 1, .sl 2]) (.t 4), none⟩,
  .op ⟨1, some 28, .mv (.t 0), none⟩,
  .op ⟨2, some 29, .mv (.t 5), none⟩,
  .op ⟨3, some 30, .idxa 6 (.t 28) (.t 29), none⟩,
  .op ⟨4, some 31, .load (.agg [.int .i64, .int .i64, .int .i64, .int .i64, .int .i64, .int .i64]) (.t 30), none⟩,
  .op ⟨9, some 6, .new [.sl 3 Sl.nil, .sl 3 Sl.nil, .sl 1 Sl.nil, .sl 2 Sl.nil], none⟩,
  .op ⟨5, some 32, .call 2 [(.t 27), (.t 31)], none⟩,
  .op ⟨6, some 26, .mv (.t 32), none⟩,
  .op ⟨7, some 33, .ext (.t 26) 0, none⟩,
  .op ⟨8, some 34, .ext (.t 26) 1, none⟩,
  .still ⟨9, some 6, .new [.sl 3 Sl.nil, .sl 3 Sl.nil, .sl 1 Sl.nil, .sl 2 Sl.nil], none⟩,
  .op ⟨10, none, .store 4 (.t 6) (.t 33), none⟩,
  .op ⟨11, some 7, .mv (.t 34), none⟩])
 (.seq (.reg [.op ⟨0, some 35, .load (.agg [.sl 3, .sl 3, .sl 1, .sl 2]) (.t 6), none⟩,
  .op ⟨1, none, .store 4 (.t 4) (.t 35), none⟩])
 (.seq (.seq (.reg [.op ⟨0, some 36, .mv (.t 3), none⟩,
  .op ⟨1, some 37, .mv (.t 0), none⟩,
  .op ⟨2, some 38, .mv (.t 5), none⟩,
  .op ⟨3, some 39, .idxa 6 (.t 37) (.t 38), none⟩,
  .op ⟨4, some 40, .load (.agg [.int .i64, .int .i64, .int .i64, .int .i64, .int .i64, .int .i64]) (.t 39), none⟩,
  .op ⟨5, some 41, .call 3 [(.t 36), (.t 40)], none⟩,
  .op ⟨6, some 42, .mv (.t 7), none⟩,
  .op ⟨7, some 43, .bin .neq (.t 41) (.t 42), none⟩,
  .op ⟨8, some 44, .mv (.t 43), none⟩,
  .op ⟨9, some 45, .mv (.t 3), some (44, false)⟩,
  .op ⟨10, some 46, .load (.agg [.sl 3, .sl 3, .sl 1, .sl 2]) (.t 4), some (44, false)⟩,
  .op ⟨11, some 47, .call 4 [(.t 45), (.t 46)], some (44, false)⟩,
  .op ⟨12, some 48, .un .not (.t 47), some (44, false)⟩,
  .op ⟨13, some 49, .pick (.t 44) (.c (.one (.bool true))) (.t 48), none⟩])
 (.cond (.t 49) (.seq (.reg [.op ⟨0, some 2, .mv (.c (.one (.bool false))), none⟩])
 (.ret)) (.skip)))
 (.seq (.reg [.op ⟨0, some 51, .mv (.t 3), none⟩,
  .op ⟨1, some 52, .mv (.t 0), none⟩,
  .op ⟨2, some 53, .mv (.t 5), none⟩,
  .op ⟨3, some 54, .idxa 6 (.t 52) (.t 53), none⟩,
  .op ⟨4, some 55, .addr 1 (.t 54), none⟩,
  .op ⟨5, some 56, .load (.one (.int .i64)) (.t 55), none⟩,
  .op ⟨6, some 57, .mv (.t 0), none⟩,
  .op ⟨7, some 58, .mv (.t 5), none⟩,
  .op ⟨8, some 59, .idxa 6 (.t 57) (.t 58), none⟩,
  .op ⟨9, some 60, .addr 2 (.t 59), none⟩,
  .op ⟨10, some 61, .load (.one (.int .i64)) (.t 60), none⟩,
  .op ⟨11, some 62, .call 5 [(.t 51), (.t 56), (.t 61)], none⟩,
  .op ⟨12, some 50, .mv (.t 62), none⟩,
  .op ⟨13, some 63, .ext (.t 50) 0, none⟩,
  .op ⟨14, some 64, .ext (.t 50) 1, none⟩,
  .op ⟨15, some 8, .mv (.t 63), none⟩,
  .op ⟨16, some 9, .mv (.t 64), none⟩])
 (.seq (.reg [.op ⟨0, some 66, .load (.agg [.sl 3, .sl 3, .sl 1, .sl 2]) (.t 4), none⟩,
  .op ⟨1, some 67, .mv (.t 0), none⟩,
  .op ⟨2, some 68, .mv (.t 5), none⟩,
  .op ⟨3, some 69, .idxa 6 (.t 67) (.t 68), none⟩,
  .op ⟨4, some 70, .addr 1 (.t 69), none⟩,
  .op ⟨5, some 71, .load (.one (.int .i64)) (.t 70), none⟩,
  .op ⟨6, some 72, .mv (.t 0), none⟩,
  .op ⟨7, some 73, .mv (.t 5), none⟩,
  .op ⟨8, some 74, .idxa 6 (.t 72) (.t 73), none⟩,
  .op ⟨9, some 75, .addr 2 (.t 74), none⟩,
  .op ⟨10, some 76, .load (.one (.int .i64)) (.t 75), none⟩,
  .op ⟨11, some 77, .call 6 [(.t 66), (.t 71), (.t 76)], none⟩,
  .op ⟨12, some 65, .mv (.t 77), none⟩,
  .op ⟨13, some 78, .ext (.t 65) 0, none⟩,
  .op ⟨14, some 79, .ext (.t 65) 1, none⟩,
  .op ⟨15, some 10, .mv (.t 78), none⟩,
  .op ⟨16, some 11, .mv (.t 79), none⟩])
 (.seq (.reg [.op ⟨0, some 80, .mv (.t 9), none⟩,
  .op ⟨1, some 81, .mv (.t 11), none⟩,
  .op ⟨2, some 82, .eqb true (.t 80) (.t 81), none⟩,
  .op ⟨3, some 83, .mv (.t 82), none⟩,
  .op ⟨4, some 84, .mv (.t 8), some (83, false)⟩,
  .op ⟨5, some 85, .mv (.t 10), some (83, false)⟩,
  .op ⟨6, some 86, .bin .neq (.t 84) (.t 85), some (83, false)⟩,
  .op ⟨7, some 87, .pick (.t 83) (.c (.one (.bool true))) (.t 86), none⟩])
 (.cond (.t 87) (.seq (.reg [.op ⟨0, some 2, .mv (.c (.one (.bool false))), none⟩])
 (.ret)) (.skip)))))))))
 (.reg [.op ⟨0, some 24, .mv (.t 5), none⟩,
  .op ⟨1, some 25, .bin .add (.t 24) (.c (.one (.int .i64 1))), none⟩,
  .op ⟨2, some 5, .mv (.t 25), none⟩]))))))
 (.seq (.reg [.op ⟨0, some 2, .mv (.c (.one (.bool true))), none⟩])
 (.ret)))))⟩
noncomputable def law08_StatePlays.s1 (x0 : Sl) (r1 : ((Ptr × Unit) × Heap)) (s5 : (Int × Unit)) (H6 : Heap) : Option (((Int × Unit) ⊕ ((Unit) ⊕ (Bool × Unit))) × Heap) :=
 cond (decide (s5.1 < (x0.len : Int))) (
 cond (decide (s5.1 < 60)) (
 Option.bind (α := (Sl × Sl × Sl × Sl × Unit)) (rd H6 (.agg [.sl 3, .sl 3, .sl 1, .sl 2]) r1.2.length 0) fun (v7 : (Sl × Sl × Sl × Sl × Unit)) =>
 (Sl.at 6 x0 s5.1).bind fun (a8 : (Nat × Nat)) =>
 Option.bind (α := (Int × Int × Int × Int × Int × Int × Unit)) (rd H6 (.agg [.int .i64, .int .i64, .int .i64, .int .i64, .int .i64, .int .i64]) a8.1 a8.2) fun (v9 : (Int × Int × Int × Int × Int × Int × Unit)) =>
 let H10 : Heap := H6 ++ [Blk.cells [.sl 3 Sl.nil, .sl 3 Sl.nil, .sl 1 Sl.nil, .sl 2 Sl.nil] .exact]
 (ref08_State_Apply (v7.1, v7.2.1, v7.2.2.1, v7.2.2.2.1, ()) (v9.1, v9.2.1, v9.2.2.1, v9.2.2.2.1, v9.2.2.2.2.1, v9.2.2.2.2.2.1, ()) H10).bind fun (r11 : (((Sl × Sl × Sl × Sl × Unit) × Int × Unit) × Heap)) =>
 if r11.2[H6.length]? = some (Blk.cells [.sl 3 Sl.nil, .sl 3 Sl.nil, .sl 1 Sl.nil, .sl 2 Sl.nil] .exact) then
 (wr r11.2 H6.length 0 [.sl 3 r11.1.1.1, .sl 3 r11.1.1.2.1, .sl 1 r11.1.1.2.2.1, .sl 2 r11.1.1.2.2.2.1]).bind fun (H12 : Heap) =>
 Option.bind (α := (Sl × Sl × Sl × Sl × Unit)) (rd H12 (.agg [.sl 3, .sl 3, .sl 1, .sl 2]) H6.length 0) fun (v13 : (Sl × Sl × Sl × Sl × Unit)) =>
 (wr H12 r1.2.length 0 [.sl 3 v13.1, .sl 3 v13.2.1, .sl 1 v13.2.2.1, .sl 2 v13.2.2.2.1]).bind fun (H14 : Heap) =>
 (Sl.at 6 x0 s5.1).bind fun (a15 : (Nat × Nat)) =>
 Option.bind (α := (Int × Int × Int × Int × Int × Int × Unit)) (rd H14 (.agg [.int .i64, .int .i64, .int .i64, .int .i64, .int .i64, .int .i64]) a15.1 a15.2) fun (v16 : (Int × Int × Int × Int × Int × Int × Unit)) =>
 (state_State_Apply r1.1.1 (v16.1, v16.2.1, v16.2.2.1, v16.2.2.2.1, v16.2.2.2.2.1, v16.2.2.2.2.2.1, ()) H14).bind fun (r17 : ((Int × Unit) × Heap)) =>
 cond (!decide (r17.1.1 = r11.1.2.1)) (
 some (Sum.inr (Sum.inr (false, ())), r17.2)) (
 Option.bind (α := (Sl × Sl × Sl × Sl × Unit)) (rd r17.2 (.agg [.sl 3, .sl 3, .sl 1, .sl 2]) r1.2.length 0) fun (v18 : (Sl × Sl × Sl × Sl × Unit)) =>
 (law08_Same r1.1.1 (v18.1, v18.2.1, v18.2.2.1, v18.2.2.2.1, ()) r17.2).bind fun (r19 : ((Bool × Unit) × Heap)) =>
 cond (!r19.1.1) (
 some (Sum.inr (Sum.inr (false, ())), r19.2)) (
 (Sl.at 6 x0 s5.1).bind fun (a20 : (Nat × Nat)) =>
 (rdI .i64 r19.2 a20.1 (a20.2 + 1)).bind fun (v21 : Int) =>
 (Sl.at 6 x0 s5.1).bind fun (a22 : (Nat × Nat)) =>
 (rdI .i64 r19.2 a22.1 (a22.2 + 2)).bind fun (v23 : Int) =>
 (state_State_Get r1.1.1 v21 v23 r19.2).bind fun (r24 : ((Int × Bool × Unit) × Heap)) =>
 Option.bind (α := (Sl × Sl × Sl × Sl × Unit)) (rd r24.2 (.agg [.sl 3, .sl 3, .sl 1, .sl 2]) r1.2.length 0) fun (v25 : (Sl × Sl × Sl × Sl × Unit)) =>
 (Sl.at 6 x0 s5.1).bind fun (a26 : (Nat × Nat)) =>
 (rdI .i64 r24.2 a26.1 (a26.2 + 1)).bind fun (v27 : Int) =>
 (Sl.at 6 x0 s5.1).bind fun (a28 : (Nat × Nat)) =>
 (rdI .i64 r24.2 a28.1 (a28.2 + 2)).bind fun (v29 : Int) =>
 (ref08_State_Get (v25.1, v25.2.1, v25.2.2.1, v25.2.2.2.1, ()) v27 v29 r24.2).bind fun (r30 : ((Int × Bool × Unit) × Heap)) =>
 cond (!(r24.1.2.1 == r30.1.2.1)) (
 some (Sum.inr (Sum.inr (false, ())), r30.2)) (
 cond (!decide (r24.1.1 = r30.1.1)) (
 some (Sum.inr (Sum.inr (false, ())), r30.2)) (
 some (Sum.inl ((IntKind.wrap .i64 (s5.1 + 1)), ()), r30.2)))))
 else none) (
 some (Sum.inr (Sum.inl (())), H6))) (
 some (Sum.inr (Sum.inl (())), H6))
noncomputable def law08_StatePlays (x0 : Sl) (H : Heap) : Option ((Bool × Unit) × Heap) :=
 (state_New H).bind fun (r1 : ((Ptr × Unit) × Heap)) =>
 let H2 : Heap := r1.2 ++ [Blk.cells [.sl 3 Sl.nil, .sl 3 Sl.nil, .sl 1 Sl.nil, .sl 2 Sl.nil] .exact]
 (wr H2 r1.2.length 0 [.sl 3 (⟨none, 0, 0⟩), .sl 3 (⟨none, 0, 0⟩), .sl 1 (⟨none, 0, 0⟩), .sl 2 (⟨none, 0, 0⟩)]).bind fun (H3 : Heap) =>
 (law08_awake).bind fun (r4 : (Bool × Unit)) =>
 cond (!r4.1) (
 some ((false, ()), H3)) (
 (loopW (law08_StatePlays.s1 x0 r1) (0, ()) H3).bind fun (p31 : ((Unit) ⊕ (Bool × Unit)) × Heap) =>
 Sum.elim (fun (y32 : (Unit)) =>
 some ((true, ()), p31.2)) (fun (z33 : (Bool × Unit)) =>
 some ((z33.1, ()), p31.2)) p31.1)
noncomputable def law08_StatePlays.c : Callee := .full [.one (.sl 6)] [.one .bool] (fun x H => law08_StatePlays x.1 H)
noncomputable def law08_StatePlays.calls : Nat → Option Callee
  | 0 => some state_New.c
  | 1 => some law08_awake.c
  | 2 => some ref08_State_Apply.c
  | 3 => some state_State_Apply.c
  | 4 => some law08_Same.c
  | 5 => some state_State_Get.c
  | 6 => some ref08_State_Get.c
  | _ => none
theorem law08_StatePlays.eq : evFull law08_StatePlays.calls law08_StatePlays.af = (fun x H => law08_StatePlays x.1 H) := by kernel_rfl

/-! ### tinderbox/tinderboxlaw08.played -/
def law08_played.af : AFun := ⟨[.one (.sl 6)], [.one .ptr, .agg [.sl 3, .sl 3, .sl 1, .sl 2]], [.t 2, .cell 3],
 .seq (.reg [.op ⟨0, some 2, .mv (.c (.one (.ptr none))), none⟩,
  .op ⟨1, some 3, .new [.sl 3 Sl.nil, .sl 3 Sl.nil, .sl 1 Sl.nil, .sl 2 Sl.nil], none⟩])
 (.seq (.reg [.op ⟨0, some 7, .call 0 [], none⟩,
  .op ⟨1, some 8, .build [.sl 3 Sl.nil, .sl 3 Sl.nil, .sl 1 Sl.nil, .sl 2 Sl.nil] [], none⟩,
  .op ⟨2, some 5, .new [.sl 3 Sl.nil, .sl 3 Sl.nil, .sl 1 Sl.nil, .sl 2 Sl.nil], none⟩,
  .op ⟨3, some 4, .mv (.t 7), none⟩,
  .op ⟨4, none, .store 4 (.t 5) (.t 8), none⟩])
 (.seq (.seq (.reg [.op ⟨0, some 6, .mv (.c (.one (.int .i64 0))), none⟩])
 (.block 0 (.loop [(6, .one (.int .i64))] [(.exit 0, [])] (.seq (.seq (.reg [.op ⟨0, some 9, .mv (.t 6), none⟩,
  .op ⟨1, some 10, .mv (.t 0), none⟩,
  .op ⟨2, some 11, .len (.t 10), none⟩,
  .op ⟨3, some 12, .bin .lss (.t 9) (.t 11), none⟩,
  .op ⟨4, some 13, .mv (.t 12), none⟩,
  .op ⟨5, some 14, .mv (.t 6), some (13, true)⟩,
  .op ⟨6, some 15, .bin .lss (.t 14) (.c (.one (.int .i64 60))), some (13, true)⟩,
  .op ⟨7, some 16, .pick (.t 13) (.t 15) (.c (.one (.bool false))), none⟩])
 (.cond (.t 16) (.skip) (.exit 0)))
 (.seq (.block 1 (.seq (.reg [.op ⟨0, some 19, .mv (.t 4), none⟩,
  .op ⟨1, some 20, .mv (.t 0), none⟩,
  .op ⟨2, some 21, .mv (.t 6), none⟩,
  .op ⟨3, some 22, .idxa 6 (.t 20) (.t 21), none⟩,
  .op ⟨4, some 23, .load (.agg [.int .i64, .int .i64, .int .i64, .int .i64, .int .i64, .int .i64]) (.t 22), none⟩,
  .op ⟨5, some 24, .call 1 [(.t 19), (.t 23)], none⟩])
 (.reg [.op ⟨0, some 26, .load (.agg [.sl 3, .sl 3, .sl 1, .sl 2]) (.t 5), none⟩,
  .op ⟨1, some 27, .mv (.t 0), none⟩,
  .op ⟨2, some 28, .mv (.t 6), none⟩,
  .op ⟨3, some 29, .idxa 6 (.t 27) (.t 28), none⟩,
  .op ⟨4, some 30, .load (.agg [.int .i64, .int .i64, .int .i64, .int .i64, .int .i64, .int .i64]) (.t 29), none⟩,
  .op ⟨5, some 31, .call 2 [(.t 26), (.t 30)], none⟩,
  .op ⟨6, some 25, .mv (.t 31), none⟩,
  .op ⟨7, some 32, .ext (.t 25) 0, none⟩,
  .op ⟨8, some 33, .ext (.t 25) 1, none⟩,
  .op ⟨9, none, .store 4 (.t 5) (.t 32), none⟩])))
 (.reg [.op ⟨0, some 17, .mv (.t 6), none⟩,
  .op ⟨1, some 18, .bin .add (.t 17) (.c (.one (.int .i64 1))), none⟩,
  .op ⟨2, some 6, .mv (.t 18), none⟩]))))))
 (.seq (.reg [.op ⟨0, some 34, .mv (.t 4), none⟩,
  .op ⟨1, some 35, .load (.agg [.sl 3, .sl 3, .sl 1, .sl 2]) (.t 5), none⟩,
  .op ⟨2, some 2, .mv (.t 34), none⟩,
  .op ⟨3, none, .store 4 (.t 3) (.t 35), none⟩])
 (.ret))))⟩
noncomputable def law08_played.s1 (x0 : Sl) (r2 : ((Ptr × Unit) × Heap)) (s5 : (Int × Unit)) (H6 : Heap) : Option (((Int × Unit) ⊕ (Unit)) × Heap) :=
 cond (decide (s5.1 < (x0.len : Int))) (
 cond (decide (s5.1 < 60)) (
 (Sl.at 6 x0 s5.1).bind fun (a7 : (Nat × Nat)) =>
 Option.bind (α := (Int × Int × Int × Int × Int × Int × Unit)) (rd H6 (.agg [.int .i64, .int .i64, .int .i64, .int .i64, .int .i64, .int .i64]) a7.1 a7.2) fun (v8 : (Int × Int × Int × Int × Int × Int × Unit)) =>
 (state_State_Apply r2.1.1 (v8.1, v8.2.1, v8.2.2.1, v8.2.2.2.1, v8.2.2.2.2.1, v8.2.2.2.2.2.1, ()) H6).bind fun (r9 : ((Int × Unit) × Heap)) =>
 Option.bind (α := (Sl × Sl × Sl × Sl × Unit)) (rd r9.2 (.agg [.sl 3, .sl 3, .sl 1, .sl 2]) r2.2.length 0) fun (v10 : (Sl × Sl × Sl × Sl × Unit)) =>
 (Sl.at 6 x0 s5.1).bind fun (a11 : (Nat × Nat)) =>
 Option.bind (α := (Int × Int × Int × Int × Int × Int × Unit)) (rd r9.2 (.agg [.int .i64, .int .i64, .int .i64, .int .i64, .int .i64, .int .i64]) a11.1 a11.2) fun (v12 : (Int × Int × Int × Int × Int × Int × Unit)) =>
 (ref08_State_Apply (v10.1, v10.2.1, v10.2.2.1, v10.2.2.2.1, ()) (v12.1, v12.2.1, v12.2.2.1, v12.2.2.2.1, v12.2.2.2.2.1, v12.2.2.2.2.2.1, ()) r9.2).bind fun (r13 : (((Sl × Sl × Sl × Sl × Unit) × Int × Unit) × Heap)) =>
 (wr r13.2 r2.2.length 0 [.sl 3 r13.1.1.1, .sl 3 r13.1.1.2.1, .sl 1 r13.1.1.2.2.1, .sl 2 r13.1.1.2.2.2.1]).bind fun (H14 : Heap) =>
 some (Sum.inl ((IntKind.wrap .i64 (s5.1 + 1)), ()), H14)) (
 some (Sum.inr (()), H6))) (
 some (Sum.inr (()), H6))
noncomputable def law08_played (x0 : Sl) (H : Heap) : Option ((Ptr × (Sl × Sl × Sl × Sl × Unit) × Unit) × Heap) :=
 let H1 : Heap := H ++ [Blk.cells [.sl 3 Sl.nil, .sl 3 Sl.nil, .sl 1 Sl.nil, .sl 2 Sl.nil] .exact]
 (state_New H1).bind fun (r2 : ((Ptr × Unit) × Heap)) =>
 let H3 : Heap := r2.2 ++ [Blk.cells [.sl 3 Sl.nil, .sl 3 Sl.nil, .sl 1 Sl.nil, .sl 2 Sl.nil] .exact]
 (wr H3 r2.2.length 0 [.sl 3 (⟨none, 0, 0⟩), .sl 3 (⟨none, 0, 0⟩), .sl 1 (⟨none, 0, 0⟩), .sl 2 (⟨none, 0, 0⟩)]).bind fun (H4 : Heap) =>
 (loopW (law08_played.s1 x0 r2) (0, ()) H4).bind fun (p15 : (Unit) × Heap) =>
 Option.bind (α := (Sl × Sl × Sl × Sl × Unit)) (rd p15.2 (.agg [.sl 3, .sl 3, .sl 1, .sl 2]) r2.2.length 0) fun (v16 : (Sl × Sl × Sl × Sl × Unit)) =>
 (wr p15.2 H.length 0 [.sl 3 v16.1, .sl 3 v16.2.1, .sl 1 v16.2.2.1, .sl 2 v16.2.2.2.1]).bind fun (H17 : Heap) =>
 Option.bind (α := (Sl × Sl × Sl × Sl × Unit)) (rd H17 (.agg [.sl 3, .sl 3, .sl 1, .sl 2]) H.length 0) fun (v18 : (Sl × Sl × Sl × Sl × Unit)) =>
 some ((r2.1.1, v18, ()), H17)
noncomputable def law08_played.c : Callee := .full [.one (.sl 6)] [.one .ptr, .agg [.sl 3, .sl 3, .sl 1, .sl 2]] (fun x H => law08_played x.1 H)
noncomputable def law08_played.calls : Nat → Option Callee
  | 0 => some state_New.c
  | 1 => some state_State_Apply.c
  | 2 => some ref08_State_Apply.c
  | _ => none
theorem law08_played.eq : evFull law08_played.calls law08_played.af = (fun x H => law08_played x.1 H) := by kernel_rfl

/-! ### tinderbox/tinderboxlaw08.StateDumps -/
def law08_StateDumps.af : AFun := ⟨[.one (.sl 6)], [.one .bool], [.t 2],
 .seq (.reg [.op ⟨0, some 2, .mv (.c (.one (.bool false))), none⟩])
 (.seq (.reg [.op ⟨0, some 9, .mv (.t 0), none⟩,
  .op ⟨1, some 10, .call 0 [(.t 9)], none⟩,
  .op ⟨2, some 8, .mv (.t 10), none⟩,
  .op ⟨3, some 11, .ext (.t 8) 0, none⟩,
  .op ⟨4, some 12, .ext (.t 8) 1, none⟩,
  .op ⟨5, some 4, .new [.sl 3 Sl.nil, .sl 3 Sl.nil, .sl 1 Sl.nil, .sl 2 Sl.nil], none⟩,
  .op ⟨6, some 3, .mv (.t 11), none⟩,
  .op ⟨7, none, .store 4 (.t 4) (.t 12), none⟩])
 (.seq (.reg [.op ⟨0, some 13, .mv (.t 3), none⟩,
  .op ⟨1, some 14, .call 1 [(.t 13)], none⟩,
  .op ⟨2, some 5, .mv (.t 14), none⟩])
 (.seq (.reg [.op ⟨0, some 15, .call 2 [], none⟩,
  .op ⟨1, some 6, .mv (.t 15), none⟩])
 (.seq (.seq (.reg [.op ⟨0, some 7, .mv (.c (.one (.int .i64 0))), none⟩])
 (.block 0 (.loop [(7, .one (.int .i64))] [(.exit 0, []), (.ret, [(2, .one .bool)])] (.seq (.seq (.reg [.op ⟨0, some 16, .mv (.t 7), none⟩,
  .op ⟨1, some 17, .mv (.t 5), none⟩,
  .op ⟨2, some 18, .len (.t 17), none⟩,
  .op ⟨3, some 19, .bin .lss (.t 16) (.t 18), none⟩])
 (.cond (.t 19) (.skip) (.exit 0)))
 (.seq (.block 1 (.seq (.reg [.op ⟨0, some 22, .mv (.t 6), none⟩,
  .op ⟨1, some 23, .mv (.t 5), none⟩,
  .op ⟨2, some 24, .mv (.t 7), none⟩,
  .op ⟨3, some 25, .idxa 6 (.t 23) (.t 24), none⟩,
  .op ⟨4, some 26, .load (.agg [.int .i64, .int .i64, .int .i64, .int .i64, .int .i64, .int .i64]) (.t 25), none⟩,
  .op ⟨5, some 27, .call 3 [(.t 22), (.t 26)], none⟩,
  .op ⟨6, some 28, .bin .neq (.t 27) (.c (.one (.int .i64 0))), none⟩])
 (.cond (.t 28) (.seq (.reg [.op ⟨0, some 2, .mv (.c (.one (.bool false))), none⟩])
 (.ret)) (.skip))))
 (.reg [.op ⟨0, some 20, .mv (.t 7), none⟩,
  .op ⟨1, some 21, .bin .add (.t 20) (.c (.one (.int .i64 1))), none⟩,
  .op ⟨2, some 7, .mv (.t 21), none⟩]))))))
 (.seq (.reg [.op ⟨0, some 29, .call 4 [], none⟩,
  .op ⟨1, some 30, .mv (.t 29), none⟩,
  .op ⟨2, some 31, .mv (.t 6), some (30, true)⟩,
  .op ⟨3, some 32, .load (.agg [.sl 3, .sl 3, .sl 1, .sl 2]) (.t 4), some (30, true)⟩,
  .op ⟨4, some 33, .call 5 [(.t 31), (.t 32)], some (30, true)⟩,
  .op ⟨5, some 34, .pick (.t 30) (.t 33) (.c (.one (.bool false))), none⟩,
  .op ⟨6, some 35, .mv (.t 34), none⟩,
  .op ⟨7, some 36, .mv (.t 3), some (35, true)⟩,
  .op ⟨8, some 37, .load (.agg [.sl 3, .sl 3, .sl 1, .sl 2]) (.t 4), some (35, true)⟩,
  .op ⟨9, some 38, .call 5 [(.t 36), (.t 37)], some (35, true)⟩,
  .op ⟨10, some 39, .pick (.t 35) (.t 38) (.c (.one (.bool false))), none⟩,
  .op ⟨11, some 2, .mv (.t 39), none⟩])
 (.ret))))))⟩
noncomputable def law08_StateDumps.s1 (r4 : ((Sl × Unit) × Heap)) (r5 : ((Ptr × Unit) × Heap)) (s6 : (Int × Unit)) (H7 : Heap) : Option (((Int × Unit) ⊕ ((Unit) ⊕ (Bool × Unit))) × Heap) :=
 cond (decide (s6.1 < (r4.1.1.len : Int))) (
 (Sl.at 6 r4.1.1 s6.1).bind fun (a8 : (Nat × Nat)) =>
 Option.bind (α := (Int × Int × Int × Int × Int × Int × Unit)) (rd H7 (.agg [.int .i64, .int .i64, .int .i64, .int .i64, .int .i64, .int .i64]) a8.1 a8.2) fun (v9 : (Int × Int × Int × Int × Int × Int × Unit)) =>
 (state_State_Apply r5.1.1 (v9.1, v9.2.1, v9.2.2.1, v9.2.2.2.1, v9.2.2.2.2.1, v9.2.2.2.2.2.1, ()) H7).bind fun (r10 : ((Int × Unit) × Heap)) =>
 cond (!decide (r10.1.1 = 0)) (
 some (Sum.inr (Sum.inr (false, ())), r10.2)) (
 some (Sum.inl ((IntKind.wrap .i64 (s6.1 + 1)), ()), r10.2))) (
 some (Sum.inr (Sum.inl (())), H7))
noncomputable def law08_StateDumps (x0 : Sl) (H : Heap) : Option ((Bool × Unit) × Heap) :=
 (law08_played x0 H).bind fun (r1 : ((Ptr × (Sl × Sl × Sl × Sl × Unit) × Unit) × Heap)) =>
 let H2 : Heap := r1.2 ++ [Blk.cells [.sl 3 Sl.nil, .sl 3 Sl.nil, .sl 1 Sl.nil, .sl 2 Sl.nil] .exact]
 (wr H2 r1.2.length 0 [.sl 3 r1.1.2.1.1, .sl 3 r1.1.2.1.2.1, .sl 1 r1.1.2.1.2.2.1, .sl 2 r1.1.2.1.2.2.2.1]).bind fun (H3 : Heap) =>
 (state_State_Dump r1.1.1 H3).bind fun (r4 : ((Sl × Unit) × Heap)) =>
 (state_New r4.2).bind fun (r5 : ((Ptr × Unit) × Heap)) =>
 (loopW (law08_StateDumps.s1 r4 r5) (0, ()) r5.2).bind fun (p11 : ((Unit) ⊕ (Bool × Unit)) × Heap) =>
 Sum.elim (fun (y12 : (Unit)) =>
 (law08_awake).bind fun (r13 : (Bool × Unit)) =>
 cond r13.1 (
 Option.bind (α := (Sl × Sl × Sl × Sl × Unit)) (rd p11.2 (.agg [.sl 3, .sl 3, .sl 1, .sl 2]) r1.2.length 0) fun (v14 : (Sl × Sl × Sl × Sl × Unit)) =>
 (law08_Same r5.1.1 (v14.1, v14.2.1, v14.2.2.1, v14.2.2.2.1, ()) p11.2).bind fun (r15 : ((Bool × Unit) × Heap)) =>
 cond r15.1.1 (
 Option.bind (α := (Sl × Sl × Sl × Sl × Unit)) (rd r15.2 (.agg [.sl 3, .sl 3, .sl 1, .sl 2]) r1.2.length 0) fun (v16 : (Sl × Sl × Sl × Sl × Unit)) =>
 (law08_Same r1.1.1 (v16.1, v16.2.1, v16.2.2.1, v16.2.2.2.1, ()) r15.2).bind fun (r17 : ((Bool × Unit) × Heap)) =>
 some ((r17.1.1, ()), r17.2)) (
 some ((false, ()), r15.2))) (
 some ((false, ()), p11.2))) (fun (z18 : (Bool × Unit)) =>
 some ((z18.1, ()), p11.2)) p11.1
noncomputable def law08_StateDumps.c : Callee := .full [.one (.sl 6)] [.one .bool] (fun x H => law08_StateDumps x.1 H)
noncomputable def law08_StateDumps.calls : Nat → Option Callee
  | 0 => some law08_played.c
  | 1 => some state_State_Dump.c
  | 2 => some state_New.c
  | 3 => some state_State_Apply.c
  | 4 => some law08_awake.c
  | 5 => some law08_Same.c
  | _ => none
theorem law08_StateDumps.eq : evFull law08_StateDumps.calls law08_StateDumps.af = (fun x H => law08_StateDumps x.1 H) := by kernel_rfl

/-! ### tinderbox/tinderboxlaw08.lays -/
def law08_lays.af : AFun := ⟨[.one (.sl 6), .one (.int .i64), .one (.int .i64), .one (.int .i64)], [.one .bool], [.t 8],
 .seq (.reg [.op ⟨0, some 8, .mv (.c (.one (.bool false))), none⟩])
 (.seq (.reg [.op ⟨0, some 17, .mv (.t 0), none⟩,
  .op ⟨1, some 18, .call 0 [(.t 17)], none⟩,
  .op ⟨2, some 16, .mv (.t 18), none⟩,
  .op ⟨3, some 19, .ext (.t 16) 0, none⟩,
  .op ⟨4, some 20, .ext (.t 16) 1, none⟩,
  .op ⟨5, some 10, .new [.sl 3 Sl.nil, .sl 3 Sl.nil, .sl 1 Sl.nil, .sl 2 Sl.nil], none⟩,
  .op ⟨6, some 9, .mv (.t 19), none⟩,
  .op ⟨7, none, .store 4 (.t 10) (.t 20), none⟩])
 (.seq (.reg [.op ⟨0, some 22, .load (.agg [.sl 3, .sl 3, .sl 1, .sl 2]) (.t 10), none⟩,
  .op ⟨1, some 23, .mv (.t 1), none⟩,
  .op ⟨2, some 24, .mv (.t 2), none⟩,
  .op ⟨3, some 25, .mv (.t 3), none⟩,
  .op ⟨4, some 26, .build [.int .i64 0, .int .i64 0, .int .i64 0, .int .i64 0, .int .i64 0, .int .i64 0] [(0, 1, (.c (.one (.int .i64 1)))), (1, 1, (.t 23)), (2, 1, (.t 24)), (3, 1, (.t 25))], none⟩,
  .op ⟨5, some 27, .call 1 [(.t 22), (.t 26)], none⟩,
  .op ⟨6, some 21, .mv (.t 27), none⟩,
  .op ⟨7, some 28, .ext (.t 21) 0, none⟩,
  .op ⟨8, some 29, .ext (.t 21) 1, none⟩,
  .op ⟨9, some 11, .new [.sl 3 Sl.nil, .sl 3 Sl.nil, .sl 1 Sl.nil, .sl 2 Sl.nil], none⟩,
  .op ⟨10, none, .store 4 (.t 11) (.t 28), none⟩,
  .op ⟨11, some 12, .mv (.t 29), none⟩])
 (.seq (.reg [.op ⟨0, some 30, .mv (.t 9), none⟩,
  .op ⟨1, some 31, .mv (.t 1), none⟩,
  .op ⟨2, some 32, .mv (.t 2), none⟩,
  .op ⟨3, some 33, .mv (.t 3), none⟩,
  .op ⟨4, some 34, .call 2 [(.t 30), (.t 31), (.t 32), (.t 33)], none⟩,
  .op ⟨5, some 13, .mv (.t 34), none⟩])
 (.seq (.seq (.reg [.op ⟨0, some 35, .mv (.t 3), none⟩,
  .op ⟨1, some 36, .bin .lss (.t 35) (.c (.one (.int .i64 0))), none⟩])
 (.cond (.t 36) (.seq (.reg [.op ⟨0, some 37, .mv (.t 13), none⟩,
  .op ⟨1, some 38, .bin .eql (.t 37) (.c (.one (.int .i64 1))), none⟩,
  .op ⟨2, some 39, .mv (.t 38), none⟩,
  .op ⟨3, some 40, .mv (.t 9), some (39, true)⟩,
  .op ⟨4, some 41, .load (.agg [.sl 3, .sl 3, .sl 1, .sl 2]) (.t 10), some (39, true)⟩,
  .op ⟨5, some 42, .call 3 [(.t 40), (.t 41)], some (39, true)⟩,
  .op ⟨6, some 43, .pick (.t 39) (.t 42) (.c (.one (.bool false))), none⟩,
  .op ⟨7, some 8, .mv (.t 43), none⟩])
 (.ret)) (.skip)))
 (.seq (.seq (.reg [.op ⟨0, some 44, .mv (.t 12), none⟩,
  .op ⟨1, some 45, .bin .neq (.t 44) (.c (.one (.int .i64 0))), none⟩])
 (.cond (.t 45) (.seq (.reg [.op ⟨0, some 46, .mv (.t 13), none⟩,
  .op ⟨1, some 47, .mv (.t 12), none⟩,
  .op ⟨2, some 48, .bin .eql (.t 46) (.t 47), none⟩,
  .op ⟨3, some 49, .mv (.t 48), none⟩,
  .op ⟨4, some 50, .mv (.t 9), some (49, true)⟩,
  .op ⟨5, some 51, .load (.agg [.sl 3, .sl 3, .sl 1, .sl 2]) (.t 10), some (49, true)⟩,
  .op ⟨6, some 52, .call 3 [(.t 50), (.t 51)], some (49, true)⟩,
  .op ⟨7, some 53, .pick (.t 49) (.t 52) (.c (.one (.bool false))), none⟩,
  .op ⟨8, some 8, .mv (.t 53), none⟩])
 (.ret)) (.skip)))
 (.seq (.reg [.op ⟨0, some 55, .mv (.t 9), none⟩,
  .op ⟨1, some 56, .mv (.t 1), none⟩,
  .op ⟨2, some 57, .mv (.t 2), none⟩,
  .op ⟨3, some 58, .call 4 [(.t 55), (.t 56), (.t 57)], none⟩,
  .op ⟨4, some 54, .mv (.t 58), none⟩,
  .op ⟨5, some 59, .ext (.t 54) 0, none⟩,
  .op ⟨6, some 60, .ext (.t 54) 1, none⟩,
  .op ⟨7, some 14, .mv (.t 59), none⟩,
  .op ⟨8, some 15, .mv (.t 60), none⟩])
 (.seq (.reg [.op ⟨0, some 61, .mv (.t 13), none⟩,
  .op ⟨1, some 62, .bin .eql (.t 61) (.c (.one (.int .i64 0))), none⟩,
  .op ⟨2, some 63, .mv (.t 62), none⟩,
  .op ⟨3, some 64, .mv (.t 15), some (63, true)⟩,
  .op ⟨4, some 65, .pick (.t 63) (.t 64) (.c (.one (.bool false))), none⟩,
  .op ⟨5, some 66, .mv (.t 65), none⟩,
  .op ⟨6, some 67, .mv (.t 14), some (66, true)⟩,
  .op ⟨7, some 68, .mv (.t 3), some (66, true)⟩,
  .op ⟨8, some 69, .bin .eql (.t 67) (.t 68), some (66, true)⟩,
  .op ⟨9, some 70, .pick (.t 66) (.t 69) (.c (.one (.bool false))), none⟩,
  .op ⟨10, some 71, .mv (.t 70), none⟩,
  .op ⟨11, some 72, .mv (.t 9), some (71, true)⟩,
  .op ⟨12, some 73, .mv (.t 3), some (71, true)⟩,
  .op ⟨14, some 75, .load (.agg [.sl 3, .sl 3, .sl 1, .sl 2]) (.t 11), some (71, true)⟩,
  .op ⟨15, some 76, .mv (.t 3), some (71, true)⟩,
  .op ⟨13, some 74, .call 5 [(.t 72), (.t 73)], some (71, true)⟩,
  .again ⟨14, some 75, .load (.agg [.sl 3, .sl 3, .sl 1, .sl 2]) (.t 11), some (71, true)⟩,
  .op ⟨16, some 77, .call 6 [(.t 75), (.t 76)], some (71, true)⟩,
  .op ⟨17, some 78, .bin .eql (.t 74) (.t 77), some (71, true)⟩,
  .op ⟨18, some 79, .pick (.t 71) (.t 78) (.c (.one (.bool false))), none⟩,
  .op ⟨19, some 80, .mv (.t 79), none⟩,
  .op ⟨20, some 81, .mv (.t 9), some (80, true)⟩,
  .op ⟨22, some 83, .load (.agg [.sl 3, .sl 3, .sl 1, .sl 2]) (.t 11), some (80, true)⟩,
  .op ⟨21, some 82, .call 7 [(.t 81)], some (80, true)⟩,
  .again ⟨22, some 83, .load (.agg [.sl 3, .sl 3, .sl 1, .sl 2]) (.t 11), some (80, true)⟩,
  .op ⟨23, some 84, .call 8 [(.t 83)], some (80, true)⟩,
  .op ⟨24, some 85, .bin .eql (.t 82) (.t 84), some (80, true)⟩,
  .op ⟨25, some 86, .pick (.t 80) (.t 85) (.c (.one (.bool false))), none⟩,
  .op ⟨26, some 87, .mv (.t 86), none⟩,
  .op ⟨27, some 88, .mv (.t 9), some (87, true)⟩,
  .op ⟨29, some 90, .addr 1 (.t 11), some (87, true)⟩,
  .op ⟨30, some 91, .load (.one (.sl 3)) (.t 90), some (87, true)⟩,
  .op ⟨31, some 92, .len (.t 91), some (87, true)⟩,
  .op ⟨28, some 89, .call 9 [(.t 88)], some (87, true)⟩,
  .op ⟨32, some 93, .bin .eql (.t 89) (.t 92), some (87, true)⟩,
  .op ⟨33, some 94, .pick (.t 87) (.t 93) (.c (.one (.bool false))), none⟩,
  .op ⟨34, some 8, .mv (.t 94), none⟩,
  .again ⟨30, some 91, .load (.one (.sl 3)) (.t 90), some (87, true)⟩])
 (.ret))))))))⟩
noncomputable def law08_lays (x0 : Sl) (x1 : Int) (x2 : Int) (x3 : Int) (H : Heap) : Option ((Bool × Unit) × Heap) :=
 (law08_played x0 H).bind fun (r1 : ((Ptr × (Sl × Sl × Sl × Sl × Unit) × Unit) × Heap)) =>
 let H2 : Heap := r1.2 ++ [Blk.cells [.sl 3 Sl.nil, .sl 3 Sl.nil, .sl 1 Sl.nil, .sl 2 Sl.nil] .exact]
 (wr H2 r1.2.length 0 [.sl 3 r1.1.2.1.1, .sl 3 r1.1.2.1.2.1, .sl 1 r1.1.2.1.2.2.1, .sl 2 r1.1.2.1.2.2.2.1]).bind fun (H3 : Heap) =>
 Option.bind (α := (Sl × Sl × Sl × Sl × Unit)) (rd H3 (.agg [.sl 3, .sl 3, .sl 1, .sl 2]) r1.2.length 0) fun (v4 : (Sl × Sl × Sl × Sl × Unit)) =>
 (ref08_State_Do (v4.1, v4.2.1, v4.2.2.1, v4.2.2.2.1, ()) (1, x1, x2, x3, 0, 0, ()) H3).bind fun (r5 : (((Sl × Sl × Sl × Sl × Unit) × Int × Unit) × Heap)) =>
 let H6 : Heap := r5.2 ++ [Blk.cells [.sl 3 Sl.nil, .sl 3 Sl.nil, .sl 1 Sl.nil, .sl 2 Sl.nil] .exact]
 (wr H6 r5.2.length 0 [.sl 3 r5.1.1.1, .sl 3 r5.1.1.2.1, .sl 1 r5.1.1.2.2.1, .sl 2 r5.1.1.2.2.2.1]).bind fun (H7 : Heap) =>
 (state_State_Lay r1.1.1 x1 x2 x3 H7).bind fun (r8 : ((Int × Unit) × Heap)) =>
 cond (decide (x3 < 0)) (
 cond (decide (r8.1.1 = 1)) (
 Option.bind (α := (Sl × Sl × Sl × Sl × Unit)) (rd r8.2 (.agg [.sl 3, .sl 3, .sl 1, .sl 2]) r1.2.length 0) fun (v9 : (Sl × Sl × Sl × Sl × Unit)) =>
 (law08_Same r1.1.1 (v9.1, v9.2.1, v9.2.2.1, v9.2.2.2.1, ()) r8.2).bind fun (r10 : ((Bool × Unit) × Heap)) =>
 some ((r10.1.1, ()), r10.2)) (
 some ((false, ()), r8.2))) (
 cond (!decide (r5.1.2.1 = 0)) (
 cond (decide (r8.1.1 = r5.1.2.1)) (
 Option.bind (α := (Sl × Sl × Sl × Sl × Unit)) (rd r8.2 (.agg [.sl 3, .sl 3, .sl 1, .sl 2]) r1.2.length 0) fun (v11 : (Sl × Sl × Sl × Sl × Unit)) =>
 (law08_Same r1.1.1 (v11.1, v11.2.1, v11.2.2.1, v11.2.2.2.1, ()) r8.2).bind fun (r12 : ((Bool × Unit) × Heap)) =>
 some ((r12.1.1, ()), r12.2)) (
 some ((false, ()), r8.2))) (
 (state_State_Get r1.1.1 x1 x2 r8.2).bind fun (r13 : ((Int × Bool × Unit) × Heap)) =>
 cond (decide (r8.1.1 = 0)) (
 cond r13.1.2.1 (
 cond (decide (r13.1.1 = x3)) (
 Option.bind (α := (Sl × Sl × Sl × Sl × Unit)) (rd r13.2 (.agg [.sl 3, .sl 3, .sl 1, .sl 2]) r5.2.length 0) fun (v14 : (Sl × Sl × Sl × Sl × Unit)) =>
 (state_State_Refs r1.1.1 x3 r13.2).bind fun (r15 : ((Int × Unit) × Heap)) =>
 Option.bind (α := (Sl × Sl × Sl × Sl × Unit)) (rd r15.2 (.agg [.sl 3, .sl 3, .sl 1, .sl 2]) r5.2.length 0) fun (v16 : (Sl × Sl × Sl × Sl × Unit)) =>
 if V.w (.agg [.sl 3 v16.1, .sl 3 v16.2.1, .sl 1 v16.2.2.1, .sl 2 v16.2.2.2.1]) = V.w (.agg [.sl 3 v14.1, .sl 3 v14.2.1, .sl 1 v14.2.2.1, .sl 2 v14.2.2.2.1]) then
 (ref08_State_Refs (v14.1, v14.2.1, v14.2.2.1, v14.2.2.2.1, ()) x3 r15.2).bind fun (r17 : ((Int × Unit) × Heap)) =>
 cond (decide (r15.1.1 = r17.1.1)) (
 Option.bind (α := (Sl × Sl × Sl × Sl × Unit)) (rd r17.2 (.agg [.sl 3, .sl 3, .sl 1, .sl 2]) r5.2.length 0) fun (v18 : (Sl × Sl × Sl × Sl × Unit)) =>
 (state_State_Live r1.1.1 r17.2).bind fun (r19 : ((Int × Unit) × Heap)) =>
 Option.bind (α := (Sl × Sl × Sl × Sl × Unit)) (rd r19.2 (.agg [.sl 3, .sl 3, .sl 1, .sl 2]) r5.2.length 0) fun (v20 : (Sl × Sl × Sl × Sl × Unit)) =>
 if V.w (.agg [.sl 3 v20.1, .sl 3 v20.2.1, .sl 1 v20.2.2.1, .sl 2 v20.2.2.2.1]) = V.w (.agg [.sl 3 v18.1, .sl 3 v18.2.1, .sl 1 v18.2.2.1, .sl 2 v18.2.2.2.1]) then
 (ref08_State_Live (v18.1, v18.2.1, v18.2.2.1, v18.2.2.2.1, ()) r19.2).bind fun (r21 : ((Int × Unit) × Heap)) =>
 cond (decide (r19.1.1 = r21.1.1)) (
 (rdSl 3 r21.2 r5.2.length 1).bind fun (v22 : Sl) =>
 (state_State_Keys r1.1.1 r21.2).bind fun (r23 : ((Int × Unit) × Heap)) =>
 (rdSl 3 r23.2 r5.2.length 1).bind fun (v24 : Sl) =>
 if V.w (.one (.sl 3 v24)) = V.w (.one (.sl 3 v22)) then
 some (((decide (r23.1.1 = (v22.len : Int))), ()), r23.2)
 else none) (
 some ((false, ()), r21.2))
 else none) (
 some ((false, ()), r17.2))
 else none) (
 some ((false, ()), r13.2))) (
 some ((false, ()), r13.2))) (
 some ((false, ()), r13.2))))
noncomputable def law08_lays.c : Callee := .full [.one (.sl 6), .one (.int .i64), .one (.int .i64), .one (.int .i64)] [.one .bool] (fun x H => law08_lays x.1 x.2.1 x.2.2.1 x.2.2.2.1 H)
noncomputable def law08_lays.calls : Nat → Option Callee
  | 0 => some law08_played.c
  | 1 => some ref08_State_Do.c
  | 2 => some state_State_Lay.c
  | 3 => some law08_Same.c
  | 4 => some state_State_Get.c
  | 5 => some state_State_Refs.c
  | 6 => some ref08_State_Refs.c
  | 7 => some state_State_Live.c
  | 8 => some ref08_State_Live.c
  | 9 => some state_State_Keys.c
  | _ => none
theorem law08_lays.eq : evFull law08_lays.calls law08_lays.af = (fun x H => law08_lays x.1 x.2.1 x.2.2.1 x.2.2.2.1 H) := by kernel_rfl

/-! ### tinderbox/tinderboxlaw08.StateLays -/
def law08_StateLays.af : AFun := ⟨[.one (.sl 6), .agg [.int .i64, .int .i64, .int .i64, .int .i64, .int .i64, .int .i64]], [.one .bool], [.t 4],
 .seq (.reg [.op ⟨0, some 3, .box (.t 1), none⟩,
  .op ⟨1, some 4, .mv (.c (.one (.bool false))), none⟩])
 (.seq (.reg [.op ⟨0, some 5, .call 0 [], none⟩,
  .op ⟨1, some 6, .mv (.t 5), none⟩,
  .op ⟨2, some 7, .mv (.t 0), some (6, true)⟩,
  .op ⟨3, some 8, .addr 1 (.t 3), some (6, true)⟩,
  .op ⟨4, some 9, .load (.one (.int .i64)) (.t 8), some (6, true)⟩,
  .op ⟨5, some 10, .addr 2 (.t 3), some (6, true)⟩,
  .op ⟨6, some 11, .load (.one (.int .i64)) (.t 10), some (6, true)⟩,
  .op ⟨7, some 12, .addr 3 (.t 3), some (6, true)⟩,
  .op ⟨8, some 13, .load (.one (.int .i64)) (.t 12), some (6, true)⟩,
  .op ⟨9, some 14, .call 1 [(.t 7), (.t 9), (.t 11), (.t 13)], some (6, true)⟩,
  .op ⟨10, some 15, .pick (.t 6) (.t 14) (.c (.one (.bool false))), none⟩,
  .op ⟨11, some 4, .mv (.t 15), none⟩])
 (.ret))⟩
noncomputable def law08_StateLays (x0 : Sl) (x1 : (Int × Int × Int × Int × Int × Int × Unit)) (H : Heap) : Option ((Bool × Unit) × Heap) :=
 let H1 : Heap := H ++ [Blk.cells [.int .i64 x1.1, .int .i64 x1.2.1, .int .i64 x1.2.2.1, .int .i64 x1.2.2.2.1, .int .i64 x1.2.2.2.2.1, .int .i64 x1.2.2.2.2.2.1] .exact]
 (law08_awake).bind fun (r2 : (Bool × Unit)) =>
 cond r2.1 (
 (rdI .i64 H1 H.length 1).bind fun (v3 : Int) =>
 (rdI .i64 H1 H.length 2).bind fun (v4 : Int) =>
 (rdI .i64 H1 H.length 3).bind fun (v5 : Int) =>
 (law08_lays x0 v3 v4 v5 H1).bind fun (r6 : ((Bool × Unit) × Heap)) =>
 some ((r6.1.1, ()), r6.2)) (
 some ((false, ()), H1))
noncomputable def law08_StateLays.c : Callee := .full [.one (.sl 6), .agg [.int .i64, .int .i64, .int .i64, .int .i64, .int .i64, .int .i64]] [.one .bool] (fun x H => law08_StateLays x.1 x.2.1 H)
noncomputable def law08_StateLays.calls : Nat → Option Callee
  | 0 => some law08_awake.c
  | 1 => some law08_lays.c
  | _ => none
theorem law08_StateLays.eq : evFull law08_StateLays.calls law08_StateLays.af = (fun x H => law08_StateLays x.1 x.2.1 H) := by kernel_rfl

/-! ### tinderbox/tinderboxlaw08.StateCopies -/
def law08_StateCopies.af : AFun := ⟨[.one (.sl 6), .one (.sl 6)], [.one .bool], [.t 4],
 .seq (.reg [.op ⟨0, some 4, .mv (.c (.one (.bool false))), none⟩])
 (.seq (.reg [.op ⟨0, some 11, .mv (.t 0), none⟩,
  .op ⟨1, some 12, .call 0 [(.t 11)], none⟩,
  .op ⟨2, some 10, .mv (.t 12), none⟩,
  .op ⟨3, some 13, .ext (.t 10) 0, none⟩,
  .op ⟨4, some 14, .ext (.t 10) 1, none⟩,
  .op ⟨5, some 6, .new [.sl 3 Sl.nil, .sl 3 Sl.nil, .sl 1 Sl.nil, .sl 2 Sl.nil], none⟩,
  .op ⟨6, some 5, .mv (.t 13), none⟩,
  .op ⟨7, none, .store 4 (.t 6) (.t 14), none⟩])
 (.seq (.reg [.op ⟨0, some 15, .mv (.t 5), none⟩,
  .op ⟨1, some 16, .call 1 [(.t 15)], none⟩,
  .op ⟨2, some 7, .mv (.t 16), none⟩])
 (.seq (.reg [.op ⟨0, some 17, .load (.agg [.sl 3, .sl 3, .sl 1, .sl 2]) (.t 6), none⟩,
  .op ⟨1, some 8, .new [.sl 3 Sl.nil, .sl 3 Sl.nil, .sl 1 Sl.nil, .sl 2 Sl.nil], none⟩,
  .op ⟨2, none, .store 4 (.t 8) (.t 17), none⟩])
 (.seq (.seq (.reg [.op ⟨0, some 9, .mv (.c (.one (.int .i64 0))), none⟩])
 (.block 0 (.loop [(9, .one (.int .i64))] [(.exit 0, [])] (.seq (.seq (.reg [.op ⟨0, some 18, .mv (.t 9), none⟩,
  .op ⟨1, some 19, .mv (.t 1), none⟩,
  .op ⟨2, some 20, .len (.t 19), none⟩,
  .op ⟨3, some 21, .bin .lss (.t 18) (.t 20), none⟩,
  .op ⟨4, some 22, .mv (.t 21), none⟩,
  .op ⟨5, some 23, .mv (.t 9), some (22, true)⟩,
  .op ⟨6, some 24, .bin .lss (.t 23) (.c (.one (.int .i64 30))), some (22, true)⟩,
  .op ⟨7, some 25, .pick (.t 22) (.t 24) (.c (.one (.bool false))), none⟩])
 (.cond (.t 25) (.skip) (.exit 0)))
 (.seq (.block 1 (.seq (.reg [.op ⟨0, some 28, .mv (.t 7), none⟩,
  .op ⟨1, some 29, .mv (.t 1), none⟩,
  .op ⟨2, some 30, .mv (.t 9), none⟩,
  .op ⟨3, some 31, .idxa 6 (.t 29) (.t 30), none⟩,
  .op ⟨4, some 32, .load (.agg [.int .i64, .int .i64, .int .i64, .int .i64, .int .i64, .int .i64]) (.t 31), none⟩,
  .op ⟨5, some 33, .call 2 [(.t 28), (.t 32)], none⟩])
 (.reg [.op ⟨0, some 35, .load (.agg [.sl 3, .sl 3, .sl 1, .sl 2]) (.t 8), none⟩,
  .op ⟨1, some 36, .mv (.t 1), none⟩,
  .op ⟨2, some 37, .mv (.t 9), none⟩,
  .op ⟨3, some 38, .idxa 6 (.t 36) (.t 37), none⟩,
  .op ⟨4, some 39, .load (.agg [.int .i64, .int .i64, .int .i64, .int .i64, .int .i64, .int .i64]) (.t 38), none⟩,
  .op ⟨5, some 40, .call 3 [(.t 35), (.t 39)], none⟩,
  .op ⟨6, some 34, .mv (.t 40), none⟩,
  .op ⟨7, some 41, .ext (.t 34) 0, none⟩,
  .op ⟨8, some 42, .ext (.t 34) 1, none⟩,
  .op ⟨9, none, .store 4 (.t 8) (.t 41), none⟩])))
 (.reg [.op ⟨0, some 26, .mv (.t 9), none⟩,
  .op ⟨1, some 27, .bin .add (.t 26) (.c (.one (.int .i64 1))), none⟩,
  .op ⟨2, some 9, .mv (.t 27), none⟩]))))))
 (.seq (.reg [.op ⟨0, some 43, .call 4 [], none⟩,
  .op ⟨1, some 44, .mv (.t 43), none⟩,
  .op ⟨2, some 45, .mv (.t 5), some (44, true)⟩,
  .op ⟨3, some 46, .load (.agg [.sl 3, .sl 3, .sl 1, .sl 2]) (.t 6), some (44, true)⟩,
  .op ⟨4, some 47, .call 5 [(.t 45), (.t 46)], some (44, true)⟩,
  .op ⟨5, some 48, .pick (.t 44) (.t 47) (.c (.one (.bool false))), none⟩,
  .op ⟨6, some 49, .mv (.t 48), none⟩,
  .op ⟨7, some 50, .mv (.t 7), some (49, true)⟩,
  .op ⟨8, some 51, .load (.agg [.sl 3, .sl 3, .sl 1, .sl 2]) (.t 8), some (49, true)⟩,
  .op ⟨9, some 52, .call 5 [(.t 50), (.t 51)], some (49, true)⟩,
  .op ⟨10, some 53, .pick (.t 49) (.t 52) (.c (.one (.bool false))), none⟩,
  .op ⟨11, some 4, .mv (.t 53), none⟩])
 (.ret))))))⟩
noncomputable def law08_StateCopies.s1 (x1 : Sl) (r4 : ((Ptr × Unit) × Heap)) (s8 : (Int × Unit)) (H9 : Heap) : Option (((Int × Unit) ⊕ (Unit)) × Heap) :=
 cond (decide (s8.1 < (x1.len : Int))) (
 cond (decide (s8.1 < 30)) (
 (Sl.at 6 x1 s8.1).bind fun (a10 : (Nat × Nat)) =>
 Option.bind (α := (Int × Int × Int × Int × Int × Int × Unit)) (rd H9 (.agg [.int .i64, .int .i64, .int .i64, .int .i64, .int .i64, .int .i64]) a10.1 a10.2) fun (v11 : (Int × Int × Int × Int × Int × Int × Unit)) =>
 (state_State_Apply r4.1.1 (v11.1, v11.2.1, v11.2.2.1, v11.2.2.2.1, v11.2.2.2.2.1, v11.2.2.2.2.2.1, ()) H9).bind fun (r12 : ((Int × Unit) × Heap)) =>
 Option.bind (α := (Sl × Sl × Sl × Sl × Unit)) (rd r12.2 (.agg [.sl 3, .sl 3, .sl 1, .sl 2]) r4.2.length 0) fun (v13 : (Sl × Sl × Sl × Sl × Unit)) =>
 (Sl.at 6 x1 s8.1).bind fun (a14 : (Nat × Nat)) =>
 Option.bind (α := (Int × Int × Int × Int × Int × Int × Unit)) (rd r12.2 (.agg [.int .i64, .int .i64, .int .i64, .int .i64, .int .i64, .int .i64]) a14.1 a14.2) fun (v15 : (Int × Int × Int × Int × Int × Int × Unit)) =>
 (ref08_State_Apply (v13.1, v13.2.1, v13.2.2.1, v13.2.2.2.1, ()) (v15.1, v15.2.1, v15.2.2.1, v15.2.2.2.1, v15.2.2.2.2.1, v15.2.2.2.2.2.1, ()) r12.2).bind fun (r16 : (((Sl × Sl × Sl × Sl × Unit) × Int × Unit) × Heap)) =>
 (wr r16.2 r4.2.length 0 [.sl 3 r16.1.1.1, .sl 3 r16.1.1.2.1, .sl 1 r16.1.1.2.2.1, .sl 2 r16.1.1.2.2.2.1]).bind fun (H17 : Heap) =>
 some (Sum.inl ((IntKind.wrap .i64 (s8.1 + 1)), ()), H17)) (
 some (Sum.inr (()), H9))) (
 some (Sum.inr (()), H9))
noncomputable def law08_StateCopies (x0 : Sl) (x1 : Sl) (H : Heap) : Option ((Bool × Unit) × Heap) :=
 (law08_played x0 H).bind fun (r1 : ((Ptr × (Sl × Sl × Sl × Sl × Unit) × Unit) × Heap)) =>
 let H2 : Heap := r1.2 ++ [Blk.cells [.sl 3 Sl.nil, .sl 3 Sl.nil, .sl 1 Sl.nil, .sl 2 Sl.nil] .exact]
 (wr H2 r1.2.length 0 [.sl 3 r1.1.2.1.1, .sl 3 r1.1.2.1.2.1, .sl 1 r1.1.2.1.2.2.1, .sl 2 r1.1.2.1.2.2.2.1]).bind fun (H3 : Heap) =>
 (state_State_Copy r1.1.1 H3).bind fun (r4 : ((Ptr × Unit) × Heap)) =>
 Option.bind (α := (Sl × Sl × Sl × Sl × Unit)) (rd r4.2 (.agg [.sl 3, .sl 3, .sl 1, .sl 2]) r1.2.length 0) fun (v5 : (Sl × Sl × Sl × Sl × Unit)) =>
 let H6 : Heap := r4.2 ++ [Blk.cells [.sl 3 Sl.nil, .sl 3 Sl.nil, .sl 1 Sl.nil, .sl 2 Sl.nil] .exact]
 (wr H6 r4.2.length 0 [.sl 3 v5.1, .sl 3 v5.2.1, .sl 1 v5.2.2.1, .sl 2 v5.2.2.2.1]).bind fun (H7 : Heap) =>
 (loopW (law08_StateCopies.s1 x1 r4) (0, ()) H7).bind fun (p18 : (Unit) × Heap) =>
 (law08_awake).bind fun (r19 : (Bool × Unit)) =>
 cond r19.1 (
 Option.bind (α := (Sl × Sl × Sl × Sl × Unit)) (rd p18.2 (.agg [.sl 3, .sl 3, .sl 1, .sl 2]) r1.2.length 0) fun (v20 : (Sl × Sl × Sl × Sl × Unit)) =>
 (law08_Same r1.1.1 (v20.1, v20.2.1, v20.2.2.1, v20.2.2.2.1, ()) p18.2).bind fun (r21 : ((Bool × Unit) × Heap)) =>
 cond r21.1.1 (
 Option.bind (α := (Sl × Sl × Sl × Sl × Unit)) (rd r21.2 (.agg [.sl 3, .sl 3, .sl 1, .sl 2]) r4.2.length 0) fun (v22 : (Sl × Sl × Sl × Sl × Unit)) =>
 (law08_Same r4.1.1 (v22.1, v22.2.1, v22.2.2.1, v22.2.2.2.1, ()) r21.2).bind fun (r23 : ((Bool × Unit) × Heap)) =>
 some ((r23.1.1, ()), r23.2)) (
 some ((false, ()), r21.2))) (
 some ((false, ()), p18.2))
noncomputable def law08_StateCopies.c : Callee := .full [.one (.sl 6), .one (.sl 6)] [.one .bool] (fun x H => law08_StateCopies x.1 x.2.1 H)
noncomputable def law08_StateCopies.calls : Nat → Option Callee
  | 0 => some law08_played.c
  | 1 => some state_State_Copy.c
  | 2 => some state_State_Apply.c
  | 3 => some ref08_State_Apply.c
  | 4 => some law08_awake.c
  | 5 => some law08_Same.c
  | _ => none
theorem law08_StateCopies.eq : evFull law08_StateCopies.calls law08_StateCopies.af = (fun x H => law08_StateCopies x.1 x.2.1 H) := by kernel_rfl

/-! ### tinderbox/tinderboxlaw08.StateNone -/
def law08_StateNone.af : AFun := ⟨[.agg [.int .i64, .int .i64, .int .i64, .int .i64, .int .i64, .int .i64]], [.one .bool], [.t 2],
 .seq (.reg [.op ⟨0, some 1, .box (.t 0), none⟩,
  .op ⟨1, some 2, .mv (.c (.one (.bool false))), none⟩])
 (.seq (.reg [.op ⟨0, some 3, .mv (.c (.one (.ptr none))), none⟩])
 (.seq (.reg [.op ⟨0, some 9, .mv (.t 3), none⟩,
  .op ⟨1, some 10, .addr 1 (.t 1), none⟩,
  .op ⟨2, some 11, .load (.one (.int .i64)) (.t 10), none⟩,
  .op ⟨3, some 12, .addr 2 (.t 1), none⟩,
  .op ⟨4, some 13, .load (.one (.int .i64)) (.t 12), none⟩,
  .op ⟨5, some 14, .call 0 [(.t 9), (.t 11), (.t 13)], none⟩,
  .op ⟨6, some 8, .mv (.t 14), none⟩,
  .op ⟨7, some 15, .ext (.t 8) 0, none⟩,
  .op ⟨8, some 16, .ext (.t 8) 1, none⟩,
  .op ⟨9, some 4, .mv (.t 15), none⟩,
  .op ⟨10, some 5, .mv (.t 16), none⟩])
 (.seq (.reg [.op ⟨0, some 18, .mv (.t 3), none⟩,
  .op ⟨1, some 19, .addr 1 (.t 1), none⟩,
  .op ⟨2, some 20, .load (.one (.int .i64)) (.t 19), none⟩,
  .op ⟨3, some 21, .call 1 [(.t 18), (.t 20)], none⟩,
  .op ⟨4, some 17, .mv (.t 21), none⟩,
  .op ⟨5, some 22, .ext (.t 17) 0, none⟩,
  .op ⟨6, some 23, .ext (.t 17) 1, none⟩,
  .op ⟨7, some 6, .new [.int .i64 0, .int .i64 0, .int .i64 0, .bool false], none⟩,
  .op ⟨8, none, .store 4 (.t 6) (.t 22), none⟩,
  .op ⟨9, some 7, .mv (.t 23), none⟩])
 (.seq (.reg [.op ⟨0, some 24, .call 2 [], none⟩,
  .op ⟨1, some 25, .mv (.t 24), none⟩,
  .op ⟨2, some 26, .mv (.t 3), some (25, true)⟩,
  .op ⟨3, some 27, .load (.agg [.int .i64, .int .i64, .int .i64, .int .i64, .int .i64, .int .i64]) (.t 1), some (25, true)⟩,
  .op ⟨4, some 28, .call 3 [(.t 26), (.t 27)], some (25, true)⟩,
  .op ⟨5, some 29, .bin .eql (.t 28) (.c (.one (.int .i64 1))), some (25, true)⟩,
  .op ⟨6, some 30, .pick (.t 25) (.t 29) (.c (.one (.bool false))), none⟩,
  .op ⟨7, some 31, .mv (.t 30), none⟩,
  .op ⟨8, some 32, .mv (.t 3), some (31, true)⟩,
  .op ⟨9, some 33, .call 4 [(.t 32), (.c (.one (.int .i64 1))), (.c (.one (.int .i64 0))), (.c (.one (.int .i64 0)))], some (31, true)⟩,
  .op ⟨10, some 34, .bin .eql (.t 33) (.c (.one (.int .i64 1))), some (31, true)⟩,
  .op ⟨11, some 35, .pick (.t 31) (.t 34) (.c (.one (.bool false))), none⟩,
  .op ⟨12, some 36, .mv (.t 35), none⟩,
  .op ⟨13, some 37, .mv (.t 3), some (36, true)⟩,
  .op ⟨14, some 38, .call 5 [(.t 37)], some (36, true)⟩,
  .op ⟨15, some 39, .isnil false (.t 38), some (36, true)⟩,
  .op ⟨16, some 40, .pick (.t 36) (.t 39) (.c (.one (.bool false))), none⟩,
  .op ⟨17, some 41, .mv (.t 40), none⟩,
  .op ⟨18, some 42, .mv (.t 5), some (41, true)⟩,
  .op ⟨19, some 43, .un .not (.t 42), some (41, true)⟩,
  .op ⟨20, some 44, .pick (.t 41) (.t 43) (.c (.one (.bool false))), none⟩,
  .op ⟨21, some 45, .mv (.t 44), none⟩,
  .op ⟨22, some 46, .mv (.t 7), some (45, true)⟩,
  .op ⟨23, some 47, .un .not (.t 46), some (45, true)⟩,
  .op ⟨24, some 48, .pick (.t 45) (.t 47) (.c (.one (.bool false))), none⟩,
  .op ⟨25, some 49, .mv (.t 48), none⟩,
  .op ⟨26, some 50, .mv (.t 3), some (49, true)⟩,
  .op ⟨27, some 51, .call 6 [(.t 50)], some (49, true)⟩,
  .op ⟨28, some 52, .len (.t 51), some (49, true)⟩,
  .op ⟨29, some 53, .bin .eql (.t 52) (.c (.one (.int .i64 0))), some (49, true)⟩,
  .op ⟨30, some 54, .pick (.t 49) (.t 53) (.c (.one (.bool false))), none⟩,
  .op ⟨31, some 55, .mv (.t 54), none⟩,
  .op ⟨32, some 56, .mv (.t 3), some (55, true)⟩,
  .op ⟨33, some 57, .addr 3 (.t 1), some (55, true)⟩,
  .op ⟨34, some 58, .load (.one (.int .i64)) (.t 57), some (55, true)⟩,
  .op ⟨35, some 59, .call 7 [(.t 56), (.t 58)], some (55, true)⟩,
  .op ⟨36, some 60, .bin .eql (.t 59) (.c (.one (.int .i64 0))), some (55, true)⟩,
  .op ⟨37, some 61, .pick (.t 55) (.t 60) (.c (.one (.bool false))), none⟩,
  .op ⟨38, some 62, .mv (.t 61), none⟩,
  .op ⟨39, some 63, .mv (.t 3), some (62, true)⟩,
  .op ⟨40, some 64, .call 8 [(.t 63)], some (62, true)⟩,
  .op ⟨41, some 65, .bin .eql (.t 64) (.c (.one (.int .i64 0))), some (62, true)⟩,
  .op ⟨42, some 66, .pick (.t 62) (.t 65) (.c (.one (.bool false))), none⟩,
  .op ⟨43, some 67, .mv (.t 66), none⟩,
  .op ⟨44, some 68, .mv (.t 3), some (67, true)⟩,
  .op ⟨45, some 69, .call 9 [(.t 68)], some (67, true)⟩,
  .op ⟨46, some 70, .bin .eql (.t 69) (.c (.one (.int .i64 0))), some (67, true)⟩,
  .op ⟨47, some 71, .pick (.t 67) (.t 70) (.c (.one (.bool false))), none⟩,
  .op ⟨48, some 72, .mv (.t 71), none⟩,
  .op ⟨49, some 73, .mv (.t 3), some (72, true)⟩,
  .op ⟨50, some 74, .addr 3 (.t 1), some (72, true)⟩,
  .op ⟨51, some 75, .load (.one (.int .i64)) (.t 74), some (72, true)⟩,
  .op ⟨52, some 76, .call 10 [(.t 73), (.t 75)], some (72, true)⟩,
  .op ⟨53, some 77, .un .not (.t 76), some (72, true)⟩,
  .op ⟨54, some 78, .pick (.t 72) (.t 77) (.c (.one (.bool false))), none⟩,
  .op ⟨55, some 79, .mv (.t 78), none⟩,
  .op ⟨56, some 80, .mv (.t 3), some (79, true)⟩,
  .op ⟨57, some 81, .call 11 [(.t 80)], some (79, true)⟩,
  .op ⟨58, some 82, .bin .eql (.t 81) (.c (.one (.int .i64 0))), some (79, true)⟩,
  .op ⟨59, some 83, .pick (.t 79) (.t 82) (.c (.one (.bool false))), none⟩,
  .op ⟨60, some 84, .mv (.t 83), none⟩,
  .op ⟨61, some 85, .mv (.t 3), some (84, true)⟩,
  .op ⟨62, some 86, .addr 3 (.t 1), some (84, true)⟩,
  .op ⟨63, some 87, .load (.one (.int .i64)) (.t 86), some (84, true)⟩,
  .op ⟨64, some 88, .call 12 [(.t 85), (.t 87)], some (84, true)⟩,
  .op ⟨65, some 89, .bin .eql (.t 88) (.c (.one (.int .i64 0))), some (84, true)⟩,
  .op ⟨66, some 90, .pick (.t 84) (.t 89) (.c (.one (.bool false))), none⟩,
  .op ⟨67, some 91, .mv (.t 90), none⟩,
  .op ⟨68, some 92, .mv (.t 3), some (91, true)⟩,
  .op ⟨69, some 93, .call 13 [(.t 92)], some (91, true)⟩,
  .op ⟨70, some 94, .len (.t 93), some (91, true)⟩,
  .op ⟨71, some 95, .bin .eql (.t 94) (.c (.one (.int .i64 0))), some (91, true)⟩,
  .op ⟨72, some 96, .pick (.t 91) (.t 95) (.c (.one (.bool false))), none⟩,
  .op ⟨73, some 2, .mv (.t 96), none⟩])
 (.ret)))))⟩
noncomputable def law08_StateNone.on (x0 : (Int × Int × Int × Int × Int × Int × Unit)) (H : Heap) : Option (Bool × Unit) :=
 let H1 : Heap := H ++ [Blk.cells [.int .i64 x0.1, .int .i64 x0.2.1, .int .i64 x0.2.2.1, .int .i64 x0.2.2.2.1, .int .i64 x0.2.2.2.2.1, .int .i64 x0.2.2.2.2.2.1] .exact]
 (rdI .i64 H1 H.length 1).bind fun (v2 : Int) =>
 (rdI .i64 H1 H.length 2).bind fun (v3 : Int) =>
 (state_State_Get none v2 v3 H1).bind fun (r4 : ((Int × Bool × Unit) × Heap)) =>
 (rdI .i64 r4.2 H.length 1).bind fun (v5 : Int) =>
 (state_State_Space none v5 r4.2).bind fun (r6 : (((Int × Int × Int × Bool × Unit) × Bool × Unit) × Heap)) =>
 let H7 : Heap := r6.2 ++ [Blk.cells [.int .i64 0, .int .i64 0, .int .i64 0, .bool false] .exact]
 (wr H7 r6.2.length 0 [.int .i64 r6.1.1.1, .int .i64 r6.1.1.2.1, .int .i64 r6.1.1.2.2.1, .bool r6.1.1.2.2.2.1]).bind fun (H8 : Heap) =>
 (law08_awake).bind fun (r9 : (Bool × Unit)) =>
 cond r9.1 (
 Option.bind (α := (Int × Int × Int × Int × Int × Int × Unit)) (rd H8 (.agg [.int .i64, .int .i64, .int .i64, .int .i64, .int .i64, .int .i64]) H.length 0) fun (v10 : (Int × Int × Int × Int × Int × Int × Unit)) =>
 (state_State_Apply none (v10.1, v10.2.1, v10.2.2.1, v10.2.2.2.1, v10.2.2.2.2.1, v10.2.2.2.2.2.1, ()) H8).bind fun (r11 : ((Int × Unit) × Heap)) =>
 cond (decide (r11.1.1 = 1)) (
 (state_State_Lay none 1 0 0 r11.2).bind fun (r12 : ((Int × Unit) × Heap)) =>
 cond (decide (r12.1.1 = 1)) (
 (state_State_Copy none r12.2).bind fun (r13 : ((Ptr × Unit) × Heap)) =>
 cond (Option.isNone r13.1.1) (
 cond (!r4.1.2.1) (
 cond (!r6.1.2.1) (
 (state_State_Spaces none r13.2).bind fun (r14 : ((Sl × Unit) × Heap)) =>
 cond (decide ((r14.1.1.len : Int) = 0)) (
 (rdI .i64 r14.2 H.length 3).bind fun (v15 : Int) =>
 (state_State_Refs none v15 r14.2).bind fun (r16 : ((Int × Unit) × Heap)) =>
 cond (decide (r16.1.1 = 0)) (
 (state_State_Live none r16.2).bind fun (r17 : ((Int × Unit) × Heap)) =>
 cond (decide (r17.1.1 = 0)) (
 (state_State_Keys none r17.2).bind fun (r18 : ((Int × Unit) × Heap)) =>
 cond (decide (r18.1.1 = 0)) (
 (rdI .i64 r18.2 H.length 3).bind fun (v19 : Int) =>
 (state_State_Bad none v19 r18.2).bind fun (r20 : ((Bool × Unit) × Heap)) =>
 cond (!r20.1.1) (
 (state_State_Bads none r20.2).bind fun (r21 : ((Int × Unit) × Heap)) =>
 cond (decide (r21.1.1 = 0)) (
 (rdI .i64 r21.2 H.length 3).bind fun (v22 : Int) =>
 (state_State_Worn none v22 r21.2).bind fun (r23 : ((Int × Unit) × Heap)) =>
 cond (decide (r23.1.1 = 0)) (
 (state_State_Dump none r23.2).bind fun (r24 : ((Sl × Unit) × Heap)) =>
 some ((decide ((r24.1.1.len : Int) = 0)), ())) (
 some (false, ()))) (
 some (false, ()))) (
 some (false, ()))) (
 some (false, ()))) (
 some (false, ()))) (
 some (false, ()))) (
 some (false, ()))) (
 some (false, ()))) (
 some (false, ()))) (
 some (false, ()))) (
 some (false, ()))) (
 some (false, ()))) (
 some (false, ()))
noncomputable def law08_StateNone (x0 : (Int × Int × Int × Int × Int × Int × Unit)) : Option (Bool × Unit) := law08_StateNone.on x0 []
noncomputable def law08_StateNone.c : Callee := .pure [.agg [.int .i64, .int .i64, .int .i64, .int .i64, .int .i64, .int .i64]] [.one .bool] (fun x => law08_StateNone x.1)
noncomputable def law08_StateNone.calls : Nat → Option Callee
  | 0 => some state_State_Get.c
  | 1 => some state_State_Space.c
  | 2 => some law08_awake.c
  | 3 => some state_State_Apply.c
  | 4 => some state_State_Lay.c
  | 5 => some state_State_Copy.c
  | 6 => some state_State_Spaces.c
  | 7 => some state_State_Refs.c
  | 8 => some state_State_Live.c
  | 9 => some state_State_Keys.c
  | 10 => some state_State_Bad.c
  | 11 => some state_State_Bads.c
  | 12 => some state_State_Worn.c
  | 13 => some state_State_Dump.c
  | _ => none
theorem law08_StateNone.eq : evPure law08_StateNone.calls law08_StateNone.af = (fun x H => law08_StateNone.on x.1 H) := by kernel_rfl

/-! ### tinderbox/tinderboxlaw08.StateBlocks -/
def law08_StateBlocks.af : AFun := ⟨[.one (.sl 6)], [.one .bool], [.t 2],
 .seq (.reg [.op ⟨0, some 2, .mv (.c (.one (.bool false))), none⟩])
 (.seq (.reg [.op ⟨1, some 11, .mk 1 1 [.bool false] (.c (.one (.int .i64 32))) (.c (.one (.int .i64 32))), none⟩,
  .op ⟨2, some 12, .mk 1 8 [.int .i64 0] (.c (.one (.int .i64 32))) (.c (.one (.int .i64 32))), none⟩,
  .op ⟨0, some 10, .call 0 [], none⟩,
  .op ⟨3, some 3, .mv (.t 10), none⟩,
  .op ⟨4, some 4, .mv (.t 11), none⟩,
  .op ⟨5, some 5, .mv (.t 12), none⟩,
  .still ⟨1, some 11, .mk 1 1 [.bool false] (.c (.one (.int .i64 32))) (.c (.one (.int .i64 32))), none⟩,
  .still ⟨2, some 12, .mk 1 8 [.int .i64 0] (.c (.one (.int .i64 32))) (.c (.one (.int .i64 32))), none⟩])
 (.seq (.seq (.reg [.op ⟨0, some 6, .mv (.c (.one (.int .i64 0))), none⟩])
 (.block 0 (.loop [(6, .one (.int .i64))] [(.exit 0, [])] (.seq (.seq (.reg [.op ⟨0, some 13, .mv (.t 6), none⟩,
  .op ⟨1, some 14, .mv (.t 0), none⟩,
  .op ⟨2, some 15, .len (.t 14), none⟩,
  .op ⟨3, some 16, .bin .lss (.t 13) (.t 15), none⟩,
  .op ⟨4, some 17, .mv (.t 16), none⟩,
  .op ⟨5, some 18, .mv (.t 6), some (17, true)⟩,
  .op ⟨6, some 19, .bin .lss (.t 18) (.c (.one (.int .i64 60))), some (17, true)⟩,
  .op ⟨7, some 20, .pick (.t 17) (.t 19) (.c (.one (.bool false))), none⟩])
 (.cond (.t 20) (.skip) (.exit 0)))
 (.seq (.block 1 (.seq (.reg [.op ⟨0, some 23, .mv (.t 0), none⟩,
  .op ⟨1, some 24, .mv (.t 6), none⟩,
  .op ⟨2, some 25, .idxa 6 (.t 23) (.t 24), none⟩,
  .op ⟨3, some 26, .load (.agg [.int .i64, .int .i64, .int .i64, .int .i64, .int .i64, .int .i64]) (.t 25), none⟩,
  .op ⟨4, some 7, .new [.int .i64 0, .int .i64 0, .int .i64 0, .int .i64 0, .int .i64 0, .int .i64 0], none⟩,
  .op ⟨5, none, .store 6 (.t 7) (.t 26), none⟩])
 (.seq (.seq (.reg [.op ⟨0, some 27, .mv (.t 3), none⟩,
  .op ⟨1, some 28, .load (.agg [.int .i64, .int .i64, .int .i64, .int .i64, .int .i64, .int .i64]) (.t 7), none⟩,
  .op ⟨2, some 29, .call 1 [(.t 27), (.t 28)], none⟩,
  .op ⟨3, some 30, .bin .neq (.t 29) (.c (.one (.int .i64 0))), none⟩])
 (.cond (.t 30) (.exit 1) (.skip)))
 (.seq (.scope [(.normal, [])] (.seq (.reg [.op ⟨0, some 31, .addr 0 (.t 7), none⟩,
  .op ⟨1, some 32, .load (.one (.int .i64)) (.t 31), none⟩,
  .op ⟨2, some 33, .bin .eql (.t 32) (.c (.one (.int .i64 8))), none⟩])
 (.cond (.t 33) (.reg [.op ⟨0, some 34, .mv (.t 4), none⟩,
  .op ⟨1, some 35, .addr 3 (.t 7), none⟩,
  .op ⟨2, some 36, .load (.one (.int .i64)) (.t 35), none⟩,
  .op ⟨3, some 37, .idxa 1 (.t 34) (.t 36), none⟩,
  .op ⟨4, none, .store 1 (.t 37) (.c (.one (.bool true))), none⟩]) (.skip))))
 (.seq (.scope [(.normal, [(50, .one .bool)])] (.reg [.op ⟨0, some 38, .addr 0 (.t 7), none⟩,
  .op ⟨1, some 39, .load (.one (.int .i64)) (.t 38), none⟩,
  .op ⟨2, some 40, .bin .eql (.t 39) (.c (.one (.int .i64 9))), none⟩,
  .op ⟨3, some 41, .mv (.t 40), none⟩,
  .op ⟨4, some 42, .addr 5 (.t 7), some (41, true)⟩,
  .op ⟨5, some 43, .load (.one (.int .i64)) (.t 42), some (41, true)⟩,
  .op ⟨6, some 44, .mv (.t 5), some (41, true)⟩,
  .op ⟨7, some 45, .addr 3 (.t 7), some (41, true)⟩,
  .op ⟨8, some 46, .load (.one (.int .i64)) (.t 45), some (41, true)⟩,
  .op ⟨9, some 47, .idxa 1 (.t 44) (.t 46), some (41, true)⟩,
  .op ⟨10, some 48, .load (.one (.int .i64)) (.t 47), some (41, true)⟩,
  .op ⟨11, some 49, .bin .gtr (.t 43) (.t 48), some (41, true)⟩,
  .op ⟨12, some 50, .pick (.t 41) (.t 49) (.c (.one (.bool false))), none⟩]))
 (.cond (.t 50) (.reg [.op ⟨0, some 51, .mv (.t 5), none⟩,
  .op ⟨1, some 52, .addr 3 (.t 7), none⟩,
  .op ⟨2, some 53, .load (.one (.int .i64)) (.t 52), none⟩,
  .op ⟨3, some 54, .addr 5 (.t 7), none⟩,
  .op ⟨4, some 55, .load (.one (.int .i64)) (.t 54), none⟩,
  .op ⟨5, some 56, .idxa 1 (.t 51) (.t 53), none⟩,
  .op ⟨6, none, .store 1 (.t 56) (.t 55), none⟩]) (.skip)))))))
 (.reg [.op ⟨0, some 21, .mv (.t 6), none⟩,
  .op ⟨1, some 22, .bin .add (.t 21) (.c (.one (.int .i64 1))), none⟩,
  .op ⟨2, some 6, .mv (.t 22), none⟩]))))))
 (.seq (.reg [.op ⟨0, some 8, .mv (.c (.one (.int .i64 0))), none⟩])
 (.seq (.seq (.reg [.op ⟨0, some 9, .mv (.c (.one (.int .i64 0))), none⟩])
 (.block 2 (.loop [(8, .one (.int .i64)), (9, .one (.int .i64))] [(.exit 2, [(8, .one (.int .i64))]), (.ret, [(2, .one .bool)])] (.seq (.seq (.reg [.op ⟨0, some 57, .mv (.t 9), none⟩,
  .op ⟨1, some 58, .bin .lss (.t 57) (.c (.one (.int .i64 32))), none⟩])
 (.cond (.t 58) (.skip) (.exit 2)))
 (.seq (.block 3 (.seq (.seq (.reg [.op ⟨0, some 61, .mv (.t 3), none⟩,
  .op ⟨1, some 62, .mv (.t 9), none⟩,
  .op ⟨3, some 64, .mv (.t 4), none⟩,
  .op ⟨4, some 65, .mv (.t 9), none⟩,
  .op ⟨5, some 66, .idxa 1 (.t 64) (.t 65), none⟩,
  .op ⟨6, some 67, .load (.one .bool) (.t 66), none⟩,
  .op ⟨2, some 63, .call 2 [(.t 61), (.t 62)], none⟩,
  .op ⟨7, some 68, .eqb true (.t 63) (.t 67), none⟩,
  .op ⟨8, some 69, .mv (.t 68), none⟩,
  .op ⟨9, some 70, .mv (.t 3), some (69, false)⟩,
  .op ⟨10, some 71, .mv (.t 9), some (69, false)⟩,
  .op ⟨12, some 73, .mv (.t 5), some (69, false)⟩,
  .op ⟨13, some 74, .mv (.t 9), some (69, false)⟩,
  .op ⟨14, some 75, .idxa 1 (.t 73) (.t 74), some (69, false)⟩,
  .op ⟨15, some 76, .load (.one (.int .i64)) (.t 75), some (69, false)⟩,
  .again ⟨6, some 67, .load (.one .bool) (.t 66), none⟩,
  .op ⟨11, some 72, .call 3 [(.t 70), (.t 71)], some (69, false)⟩,
  .op ⟨16, some 77, .bin .neq (.t 72) (.t 76), some (69, false)⟩,
  .op ⟨17, some 78, .pick (.t 69) (.c (.one (.bool true))) (.t 77), none⟩,
  .again ⟨15, some 76, .load (.one (.int .i64)) (.t 75), some (69, false)⟩])
 (.cond (.t 78) (.seq (.reg [.op ⟨0, some 2, .mv (.c (.one (.bool false))), none⟩])
 (.ret)) (.skip)))
 (.seq (.reg [.op ⟨0, some 79, .mv (.t 4), none⟩,
  .op ⟨1, some 80, .mv (.t 9), none⟩,
  .op ⟨2, some 81, .idxa 1 (.t 79) (.t 80), none⟩,
  .op ⟨3, some 82, .load (.one .bool) (.t 81), none⟩])
 (.cond (.t 82) (.reg [.op ⟨0, some 83, .mv (.t 8), none⟩,
  .op ⟨1, some 84, .bin .add (.t 83) (.c (.one (.int .i64 1))), none⟩,
  .op ⟨2, some 8, .mv (.t 84), none⟩]) (.skip)))))
 (.reg [.op ⟨0, some 59, .mv (.t 9), none⟩,
  .op ⟨1, some 60, .bin .add (.t 59) (.c (.one (.int .i64 1))), none⟩,
  .op ⟨2, some 9, .mv (.t 60), none⟩]))))))
 (.seq (.reg [.op ⟨0, some 85, .call 4 [], none⟩,
  .op ⟨1, some 86, .mv (.t 85), none⟩,
  .op ⟨2, some 87, .mv (.t 3), some (86, true)⟩,
  .op ⟨3, some 88, .call 5 [(.t 87)], some (86, true)⟩,
  .op ⟨4, some 89, .mv (.t 8), some (86, true)⟩,
  .op ⟨5, some 90, .bin .eql (.t 88) (.t 89), some (86, true)⟩,
  .op ⟨6, some 91, .pick (.t 86) (.t 90) (.c (.one (.bool false))), none⟩,
  .op ⟨7, some 2, .mv (.t 91), none⟩])
 (.ret))))))⟩
noncomputable def law08_StateBlocks.s1 (x0 : Sl) (p1 : (Sl × Heap)) (p2 : (Sl × Heap)) (r3 : ((Ptr × Unit) × Heap)) (s6 : (Int × Unit)) (H7 : Heap) : Option (((Int × Unit) ⊕ (Unit)) × Heap) :=
 cond (decide (s6.1 < (x0.len : Int))) (
 cond (decide (s6.1 < 60)) (
 (Sl.at 6 x0 s6.1).bind fun (a8 : (Nat × Nat)) =>
 Option.bind (α := (Int × Int × Int × Int × Int × Int × Unit)) (rd H7 (.agg [.int .i64, .int .i64, .int .i64, .int .i64, .int .i64, .int .i64]) a8.1 a8.2) fun (v9 : (Int × Int × Int × Int × Int × Int × Unit)) =>
 let H10 : Heap := H7 ++ [Blk.cells [.int .i64 0, .int .i64 0, .int .i64 0, .int .i64 0, .int .i64 0, .int .i64 0] .exact]
 (wr H10 H7.length 0 [.int .i64 v9.1, .int .i64 v9.2.1, .int .i64 v9.2.2.1, .int .i64 v9.2.2.2.1, .int .i64 v9.2.2.2.2.1, .int .i64 v9.2.2.2.2.2.1]).bind fun (H11 : Heap) =>
 Option.bind (α := (Int × Int × Int × Int × Int × Int × Unit)) (rd H11 (.agg [.int .i64, .int .i64, .int .i64, .int .i64, .int .i64, .int .i64]) H7.length 0) fun (v12 : (Int × Int × Int × Int × Int × Int × Unit)) =>
 (state_State_Apply r3.1.1 (v12.1, v12.2.1, v12.2.2.1, v12.2.2.2.1, v12.2.2.2.2.1, v12.2.2.2.2.2.1, ()) H11).bind fun (r13 : ((Int × Unit) × Heap)) =>
 cond (!decide (r13.1.1 = 0)) (
 some (Sum.inl ((IntKind.wrap .i64 (s6.1 + 1)), ()), r13.2)) (
 ((rdI .i64 r13.2 H7.length 0).bind fun (v14 : Int) =>
 cond (decide (v14 = 8)) (
 (rdI .i64 r13.2 H7.length 3).bind fun (v15 : Int) =>
 (Sl.at 1 p1.1 v15).bind fun (a16 : (Nat × Nat)) =>
 (wr r13.2 a16.1 a16.2 [.bool true]).bind fun (H17 : Heap) =>
 some ((()), H17)) (
 some ((()), r13.2)) : Option ((Unit) × Heap)).bind fun (p18 : (Unit) × Heap) =>
 ((rdI .i64 p18.2 H7.length 0).bind fun (v19 : Int) =>
 cond (decide (v19 = 9)) (
 (rdI .i64 p18.2 H7.length 5).bind fun (v20 : Int) =>
 (rdI .i64 p18.2 H7.length 3).bind fun (v21 : Int) =>
 (Sl.at 1 p2.1 v21).bind fun (a22 : (Nat × Nat)) =>
 (rdI .i64 p18.2 a22.1 a22.2).bind fun (v23 : Int) =>
 some (((decide (v23 < v20)), ()), p18.2)) (
 some ((false, ()), p18.2)) : Option ((Bool × Unit) × Heap)).bind fun (p24 : (Bool × Unit) × Heap) =>
 cond p24.1.1 (
 (rdI .i64 p24.2 H7.length 3).bind fun (v25 : Int) =>
 (rdI .i64 p24.2 H7.length 5).bind fun (v26 : Int) =>
 (Sl.at 1 p2.1 v25).bind fun (a27 : (Nat × Nat)) =>
 (wr p24.2 a27.1 a27.2 [.int .i64 v26]).bind fun (H28 : Heap) =>
 some (Sum.inl ((IntKind.wrap .i64 (s6.1 + 1)), ()), H28)) (
 some (Sum.inl ((IntKind.wrap .i64 (s6.1 + 1)), ()), p24.2)))) (
 some (Sum.inr (()), H7))) (
 some (Sum.inr (()), H7))
noncomputable def law08_StateBlocks.s2 (p1 : (Sl × Heap)) (p2 : (Sl × Heap)) (r3 : ((Ptr × Unit) × Heap)) (s30 : (Int × Int × Unit)) (H31 : Heap) : Option (((Int × Int × Unit) ⊕ ((Int × Unit) ⊕ (Bool × Unit))) × Heap) :=
 cond (decide (s30.2.1 < 32)) (
 (Sl.at 1 p1.1 s30.2.1).bind fun (a32 : (Nat × Nat)) =>
 (rdB H31 a32.1 a32.2).bind fun (v33 : Bool) =>
 (state_State_Bad r3.1.1 s30.2.1 H31).bind fun (r34 : ((Bool × Unit) × Heap)) =>
 cond (!(r34.1.1 == v33)) (
 (rdB r34.2 a32.1 a32.2).bind fun (v35 : Bool) =>
 if V.w (.one (.bool v35)) = V.w (.one (.bool v33)) then
 some (Sum.inr (Sum.inr (false, ())), r34.2)
 else none) (
 (Sl.at 1 p2.1 s30.2.1).bind fun (a36 : (Nat × Nat)) =>
 (rdI .i64 r34.2 a36.1 a36.2).bind fun (v37 : Int) =>
 (rdB r34.2 a32.1 a32.2).bind fun (v38 : Bool) =>
 if V.w (.one (.bool v38)) = V.w (.one (.bool v33)) then
 (state_State_Worn r3.1.1 s30.2.1 r34.2).bind fun (r39 : ((Int × Unit) × Heap)) =>
 (rdI .i64 r39.2 a36.1 a36.2).bind fun (v40 : Int) =>
 if V.w (.one (.int .i64 v40)) = V.w (.one (.int .i64 v37)) then
 cond (!decide (r39.1.1 = v37)) (
 some (Sum.inr (Sum.inr (false, ())), r39.2)) (
 (Sl.at 1 p1.1 s30.2.1).bind fun (a41 : (Nat × Nat)) =>
 (rdB r39.2 a41.1 a41.2).bind fun (v42 : Bool) =>
 cond v42 (
 some (Sum.inl ((IntKind.wrap .i64 (s30.1 + 1)), (IntKind.wrap .i64 (s30.2.1 + 1)), ()), r39.2)) (
 some (Sum.inl (s30.1, (IntKind.wrap .i64 (s30.2.1 + 1)), ()), r39.2)))
 else none
 else none)) (
 some (Sum.inr (Sum.inl (s30.1, ())), H31))
noncomputable def law08_StateBlocks (x0 : Sl) (H : Heap) : Option ((Bool × Unit) × Heap) :=
 (mkS H 1 [.bool false] 32 32).bind fun (p1 : (Sl × Heap)) =>
 (mkS p1.2 8 [.int .i64 0] 32 32).bind fun (p2 : (Sl × Heap)) =>
 (state_New p2.2).bind fun (r3 : ((Ptr × Unit) × Heap)) =>
 (p1.1.p).bind fun (a4 : Nat × Nat) =>
 if r3.2[a4.1]? = some (Blk.cells (rep (Int.toNat 32) [.bool false]) .exact) then
 (p2.1.p).bind fun (a5 : Nat × Nat) =>
 if r3.2[a5.1]? = some (Blk.cells (rep (Int.toNat 32) [.int .i64 0]) .exact) then
 (loopW (law08_StateBlocks.s1 x0 p1 p2 r3) (0, ()) r3.2).bind fun (p29 : (Unit) × Heap) =>
 (loopW (law08_StateBlocks.s2 p1 p2 r3) (0, 0, ()) p29.2).bind fun (p43 : ((Int × Unit) ⊕ (Bool × Unit)) × Heap) =>
 Sum.elim (fun (y44 : (Int × Unit)) =>
 (law08_awake).bind fun (r45 : (Bool × Unit)) =>
 cond r45.1 (
 (state_State_Bads r3.1.1 p43.2).bind fun (r46 : ((Int × Unit) × Heap)) =>
 some (((decide (r46.1.1 = y44.1)), ()), r46.2)) (
 some ((false, ()), p43.2))) (fun (z47 : (Bool × Unit)) =>
 some ((z47.1, ()), p43.2)) p43.1
 else none
 else none
noncomputable def law08_StateBlocks.c : Callee := .full [.one (.sl 6)] [.one .bool] (fun x H => law08_StateBlocks x.1 H)
noncomputable def law08_StateBlocks.calls : Nat → Option Callee
  | 0 => some state_New.c
  | 1 => some state_State_Apply.c
  | 2 => some state_State_Bad.c
  | 3 => some state_State_Worn.c
  | 4 => some law08_awake.c
  | 5 => some state_State_Bads.c
  | _ => none
theorem law08_StateBlocks.eq : evFull law08_StateBlocks.calls law08_StateBlocks.af = (fun x H => law08_StateBlocks x.1 H) := by kernel_rfl
end Ev
