/- What the functions of the package Counter compute: abstract code, and a function of plain Lean for each; the kernel checks that they are the same. Written by gen2.py. -/
import Derived.Test.YtdjmipkijimajaaEvCore
import Derived.Test.YtdjmipkijimajaaGNand
import Derived.Test.YtdjmipkijimajaaGPage
import Derived.KernelRfl
set_option linter.unusedVariables false
set_option maxRecDepth 100000
namespace Ev
open Go (IntKind BinOp UnOp)

/-! ### tinderbox/counter.look -/
def counter_look.af : AFun := ⟨[.one .ptr, .one (.int .i64)], [.agg [.int .i64, .int .i64, .int .i64, .bool], .one (.int .i64)], [.cell 4, .t 5],
 .seq (.reg [.op ⟨0, some 4, .new [.int .i64 0, .int .i64 0, .int .i64 0, .bool false], none⟩,
  .op ⟨1, some 5, .mv (.c (.one (.int .i64 0))), none⟩])
 (.seq (.reg [.op ⟨0, some 6, .new [.int .i64 0, .int .i64 0, .int .i64 0, .bool false], none⟩])
 (.seq (.seq (.reg [.op ⟨0, some 14, .mv (.t 0), none⟩,
  .op ⟨1, some 15, .call 0 [(.t 14)], none⟩,
  .op ⟨2, some 16, .field (.one (.int .i64)) 1 (.t 15), none⟩,
  .op ⟨3, some 17, .mv (.c (.one (.int .i64 0))), none⟩])
 (.block 0 (.loop [(17, .one (.int .i64))] [(.exit 0, []), (.ret, [(5, .one (.int .i64))])] (.seq (.reg [.op ⟨0, some 18, .bin .lss (.t 17) (.t 16), none⟩])
 (.seq (.cond (.t 18) (.skip) (.exit 0))
 (.seq (.block 1 (.seq (.reg [.op ⟨0, some 19, .mv (.t 17), none⟩,
  .op ⟨1, some 7, .mv (.t 19), none⟩])
 (.seq (.reg [.op ⟨0, some 21, .mv (.t 0), none⟩,
  .op ⟨1, some 22, .mv (.t 1), none⟩,
  .op ⟨2, some 23, .mv (.t 7), none⟩,
  .op ⟨3, some 24, .call 1 [(.t 21), (.t 22), (.t 23)], none⟩,
  .op ⟨4, some 20, .mv (.t 24), none⟩,
  .op ⟨5, some 25, .ext (.t 20) 0, none⟩,
  .op ⟨6, some 26, .ext (.t 20) 1, none⟩,
  .op ⟨7, some 27, .ext (.t 20) 2, none⟩,
  .op ⟨8, some 8, .mv (.t 25), none⟩,
  .op ⟨9, some 9, .mv (.t 26), none⟩,
  .op ⟨10, some 10, .mv (.t 27), none⟩])
 (.seq (.seq (.reg [.op ⟨0, some 28, .mv (.t 10), none⟩,
  .op ⟨1, some 29, .bin .neq (.t 28) (.c (.one (.int .i64 0))), none⟩])
 (.cond (.t 29) (.seq (.reg [.op ⟨0, some 30, .build [.int .i64 0, .int .i64 0, .int .i64 0, .bool false] [], none⟩,
  .op ⟨1, some 31, .mv (.t 10), none⟩,
  .op ⟨2, none, .store 4 (.t 4) (.t 30), none⟩,
  .op ⟨3, some 5, .mv (.t 31), none⟩])
 (.ret)) (.skip)))
 (.seq (.reg [.op ⟨0, some 33, .mv (.t 8), none⟩,
  .op ⟨1, some 34, .mv (.t 9), none⟩,
  .op ⟨2, some 35, .call 2 [(.t 33), (.t 34)], none⟩,
  .op ⟨3, some 32, .mv (.t 35), none⟩,
  .op ⟨4, some 36, .ext (.t 32) 0, none⟩,
  .op ⟨5, some 37, .ext (.t 32) 1, none⟩,
  .op ⟨6, some 38, .ext (.t 32) 2, none⟩,
  .op ⟨7, some 12, .new [.int .i64 0, .int .u64 0, .int .i64 0, .int .i64 0, .int .i64 0], none⟩,
  .op ⟨8, some 11, .mv (.t 36), none⟩,
  .op ⟨9, none, .store 5 (.t 12) (.t 37), none⟩,
  .op ⟨10, some 13, .mv (.t 38), none⟩])
 (.seq (.scope [(.normal, [])] (.seq (.reg [.op ⟨0, some 39, .mv (.t 11), none⟩,
  .op ⟨1, some 40, .bin .neq (.t 39) (.c (.one (.int .i64 0))), none⟩])
 (.cond (.t 40) (.reg [.op ⟨0, some 41, .mv (.t 7), none⟩,
  .op ⟨1, some 42, .bin .add (.t 41) (.c (.one (.int .i64 1))), none⟩,
  .op ⟨2, some 43, .addr 1 (.t 6), none⟩,
  .op ⟨3, none, .store 1 (.t 43) (.t 42), none⟩]) (.skip))))
 (.seq (.scope [(.normal, [(55, .one .bool)])] (.reg [.op ⟨0, some 44, .mv (.t 11), none⟩,
  .op ⟨1, some 45, .bin .eql (.t 44) (.c (.one (.int .i64 1))), none⟩,
  .op ⟨2, some 46, .mv (.t 45), none⟩,
  .op ⟨3, some 47, .addr 0 (.t 12), some (46, true)⟩,
  .op ⟨4, some 48, .load (.one (.int .i64)) (.t 47), some (46, true)⟩,
  .op ⟨5, some 49, .bin .eql (.t 48) (.c (.one (.int .i64 1))), some (46, true)⟩,
  .op ⟨6, some 50, .pick (.t 46) (.t 49) (.c (.one (.bool false))), none⟩,
  .op ⟨7, some 51, .mv (.t 50), none⟩,
  .op ⟨8, some 52, .addr 1 (.t 12), some (51, true)⟩,
  .op ⟨9, some 53, .load (.one (.int .u64)) (.t 52), some (51, true)⟩,
  .op ⟨10, some 54, .bin .leq (.t 53) (.c (.one (.int .u64 1073741824))), some (51, true)⟩,
  .op ⟨11, some 55, .pick (.t 51) (.t 54) (.c (.one (.bool false))), none⟩]))
 (.cond (.t 55) (.seq (.reg [.op ⟨0, some 56, .addr 0 (.t 6), none⟩,
  .op ⟨1, some 57, .load (.one (.int .i64)) (.t 56), none⟩,
  .op ⟨2, some 58, .addr 1 (.t 12), none⟩,
  .op ⟨3, some 59, .load (.one (.int .u64)) (.t 58), none⟩,
  .op ⟨4, some 60, .conv .i64 (.t 59), none⟩,
  .op ⟨5, some 61, .max [(.t 57), (.t 60)], none⟩,
  .op ⟨6, some 62, .addr 0 (.t 6), none⟩,
  .op ⟨7, none, .store 1 (.t 62) (.t 61), none⟩,
  .op ⟨8, some 63, .addr 3 (.t 6), none⟩,
  .op ⟨9, none, .store 1 (.t 63) (.c (.one (.bool true))), none⟩])
 (.reg [.op ⟨0, some 64, .addr 2 (.t 6), none⟩,
  .op ⟨1, some 65, .load (.one (.int .i64)) (.t 64), none⟩,
  .op ⟨2, some 66, .addr 4 (.t 12), none⟩,
  .op ⟨3, some 67, .load (.one (.int .i64)) (.t 66), none⟩,
  .op ⟨4, some 68, .max [(.t 65), (.t 67)], none⟩,
  .op ⟨5, some 69, .addr 2 (.t 6), none⟩,
  .op ⟨6, none, .store 1 (.t 69) (.t 68), none⟩])) (.skip)))))))))
 (.reg [.op ⟨0, some 70, .bin .add (.t 17) (.c (.one (.int .i64 1))), none⟩,
  .op ⟨1, some 17, .mv (.t 70), none⟩])))))))
 (.seq (.reg [.op ⟨0, some 71, .load (.agg [.int .i64, .int .i64, .int .i64, .bool]) (.t 6), none⟩,
  .op ⟨1, none, .store 4 (.t 4) (.t 71), none⟩,
  .op ⟨2, some 5, .mv (.c (.one (.int .i64 0))), none⟩])
 (.ret))))⟩
noncomputable def counter_look.s1 (x0 : Ptr) (x1 : Int) (H : Heap) (H1 : Heap) (r3 : (((Int × Int × Int × Unit) × Unit) × Heap)) (s4 : (Int × Unit)) (H5 : Heap) : Option (((Int × Unit) ⊕ ((Unit) ⊕ (Int × Unit))) × Heap) :=
 cond (decide (s4.1 < r3.1.1.2.1)) (
 (nand_Chip_Read x0 x1 s4.1 H5).bind fun (r6 : ((Bytes × Bytes × Int × Unit) × Heap)) =>
 cond (!decide (r6.1.2.2.1 = 0)) (
 (wr r6.2 H.length 0 [.int .i64 0, .int .i64 0, .int .i64 0, .bool false]).bind fun (H7 : Heap) =>
 some (Sum.inr (Sum.inr (r6.1.2.2.1, ())), H7)) (
 (page_Look r6.1.1 r6.1.2.1).bind fun (r8 : (Int × (Int × Int × Int × Int × Int × Unit) × Bytes × Unit)) =>
 let H9 : Heap := r6.2 ++ [Blk.cells [.int .i64 0, .int .u64 0, .int .i64 0, .int .i64 0, .int .i64 0] .exact]
 (wr H9 r6.2.length 0 [.int .i64 r8.2.1.1, .int .u64 r8.2.1.2.1, .int .i64 r8.2.1.2.2.1, .int .i64 r8.2.1.2.2.2.1, .int .i64 r8.2.1.2.2.2.2.1]).bind fun (H10 : Heap) =>
 (cond (!decide (r8.1 = 0)) (
 (wr H10 H1.length 1 [.int .i64 (IntKind.wrap .i64 (s4.1 + 1))]).bind fun (H11 : Heap) =>
 some ((()), H11)) (
 some ((()), H10)) : Option ((Unit) × Heap)).bind fun (p12 : (Unit) × Heap) =>
 (cond (decide (r8.1 = 1)) (
 (rdI .i64 p12.2 r6.2.length 0).bind fun (v13 : Int) =>
 cond (decide (v13 = 1)) (
 (rdI .u64 p12.2 r6.2.length 1).bind fun (v14 : Int) =>
 some (((decide (v14 ≤ 1073741824)), ()), p12.2)) (
 some ((false, ()), p12.2))) (
 some ((false, ()), p12.2)) : Option ((Bool × Unit) × Heap)).bind fun (p15 : (Bool × Unit) × Heap) =>
 cond p15.1.1 (
 (rdI .i64 p15.2 H1.length 0).bind fun (v16 : Int) =>
 (rdI .u64 p15.2 r6.2.length 1).bind fun (v17 : Int) =>
 (wr p15.2 H1.length 0 [.int .i64 (if (IntKind.wrap .i64 v17) > v16 then (IntKind.wrap .i64 v17) else v16)]).bind fun (H18 : Heap) =>
 (wr H18 H1.length 3 [.bool true]).bind fun (H19 : Heap) =>
 (rdI .i64 H19 H1.length 2).bind fun (v20 : Int) =>
 (rdI .i64 H19 r6.2.length 4).bind fun (v21 : Int) =>
 (wr H19 H1.length 2 [.int .i64 (if v21 > v20 then v21 else v20)]).bind fun (H22 : Heap) =>
 some (Sum.inl ((IntKind.wrap .i64 (s4.1 + 1)), ()), H22)) (
 some (Sum.inl ((IntKind.wrap .i64 (s4.1 + 1)), ()), p15.2)))) (
 some (Sum.inr (Sum.inl (())), H5))
noncomputable def counter_look (x0 : Ptr) (x1 : Int) (H : Heap) : Option (((Int × Int × Int × Bool × Unit) × Int × Unit) × Heap) :=
 let H1 : Heap := H ++ [Blk.cells [.int .i64 0, .int .i64 0, .int .i64 0, .bool false] .exact]
 let H2 : Heap := H1 ++ [Blk.cells [.int .i64 0, .int .i64 0, .int .i64 0, .bool false] .exact]
 (nand_Chip_Geometry x0 H2).bind fun (r3 : (((Int × Int × Int × Unit) × Unit) × Heap)) =>
 (loopW (counter_look.s1 x0 x1 H H1 r3) (0, ()) r3.2).bind fun (p23 : ((Unit) ⊕ (Int × Unit)) × Heap) =>
 Sum.elim (fun (y24 : (Unit)) =>
 Option.bind (α := (Int × Int × Int × Bool × Unit)) (rd p23.2 (.agg [.int .i64, .int .i64, .int .i64, .bool]) H1.length 0) fun (v25 : (Int × Int × Int × Bool × Unit)) =>
 (wr p23.2 H.length 0 [.int .i64 v25.1, .int .i64 v25.2.1, .int .i64 v25.2.2.1, .bool v25.2.2.2.1]).bind fun (H26 : Heap) =>
 Option.bind (α := (Int × Int × Int × Bool × Unit)) (rd H26 (.agg [.int .i64, .int .i64, .int .i64, .bool]) H.length 0) fun (v27 : (Int × Int × Int × Bool × Unit)) =>
 some ((v27, 0, ()), H26)) (fun (z28 : (Int × Unit)) =>
 Option.bind (α := (Int × Int × Int × Bool × Unit)) (rd p23.2 (.agg [.int .i64, .int .i64, .int .i64, .bool]) H.length 0) fun (v29 : (Int × Int × Int × Bool × Unit)) =>
 some ((v29, z28.1, ()), p23.2)) p23.1
noncomputable def counter_look.c : Callee := .full [.one .ptr, .one (.int .i64)] [.agg [.int .i64, .int .i64, .int .i64, .bool], .one (.int .i64)] (fun x H => counter_look x.1 x.2.1 H)
noncomputable def counter_look.calls : Nat → Option Callee
  | 0 => some nand_Chip_Geometry.c
  | 1 => some nand_Chip_Read.c
  | 2 => some page_Look.c
  | _ => none
theorem counter_look.eq : evFull counter_look.calls counter_look.af = (fun x H => counter_look x.1 x.2.1 H) := by kernel_rfl

/-! ### tinderbox/counter.Open -/
def counter_Open.af : AFun := ⟨[.one .ptr, .one (.int .i64), .one (.int .i64)], [.one .ptr, .one (.int .i64)], [.t 6, .t 7],
 .seq (.reg [.op ⟨0, some 6, .mv (.c (.one (.ptr none))), none⟩,
  .op ⟨1, some 7, .mv (.c (.one (.int .i64 0))), none⟩])
 (.seq (.reg [.op ⟨0, some 13, .mv (.t 0), none⟩,
  .op ⟨1, some 14, .call 0 [(.t 13)], none⟩,
  .op ⟨2, some 8, .new [.int .i64 0, .int .i64 0, .int .i64 0], none⟩,
  .op ⟨3, none, .store 3 (.t 8) (.t 14), none⟩])
 (.seq (.seq (.reg [.op ⟨0, some 15, .mv (.t 1), none⟩,
  .op ⟨1, some 16, .mv (.t 2), none⟩,
  .op ⟨2, some 17, .bin .eql (.t 15) (.t 16), none⟩,
  .op ⟨3, some 18, .mv (.t 17), none⟩,
  .op ⟨4, some 19, .mv (.t 1), some (18, false)⟩,
  .op ⟨5, some 20, .bin .lss (.t 19) (.c (.one (.int .i64 0))), some (18, false)⟩,
  .op ⟨6, some 21, .pick (.t 18) (.c (.one (.bool true))) (.t 20), none⟩,
  .op ⟨7, some 22, .mv (.t 21), none⟩,
  .op ⟨8, some 23, .mv (.t 2), some (22, false)⟩,
  .op ⟨9, some 24, .bin .lss (.t 23) (.c (.one (.int .i64 0))), some (22, false)⟩,
  .op ⟨10, some 25, .pick (.t 22) (.c (.one (.bool true))) (.t 24), none⟩,
  .op ⟨11, some 26, .mv (.t 25), none⟩,
  .op ⟨12, some 27, .mv (.t 1), some (26, false)⟩,
  .op ⟨13, some 28, .addr 0 (.t 8), some (26, false)⟩,
  .op ⟨14, some 29, .load (.one (.int .i64)) (.t 28), some (26, false)⟩,
  .op ⟨15, some 30, .bin .geq (.t 27) (.t 29), some (26, false)⟩,
  .op ⟨16, some 31, .pick (.t 26) (.c (.one (.bool true))) (.t 30), none⟩,
  .op ⟨17, some 32, .mv (.t 31), none⟩,
  .op ⟨18, some 33, .mv (.t 2), some (32, false)⟩,
  .op ⟨19, some 34, .addr 0 (.t 8), some (32, false)⟩,
  .op ⟨20, some 35, .load (.one (.int .i64)) (.t 34), some (32, false)⟩,
  .op ⟨21, some 36, .bin .geq (.t 33) (.t 35), some (32, false)⟩,
  .op ⟨22, some 37, .pick (.t 32) (.c (.one (.bool true))) (.t 36), none⟩])
 (.cond (.t 37) (.seq (.reg [.op ⟨0, some 6, .mv (.c (.one (.ptr none))), none⟩,
  .op ⟨1, some 7, .mv (.c (.one (.int .i64 1))), none⟩])
 (.ret)) (.skip)))
 (.seq (.reg [.op ⟨0, some 39, .mv (.t 0), none⟩,
  .op ⟨1, some 40, .mv (.t 1), none⟩,
  .op ⟨2, some 41, .call 1 [(.t 39), (.t 40)], none⟩,
  .op ⟨3, some 38, .mv (.t 41), none⟩,
  .op ⟨4, some 42, .ext (.t 38) 0, none⟩,
  .op ⟨5, some 43, .ext (.t 38) 1, none⟩,
  .op ⟨6, some 9, .new [.int .i64 0, .int .i64 0, .int .i64 0, .bool false], none⟩,
  .op ⟨7, none, .store 4 (.t 9) (.t 42), none⟩,
  .op ⟨8, some 10, .mv (.t 43), none⟩])
 (.seq (.seq (.reg [.op ⟨0, some 44, .mv (.t 10), none⟩,
  .op ⟨1, some 45, .bin .neq (.t 44) (.c (.one (.int .i64 0))), none⟩])
 (.cond (.t 45) (.seq (.reg [.op ⟨0, some 46, .mv (.t 10), none⟩,
  .op ⟨1, some 6, .mv (.c (.one (.ptr none))), none⟩,
  .op ⟨2, some 7, .mv (.t 46), none⟩])
 (.ret)) (.skip)))
 (.seq (.reg [.op ⟨0, some 48, .mv (.t 0), none⟩,
  .op ⟨1, some 49, .mv (.t 2), none⟩,
  .op ⟨2, some 50, .call 1 [(.t 48), (.t 49)], none⟩,
  .op ⟨3, some 47, .mv (.t 50), none⟩,
  .op ⟨4, some 51, .ext (.t 47) 0, none⟩,
  .op ⟨5, some 52, .ext (.t 47) 1, none⟩,
  .op ⟨6, some 11, .new [.int .i64 0, .int .i64 0, .int .i64 0, .bool false], none⟩,
  .op ⟨7, none, .store 4 (.t 11) (.t 51), none⟩,
  .op ⟨8, some 10, .mv (.t 52), none⟩])
 (.seq (.seq (.reg [.op ⟨0, some 53, .mv (.t 10), none⟩,
  .op ⟨1, some 54, .bin .neq (.t 53) (.c (.one (.int .i64 0))), none⟩])
 (.cond (.t 54) (.seq (.reg [.op ⟨0, some 55, .mv (.t 10), none⟩,
  .op ⟨1, some 6, .mv (.c (.one (.ptr none))), none⟩,
  .op ⟨2, some 7, .mv (.t 55), none⟩])
 (.ret)) (.skip)))
 (.seq (.reg [.op ⟨0, some 56, .mv (.t 0), none⟩,
  .op ⟨1, some 57, .mv (.t 1), none⟩,
  .op ⟨2, some 58, .mv (.t 2), none⟩,
  .op ⟨3, some 59, .build [.int .i64 0, .int .i64 0] [(0, 1, (.t 57)), (1, 1, (.t 58))], none⟩,
  .op ⟨4, some 60, .addr 2 (.t 9), none⟩,
  .op ⟨5, some 61, .load (.one (.int .i64)) (.t 60), none⟩,
  .op ⟨6, some 62, .addr 2 (.t 11), none⟩,
  .op ⟨7, some 63, .load (.one (.int .i64)) (.t 62), none⟩,
  .op ⟨8, some 64, .build [.int .i64 0, .int .i64 0] [(0, 1, (.t 61)), (1, 1, (.t 63))], none⟩,
  .op ⟨9, some 65, .build [.ptr none, .int .i64 0, .int .i64 0, .int .i64 0, .int .i64 0, .int .i64 0, .int .i64 0, .int .i64 0, .bool false] [(0, 1, (.t 56)), (1, 2, (.t 59)), (6, 2, (.t 64))], none⟩,
  .op ⟨10, some 66, .box (.t 65), none⟩,
  .op ⟨11, some 12, .mv (.t 66), none⟩])
 (.seq (.reg [.op ⟨0, some 67, .mv (.t 12), none⟩,
  .op ⟨1, some 68, .mv (.t 12), none⟩,
  .op ⟨2, some 69, .mv (.t 12), none⟩,
  .op ⟨3, some 70, .addr 1 (.t 9), none⟩,
  .op ⟨4, some 71, .load (.one (.int .i64)) (.t 70), none⟩,
  .op ⟨5, some 72, .addr 0 (.t 9), none⟩,
  .op ⟨6, some 73, .load (.one (.int .i64)) (.t 72), none⟩,
  .op ⟨7, some 74, .nilc (.t 67), none⟩,
  .op ⟨8, some 75, .addr 3 (.t 74), none⟩,
  .op ⟨9, none, .store 1 (.t 75) (.c (.one (.int .i64 0))), none⟩,
  .op ⟨10, some 76, .nilc (.t 68), none⟩,
  .op ⟨11, some 77, .addr 4 (.t 76), none⟩,
  .again ⟨4, some 71, .load (.one (.int .i64)) (.t 70), none⟩,
  .again ⟨6, some 73, .load (.one (.int .i64)) (.t 72), none⟩,
  .op ⟨12, none, .store 1 (.t 77) (.t 71), none⟩,
  .op ⟨13, some 78, .nilc (.t 69), none⟩,
  .op ⟨14, some 79, .addr 5 (.t 78), none⟩,
  .again ⟨6, some 73, .load (.one (.int .i64)) (.t 72), none⟩,
  .op ⟨15, none, .store 1 (.t 79) (.t 73), none⟩])
 (.seq (.seq (.scope [(.normal, [(93, .one .bool)])] (.reg [.op ⟨0, some 80, .addr 3 (.t 11), none⟩,
  .op ⟨1, some 81, .load (.one .bool) (.t 80), none⟩,
  .op ⟨2, some 82, .mv (.t 81), none⟩,
  .op ⟨3, some 83, .addr 3 (.t 9), some (82, true)⟩,
  .op ⟨4, some 84, .load (.one .bool) (.t 83), some (82, true)⟩,
  .op ⟨5, some 85, .un .not (.t 84), some (82, true)⟩,
  .op ⟨6, some 86, .mv (.t 85), some (82, true)⟩,
  .op ⟨7, some 87, .addr 0 (.t 11), some (86, false)⟩,
  .op ⟨8, some 88, .load (.one (.int .i64)) (.t 87), some (86, false)⟩,
  .op ⟨9, some 89, .addr 0 (.t 9), some (86, false)⟩,
  .op ⟨10, some 90, .load (.one (.int .i64)) (.t 89), some (86, false)⟩,
  .op ⟨11, some 91, .bin .gtr (.t 88) (.t 90), some (86, false)⟩,
  .op ⟨12, some 92, .pick (.t 86) (.c (.one (.bool true))) (.t 91), some (82, true)⟩,
  .op ⟨13, some 93, .pick (.t 82) (.t 92) (.c (.one (.bool false))), none⟩]))
 (.cond (.t 93) (.reg [.op ⟨0, some 94, .mv (.t 12), none⟩,
  .op ⟨1, some 95, .mv (.t 12), none⟩,
  .op ⟨2, some 96, .mv (.t 12), none⟩,
  .op ⟨3, some 97, .addr 1 (.t 11), none⟩,
  .op ⟨4, some 98, .load (.one (.int .i64)) (.t 97), none⟩,
  .op ⟨5, some 99, .addr 0 (.t 11), none⟩,
  .op ⟨6, some 100, .load (.one (.int .i64)) (.t 99), none⟩,
  .op ⟨7, some 101, .nilc (.t 94), none⟩,
  .op ⟨8, some 102, .addr 3 (.t 101), none⟩,
  .op ⟨9, none, .store 1 (.t 102) (.c (.one (.int .i64 1))), none⟩,
  .op ⟨10, some 103, .nilc (.t 95), none⟩,
  .op ⟨11, some 104, .addr 4 (.t 103), none⟩,
  .again ⟨4, some 98, .load (.one (.int .i64)) (.t 97), none⟩,
  .again ⟨6, some 100, .load (.one (.int .i64)) (.t 99), none⟩,
  .op ⟨12, none, .store 1 (.t 104) (.t 98), none⟩,
  .op ⟨13, some 105, .nilc (.t 96), none⟩,
  .op ⟨14, some 106, .addr 5 (.t 105), none⟩,
  .again ⟨6, some 100, .load (.one (.int .i64)) (.t 99), none⟩,
  .op ⟨15, none, .store 1 (.t 106) (.t 100), none⟩]) (.skip)))
 (.seq (.reg [.op ⟨0, some 107, .mv (.t 12), none⟩,
  .op ⟨1, some 6, .mv (.t 107), none⟩,
  .op ⟨2, some 7, .mv (.c (.one (.int .i64 0))), none⟩])
 (.ret)))))))))))⟩
noncomputable def counter_Open (x0 : Ptr) (x1 : Int) (x2 : Int) (H : Heap) : Option ((Ptr × Int × Unit) × Heap) :=
 (nand_Chip_Geometry x0 H).bind fun (r1 : (((Int × Int × Int × Unit) × Unit) × Heap)) =>
 let H2 : Heap := r1.2 ++ [Blk.cells [.int .i64 0, .int .i64 0, .int .i64 0] .exact]
 (wr H2 r1.2.length 0 [.int .i64 r1.1.1.1, .int .i64 r1.1.1.2.1, .int .i64 r1.1.1.2.2.1]).bind fun (H3 : Heap) =>
 cond (decide (x1 = x2)) (
 some ((none, 1, ()), H3)) (
 cond (decide (x1 < 0)) (
 some ((none, 1, ()), H3)) (
 cond (decide (x2 < 0)) (
 some ((none, 1, ()), H3)) (
 (rdI .i64 H3 r1.2.length 0).bind fun (v4 : Int) =>
 cond (decide (v4 ≤ x1)) (
 some ((none, 1, ()), H3)) (
 (rdI .i64 H3 r1.2.length 0).bind fun (v5 : Int) =>
 cond (decide (v5 ≤ x2)) (
 some ((none, 1, ()), H3)) (
 (counter_look x0 x1 H3).bind fun (r6 : (((Int × Int × Int × Bool × Unit) × Int × Unit) × Heap)) =>
 let H7 : Heap := r6.2 ++ [Blk.cells [.int .i64 0, .int .i64 0, .int .i64 0, .bool false] .exact]
 (wr H7 r6.2.length 0 [.int .i64 r6.1.1.1, .int .i64 r6.1.1.2.1, .int .i64 r6.1.1.2.2.1, .bool r6.1.1.2.2.2.1]).bind fun (H8 : Heap) =>
 cond (!decide (r6.1.2.1 = 0)) (
 some ((none, r6.1.2.1, ()), H8)) (
 (counter_look x0 x2 H8).bind fun (r9 : (((Int × Int × Int × Bool × Unit) × Int × Unit) × Heap)) =>
 let H10 : Heap := r9.2 ++ [Blk.cells [.int .i64 0, .int .i64 0, .int .i64 0, .bool false] .exact]
 (wr H10 r9.2.length 0 [.int .i64 r9.1.1.1, .int .i64 r9.1.1.2.1, .int .i64 r9.1.1.2.2.1, .bool r9.1.1.2.2.2.1]).bind fun (H11 : Heap) =>
 cond (!decide (r9.1.2.1 = 0)) (
 some ((none, r9.1.2.1, ()), H11)) (
 (rdI .i64 H11 r6.2.length 2).bind fun (v12 : Int) =>
 (rdI .i64 H11 r9.2.length 2).bind fun (v13 : Int) =>
 let H14 : Heap := H11 ++ [Blk.cells [.ptr x0, .int .i64 x1, .int .i64 x2, .int .i64 0, .int .i64 0, .int .i64 0, .int .i64 v12, .int .i64 v13, .bool false] .exact]
 (rdI .i64 H14 r6.2.length 1).bind fun (v15 : Int) =>
 (rdI .i64 H14 r6.2.length 0).bind fun (v16 : Int) =>
 (wr H14 H11.length 3 [.int .i64 0]).bind fun (H17 : Heap) =>
 (rdI .i64 H17 r6.2.length 1).bind fun (v18 : Int) =>
 if V.w (.one (.int .i64 v18)) = V.w (.one (.int .i64 v15)) then
 (rdI .i64 H17 r6.2.length 0).bind fun (v19 : Int) =>
 if V.w (.one (.int .i64 v19)) = V.w (.one (.int .i64 v16)) then
 (wr H17 H11.length 4 [.int .i64 v15]).bind fun (H20 : Heap) =>
 (rdI .i64 H20 r6.2.length 0).bind fun (v21 : Int) =>
 if V.w (.one (.int .i64 v21)) = V.w (.one (.int .i64 v16)) then
 (wr H20 H11.length 5 [.int .i64 v16]).bind fun (H22 : Heap) =>
 ((rdB H22 r9.2.length 3).bind fun (v23 : Bool) =>
 cond v23 (
 (rdB H22 r6.2.length 3).bind fun (v24 : Bool) =>
 cond (!v24) (
 some ((true, ()), H22)) (
 (rdI .i64 H22 r9.2.length 0).bind fun (v25 : Int) =>
 (rdI .i64 H22 r6.2.length 0).bind fun (v26 : Int) =>
 some (((decide (v26 < v25)), ()), H22))) (
 some ((false, ()), H22)) : Option ((Bool × Unit) × Heap)).bind fun (p27 : (Bool × Unit) × Heap) =>
 cond p27.1.1 (
 (rdI .i64 p27.2 r9.2.length 1).bind fun (v28 : Int) =>
 (rdI .i64 p27.2 r9.2.length 0).bind fun (v29 : Int) =>
 (wr p27.2 H11.length 3 [.int .i64 1]).bind fun (H30 : Heap) =>
 (rdI .i64 H30 r9.2.length 1).bind fun (v31 : Int) =>
 if V.w (.one (.int .i64 v31)) = V.w (.one (.int .i64 v28)) then
 (rdI .i64 H30 r9.2.length 0).bind fun (v32 : Int) =>
 if V.w (.one (.int .i64 v32)) = V.w (.one (.int .i64 v29)) then
 (wr H30 H11.length 4 [.int .i64 v28]).bind fun (H33 : Heap) =>
 (rdI .i64 H33 r9.2.length 0).bind fun (v34 : Int) =>
 if V.w (.one (.int .i64 v34)) = V.w (.one (.int .i64 v29)) then
 (wr H33 H11.length 5 [.int .i64 v29]).bind fun (H35 : Heap) =>
 some ((some (H11.length, 0), 0, ()), H35)
 else none
 else none
 else none) (
 some ((some (H11.length, 0), 0, ()), p27.2))
 else none
 else none
 else none)))))))
noncomputable def counter_Open.c : Callee := .full [.one .ptr, .one (.int .i64), .one (.int .i64)] [.one .ptr, .one (.int .i64)] (fun x H => counter_Open x.1 x.2.1 x.2.2.1 H)
noncomputable def counter_Open.calls : Nat → Option Callee
  | 0 => some nand_Chip_Geometry.c
  | 1 => some counter_look.c
  | _ => none
theorem counter_Open.eq : evFull counter_Open.calls counter_Open.af = (fun x H => counter_Open x.1 x.2.1 x.2.2.1 H) := by kernel_rfl

/-! ### (*tinderbox/counter.Counter).Value -/
def counter_Counter_Value.af : AFun := ⟨[.one .ptr], [.one (.int .i64)], [.t 2],
 .seq (.reg [.op ⟨0, some 2, .mv (.c (.one (.int .i64 0))), none⟩])
 (.seq (.seq (.reg [.op ⟨0, some 3, .mv (.t 0), none⟩,
  .op ⟨1, some 4, .isnil false (.t 3), none⟩])
 (.cond (.t 4) (.seq (.reg [.op ⟨0, some 2, .mv (.c (.one (.int .i64 0))), none⟩])
 (.ret)) (.skip)))
 (.seq (.reg [.op ⟨0, some 5, .mv (.t 0), none⟩,
  .op ⟨1, some 6, .nilc (.t 5), none⟩,
  .op ⟨2, some 7, .addr 5 (.t 6), none⟩,
  .op ⟨3, some 8, .load (.one (.int .i64)) (.t 7), none⟩,
  .op ⟨4, some 2, .mv (.t 8), none⟩])
 (.ret)))⟩
noncomputable def counter_Counter_Value (x0 : Ptr) (H : Heap) : Option ((Int × Unit) × Heap) :=
 cond (Option.isNone x0) (
 some ((0, ()), H)) (
 (x0).bind fun (a1 : Nat × Nat) =>
 (rdI .i64 H a1.1 (a1.2 + 5)).bind fun (v2 : Int) =>
 some ((v2, ()), H))
noncomputable def counter_Counter_Value.c : Callee := .full [.one .ptr] [.one (.int .i64)] (fun x H => counter_Counter_Value x.1 H)
noncomputable def counter_Counter_Value.calls : Nat → Option Callee
  | _ => none
theorem counter_Counter_Value.eq : evFull counter_Counter_Value.calls counter_Counter_Value.af = (fun x H => counter_Counter_Value x.1 H) := by kernel_rfl

/-! ### (*tinderbox/counter.Counter).write -/
def counter_Counter_write.af : AFun := ⟨[.one .ptr, .one (.int .i64), .one (.int .i64), .one (.int .i64)], [.one (.int .i64)], [.t 8],
 .seq (.reg [.op ⟨0, some 8, .mv (.c (.one (.int .i64 0))), none⟩])
 (.seq (.reg [.op ⟨0, some 13, .mv (.t 3), none⟩,
  .op ⟨1, some 14, .conv .u64 (.t 13), none⟩,
  .op ⟨2, some 15, .mv (.t 0), none⟩,
  .op ⟨3, some 16, .mv (.t 1), none⟩,
  .op ⟨4, some 17, .nilc (.t 15), none⟩,
  .op ⟨5, some 18, .addr 6 (.t 17), none⟩,
  .op ⟨6, some 19, .idxarr 1 2 (.t 18) (.t 16), none⟩,
  .op ⟨7, some 20, .load (.one (.int .i64)) (.t 19), none⟩,
  .op ⟨8, some 21, .build [.int .i64 0, .int .u64 0, .int .i64 0, .int .i64 0, .int .i64 0] [(0, 1, (.c (.one (.int .i64 1)))), (1, 1, (.t 14)), (3, 1, (.c (.one (.int .i64 1)))), (4, 1, (.t 20))], none⟩,
  .op ⟨9, some 22, .mv (.t 0), none⟩,
  .op ⟨10, some 23, .nilc (.t 22), none⟩,
  .op ⟨11, some 24, .addr 0 (.t 23), none⟩,
  .op ⟨12, some 25, .load (.one .ptr) (.t 24), none⟩,
  .op ⟨13, some 26, .call 0 [(.t 25)], none⟩,
  .op ⟨14, some 27, .field (.one (.int .i64)) 2 (.t 26), none⟩,
  .op ⟨15, some 28, .call 1 [(.t 21), (.c (.one (.str []))), (.t 27)], none⟩,
  .op ⟨16, some 12, .mv (.t 28), none⟩,
  .op ⟨17, some 29, .ext (.t 12) 0, none⟩,
  .op ⟨18, some 30, .ext (.t 12) 1, none⟩,
  .op ⟨19, some 31, .ext (.t 12) 2, none⟩,
  .op ⟨20, some 9, .mv (.t 29), none⟩,
  .op ⟨21, some 10, .mv (.t 30), none⟩,
  .op ⟨22, some 11, .mv (.t 31), none⟩,
  .again ⟨7, some 20, .load (.one (.int .i64)) (.t 19), none⟩])
 (.seq (.seq (.reg [.op ⟨0, some 32, .mv (.t 11), none⟩,
  .op ⟨1, some 33, .bin .neq (.t 32) (.c (.one (.int .i64 0))), none⟩])
 (.cond (.t 33) (.seq (.reg [.op ⟨0, some 34, .mv (.t 11), none⟩,
  .op ⟨1, some 8, .mv (.t 34), none⟩])
 (.ret)) (.skip)))
 (.seq (.reg [.op ⟨0, some 35, .mv (.t 0), none⟩,
  .op ⟨1, some 36, .nilc (.t 35), none⟩,
  .op ⟨2, some 37, .addr 0 (.t 36), none⟩,
  .op ⟨3, some 38, .load (.one .ptr) (.t 37), none⟩,
  .op ⟨4, some 39, .mv (.t 0), none⟩,
  .op ⟨5, some 40, .mv (.t 1), none⟩,
  .op ⟨6, some 41, .nilc (.t 39), none⟩,
  .op ⟨7, some 42, .addr 1 (.t 41), none⟩,
  .op ⟨8, some 43, .idxarr 1 2 (.t 42) (.t 40), none⟩,
  .op ⟨9, some 44, .load (.one (.int .i64)) (.t 43), none⟩,
  .op ⟨10, some 45, .mv (.t 2), none⟩,
  .op ⟨11, some 46, .mv (.t 9), none⟩,
  .op ⟨12, some 47, .mv (.t 10), none⟩,
  .op ⟨13, some 48, .call 2 [(.t 38), (.t 44), (.t 45), (.t 46), (.t 47)], none⟩,
  .op ⟨14, some 8, .mv (.t 48), none⟩])
 (.ret))))⟩
noncomputable def counter_Counter_write (x0 : Ptr) (x1 : Int) (x2 : Int) (x3 : Int) (H : Heap) : Option ((Int × Unit) × Heap) :=
 (x0).bind fun (a1 : Nat × Nat) =>
 (arrAt 1 2 (a1.1, a1.2 + 6) x1).bind fun (a2 : (Nat × Nat)) =>
 (rdI .i64 H a2.1 a2.2).bind fun (v3 : Int) =>
 (x0).bind fun (a4 : Nat × Nat) =>
 (rdP H a4.1 a4.2).bind fun (v5 : Ptr) =>
 (nand_Chip_Geometry v5 H).bind fun (r6 : (((Int × Int × Int × Unit) × Unit) × Heap)) =>
 (page_Frame (1, (IntKind.wrap .u64 x3), 0, 1, v3, ()) [] r6.1.1.2.2.1).bind fun (r7 : (Bytes × Bytes × Int × Unit)) =>
 (rdI .i64 r6.2 a2.1 a2.2).bind fun (v8 : Int) =>
 if V.w (.one (.int .i64 v8)) = V.w (.one (.int .i64 v3)) then
 cond (!decide (r7.2.2.1 = 0)) (
 some ((r7.2.2.1, ()), r6.2)) (
 (x0).bind fun (a9 : Nat × Nat) =>
 (rdP r6.2 a9.1 a9.2).bind fun (v10 : Ptr) =>
 (x0).bind fun (a11 : Nat × Nat) =>
 (arrAt 1 2 (a11.1, a11.2 + 1) x1).bind fun (a12 : (Nat × Nat)) =>
 (rdI .i64 r6.2 a12.1 a12.2).bind fun (v13 : Int) =>
 (nand_Chip_Program v10 v13 x2 r7.1 r7.2.1 r6.2).bind fun (r14 : ((Int × Unit) × Heap)) =>
 some ((r14.1.1, ()), r14.2))
 else none
noncomputable def counter_Counter_write.c : Callee := .full [.one .ptr, .one (.int .i64), .one (.int .i64), .one (.int .i64)] [.one (.int .i64)] (fun x H => counter_Counter_write x.1 x.2.1 x.2.2.1 x.2.2.2.1 H)
noncomputable def counter_Counter_write.calls : Nat → Option Callee
  | 0 => some nand_Chip_Geometry.c
  | 1 => some page_Frame.c
  | 2 => some nand_Chip_Program.c
  | _ => none
theorem counter_Counter_write.eq : evFull counter_Counter_write.calls counter_Counter_write.af = (fun x H => counter_Counter_write x.1 x.2.1 x.2.2.1 x.2.2.2.1 H) := by kernel_rfl

/-! ### (*tinderbox/counter.Counter).over -/
def counter_Counter_over.af : AFun := ⟨[.one .ptr, .one (.int .i64)], [.one (.int .i64)], [.t 4],
 .seq (.reg [.op ⟨0, some 4, .mv (.c (.one (.int .i64 0))), none⟩])
 (.seq (.reg [.op ⟨0, some 8, .mv (.t 0), none⟩,
  .op ⟨1, some 9, .nilc (.t 8), none⟩,
  .op ⟨2, some 10, .addr 3 (.t 9), none⟩,
  .op ⟨3, some 11, .load (.one (.int .i64)) (.t 10), none⟩,
  .op ⟨4, some 12, .bin .sub (.c (.one (.int .i64 1))) (.t 11), none⟩,
  .op ⟨5, some 5, .mv (.t 12), none⟩])
 (.seq (.seq (.reg [.op ⟨0, some 13, .mv (.t 0), none⟩,
  .op ⟨1, some 14, .nilc (.t 13), none⟩,
  .op ⟨2, some 15, .addr 0 (.t 14), none⟩,
  .op ⟨3, some 16, .load (.one .ptr) (.t 15), none⟩,
  .op ⟨4, some 17, .mv (.t 0), none⟩,
  .op ⟨5, some 18, .mv (.t 5), none⟩,
  .op ⟨6, some 19, .nilc (.t 17), none⟩,
  .op ⟨7, some 20, .addr 1 (.t 19), none⟩,
  .op ⟨8, some 21, .idxarr 1 2 (.t 20) (.t 18), none⟩,
  .op ⟨9, some 22, .load (.one (.int .i64)) (.t 21), none⟩,
  .op ⟨10, some 23, .call 0 [(.t 16), (.t 22)], none⟩,
  .op ⟨11, some 6, .mv (.t 23), none⟩])
 (.seq (.reg [.op ⟨0, some 24, .mv (.t 6), none⟩,
  .op ⟨1, some 25, .bin .neq (.t 24) (.c (.one (.int .i64 0))), none⟩])
 (.cond (.t 25) (.seq (.reg [.op ⟨0, some 26, .mv (.t 6), none⟩,
  .op ⟨1, some 4, .mv (.t 26), none⟩])
 (.ret)) (.skip))))
 (.seq (.reg [.op ⟨0, some 27, .mv (.t 0), none⟩,
  .op ⟨1, some 28, .mv (.t 5), none⟩,
  .op ⟨2, some 29, .nilc (.t 27), none⟩,
  .op ⟨3, some 30, .addr 6 (.t 29), none⟩,
  .op ⟨4, some 31, .idxarr 1 2 (.t 30) (.t 28), none⟩,
  .op ⟨5, some 32, .load (.one (.int .i64)) (.t 31), none⟩,
  .op ⟨6, some 33, .bin .add (.t 32) (.c (.one (.int .i64 1))), none⟩,
  .op ⟨7, some 34, .nilc (.t 27), none⟩,
  .op ⟨8, some 35, .addr 6 (.t 34), none⟩,
  .op ⟨9, some 36, .idxarr 1 2 (.t 35) (.t 28), none⟩,
  .op ⟨10, none, .store 1 (.t 36) (.t 33), none⟩])
 (.seq (.seq (.reg [.op ⟨0, some 37, .mv (.t 0), none⟩,
  .op ⟨1, some 38, .mv (.t 5), none⟩,
  .op ⟨2, some 39, .mv (.t 1), none⟩,
  .op ⟨3, some 40, .call 1 [(.t 37), (.t 38), (.c (.one (.int .i64 0))), (.t 39)], none⟩,
  .op ⟨4, some 7, .mv (.t 40), none⟩])
 (.seq (.reg [.op ⟨0, some 41, .mv (.t 7), none⟩,
  .op ⟨1, some 42, .bin .neq (.t 41) (.c (.one (.int .i64 0))), none⟩])
 (.cond (.t 42) (.seq (.reg [.op ⟨0, some 43, .mv (.t 7), none⟩,
  .op ⟨1, some 4, .mv (.t 43), none⟩])
 (.ret)) (.skip))))
 (.seq (.reg [.op ⟨0, some 44, .mv (.t 0), none⟩,
  .op ⟨1, some 45, .mv (.t 0), none⟩,
  .op ⟨2, some 46, .mv (.t 0), none⟩,
  .op ⟨3, some 47, .mv (.t 5), none⟩,
  .op ⟨4, some 48, .mv (.t 1), none⟩,
  .op ⟨5, some 49, .nilc (.t 44), none⟩,
  .op ⟨6, some 50, .addr 3 (.t 49), none⟩,
  .op ⟨7, none, .store 1 (.t 50) (.t 47), none⟩,
  .op ⟨8, some 51, .nilc (.t 45), none⟩,
  .op ⟨9, some 52, .addr 4 (.t 51), none⟩,
  .op ⟨10, none, .store 1 (.t 52) (.c (.one (.int .i64 1))), none⟩,
  .op ⟨11, some 53, .nilc (.t 46), none⟩,
  .op ⟨12, some 54, .addr 5 (.t 53), none⟩,
  .op ⟨13, none, .store 1 (.t 54) (.t 48), none⟩])
 (.seq (.reg [.op ⟨0, some 4, .mv (.c (.one (.int .i64 0))), none⟩])
 (.ret)))))))⟩
noncomputable def counter_Counter_over (x0 : Ptr) (x1 : Int) (H : Heap) : Option ((Int × Unit) × Heap) :=
 (x0).bind fun (a1 : Nat × Nat) =>
 (rdI .i64 H a1.1 (a1.2 + 3)).bind fun (v2 : Int) =>
 (x0).bind fun (a3 : Nat × Nat) =>
 (rdP H a3.1 a3.2).bind fun (v4 : Ptr) =>
 (x0).bind fun (a5 : Nat × Nat) =>
 (arrAt 1 2 (a5.1, a5.2 + 1) (IntKind.wrap .i64 (1 - v2))).bind fun (a6 : (Nat × Nat)) =>
 (rdI .i64 H a6.1 a6.2).bind fun (v7 : Int) =>
 (nand_Chip_Erase v4 v7 H).bind fun (r8 : ((Int × Unit) × Heap)) =>
 cond (!decide (r8.1.1 = 0)) (
 some ((r8.1.1, ()), r8.2)) (
 (x0).bind fun (a9 : Nat × Nat) =>
 (arrAt 1 2 (a9.1, a9.2 + 6) (IntKind.wrap .i64 (1 - v2))).bind fun (a10 : (Nat × Nat)) =>
 (rdI .i64 r8.2 a10.1 a10.2).bind fun (v11 : Int) =>
 (x0).bind fun (a12 : Nat × Nat) =>
 (arrAt 1 2 (a12.1, a12.2 + 6) (IntKind.wrap .i64 (1 - v2))).bind fun (a13 : (Nat × Nat)) =>
 (wr r8.2 a13.1 a13.2 [.int .i64 (IntKind.wrap .i64 (v11 + 1))]).bind fun (H14 : Heap) =>
 (counter_Counter_write x0 (IntKind.wrap .i64 (1 - v2)) 0 x1 H14).bind fun (r15 : ((Int × Unit) × Heap)) =>
 cond (!decide (r15.1.1 = 0)) (
 some ((r15.1.1, ()), r15.2)) (
 (x0).bind fun (a16 : Nat × Nat) =>
 (wr r15.2 a16.1 (a16.2 + 3) [.int .i64 (IntKind.wrap .i64 (1 - v2))]).bind fun (H17 : Heap) =>
 (x0).bind fun (a18 : Nat × Nat) =>
 (wr H17 a18.1 (a18.2 + 4) [.int .i64 1]).bind fun (H19 : Heap) =>
 (x0).bind fun (a20 : Nat × Nat) =>
 (wr H19 a20.1 (a20.2 + 5) [.int .i64 x1]).bind fun (H21 : Heap) =>
 some ((0, ()), H21)))
noncomputable def counter_Counter_over.c : Callee := .full [.one .ptr, .one (.int .i64)] [.one (.int .i64)] (fun x H => counter_Counter_over x.1 x.2.1 H)
noncomputable def counter_Counter_over.calls : Nat → Option Callee
  | 0 => some nand_Chip_Erase.c
  | 1 => some counter_Counter_write.c
  | _ => none
theorem counter_Counter_over.eq : evFull counter_Counter_over.calls counter_Counter_over.af = (fun x H => counter_Counter_over x.1 x.2.1 H) := by kernel_rfl

/-! ### (*tinderbox/counter.Counter).raise -/
def counter_Counter_raise.af : AFun := ⟨[.one .ptr, .one (.int .i64)], [.one (.int .i64)], [.t 4],
 .seq (.reg [.op ⟨0, some 4, .mv (.c (.one (.int .i64 0))), none⟩])
 (.seq (.scope [(.normal, []), (.ret, [(4, .one (.int .i64))])] (.seq (.scope [(.normal, [(24, .one .bool)])] (.reg [.op ⟨0, some 7, .mv (.t 0), none⟩,
  .op ⟨1, some 8, .nilc (.t 7), none⟩,
  .op ⟨2, some 9, .addr 4 (.t 8), none⟩,
  .op ⟨3, some 10, .load (.one (.int .i64)) (.t 9), none⟩,
  .op ⟨4, some 11, .mv (.t 0), none⟩,
  .op ⟨5, some 12, .nilc (.t 11), none⟩,
  .op ⟨6, some 13, .addr 0 (.t 12), none⟩,
  .op ⟨7, some 14, .load (.one .ptr) (.t 13), none⟩,
  .op ⟨8, some 15, .call 0 [(.t 14)], none⟩,
  .op ⟨9, some 16, .field (.one (.int .i64)) 1 (.t 15), none⟩,
  .op ⟨10, some 17, .bin .lss (.t 10) (.t 16), none⟩,
  .op ⟨11, some 18, .mv (.t 17), none⟩,
  .op ⟨12, some 19, .mv (.t 0), some (18, true)⟩,
  .op ⟨13, some 20, .nilc (.t 19), some (18, true)⟩,
  .op ⟨14, some 21, .addr 5 (.t 20), some (18, true)⟩,
  .op ⟨15, some 22, .load (.one (.int .i64)) (.t 21), some (18, true)⟩,
  .op ⟨16, some 23, .bin .gtr (.t 22) (.c (.one (.int .i64 0))), some (18, true)⟩,
  .op ⟨17, some 24, .pick (.t 18) (.t 23) (.c (.one (.bool false))), none⟩,
  .again ⟨3, some 10, .load (.one (.int .i64)) (.t 9), none⟩]))
 (.cond (.t 24) (.seq (.reg [.op ⟨0, some 25, .mv (.t 0), none⟩,
  .op ⟨1, some 26, .nilc (.t 25), none⟩,
  .op ⟨2, some 27, .addr 4 (.t 26), none⟩,
  .op ⟨3, some 28, .load (.one (.int .i64)) (.t 27), none⟩,
  .op ⟨4, some 5, .mv (.t 28), none⟩])
 (.seq (.reg [.op ⟨0, some 29, .mv (.t 0), none⟩,
  .op ⟨1, some 30, .nilc (.t 29), none⟩,
  .op ⟨2, some 31, .addr 4 (.t 30), none⟩,
  .op ⟨3, some 32, .load (.one (.int .i64)) (.t 31), none⟩,
  .op ⟨4, some 33, .bin .add (.t 32) (.c (.one (.int .i64 1))), none⟩,
  .op ⟨5, some 34, .nilc (.t 29), none⟩,
  .op ⟨6, some 35, .addr 4 (.t 34), none⟩,
  .op ⟨7, none, .store 1 (.t 35) (.t 33), none⟩])
 (.seq (.reg [.op ⟨0, some 36, .mv (.t 0), none⟩,
  .op ⟨1, some 37, .mv (.t 0), none⟩,
  .op ⟨2, some 38, .nilc (.t 37), none⟩,
  .op ⟨3, some 39, .addr 3 (.t 38), none⟩,
  .op ⟨4, some 40, .load (.one (.int .i64)) (.t 39), none⟩,
  .op ⟨5, some 41, .mv (.t 5), none⟩,
  .op ⟨6, some 42, .mv (.t 1), none⟩,
  .op ⟨7, some 43, .call 1 [(.t 36), (.t 40), (.t 41), (.t 42)], none⟩,
  .op ⟨8, some 6, .mv (.t 43), none⟩])
 (.seq (.reg [.op ⟨0, some 44, .mv (.t 6), none⟩])
 (.block 0 (.seq (.reg [.op ⟨0, some 47, .bin .eql (.t 44) (.c (.one (.int .i64 0))), none⟩,
  .op ⟨1, some 46, .mv (.t 47), none⟩])
 (.cond (.t 46) (.seq (.reg [.op ⟨0, some 48, .mv (.t 0), none⟩,
  .op ⟨1, some 49, .mv (.t 1), none⟩,
  .op ⟨2, some 50, .nilc (.t 48), none⟩,
  .op ⟨3, some 51, .addr 5 (.t 50), none⟩,
  .op ⟨4, none, .store 1 (.t 51) (.t 49), none⟩])
 (.seq (.reg [.op ⟨0, some 4, .mv (.c (.one (.int .i64 0))), none⟩])
 (.ret))) (.seq (.seq (.reg [.op ⟨0, some 53, .bin .eql (.t 44) (.c (.one (.int .i64 53))), none⟩,
  .op ⟨1, some 52, .mv (.t 53), none⟩])
 (.cond (.t 52) (.skip) (.reg [.op ⟨0, some 54, .bin .eql (.t 44) (.c (.one (.int .i64 52))), none⟩,
  .op ⟨1, some 52, .mv (.t 54), none⟩])))
 (.cond (.t 52) (.skip) (.seq (.reg [.op ⟨0, some 45, .mv (.t 6), none⟩,
  .op ⟨1, some 4, .mv (.t 45), none⟩])
 (.ret))))))))))) (.skip))))
 (.seq (.reg [.op ⟨0, some 55, .mv (.t 0), none⟩,
  .op ⟨1, some 56, .mv (.t 1), none⟩,
  .op ⟨2, some 57, .call 2 [(.t 55), (.t 56)], none⟩,
  .op ⟨3, some 4, .mv (.t 57), none⟩])
 (.ret)))⟩
noncomputable def counter_Counter_raise (x0 : Ptr) (x1 : Int) (H : Heap) : Option ((Int × Unit) × Heap) :=
 (((x0).bind fun (a1 : Nat × Nat) =>
 (rdI .i64 H a1.1 (a1.2 + 4)).bind fun (v2 : Int) =>
 (x0).bind fun (a3 : Nat × Nat) =>
 (rdP H a3.1 a3.2).bind fun (v4 : Ptr) =>
 (nand_Chip_Geometry v4 H).bind fun (r5 : (((Int × Int × Int × Unit) × Unit) × Heap)) =>
 cond (decide (v2 < r5.1.1.2.1)) (
 (x0).bind fun (a6 : Nat × Nat) =>
 (rdI .i64 r5.2 a6.1 (a6.2 + 5)).bind fun (v7 : Int) =>
 (rdI .i64 r5.2 a1.1 (a1.2 + 4)).bind fun (v8 : Int) =>
 if V.w (.one (.int .i64 v8)) = V.w (.one (.int .i64 v2)) then
 some (((decide (0 < v7)), ()), r5.2)
 else none) (
 (rdI .i64 r5.2 a1.1 (a1.2 + 4)).bind fun (v9 : Int) =>
 if V.w (.one (.int .i64 v9)) = V.w (.one (.int .i64 v2)) then
 some ((false, ()), r5.2)
 else none) : Option ((Bool × Unit) × Heap)).bind fun (p10 : (Bool × Unit) × Heap) =>
 cond p10.1.1 (
 (x0).bind fun (a11 : Nat × Nat) =>
 (rdI .i64 p10.2 a11.1 (a11.2 + 4)).bind fun (v12 : Int) =>
 (x0).bind fun (a13 : Nat × Nat) =>
 (rdI .i64 p10.2 a13.1 (a13.2 + 4)).bind fun (v14 : Int) =>
 (x0).bind fun (a15 : Nat × Nat) =>
 (wr p10.2 a15.1 (a15.2 + 4) [.int .i64 (IntKind.wrap .i64 (v14 + 1))]).bind fun (H16 : Heap) =>
 (x0).bind fun (a17 : Nat × Nat) =>
 (rdI .i64 H16 a17.1 (a17.2 + 3)).bind fun (v18 : Int) =>
 (counter_Counter_write x0 v18 v12 x1 H16).bind fun (r19 : ((Int × Unit) × Heap)) =>
 cond (decide (r19.1.1 = 0)) (
 (x0).bind fun (a20 : Nat × Nat) =>
 (wr r19.2 a20.1 (a20.2 + 5) [.int .i64 x1]).bind fun (H21 : Heap) =>
 some (Sum.inr (0, ()), H21)) (
 cond (decide (r19.1.1 = 53)) (
 cond (decide (r19.1.1 = 53)) (
 some (Sum.inl (()), r19.2)) (
 some (Sum.inr (r19.1.1, ()), r19.2))) (
 cond (decide (r19.1.1 = 52)) (
 some (Sum.inl (()), r19.2)) (
 some (Sum.inr (r19.1.1, ()), r19.2))))) (
 some (Sum.inl (()), p10.2)) : Option (((Unit) ⊕ (Int × Unit)) × Heap)).bind fun (p22 : ((Unit) ⊕ (Int × Unit)) × Heap) =>
 Sum.elim (fun (y23 : (Unit)) =>
 (counter_Counter_over x0 x1 p22.2).bind fun (r24 : ((Int × Unit) × Heap)) =>
 some ((r24.1.1, ()), r24.2)) (fun (z25 : (Int × Unit)) =>
 some ((z25.1, ()), p22.2)) p22.1
noncomputable def counter_Counter_raise.c : Callee := .full [.one .ptr, .one (.int .i64)] [.one (.int .i64)] (fun x H => counter_Counter_raise x.1 x.2.1 H)
noncomputable def counter_Counter_raise.calls : Nat → Option Callee
  | 0 => some nand_Chip_Geometry.c
  | 1 => some counter_Counter_write.c
  | 2 => some counter_Counter_over.c
  | _ => none
theorem counter_Counter_raise.eq : evFull counter_Counter_raise.calls counter_Counter_raise.af = (fun x H => counter_Counter_raise x.1 x.2.1 H) := by kernel_rfl

/-! ### (*tinderbox/counter.Counter).Raise -/
def counter_Counter_Raise.af : AFun := ⟨[.one .ptr, .one (.int .i64)], [.one (.int .i64)], [.t 4],
 .seq (.reg [.op ⟨0, some 4, .mv (.c (.one (.int .i64 0))), none⟩])
 (.seq (.block 0 (.seq (.scope [(.normal, [(6, .one .bool)])] (.reg [.op ⟨0, some 7, .mv (.t 0), none⟩,
  .op ⟨1, some 8, .isnil false (.t 7), none⟩,
  .op ⟨2, some 9, .mv (.t 8), none⟩,
  .op ⟨3, some 10, .mv (.t 1), some (9, false)⟩,
  .op ⟨4, some 11, .bin .gtr (.t 10) (.c (.one (.int .i64 1073741824))), some (9, false)⟩,
  .op ⟨5, some 12, .pick (.t 9) (.c (.one (.bool true))) (.t 11), none⟩,
  .op ⟨6, some 6, .mv (.t 12), none⟩]))
 (.cond (.t 6) (.seq (.reg [.op ⟨0, some 4, .mv (.c (.one (.int .i64 1))), none⟩])
 (.ret)) (.seq (.scope [(.normal, [(13, .one .bool)])] (.reg [.op ⟨0, some 14, .mv (.t 0), none⟩,
  .op ⟨1, some 15, .nilc (.t 14), none⟩,
  .op ⟨2, some 16, .addr 8 (.t 15), none⟩,
  .op ⟨3, some 17, .load (.one .bool) (.t 16), none⟩,
  .op ⟨4, some 18, .mv (.t 17), none⟩,
  .op ⟨5, some 19, .mv (.t 0), some (18, false)⟩,
  .op ⟨6, some 20, .nilc (.t 19), some (18, false)⟩,
  .op ⟨7, some 21, .addr 0 (.t 20), some (18, false)⟩,
  .op ⟨8, some 22, .load (.one .ptr) (.t 21), some (18, false)⟩,
  .op ⟨9, some 23, .call 0 [(.t 22)], some (18, false)⟩,
  .op ⟨10, some 24, .pick (.t 18) (.c (.one (.bool true))) (.t 23), none⟩,
  .op ⟨11, some 13, .mv (.t 24), none⟩]))
 (.cond (.t 13) (.seq (.reg [.op ⟨0, some 25, .mv (.t 0), none⟩,
  .op ⟨1, some 26, .nilc (.t 25), none⟩,
  .op ⟨2, some 27, .addr 8 (.t 26), none⟩,
  .op ⟨3, none, .store 1 (.t 27) (.c (.one (.bool true))), none⟩])
 (.seq (.reg [.op ⟨0, some 4, .mv (.c (.one (.int .i64 51))), none⟩])
 (.ret))) (.seq (.reg [.op ⟨0, some 29, .mv (.t 1), none⟩,
  .op ⟨1, some 30, .mv (.t 0), none⟩,
  .op ⟨2, some 31, .nilc (.t 30), none⟩,
  .op ⟨3, some 32, .addr 5 (.t 31), none⟩,
  .op ⟨4, some 33, .load (.one (.int .i64)) (.t 32), none⟩,
  .op ⟨5, some 34, .bin .leq (.t 29) (.t 33), none⟩,
  .op ⟨6, some 28, .mv (.t 34), none⟩])
 (.cond (.t 28) (.seq (.reg [.op ⟨0, some 4, .mv (.c (.one (.int .i64 210))), none⟩])
 (.ret)) (.skip))))))))
 (.seq (.reg [.op ⟨0, some 35, .mv (.t 0), none⟩,
  .op ⟨1, some 36, .mv (.t 1), none⟩,
  .op ⟨2, some 37, .call 1 [(.t 35), (.t 36)], none⟩,
  .op ⟨3, some 5, .mv (.t 37), none⟩])
 (.seq (.reg [.op ⟨0, some 38, .mv (.t 0), none⟩,
  .op ⟨1, some 39, .mv (.t 5), none⟩,
  .op ⟨2, some 40, .bin .eql (.t 39) (.c (.one (.int .i64 51))), none⟩,
  .op ⟨3, some 41, .nilc (.t 38), none⟩,
  .op ⟨4, some 42, .addr 8 (.t 41), none⟩,
  .op ⟨5, none, .store 1 (.t 42) (.t 40), none⟩])
 (.seq (.reg [.op ⟨0, some 43, .mv (.t 5), none⟩,
  .op ⟨1, some 4, .mv (.t 43), none⟩])
 (.ret)))))⟩
noncomputable def counter_Counter_Raise (x0 : Ptr) (x1 : Int) (H : Heap) : Option ((Int × Unit) × Heap) :=
 (cond (Option.isNone x0) (
 some ((true, ()), H)) (
 some (((decide (1073741824 < x1)), ()), H)) : Option ((Bool × Unit) × Heap)).bind fun (p1 : (Bool × Unit) × Heap) =>
 cond p1.1.1 (
 some ((1, ()), p1.2)) (
 ((x0).bind fun (a2 : Nat × Nat) =>
 (rdB p1.2 a2.1 (a2.2 + 8)).bind fun (v3 : Bool) =>
 cond v3 (
 some ((true, ()), p1.2)) (
 (x0).bind fun (a4 : Nat × Nat) =>
 (rdP p1.2 a4.1 a4.2).bind fun (v5 : Ptr) =>
 (nand_Chip_Off v5 p1.2).bind fun (r6 : ((Bool × Unit) × Heap)) =>
 some ((r6.1.1, ()), r6.2)) : Option ((Bool × Unit) × Heap)).bind fun (p7 : (Bool × Unit) × Heap) =>
 cond p7.1.1 (
 (x0).bind fun (a8 : Nat × Nat) =>
 (wr p7.2 a8.1 (a8.2 + 8) [.bool true]).bind fun (H9 : Heap) =>
 some ((51, ()), H9)) (
 (x0).bind fun (a10 : Nat × Nat) =>
 (rdI .i64 p7.2 a10.1 (a10.2 + 5)).bind fun (v11 : Int) =>
 cond (decide (x1 ≤ v11)) (
 some ((210, ()), p7.2)) (
 (counter_Counter_raise x0 x1 p7.2).bind fun (r12 : ((Int × Unit) × Heap)) =>
 (x0).bind fun (a13 : Nat × Nat) =>
 (wr r12.2 a13.1 (a13.2 + 8) [.bool (decide (r12.1.1 = 51))]).bind fun (H14 : Heap) =>
 some ((r12.1.1, ()), H14))))
noncomputable def counter_Counter_Raise.c : Callee := .full [.one .ptr, .one (.int .i64)] [.one (.int .i64)] (fun x H => counter_Counter_Raise x.1 x.2.1 H)
noncomputable def counter_Counter_Raise.calls : Nat → Option Callee
  | 0 => some nand_Chip_Off.c
  | 1 => some counter_Counter_raise.c
  | _ => none
theorem counter_Counter_Raise.eq : evFull counter_Counter_Raise.calls counter_Counter_Raise.af = (fun x H => counter_Counter_Raise x.1 x.2.1 H) := by kernel_rfl

/-! ### (*tinderbox/counter.Counter).Step -/
def counter_Counter_Step.af : AFun := ⟨[.one .ptr], [.one (.int .i64)], [.t 2],
 .seq (.reg [.op ⟨0, some 2, .mv (.c (.one (.int .i64 0))), none⟩])
 (.seq (.seq (.reg [.op ⟨0, some 3, .mv (.t 0), none⟩,
  .op ⟨1, some 4, .isnil false (.t 3), none⟩])
 (.cond (.t 4) (.seq (.reg [.op ⟨0, some 2, .mv (.c (.one (.int .i64 1))), none⟩])
 (.ret)) (.skip)))
 (.seq (.reg [.op ⟨0, some 5, .mv (.t 0), none⟩,
  .op ⟨1, some 6, .mv (.t 0), none⟩,
  .op ⟨2, some 7, .nilc (.t 6), none⟩,
  .op ⟨3, some 8, .addr 5 (.t 7), none⟩,
  .op ⟨4, some 9, .load (.one (.int .i64)) (.t 8), none⟩,
  .op ⟨5, some 10, .bin .add (.t 9) (.c (.one (.int .i64 1))), none⟩,
  .op ⟨6, some 11, .call 0 [(.t 5), (.t 10)], none⟩,
  .op ⟨7, some 2, .mv (.t 11), none⟩])
 (.ret)))⟩
noncomputable def counter_Counter_Step (x0 : Ptr) (H : Heap) : Option ((Int × Unit) × Heap) :=
 cond (Option.isNone x0) (
 some ((1, ()), H)) (
 (x0).bind fun (a1 : Nat × Nat) =>
 (rdI .i64 H a1.1 (a1.2 + 5)).bind fun (v2 : Int) =>
 (counter_Counter_Raise x0 (IntKind.wrap .i64 (v2 + 1)) H).bind fun (r3 : ((Int × Unit) × Heap)) =>
 some ((r3.1.1, ()), r3.2))
noncomputable def counter_Counter_Step.c : Callee := .full [.one .ptr] [.one (.int .i64)] (fun x H => counter_Counter_Step x.1 H)
noncomputable def counter_Counter_Step.calls : Nat → Option Callee
  | 0 => some counter_Counter_Raise.c
  | _ => none
theorem counter_Counter_Step.eq : evFull counter_Counter_Step.calls counter_Counter_Step.af = (fun x H => counter_Counter_Step x.1 H) := by kernel_rfl
end Ev
