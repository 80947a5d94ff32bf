/- What the functions of the package Write compute: abstract code, and a function of plain Lean for each; the kernel checks that they are the same. Written by gen2.py. -/
import Derived.Test.YtloijdlakkmjgaaEvCore
import Derived.Test.YtloijdlakkmjgaaGLife
import Derived.Test.YtloijdlakkmjgaaGNand
import Derived.Test.YtloijdlakkmjgaaGPage
import Derived.Test.YtloijdlakkmjgaaGSlices
import Derived.Test.YtloijdlakkmjgaaGWear
import Derived.KernelRfl
set_option linter.unusedVariables false
set_option maxRecDepth 100000
namespace Ev
open Go (IntKind BinOp UnOp)

/-! ### tinderbox/write.New -/
def write_New.af : AFun := ⟨[.one .ptr, .one .ptr, .one (.sl 1)], [.one .ptr, .one (.int .i64)], [.t 6, .t 7],
 .seq (.reg [.op ⟨0, some 6, .mv (.c (.one (.ptr none))), none⟩,
  .op ⟨1, some 7, .mv (.c (.one (.int .i64 0))), none⟩])
 (.seq (.reg [.op ⟨0, some 9, .mv (.t 0), none⟩,
  .op ⟨1, some 10, .call 0 [(.t 9)], none⟩,
  .op ⟨2, some 11, .field (.one (.int .i64)) 0 (.t 10), none⟩,
  .op ⟨3, some 8, .mv (.t 11), none⟩])
 (.seq (.seq (.reg [.op ⟨0, some 12, .mv (.t 8), none⟩,
  .op ⟨1, some 13, .bin .eql (.t 12) (.c (.one (.int .i64 0))), none⟩,
  .op ⟨2, some 14, .mv (.t 13), none⟩,
  .op ⟨3, some 15, .mv (.t 1), some (14, false)⟩,
  .op ⟨4, some 16, .isnil false (.t 15), some (14, false)⟩,
  .op ⟨5, some 17, .pick (.t 14) (.c (.one (.bool true))) (.t 16), none⟩,
  .op ⟨6, some 18, .mv (.t 17), none⟩,
  .op ⟨7, some 19, .mv (.t 2), some (18, false)⟩,
  .op ⟨8, some 20, .len (.t 19), some (18, false)⟩,
  .op ⟨9, some 21, .mv (.t 8), some (18, false)⟩,
  .op ⟨10, some 22, .bin .neq (.t 20) (.t 21), some (18, false)⟩,
  .op ⟨11, some 23, .pick (.t 18) (.c (.one (.bool true))) (.t 22), none⟩])
 (.cond (.t 23) (.seq (.reg [.op ⟨0, some 6, .mv (.c (.one (.ptr none))), none⟩,
  .op ⟨1, some 7, .mv (.c (.one (.int .i64 1))), none⟩])
 (.ret)) (.skip)))
 (.seq (.reg [.op ⟨0, some 24, .mv (.t 0), none⟩,
  .op ⟨1, some 25, .mv (.t 1), none⟩,
  .op ⟨2, some 26, .mv (.t 2), none⟩,
  .op ⟨3, some 27, .call 1 [(.t 26)], none⟩,
  .op ⟨4, some 28, .build [.ptr none, .ptr none, .sl 1 Sl.nil, .sl 1 Sl.nil] [(0, 1, (.t 24)), (1, 1, (.t 25)), (2, 1, (.t 27))], none⟩,
  .op ⟨5, some 29, .box (.t 28), none⟩,
  .op ⟨6, some 6, .mv (.t 29), none⟩,
  .op ⟨7, some 7, .mv (.c (.one (.int .i64 0))), none⟩])
 (.ret))))⟩
noncomputable def write_New (x0 : Ptr) (x1 : Ptr) (x2 : Sl) (H : Heap) : Option ((Ptr × Int × Unit) × Heap) :=
 (nand_Chip_Geometry x0 H).bind fun (r1 : (((Int × Int × Int × Unit) × Unit) × Heap)) =>
 cond (decide (r1.1.1.1 = 0)) (
 some ((none, 1, ()), r1.2)) (
 cond (Option.isNone x1) (
 some ((none, 1, ()), r1.2)) (
 cond (!decide ((x2.len : Int) = r1.1.1.1)) (
 some ((none, 1, ()), r1.2)) (
 (slices_Clone_int_int x2 r1.2).bind fun (r2 : ((Sl × Unit) × Heap)) =>
 let H3 : Heap := r2.2 ++ [Blk.cells [.ptr x0, .ptr x1, .sl 1 r2.1.1, .sl 1 (⟨none, 0, 0⟩)] .exact]
 some ((some (r2.2.length, 0), 0, ()), H3))))
noncomputable def write_New.c : Callee := .full [.one .ptr, .one .ptr, .one (.sl 1)] [.one .ptr, .one (.int .i64)] (fun x H => write_New x.1 x.2.1 x.2.2.1 H)
noncomputable def write_New.calls : Nat → Option Callee
  | 0 => some nand_Chip_Geometry.c
  | 1 => some slices_Clone_int_int.c
  | _ => none
theorem write_New.eq : evFull write_New.calls write_New.af = (fun x H => write_New x.1 x.2.1 x.2.2.1 H) := by kernel_rfl

/-! ### (*tinderbox/write.Writer).Wears -/
def write_Writer_Wears.af : AFun := ⟨[.one .ptr, .one (.sl 1)], [.one (.sl 2)], [.t 4],
 .seq (.reg [.op ⟨0, some 4, .mv (.c (.one (.sl 2 (⟨none, 0, 0⟩)))), none⟩])
 (.seq (.seq (.reg [.op ⟨0, some 8, .mv (.t 0), none⟩,
  .op ⟨1, some 9, .isnil false (.t 8), none⟩])
 (.cond (.t 9) (.seq (.reg [.op ⟨0, some 4, .mv (.c (.one (.sl 2 (⟨none, 0, 0⟩)))), none⟩])
 (.ret)) (.skip)))
 (.seq (.reg [.op ⟨0, some 5, .mv (.c (.one (.sl 2 (⟨none, 0, 0⟩)))), none⟩])
 (.seq (.seq (.reg [.op ⟨0, some 10, .mv (.t 0), none⟩,
  .op ⟨1, some 11, .nilc (.t 10), none⟩,
  .op ⟨2, some 12, .addr 2 (.t 11), none⟩,
  .op ⟨3, some 13, .load (.one (.sl 1)) (.t 12), none⟩,
  .op ⟨4, some 14, .len (.t 13), none⟩,
  .op ⟨5, some 15, .mv (.c (.one (.int .i64 0))), none⟩])
 (.block 0 (.loop [(5, .one (.sl 2)), (15, .one (.int .i64))] [(.exit 0, [(5, .one (.sl 2))])] (.seq (.reg [.op ⟨0, some 16, .bin .lss (.t 15) (.t 14), none⟩])
 (.seq (.cond (.t 16) (.skip) (.exit 0))
 (.seq (.block 1 (.seq (.reg [.op ⟨0, some 17, .mv (.t 15), none⟩,
  .op ⟨1, some 18, .idxa 1 (.t 13) (.t 15), none⟩,
  .op ⟨2, some 19, .load (.one (.int .i64)) (.t 18), none⟩,
  .op ⟨3, some 6, .mv (.t 17), none⟩,
  .op ⟨4, some 7, .mv (.t 19), none⟩])
 (.seq (.reg [.op ⟨0, some 20, .mv (.t 1), none⟩,
  .op ⟨1, some 21, .mv (.t 0), none⟩,
  .op ⟨2, some 22, .nilc (.t 21), none⟩,
  .op ⟨3, some 23, .addr 1 (.t 22), none⟩,
  .op ⟨4, some 24, .load (.one .ptr) (.t 23), none⟩,
  .op ⟨5, some 25, .mv (.t 6), none⟩,
  .op ⟨6, some 26, .call 0 [(.t 24), (.t 25)], none⟩,
  .op ⟨7, some 27, .call 1 [(.t 20), (.t 26)], none⟩])
 (.cond (.t 27) (.reg [.op ⟨0, some 28, .mv (.t 5), none⟩,
  .op ⟨1, some 29, .mv (.t 6), none⟩,
  .op ⟨2, some 30, .mv (.t 7), none⟩,
  .op ⟨3, some 31, .build [.int .i64 0, .int .i64 0] [(0, 1, (.t 29)), (1, 1, (.t 30))], none⟩,
  .op ⟨4, some 32, .bslice 2 1 [.int .i64 0, .int .i64 0] [(0, 2, (.t 31))], none⟩,
  .op ⟨5, some 33, .app 2 16 (.t 28) (.t 32), none⟩,
  .op ⟨6, some 5, .mv (.t 33), none⟩]) (.skip)))))
 (.reg [.op ⟨0, some 34, .bin .add (.t 15) (.c (.one (.int .i64 1))), none⟩,
  .op ⟨1, some 15, .mv (.t 34), none⟩])))))))
 (.seq (.reg [.op ⟨0, some 35, .mv (.t 5), none⟩,
  .op ⟨1, some 4, .mv (.t 35), none⟩])
 (.ret)))))⟩
noncomputable def write_Writer_Wears.s1 (x0 : Ptr) (x1 : Sl) (v2 : Sl) (s3 : (Sl × Int × Unit)) (H4 : Heap) : Option (((Sl × Int × Unit) ⊕ (Sl × Unit)) × Heap) :=
 cond (decide (s3.2.1 < (v2.len : Int))) (
 (Sl.at 1 v2 s3.2.1).bind fun (a5 : (Nat × Nat)) =>
 (rdI .i64 H4 a5.1 a5.2).bind fun (v6 : Int) =>
 (x0).bind fun (a7 : Nat × Nat) =>
 (rdP H4 a7.1 (a7.2 + 1)).bind fun (v8 : Ptr) =>
 (life_Life_Is v8 s3.2.1 H4).bind fun (r9 : ((Int × Unit) × Heap)) =>
 (slices_Contains_int_int x1 r9.1.1 r9.2).bind fun (r10 : ((Bool × Unit) × Heap)) =>
 cond r10.1.1 (
 let H11 : Heap := r10.2 ++ [Blk.cells [.int .i64 s3.2.1, .int .i64 v6] .exact]
 (slRow H11 2 (⟨some (r10.2.length, 0), 1, 1⟩)).bind fun (cs12 : (List C)) =>
 (appS H11 2 16 s3.1 1 cs12).bind fun (p13 : (Sl × Heap)) =>
 some (Sum.inl (p13.1, (IntKind.wrap .i64 (s3.2.1 + 1)), ()), p13.2)) (
 some (Sum.inl (s3.1, (IntKind.wrap .i64 (s3.2.1 + 1)), ()), r10.2))) (
 some (Sum.inr (s3.1, ()), H4))
noncomputable def write_Writer_Wears (x0 : Ptr) (x1 : Sl) (H : Heap) : Option ((Sl × Unit) × Heap) :=
 cond (Option.isNone x0) (
 some ((⟨none, 0, 0⟩, ()), H)) (
 (x0).bind fun (a1 : Nat × Nat) =>
 (rdSl 1 H a1.1 (a1.2 + 2)).bind fun (v2 : Sl) =>
 (loopW (write_Writer_Wears.s1 x0 x1 v2) (⟨none, 0, 0⟩, 0, ()) H).bind fun (p14 : (Sl × Unit) × Heap) =>
 some ((p14.1.1, ()), p14.2))
noncomputable def write_Writer_Wears.c : Callee := .full [.one .ptr, .one (.sl 1)] [.one (.sl 2)] (fun x H => write_Writer_Wears x.1 x.2.1 H)
noncomputable def write_Writer_Wears.calls : Nat → Option Callee
  | 0 => some life_Life_Is.c
  | 1 => some slices_Contains_int_int.c
  | _ => none
theorem write_Writer_Wears.eq : evFull write_Writer_Wears.calls write_Writer_Wears.af = (fun x H => write_Writer_Wears x.1 x.2.1 H) := by kernel_rfl

/-! ### (*tinderbox/write.Writer).open -/
def write_Writer_open.af : AFun := ⟨[.one .ptr], [.one .bool], [.t 2],
 .seq (.reg [.op ⟨0, some 2, .mv (.c (.one (.bool false))), none⟩])
 (.seq (.seq (.reg [.op ⟨0, some 9, .mv (.t 0), none⟩,
  .op ⟨1, some 10, .nilc (.t 9), none⟩,
  .op ⟨2, some 11, .addr 1 (.t 10), none⟩,
  .op ⟨3, some 12, .load (.one .ptr) (.t 11), none⟩,
  .op ⟨4, some 13, .call 0 [(.t 12)], none⟩,
  .op ⟨5, some 8, .mv (.t 13), none⟩,
  .op ⟨6, some 14, .ext (.t 8) 0, none⟩,
  .op ⟨7, some 15, .ext (.t 8) 1, none⟩,
  .op ⟨8, some 16, .ext (.t 8) 2, none⟩,
  .op ⟨9, some 3, .mv (.t 14), none⟩,
  .op ⟨10, some 4, .mv (.t 15), none⟩,
  .op ⟨11, some 5, .mv (.t 16), none⟩])
 (.seq (.reg [.op ⟨0, some 17, .mv (.t 5), none⟩])
 (.cond (.t 17) (.seq (.reg [.op ⟨0, some 2, .mv (.c (.one (.bool true))), none⟩])
 (.ret)) (.skip))))
 (.seq (.reg [.op ⟨0, some 18, .mv (.t 0), none⟩,
  .op ⟨1, some 19, .bslice 1 1 [.int .i64 0] [(0, 1, (.c (.one (.int .i64 0))))], none⟩,
  .op ⟨2, some 20, .call 1 [(.t 18), (.t 19)], none⟩,
  .op ⟨3, some 6, .mv (.t 20), none⟩])
 (.seq (.reg [.op ⟨0, some 21, .mv (.t 6), none⟩,
  .op ⟨1, some 22, .call 2 [(.t 21)], none⟩,
  .op ⟨2, some 7, .mv (.t 22), none⟩])
 (.seq (.reg [.op ⟨0, some 23, .mv (.t 7), none⟩,
  .op ⟨1, some 24, .bin .geq (.t 23) (.c (.one (.int .i64 0))), none⟩,
  .op ⟨2, some 25, .mv (.t 24), none⟩,
  .op ⟨3, some 26, .mv (.t 0), some (25, true)⟩,
  .op ⟨4, some 27, .nilc (.t 26), some (25, true)⟩,
  .op ⟨5, some 28, .addr 1 (.t 27), some (25, true)⟩,
  .op ⟨6, some 29, .load (.one .ptr) (.t 28), some (25, true)⟩,
  .op ⟨7, some 30, .mv (.t 6), some (25, true)⟩,
  .op ⟨8, some 31, .mv (.t 7), some (25, true)⟩,
  .op ⟨9, some 32, .idxa 2 (.t 30) (.t 31), some (25, true)⟩,
  .op ⟨10, some 33, .addr 0 (.t 32), some (25, true)⟩,
  .op ⟨11, some 34, .load (.one (.int .i64)) (.t 33), some (25, true)⟩,
  .op ⟨12, some 35, .call 3 [(.t 29), (.t 34)], some (25, true)⟩,
  .op ⟨13, some 36, .pick (.t 25) (.t 35) (.c (.one (.bool false))), none⟩,
  .op ⟨14, some 2, .mv (.t 36), none⟩])
 (.ret)))))⟩
noncomputable def write_Writer_open (x0 : Ptr) (H : Heap) : Option ((Bool × Unit) × Heap) :=
 (x0).bind fun (a1 : Nat × Nat) =>
 (rdP H a1.1 (a1.2 + 1)).bind fun (v2 : Ptr) =>
 (life_Life_At v2 H).bind fun (r3 : ((Int × Int × Bool × Unit) × Heap)) =>
 cond r3.1.2.2.1 (
 some ((true, ()), r3.2)) (
 let H4 : Heap := r3.2 ++ [Blk.cells [.int .i64 0] .exact]
 (write_Writer_Wears x0 (⟨some (r3.2.length, 0), 1, 1⟩) H4).bind fun (r5 : ((Sl × Unit) × Heap)) =>
 (wear_Least r5.1.1 r5.2).bind fun (r6 : ((Int × Unit) × Heap)) =>
 cond (decide (0 ≤ r6.1.1)) (
 (x0).bind fun (a7 : Nat × Nat) =>
 (rdP r6.2 a7.1 (a7.2 + 1)).bind fun (v8 : Ptr) =>
 (Sl.at 2 r5.1.1 r6.1.1).bind fun (a9 : (Nat × Nat)) =>
 (rdI .i64 r6.2 a9.1 a9.2).bind fun (v10 : Int) =>
 (life_Life_Open v8 v10 r6.2).bind fun (r11 : ((Bool × Unit) × Heap)) =>
 some ((r11.1.1, ()), r11.2)) (
 some ((false, ()), r6.2)))
noncomputable def write_Writer_open.c : Callee := .full [.one .ptr] [.one .bool] (fun x H => write_Writer_open x.1 H)
noncomputable def write_Writer_open.calls : Nat → Option Callee
  | 0 => some life_Life_At.c
  | 1 => some write_Writer_Wears.c
  | 2 => some wear_Least.c
  | 3 => some life_Life_Open.c
  | _ => none
theorem write_Writer_open.eq : evFull write_Writer_open.calls write_Writer_open.af = (fun x H => write_Writer_open x.1 H) := by kernel_rfl

/-! ### (*tinderbox/write.Writer).spoil -/
def write_Writer_spoil.af : AFun := ⟨[.one .ptr, .one (.int .i64)], [.one (.int .i64)], [.t 4],
 .seq (.reg [.op ⟨0, some 4, .mv (.c (.one (.int .i64 0))), none⟩])
 (.seq (.reg [.op ⟨0, some 5, .mv (.t 0), none⟩,
  .op ⟨1, some 6, .nilc (.t 5), none⟩,
  .op ⟨2, some 7, .addr 1 (.t 6), none⟩,
  .op ⟨3, some 8, .load (.one .ptr) (.t 7), none⟩,
  .op ⟨4, some 9, .mv (.t 1), none⟩,
  .op ⟨5, some 10, .call 0 [(.t 8), (.t 9)], none⟩])
 (.seq (.reg [.op ⟨0, some 11, .mv (.t 0), none⟩,
  .op ⟨1, some 12, .mv (.t 0), none⟩,
  .op ⟨2, some 13, .nilc (.t 12), none⟩,
  .op ⟨3, some 14, .addr 3 (.t 13), none⟩,
  .op ⟨4, some 15, .load (.one (.sl 1)) (.t 14), none⟩,
  .op ⟨5, some 16, .mv (.t 1), none⟩,
  .op ⟨6, some 17, .bslice 1 1 [.int .i64 0] [(0, 1, (.t 16))], none⟩,
  .op ⟨7, some 18, .app 1 8 (.t 15) (.t 17), none⟩,
  .op ⟨8, some 19, .nilc (.t 11), none⟩,
  .op ⟨9, some 20, .addr 3 (.t 19), none⟩,
  .op ⟨10, none, .store 1 (.t 20) (.t 18), none⟩])
 (.seq (.reg [.op ⟨0, some 21, .mv (.t 0), none⟩,
  .op ⟨1, some 22, .nilc (.t 21), none⟩,
  .op ⟨2, some 23, .addr 0 (.t 22), none⟩,
  .op ⟨3, some 24, .load (.one .ptr) (.t 23), none⟩,
  .op ⟨4, some 25, .mv (.t 1), none⟩,
  .op ⟨5, some 26, .call 1 [(.t 24), (.t 25)], none⟩,
  .op ⟨6, some 4, .mv (.t 26), none⟩])
 (.ret))))⟩
noncomputable def write_Writer_spoil (x0 : Ptr) (x1 : Int) (H : Heap) : Option ((Int × Unit) × Heap) :=
 (x0).bind fun (a1 : Nat × Nat) =>
 (rdP H a1.1 (a1.2 + 1)).bind fun (v2 : Ptr) =>
 (life_Life_Bad v2 x1 H).bind fun (r3 : ((Bool × Unit) × Heap)) =>
 (x0).bind fun (a4 : Nat × Nat) =>
 (rdSl 1 r3.2 a4.1 (a4.2 + 3)).bind fun (v5 : Sl) =>
 let H6 : Heap := r3.2 ++ [Blk.cells [.int .i64 x1] .exact]
 (slRow H6 1 (⟨some (r3.2.length, 0), 1, 1⟩)).bind fun (cs7 : (List C)) =>
 (appS H6 1 8 v5 1 cs7).bind fun (p8 : (Sl × Heap)) =>
 (x0).bind fun (a9 : Nat × Nat) =>
 (wr p8.2 a9.1 (a9.2 + 3) [.sl 1 p8.1]).bind fun (H10 : Heap) =>
 (x0).bind fun (a11 : Nat × Nat) =>
 (rdP H10 a11.1 a11.2).bind fun (v12 : Ptr) =>
 (nand_Chip_Mark v12 x1 H10).bind fun (r13 : ((Int × Unit) × Heap)) =>
 some ((r13.1.1, ()), r13.2)
noncomputable def write_Writer_spoil.c : Callee := .full [.one .ptr, .one (.int .i64)] [.one (.int .i64)] (fun x H => write_Writer_spoil x.1 x.2.1 H)
noncomputable def write_Writer_spoil.calls : Nat → Option Callee
  | 0 => some life_Life_Bad.c
  | 1 => some nand_Chip_Mark.c
  | _ => none
theorem write_Writer_spoil.eq : evFull write_Writer_spoil.calls write_Writer_spoil.af = (fun x H => write_Writer_spoil x.1 x.2.1 H) := by kernel_rfl

/-! ### (*tinderbox/write.Writer).Append -/
def write_Writer_Append.af : AFun := ⟨[.one .ptr, .agg [.int .i64, .int .u64, .int .i64, .int .i64, .int .i64], .one .str], [.one (.int .i64), .one (.int .i64)], [.t 6, .t 7],
 .seq (.reg [.op ⟨0, some 4, .box (.t 1), none⟩,
  .op ⟨1, some 6, .mv (.c (.one (.int .i64 0))), none⟩,
  .op ⟨2, some 7, .mv (.c (.one (.int .i64 0))), none⟩])
 (.seq (.seq (.reg [.op ⟨0, some 20, .mv (.t 0), none⟩,
  .op ⟨1, some 21, .isnil false (.t 20), none⟩])
 (.cond (.t 21) (.seq (.reg [.op ⟨0, some 6, .mv (.c (.one (.int .i64 0))), none⟩,
  .op ⟨1, some 7, .mv (.c (.one (.int .i64 1))), none⟩])
 (.ret)) (.skip)))
 (.seq (.reg [.op ⟨0, some 22, .mv (.t 0), none⟩,
  .op ⟨1, some 23, .nilc (.t 22), none⟩,
  .op ⟨2, some 24, .addr 0 (.t 23), none⟩,
  .op ⟨3, some 25, .load (.one .ptr) (.t 24), none⟩,
  .op ⟨4, some 26, .call 0 [(.t 25)], none⟩,
  .op ⟨5, some 8, .new [.int .i64 0, .int .i64 0, .int .i64 0], none⟩,
  .op ⟨6, none, .store 3 (.t 8) (.t 26), none⟩])
 (.seq (.reg [.op ⟨0, some 27, .addr 4 (.t 4), none⟩,
  .op ⟨1, none, .store 1 (.t 27) (.c (.one (.int .i64 0))), none⟩])
 (.seq (.seq (.reg [.op ⟨0, some 29, .load (.agg [.int .i64, .int .u64, .int .i64, .int .i64, .int .i64]) (.t 4), none⟩,
  .op ⟨1, some 30, .mv (.t 2), none⟩,
  .op ⟨2, some 31, .addr 2 (.t 8), none⟩,
  .op ⟨3, some 32, .load (.one (.int .i64)) (.t 31), none⟩,
  .op ⟨4, some 33, .call 1 [(.t 29), (.t 30), (.t 32)], none⟩,
  .op ⟨5, some 28, .mv (.t 33), none⟩,
  .op ⟨6, some 34, .ext (.t 28) 0, none⟩,
  .op ⟨7, some 35, .ext (.t 28) 1, none⟩,
  .op ⟨8, some 36, .ext (.t 28) 2, none⟩,
  .op ⟨9, some 9, .mv (.t 34), none⟩,
  .op ⟨10, some 10, .mv (.t 35), none⟩,
  .op ⟨11, some 11, .mv (.t 36), none⟩])
 (.seq (.reg [.op ⟨0, some 37, .mv (.t 11), none⟩,
  .op ⟨1, some 38, .bin .neq (.t 37) (.c (.one (.int .i64 0))), none⟩])
 (.cond (.t 38) (.seq (.reg [.op ⟨0, some 39, .mv (.t 11), none⟩,
  .op ⟨1, some 6, .mv (.c (.one (.int .i64 0))), none⟩,
  .op ⟨2, some 7, .mv (.t 39), none⟩])
 (.ret)) (.skip))))
 (.seq (.block 0 (.loop [] [(.exit 0, []), (.ret, [(6, .one (.int .i64)), (7, .one (.int .i64))])] (.seq (.seq (.reg [.op ⟨0, some 40, .mv (.t 0), none⟩,
  .op ⟨1, some 41, .call 2 [(.t 40)], none⟩])
 (.cond (.t 41) (.skip) (.exit 0)))
 (.block 1 (.seq (.reg [.op ⟨0, some 43, .mv (.t 0), none⟩,
  .op ⟨1, some 44, .nilc (.t 43), none⟩,
  .op ⟨2, some 45, .addr 1 (.t 44), none⟩,
  .op ⟨3, some 46, .load (.one .ptr) (.t 45), none⟩,
  .op ⟨4, some 47, .call 3 [(.t 46)], none⟩,
  .op ⟨5, some 42, .mv (.t 47), none⟩,
  .op ⟨6, some 48, .ext (.t 42) 0, none⟩,
  .op ⟨7, some 49, .ext (.t 42) 1, none⟩,
  .op ⟨8, some 50, .ext (.t 42) 2, none⟩,
  .op ⟨9, some 12, .mv (.t 48), none⟩,
  .op ⟨10, some 13, .mv (.t 49), none⟩,
  .op ⟨11, some 14, .mv (.t 50), none⟩])
 (.seq (.reg [.op ⟨0, some 51, .mv (.t 0), none⟩,
  .op ⟨1, some 52, .nilc (.t 51), none⟩,
  .op ⟨2, some 53, .addr 2 (.t 52), none⟩,
  .op ⟨3, some 54, .load (.one (.sl 1)) (.t 53), none⟩,
  .op ⟨4, some 55, .mv (.t 12), none⟩,
  .op ⟨5, some 56, .idxa 1 (.t 54) (.t 55), none⟩,
  .op ⟨6, some 57, .load (.one (.int .i64)) (.t 56), none⟩,
  .op ⟨7, some 58, .addr 4 (.t 4), none⟩,
  .op ⟨8, none, .store 1 (.t 58) (.t 57), none⟩])
 (.seq (.reg [.op ⟨0, some 60, .load (.agg [.int .i64, .int .u64, .int .i64, .int .i64, .int .i64]) (.t 4), none⟩,
  .op ⟨1, some 61, .mv (.t 2), none⟩,
  .op ⟨2, some 62, .addr 2 (.t 8), none⟩,
  .op ⟨3, some 63, .load (.one (.int .i64)) (.t 62), none⟩,
  .op ⟨4, some 64, .call 1 [(.t 60), (.t 61), (.t 63)], none⟩,
  .op ⟨5, some 59, .mv (.t 64), none⟩,
  .op ⟨6, some 65, .ext (.t 59) 0, none⟩,
  .op ⟨7, some 66, .ext (.t 59) 1, none⟩,
  .op ⟨8, some 67, .ext (.t 59) 2, none⟩,
  .op ⟨9, some 15, .mv (.t 65), none⟩,
  .op ⟨10, some 16, .mv (.t 66), none⟩,
  .op ⟨11, some 17, .mv (.t 67), none⟩])
 (.seq (.reg [.op ⟨0, some 68, .mv (.t 0), none⟩,
  .op ⟨1, some 69, .nilc (.t 68), none⟩,
  .op ⟨2, some 70, .addr 0 (.t 69), none⟩,
  .op ⟨3, some 71, .load (.one .ptr) (.t 70), none⟩,
  .op ⟨4, some 72, .mv (.t 12), none⟩,
  .op ⟨5, some 73, .mv (.t 13), none⟩,
  .op ⟨6, some 74, .mv (.t 15), none⟩,
  .op ⟨7, some 75, .mv (.t 16), none⟩,
  .op ⟨8, some 76, .call 4 [(.t 71), (.t 72), (.t 73), (.t 74), (.t 75)], none⟩,
  .op ⟨9, some 18, .mv (.t 76), none⟩])
 (.seq (.reg [.op ⟨0, some 77, .mv (.t 18), none⟩])
 (.block 2 (.seq (.reg [.op ⟨0, some 80, .bin .eql (.t 77) (.c (.one (.int .i64 0))), none⟩,
  .op ⟨1, some 79, .mv (.t 80), none⟩])
 (.cond (.t 79) (.seq (.reg [.op ⟨0, some 81, .mv (.t 12), none⟩,
  .op ⟨1, some 82, .addr 1 (.t 8), none⟩,
  .op ⟨2, some 83, .load (.one (.int .i64)) (.t 82), none⟩,
  .op ⟨3, some 84, .bin .mul (.t 81) (.t 83), none⟩,
  .op ⟨4, some 85, .mv (.t 13), none⟩,
  .op ⟨5, some 86, .bin .add (.t 84) (.t 85), none⟩,
  .op ⟨6, some 6, .mv (.t 86), none⟩,
  .op ⟨7, some 7, .mv (.c (.one (.int .i64 0))), none⟩])
 (.ret)) (.seq (.reg [.op ⟨0, some 88, .bin .eql (.t 77) (.c (.one (.int .i64 53))), none⟩,
  .op ⟨1, some 87, .mv (.t 88), none⟩])
 (.cond (.t 87) (.seq (.reg [.op ⟨0, some 89, .mv (.t 0), none⟩,
  .op ⟨1, some 90, .mv (.t 12), none⟩,
  .op ⟨2, some 91, .call 5 [(.t 89), (.t 90)], none⟩,
  .op ⟨3, some 19, .mv (.t 91), none⟩])
 (.seq (.reg [.op ⟨0, some 92, .mv (.t 19), none⟩,
  .op ⟨1, some 93, .bin .neq (.t 92) (.c (.one (.int .i64 0))), none⟩])
 (.cond (.t 93) (.seq (.reg [.op ⟨0, some 94, .mv (.t 19), none⟩,
  .op ⟨1, some 6, .mv (.c (.one (.int .i64 0))), none⟩,
  .op ⟨2, some 7, .mv (.t 94), none⟩])
 (.ret)) (.skip)))) (.seq (.reg [.op ⟨0, some 96, .bin .eql (.t 77) (.c (.one (.int .i64 52))), none⟩,
  .op ⟨1, some 95, .mv (.t 96), none⟩])
 (.cond (.t 95) (.reg [.op ⟨0, some 97, .mv (.t 0), none⟩,
  .op ⟨1, some 98, .nilc (.t 97), none⟩,
  .op ⟨2, some 99, .addr 1 (.t 98), none⟩,
  .op ⟨3, some 100, .load (.one .ptr) (.t 99), none⟩,
  .op ⟨4, some 101, .mv (.t 12), none⟩,
  .op ⟨5, some 102, .call 6 [(.t 100), (.t 101)], none⟩]) (.seq (.reg [.op ⟨0, some 78, .mv (.t 18), none⟩,
  .op ⟨1, some 6, .mv (.c (.one (.int .i64 0))), none⟩,
  .op ⟨2, some 7, .mv (.t 78), none⟩])
 (.ret))))))))))))))))))
 (.seq (.reg [.op ⟨0, some 6, .mv (.c (.one (.int .i64 0))), none⟩,
  .op ⟨1, some 7, .mv (.c (.one (.int .i64 130))), none⟩])
 (.ret)))))))⟩
noncomputable def write_Writer_Append.s1 (x0 : Ptr) (x2 : Bytes) (H : Heap) (r4 : (((Int × Int × Int × Unit) × Unit) × Heap)) (s11 : (Unit)) (H12 : Heap) : Option (((Unit) ⊕ ((Unit) ⊕ (Int × Int × Unit))) × Heap) :=
 (write_Writer_open x0 H12).bind fun (r13 : ((Bool × Unit) × Heap)) =>
 cond r13.1.1 (
 (x0).bind fun (a14 : Nat × Nat) =>
 (rdP r13.2 a14.1 (a14.2 + 1)).bind fun (v15 : Ptr) =>
 (life_Life_Take v15 r13.2).bind fun (r16 : ((Int × Int × Bool × Unit) × Heap)) =>
 (x0).bind fun (a17 : Nat × Nat) =>
 (rdSl 1 r16.2 a17.1 (a17.2 + 2)).bind fun (v18 : Sl) =>
 (Sl.at 1 v18 r16.1.1).bind fun (a19 : (Nat × Nat)) =>
 (rdI .i64 r16.2 a19.1 a19.2).bind fun (v20 : Int) =>
 (wr r16.2 H.length 4 [.int .i64 v20]).bind fun (H21 : Heap) =>
 Option.bind (α := (Int × Int × Int × Int × Int × Unit)) (rd H21 (.agg [.int .i64, .int .u64, .int .i64, .int .i64, .int .i64]) H.length 0) fun (v22 : (Int × Int × Int × Int × Int × Unit)) =>
 (rdI .i64 H21 r4.2.length 2).bind fun (v23 : Int) =>
 (page_Frame (v22.1, v22.2.1, v22.2.2.1, v22.2.2.2.1, v22.2.2.2.2.1, ()) x2 v23).bind fun (r24 : (Bytes × Bytes × Int × Unit)) =>
 (x0).bind fun (a25 : Nat × Nat) =>
 (rdP H21 a25.1 a25.2).bind fun (v26 : Ptr) =>
 (nand_Chip_Program v26 r16.1.1 r16.1.2.1 r24.1 r24.2.1 H21).bind fun (r27 : ((Int × Unit) × Heap)) =>
 cond (decide (r27.1.1 = 0)) (
 (rdI .i64 r27.2 r4.2.length 1).bind fun (v28 : Int) =>
 some (Sum.inr (Sum.inr ((IntKind.wrap .i64 ((IntKind.wrap .i64 (r16.1.1 * v28)) + r16.1.2.1)), 0, ())), r27.2)) (
 cond (decide (r27.1.1 = 53)) (
 (write_Writer_spoil x0 r16.1.1 r27.2).bind fun (r29 : ((Int × Unit) × Heap)) =>
 cond (!decide (r29.1.1 = 0)) (
 some (Sum.inr (Sum.inr (0, r29.1.1, ())), r29.2)) (
 some (Sum.inl (()), r29.2))) (
 cond (decide (r27.1.1 = 52)) (
 (x0).bind fun (a30 : Nat × Nat) =>
 (rdP r27.2 a30.1 (a30.2 + 1)).bind fun (v31 : Ptr) =>
 (life_Life_Full v31 r16.1.1 r27.2).bind fun (r32 : ((Bool × Unit) × Heap)) =>
 some (Sum.inl (()), r32.2)) (
 some (Sum.inr (Sum.inr (0, r27.1.1, ())), r27.2))))) (
 some (Sum.inr (Sum.inl (())), r13.2))
noncomputable def write_Writer_Append (x0 : Ptr) (x1 : (Int × Int × Int × Int × Int × Unit)) (x2 : Bytes) (H : Heap) : Option ((Int × Int × Unit) × Heap) :=
 let H1 : Heap := H ++ [Blk.cells [.int .i64 x1.1, .int .u64 x1.2.1, .int .i64 x1.2.2.1, .int .i64 x1.2.2.2.1, .int .i64 x1.2.2.2.2.1] .exact]
 cond (Option.isNone x0) (
 some ((0, 1, ()), H1)) (
 (x0).bind fun (a2 : Nat × Nat) =>
 (rdP H1 a2.1 a2.2).bind fun (v3 : Ptr) =>
 (nand_Chip_Geometry v3 H1).bind fun (r4 : (((Int × Int × Int × Unit) × Unit) × Heap)) =>
 let H5 : Heap := r4.2 ++ [Blk.cells [.int .i64 0, .int .i64 0, .int .i64 0] .exact]
 (wr H5 r4.2.length 0 [.int .i64 r4.1.1.1, .int .i64 r4.1.1.2.1, .int .i64 r4.1.1.2.2.1]).bind fun (H6 : Heap) =>
 (wr H6 H.length 4 [.int .i64 0]).bind fun (H7 : Heap) =>
 Option.bind (α := (Int × Int × Int × Int × Int × Unit)) (rd H7 (.agg [.int .i64, .int .u64, .int .i64, .int .i64, .int .i64]) H.length 0) fun (v8 : (Int × Int × Int × Int × Int × Unit)) =>
 (rdI .i64 H7 r4.2.length 2).bind fun (v9 : Int) =>
 (page_Frame (v8.1, v8.2.1, v8.2.2.1, v8.2.2.2.1, v8.2.2.2.2.1, ()) x2 v9).bind fun (r10 : (Bytes × Bytes × Int × Unit)) =>
 cond (!decide (r10.2.2.1 = 0)) (
 some ((0, r10.2.2.1, ()), H7)) (
 (loopW (write_Writer_Append.s1 x0 x2 H r4) (()) H7).bind fun (p33 : ((Unit) ⊕ (Int × Int × Unit)) × Heap) =>
 Sum.elim (fun (y34 : (Unit)) =>
 some ((0, 130, ()), p33.2)) (fun (z35 : (Int × Int × Unit)) =>
 some ((z35.1, z35.2.1, ()), p33.2)) p33.1))
noncomputable def write_Writer_Append.c : Callee := .full [.one .ptr, .agg [.int .i64, .int .u64, .int .i64, .int .i64, .int .i64], .one .str] [.one (.int .i64), .one (.int .i64)] (fun x H => write_Writer_Append x.1 x.2.1 x.2.2.1 H)
noncomputable def write_Writer_Append.calls : Nat → Option Callee
  | 0 => some nand_Chip_Geometry.c
  | 1 => some page_Frame.c
  | 2 => some write_Writer_open.c
  | 3 => some life_Life_Take.c
  | 4 => some nand_Chip_Program.c
  | 5 => some write_Writer_spoil.c
  | 6 => some life_Life_Full.c
  | _ => none
theorem write_Writer_Append.eq : evFull write_Writer_Append.calls write_Writer_Append.af = (fun x H => write_Writer_Append x.1 x.2.1 x.2.2.1 H) := by kernel_rfl

/-! ### (*tinderbox/write.Writer).Read -/
def write_Writer_Read.af : AFun := ⟨[.one .ptr, .one (.int .i64)], [.agg [.int .i64, .int .u64, .int .i64, .int .i64, .int .i64], .one .str, .one (.int .i64)], [.cell 4, .t 5, .t 6],
 .seq (.reg [.op ⟨0, some 4, .new [.int .i64 0, .int .u64 0, .int .i64 0, .int .i64 0, .int .i64 0], none⟩,
  .op ⟨1, some 5, .mv (.c (.one (.str []))), none⟩,
  .op ⟨2, some 6, .mv (.c (.one (.int .i64 0))), none⟩])
 (.seq (.seq (.reg [.op ⟨0, some 14, .mv (.t 0), none⟩,
  .op ⟨1, some 15, .isnil false (.t 14), none⟩])
 (.cond (.t 15) (.seq (.reg [.op ⟨0, some 16, .build [.int .i64 0, .int .u64 0, .int .i64 0, .int .i64 0, .int .i64 0] [], none⟩,
  .op ⟨1, none, .store 5 (.t 4) (.t 16), none⟩,
  .op ⟨2, some 5, .mv (.c (.one (.str []))), none⟩,
  .op ⟨3, some 6, .mv (.c (.one (.int .i64 1))), none⟩])
 (.ret)) (.skip)))
 (.seq (.reg [.op ⟨0, some 17, .mv (.t 0), none⟩,
  .op ⟨1, some 18, .nilc (.t 17), none⟩,
  .op ⟨2, some 19, .addr 0 (.t 18), none⟩,
  .op ⟨3, some 20, .load (.one .ptr) (.t 19), none⟩,
  .op ⟨4, some 21, .call 0 [(.t 20)], none⟩,
  .op ⟨5, some 22, .field (.one (.int .i64)) 1 (.t 21), none⟩,
  .op ⟨6, some 7, .mv (.t 22), none⟩])
 (.seq (.reg [.op ⟨0, some 24, .mv (.t 0), none⟩,
  .op ⟨1, some 25, .nilc (.t 24), none⟩,
  .op ⟨2, some 26, .addr 0 (.t 25), none⟩,
  .op ⟨3, some 27, .load (.one .ptr) (.t 26), none⟩,
  .op ⟨4, some 28, .mv (.t 1), none⟩,
  .op ⟨5, some 29, .mv (.t 7), none⟩,
  .op ⟨6, some 30, .bin .quo (.t 28) (.t 29), none⟩,
  .op ⟨7, some 31, .mv (.t 1), none⟩,
  .op ⟨8, some 32, .mv (.t 7), none⟩,
  .op ⟨9, some 33, .bin .rem (.t 31) (.t 32), none⟩,
  .op ⟨10, some 34, .call 1 [(.t 27), (.t 30), (.t 33)], none⟩,
  .op ⟨11, some 23, .mv (.t 34), none⟩,
  .op ⟨12, some 35, .ext (.t 23) 0, none⟩,
  .op ⟨13, some 36, .ext (.t 23) 1, none⟩,
  .op ⟨14, some 37, .ext (.t 23) 2, none⟩,
  .op ⟨15, some 8, .mv (.t 35), none⟩,
  .op ⟨16, some 9, .mv (.t 36), none⟩,
  .op ⟨17, some 10, .mv (.t 37), none⟩])
 (.seq (.seq (.reg [.op ⟨0, some 38, .mv (.t 10), none⟩,
  .op ⟨1, some 39, .bin .neq (.t 38) (.c (.one (.int .i64 0))), none⟩])
 (.cond (.t 39) (.seq (.reg [.op ⟨0, some 40, .build [.int .i64 0, .int .u64 0, .int .i64 0, .int .i64 0, .int .i64 0] [], none⟩,
  .op ⟨1, some 41, .mv (.t 10), none⟩,
  .op ⟨2, none, .store 5 (.t 4) (.t 40), none⟩,
  .op ⟨3, some 5, .mv (.c (.one (.str []))), none⟩,
  .op ⟨4, some 6, .mv (.t 41), none⟩])
 (.ret)) (.skip)))
 (.seq (.reg [.op ⟨0, some 43, .mv (.t 8), none⟩,
  .op ⟨1, some 44, .mv (.t 9), none⟩,
  .op ⟨2, some 45, .call 2 [(.t 43), (.t 44)], none⟩,
  .op ⟨3, some 42, .mv (.t 45), none⟩,
  .op ⟨4, some 46, .ext (.t 42) 0, none⟩,
  .op ⟨5, some 47, .ext (.t 42) 1, none⟩,
  .op ⟨6, some 48, .ext (.t 42) 2, none⟩,
  .op ⟨7, some 12, .new [.int .i64 0, .int .u64 0, .int .i64 0, .int .i64 0, .int .i64 0], none⟩,
  .op ⟨8, some 11, .mv (.t 46), none⟩,
  .op ⟨9, none, .store 5 (.t 12) (.t 47), none⟩,
  .op ⟨10, some 13, .mv (.t 48), none⟩])
 (.seq (.seq (.reg [.op ⟨0, some 49, .mv (.t 11), none⟩,
  .op ⟨1, some 50, .bin .neq (.t 49) (.c (.one (.int .i64 1))), none⟩])
 (.cond (.t 50) (.seq (.reg [.op ⟨0, some 51, .build [.int .i64 0, .int .u64 0, .int .i64 0, .int .i64 0, .int .i64 0] [], none⟩,
  .op ⟨1, none, .store 5 (.t 4) (.t 51), none⟩,
  .op ⟨2, some 5, .mv (.c (.one (.str []))), none⟩,
  .op ⟨3, some 6, .mv (.c (.one (.int .i64 3))), none⟩])
 (.ret)) (.skip)))
 (.seq (.reg [.op ⟨0, some 52, .load (.agg [.int .i64, .int .u64, .int .i64, .int .i64, .int .i64]) (.t 12), none⟩,
  .op ⟨1, some 53, .mv (.t 13), none⟩,
  .op ⟨2, none, .store 5 (.t 4) (.t 52), none⟩,
  .op ⟨3, some 5, .mv (.t 53), none⟩,
  .op ⟨4, some 6, .mv (.c (.one (.int .i64 0))), none⟩])
 (.ret))))))))⟩
noncomputable def write_Writer_Read (x0 : Ptr) (x1 : Int) (H : Heap) : Option (((Int × Int × Int × Int × Int × Unit) × Bytes × Int × Unit) × Heap) :=
 let H1 : Heap := H ++ [Blk.cells [.int .i64 0, .int .u64 0, .int .i64 0, .int .i64 0, .int .i64 0] .exact]
 cond (Option.isNone x0) (
 (wr H1 H.length 0 [.int .i64 0, .int .u64 0, .int .i64 0, .int .i64 0, .int .i64 0]).bind fun (H2 : Heap) =>
 Option.bind (α := (Int × Int × Int × Int × Int × Unit)) (rd H2 (.agg [.int .i64, .int .u64, .int .i64, .int .i64, .int .i64]) H.length 0) fun (v3 : (Int × Int × Int × Int × Int × Unit)) =>
 some ((v3, [], 1, ()), H2)) (
 (x0).bind fun (a4 : Nat × Nat) =>
 (rdP H1 a4.1 a4.2).bind fun (v5 : Ptr) =>
 (nand_Chip_Geometry v5 H1).bind fun (r6 : (((Int × Int × Int × Unit) × Unit) × Heap)) =>
 (x0).bind fun (a7 : Nat × Nat) =>
 (rdP r6.2 a7.1 a7.2).bind fun (v8 : Ptr) =>
 cond (decide (r6.1.1.2.1 = 0)) none (
 cond (decide (r6.1.1.2.1 = 0)) none (
 (nand_Chip_Read v8 (IntKind.wrap .i64 (Int.tdiv x1 r6.1.1.2.1)) (Int.tmod x1 r6.1.1.2.1) r6.2).bind fun (r9 : ((Bytes × Bytes × Int × Unit) × Heap)) =>
 cond (!decide (r9.1.2.2.1 = 0)) (
 (wr r9.2 H.length 0 [.int .i64 0, .int .u64 0, .int .i64 0, .int .i64 0, .int .i64 0]).bind fun (H10 : Heap) =>
 Option.bind (α := (Int × Int × Int × Int × Int × Unit)) (rd H10 (.agg [.int .i64, .int .u64, .int .i64, .int .i64, .int .i64]) H.length 0) fun (v11 : (Int × Int × Int × Int × Int × Unit)) =>
 some ((v11, [], r9.1.2.2.1, ()), H10)) (
 (page_Look r9.1.1 r9.1.2.1).bind fun (r12 : (Int × (Int × Int × Int × Int × Int × Unit) × Bytes × Unit)) =>
 let H13 : Heap := r9.2 ++ [Blk.cells [.int .i64 0, .int .u64 0, .int .i64 0, .int .i64 0, .int .i64 0] .exact]
 (wr H13 r9.2.length 0 [.int .i64 r12.2.1.1, .int .u64 r12.2.1.2.1, .int .i64 r12.2.1.2.2.1, .int .i64 r12.2.1.2.2.2.1, .int .i64 r12.2.1.2.2.2.2.1]).bind fun (H14 : Heap) =>
 cond (!decide (r12.1 = 1)) (
 (wr H14 H.length 0 [.int .i64 0, .int .u64 0, .int .i64 0, .int .i64 0, .int .i64 0]).bind fun (H15 : Heap) =>
 Option.bind (α := (Int × Int × Int × Int × Int × Unit)) (rd H15 (.agg [.int .i64, .int .u64, .int .i64, .int .i64, .int .i64]) H.length 0) fun (v16 : (Int × Int × Int × Int × Int × Unit)) =>
 some ((v16, [], 3, ()), H15)) (
 Option.bind (α := (Int × Int × Int × Int × Int × Unit)) (rd H14 (.agg [.int .i64, .int .u64, .int .i64, .int .i64, .int .i64]) r9.2.length 0) fun (v17 : (Int × Int × Int × Int × Int × Unit)) =>
 (wr H14 H.length 0 [.int .i64 v17.1, .int .u64 v17.2.1, .int .i64 v17.2.2.1, .int .i64 v17.2.2.2.1, .int .i64 v17.2.2.2.2.1]).bind fun (H18 : Heap) =>
 Option.bind (α := (Int × Int × Int × Int × Int × Unit)) (rd H18 (.agg [.int .i64, .int .u64, .int .i64, .int .i64, .int .i64]) H.length 0) fun (v19 : (Int × Int × Int × Int × Int × Unit)) =>
 some ((v19, r12.2.2.1, 0, ()), H18))))))
noncomputable def write_Writer_Read.c : Callee := .full [.one .ptr, .one (.int .i64)] [.agg [.int .i64, .int .u64, .int .i64, .int .i64, .int .i64], .one .str, .one (.int .i64)] (fun x H => write_Writer_Read x.1 x.2.1 H)
noncomputable def write_Writer_Read.calls : Nat → Option Callee
  | 0 => some nand_Chip_Geometry.c
  | 1 => some nand_Chip_Read.c
  | 2 => some page_Look.c
  | _ => none
theorem write_Writer_Read.eq : evFull write_Writer_Read.calls write_Writer_Read.af = (fun x H => write_Writer_Read x.1 x.2.1 H) := by kernel_rfl

/-! ### (*tinderbox/write.Writer).Life -/
def write_Writer_Life.af : AFun := ⟨[.one .ptr], [.one .ptr], [.t 2],
 .seq (.reg [.op ⟨0, some 2, .mv (.c (.one (.ptr none))), none⟩])
 (.seq (.seq (.reg [.op ⟨0, some 3, .mv (.t 0), none⟩,
  .op ⟨1, some 4, .isnil false (.t 3), none⟩])
 (.cond (.t 4) (.seq (.reg [.op ⟨0, some 2, .mv (.c (.one (.ptr none))), none⟩])
 (.ret)) (.skip)))
 (.seq (.reg [.op ⟨0, some 5, .mv (.t 0), none⟩,
  .op ⟨1, some 6, .nilc (.t 5), none⟩,
  .op ⟨2, some 7, .addr 1 (.t 6), none⟩,
  .op ⟨3, some 8, .load (.one .ptr) (.t 7), none⟩,
  .op ⟨4, some 2, .mv (.t 8), none⟩])
 (.ret)))⟩
noncomputable def write_Writer_Life (x0 : Ptr) (H : Heap) : Option ((Ptr × Unit) × Heap) :=
 cond (Option.isNone x0) (
 some ((none, ()), H)) (
 (x0).bind fun (a1 : Nat × Nat) =>
 (rdP H a1.1 (a1.2 + 1)).bind fun (v2 : Ptr) =>
 some ((v2, ()), H))
noncomputable def write_Writer_Life.c : Callee := .full [.one .ptr] [.one .ptr] (fun x H => write_Writer_Life x.1 H)
noncomputable def write_Writer_Life.calls : Nat → Option Callee
  | _ => none
theorem write_Writer_Life.eq : evFull write_Writer_Life.calls write_Writer_Life.af = (fun x H => write_Writer_Life x.1 H) := by kernel_rfl

/-! ### (*tinderbox/write.Writer).Bads -/
def write_Writer_Bads.af : AFun := ⟨[.one .ptr], [.one (.sl 1)], [.t 2],
 .seq (.reg [.op ⟨0, some 2, .mv (.c (.one (.sl 1 (⟨none, 0, 0⟩)))), none⟩])
 (.seq (.seq (.reg [.op ⟨0, some 4, .mv (.t 0), none⟩,
  .op ⟨1, some 5, .isnil false (.t 4), none⟩])
 (.cond (.t 5) (.seq (.reg [.op ⟨0, some 2, .mv (.c (.one (.sl 1 (⟨none, 0, 0⟩)))), none⟩])
 (.ret)) (.skip)))
 (.seq (.reg [.op ⟨0, some 6, .mv (.t 0), none⟩,
  .op ⟨1, some 7, .nilc (.t 6), none⟩,
  .op ⟨2, some 8, .addr 3 (.t 7), none⟩,
  .op ⟨3, some 9, .load (.one (.sl 1)) (.t 8), none⟩,
  .op ⟨4, some 3, .mv (.t 9), none⟩])
 (.seq (.reg [.op ⟨0, some 10, .mv (.t 0), none⟩,
  .op ⟨1, some 11, .nilc (.t 10), none⟩,
  .op ⟨2, some 12, .addr 3 (.t 11), none⟩,
  .op ⟨3, none, .store 1 (.t 12) (.c (.one (.sl 1 (⟨none, 0, 0⟩)))), none⟩])
 (.seq (.reg [.op ⟨0, some 13, .mv (.t 3), none⟩,
  .op ⟨1, some 2, .mv (.t 13), none⟩])
 (.ret)))))⟩
noncomputable def write_Writer_Bads (x0 : Ptr) (H : Heap) : Option ((Sl × Unit) × Heap) :=
 cond (Option.isNone x0) (
 some ((⟨none, 0, 0⟩, ()), H)) (
 (x0).bind fun (a1 : Nat × Nat) =>
 (rdSl 1 H a1.1 (a1.2 + 3)).bind fun (v2 : Sl) =>
 (x0).bind fun (a3 : Nat × Nat) =>
 (wr H a3.1 (a3.2 + 3) [.sl 1 (⟨none, 0, 0⟩)]).bind fun (H4 : Heap) =>
 some ((v2, ()), H4))
noncomputable def write_Writer_Bads.c : Callee := .full [.one .ptr] [.one (.sl 1)] (fun x H => write_Writer_Bads x.1 H)
noncomputable def write_Writer_Bads.calls : Nat → Option Callee
  | _ => none
theorem write_Writer_Bads.eq : evFull write_Writer_Bads.calls write_Writer_Bads.af = (fun x H => write_Writer_Bads x.1 H) := by kernel_rfl

/-! ### (*tinderbox/write.Writer).Erase -/
def write_Writer_Erase.af : AFun := ⟨[.one .ptr, .one (.int .i64)], [.one (.int .i64)], [.t 4],
 .seq (.reg [.op ⟨0, some 4, .mv (.c (.one (.int .i64 0))), none⟩])
 (.seq (.seq (.reg [.op ⟨0, some 6, .mv (.t 0), none⟩,
  .op ⟨1, some 7, .isnil false (.t 6), none⟩,
  .op ⟨2, some 8, .mv (.t 7), none⟩,
  .op ⟨3, some 9, .mv (.t 0), some (8, false)⟩,
  .op ⟨4, some 10, .nilc (.t 9), some (8, false)⟩,
  .op ⟨5, some 11, .addr 1 (.t 10), some (8, false)⟩,
  .op ⟨6, some 12, .load (.one .ptr) (.t 11), some (8, false)⟩,
  .op ⟨7, some 13, .mv (.t 1), some (8, false)⟩,
  .op ⟨8, some 14, .call 0 [(.t 12), (.t 13)], some (8, false)⟩,
  .op ⟨9, some 15, .bin .lss (.t 14) (.c (.one (.int .i64 0))), some (8, false)⟩,
  .op ⟨10, some 16, .pick (.t 8) (.c (.one (.bool true))) (.t 15), none⟩])
 (.cond (.t 16) (.seq (.reg [.op ⟨0, some 4, .mv (.c (.one (.int .i64 1))), none⟩])
 (.ret)) (.skip)))
 (.seq (.reg [.op ⟨0, some 17, .mv (.t 0), none⟩,
  .op ⟨1, some 18, .nilc (.t 17), none⟩,
  .op ⟨2, some 19, .addr 0 (.t 18), none⟩,
  .op ⟨3, some 20, .load (.one .ptr) (.t 19), none⟩,
  .op ⟨4, some 21, .mv (.t 1), none⟩,
  .op ⟨5, some 22, .call 1 [(.t 20), (.t 21)], none⟩,
  .op ⟨6, some 5, .mv (.t 22), none⟩])
 (.seq (.reg [.op ⟨0, some 23, .mv (.t 5), none⟩])
 (.block 0 (.seq (.reg [.op ⟨0, some 26, .bin .eql (.t 23) (.c (.one (.int .i64 0))), none⟩,
  .op ⟨1, some 25, .mv (.t 26), none⟩])
 (.cond (.t 25) (.seq (.reg [.op ⟨0, some 27, .mv (.t 0), none⟩,
  .op ⟨1, some 28, .nilc (.t 27), none⟩,
  .op ⟨2, some 29, .addr 2 (.t 28), none⟩,
  .op ⟨3, some 30, .load (.one (.sl 1)) (.t 29), none⟩,
  .op ⟨4, some 31, .mv (.t 1), none⟩,
  .op ⟨5, some 32, .idxa 1 (.t 30) (.t 31), none⟩,
  .op ⟨6, some 33, .load (.one (.int .i64)) (.t 32), none⟩,
  .op ⟨7, some 34, .bin .add (.t 33) (.c (.one (.int .i64 1))), none⟩,
  .op ⟨8, some 35, .idxa 1 (.t 30) (.t 31), none⟩,
  .op ⟨9, none, .store 1 (.t 35) (.t 34), none⟩])
 (.seq (.reg [.op ⟨0, some 36, .mv (.t 0), none⟩,
  .op ⟨1, some 37, .nilc (.t 36), none⟩,
  .op ⟨2, some 38, .addr 1 (.t 37), none⟩,
  .op ⟨3, some 39, .load (.one .ptr) (.t 38), none⟩,
  .op ⟨4, some 40, .mv (.t 1), none⟩,
  .op ⟨5, some 41, .call 2 [(.t 39), (.t 40)], none⟩])
 (.seq (.reg [.op ⟨0, some 4, .mv (.c (.one (.int .i64 0))), none⟩])
 (.ret)))) (.seq (.reg [.op ⟨0, some 43, .bin .eql (.t 23) (.c (.one (.int .i64 54))), none⟩,
  .op ⟨1, some 42, .mv (.t 43), none⟩])
 (.cond (.t 42) (.seq (.reg [.op ⟨0, some 44, .mv (.t 0), none⟩,
  .op ⟨1, some 45, .mv (.t 1), none⟩,
  .op ⟨2, some 46, .call 3 [(.t 44), (.t 45)], none⟩,
  .op ⟨3, some 4, .mv (.t 46), none⟩])
 (.ret)) (.seq (.reg [.op ⟨0, some 24, .mv (.t 5), none⟩,
  .op ⟨1, some 4, .mv (.t 24), none⟩])
 (.ret))))))))))⟩
noncomputable def write_Writer_Erase (x0 : Ptr) (x1 : Int) (H : Heap) : Option ((Int × Unit) × Heap) :=
 cond (Option.isNone x0) (
 some ((1, ()), H)) (
 (x0).bind fun (a1 : Nat × Nat) =>
 (rdP H a1.1 (a1.2 + 1)).bind fun (v2 : Ptr) =>
 (life_Life_Is v2 x1 H).bind fun (r3 : ((Int × Unit) × Heap)) =>
 cond (decide (r3.1.1 < 0)) (
 some ((1, ()), r3.2)) (
 (x0).bind fun (a4 : Nat × Nat) =>
 (rdP r3.2 a4.1 a4.2).bind fun (v5 : Ptr) =>
 (nand_Chip_Erase v5 x1 r3.2).bind fun (r6 : ((Int × Unit) × Heap)) =>
 cond (decide (r6.1.1 = 0)) (
 (x0).bind fun (a7 : Nat × Nat) =>
 (rdSl 1 r6.2 a7.1 (a7.2 + 2)).bind fun (v8 : Sl) =>
 (Sl.at 1 v8 x1).bind fun (a9 : (Nat × Nat)) =>
 (rdI .i64 r6.2 a9.1 a9.2).bind fun (v10 : Int) =>
 (Sl.at 1 v8 x1).bind fun (a11 : (Nat × Nat)) =>
 (wr r6.2 a11.1 a11.2 [.int .i64 (IntKind.wrap .i64 (v10 + 1))]).bind fun (H12 : Heap) =>
 (x0).bind fun (a13 : Nat × Nat) =>
 (rdP H12 a13.1 (a13.2 + 1)).bind fun (v14 : Ptr) =>
 (life_Life_Free v14 x1 H12).bind fun (r15 : ((Bool × Unit) × Heap)) =>
 some ((0, ()), r15.2)) (
 cond (decide (r6.1.1 = 54)) (
 (write_Writer_spoil x0 x1 r6.2).bind fun (r16 : ((Int × Unit) × Heap)) =>
 some ((r16.1.1, ()), r16.2)) (
 some ((r6.1.1, ()), r6.2)))))
noncomputable def write_Writer_Erase.c : Callee := .full [.one .ptr, .one (.int .i64)] [.one (.int .i64)] (fun x H => write_Writer_Erase x.1 x.2.1 H)
noncomputable def write_Writer_Erase.calls : Nat → Option Callee
  | 0 => some life_Life_Is.c
  | 1 => some nand_Chip_Erase.c
  | 2 => some life_Life_Free.c
  | 3 => some write_Writer_spoil.c
  | _ => none
theorem write_Writer_Erase.eq : evFull write_Writer_Erase.calls write_Writer_Erase.af = (fun x H => write_Writer_Erase x.1 x.2.1 H) := by kernel_rfl

/-! ### (*tinderbox/write.Writer).Worn -/
def write_Writer_Worn.af : AFun := ⟨[.one .ptr], [.one (.sl 1)], [.t 2],
 .seq (.reg [.op ⟨0, some 2, .mv (.c (.one (.sl 1 (⟨none, 0, 0⟩)))), none⟩])
 (.seq (.seq (.reg [.op ⟨0, some 3, .mv (.t 0), none⟩,
  .op ⟨1, some 4, .isnil false (.t 3), none⟩])
 (.cond (.t 4) (.seq (.reg [.op ⟨0, some 2, .mv (.c (.one (.sl 1 (⟨none, 0, 0⟩)))), none⟩])
 (.ret)) (.skip)))
 (.seq (.reg [.op ⟨0, some 5, .mv (.t 0), none⟩,
  .op ⟨1, some 6, .nilc (.t 5), none⟩,
  .op ⟨2, some 7, .addr 2 (.t 6), none⟩,
  .op ⟨3, some 8, .load (.one (.sl 1)) (.t 7), none⟩,
  .op ⟨4, some 9, .call 0 [(.t 8)], none⟩,
  .op ⟨5, some 2, .mv (.t 9), none⟩])
 (.ret)))⟩
noncomputable def write_Writer_Worn (x0 : Ptr) (H : Heap) : Option ((Sl × Unit) × Heap) :=
 cond (Option.isNone x0) (
 some ((⟨none, 0, 0⟩, ()), H)) (
 (x0).bind fun (a1 : Nat × Nat) =>
 (rdSl 1 H a1.1 (a1.2 + 2)).bind fun (v2 : Sl) =>
 (slices_Clone_int_int v2 H).bind fun (r3 : ((Sl × Unit) × Heap)) =>
 some ((r3.1.1, ()), r3.2))
noncomputable def write_Writer_Worn.c : Callee := .full [.one .ptr] [.one (.sl 1)] (fun x H => write_Writer_Worn x.1 H)
noncomputable def write_Writer_Worn.calls : Nat → Option Callee
  | 0 => some slices_Clone_int_int.c
  | _ => none
theorem write_Writer_Worn.eq : evFull write_Writer_Worn.calls write_Writer_Worn.af = (fun x H => write_Writer_Worn x.1 H) := by kernel_rfl
end Ev
