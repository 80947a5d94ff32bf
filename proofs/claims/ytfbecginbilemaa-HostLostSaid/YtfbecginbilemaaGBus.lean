/- What the functions of the package Bus compute: abstract code, and a function of plain Lean for each; the kernel checks that they are the same. Written by gen2.py. -/
import Derived.Test.YtfbecginbilemaaEvCore
import Derived.Test.YtfbecginbilemaaGCode
import Derived.Test.YtfbecginbilemaaGCrc
import Derived.Test.YtfbecginbilemaaGNand
import Derived.KernelRfl
set_option linter.unusedVariables false
set_option maxRecDepth 100000
namespace Ev
open Go (IntKind BinOp UnOp)

/-! ### tinderbox/bus.New -/
def bus_New.af : AFun := ⟨[.one .ptr], [.one .ptr, .one (.int .i64)], [.t 2, .t 3],
 .seq (.reg [.op ⟨0, some 2, .mv (.c (.one (.ptr none))), none⟩,
  .op ⟨1, some 3, .mv (.c (.one (.int .i64 0))), none⟩])
 (.seq (.seq (.reg [.op ⟨0, some 4, .mv (.t 0), none⟩,
  .op ⟨1, some 5, .call 0 [(.t 4)], none⟩,
  .op ⟨2, some 6, .field (.one (.int .i64)) 0 (.t 5), none⟩,
  .op ⟨3, some 7, .bin .eql (.t 6) (.c (.one (.int .i64 0))), none⟩])
 (.cond (.t 7) (.seq (.reg [.op ⟨0, some 2, .mv (.c (.one (.ptr none))), none⟩,
  .op ⟨1, some 3, .mv (.c (.one (.int .i64 1))), none⟩])
 (.ret)) (.skip)))
 (.seq (.reg [.op ⟨0, some 8, .mv (.t 0), none⟩,
  .op ⟨1, some 9, .build [.ptr none, .int .i64 0, .int .u8 0, .int .i64 0, .sl 1 Sl.nil, .sl 1 Sl.nil, .str [], .int .i64 0, .int .i64 0, .bool false, .bool false, .int .i64 0] [(0, 1, (.t 8))], none⟩,
  .op ⟨2, some 10, .box (.t 9), none⟩,
  .op ⟨3, some 2, .mv (.t 10), none⟩,
  .op ⟨4, some 3, .mv (.c (.one (.int .i64 0))), none⟩])
 (.ret)))⟩
noncomputable def bus_New (x0 : Ptr) (H : Heap) : Option ((Ptr × Int × Unit) × Heap) :=
 (nand_Chip_Geometry x0 H).bind fun (r1 : (((Int × Int × Int × Unit) × Unit) × Heap)) =>
 cond (decide (r1.1.1.1 = 0)) (
 some ((none, 1, ()), r1.2)) (
 let H2 : Heap := r1.2 ++ [Blk.cells [.ptr x0, .int .i64 0, .int .u8 0, .int .i64 0, .sl 1 (⟨none, 0, 0⟩), .sl 1 (⟨none, 0, 0⟩), .str [], .int .i64 0, .int .i64 0, .bool false, .bool false, .int .i64 0] .exact]
 some ((some (r1.2.length, 0), 0, ()), H2))
noncomputable def bus_New.c : Callee := .full [.one .ptr] [.one .ptr, .one (.int .i64)] (fun x H => bus_New x.1 H)
noncomputable def bus_New.calls : Nat → Option Callee
  | 0 => some nand_Chip_Geometry.c
  | _ => none
theorem bus_New.eq : evFull bus_New.calls bus_New.af = (fun x H => bus_New x.1 H) := by kernel_rfl

/-! ### (*tinderbox/bus.Bus).reset -/
def bus_Bus_reset.af : AFun := ⟨[.one .ptr], [], [],
 .reg [.op ⟨0, some 2, .mv (.t 0), none⟩,
  .op ⟨1, some 3, .mv (.t 0), none⟩,
  .op ⟨2, some 4, .nilc (.t 3), none⟩,
  .op ⟨3, some 5, .addr 0 (.t 4), none⟩,
  .op ⟨4, some 6, .load (.one .ptr) (.t 5), none⟩,
  .op ⟨5, some 7, .mv (.t 0), none⟩,
  .op ⟨6, some 8, .nilc (.t 7), none⟩,
  .op ⟨7, some 9, .addr 11 (.t 8), none⟩,
  .op ⟨8, some 10, .load (.one (.int .i64)) (.t 9), none⟩,
  .op ⟨9, some 11, .build [.ptr none, .int .i64 0, .int .u8 0, .int .i64 0, .sl 1 Sl.nil, .sl 1 Sl.nil, .str [], .int .i64 0, .int .i64 0, .bool false, .bool false, .int .i64 0] [(0, 1, (.t 6)), (11, 1, (.t 10)), (8, 1, (.c (.one (.int .i64 3))))], none⟩,
  .op ⟨10, some 12, .nilc (.t 2), none⟩,
  .op ⟨11, none, .store 12 (.t 12) (.t 11), none⟩]⟩
noncomputable def bus_Bus_reset (x0 : Ptr) (H : Heap) : Option ((Unit) × Heap) :=
 (x0).bind fun (a1 : Nat × Nat) =>
 (rdP H a1.1 a1.2).bind fun (v2 : Ptr) =>
 (x0).bind fun (a3 : Nat × Nat) =>
 (rdI .i64 H a3.1 (a3.2 + 11)).bind fun (v4 : Int) =>
 (x0).bind fun (a5 : Nat × Nat) =>
 (wr H a5.1 a5.2 [.ptr v2, .int .i64 0, .int .u8 0, .int .i64 0, .sl 1 (⟨none, 0, 0⟩), .sl 1 (⟨none, 0, 0⟩), .str [], .int .i64 0, .int .i64 3, .bool false, .bool false, .int .i64 v4]).bind fun (H6 : Heap) =>
 some ((()), H6)
noncomputable def bus_Bus_reset.c : Callee := .full [.one .ptr] [] (fun x H => bus_Bus_reset x.1 H)
noncomputable def bus_Bus_reset.calls : Nat → Option Callee
  | _ => none
theorem bus_Bus_reset.eq : evFull bus_Bus_reset.calls bus_Bus_reset.af = (fun x H => bus_Bus_reset x.1 H) := by kernel_rfl

/-! ### (*tinderbox/bus.Bus).ready -/
def bus_Bus_ready.af : AFun := ⟨[.one .ptr], [.one .bool], [.t 2],
 .seq (.reg [.op ⟨0, some 2, .mv (.c (.one (.bool false))), none⟩])
 (.seq (.reg [.op ⟨0, some 3, .mv (.t 0), none⟩,
  .op ⟨1, some 4, .nilc (.t 3), none⟩,
  .op ⟨2, some 5, .addr 8 (.t 4), none⟩,
  .op ⟨3, some 6, .load (.one (.int .i64)) (.t 5), none⟩,
  .op ⟨4, some 7, .bin .eql (.t 6) (.c (.one (.int .i64 0))), none⟩,
  .op ⟨5, some 2, .mv (.t 7), none⟩])
 (.ret))⟩
noncomputable def bus_Bus_ready (x0 : Ptr) (H : Heap) : Option ((Bool × Unit) × Heap) :=
 (x0).bind fun (a1 : Nat × Nat) =>
 (rdI .i64 H a1.1 (a1.2 + 8)).bind fun (v2 : Int) =>
 some (((decide (v2 = 0)), ()), H)
noncomputable def bus_Bus_ready.c : Callee := .full [.one .ptr] [.one .bool] (fun x H => bus_Bus_ready x.1 H)
noncomputable def bus_Bus_ready.calls : Nat → Option Callee
  | _ => none
theorem bus_Bus_ready.eq : evFull bus_Bus_ready.calls bus_Bus_ready.af = (fun x H => bus_Bus_ready x.1 H) := by kernel_rfl

/-! ### (*tinderbox/bus.Bus).violate -/
def bus_Bus_violate.af : AFun := ⟨[.one .ptr], [], [],
 .reg [.op ⟨0, some 2, .mv (.t 0), none⟩,
  .op ⟨1, some 3, .nilc (.t 2), none⟩,
  .op ⟨2, some 4, .addr 11 (.t 3), none⟩,
  .op ⟨3, some 5, .load (.one (.int .i64)) (.t 4), none⟩,
  .op ⟨4, some 6, .bin .add (.t 5) (.c (.one (.int .i64 1))), none⟩,
  .op ⟨5, some 7, .nilc (.t 2), none⟩,
  .op ⟨6, some 8, .addr 11 (.t 7), none⟩,
  .op ⟨7, none, .store 1 (.t 8) (.t 6), none⟩]⟩
noncomputable def bus_Bus_violate (x0 : Ptr) (H : Heap) : Option ((Unit) × Heap) :=
 (x0).bind fun (a1 : Nat × Nat) =>
 (rdI .i64 H a1.1 (a1.2 + 11)).bind fun (v2 : Int) =>
 (x0).bind fun (a3 : Nat × Nat) =>
 (wr H a3.1 (a3.2 + 11) [.int .i64 (IntKind.wrap .i64 (v2 + 1))]).bind fun (H4 : Heap) =>
 some ((()), H4)
noncomputable def bus_Bus_violate.c : Callee := .full [.one .ptr] [] (fun x H => bus_Bus_violate x.1 H)
noncomputable def bus_Bus_violate.calls : Nat → Option Callee
  | _ => none
theorem bus_Bus_violate.eq : evFull bus_Bus_violate.calls bus_Bus_violate.af = (fun x H => bus_Bus_violate x.1 H) := by kernel_rfl

/-! ### tinderbox/bus.wants -/
def bus_wants.af : AFun := ⟨[.one (.int .u8)], [.one (.int .i64)], [.t 2],
 .seq (.reg [.op ⟨0, some 2, .mv (.c (.one (.int .i64 0))), none⟩])
 (.seq (.seq (.reg [.op ⟨0, some 3, .mv (.t 0), none⟩])
 (.block 0 (.seq (.scope [(.normal, [(4, .one .bool)])] (.seq (.reg [.op ⟨0, some 5, .bin .eql (.t 3) (.c (.one (.int .u8 0))), none⟩,
  .op ⟨1, some 4, .mv (.t 5), none⟩])
 (.cond (.t 4) (.skip) (.reg [.op ⟨0, some 6, .bin .eql (.t 3) (.c (.one (.int .u8 128))), none⟩,
  .op ⟨1, some 4, .mv (.t 6), none⟩]))))
 (.cond (.t 4) (.seq (.reg [.op ⟨0, some 2, .mv (.c (.one (.int .i64 5))), none⟩])
 (.ret)) (.seq (.seq (.reg [.op ⟨0, some 8, .bin .eql (.t 3) (.c (.one (.int .u8 96))), none⟩,
  .op ⟨1, some 7, .mv (.t 8), none⟩])
 (.cond (.t 7) (.skip) (.seq (.reg [.op ⟨0, some 9, .bin .eql (.t 3) (.c (.one (.int .u8 160))), none⟩,
  .op ⟨1, some 7, .mv (.t 9), none⟩])
 (.cond (.t 7) (.skip) (.reg [.op ⟨0, some 10, .bin .eql (.t 3) (.c (.one (.int .u8 165))), none⟩,
  .op ⟨1, some 7, .mv (.t 10), none⟩])))))
 (.cond (.t 7) (.seq (.reg [.op ⟨0, some 2, .mv (.c (.one (.int .i64 3))), none⟩])
 (.ret)) (.skip)))))))
 (.seq (.reg [.op ⟨0, some 2, .mv (.c (.one (.int .i64 1))), none⟩])
 (.ret)))⟩
noncomputable def bus_wants.on (x0 : Int) (H : Heap) : Option (Int × Unit) :=
 (cond (decide (x0 = 0)) (
 some (((decide (x0 = 0)), ()), H)) (
 some (((decide (x0 = 128)), ()), H)) : Option ((Bool × Unit) × Heap)).bind fun (p1 : (Bool × Unit) × Heap) =>
 cond p1.1.1 (
 some (5, ())) (
 cond (decide (x0 = 96)) (
 cond (decide (x0 = 96)) (
 some (3, ())) (
 some (1, ()))) (
 cond (decide (x0 = 160)) (
 cond (decide (x0 = 160)) (
 some (3, ())) (
 some (1, ()))) (
 cond (decide (x0 = 165)) (
 some (3, ())) (
 some (1, ())))))
noncomputable def bus_wants (x0 : Int) : Option (Int × Unit) := bus_wants.on x0 []
noncomputable def bus_wants.c : Callee := .pure [.one (.int .u8)] [.one (.int .i64)] (fun x => bus_wants x.1)
noncomputable def bus_wants.calls : Nat → Option Callee
  | _ => none
theorem bus_wants.eq : evPure bus_wants.calls bus_wants.af = (fun x H => bus_wants.on x.1 H) := by kernel_rfl

/-! ### (*tinderbox/bus.Bus).row -/
def bus_Bus_row.af : AFun := ⟨[.one .ptr], [.one (.int .i64)], [.t 2],
 .seq (.reg [.op ⟨0, some 2, .mv (.c (.one (.int .i64 0))), none⟩])
 (.seq (.reg [.op ⟨0, some 3, .mv (.c (.one (.int .i64 0))), none⟩])
 (.seq (.reg [.op ⟨0, some 6, .mv (.t 0), none⟩,
  .op ⟨1, some 7, .nilc (.t 6), none⟩,
  .op ⟨2, some 8, .addr 4 (.t 7), none⟩,
  .op ⟨3, some 9, .load (.one (.sl 1)) (.t 8), none⟩,
  .op ⟨4, some 10, .mv (.t 0), none⟩,
  .op ⟨5, some 11, .nilc (.t 10), none⟩,
  .op ⟨6, some 12, .addr 4 (.t 11), none⟩,
  .op ⟨7, some 13, .load (.one (.sl 1)) (.t 12), none⟩,
  .op ⟨8, some 14, .len (.t 13), none⟩,
  .op ⟨9, some 15, .bin .sub (.t 14) (.c (.one (.int .i64 3))), none⟩,
  .op ⟨10, some 16, .slc 1 (.t 9) (some (.t 15)) none none, none⟩,
  .op ⟨11, some 4, .mv (.t 16), none⟩])
 (.seq (.seq (.reg [.op ⟨0, some 17, .mv (.t 4), none⟩,
  .op ⟨1, some 18, .len (.t 17), none⟩,
  .op ⟨2, some 19, .bin .sub (.t 18) (.c (.one (.int .i64 1))), none⟩,
  .op ⟨3, some 5, .mv (.t 19), none⟩])
 (.block 0 (.loop [(3, .one (.int .i64)), (5, .one (.int .i64))] [(.exit 0, [(3, .one (.int .i64))])] (.seq (.seq (.reg [.op ⟨0, some 20, .mv (.t 5), none⟩,
  .op ⟨1, some 21, .bin .geq (.t 20) (.c (.one (.int .i64 0))), none⟩])
 (.cond (.t 21) (.skip) (.exit 0)))
 (.seq (.block 1 (.reg [.op ⟨0, some 24, .mv (.t 3), none⟩,
  .op ⟨1, some 25, .bin .shl (.t 24) (.c (.one (.int .u64 8))), none⟩,
  .op ⟨2, some 26, .mv (.t 4), none⟩,
  .op ⟨3, some 27, .mv (.t 5), none⟩,
  .op ⟨4, some 28, .idxa 1 (.t 26) (.t 27), none⟩,
  .op ⟨5, some 29, .load (.one (.int .u8)) (.t 28), none⟩,
  .op ⟨6, some 30, .conv .i64 (.t 29), none⟩,
  .op ⟨7, some 31, .bin .or (.t 25) (.t 30), none⟩,
  .op ⟨8, some 3, .mv (.t 31), none⟩]))
 (.reg [.op ⟨0, some 22, .mv (.t 5), none⟩,
  .op ⟨1, some 23, .bin .sub (.t 22) (.c (.one (.int .i64 1))), none⟩,
  .op ⟨2, some 5, .mv (.t 23), none⟩]))))))
 (.seq (.reg [.op ⟨0, some 32, .mv (.t 3), none⟩,
  .op ⟨1, some 2, .mv (.t 32), none⟩])
 (.ret)))))⟩
noncomputable def bus_Bus_row.s1 (t5 : Sl) (s6 : (Int × Int × Unit)) (H7 : Heap) : Option (((Int × Int × Unit) ⊕ (Int × Unit)) × Heap) :=
 cond (decide (0 ≤ s6.2.1)) (
 (Sl.at 1 t5 s6.2.1).bind fun (a8 : (Nat × Nat)) =>
 (rdI .u8 H7 a8.1 a8.2).bind fun (v9 : Int) =>
 some (Sum.inl ((bitsI .or .i64 (IntKind.wrap .i64 (s6.1 * 2 ^ (min (Int.toNat 8) (IntKind.bits .i64)))) (IntKind.wrap .i64 v9)), (IntKind.wrap .i64 (s6.2.1 - 1)), ()), H7)) (
 some (Sum.inr (s6.1, ()), H7))
noncomputable def bus_Bus_row (x0 : Ptr) (H : Heap) : Option ((Int × Unit) × Heap) :=
 (x0).bind fun (a1 : Nat × Nat) =>
 (rdSl 1 H a1.1 (a1.2 + 4)).bind fun (v2 : Sl) =>
 (x0).bind fun (a3 : Nat × Nat) =>
 (rdSl 1 H a3.1 (a3.2 + 4)).bind fun (v4 : Sl) =>
 (Sl.sub 1 v2 (IntKind.wrap .i64 ((v4.len : Int) - 3)) (v2.len : Int) (v2.cap : Int)).bind fun (t5 : Sl) =>
 (loopW (bus_Bus_row.s1 t5) (0, (IntKind.wrap .i64 ((t5.len : Int) - 1)), ()) H).bind fun (p10 : (Int × Unit) × Heap) =>
 some ((p10.1.1, ()), p10.2)
noncomputable def bus_Bus_row.c : Callee := .full [.one .ptr] [.one (.int .i64)] (fun x H => bus_Bus_row x.1 H)
noncomputable def bus_Bus_row.calls : Nat → Option Callee
  | _ => none
theorem bus_Bus_row.eq : evFull bus_Bus_row.calls bus_Bus_row.af = (fun x H => bus_Bus_row x.1 H) := by kernel_rfl

/-! ### (*tinderbox/bus.Bus).column -/
def bus_Bus_column.af : AFun := ⟨[.one .ptr], [.one (.int .i64)], [.t 2],
 .seq (.reg [.op ⟨0, some 2, .mv (.c (.one (.int .i64 0))), none⟩])
 (.seq (.reg [.op ⟨0, some 3, .mv (.t 0), none⟩,
  .op ⟨1, some 4, .nilc (.t 3), none⟩,
  .op ⟨2, some 5, .addr 4 (.t 4), none⟩,
  .op ⟨3, some 6, .load (.one (.sl 1)) (.t 5), none⟩,
  .op ⟨4, some 7, .idxa 1 (.t 6) (.c (.one (.int .i64 0))), none⟩,
  .op ⟨5, some 8, .load (.one (.int .u8)) (.t 7), none⟩,
  .op ⟨6, some 9, .conv .i64 (.t 8), none⟩,
  .op ⟨7, some 10, .mv (.t 0), none⟩,
  .op ⟨8, some 11, .nilc (.t 10), none⟩,
  .op ⟨9, some 12, .addr 4 (.t 11), none⟩,
  .op ⟨10, some 13, .load (.one (.sl 1)) (.t 12), none⟩,
  .op ⟨11, some 14, .idxa 1 (.t 13) (.c (.one (.int .i64 1))), none⟩,
  .op ⟨12, some 15, .load (.one (.int .u8)) (.t 14), none⟩,
  .op ⟨13, some 16, .conv .i64 (.t 15), none⟩,
  .op ⟨14, some 17, .bin .shl (.t 16) (.c (.one (.int .u64 8))), none⟩,
  .op ⟨15, some 18, .bin .or (.t 9) (.t 17), none⟩,
  .op ⟨16, some 2, .mv (.t 18), none⟩])
 (.ret))⟩
noncomputable def bus_Bus_column (x0 : Ptr) (H : Heap) : Option ((Int × Unit) × Heap) :=
 (x0).bind fun (a1 : Nat × Nat) =>
 (rdSl 1 H a1.1 (a1.2 + 4)).bind fun (v2 : Sl) =>
 (Sl.at 1 v2 0).bind fun (a3 : (Nat × Nat)) =>
 (rdI .u8 H a3.1 a3.2).bind fun (v4 : Int) =>
 (x0).bind fun (a5 : Nat × Nat) =>
 (rdSl 1 H a5.1 (a5.2 + 4)).bind fun (v6 : Sl) =>
 (Sl.at 1 v6 1).bind fun (a7 : (Nat × Nat)) =>
 (rdI .u8 H a7.1 a7.2).bind fun (v8 : Int) =>
 some (((bitsI .or .i64 (IntKind.wrap .i64 v4) (IntKind.wrap .i64 ((IntKind.wrap .i64 v8) * 2 ^ (min (Int.toNat 8) (IntKind.bits .i64))))), ()), H)
noncomputable def bus_Bus_column.c : Callee := .full [.one .ptr] [.one (.int .i64)] (fun x H => bus_Bus_column x.1 H)
noncomputable def bus_Bus_column.calls : Nat → Option Callee
  | _ => none
theorem bus_Bus_column.eq : evFull bus_Bus_column.calls bus_Bus_column.af = (fun x H => bus_Bus_column x.1 H) := by kernel_rfl

/-! ### (*tinderbox/bus.Bus).tell -/
def bus_Bus_tell.af : AFun := ⟨[.one .ptr, .one .str], [], [],
 .reg [.op ⟨0, some 4, .mv (.t 0), none⟩,
  .op ⟨1, some 5, .mv (.t 0), none⟩,
  .op ⟨2, some 6, .mv (.t 0), none⟩,
  .op ⟨3, some 7, .mv (.t 1), none⟩,
  .op ⟨4, some 8, .nilc (.t 4), none⟩,
  .op ⟨5, some 9, .addr 1 (.t 8), none⟩,
  .op ⟨6, none, .store 1 (.t 9) (.c (.one (.int .i64 4))), none⟩,
  .op ⟨7, some 10, .nilc (.t 5), none⟩,
  .op ⟨8, some 11, .addr 6 (.t 10), none⟩,
  .op ⟨9, none, .store 1 (.t 11) (.t 7), none⟩,
  .op ⟨10, some 12, .nilc (.t 6), none⟩,
  .op ⟨11, some 13, .addr 7 (.t 12), none⟩,
  .op ⟨12, none, .store 1 (.t 13) (.c (.one (.int .i64 0))), none⟩]⟩
noncomputable def bus_Bus_tell (x0 : Ptr) (x1 : Bytes) (H : Heap) : Option ((Unit) × Heap) :=
 (x0).bind fun (a1 : Nat × Nat) =>
 (wr H a1.1 (a1.2 + 1) [.int .i64 4]).bind fun (H2 : Heap) =>
 (x0).bind fun (a3 : Nat × Nat) =>
 (wr H2 a3.1 (a3.2 + 6) [.str x1]).bind fun (H4 : Heap) =>
 (x0).bind fun (a5 : Nat × Nat) =>
 (wr H4 a5.1 (a5.2 + 7) [.int .i64 0]).bind fun (H6 : Heap) =>
 some ((()), H6)
noncomputable def bus_Bus_tell.c : Callee := .full [.one .ptr, .one .str] [] (fun x H => bus_Bus_tell x.1 x.2.1 H)
noncomputable def bus_Bus_tell.calls : Nat → Option Callee
  | _ => none
theorem bus_Bus_tell.eq : evFull bus_Bus_tell.calls bus_Bus_tell.af = (fun x H => bus_Bus_tell x.1 x.2.1 H) := by kernel_rfl

/-! ### (*tinderbox/bus.Bus).write -/
def bus_Bus_write.af : AFun := ⟨[.one .ptr], [], [],
 .seq (.reg [.op ⟨0, some 5, .mv (.t 0), none⟩,
  .op ⟨1, some 6, .nilc (.t 5), none⟩,
  .op ⟨2, some 7, .addr 0 (.t 6), none⟩,
  .op ⟨3, some 8, .load (.one .ptr) (.t 7), none⟩,
  .op ⟨4, some 9, .call 0 [(.t 8)], none⟩,
  .op ⟨5, some 2, .new [.int .i64 0, .int .i64 0, .int .i64 0], none⟩,
  .op ⟨6, none, .store 3 (.t 2) (.t 9), none⟩])
 (.seq (.reg [.op ⟨0, some 10, .bslice 1 1 [.int .u8 0] [(0, 1, (.c (.one (.int .u8 255))))], none⟩,
  .op ⟨1, some 11, .b2s (.t 10), none⟩,
  .op ⟨2, some 12, .addr 2 (.t 2), none⟩,
  .op ⟨3, some 13, .load (.one (.int .i64)) (.t 12), none⟩,
  .op ⟨4, some 14, .bin .add (.t 13) (.c (.one (.int .i64 32))), none⟩,
  .op ⟨5, some 15, .call 1 [(.t 11), (.t 14)], none⟩,
  .op ⟨6, some 16, .s2b (.t 15), none⟩,
  .op ⟨7, some 3, .mv (.t 16), none⟩])
 (.seq (.reg [.op ⟨0, some 17, .mv (.t 3), none⟩,
  .op ⟨1, some 18, .mv (.t 0), none⟩,
  .op ⟨3, some 20, .mv (.t 3), none⟩,
  .op ⟨4, some 21, .len (.t 20), none⟩,
  .op ⟨7, some 24, .mv (.t 0), none⟩,
  .op ⟨8, some 25, .nilc (.t 24), none⟩,
  .op ⟨9, some 26, .addr 5 (.t 25), none⟩,
  .op ⟨10, some 27, .load (.one (.sl 1)) (.t 26), none⟩,
  .op ⟨2, some 19, .call 2 [(.t 18)], none⟩,
  .op ⟨5, some 22, .min [(.t 19), (.t 21)], none⟩,
  .op ⟨6, some 23, .slc 1 (.t 17) (some (.t 22)) none none, none⟩,
  .again ⟨10, some 27, .load (.one (.sl 1)) (.t 26), none⟩,
  .op ⟨11, some 28, .cpy 1 (.t 23) (.t 27), none⟩])
 (.seq (.reg [.op ⟨0, some 29, .mv (.t 0), none⟩,
  .op ⟨1, some 30, .nilc (.t 29), none⟩,
  .op ⟨2, some 31, .addr 0 (.t 30), none⟩,
  .op ⟨3, some 32, .load (.one .ptr) (.t 31), none⟩,
  .op ⟨4, some 33, .mv (.t 0), none⟩,
  .op ⟨6, some 35, .addr 1 (.t 2), none⟩,
  .op ⟨7, some 36, .load (.one (.int .i64)) (.t 35), none⟩,
  .op ⟨9, some 38, .mv (.t 0), none⟩,
  .op ⟨11, some 40, .addr 1 (.t 2), none⟩,
  .op ⟨12, some 41, .load (.one (.int .i64)) (.t 40), none⟩,
  .op ⟨14, some 43, .mv (.t 3), none⟩,
  .op ⟨15, some 44, .addr 2 (.t 2), none⟩,
  .op ⟨16, some 45, .load (.one (.int .i64)) (.t 44), none⟩,
  .op ⟨17, some 46, .slc 1 (.t 43) none (some (.t 45)) none, none⟩,
  .op ⟨18, some 47, .b2s (.t 46), none⟩,
  .op ⟨19, some 48, .mv (.t 3), none⟩,
  .op ⟨20, some 49, .addr 2 (.t 2), none⟩,
  .op ⟨21, some 50, .load (.one (.int .i64)) (.t 49), none⟩,
  .op ⟨22, some 51, .slc 1 (.t 48) (some (.t 50)) none none, none⟩,
  .op ⟨23, some 52, .b2s (.t 51), none⟩,
  .op ⟨5, some 34, .call 3 [(.t 33)], none⟩,
  .op ⟨8, some 37, .bin .quo (.t 34) (.t 36), none⟩,
  .again ⟨3, some 32, .load (.one .ptr) (.t 31), none⟩,
  .again ⟨7, some 36, .load (.one (.int .i64)) (.t 35), none⟩,
  .again ⟨12, some 41, .load (.one (.int .i64)) (.t 40), none⟩,
  .again ⟨16, some 45, .load (.one (.int .i64)) (.t 44), none⟩,
  .again ⟨18, some 47, .b2s (.t 46), none⟩,
  .again ⟨21, some 50, .load (.one (.int .i64)) (.t 49), none⟩,
  .again ⟨23, some 52, .b2s (.t 51), none⟩,
  .op ⟨10, some 39, .call 3 [(.t 38)], none⟩,
  .op ⟨13, some 42, .bin .rem (.t 39) (.t 41), none⟩,
  .again ⟨3, some 32, .load (.one .ptr) (.t 31), none⟩,
  .again ⟨7, some 36, .load (.one (.int .i64)) (.t 35), none⟩,
  .again ⟨12, some 41, .load (.one (.int .i64)) (.t 40), none⟩,
  .again ⟨16, some 45, .load (.one (.int .i64)) (.t 44), none⟩,
  .again ⟨18, some 47, .b2s (.t 46), none⟩,
  .again ⟨21, some 50, .load (.one (.int .i64)) (.t 49), none⟩,
  .again ⟨23, some 52, .b2s (.t 51), none⟩,
  .op ⟨24, some 53, .call 4 [(.t 32), (.t 37), (.t 42), (.t 47), (.t 52)], none⟩,
  .op ⟨25, some 4, .mv (.t 53), none⟩])
 (.seq (.reg [.op ⟨0, some 54, .mv (.t 0), none⟩,
  .op ⟨1, some 55, .mv (.t 4), none⟩,
  .op ⟨2, some 56, .bin .neq (.t 55) (.c (.one (.int .i64 0))), none⟩,
  .op ⟨3, some 57, .nilc (.t 54), none⟩,
  .op ⟨4, some 58, .addr 9 (.t 57), none⟩,
  .op ⟨5, none, .store 1 (.t 58) (.t 56), none⟩])
 (.reg [.op ⟨0, some 59, .mv (.t 0), none⟩,
  .op ⟨1, some 60, .mv (.t 0), none⟩,
  .op ⟨2, some 61, .nilc (.t 59), none⟩,
  .op ⟨3, some 62, .addr 1 (.t 61), none⟩,
  .op ⟨4, none, .store 1 (.t 62) (.c (.one (.int .i64 0))), none⟩,
  .op ⟨5, some 63, .nilc (.t 60), none⟩,
  .op ⟨6, some 64, .addr 8 (.t 63), none⟩,
  .op ⟨7, none, .store 1 (.t 64) (.c (.one (.int .i64 7))), none⟩])))))⟩
noncomputable def bus_Bus_write (x0 : Ptr) (H : Heap) : Option ((Unit) × Heap) :=
 (x0).bind fun (a1 : Nat × Nat) =>
 (rdP H a1.1 a1.2).bind fun (v2 : Ptr) =>
 (nand_Chip_Geometry v2 H).bind fun (r3 : (((Int × Int × Int × Unit) × Unit) × Heap)) =>
 let H4 : Heap := r3.2 ++ [Blk.cells [.int .i64 0, .int .i64 0, .int .i64 0] .exact]
 (wr H4 r3.2.length 0 [.int .i64 r3.1.1.1, .int .i64 r3.1.1.2.1, .int .i64 r3.1.1.2.2.1]).bind fun (H5 : Heap) =>
 let H6 : Heap := H5 ++ [Blk.cells [.int .u8 255] .exact]
 (strOf H6 (⟨some (H5.length, 0), 1, 1⟩)).bind fun (s7 : Bytes) =>
 (rdI .i64 H6 r3.2.length 2).bind fun (v8 : Int) =>
 (strings_Repeat s7 (IntKind.wrap .i64 (v8 + 32))).bind fun (r9 : (Bytes × Unit)) =>
 let H10 : Heap := H6 ++ [Blk.cells (cellsOf r9.1) .loose]
 (x0).bind fun (a11 : Nat × Nat) =>
 (rdSl 1 H10 a11.1 (a11.2 + 5)).bind fun (v12 : Sl) =>
 (bus_Bus_column x0 H10).bind fun (r13 : ((Int × Unit) × Heap)) =>
 (Sl.sub 1 (⟨some (H6.length, 0), (List.length (r9.1 : Bytes)), (List.length (r9.1 : Bytes))⟩) (if ((List.length (r9.1 : Bytes)) : Int) < r13.1.1 then ((List.length (r9.1 : Bytes)) : Int) else r13.1.1) ((List.length (r9.1 : Bytes)) : Int) ((List.length (r9.1 : Bytes)) : Int)).bind fun (t14 : Sl) =>
 (rdSl 1 r13.2 a11.1 (a11.2 + 5)).bind fun (v15 : Sl) =>
 if V.w (.one (.sl 1 v15)) = V.w (.one (.sl 1 v12)) then
 (slRow r13.2 1 ⟨v12.p, min v12.len t14.len, v12.cap⟩).bind fun (cs16 : (List C)) =>
 (cpyS r13.2 1 t14 (min v12.len t14.len) cs16).bind fun (p17 : (Int × Heap)) =>
 (x0).bind fun (a18 : Nat × Nat) =>
 (rdP p17.2 a18.1 a18.2).bind fun (v19 : Ptr) =>
 (rdI .i64 p17.2 r3.2.length 1).bind fun (v20 : Int) =>
 (rdI .i64 p17.2 r3.2.length 1).bind fun (v21 : Int) =>
 (rdI .i64 p17.2 r3.2.length 2).bind fun (v22 : Int) =>
 (Sl.sub 1 (⟨some (H6.length, 0), (List.length (r9.1 : Bytes)), (List.length (r9.1 : Bytes))⟩) 0 v22 ((List.length (r9.1 : Bytes)) : Int)).bind fun (t23 : Sl) =>
 (strOf p17.2 t23).bind fun (s24 : Bytes) =>
 (rdI .i64 p17.2 r3.2.length 2).bind fun (v25 : Int) =>
 (Sl.sub 1 (⟨some (H6.length, 0), (List.length (r9.1 : Bytes)), (List.length (r9.1 : Bytes))⟩) v25 ((List.length (r9.1 : Bytes)) : Int) ((List.length (r9.1 : Bytes)) : Int)).bind fun (t26 : Sl) =>
 (strOf p17.2 t26).bind fun (s27 : Bytes) =>
 (bus_Bus_row x0 p17.2).bind fun (r28 : ((Int × Unit) × Heap)) =>
 cond (decide (v20 = 0)) none (
 (rdP r28.2 a18.1 a18.2).bind fun (v29 : Ptr) =>
 if V.w (.one (.ptr v29)) = V.w (.one (.ptr v19)) then
 (rdI .i64 r28.2 r3.2.length 1).bind fun (v30 : Int) =>
 if V.w (.one (.int .i64 v30)) = V.w (.one (.int .i64 v20)) then
 (rdI .i64 r28.2 r3.2.length 1).bind fun (v31 : Int) =>
 if V.w (.one (.int .i64 v31)) = V.w (.one (.int .i64 v21)) then
 (rdI .i64 r28.2 r3.2.length 2).bind fun (v32 : Int) =>
 if V.w (.one (.int .i64 v32)) = V.w (.one (.int .i64 v22)) then
 (strOf r28.2 t23).bind fun (s33 : Bytes) =>
 if V.w (.one (.str s33)) = V.w (.one (.str s24)) then
 (rdI .i64 r28.2 r3.2.length 2).bind fun (v34 : Int) =>
 if V.w (.one (.int .i64 v34)) = V.w (.one (.int .i64 v25)) then
 (strOf r28.2 t26).bind fun (s35 : Bytes) =>
 if V.w (.one (.str s35)) = V.w (.one (.str s27)) then
 (bus_Bus_row x0 r28.2).bind fun (r36 : ((Int × Unit) × Heap)) =>
 cond (decide (v21 = 0)) none (
 (rdP r36.2 a18.1 a18.2).bind fun (v37 : Ptr) =>
 if V.w (.one (.ptr v37)) = V.w (.one (.ptr v19)) then
 (rdI .i64 r36.2 r3.2.length 1).bind fun (v38 : Int) =>
 if V.w (.one (.int .i64 v38)) = V.w (.one (.int .i64 v20)) then
 (rdI .i64 r36.2 r3.2.length 1).bind fun (v39 : Int) =>
 if V.w (.one (.int .i64 v39)) = V.w (.one (.int .i64 v21)) then
 (rdI .i64 r36.2 r3.2.length 2).bind fun (v40 : Int) =>
 if V.w (.one (.int .i64 v40)) = V.w (.one (.int .i64 v22)) then
 (strOf r36.2 t23).bind fun (s41 : Bytes) =>
 if V.w (.one (.str s41)) = V.w (.one (.str s24)) then
 (rdI .i64 r36.2 r3.2.length 2).bind fun (v42 : Int) =>
 if V.w (.one (.int .i64 v42)) = V.w (.one (.int .i64 v25)) then
 (strOf r36.2 t26).bind fun (s43 : Bytes) =>
 if V.w (.one (.str s43)) = V.w (.one (.str s27)) then
 (nand_Chip_Program v19 (IntKind.wrap .i64 (Int.tdiv r28.1.1 v20)) (Int.tmod r36.1.1 v21) s24 s27 r36.2).bind fun (r44 : ((Int × Unit) × Heap)) =>
 (x0).bind fun (a45 : Nat × Nat) =>
 (wr r44.2 a45.1 (a45.2 + 9) [.bool (!decide (r44.1.1 = 0))]).bind fun (H46 : Heap) =>
 (x0).bind fun (a47 : Nat × Nat) =>
 (wr H46 a47.1 (a47.2 + 1) [.int .i64 0]).bind fun (H48 : Heap) =>
 (x0).bind fun (a49 : Nat × Nat) =>
 (wr H48 a49.1 (a49.2 + 8) [.int .i64 7]).bind fun (H50 : Heap) =>
 some ((()), H50)
 else none
 else none
 else none
 else none
 else none
 else none
 else none)
 else none
 else none
 else none
 else none
 else none
 else none
 else none)
 else none
noncomputable def bus_Bus_write.c : Callee := .full [.one .ptr] [] (fun x H => bus_Bus_write x.1 H)
noncomputable def bus_Bus_write.calls : Nat → Option Callee
  | 0 => some nand_Chip_Geometry.c
  | 1 => some strings_Repeat.c
  | 2 => some bus_Bus_column.c
  | 3 => some bus_Bus_row.c
  | 4 => some nand_Chip_Program.c
  | _ => none
theorem bus_Bus_write.eq : evFull bus_Bus_write.calls bus_Bus_write.af = (fun x H => bus_Bus_write x.1 H) := by kernel_rfl

/-! ### (*tinderbox/bus.Bus).end -/
def bus_Bus_end.af : AFun := ⟨[.one .ptr, .one (.int .u8)], [], [],
 .seq (.reg [.op ⟨0, some 10, .mv (.t 0), none⟩,
  .op ⟨1, some 11, .nilc (.t 10), none⟩,
  .op ⟨2, some 12, .addr 0 (.t 11), none⟩,
  .op ⟨3, some 13, .load (.one .ptr) (.t 12), none⟩,
  .op ⟨4, some 14, .call 0 [(.t 13)], none⟩,
  .op ⟨5, some 4, .new [.int .i64 0, .int .i64 0, .int .i64 0], none⟩,
  .op ⟨6, none, .store 3 (.t 4) (.t 14), none⟩])
 (.seq (.scope [(.normal, [(5, .one .bool)])] (.reg [.op ⟨0, some 15, .mv (.t 0), none⟩,
  .op ⟨1, some 16, .nilc (.t 15), none⟩,
  .op ⟨2, some 17, .addr 1 (.t 16), none⟩,
  .op ⟨3, some 18, .load (.one (.int .i64)) (.t 17), none⟩,
  .op ⟨4, some 19, .bin .eql (.t 18) (.c (.one (.int .i64 3))), none⟩,
  .op ⟨5, some 20, .mv (.t 19), none⟩,
  .op ⟨6, some 21, .mv (.t 0), some (20, false)⟩,
  .op ⟨7, some 22, .nilc (.t 21), some (20, false)⟩,
  .op ⟨8, some 23, .addr 1 (.t 22), some (20, false)⟩,
  .op ⟨9, some 24, .load (.one (.int .i64)) (.t 23), some (20, false)⟩,
  .op ⟨10, some 25, .bin .eql (.t 24) (.c (.one (.int .i64 2))), some (20, false)⟩,
  .op ⟨11, some 26, .pick (.t 20) (.c (.one (.bool true))) (.t 25), none⟩,
  .op ⟨12, some 5, .mv (.t 26), none⟩]))
 (.block 0 (.seq (.reg [.op ⟨0, some 30, .mv (.t 5), none⟩,
  .op ⟨1, some 31, .un .not (.t 30), none⟩,
  .op ⟨2, some 29, .mv (.t 31), none⟩])
 (.cond (.t 29) (.seq (.reg [.op ⟨0, some 32, .mv (.t 0), none⟩,
  .op ⟨1, some 33, .call 1 [(.t 32)], none⟩])
 (.ret)) (.seq (.scope [(.normal, [(34, .one .bool)])] (.reg [.op ⟨0, some 35, .mv (.t 1), none⟩,
  .op ⟨1, some 36, .bin .eql (.t 35) (.c (.one (.int .u8 48))), none⟩,
  .op ⟨2, some 37, .mv (.t 36), none⟩,
  .op ⟨3, some 38, .mv (.t 0), some (37, true)⟩,
  .op ⟨4, some 39, .nilc (.t 38), some (37, true)⟩,
  .op ⟨5, some 40, .addr 2 (.t 39), some (37, true)⟩,
  .op ⟨6, some 41, .load (.one (.int .u8)) (.t 40), some (37, true)⟩,
  .op ⟨7, some 42, .bin .eql (.t 41) (.c (.one (.int .u8 0))), some (37, true)⟩,
  .op ⟨8, some 43, .pick (.t 37) (.t 42) (.c (.one (.bool false))), none⟩,
  .op ⟨9, some 34, .mv (.t 43), none⟩]))
 (.cond (.t 34) (.seq (.reg [.op ⟨0, some 45, .mv (.t 0), none⟩,
  .op ⟨1, some 46, .nilc (.t 45), none⟩,
  .op ⟨2, some 47, .addr 0 (.t 46), none⟩,
  .op ⟨3, some 48, .load (.one .ptr) (.t 47), none⟩,
  .op ⟨4, some 49, .mv (.t 0), none⟩,
  .op ⟨6, some 51, .addr 1 (.t 4), none⟩,
  .op ⟨7, some 52, .load (.one (.int .i64)) (.t 51), none⟩,
  .op ⟨9, some 54, .mv (.t 0), none⟩,
  .op ⟨11, some 56, .addr 1 (.t 4), none⟩,
  .op ⟨12, some 57, .load (.one (.int .i64)) (.t 56), none⟩,
  .op ⟨5, some 50, .call 2 [(.t 49)], none⟩,
  .op ⟨8, some 53, .bin .quo (.t 50) (.t 52), none⟩,
  .again ⟨3, some 48, .load (.one .ptr) (.t 47), none⟩,
  .again ⟨7, some 52, .load (.one (.int .i64)) (.t 51), none⟩,
  .again ⟨12, some 57, .load (.one (.int .i64)) (.t 56), none⟩,
  .op ⟨10, some 55, .call 2 [(.t 54)], none⟩,
  .op ⟨13, some 58, .bin .rem (.t 55) (.t 57), none⟩,
  .again ⟨3, some 48, .load (.one .ptr) (.t 47), none⟩,
  .again ⟨7, some 52, .load (.one (.int .i64)) (.t 51), none⟩,
  .again ⟨12, some 57, .load (.one (.int .i64)) (.t 56), none⟩,
  .op ⟨14, some 59, .call 3 [(.t 48), (.t 53), (.t 58)], none⟩,
  .op ⟨15, some 44, .mv (.t 59), none⟩,
  .op ⟨16, some 60, .ext (.t 44) 0, none⟩,
  .op ⟨17, some 61, .ext (.t 44) 1, none⟩,
  .op ⟨18, some 62, .ext (.t 44) 2, none⟩,
  .op ⟨19, some 6, .mv (.t 60), none⟩,
  .op ⟨20, some 7, .mv (.t 61), none⟩,
  .op ⟨21, some 8, .mv (.t 62), none⟩])
 (.seq (.reg [.op ⟨0, some 63, .mv (.t 0), none⟩,
  .op ⟨1, some 64, .mv (.t 8), none⟩,
  .op ⟨2, some 65, .bin .neq (.t 64) (.c (.one (.int .i64 0))), none⟩,
  .op ⟨3, some 66, .nilc (.t 63), none⟩,
  .op ⟨4, some 67, .addr 9 (.t 66), none⟩,
  .op ⟨5, none, .store 1 (.t 67) (.t 65), none⟩])
 (.seq (.reg [.op ⟨0, some 68, .mv (.t 6), none⟩,
  .op ⟨1, some 69, .mv (.t 7), none⟩,
  .op ⟨2, some 70, .bin .add (.t 68) (.t 69), none⟩,
  .op ⟨3, some 9, .mv (.t 70), none⟩])
 (.seq (.reg [.op ⟨0, some 71, .mv (.t 0), none⟩,
  .op ⟨1, some 72, .mv (.t 9), none⟩,
  .op ⟨2, some 73, .mv (.t 0), none⟩,
  .op ⟨3, some 74, .call 4 [(.t 73)], none⟩,
  .op ⟨4, some 75, .mv (.t 9), none⟩,
  .op ⟨5, some 76, .lens (.t 75), none⟩,
  .op ⟨6, some 77, .min [(.t 74), (.t 76)], none⟩,
  .op ⟨7, some 78, .slstr (.t 72) (some (.t 77)) none, none⟩,
  .op ⟨8, some 79, .call 5 [(.t 71), (.t 78)], none⟩])
 (.reg [.op ⟨0, some 80, .mv (.t 0), none⟩,
  .op ⟨1, some 81, .nilc (.t 80), none⟩,
  .op ⟨2, some 82, .addr 8 (.t 81), none⟩,
  .op ⟨3, none, .store 1 (.t 82) (.c (.one (.int .i64 3))), none⟩]))))) (.seq (.scope [(.normal, [(83, .one .bool)])] (.reg [.op ⟨0, some 84, .mv (.t 1), none⟩,
  .op ⟨1, some 85, .bin .eql (.t 84) (.c (.one (.int .u8 16))), none⟩,
  .op ⟨2, some 86, .mv (.t 85), none⟩,
  .op ⟨3, some 87, .mv (.t 0), some (86, true)⟩,
  .op ⟨4, some 88, .nilc (.t 87), some (86, true)⟩,
  .op ⟨5, some 89, .addr 2 (.t 88), some (86, true)⟩,
  .op ⟨6, some 90, .load (.one (.int .u8)) (.t 89), some (86, true)⟩,
  .op ⟨7, some 91, .bin .eql (.t 90) (.c (.one (.int .u8 128))), some (86, true)⟩,
  .op ⟨8, some 92, .pick (.t 86) (.t 91) (.c (.one (.bool false))), none⟩,
  .op ⟨9, some 83, .mv (.t 92), none⟩]))
 (.cond (.t 83) (.reg [.op ⟨0, some 93, .mv (.t 0), none⟩,
  .op ⟨1, some 94, .call 6 [(.t 93)], none⟩]) (.seq (.scope [(.normal, [(95, .one .bool)])] (.reg [.op ⟨0, some 96, .mv (.t 1), none⟩,
  .op ⟨1, some 97, .bin .eql (.t 96) (.c (.one (.int .u8 208))), none⟩,
  .op ⟨2, some 98, .mv (.t 97), none⟩,
  .op ⟨3, some 99, .mv (.t 0), some (98, true)⟩,
  .op ⟨4, some 100, .nilc (.t 99), some (98, true)⟩,
  .op ⟨5, some 101, .addr 2 (.t 100), some (98, true)⟩,
  .op ⟨6, some 102, .load (.one (.int .u8)) (.t 101), some (98, true)⟩,
  .op ⟨7, some 103, .bin .eql (.t 102) (.c (.one (.int .u8 96))), some (98, true)⟩,
  .op ⟨8, some 104, .pick (.t 98) (.t 103) (.c (.one (.bool false))), none⟩,
  .op ⟨9, some 95, .mv (.t 104), none⟩]))
 (.cond (.t 95) (.seq (.reg [.op ⟨0, some 105, .mv (.t 0), none⟩,
  .op ⟨1, some 106, .mv (.t 0), none⟩,
  .op ⟨2, some 107, .nilc (.t 106), none⟩,
  .op ⟨3, some 108, .addr 0 (.t 107), none⟩,
  .op ⟨4, some 109, .load (.one .ptr) (.t 108), none⟩,
  .op ⟨5, some 110, .mv (.t 0), none⟩,
  .op ⟨7, some 112, .addr 1 (.t 4), none⟩,
  .op ⟨8, some 113, .load (.one (.int .i64)) (.t 112), none⟩,
  .op ⟨6, some 111, .call 2 [(.t 110)], none⟩,
  .op ⟨9, some 114, .bin .quo (.t 111) (.t 113), none⟩,
  .again ⟨4, some 109, .load (.one .ptr) (.t 108), none⟩,
  .again ⟨8, some 113, .load (.one (.int .i64)) (.t 112), none⟩,
  .op ⟨10, some 115, .call 7 [(.t 109), (.t 114)], none⟩,
  .op ⟨11, some 116, .bin .neq (.t 115) (.c (.one (.int .i64 0))), none⟩,
  .op ⟨12, some 117, .nilc (.t 105), none⟩,
  .op ⟨13, some 118, .addr 9 (.t 117), none⟩,
  .op ⟨14, none, .store 1 (.t 118) (.t 116), none⟩])
 (.reg [.op ⟨0, some 119, .mv (.t 0), none⟩,
  .op ⟨1, some 120, .mv (.t 0), none⟩,
  .op ⟨2, some 121, .nilc (.t 119), none⟩,
  .op ⟨3, some 122, .addr 1 (.t 121), none⟩,
  .op ⟨4, none, .store 1 (.t 122) (.c (.one (.int .i64 0))), none⟩,
  .op ⟨5, some 123, .nilc (.t 120), none⟩,
  .op ⟨6, some 124, .addr 8 (.t 123), none⟩,
  .op ⟨7, none, .store 1 (.t 124) (.c (.one (.int .i64 15))), none⟩])) (.reg [.op ⟨0, some 27, .mv (.t 0), none⟩,
  .op ⟨1, some 28, .call 1 [(.t 27)], none⟩])))))))))))⟩
noncomputable def bus_Bus_end (x0 : Ptr) (x1 : Int) (H : Heap) : Option ((Unit) × Heap) :=
 (x0).bind fun (a1 : Nat × Nat) =>
 (rdP H a1.1 a1.2).bind fun (v2 : Ptr) =>
 (nand_Chip_Geometry v2 H).bind fun (r3 : (((Int × Int × Int × Unit) × Unit) × Heap)) =>
 let H4 : Heap := r3.2 ++ [Blk.cells [.int .i64 0, .int .i64 0, .int .i64 0] .exact]
 (wr H4 r3.2.length 0 [.int .i64 r3.1.1.1, .int .i64 r3.1.1.2.1, .int .i64 r3.1.1.2.2.1]).bind fun (H5 : Heap) =>
 ((x0).bind fun (a6 : Nat × Nat) =>
 (rdI .i64 H5 a6.1 (a6.2 + 1)).bind fun (v7 : Int) =>
 cond (decide (v7 = 3)) (
 some ((true, ()), H5)) (
 (x0).bind fun (a8 : Nat × Nat) =>
 (rdI .i64 H5 a8.1 (a8.2 + 1)).bind fun (v9 : Int) =>
 some (((decide (v9 = 2)), ()), H5)) : Option ((Bool × Unit) × Heap)).bind fun (p10 : (Bool × Unit) × Heap) =>
 cond (!p10.1.1) (
 (bus_Bus_violate x0 p10.2).bind fun (r11 : ((Unit) × Heap)) =>
 some ((()), r11.2)) (
 (cond (decide (x1 = 48)) (
 (x0).bind fun (a12 : Nat × Nat) =>
 (rdI .u8 p10.2 a12.1 (a12.2 + 2)).bind fun (v13 : Int) =>
 some (((decide (v13 = 0)), ()), p10.2)) (
 some ((false, ()), p10.2)) : Option ((Bool × Unit) × Heap)).bind fun (p14 : (Bool × Unit) × Heap) =>
 cond p14.1.1 (
 (x0).bind fun (a15 : Nat × Nat) =>
 (rdP p14.2 a15.1 a15.2).bind fun (v16 : Ptr) =>
 (rdI .i64 p14.2 r3.2.length 1).bind fun (v17 : Int) =>
 (rdI .i64 p14.2 r3.2.length 1).bind fun (v18 : Int) =>
 (bus_Bus_row x0 p14.2).bind fun (r19 : ((Int × Unit) × Heap)) =>
 cond (decide (v17 = 0)) none (
 (rdP r19.2 a15.1 a15.2).bind fun (v20 : Ptr) =>
 if V.w (.one (.ptr v20)) = V.w (.one (.ptr v16)) then
 (rdI .i64 r19.2 r3.2.length 1).bind fun (v21 : Int) =>
 if V.w (.one (.int .i64 v21)) = V.w (.one (.int .i64 v17)) then
 (rdI .i64 r19.2 r3.2.length 1).bind fun (v22 : Int) =>
 if V.w (.one (.int .i64 v22)) = V.w (.one (.int .i64 v18)) then
 (bus_Bus_row x0 r19.2).bind fun (r23 : ((Int × Unit) × Heap)) =>
 cond (decide (v18 = 0)) none (
 (rdP r23.2 a15.1 a15.2).bind fun (v24 : Ptr) =>
 if V.w (.one (.ptr v24)) = V.w (.one (.ptr v16)) then
 (rdI .i64 r23.2 r3.2.length 1).bind fun (v25 : Int) =>
 if V.w (.one (.int .i64 v25)) = V.w (.one (.int .i64 v17)) then
 (rdI .i64 r23.2 r3.2.length 1).bind fun (v26 : Int) =>
 if V.w (.one (.int .i64 v26)) = V.w (.one (.int .i64 v18)) then
 (nand_Chip_Read v16 (IntKind.wrap .i64 (Int.tdiv r19.1.1 v17)) (Int.tmod r23.1.1 v18) r23.2).bind fun (r27 : ((Bytes × Bytes × Int × Unit) × Heap)) =>
 (x0).bind fun (a28 : Nat × Nat) =>
 (wr r27.2 a28.1 (a28.2 + 9) [.bool (!decide (r27.1.2.2.1 = 0))]).bind fun (H29 : Heap) =>
 (catS r27.1.1 r27.1.2.1).bind fun (s30 : Bytes) =>
 (bus_Bus_column x0 H29).bind fun (r31 : ((Int × Unit) × Heap)) =>
 (subS s30 (if (List.length (s30 : Bytes) : Int) < r31.1.1 then (List.length (s30 : Bytes) : Int) else r31.1.1) (List.length (s30 : Bytes) : Int)).bind fun (s32 : Bytes) =>
 (bus_Bus_tell x0 s32 r31.2).bind fun (r33 : ((Unit) × Heap)) =>
 (x0).bind fun (a34 : Nat × Nat) =>
 (wr r33.2 a34.1 (a34.2 + 8) [.int .i64 3]).bind fun (H35 : Heap) =>
 some ((()), H35)
 else none
 else none
 else none)
 else none
 else none
 else none)) (
 (cond (decide (x1 = 16)) (
 (x0).bind fun (a36 : Nat × Nat) =>
 (rdI .u8 p14.2 a36.1 (a36.2 + 2)).bind fun (v37 : Int) =>
 some (((decide (v37 = 128)), ()), p14.2)) (
 some ((false, ()), p14.2)) : Option ((Bool × Unit) × Heap)).bind fun (p38 : (Bool × Unit) × Heap) =>
 cond p38.1.1 (
 (bus_Bus_write x0 p38.2).bind fun (r39 : ((Unit) × Heap)) =>
 some ((()), r39.2)) (
 (cond (decide (x1 = 208)) (
 (x0).bind fun (a40 : Nat × Nat) =>
 (rdI .u8 p38.2 a40.1 (a40.2 + 2)).bind fun (v41 : Int) =>
 some (((decide (v41 = 96)), ()), p38.2)) (
 some ((false, ()), p38.2)) : Option ((Bool × Unit) × Heap)).bind fun (p42 : (Bool × Unit) × Heap) =>
 cond p42.1.1 (
 (x0).bind fun (a43 : Nat × Nat) =>
 (rdP p42.2 a43.1 a43.2).bind fun (v44 : Ptr) =>
 (rdI .i64 p42.2 r3.2.length 1).bind fun (v45 : Int) =>
 (bus_Bus_row x0 p42.2).bind fun (r46 : ((Int × Unit) × Heap)) =>
 cond (decide (v45 = 0)) none (
 (rdP r46.2 a43.1 a43.2).bind fun (v47 : Ptr) =>
 if V.w (.one (.ptr v47)) = V.w (.one (.ptr v44)) then
 (rdI .i64 r46.2 r3.2.length 1).bind fun (v48 : Int) =>
 if V.w (.one (.int .i64 v48)) = V.w (.one (.int .i64 v45)) then
 (nand_Chip_Erase v44 (IntKind.wrap .i64 (Int.tdiv r46.1.1 v45)) r46.2).bind fun (r49 : ((Int × Unit) × Heap)) =>
 (x0).bind fun (a50 : Nat × Nat) =>
 (wr r49.2 a50.1 (a50.2 + 9) [.bool (!decide (r49.1.1 = 0))]).bind fun (H51 : Heap) =>
 (x0).bind fun (a52 : Nat × Nat) =>
 (wr H51 a52.1 (a52.2 + 1) [.int .i64 0]).bind fun (H53 : Heap) =>
 (x0).bind fun (a54 : Nat × Nat) =>
 (wr H53 a54.1 (a54.2 + 8) [.int .i64 15]).bind fun (H55 : Heap) =>
 some ((()), H55)
 else none
 else none)) (
 (bus_Bus_violate x0 p42.2).bind fun (r56 : ((Unit) × Heap)) =>
 some ((()), r56.2)))))
noncomputable def bus_Bus_end.c : Callee := .full [.one .ptr, .one (.int .u8)] [] (fun x H => bus_Bus_end x.1 x.2.1 H)
noncomputable def bus_Bus_end.calls : Nat → Option Callee
  | 0 => some nand_Chip_Geometry.c
  | 1 => some bus_Bus_violate.c
  | 2 => some bus_Bus_row.c
  | 3 => some nand_Chip_Read.c
  | 4 => some bus_Bus_column.c
  | 5 => some bus_Bus_tell.c
  | 6 => some bus_Bus_write.c
  | 7 => some nand_Chip_Erase.c
  | _ => none
theorem bus_Bus_end.eq : evFull bus_Bus_end.calls bus_Bus_end.af = (fun x H => bus_Bus_end x.1 x.2.1 H) := by kernel_rfl

/-! ### (*tinderbox/bus.Bus).begin -/
def bus_Bus_begin.af : AFun := ⟨[.one .ptr, .one (.int .u8)], [], [],
 .seq (.reg [.op ⟨0, some 4, .mv (.t 1), none⟩])
 (.block 0 (.seq (.scope [(.normal, [(7, .one .bool)])] (.seq (.reg [.op ⟨0, some 8, .bin .eql (.t 4) (.c (.one (.int .u8 0))), none⟩,
  .op ⟨1, some 7, .mv (.t 8), none⟩])
 (.cond (.t 7) (.skip) (.seq (.reg [.op ⟨0, some 9, .bin .eql (.t 4) (.c (.one (.int .u8 96))), none⟩,
  .op ⟨1, some 7, .mv (.t 9), none⟩])
 (.cond (.t 7) (.skip) (.seq (.reg [.op ⟨0, some 10, .bin .eql (.t 4) (.c (.one (.int .u8 128))), none⟩,
  .op ⟨1, some 7, .mv (.t 10), none⟩])
 (.cond (.t 7) (.skip) (.seq (.reg [.op ⟨0, some 11, .bin .eql (.t 4) (.c (.one (.int .u8 144))), none⟩,
  .op ⟨1, some 7, .mv (.t 11), none⟩])
 (.cond (.t 7) (.skip) (.seq (.reg [.op ⟨0, some 12, .bin .eql (.t 4) (.c (.one (.int .u8 160))), none⟩,
  .op ⟨1, some 7, .mv (.t 12), none⟩])
 (.cond (.t 7) (.skip) (.seq (.reg [.op ⟨0, some 13, .bin .eql (.t 4) (.c (.one (.int .u8 165))), none⟩,
  .op ⟨1, some 7, .mv (.t 13), none⟩])
 (.cond (.t 7) (.skip) (.reg [.op ⟨0, some 14, .bin .eql (.t 4) (.c (.one (.int .u8 236))), none⟩,
  .op ⟨1, some 7, .mv (.t 14), none⟩]))))))))))))))
 (.cond (.t 7) (.seq (.reg [.op ⟨0, some 15, .mv (.t 0), none⟩,
  .op ⟨1, some 16, .mv (.t 0), none⟩,
  .op ⟨2, some 17, .mv (.t 0), none⟩,
  .op ⟨3, some 18, .mv (.t 0), none⟩,
  .op ⟨4, some 19, .mv (.t 0), none⟩,
  .op ⟨5, some 20, .mv (.t 0), none⟩,
  .op ⟨6, some 21, .mv (.t 1), none⟩,
  .op ⟨7, some 22, .nilc (.t 15), none⟩,
  .op ⟨8, some 23, .addr 2 (.t 22), none⟩,
  .op ⟨9, none, .store 1 (.t 23) (.t 21), none⟩,
  .op ⟨10, some 24, .nilc (.t 16), none⟩,
  .op ⟨11, some 25, .addr 1 (.t 24), none⟩,
  .op ⟨12, none, .store 1 (.t 25) (.c (.one (.int .i64 1))), none⟩,
  .op ⟨13, some 26, .nilc (.t 17), none⟩,
  .op ⟨14, some 27, .addr 4 (.t 26), none⟩,
  .op ⟨15, none, .store 1 (.t 27) (.c (.one (.sl 1 (⟨none, 0, 0⟩)))), none⟩,
  .op ⟨16, some 28, .nilc (.t 18), none⟩,
  .op ⟨17, some 29, .addr 5 (.t 28), none⟩,
  .op ⟨18, none, .store 1 (.t 29) (.c (.one (.sl 1 (⟨none, 0, 0⟩)))), none⟩,
  .op ⟨19, some 30, .nilc (.t 19), none⟩,
  .op ⟨20, some 31, .addr 6 (.t 30), none⟩,
  .op ⟨21, none, .store 1 (.t 31) (.c (.one (.str []))), none⟩,
  .op ⟨22, some 32, .nilc (.t 20), none⟩,
  .op ⟨23, some 33, .addr 7 (.t 32), none⟩,
  .op ⟨24, none, .store 1 (.t 33) (.c (.one (.int .i64 0))), none⟩])
 (.reg [.op ⟨0, some 34, .mv (.t 0), none⟩,
  .op ⟨1, some 35, .mv (.t 1), none⟩,
  .op ⟨2, some 36, .call 0 [(.t 35)], none⟩,
  .op ⟨3, some 37, .nilc (.t 34), none⟩,
  .op ⟨4, some 38, .addr 3 (.t 37), none⟩,
  .op ⟨5, none, .store 1 (.t 38) (.t 36), none⟩])) (.seq (.scope [(.normal, [(39, .one .bool)])] (.seq (.reg [.op ⟨0, some 40, .bin .eql (.t 4) (.c (.one (.int .u8 48))), none⟩,
  .op ⟨1, some 39, .mv (.t 40), none⟩])
 (.cond (.t 39) (.skip) (.seq (.reg [.op ⟨0, some 41, .bin .eql (.t 4) (.c (.one (.int .u8 16))), none⟩,
  .op ⟨1, some 39, .mv (.t 41), none⟩])
 (.cond (.t 39) (.skip) (.reg [.op ⟨0, some 42, .bin .eql (.t 4) (.c (.one (.int .u8 208))), none⟩,
  .op ⟨1, some 39, .mv (.t 42), none⟩]))))))
 (.cond (.t 39) (.reg [.op ⟨0, some 43, .mv (.t 0), none⟩,
  .op ⟨1, some 44, .mv (.t 1), none⟩,
  .op ⟨2, some 45, .call 1 [(.t 43), (.t 44)], none⟩]) (.reg [.op ⟨0, some 5, .mv (.t 0), none⟩,
  .op ⟨1, some 6, .call 2 [(.t 5)], none⟩]))))))⟩
noncomputable def bus_Bus_begin (x0 : Ptr) (x1 : Int) (H : Heap) : Option ((Unit) × Heap) :=
 (cond (decide (x1 = 0)) (
 some (((decide (x1 = 0)), ()), H)) (
 cond (decide (x1 = 96)) (
 some (((decide (x1 = 96)), ()), H)) (
 cond (decide (x1 = 128)) (
 some (((decide (x1 = 128)), ()), H)) (
 cond (decide (x1 = 144)) (
 some (((decide (x1 = 144)), ()), H)) (
 cond (decide (x1 = 160)) (
 some (((decide (x1 = 160)), ()), H)) (
 cond (decide (x1 = 165)) (
 some (((decide (x1 = 165)), ()), H)) (
 some (((decide (x1 = 236)), ()), H))))))) : Option ((Bool × Unit) × Heap)).bind fun (p1 : (Bool × Unit) × Heap) =>
 cond p1.1.1 (
 (x0).bind fun (a2 : Nat × Nat) =>
 (wr p1.2 a2.1 (a2.2 + 2) [.int .u8 x1]).bind fun (H3 : Heap) =>
 (x0).bind fun (a4 : Nat × Nat) =>
 (wr H3 a4.1 (a4.2 + 1) [.int .i64 1]).bind fun (H5 : Heap) =>
 (x0).bind fun (a6 : Nat × Nat) =>
 (wr H5 a6.1 (a6.2 + 4) [.sl 1 (⟨none, 0, 0⟩)]).bind fun (H7 : Heap) =>
 (x0).bind fun (a8 : Nat × Nat) =>
 (wr H7 a8.1 (a8.2 + 5) [.sl 1 (⟨none, 0, 0⟩)]).bind fun (H9 : Heap) =>
 (x0).bind fun (a10 : Nat × Nat) =>
 (wr H9 a10.1 (a10.2 + 6) [.str []]).bind fun (H11 : Heap) =>
 (x0).bind fun (a12 : Nat × Nat) =>
 (wr H11 a12.1 (a12.2 + 7) [.int .i64 0]).bind fun (H13 : Heap) =>
 (bus_wants x1).bind fun (r14 : (Int × Unit)) =>
 (x0).bind fun (a15 : Nat × Nat) =>
 (wr H13 a15.1 (a15.2 + 3) [.int .i64 r14.1]).bind fun (H16 : Heap) =>
 some ((()), H16)) (
 (cond (decide (x1 = 48)) (
 some (((decide (x1 = 48)), ()), p1.2)) (
 cond (decide (x1 = 16)) (
 some (((decide (x1 = 16)), ()), p1.2)) (
 some (((decide (x1 = 208)), ()), p1.2))) : Option ((Bool × Unit) × Heap)).bind fun (p17 : (Bool × Unit) × Heap) =>
 cond p17.1.1 (
 (bus_Bus_end x0 x1 p17.2).bind fun (r18 : ((Unit) × Heap)) =>
 some ((()), r18.2)) (
 (bus_Bus_violate x0 p17.2).bind fun (r19 : ((Unit) × Heap)) =>
 some ((()), r19.2)))
noncomputable def bus_Bus_begin.c : Callee := .full [.one .ptr, .one (.int .u8)] [] (fun x H => bus_Bus_begin x.1 x.2.1 H)
noncomputable def bus_Bus_begin.calls : Nat → Option Callee
  | 0 => some bus_wants.c
  | 1 => some bus_Bus_end.c
  | 2 => some bus_Bus_violate.c
  | _ => none
theorem bus_Bus_begin.eq : evFull bus_Bus_begin.calls bus_Bus_begin.af = (fun x H => bus_Bus_begin x.1 x.2.1 H) := by kernel_rfl

/-! ### (*tinderbox/bus.Bus).Command -/
def bus_Bus_Command.af : AFun := ⟨[.one .ptr, .one (.int .u8)], [], [],
 .seq (.block 0 (.seq (.reg [.op ⟨0, some 5, .mv (.t 0), none⟩,
  .op ⟨1, some 6, .isnil false (.t 5), none⟩,
  .op ⟨2, some 4, .mv (.t 6), none⟩])
 (.cond (.t 4) (.ret) (.seq (.reg [.op ⟨0, some 8, .mv (.t 1), none⟩,
  .op ⟨1, some 9, .bin .eql (.t 8) (.c (.one (.int .u8 255))), none⟩,
  .op ⟨2, some 7, .mv (.t 9), none⟩])
 (.cond (.t 7) (.seq (.reg [.op ⟨0, some 10, .mv (.t 0), none⟩,
  .op ⟨1, some 11, .call 0 [(.t 10)], none⟩])
 (.ret)) (.seq (.reg [.op ⟨0, some 13, .mv (.t 1), none⟩,
  .op ⟨1, some 14, .bin .eql (.t 13) (.c (.one (.int .u8 112))), none⟩,
  .op ⟨2, some 12, .mv (.t 14), none⟩])
 (.cond (.t 12) (.seq (.reg [.op ⟨0, some 15, .mv (.t 0), none⟩,
  .op ⟨1, some 16, .nilc (.t 15), none⟩,
  .op ⟨2, some 17, .addr 10 (.t 16), none⟩,
  .op ⟨3, none, .store 1 (.t 17) (.c (.one (.bool true))), none⟩])
 (.ret)) (.seq (.reg [.op ⟨0, some 19, .mv (.t 0), none⟩,
  .op ⟨1, some 20, .call 1 [(.t 19)], none⟩,
  .op ⟨2, some 21, .un .not (.t 20), none⟩,
  .op ⟨3, some 18, .mv (.t 21), none⟩])
 (.cond (.t 18) (.seq (.reg [.op ⟨0, some 22, .mv (.t 0), none⟩,
  .op ⟨1, some 23, .call 2 [(.t 22)], none⟩])
 (.ret)) (.skip))))))))))
 (.seq (.reg [.op ⟨0, some 24, .mv (.t 0), none⟩,
  .op ⟨1, some 25, .nilc (.t 24), none⟩,
  .op ⟨2, some 26, .addr 10 (.t 25), none⟩,
  .op ⟨3, none, .store 1 (.t 26) (.c (.one (.bool false))), none⟩])
 (.reg [.op ⟨0, some 27, .mv (.t 0), none⟩,
  .op ⟨1, some 28, .mv (.t 1), none⟩,
  .op ⟨2, some 29, .call 3 [(.t 27), (.t 28)], none⟩]))⟩
noncomputable def bus_Bus_Command (x0 : Ptr) (x1 : Int) (H : Heap) : Option ((Unit) × Heap) :=
 cond (Option.isNone x0) (
 some ((()), H)) (
 cond (decide (x1 = 255)) (
 (bus_Bus_reset x0 H).bind fun (r1 : ((Unit) × Heap)) =>
 some ((()), r1.2)) (
 cond (decide (x1 = 112)) (
 (x0).bind fun (a2 : Nat × Nat) =>
 (wr H a2.1 (a2.2 + 10) [.bool true]).bind fun (H3 : Heap) =>
 some ((()), H3)) (
 (bus_Bus_ready x0 H).bind fun (r4 : ((Bool × Unit) × Heap)) =>
 cond (!r4.1.1) (
 (bus_Bus_violate x0 r4.2).bind fun (r5 : ((Unit) × Heap)) =>
 some ((()), r5.2)) (
 (x0).bind fun (a6 : Nat × Nat) =>
 (wr r4.2 a6.1 (a6.2 + 10) [.bool false]).bind fun (H7 : Heap) =>
 (bus_Bus_begin x0 x1 H7).bind fun (r8 : ((Unit) × Heap)) =>
 some ((()), r8.2)))))
noncomputable def bus_Bus_Command.c : Callee := .full [.one .ptr, .one (.int .u8)] [] (fun x H => bus_Bus_Command x.1 x.2.1 H)
noncomputable def bus_Bus_Command.calls : Nat → Option Callee
  | 0 => some bus_Bus_reset.c
  | 1 => some bus_Bus_ready.c
  | 2 => some bus_Bus_violate.c
  | 3 => some bus_Bus_begin.c
  | _ => none
theorem bus_Bus_Command.eq : evFull bus_Bus_Command.calls bus_Bus_Command.af = (fun x H => bus_Bus_Command x.1 x.2.1 H) := by kernel_rfl

/-! ### (*tinderbox/bus.Bus).Ready -/
def bus_Bus_Ready.af : AFun := ⟨[.one .ptr], [.one .bool], [.t 2],
 .seq (.reg [.op ⟨0, some 2, .mv (.c (.one (.bool false))), none⟩])
 (.seq (.seq (.reg [.op ⟨0, some 3, .mv (.t 0), none⟩,
  .op ⟨1, some 4, .isnil false (.t 3), none⟩])
 (.cond (.t 4) (.seq (.reg [.op ⟨0, some 2, .mv (.c (.one (.bool false))), none⟩])
 (.ret)) (.skip)))
 (.seq (.seq (.reg [.op ⟨0, some 5, .mv (.t 0), none⟩,
  .op ⟨1, some 6, .nilc (.t 5), none⟩,
  .op ⟨2, some 7, .addr 8 (.t 6), none⟩,
  .op ⟨3, some 8, .load (.one (.int .i64)) (.t 7), none⟩,
  .op ⟨4, some 9, .bin .gtr (.t 8) (.c (.one (.int .i64 0))), none⟩])
 (.cond (.t 9) (.reg [.op ⟨0, some 10, .mv (.t 0), none⟩,
  .op ⟨1, some 11, .nilc (.t 10), none⟩,
  .op ⟨2, some 12, .addr 8 (.t 11), none⟩,
  .op ⟨3, some 13, .load (.one (.int .i64)) (.t 12), none⟩,
  .op ⟨4, some 14, .bin .sub (.t 13) (.c (.one (.int .i64 1))), none⟩,
  .op ⟨5, some 15, .nilc (.t 10), none⟩,
  .op ⟨6, some 16, .addr 8 (.t 15), none⟩,
  .op ⟨7, none, .store 1 (.t 16) (.t 14), none⟩]) (.skip)))
 (.seq (.reg [.op ⟨0, some 17, .mv (.t 0), none⟩,
  .op ⟨1, some 18, .nilc (.t 17), none⟩,
  .op ⟨2, some 19, .addr 8 (.t 18), none⟩,
  .op ⟨3, some 20, .load (.one (.int .i64)) (.t 19), none⟩,
  .op ⟨4, some 21, .bin .eql (.t 20) (.c (.one (.int .i64 0))), none⟩,
  .op ⟨5, some 2, .mv (.t 21), none⟩])
 (.ret))))⟩
noncomputable def bus_Bus_Ready (x0 : Ptr) (H : Heap) : Option ((Bool × Unit) × Heap) :=
 cond (Option.isNone x0) (
 some ((false, ()), H)) (
 (x0).bind fun (a1 : Nat × Nat) =>
 (rdI .i64 H a1.1 (a1.2 + 8)).bind fun (v2 : Int) =>
 cond (decide (0 < v2)) (
 (x0).bind fun (a3 : Nat × Nat) =>
 (rdI .i64 H a3.1 (a3.2 + 8)).bind fun (v4 : Int) =>
 (x0).bind fun (a5 : Nat × Nat) =>
 (wr H a5.1 (a5.2 + 8) [.int .i64 (IntKind.wrap .i64 (v4 - 1))]).bind fun (H6 : Heap) =>
 (x0).bind fun (a7 : Nat × Nat) =>
 (rdI .i64 H6 a7.1 (a7.2 + 8)).bind fun (v8 : Int) =>
 some (((decide (v8 = 0)), ()), H6)) (
 (x0).bind fun (a9 : Nat × Nat) =>
 (rdI .i64 H a9.1 (a9.2 + 8)).bind fun (v10 : Int) =>
 some (((decide (v10 = 0)), ()), H)))
noncomputable def bus_Bus_Ready.c : Callee := .full [.one .ptr] [.one .bool] (fun x H => bus_Bus_Ready x.1 H)
noncomputable def bus_Bus_Ready.calls : Nat → Option Callee
  | _ => none
theorem bus_Bus_Ready.eq : evFull bus_Bus_Ready.calls bus_Bus_Ready.af = (fun x H => bus_Bus_Ready x.1 H) := by kernel_rfl

/-! ### tinderbox/bus.Param -/
def bus_Param.af : AFun := ⟨[.agg [.int .i64, .int .i64, .int .i64]], [.one .str], [.t 2],
 .seq (.reg [.op ⟨0, some 1, .box (.t 0), none⟩,
  .op ⟨1, some 2, .mv (.c (.one (.str []))), none⟩])
 (.seq (.reg [.op ⟨0, some 4, .addr 0 (.t 1), none⟩,
  .op ⟨1, some 5, .load (.one (.int .i64)) (.t 4), none⟩,
  .op ⟨2, some 6, .conv .u64 (.t 5), none⟩,
  .op ⟨3, some 7, .call 0 [(.t 6), (.c (.one (.int .i64 4)))], none⟩,
  .op ⟨4, some 8, .bin .add (.c (.one (.str [84, 66, 1]))) (.t 7), none⟩,
  .op ⟨5, some 9, .addr 1 (.t 1), none⟩,
  .op ⟨6, some 10, .load (.one (.int .i64)) (.t 9), none⟩,
  .op ⟨7, some 11, .conv .u64 (.t 10), none⟩,
  .op ⟨8, some 12, .call 0 [(.t 11), (.c (.one (.int .i64 4)))], none⟩,
  .op ⟨9, some 13, .bin .add (.t 8) (.t 12), none⟩,
  .op ⟨10, some 14, .addr 2 (.t 1), none⟩,
  .op ⟨11, some 15, .load (.one (.int .i64)) (.t 14), none⟩,
  .op ⟨12, some 16, .conv .u64 (.t 15), none⟩,
  .op ⟨13, some 17, .call 0 [(.t 16), (.c (.one (.int .i64 4)))], none⟩,
  .op ⟨14, some 18, .bin .add (.t 13) (.t 17), none⟩,
  .op ⟨15, some 19, .call 0 [(.c (.one (.int .u64 32))), (.c (.one (.int .i64 2)))], none⟩,
  .op ⟨16, some 20, .bin .add (.t 18) (.t 19), none⟩,
  .op ⟨17, some 3, .mv (.t 20), none⟩])
 (.seq (.reg [.op ⟨0, some 21, .mv (.t 3), none⟩,
  .op ⟨1, some 22, .mv (.t 3), none⟩,
  .op ⟨2, some 23, .lens (.t 22), none⟩,
  .op ⟨3, some 24, .bin .sub (.c (.one (.int .i64 20))) (.t 23), none⟩,
  .op ⟨4, some 25, .call 1 [(.c (.one (.str [0]))), (.t 24)], none⟩,
  .op ⟨5, some 26, .bin .add (.t 21) (.t 25), none⟩,
  .op ⟨6, some 3, .mv (.t 26), none⟩])
 (.seq (.reg [.op ⟨0, some 27, .mv (.t 3), none⟩,
  .op ⟨1, some 28, .mv (.t 3), none⟩,
  .op ⟨2, some 29, .call 2 [(.t 28)], none⟩,
  .op ⟨3, some 30, .conv .u64 (.t 29), none⟩,
  .op ⟨4, some 31, .call 0 [(.t 30), (.c (.one (.int .i64 4)))], none⟩,
  .op ⟨5, some 32, .bin .add (.t 27) (.t 31), none⟩,
  .op ⟨6, some 3, .mv (.t 32), none⟩])
 (.seq (.reg [.op ⟨0, some 33, .mv (.t 3), none⟩,
  .op ⟨1, some 34, .call 1 [(.t 33), (.c (.one (.int .i64 3)))], none⟩,
  .op ⟨2, some 2, .mv (.t 34), none⟩])
 (.ret)))))⟩
noncomputable def bus_Param.on (x0 : (Int × Int × Int × Unit)) (H : Heap) : Option (Bytes × Unit) :=
 let H1 : Heap := H ++ [Blk.cells [.int .i64 x0.1, .int .i64 x0.2.1, .int .i64 x0.2.2.1] .exact]
 (rdI .i64 H1 H.length 0).bind fun (v2 : Int) =>
 (code_Fixed (IntKind.wrap .u64 v2) 4).bind fun (r3 : (Bytes × Unit)) =>
 (catS [84, 66, 1] r3.1).bind fun (s4 : Bytes) =>
 (rdI .i64 H1 H.length 1).bind fun (v5 : Int) =>
 (code_Fixed (IntKind.wrap .u64 v5) 4).bind fun (r6 : (Bytes × Unit)) =>
 (catS s4 r6.1).bind fun (s7 : Bytes) =>
 (rdI .i64 H1 H.length 2).bind fun (v8 : Int) =>
 (code_Fixed (IntKind.wrap .u64 v8) 4).bind fun (r9 : (Bytes × Unit)) =>
 (catS s7 r9.1).bind fun (s10 : Bytes) =>
 (code_Fixed 32 2).bind fun (r11 : (Bytes × Unit)) =>
 (catS s10 r11.1).bind fun (s12 : Bytes) =>
 (strings_Repeat [0] (IntKind.wrap .i64 (20 - (List.length (s12 : Bytes) : Int)))).bind fun (r13 : (Bytes × Unit)) =>
 (catS s12 r13.1).bind fun (s14 : Bytes) =>
 (crc_Sum s14).bind fun (r15 : (Int × Unit)) =>
 (code_Fixed (IntKind.wrap .u64 r15.1) 4).bind fun (r16 : (Bytes × Unit)) =>
 (catS s14 r16.1).bind fun (s17 : Bytes) =>
 (strings_Repeat s17 3).bind fun (r18 : (Bytes × Unit)) =>
 some (r18.1, ())
noncomputable def bus_Param (x0 : (Int × Int × Int × Unit)) : Option (Bytes × Unit) := bus_Param.on x0 []
noncomputable def bus_Param.c : Callee := .pure [.agg [.int .i64, .int .i64, .int .i64]] [.one .str] (fun x => bus_Param x.1)
noncomputable def bus_Param.calls : Nat → Option Callee
  | 0 => some code_Fixed.c
  | 1 => some strings_Repeat.c
  | 2 => some crc_Sum.c
  | _ => none
theorem bus_Param.eq : evPure bus_Param.calls bus_Param.af = (fun x H => bus_Param.on x.1 H) := by kernel_rfl

/-! ### (*tinderbox/bus.Bus).marked -/
def bus_Bus_marked.af : AFun := ⟨[.one .ptr], [], [],
 .seq (.reg [.op ⟨0, some 6, .mv (.t 0), none⟩,
  .op ⟨1, some 7, .nilc (.t 6), none⟩,
  .op ⟨2, some 8, .addr 0 (.t 7), none⟩,
  .op ⟨3, some 9, .load (.one .ptr) (.t 8), none⟩,
  .op ⟨4, some 10, .mv (.t 0), none⟩,
  .op ⟨6, some 12, .mv (.t 0), none⟩,
  .op ⟨7, some 13, .nilc (.t 12), none⟩,
  .op ⟨8, some 14, .addr 0 (.t 13), none⟩,
  .op ⟨9, some 15, .load (.one .ptr) (.t 14), none⟩,
  .op ⟨5, some 11, .call 0 [(.t 10)], none⟩,
  .again ⟨3, some 9, .load (.one .ptr) (.t 8), none⟩,
  .again ⟨9, some 15, .load (.one .ptr) (.t 14), none⟩,
  .op ⟨10, some 16, .call 1 [(.t 15)], none⟩,
  .op ⟨11, some 17, .field (.one (.int .i64)) 1 (.t 16), none⟩,
  .op ⟨12, some 18, .bin .quo (.t 11) (.t 17), none⟩,
  .again ⟨3, some 9, .load (.one .ptr) (.t 8), none⟩,
  .op ⟨13, some 19, .call 2 [(.t 9), (.t 18)], none⟩,
  .op ⟨14, some 5, .mv (.t 19), none⟩,
  .op ⟨15, some 20, .ext (.t 5) 0, none⟩,
  .op ⟨16, some 21, .ext (.t 5) 1, none⟩,
  .op ⟨17, some 2, .mv (.t 20), none⟩,
  .op ⟨18, some 3, .mv (.t 21), none⟩])
 (.seq (.reg [.op ⟨0, some 22, .mv (.t 0), none⟩,
  .op ⟨1, some 23, .mv (.t 3), none⟩,
  .op ⟨2, some 24, .bin .neq (.t 23) (.c (.one (.int .i64 0))), none⟩,
  .op ⟨3, some 25, .nilc (.t 22), none⟩,
  .op ⟨4, some 26, .addr 9 (.t 25), none⟩,
  .op ⟨5, none, .store 1 (.t 26) (.t 24), none⟩])
 (.seq (.reg [.op ⟨0, some 4, .mv (.c (.one (.str [255]))), none⟩])
 (.seq (.scope [(.normal, [(4, .one .str)])] (.seq (.reg [.op ⟨0, some 27, .mv (.t 2), none⟩])
 (.cond (.t 27) (.reg [.op ⟨0, some 4, .mv (.c (.one (.str [0]))), none⟩]) (.skip))))
 (.seq (.reg [.op ⟨0, some 28, .mv (.t 0), none⟩,
  .op ⟨1, some 29, .mv (.t 4), none⟩,
  .op ⟨2, some 30, .call 3 [(.t 28), (.t 29)], none⟩])
 (.reg [.op ⟨0, some 31, .mv (.t 0), none⟩,
  .op ⟨1, some 32, .nilc (.t 31), none⟩,
  .op ⟨2, some 33, .addr 8 (.t 32), none⟩,
  .op ⟨3, none, .store 1 (.t 33) (.c (.one (.int .i64 3))), none⟩])))))⟩
noncomputable def bus_Bus_marked (x0 : Ptr) (H : Heap) : Option ((Unit) × Heap) :=
 (x0).bind fun (a1 : Nat × Nat) =>
 (rdP H a1.1 a1.2).bind fun (v2 : Ptr) =>
 (x0).bind fun (a3 : Nat × Nat) =>
 (rdP H a3.1 a3.2).bind fun (v4 : Ptr) =>
 (bus_Bus_row x0 H).bind fun (r5 : ((Int × Unit) × Heap)) =>
 (rdP r5.2 a1.1 a1.2).bind fun (v6 : Ptr) =>
 if V.w (.one (.ptr v6)) = V.w (.one (.ptr v2)) then
 (rdP r5.2 a3.1 a3.2).bind fun (v7 : Ptr) =>
 if V.w (.one (.ptr v7)) = V.w (.one (.ptr v4)) then
 (nand_Chip_Geometry v4 r5.2).bind fun (r8 : (((Int × Int × Int × Unit) × Unit) × Heap)) =>
 cond (decide (r8.1.1.2.1 = 0)) none (
 (rdP r8.2 a1.1 a1.2).bind fun (v9 : Ptr) =>
 if V.w (.one (.ptr v9)) = V.w (.one (.ptr v2)) then
 (nand_Chip_Marked v2 (IntKind.wrap .i64 (Int.tdiv r5.1.1 r8.1.1.2.1)) r8.2).bind fun (r10 : ((Bool × Int × Unit) × Heap)) =>
 (x0).bind fun (a11 : Nat × Nat) =>
 (wr r10.2 a11.1 (a11.2 + 9) [.bool (!decide (r10.1.2.1 = 0))]).bind fun (H12 : Heap) =>
 (cond r10.1.1 (
 some (([0], ()), H12)) (
 some (([255], ()), H12)) : Option ((Bytes × Unit) × Heap)).bind fun (p13 : (Bytes × Unit) × Heap) =>
 (bus_Bus_tell x0 p13.1.1 p13.2).bind fun (r14 : ((Unit) × Heap)) =>
 (x0).bind fun (a15 : Nat × Nat) =>
 (wr r14.2 a15.1 (a15.2 + 8) [.int .i64 3]).bind fun (H16 : Heap) =>
 some ((()), H16)
 else none)
 else none
 else none
noncomputable def bus_Bus_marked.c : Callee := .full [.one .ptr] [] (fun x H => bus_Bus_marked x.1 H)
noncomputable def bus_Bus_marked.calls : Nat → Option Callee
  | 0 => some bus_Bus_row.c
  | 1 => some nand_Chip_Geometry.c
  | 2 => some nand_Chip_Marked.c
  | 3 => some bus_Bus_tell.c
  | _ => none
theorem bus_Bus_marked.eq : evFull bus_Bus_marked.calls bus_Bus_marked.af = (fun x H => bus_Bus_marked x.1 H) := by kernel_rfl

/-! ### (*tinderbox/bus.Bus).Address -/
def bus_Bus_Address.af : AFun := ⟨[.one .ptr, .one (.int .u8)], [], [],
 .seq (.seq (.reg [.op ⟨0, some 4, .mv (.t 0), none⟩,
  .op ⟨1, some 5, .isnil false (.t 4), none⟩])
 (.cond (.t 5) (.ret) (.skip)))
 (.seq (.seq (.scope [(.normal, [(15, .one .bool)])] (.reg [.op ⟨0, some 6, .mv (.t 0), none⟩,
  .op ⟨1, some 7, .call 0 [(.t 6)], none⟩,
  .op ⟨2, some 8, .un .not (.t 7), none⟩,
  .op ⟨3, some 9, .mv (.t 8), none⟩,
  .op ⟨4, some 10, .mv (.t 0), some (9, false)⟩,
  .op ⟨5, some 11, .nilc (.t 10), some (9, false)⟩,
  .op ⟨6, some 12, .addr 1 (.t 11), some (9, false)⟩,
  .op ⟨7, some 13, .load (.one (.int .i64)) (.t 12), some (9, false)⟩,
  .op ⟨8, some 14, .bin .neq (.t 13) (.c (.one (.int .i64 1))), some (9, false)⟩,
  .op ⟨9, some 15, .pick (.t 9) (.c (.one (.bool true))) (.t 14), none⟩]))
 (.cond (.t 15) (.seq (.reg [.op ⟨0, some 16, .mv (.t 0), none⟩,
  .op ⟨1, some 17, .call 1 [(.t 16)], none⟩])
 (.ret)) (.skip)))
 (.seq (.reg [.op ⟨0, some 18, .mv (.t 0), none⟩,
  .op ⟨1, some 19, .mv (.t 0), none⟩,
  .op ⟨2, some 20, .nilc (.t 19), none⟩,
  .op ⟨3, some 21, .addr 4 (.t 20), none⟩,
  .op ⟨4, some 22, .load (.one (.sl 1)) (.t 21), none⟩,
  .op ⟨5, some 23, .mv (.t 1), none⟩,
  .op ⟨6, some 24, .bslice 1 1 [.int .u8 0] [(0, 1, (.t 23))], none⟩,
  .op ⟨7, some 25, .app 1 1 (.t 22) (.t 24), none⟩,
  .op ⟨8, some 26, .nilc (.t 18), none⟩,
  .op ⟨9, some 27, .addr 4 (.t 26), none⟩,
  .op ⟨10, none, .store 1 (.t 27) (.t 25), none⟩])
 (.seq (.seq (.reg [.op ⟨0, some 28, .mv (.t 0), none⟩,
  .op ⟨1, some 29, .nilc (.t 28), none⟩,
  .op ⟨2, some 30, .addr 4 (.t 29), none⟩,
  .op ⟨3, some 31, .load (.one (.sl 1)) (.t 30), none⟩,
  .op ⟨4, some 32, .len (.t 31), none⟩,
  .op ⟨5, some 33, .mv (.t 0), none⟩,
  .op ⟨6, some 34, .nilc (.t 33), none⟩,
  .op ⟨7, some 35, .addr 3 (.t 34), none⟩,
  .op ⟨8, some 36, .load (.one (.int .i64)) (.t 35), none⟩,
  .op ⟨9, some 37, .bin .lss (.t 32) (.t 36), none⟩])
 (.cond (.t 37) (.ret) (.skip)))
 (.seq (.reg [.op ⟨0, some 38, .mv (.t 0), none⟩,
  .op ⟨1, some 39, .nilc (.t 38), none⟩,
  .op ⟨2, some 40, .addr 1 (.t 39), none⟩,
  .op ⟨3, none, .store 1 (.t 40) (.c (.one (.int .i64 3))), none⟩])
 (.seq (.reg [.op ⟨0, some 41, .mv (.t 0), none⟩,
  .op ⟨1, some 42, .nilc (.t 41), none⟩,
  .op ⟨2, some 43, .addr 2 (.t 42), none⟩,
  .op ⟨3, some 44, .load (.one (.int .u8)) (.t 43), none⟩])
 (.block 0 (.seq (.reg [.op ⟨0, some 46, .bin .eql (.t 44) (.c (.one (.int .u8 128))), none⟩,
  .op ⟨1, some 45, .mv (.t 46), none⟩])
 (.cond (.t 45) (.reg [.op ⟨0, some 47, .mv (.t 0), none⟩,
  .op ⟨1, some 48, .nilc (.t 47), none⟩,
  .op ⟨2, some 49, .addr 1 (.t 48), none⟩,
  .op ⟨3, none, .store 1 (.t 49) (.c (.one (.int .i64 2))), none⟩]) (.seq (.reg [.op ⟨0, some 51, .bin .eql (.t 44) (.c (.one (.int .u8 144))), none⟩,
  .op ⟨1, some 50, .mv (.t 51), none⟩])
 (.cond (.t 50) (.reg [.op ⟨0, some 52, .mv (.t 0), none⟩,
  .op ⟨1, some 53, .call 2 [(.t 52), (.c (.one (.str [84, 66, 1])))], none⟩]) (.seq (.reg [.op ⟨0, some 55, .bin .eql (.t 44) (.c (.one (.int .u8 236))), none⟩,
  .op ⟨1, some 54, .mv (.t 55), none⟩])
 (.cond (.t 54) (.seq (.reg [.op ⟨0, some 56, .mv (.t 0), none⟩,
  .op ⟨1, some 57, .mv (.t 0), none⟩,
  .op ⟨2, some 58, .nilc (.t 57), none⟩,
  .op ⟨3, some 59, .addr 0 (.t 58), none⟩,
  .op ⟨4, some 60, .load (.one .ptr) (.t 59), none⟩,
  .op ⟨5, some 61, .call 3 [(.t 60)], none⟩,
  .op ⟨6, some 62, .call 4 [(.t 61)], none⟩,
  .op ⟨7, some 63, .call 2 [(.t 56), (.t 62)], none⟩])
 (.reg [.op ⟨0, some 64, .mv (.t 0), none⟩,
  .op ⟨1, some 65, .nilc (.t 64), none⟩,
  .op ⟨2, some 66, .addr 8 (.t 65), none⟩,
  .op ⟨3, none, .store 1 (.t 66) (.c (.one (.int .i64 3))), none⟩])) (.seq (.reg [.op ⟨0, some 68, .bin .eql (.t 44) (.c (.one (.int .u8 160))), none⟩,
  .op ⟨1, some 67, .mv (.t 68), none⟩])
 (.cond (.t 67) (.seq (.reg [.op ⟨0, some 69, .mv (.t 0), none⟩,
  .op ⟨1, some 70, .mv (.t 0), none⟩,
  .op ⟨2, some 71, .nilc (.t 69), none⟩,
  .op ⟨3, some 72, .addr 1 (.t 71), none⟩,
  .op ⟨4, none, .store 1 (.t 72) (.c (.one (.int .i64 0))), none⟩,
  .op ⟨5, some 73, .nilc (.t 70), none⟩,
  .op ⟨6, some 74, .addr 8 (.t 73), none⟩,
  .op ⟨7, none, .store 1 (.t 74) (.c (.one (.int .i64 7))), none⟩])
 (.reg [.op ⟨0, some 75, .mv (.t 0), none⟩,
  .op ⟨1, some 76, .mv (.t 0), none⟩,
  .op ⟨2, some 77, .nilc (.t 76), none⟩,
  .op ⟨3, some 78, .addr 0 (.t 77), none⟩,
  .op ⟨4, some 79, .load (.one .ptr) (.t 78), none⟩,
  .op ⟨5, some 80, .mv (.t 0), none⟩,
  .op ⟨7, some 82, .mv (.t 0), none⟩,
  .op ⟨8, some 83, .nilc (.t 82), none⟩,
  .op ⟨9, some 84, .addr 0 (.t 83), none⟩,
  .op ⟨10, some 85, .load (.one .ptr) (.t 84), none⟩,
  .op ⟨6, some 81, .call 5 [(.t 80)], none⟩,
  .again ⟨4, some 79, .load (.one .ptr) (.t 78), none⟩,
  .again ⟨10, some 85, .load (.one .ptr) (.t 84), none⟩,
  .op ⟨11, some 86, .call 3 [(.t 85)], none⟩,
  .op ⟨12, some 87, .field (.one (.int .i64)) 1 (.t 86), none⟩,
  .op ⟨13, some 88, .bin .quo (.t 81) (.t 87), none⟩,
  .again ⟨4, some 79, .load (.one .ptr) (.t 78), none⟩,
  .op ⟨14, some 89, .call 6 [(.t 79), (.t 88)], none⟩,
  .op ⟨15, some 90, .bin .neq (.t 89) (.c (.one (.int .i64 0))), none⟩,
  .op ⟨16, some 91, .nilc (.t 75), none⟩,
  .op ⟨17, some 92, .addr 9 (.t 91), none⟩,
  .op ⟨18, none, .store 1 (.t 92) (.t 90), none⟩])) (.seq (.reg [.op ⟨0, some 94, .bin .eql (.t 44) (.c (.one (.int .u8 165))), none⟩,
  .op ⟨1, some 93, .mv (.t 94), none⟩])
 (.cond (.t 93) (.reg [.op ⟨0, some 95, .mv (.t 0), none⟩,
  .op ⟨1, some 96, .call 7 [(.t 95)], none⟩]) (.skip)))))))))))))))))⟩
noncomputable def bus_Bus_Address (x0 : Ptr) (x1 : Int) (H : Heap) : Option ((Unit) × Heap) :=
 cond (Option.isNone x0) (
 some ((()), H)) (
 ((bus_Bus_ready x0 H).bind fun (r1 : ((Bool × Unit) × Heap)) =>
 cond (!r1.1.1) (
 some ((true, ()), r1.2)) (
 (x0).bind fun (a2 : Nat × Nat) =>
 (rdI .i64 r1.2 a2.1 (a2.2 + 1)).bind fun (v3 : Int) =>
 some (((!decide (v3 = 1)), ()), r1.2)) : Option ((Bool × Unit) × Heap)).bind fun (p4 : (Bool × Unit) × Heap) =>
 cond p4.1.1 (
 (bus_Bus_violate x0 p4.2).bind fun (r5 : ((Unit) × Heap)) =>
 some ((()), r5.2)) (
 (x0).bind fun (a6 : Nat × Nat) =>
 (rdSl 1 p4.2 a6.1 (a6.2 + 4)).bind fun (v7 : Sl) =>
 let H8 : Heap := p4.2 ++ [Blk.cells [.int .u8 x1] .exact]
 (slRow H8 1 (⟨some (p4.2.length, 0), 1, 1⟩)).bind fun (cs9 : (List C)) =>
 (appS H8 1 1 v7 1 cs9).bind fun (p10 : (Sl × Heap)) =>
 (x0).bind fun (a11 : Nat × Nat) =>
 (wr p10.2 a11.1 (a11.2 + 4) [.sl 1 p10.1]).bind fun (H12 : Heap) =>
 (x0).bind fun (a13 : Nat × Nat) =>
 (rdSl 1 H12 a13.1 (a13.2 + 4)).bind fun (v14 : Sl) =>
 (x0).bind fun (a15 : Nat × Nat) =>
 (rdI .i64 H12 a15.1 (a15.2 + 3)).bind fun (v16 : Int) =>
 cond (decide ((v14.len : Int) < v16)) (
 some ((()), H12)) (
 (x0).bind fun (a17 : Nat × Nat) =>
 (wr H12 a17.1 (a17.2 + 1) [.int .i64 3]).bind fun (H18 : Heap) =>
 (x0).bind fun (a19 : Nat × Nat) =>
 (rdI .u8 H18 a19.1 (a19.2 + 2)).bind fun (v20 : Int) =>
 cond (decide (v20 = 128)) (
 (x0).bind fun (a21 : Nat × Nat) =>
 (wr H18 a21.1 (a21.2 + 1) [.int .i64 2]).bind fun (H22 : Heap) =>
 some ((()), H22)) (
 cond (decide (v20 = 144)) (
 (bus_Bus_tell x0 [84, 66, 1] H18).bind fun (r23 : ((Unit) × Heap)) =>
 some ((()), r23.2)) (
 cond (decide (v20 = 236)) (
 (x0).bind fun (a24 : Nat × Nat) =>
 (rdP H18 a24.1 a24.2).bind fun (v25 : Ptr) =>
 (nand_Chip_Geometry v25 H18).bind fun (r26 : (((Int × Int × Int × Unit) × Unit) × Heap)) =>
 (bus_Param (r26.1.1.1, r26.1.1.2.1, r26.1.1.2.2.1, ())).bind fun (r27 : (Bytes × Unit)) =>
 (bus_Bus_tell x0 r27.1 r26.2).bind fun (r28 : ((Unit) × Heap)) =>
 (x0).bind fun (a29 : Nat × Nat) =>
 (wr r28.2 a29.1 (a29.2 + 8) [.int .i64 3]).bind fun (H30 : Heap) =>
 some ((()), H30)) (
 cond (decide (v20 = 160)) (
 (x0).bind fun (a31 : Nat × Nat) =>
 (wr H18 a31.1 (a31.2 + 1) [.int .i64 0]).bind fun (H32 : Heap) =>
 (x0).bind fun (a33 : Nat × Nat) =>
 (wr H32 a33.1 (a33.2 + 8) [.int .i64 7]).bind fun (H34 : Heap) =>
 (x0).bind fun (a35 : Nat × Nat) =>
 (rdP H34 a35.1 a35.2).bind fun (v36 : Ptr) =>
 (x0).bind fun (a37 : Nat × Nat) =>
 (rdP H34 a37.1 a37.2).bind fun (v38 : Ptr) =>
 (bus_Bus_row x0 H34).bind fun (r39 : ((Int × Unit) × Heap)) =>
 (rdP r39.2 a35.1 a35.2).bind fun (v40 : Ptr) =>
 if V.w (.one (.ptr v40)) = V.w (.one (.ptr v36)) then
 (rdP r39.2 a37.1 a37.2).bind fun (v41 : Ptr) =>
 if V.w (.one (.ptr v41)) = V.w (.one (.ptr v38)) then
 (nand_Chip_Geometry v38 r39.2).bind fun (r42 : (((Int × Int × Int × Unit) × Unit) × Heap)) =>
 cond (decide (r42.1.1.2.1 = 0)) none (
 (rdP r42.2 a35.1 a35.2).bind fun (v43 : Ptr) =>
 if V.w (.one (.ptr v43)) = V.w (.one (.ptr v36)) then
 (nand_Chip_Mark v36 (IntKind.wrap .i64 (Int.tdiv r39.1.1 r42.1.1.2.1)) r42.2).bind fun (r44 : ((Int × Unit) × Heap)) =>
 (x0).bind fun (a45 : Nat × Nat) =>
 (wr r44.2 a45.1 (a45.2 + 9) [.bool (!decide (r44.1.1 = 0))]).bind fun (H46 : Heap) =>
 some ((()), H46)
 else none)
 else none
 else none) (
 cond (decide (v20 = 165)) (
 (bus_Bus_marked x0 H18).bind fun (r47 : ((Unit) × Heap)) =>
 some ((()), r47.2)) (
 some ((()), H18)))))))))
noncomputable def bus_Bus_Address.c : Callee := .full [.one .ptr, .one (.int .u8)] [] (fun x H => bus_Bus_Address x.1 x.2.1 H)
noncomputable def bus_Bus_Address.calls : Nat → Option Callee
  | 0 => some bus_Bus_ready.c
  | 1 => some bus_Bus_violate.c
  | 2 => some bus_Bus_tell.c
  | 3 => some nand_Chip_Geometry.c
  | 4 => some bus_Param.c
  | 5 => some bus_Bus_row.c
  | 6 => some nand_Chip_Mark.c
  | 7 => some bus_Bus_marked.c
  | _ => none
theorem bus_Bus_Address.eq : evFull bus_Bus_Address.calls bus_Bus_Address.af = (fun x H => bus_Bus_Address x.1 x.2.1 H) := by kernel_rfl

/-! ### (*tinderbox/bus.Bus).status -/
def bus_Bus_status.af : AFun := ⟨[.one .ptr], [.one (.int .u8)], [.t 2],
 .seq (.reg [.op ⟨0, some 2, .mv (.c (.one (.int .u8 0))), none⟩])
 (.seq (.reg [.op ⟨0, some 3, .mv (.c (.one (.int .u8 128))), none⟩])
 (.seq (.scope [(.normal, [])] (.seq (.reg [.op ⟨0, some 4, .mv (.t 0), none⟩,
  .op ⟨1, some 5, .nilc (.t 4), none⟩,
  .op ⟨2, some 6, .addr 8 (.t 5), none⟩,
  .op ⟨3, some 7, .load (.one (.int .i64)) (.t 6), none⟩,
  .op ⟨4, some 8, .bin .gtr (.t 7) (.c (.one (.int .i64 0))), none⟩])
 (.cond (.t 8) (.reg [.op ⟨0, some 9, .mv (.t 0), none⟩,
  .op ⟨1, some 10, .nilc (.t 9), none⟩,
  .op ⟨2, some 11, .addr 8 (.t 10), none⟩,
  .op ⟨3, some 12, .load (.one (.int .i64)) (.t 11), none⟩,
  .op ⟨4, some 13, .bin .sub (.t 12) (.c (.one (.int .i64 1))), none⟩,
  .op ⟨5, some 14, .nilc (.t 9), none⟩,
  .op ⟨6, some 15, .addr 8 (.t 14), none⟩,
  .op ⟨7, none, .store 1 (.t 15) (.t 13), none⟩]) (.skip))))
 (.seq (.scope [(.normal, [(3, .one (.int .u8))])] (.seq (.reg [.op ⟨0, some 16, .mv (.t 0), none⟩,
  .op ⟨1, some 17, .nilc (.t 16), none⟩,
  .op ⟨2, some 18, .addr 8 (.t 17), none⟩,
  .op ⟨3, some 19, .load (.one (.int .i64)) (.t 18), none⟩,
  .op ⟨4, some 20, .bin .eql (.t 19) (.c (.one (.int .i64 0))), none⟩])
 (.cond (.t 20) (.reg [.op ⟨0, some 21, .mv (.t 3), none⟩,
  .op ⟨1, some 22, .bin .or (.t 21) (.c (.one (.int .u8 64))), none⟩,
  .op ⟨2, some 3, .mv (.t 22), none⟩]) (.skip))))
 (.seq (.seq (.reg [.op ⟨0, some 23, .mv (.t 0), none⟩,
  .op ⟨1, some 24, .nilc (.t 23), none⟩,
  .op ⟨2, some 25, .addr 9 (.t 24), none⟩,
  .op ⟨3, some 26, .load (.one .bool) (.t 25), none⟩])
 (.cond (.t 26) (.reg [.op ⟨0, some 27, .mv (.t 3), none⟩,
  .op ⟨1, some 28, .bin .or (.t 27) (.c (.one (.int .u8 1))), none⟩,
  .op ⟨2, some 3, .mv (.t 28), none⟩]) (.skip)))
 (.seq (.reg [.op ⟨0, some 29, .mv (.t 3), none⟩,
  .op ⟨1, some 2, .mv (.t 29), none⟩])
 (.ret))))))⟩
noncomputable def bus_Bus_status (x0 : Ptr) (H : Heap) : Option ((Int × Unit) × Heap) :=
 ((x0).bind fun (a1 : Nat × Nat) =>
 (rdI .i64 H a1.1 (a1.2 + 8)).bind fun (v2 : Int) =>
 cond (decide (0 < v2)) (
 (x0).bind fun (a3 : Nat × Nat) =>
 (rdI .i64 H a3.1 (a3.2 + 8)).bind fun (v4 : Int) =>
 (x0).bind fun (a5 : Nat × Nat) =>
 (wr H a5.1 (a5.2 + 8) [.int .i64 (IntKind.wrap .i64 (v4 - 1))]).bind fun (H6 : Heap) =>
 some ((()), H6)) (
 some ((()), H)) : Option ((Unit) × Heap)).bind fun (p7 : (Unit) × Heap) =>
 ((x0).bind fun (a8 : Nat × Nat) =>
 (rdI .i64 p7.2 a8.1 (a8.2 + 8)).bind fun (v9 : Int) =>
 cond (decide (v9 = 0)) (
 some (((bitsI .or .u8 128 64), ()), p7.2)) (
 some ((128, ()), p7.2)) : Option ((Int × Unit) × Heap)).bind fun (p10 : (Int × Unit) × Heap) =>
 (x0).bind fun (a11 : Nat × Nat) =>
 (rdB p10.2 a11.1 (a11.2 + 9)).bind fun (v12 : Bool) =>
 cond v12 (
 some (((bitsI .or .u8 p10.1.1 1), ()), p10.2)) (
 some ((p10.1.1, ()), p10.2))
noncomputable def bus_Bus_status.c : Callee := .full [.one .ptr] [.one (.int .u8)] (fun x H => bus_Bus_status x.1 H)
noncomputable def bus_Bus_status.calls : Nat → Option Callee
  | _ => none
theorem bus_Bus_status.eq : evFull bus_Bus_status.calls bus_Bus_status.af = (fun x H => bus_Bus_status x.1 H) := by kernel_rfl

/-! ### (*tinderbox/bus.Bus).Out -/
def bus_Bus_Out.af : AFun := ⟨[.one .ptr], [.one (.int .u8)], [.t 2],
 .seq (.reg [.op ⟨0, some 2, .mv (.c (.one (.int .u8 0))), none⟩])
 (.seq (.block 0 (.seq (.reg [.op ⟨0, some 4, .mv (.t 0), none⟩,
  .op ⟨1, some 5, .isnil false (.t 4), none⟩,
  .op ⟨2, some 3, .mv (.t 5), none⟩])
 (.cond (.t 3) (.seq (.reg [.op ⟨0, some 2, .mv (.c (.one (.int .u8 255))), none⟩])
 (.ret)) (.seq (.reg [.op ⟨0, some 7, .mv (.t 0), none⟩,
  .op ⟨1, some 8, .nilc (.t 7), none⟩,
  .op ⟨2, some 9, .addr 10 (.t 8), none⟩,
  .op ⟨3, some 10, .load (.one .bool) (.t 9), none⟩,
  .op ⟨4, some 6, .mv (.t 10), none⟩])
 (.cond (.t 6) (.seq (.reg [.op ⟨0, some 11, .mv (.t 0), none⟩,
  .op ⟨1, some 12, .nilc (.t 11), none⟩,
  .op ⟨2, some 13, .addr 10 (.t 12), none⟩,
  .op ⟨3, none, .store 1 (.t 13) (.c (.one (.bool false))), none⟩])
 (.seq (.reg [.op ⟨0, some 14, .mv (.t 0), none⟩,
  .op ⟨1, some 15, .call 0 [(.t 14)], none⟩,
  .op ⟨2, some 2, .mv (.t 15), none⟩])
 (.ret))) (.seq (.scope [(.normal, [(16, .one .bool)])] (.reg [.op ⟨0, some 17, .mv (.t 0), none⟩,
  .op ⟨1, some 18, .call 1 [(.t 17)], none⟩,
  .op ⟨2, some 19, .un .not (.t 18), none⟩,
  .op ⟨3, some 20, .mv (.t 19), none⟩,
  .op ⟨4, some 21, .mv (.t 0), some (20, false)⟩,
  .op ⟨5, some 22, .nilc (.t 21), some (20, false)⟩,
  .op ⟨6, some 23, .addr 1 (.t 22), some (20, false)⟩,
  .op ⟨7, some 24, .load (.one (.int .i64)) (.t 23), some (20, false)⟩,
  .op ⟨8, some 25, .bin .neq (.t 24) (.c (.one (.int .i64 4))), some (20, false)⟩,
  .op ⟨9, some 26, .pick (.t 20) (.c (.one (.bool true))) (.t 25), none⟩,
  .op ⟨10, some 16, .mv (.t 26), none⟩]))
 (.cond (.t 16) (.seq (.reg [.op ⟨0, some 27, .mv (.t 0), none⟩,
  .op ⟨1, some 28, .call 2 [(.t 27)], none⟩])
 (.seq (.reg [.op ⟨0, some 2, .mv (.c (.one (.int .u8 255))), none⟩])
 (.ret))) (.seq (.reg [.op ⟨0, some 30, .mv (.t 0), none⟩,
  .op ⟨1, some 31, .nilc (.t 30), none⟩,
  .op ⟨2, some 32, .addr 7 (.t 31), none⟩,
  .op ⟨3, some 33, .load (.one (.int .i64)) (.t 32), none⟩,
  .op ⟨4, some 34, .mv (.t 0), none⟩,
  .op ⟨5, some 35, .nilc (.t 34), none⟩,
  .op ⟨6, some 36, .addr 6 (.t 35), none⟩,
  .op ⟨7, some 37, .load (.one .str) (.t 36), none⟩,
  .op ⟨8, some 38, .lens (.t 37), none⟩,
  .op ⟨9, some 39, .bin .geq (.t 33) (.t 38), none⟩,
  .op ⟨10, some 29, .mv (.t 39), none⟩])
 (.cond (.t 29) (.seq (.reg [.op ⟨0, some 2, .mv (.c (.one (.int .u8 255))), none⟩])
 (.ret)) (.skip))))))))))
 (.seq (.reg [.op ⟨0, some 40, .mv (.t 0), none⟩,
  .op ⟨1, some 41, .nilc (.t 40), none⟩,
  .op ⟨2, some 42, .addr 7 (.t 41), none⟩,
  .op ⟨3, some 43, .load (.one (.int .i64)) (.t 42), none⟩,
  .op ⟨4, some 44, .bin .add (.t 43) (.c (.one (.int .i64 1))), none⟩,
  .op ⟨5, some 45, .nilc (.t 40), none⟩,
  .op ⟨6, some 46, .addr 7 (.t 45), none⟩,
  .op ⟨7, none, .store 1 (.t 46) (.t 44), none⟩])
 (.seq (.reg [.op ⟨0, some 47, .mv (.t 0), none⟩,
  .op ⟨1, some 48, .nilc (.t 47), none⟩,
  .op ⟨2, some 49, .addr 6 (.t 48), none⟩,
  .op ⟨3, some 50, .load (.one .str) (.t 49), none⟩,
  .op ⟨4, some 51, .mv (.t 0), none⟩,
  .op ⟨5, some 52, .nilc (.t 51), none⟩,
  .op ⟨6, some 53, .addr 7 (.t 52), none⟩,
  .op ⟨7, some 54, .load (.one (.int .i64)) (.t 53), none⟩,
  .op ⟨8, some 55, .bin .sub (.t 54) (.c (.one (.int .i64 1))), none⟩,
  .op ⟨9, some 56, .index (.t 50) (.t 55), none⟩,
  .op ⟨10, some 2, .mv (.t 56), none⟩])
 (.ret))))⟩
noncomputable def bus_Bus_Out (x0 : Ptr) (H : Heap) : Option ((Int × Unit) × Heap) :=
 cond (Option.isNone x0) (
 some ((255, ()), H)) (
 (x0).bind fun (a1 : Nat × Nat) =>
 (rdB H a1.1 (a1.2 + 10)).bind fun (v2 : Bool) =>
 cond v2 (
 (x0).bind fun (a3 : Nat × Nat) =>
 (wr H a3.1 (a3.2 + 10) [.bool false]).bind fun (H4 : Heap) =>
 (bus_Bus_status x0 H4).bind fun (r5 : ((Int × Unit) × Heap)) =>
 some ((r5.1.1, ()), r5.2)) (
 ((bus_Bus_ready x0 H).bind fun (r6 : ((Bool × Unit) × Heap)) =>
 cond (!r6.1.1) (
 some ((true, ()), r6.2)) (
 (x0).bind fun (a7 : Nat × Nat) =>
 (rdI .i64 r6.2 a7.1 (a7.2 + 1)).bind fun (v8 : Int) =>
 some (((!decide (v8 = 4)), ()), r6.2)) : Option ((Bool × Unit) × Heap)).bind fun (p9 : (Bool × Unit) × Heap) =>
 cond p9.1.1 (
 (bus_Bus_violate x0 p9.2).bind fun (r10 : ((Unit) × Heap)) =>
 some ((255, ()), r10.2)) (
 (x0).bind fun (a11 : Nat × Nat) =>
 (rdI .i64 p9.2 a11.1 (a11.2 + 7)).bind fun (v12 : Int) =>
 (x0).bind fun (a13 : Nat × Nat) =>
 (rdS p9.2 a13.1 (a13.2 + 6)).bind fun (v14 : Bytes) =>
 cond (decide ((List.length (v14 : Bytes) : Int) ≤ v12)) (
 some ((255, ()), p9.2)) (
 (x0).bind fun (a15 : Nat × Nat) =>
 (rdI .i64 p9.2 a15.1 (a15.2 + 7)).bind fun (v16 : Int) =>
 (x0).bind fun (a17 : Nat × Nat) =>
 (wr p9.2 a17.1 (a17.2 + 7) [.int .i64 (IntKind.wrap .i64 (v16 + 1))]).bind fun (H18 : Heap) =>
 (x0).bind fun (a19 : Nat × Nat) =>
 (rdS H18 a19.1 (a19.2 + 6)).bind fun (v20 : Bytes) =>
 (x0).bind fun (a21 : Nat × Nat) =>
 (rdI .i64 H18 a21.1 (a21.2 + 7)).bind fun (v22 : Int) =>
 (idxS v20 (IntKind.wrap .i64 (v22 - 1))).bind fun (n23 : Int) =>
 some ((n23, ()), H18)))))
noncomputable def bus_Bus_Out.c : Callee := .full [.one .ptr] [.one (.int .u8)] (fun x H => bus_Bus_Out x.1 H)
noncomputable def bus_Bus_Out.calls : Nat → Option Callee
  | 0 => some bus_Bus_status.c
  | 1 => some bus_Bus_ready.c
  | 2 => some bus_Bus_violate.c
  | _ => none
theorem bus_Bus_Out.eq : evFull bus_Bus_Out.calls bus_Bus_Out.af = (fun x H => bus_Bus_Out x.1 H) := by kernel_rfl

/-! ### (*tinderbox/bus.Bus).Chip -/
def bus_Bus_Chip.af : AFun := ⟨[.one .ptr], [.one .ptr], [.t 2],
 .seq (.reg [.op ⟨0, some 2, .mv (.c (.one (.ptr none))), none⟩])
 (.seq (.seq (.reg [.op ⟨0, some 3, .mv (.t 0), none⟩,
  .op ⟨1, some 4, .isnil false (.t 3), none⟩])
 (.cond (.t 4) (.seq (.reg [.op ⟨0, some 2, .mv (.c (.one (.ptr none))), none⟩])
 (.ret)) (.skip)))
 (.seq (.reg [.op ⟨0, some 5, .mv (.t 0), none⟩,
  .op ⟨1, some 6, .nilc (.t 5), none⟩,
  .op ⟨2, some 7, .addr 0 (.t 6), none⟩,
  .op ⟨3, some 8, .load (.one .ptr) (.t 7), none⟩,
  .op ⟨4, some 2, .mv (.t 8), none⟩])
 (.ret)))⟩
noncomputable def bus_Bus_Chip (x0 : Ptr) (H : Heap) : Option ((Ptr × Unit) × Heap) :=
 cond (Option.isNone x0) (
 some ((none, ()), H)) (
 (x0).bind fun (a1 : Nat × Nat) =>
 (rdP H a1.1 a1.2).bind fun (v2 : Ptr) =>
 some ((v2, ()), H))
noncomputable def bus_Bus_Chip.c : Callee := .full [.one .ptr] [.one .ptr] (fun x H => bus_Bus_Chip x.1 H)
noncomputable def bus_Bus_Chip.calls : Nat → Option Callee
  | _ => none
theorem bus_Bus_Chip.eq : evFull bus_Bus_Chip.calls bus_Bus_Chip.af = (fun x H => bus_Bus_Chip x.1 H) := by kernel_rfl

/-! ### (*tinderbox/bus.Bus).In -/
def bus_Bus_In.af : AFun := ⟨[.one .ptr, .one (.int .u8)], [], [],
 .seq (.seq (.reg [.op ⟨0, some 4, .mv (.t 0), none⟩,
  .op ⟨1, some 5, .isnil false (.t 4), none⟩])
 (.cond (.t 5) (.ret) (.skip)))
 (.seq (.seq (.scope [(.normal, [(30, .one .bool)])] (.reg [.op ⟨0, some 6, .mv (.t 0), none⟩,
  .op ⟨1, some 7, .call 0 [(.t 6)], none⟩,
  .op ⟨2, some 8, .un .not (.t 7), none⟩,
  .op ⟨3, some 9, .mv (.t 8), none⟩,
  .op ⟨4, some 10, .mv (.t 0), some (9, false)⟩,
  .op ⟨5, some 11, .nilc (.t 10), some (9, false)⟩,
  .op ⟨6, some 12, .addr 1 (.t 11), some (9, false)⟩,
  .op ⟨7, some 13, .load (.one (.int .i64)) (.t 12), some (9, false)⟩,
  .op ⟨8, some 14, .bin .neq (.t 13) (.c (.one (.int .i64 2))), some (9, false)⟩,
  .op ⟨9, some 15, .pick (.t 9) (.c (.one (.bool true))) (.t 14), none⟩,
  .op ⟨10, some 16, .mv (.t 15), none⟩,
  .op ⟨11, some 17, .mv (.t 0), some (16, false)⟩,
  .op ⟨12, some 18, .nilc (.t 17), some (16, false)⟩,
  .op ⟨13, some 19, .addr 5 (.t 18), some (16, false)⟩,
  .op ⟨14, some 20, .load (.one (.sl 1)) (.t 19), some (16, false)⟩,
  .op ⟨15, some 21, .len (.t 20), some (16, false)⟩,
  .op ⟨16, some 22, .mv (.t 0), some (16, false)⟩,
  .op ⟨17, some 23, .nilc (.t 22), some (16, false)⟩,
  .op ⟨18, some 24, .addr 0 (.t 23), some (16, false)⟩,
  .op ⟨19, some 25, .load (.one .ptr) (.t 24), some (16, false)⟩,
  .op ⟨20, some 26, .call 1 [(.t 25)], some (16, false)⟩,
  .op ⟨21, some 27, .field (.one (.int .i64)) 2 (.t 26), some (16, false)⟩,
  .op ⟨22, some 28, .bin .add (.t 27) (.c (.one (.int .i64 32))), some (16, false)⟩,
  .op ⟨23, some 29, .bin .geq (.t 21) (.t 28), some (16, false)⟩,
  .op ⟨24, some 30, .pick (.t 16) (.c (.one (.bool true))) (.t 29), none⟩,
  .again ⟨14, some 20, .load (.one (.sl 1)) (.t 19), some (16, false)⟩]))
 (.cond (.t 30) (.seq (.reg [.op ⟨0, some 31, .mv (.t 0), none⟩,
  .op ⟨1, some 32, .call 2 [(.t 31)], none⟩])
 (.ret)) (.skip)))
 (.reg [.op ⟨0, some 33, .mv (.t 0), none⟩,
  .op ⟨1, some 34, .mv (.t 0), none⟩,
  .op ⟨2, some 35, .nilc (.t 34), none⟩,
  .op ⟨3, some 36, .addr 5 (.t 35), none⟩,
  .op ⟨4, some 37, .load (.one (.sl 1)) (.t 36), none⟩,
  .op ⟨5, some 38, .mv (.t 1), none⟩,
  .op ⟨6, some 39, .bslice 1 1 [.int .u8 0] [(0, 1, (.t 38))], none⟩,
  .op ⟨7, some 40, .app 1 1 (.t 37) (.t 39), none⟩,
  .op ⟨8, some 41, .nilc (.t 33), none⟩,
  .op ⟨9, some 42, .addr 5 (.t 41), none⟩,
  .op ⟨10, none, .store 1 (.t 42) (.t 40), none⟩]))⟩
noncomputable def bus_Bus_In (x0 : Ptr) (x1 : Int) (H : Heap) : Option ((Unit) × Heap) :=
 cond (Option.isNone x0) (
 some ((()), H)) (
 ((bus_Bus_ready x0 H).bind fun (r1 : ((Bool × Unit) × Heap)) =>
 cond (!r1.1.1) (
 some ((true, ()), r1.2)) (
 (x0).bind fun (a2 : Nat × Nat) =>
 (rdI .i64 r1.2 a2.1 (a2.2 + 1)).bind fun (v3 : Int) =>
 cond (!decide (v3 = 2)) (
 some ((true, ()), r1.2)) (
 (x0).bind fun (a4 : Nat × Nat) =>
 (rdSl 1 r1.2 a4.1 (a4.2 + 5)).bind fun (v5 : Sl) =>
 (x0).bind fun (a6 : Nat × Nat) =>
 (rdP r1.2 a6.1 a6.2).bind fun (v7 : Ptr) =>
 (nand_Chip_Geometry v7 r1.2).bind fun (r8 : (((Int × Int × Int × Unit) × Unit) × Heap)) =>
 (rdSl 1 r8.2 a4.1 (a4.2 + 5)).bind fun (v9 : Sl) =>
 if V.w (.one (.sl 1 v9)) = V.w (.one (.sl 1 v5)) then
 some (((decide ((IntKind.wrap .i64 (r8.1.1.2.2.1 + 32)) ≤ (v5.len : Int))), ()), r8.2)
 else none)) : Option ((Bool × Unit) × Heap)).bind fun (p10 : (Bool × Unit) × Heap) =>
 cond p10.1.1 (
 (bus_Bus_violate x0 p10.2).bind fun (r11 : ((Unit) × Heap)) =>
 some ((()), r11.2)) (
 (x0).bind fun (a12 : Nat × Nat) =>
 (rdSl 1 p10.2 a12.1 (a12.2 + 5)).bind fun (v13 : Sl) =>
 let H14 : Heap := p10.2 ++ [Blk.cells [.int .u8 x1] .exact]
 (slRow H14 1 (⟨some (p10.2.length, 0), 1, 1⟩)).bind fun (cs15 : (List C)) =>
 (appS H14 1 1 v13 1 cs15).bind fun (p16 : (Sl × Heap)) =>
 (x0).bind fun (a17 : Nat × Nat) =>
 (wr p16.2 a17.1 (a17.2 + 5) [.sl 1 p16.1]).bind fun (H18 : Heap) =>
 some ((()), H18)))
noncomputable def bus_Bus_In.c : Callee := .full [.one .ptr, .one (.int .u8)] [] (fun x H => bus_Bus_In x.1 x.2.1 H)
noncomputable def bus_Bus_In.calls : Nat → Option Callee
  | 0 => some bus_Bus_ready.c
  | 1 => some nand_Chip_Geometry.c
  | 2 => some bus_Bus_violate.c
  | _ => none
theorem bus_Bus_In.eq : evFull bus_Bus_In.calls bus_Bus_In.af = (fun x H => bus_Bus_In x.1 x.2.1 H) := by kernel_rfl
end Ev
