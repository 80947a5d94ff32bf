/- What the functions of the package Code compute: abstract code, and a function of plain Lean for each; the kernel checks that they are the same. Written by gen2.py. -/
import Derived.Test.YtloijdlakkmjgaaEvCore
import Derived.KernelRfl
set_option linter.unusedVariables false
set_option maxRecDepth 100000
namespace Ev
open Go (IntKind BinOp UnOp)

/-! ### tinderbox/code.Fixed -/
def code_Fixed.af : AFun := ⟨[.one (.int .u64), .one (.int .i64)], [.one .str], [.t 4],
 .seq (.reg [.op ⟨0, some 4, .mv (.c (.one (.str []))), none⟩])
 (.seq (.reg [.op ⟨0, some 5, .mv (.c (.one (.sl 1 (⟨none, 0, 0⟩)))), none⟩])
 (.seq (.seq (.reg [.op ⟨0, some 7, .mv (.t 1), none⟩,
  .op ⟨1, some 8, .max [(.t 7), (.c (.one (.int .i64 0)))], none⟩,
  .op ⟨2, some 9, .min [(.t 8), (.c (.one (.int .i64 8)))], none⟩,
  .op ⟨3, some 10, .mv (.c (.one (.int .i64 0))), none⟩])
 (.block 0 (.loop [(5, .one (.sl 1)), (10, .one (.int .i64))] [(.exit 0, [(5, .one (.sl 1))])] (.seq (.reg [.op ⟨0, some 11, .bin .lss (.t 10) (.t 9), none⟩])
 (.seq (.cond (.t 11) (.skip) (.exit 0))
 (.seq (.block 1 (.seq (.reg [.op ⟨0, some 12, .mv (.t 10), none⟩,
  .op ⟨1, some 6, .mv (.t 12), none⟩])
 (.reg [.op ⟨0, some 13, .mv (.t 5), none⟩,
  .op ⟨1, some 14, .mv (.t 0), none⟩,
  .op ⟨2, some 15, .mv (.t 6), none⟩,
  .op ⟨3, some 16, .bin .mul (.c (.one (.int .i64 8))) (.t 15), none⟩,
  .op ⟨4, some 17, .bin .shr (.t 14) (.t 16), none⟩,
  .op ⟨5, some 18, .conv .u8 (.t 17), none⟩,
  .op ⟨6, some 19, .bslice 1 1 [.int .u8 0] [(0, 1, (.t 18))], none⟩,
  .op ⟨7, some 20, .app 1 1 (.t 13) (.t 19), none⟩,
  .op ⟨8, some 5, .mv (.t 20), none⟩])))
 (.reg [.op ⟨0, some 21, .bin .add (.t 10) (.c (.one (.int .i64 1))), none⟩,
  .op ⟨1, some 10, .mv (.t 21), none⟩])))))))
 (.seq (.reg [.op ⟨0, some 22, .mv (.t 5), none⟩,
  .op ⟨1, some 23, .b2s (.t 22), none⟩,
  .op ⟨2, some 4, .mv (.t 23), none⟩])
 (.ret))))⟩
noncomputable def code_Fixed.s1 (x0 : Int) (x1 : Int) (s1 : (Sl × Int × Unit)) (H2 : Heap) : Option (((Sl × Int × Unit) ⊕ (Sl × Unit)) × Heap) :=
 cond (decide (s1.2.1 < (if 8 < (if 0 > x1 then 0 else x1) then 8 else (if 0 > x1 then 0 else x1)))) (
 cond (decide ((IntKind.wrap .i64 (8 * s1.2.1)) < 0)) none (
 let H3 : Heap := H2 ++ [Blk.cells [.int .u8 (IntKind.wrap .u8 (Int.fdiv x0 (2 ^ (min (Int.toNat (IntKind.wrap .i64 (8 * s1.2.1))) (IntKind.bits .u64)))))] .exact]
 (slRow H3 1 (⟨some (H2.length, 0), 1, 1⟩)).bind fun (cs4 : (List C)) =>
 (appS H3 1 1 s1.1 1 cs4).bind fun (p5 : (Sl × Heap)) =>
 some (Sum.inl (p5.1, (IntKind.wrap .i64 (s1.2.1 + 1)), ()), p5.2))) (
 some (Sum.inr (s1.1, ()), H2))
noncomputable def code_Fixed.on (x0 : Int) (x1 : Int) (H : Heap) : Option (Bytes × Unit) :=
 (loopW (code_Fixed.s1 x0 x1) (⟨none, 0, 0⟩, 0, ()) H).bind fun (p6 : (Sl × Unit) × Heap) =>
 (strOf p6.2 p6.1.1).bind fun (s7 : Bytes) =>
 some (s7, ())
noncomputable def code_Fixed (x0 : Int) (x1 : Int) : Option (Bytes × Unit) := code_Fixed.on x0 x1 []
noncomputable def code_Fixed.c : Callee := .pure [.one (.int .u64), .one (.int .i64)] [.one .str] (fun x => code_Fixed x.1 x.2.1)
noncomputable def code_Fixed.calls : Nat → Option Callee
  | _ => none
theorem code_Fixed.eq : evPure code_Fixed.calls code_Fixed.af = (fun x H => code_Fixed.on x.1 x.2.1 H) := by kernel_rfl

/-! ### tinderbox/code.Num -/
def code_Num.af : AFun := ⟨[.one (.int .u64)], [.one .str], [.t 2],
 .seq (.reg [.op ⟨0, some 2, .mv (.c (.one (.str []))), none⟩])
 (.seq (.reg [.op ⟨0, some 4, .bslice 1 1 [.int .u8 0] [(0, 1, (.c (.one (.int .u8 0))))], none⟩,
  .op ⟨1, some 3, .mv (.t 4), none⟩])
 (.seq (.block 0 (.loop [(0, .one (.int .u64)), (3, .one (.sl 1))] [(.exit 0, [(3, .one (.sl 1))])] (.seq (.seq (.reg [.op ⟨0, some 5, .mv (.t 0), none⟩,
  .op ⟨1, some 6, .bin .gtr (.t 5) (.c (.one (.int .u64 0))), none⟩])
 (.cond (.t 6) (.skip) (.exit 0)))
 (.seq (.block 1 (.seq (.reg [.op ⟨0, some 9, .mv (.t 3), none⟩,
  .op ⟨1, some 10, .mv (.t 0), none⟩,
  .op ⟨2, some 11, .conv .u8 (.t 10), none⟩,
  .op ⟨3, some 12, .bslice 1 1 [.int .u8 0] [(0, 1, (.t 11))], none⟩,
  .op ⟨4, some 13, .app 1 1 (.t 9) (.t 12), none⟩,
  .op ⟨5, some 3, .mv (.t 13), none⟩])
 (.reg [.op ⟨0, some 14, .mv (.t 3), none⟩,
  .op ⟨1, some 15, .idxa 1 (.t 14) (.c (.one (.int .i64 0))), none⟩,
  .op ⟨2, some 16, .load (.one (.int .u8)) (.t 15), none⟩,
  .op ⟨3, some 17, .bin .add (.t 16) (.c (.one (.int .u8 1))), none⟩,
  .op ⟨4, some 18, .idxa 1 (.t 14) (.c (.one (.int .i64 0))), none⟩,
  .op ⟨5, none, .store 1 (.t 18) (.t 17), none⟩])))
 (.reg [.op ⟨0, some 7, .mv (.t 0), none⟩,
  .op ⟨1, some 8, .bin .shr (.t 7) (.c (.one (.int .u64 8))), none⟩,
  .op ⟨2, some 0, .mv (.t 8), none⟩])))))
 (.seq (.reg [.op ⟨0, some 19, .mv (.t 3), none⟩,
  .op ⟨1, some 20, .b2s (.t 19), none⟩,
  .op ⟨2, some 2, .mv (.t 20), none⟩])
 (.ret))))⟩
noncomputable def code_Num.s1 (s2 : (Int × Sl × Unit)) (H3 : Heap) : Option (((Int × Sl × Unit) ⊕ (Sl × Unit)) × Heap) :=
 cond (decide (0 < s2.1)) (
 let H4 : Heap := H3 ++ [Blk.cells [.int .u8 (IntKind.wrap .u8 s2.1)] .exact]
 (slRow H4 1 (⟨some (H3.length, 0), 1, 1⟩)).bind fun (cs5 : (List C)) =>
 (appS H4 1 1 s2.2.1 1 cs5).bind fun (p6 : (Sl × Heap)) =>
 (Sl.at 1 p6.1 0).bind fun (a7 : (Nat × Nat)) =>
 (rdI .u8 p6.2 a7.1 a7.2).bind fun (v8 : Int) =>
 (Sl.at 1 p6.1 0).bind fun (a9 : (Nat × Nat)) =>
 (wr p6.2 a9.1 a9.2 [.int .u8 (IntKind.wrap .u8 (v8 + 1))]).bind fun (H10 : Heap) =>
 some (Sum.inl ((Int.fdiv s2.1 (2 ^ (min (Int.toNat 8) (IntKind.bits .u64)))), p6.1, ()), H10)) (
 some (Sum.inr (s2.2.1, ()), H3))
noncomputable def code_Num.on (x0 : Int) (H : Heap) : Option (Bytes × Unit) :=
 let H1 : Heap := H ++ [Blk.cells [.int .u8 0] .exact]
 (loopW (code_Num.s1) (x0, ⟨some (H.length, 0), 1, 1⟩, ()) H1).bind fun (p11 : (Sl × Unit) × Heap) =>
 (strOf p11.2 p11.1.1).bind fun (s12 : Bytes) =>
 some (s12, ())
noncomputable def code_Num (x0 : Int) : Option (Bytes × Unit) := code_Num.on x0 []
noncomputable def code_Num.c : Callee := .pure [.one (.int .u64)] [.one .str] (fun x => code_Num x.1)
noncomputable def code_Num.calls : Nat → Option Callee
  | _ => none
theorem code_Num.eq : evPure code_Num.calls code_Num.af = (fun x H => code_Num.on x.1 H) := by kernel_rfl

/-! ### tinderbox/code.New -/
def code_New.af : AFun := ⟨[.one .str], [.one .ptr], [.t 2],
 .seq (.reg [.op ⟨0, some 2, .mv (.c (.one (.ptr none))), none⟩])
 (.seq (.reg [.op ⟨0, some 3, .mv (.t 0), none⟩,
  .op ⟨1, some 4, .build [.str [], .int .i64 0] [(0, 1, (.t 3))], none⟩,
  .op ⟨2, some 5, .box (.t 4), none⟩,
  .op ⟨3, some 2, .mv (.t 5), none⟩])
 (.ret))⟩
noncomputable def code_New (x0 : Bytes) (H : Heap) : Option ((Ptr × Unit) × Heap) :=
 let H1 : Heap := H ++ [Blk.cells [.str x0, .int .i64 0] .exact]
 some ((some (H.length, 0), ()), H1)
noncomputable def code_New.c : Callee := .full [.one .str] [.one .ptr] (fun x H => code_New x.1 H)
noncomputable def code_New.calls : Nat → Option Callee
  | _ => none
theorem code_New.eq : evFull code_New.calls code_New.af = (fun x H => code_New x.1 H) := by kernel_rfl

/-! ### (*tinderbox/code.Reader).Err -/
def code_Reader_Err.af : AFun := ⟨[.one .ptr], [.one (.int .i64)], [.t 2],
 .seq (.reg [.op ⟨0, some 2, .mv (.c (.one (.int .i64 0))), none⟩])
 (.seq (.seq (.reg [.op ⟨0, some 3, .mv (.t 0), none⟩,
  .op ⟨1, some 4, .isnil false (.t 3), none⟩])
 (.cond (.t 4) (.seq (.reg [.op ⟨0, some 2, .mv (.c (.one (.int .i64 1))), none⟩])
 (.ret)) (.skip)))
 (.seq (.reg [.op ⟨0, some 5, .mv (.t 0), none⟩,
  .op ⟨1, some 6, .nilc (.t 5), none⟩,
  .op ⟨2, some 7, .addr 1 (.t 6), none⟩,
  .op ⟨3, some 8, .load (.one (.int .i64)) (.t 7), none⟩,
  .op ⟨4, some 2, .mv (.t 8), none⟩])
 (.ret)))⟩
noncomputable def code_Reader_Err (x0 : Ptr) (H : Heap) : Option ((Int × Unit) × Heap) :=
 cond (Option.isNone x0) (
 some ((1, ()), H)) (
 (x0).bind fun (a1 : Nat × Nat) =>
 (rdI .i64 H a1.1 (a1.2 + 1)).bind fun (v2 : Int) =>
 some ((v2, ()), H))
noncomputable def code_Reader_Err.c : Callee := .full [.one .ptr] [.one (.int .i64)] (fun x H => code_Reader_Err x.1 H)
noncomputable def code_Reader_Err.calls : Nat → Option Callee
  | _ => none
theorem code_Reader_Err.eq : evFull code_Reader_Err.calls code_Reader_Err.af = (fun x H => code_Reader_Err x.1 H) := by kernel_rfl

/-! ### (*tinderbox/code.Reader).fail -/
def code_Reader_fail.af : AFun := ⟨[.one .ptr, .one (.int .i64)], [], [],
 .seq (.reg [.op ⟨0, some 4, .mv (.t 0), none⟩,
  .op ⟨1, some 5, .nilc (.t 4), none⟩,
  .op ⟨2, some 6, .addr 1 (.t 5), none⟩,
  .op ⟨3, some 7, .load (.one (.int .i64)) (.t 6), none⟩,
  .op ⟨4, some 8, .bin .eql (.t 7) (.c (.one (.int .i64 0))), none⟩])
 (.cond (.t 8) (.reg [.op ⟨0, some 9, .mv (.t 0), none⟩,
  .op ⟨1, some 10, .mv (.t 0), none⟩,
  .op ⟨2, some 11, .mv (.t 1), none⟩,
  .op ⟨3, some 12, .nilc (.t 9), none⟩,
  .op ⟨4, some 13, .addr 1 (.t 12), none⟩,
  .op ⟨5, none, .store 1 (.t 13) (.t 11), none⟩,
  .op ⟨6, some 14, .nilc (.t 10), none⟩,
  .op ⟨7, some 15, .addr 0 (.t 14), none⟩,
  .op ⟨8, none, .store 1 (.t 15) (.c (.one (.str []))), none⟩]) (.skip))⟩
noncomputable def code_Reader_fail (x0 : Ptr) (x1 : Int) (H : Heap) : Option ((Unit) × Heap) :=
 (x0).bind fun (a1 : Nat × Nat) =>
 (rdI .i64 H a1.1 (a1.2 + 1)).bind fun (v2 : Int) =>
 cond (decide (v2 = 0)) (
 (x0).bind fun (a3 : Nat × Nat) =>
 (wr H a3.1 (a3.2 + 1) [.int .i64 x1]).bind fun (H4 : Heap) =>
 (x0).bind fun (a5 : Nat × Nat) =>
 (wr H4 a5.1 a5.2 [.str []]).bind fun (H6 : Heap) =>
 some ((()), H6)) (
 some ((()), H))
noncomputable def code_Reader_fail.c : Callee := .full [.one .ptr, .one (.int .i64)] [] (fun x H => code_Reader_fail x.1 x.2.1 H)
noncomputable def code_Reader_fail.calls : Nat → Option Callee
  | _ => none
theorem code_Reader_fail.eq : evFull code_Reader_fail.calls code_Reader_fail.af = (fun x H => code_Reader_fail x.1 x.2.1 H) := by kernel_rfl

/-! ### (*tinderbox/code.Reader).Bytes -/
def code_Reader_Bytes.af : AFun := ⟨[.one .ptr, .one (.int .i64)], [.one .str], [.t 4],
 .seq (.reg [.op ⟨0, some 4, .mv (.c (.one (.str []))), none⟩])
 (.seq (.seq (.reg [.op ⟨0, some 6, .mv (.t 0), none⟩,
  .op ⟨1, some 7, .call 0 [(.t 6)], none⟩,
  .op ⟨2, some 8, .bin .neq (.t 7) (.c (.one (.int .i64 0))), none⟩])
 (.cond (.t 8) (.seq (.reg [.op ⟨0, some 4, .mv (.c (.one (.str []))), none⟩])
 (.ret)) (.skip)))
 (.seq (.seq (.scope [(.normal, [(19, .one .bool)])] (.reg [.op ⟨0, some 9, .mv (.t 1), none⟩,
  .op ⟨1, some 10, .bin .lss (.t 9) (.c (.one (.int .i64 0))), none⟩,
  .op ⟨2, some 11, .mv (.t 10), none⟩,
  .op ⟨3, some 12, .mv (.t 1), some (11, false)⟩,
  .op ⟨4, some 13, .mv (.t 0), some (11, false)⟩,
  .op ⟨5, some 14, .nilc (.t 13), some (11, false)⟩,
  .op ⟨6, some 15, .addr 0 (.t 14), some (11, false)⟩,
  .op ⟨7, some 16, .load (.one .str) (.t 15), some (11, false)⟩,
  .op ⟨8, some 17, .lens (.t 16), some (11, false)⟩,
  .op ⟨9, some 18, .bin .gtr (.t 12) (.t 17), some (11, false)⟩,
  .op ⟨10, some 19, .pick (.t 11) (.c (.one (.bool true))) (.t 18), none⟩]))
 (.cond (.t 19) (.seq (.reg [.op ⟨0, some 20, .mv (.t 0), none⟩,
  .op ⟨1, some 21, .call 1 [(.t 20), (.c (.one (.int .i64 2)))], none⟩])
 (.seq (.reg [.op ⟨0, some 4, .mv (.c (.one (.str []))), none⟩])
 (.ret))) (.skip)))
 (.seq (.reg [.op ⟨0, some 22, .mv (.t 0), none⟩,
  .op ⟨1, some 23, .nilc (.t 22), none⟩,
  .op ⟨2, some 24, .addr 0 (.t 23), none⟩,
  .op ⟨3, some 25, .load (.one .str) (.t 24), none⟩,
  .op ⟨4, some 26, .mv (.t 1), none⟩,
  .op ⟨5, some 27, .slstr (.t 25) none (some (.t 26)), none⟩,
  .op ⟨6, some 5, .mv (.t 27), none⟩])
 (.seq (.reg [.op ⟨0, some 28, .mv (.t 0), none⟩,
  .op ⟨1, some 29, .mv (.t 0), none⟩,
  .op ⟨2, some 30, .nilc (.t 29), none⟩,
  .op ⟨3, some 31, .addr 0 (.t 30), none⟩,
  .op ⟨4, some 32, .load (.one .str) (.t 31), none⟩,
  .op ⟨5, some 33, .mv (.t 1), none⟩,
  .op ⟨6, some 34, .slstr (.t 32) (some (.t 33)) none, none⟩,
  .op ⟨7, some 35, .nilc (.t 28), none⟩,
  .op ⟨8, some 36, .addr 0 (.t 35), none⟩,
  .op ⟨9, none, .store 1 (.t 36) (.t 34), none⟩])
 (.seq (.reg [.op ⟨0, some 37, .mv (.t 5), none⟩,
  .op ⟨1, some 4, .mv (.t 37), none⟩])
 (.ret))))))⟩
noncomputable def code_Reader_Bytes (x0 : Ptr) (x1 : Int) (H : Heap) : Option ((Bytes × Unit) × Heap) :=
 (code_Reader_Err x0 H).bind fun (r1 : ((Int × Unit) × Heap)) =>
 cond (!decide (r1.1.1 = 0)) (
 some (([], ()), r1.2)) (
 (cond (decide (x1 < 0)) (
 some ((true, ()), r1.2)) (
 (x0).bind fun (a2 : Nat × Nat) =>
 (rdS r1.2 a2.1 a2.2).bind fun (v3 : Bytes) =>
 some (((decide ((List.length (v3 : Bytes) : Int) < x1)), ()), r1.2)) : Option ((Bool × Unit) × Heap)).bind fun (p4 : (Bool × Unit) × Heap) =>
 cond p4.1.1 (
 (code_Reader_fail x0 2 p4.2).bind fun (r5 : ((Unit) × Heap)) =>
 some (([], ()), r5.2)) (
 (x0).bind fun (a6 : Nat × Nat) =>
 (rdS p4.2 a6.1 a6.2).bind fun (v7 : Bytes) =>
 (subS v7 0 x1).bind fun (s8 : Bytes) =>
 (x0).bind fun (a9 : Nat × Nat) =>
 (rdS p4.2 a9.1 a9.2).bind fun (v10 : Bytes) =>
 (subS v10 x1 (List.length (v10 : Bytes) : Int)).bind fun (s11 : Bytes) =>
 (x0).bind fun (a12 : Nat × Nat) =>
 (wr p4.2 a12.1 a12.2 [.str s11]).bind fun (H13 : Heap) =>
 some ((s8, ()), H13)))
noncomputable def code_Reader_Bytes.c : Callee := .full [.one .ptr, .one (.int .i64)] [.one .str] (fun x H => code_Reader_Bytes x.1 x.2.1 H)
noncomputable def code_Reader_Bytes.calls : Nat → Option Callee
  | 0 => some code_Reader_Err.c
  | 1 => some code_Reader_fail.c
  | _ => none
theorem code_Reader_Bytes.eq : evFull code_Reader_Bytes.calls code_Reader_Bytes.af = (fun x H => code_Reader_Bytes x.1 x.2.1 H) := by kernel_rfl

/-! ### tinderbox/code.value -/
def code_value.af : AFun := ⟨[.one .str], [.one (.int .u64)], [.t 2],
 .seq (.reg [.op ⟨0, some 2, .mv (.c (.one (.int .u64 0))), none⟩])
 (.seq (.reg [.op ⟨0, some 3, .mv (.c (.one (.int .u64 0))), none⟩])
 (.seq (.seq (.reg [.op ⟨0, some 5, .mv (.t 0), none⟩,
  .op ⟨1, some 6, .lens (.t 5), none⟩,
  .op ⟨2, some 7, .bin .sub (.t 6) (.c (.one (.int .i64 1))), none⟩,
  .op ⟨3, some 4, .mv (.t 7), none⟩])
 (.block 0 (.loop [(3, .one (.int .u64)), (4, .one (.int .i64))] [(.exit 0, [(3, .one (.int .u64))])] (.seq (.seq (.reg [.op ⟨0, some 8, .mv (.t 4), none⟩,
  .op ⟨1, some 9, .bin .geq (.t 8) (.c (.one (.int .i64 0))), none⟩])
 (.cond (.t 9) (.skip) (.exit 0)))
 (.seq (.block 1 (.reg [.op ⟨0, some 12, .mv (.t 3), none⟩,
  .op ⟨1, some 13, .bin .shl (.t 12) (.c (.one (.int .u64 8))), none⟩,
  .op ⟨2, some 14, .mv (.t 0), none⟩,
  .op ⟨3, some 15, .mv (.t 4), none⟩,
  .op ⟨4, some 16, .index (.t 14) (.t 15), none⟩,
  .op ⟨5, some 17, .conv .u64 (.t 16), none⟩,
  .op ⟨6, some 18, .bin .or (.t 13) (.t 17), none⟩,
  .op ⟨7, some 3, .mv (.t 18), none⟩]))
 (.reg [.op ⟨0, some 10, .mv (.t 4), none⟩,
  .op ⟨1, some 11, .bin .sub (.t 10) (.c (.one (.int .i64 1))), none⟩,
  .op ⟨2, some 4, .mv (.t 11), none⟩]))))))
 (.seq (.reg [.op ⟨0, some 19, .mv (.t 3), none⟩,
  .op ⟨1, some 2, .mv (.t 19), none⟩])
 (.ret))))⟩
noncomputable def code_value.s1 (x0 : Bytes) (s1 : (Int × Int × Unit)) (H2 : Heap) : Option (((Int × Int × Unit) ⊕ (Int × Unit)) × Heap) :=
 cond (decide (0 ≤ s1.2.1)) (
 (idxS x0 s1.2.1).bind fun (n3 : Int) =>
 some (Sum.inl ((bitsI .or .u64 (IntKind.wrap .u64 (s1.1 * 2 ^ (min (Int.toNat 8) (IntKind.bits .u64)))) (IntKind.wrap .u64 n3)), (IntKind.wrap .i64 (s1.2.1 - 1)), ()), H2)) (
 some (Sum.inr (s1.1, ()), H2))
noncomputable def code_value.on (x0 : Bytes) (H : Heap) : Option (Int × Unit) :=
 (loopW (code_value.s1 x0) (0, (IntKind.wrap .i64 ((List.length (x0 : Bytes) : Int) - 1)), ()) H).bind fun (p4 : (Int × Unit) × Heap) =>
 some (p4.1.1, ())
noncomputable def code_value (x0 : Bytes) : Option (Int × Unit) := code_value.on x0 []
noncomputable def code_value.c : Callee := .pure [.one .str] [.one (.int .u64)] (fun x => code_value x.1)
noncomputable def code_value.calls : Nat → Option Callee
  | _ => none
theorem code_value.eq : evPure code_value.calls code_value.af = (fun x H => code_value.on x.1 H) := by kernel_rfl

/-! ### (*tinderbox/code.Reader).Fixed -/
def code_Reader_Fixed.af : AFun := ⟨[.one .ptr, .one (.int .i64)], [.one (.int .u64)], [.t 4],
 .seq (.reg [.op ⟨0, some 4, .mv (.c (.one (.int .u64 0))), none⟩])
 (.seq (.reg [.op ⟨0, some 5, .mv (.t 0), none⟩,
  .op ⟨1, some 6, .mv (.t 1), none⟩,
  .op ⟨2, some 7, .max [(.t 6), (.c (.one (.int .i64 0)))], none⟩,
  .op ⟨3, some 8, .min [(.t 7), (.c (.one (.int .i64 8)))], none⟩,
  .op ⟨4, some 9, .call 0 [(.t 5), (.t 8)], none⟩,
  .op ⟨5, some 10, .call 1 [(.t 9)], none⟩,
  .op ⟨6, some 4, .mv (.t 10), none⟩])
 (.ret))⟩
noncomputable def code_Reader_Fixed (x0 : Ptr) (x1 : Int) (H : Heap) : Option ((Int × Unit) × Heap) :=
 (code_Reader_Bytes x0 (if 8 < (if 0 > x1 then 0 else x1) then 8 else (if 0 > x1 then 0 else x1)) H).bind fun (r1 : ((Bytes × Unit) × Heap)) =>
 (code_value r1.1.1).bind fun (r2 : (Int × Unit)) =>
 some ((r2.1, ()), r1.2)
noncomputable def code_Reader_Fixed.c : Callee := .full [.one .ptr, .one (.int .i64)] [.one (.int .u64)] (fun x H => code_Reader_Fixed x.1 x.2.1 H)
noncomputable def code_Reader_Fixed.calls : Nat → Option Callee
  | 0 => some code_Reader_Bytes.c
  | 1 => some code_value.c
  | _ => none
theorem code_Reader_Fixed.eq : evFull code_Reader_Fixed.calls code_Reader_Fixed.af = (fun x H => code_Reader_Fixed x.1 x.2.1 H) := by kernel_rfl
end Ev
