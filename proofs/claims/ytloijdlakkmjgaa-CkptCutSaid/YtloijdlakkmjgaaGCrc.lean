/- What the functions of the package Crc compute: abstract code, and a function of plain Lean for each; the kernel checks that they are the same. Written by gen2.py. -/
import Derived.Test.YtloijdlakkmjgaaEvCore
import Derived.KernelRfl
set_option linter.unusedVariables false
set_option maxRecDepth 100000
namespace Ev
open Go (IntKind BinOp UnOp)

/-! ### tinderbox/crc.More -/
def crc_More.af : AFun := ⟨[.one (.int .u32), .one .str], [.one (.int .u32)], [.t 4],
 .seq (.reg [.op ⟨0, some 4, .mv (.c (.one (.int .u32 0))), none⟩])
 (.seq (.reg [.op ⟨0, some 7, .mv (.t 0), none⟩,
  .op ⟨1, some 8, .un .xor (.t 7), none⟩,
  .op ⟨2, some 5, .mv (.t 8), none⟩])
 (.seq (.seq (.reg [.op ⟨0, some 9, .mv (.t 1), none⟩,
  .op ⟨1, some 10, .lens (.t 9), none⟩,
  .op ⟨2, some 11, .mv (.c (.one (.int .i64 0))), none⟩])
 (.block 0 (.loop [(5, .one (.int .u32)), (11, .one (.int .i64))] [(.exit 0, [(5, .one (.int .u32))])] (.seq (.reg [.op ⟨0, some 12, .bin .lss (.t 11) (.t 10), none⟩])
 (.seq (.cond (.t 12) (.skip) (.exit 0))
 (.seq (.block 1 (.seq (.reg [.op ⟨0, some 13, .mv (.t 11), none⟩,
  .op ⟨1, some 6, .mv (.t 13), none⟩])
 (.seq (.reg [.op ⟨0, some 14, .mv (.t 5), none⟩,
  .op ⟨1, some 15, .mv (.t 1), none⟩,
  .op ⟨2, some 16, .mv (.t 6), none⟩,
  .op ⟨3, some 17, .index (.t 15) (.t 16), none⟩,
  .op ⟨4, some 18, .conv .u32 (.t 17), none⟩,
  .op ⟨5, some 19, .bin .xor (.t 14) (.t 18), none⟩,
  .op ⟨6, some 5, .mv (.t 19), none⟩])
 (.seq (.reg [.op ⟨0, some 20, .mv (.c (.one (.int .i64 0))), none⟩])
 (.block 2 (.loop [(5, .one (.int .u32)), (20, .one (.int .i64))] [(.exit 2, [(5, .one (.int .u32))])] (.seq (.reg [.op ⟨0, some 21, .bin .lss (.t 20) (.c (.one (.int .i64 8))), none⟩])
 (.seq (.cond (.t 21) (.skip) (.exit 2))
 (.seq (.block 3 (.seq (.reg [.op ⟨0, some 22, .mv (.t 5), none⟩,
  .op ⟨1, some 23, .bin .and (.t 22) (.c (.one (.int .u32 1))), none⟩,
  .op ⟨2, some 24, .bin .eql (.t 23) (.c (.one (.int .u32 1))), none⟩])
 (.cond (.t 24) (.reg [.op ⟨0, some 25, .mv (.t 5), none⟩,
  .op ⟨1, some 26, .bin .shr (.t 25) (.c (.one (.int .u64 1))), none⟩,
  .op ⟨2, some 27, .bin .xor (.t 26) (.c (.one (.int .u32 2197175160))), none⟩,
  .op ⟨3, some 5, .mv (.t 27), none⟩]) (.reg [.op ⟨0, some 28, .mv (.t 5), none⟩,
  .op ⟨1, some 29, .bin .shr (.t 28) (.c (.one (.int .u64 1))), none⟩,
  .op ⟨2, some 5, .mv (.t 29), none⟩]))))
 (.reg [.op ⟨0, some 30, .bin .add (.t 20) (.c (.one (.int .i64 1))), none⟩,
  .op ⟨1, some 20, .mv (.t 30), none⟩]))))))))))
 (.reg [.op ⟨0, some 31, .bin .add (.t 11) (.c (.one (.int .i64 1))), none⟩,
  .op ⟨1, some 11, .mv (.t 31), none⟩])))))))
 (.seq (.reg [.op ⟨0, some 32, .mv (.t 5), none⟩,
  .op ⟨1, some 33, .bin .xor (.t 32) (.c (.one (.int .u32 4294967295))), none⟩,
  .op ⟨2, some 4, .mv (.t 33), none⟩])
 (.ret))))⟩
noncomputable def crc_More.s1 (s4 : (Int × Int × Unit)) (H5 : Heap) : Option (((Int × Int × Unit) ⊕ (Int × Unit)) × Heap) :=
 cond (decide (s4.2.1 < 8)) (
 cond (decide ((bitsI .and .u32 s4.1 1) = 1)) (
 some (Sum.inl ((bitsI .xor .u32 (Int.fdiv s4.1 (2 ^ (min (Int.toNat 1) (IntKind.bits .u32)))) 2197175160), (IntKind.wrap .i64 (s4.2.1 + 1)), ()), H5)) (
 some (Sum.inl ((Int.fdiv s4.1 (2 ^ (min (Int.toNat 1) (IntKind.bits .u32)))), (IntKind.wrap .i64 (s4.2.1 + 1)), ()), H5))) (
 some (Sum.inr (s4.1, ()), H5))
noncomputable def crc_More.s2 (x1 : Bytes) (s1 : (Int × Int × Unit)) (H2 : Heap) : Option (((Int × Int × Unit) ⊕ (Int × Unit)) × Heap) :=
 cond (decide (s1.2.1 < (List.length (x1 : Bytes) : Int))) (
 (idxS x1 s1.2.1).bind fun (n3 : Int) =>
 (loopW (crc_More.s1) ((bitsI .xor .u32 s1.1 (IntKind.wrap .u32 n3)), 0, ()) H2).bind fun (p6 : (Int × Unit) × Heap) =>
 some (Sum.inl (p6.1.1, (IntKind.wrap .i64 (s1.2.1 + 1)), ()), p6.2)) (
 some (Sum.inr (s1.1, ()), H2))
noncomputable def crc_More.on (x0 : Int) (x1 : Bytes) (H : Heap) : Option (Int × Unit) :=
 (loopW (crc_More.s2 x1) ((bitsI .xor .u32 4294967295 x0), 0, ()) H).bind fun (p7 : (Int × Unit) × Heap) =>
 some ((bitsI .xor .u32 p7.1.1 4294967295), ())
noncomputable def crc_More (x0 : Int) (x1 : Bytes) : Option (Int × Unit) := crc_More.on x0 x1 []
noncomputable def crc_More.c : Callee := .pure [.one (.int .u32), .one .str] [.one (.int .u32)] (fun x => crc_More x.1 x.2.1)
noncomputable def crc_More.calls : Nat → Option Callee
  | _ => none
theorem crc_More.eq : evPure crc_More.calls crc_More.af = (fun x H => crc_More.on x.1 x.2.1 H) := by kernel_rfl

/-! ### tinderbox/crc.Sum -/
def crc_Sum.af : AFun := ⟨[.one .str], [.one (.int .u32)], [.t 2],
 .seq (.reg [.op ⟨0, some 2, .mv (.c (.one (.int .u32 0))), none⟩])
 (.seq (.reg [.op ⟨0, some 3, .mv (.t 0), none⟩,
  .op ⟨1, some 4, .call 0 [(.c (.one (.int .u32 0))), (.t 3)], none⟩,
  .op ⟨2, some 2, .mv (.t 4), none⟩])
 (.ret))⟩
noncomputable def crc_Sum.on (x0 : Bytes) (H : Heap) : Option (Int × Unit) :=
 (crc_More 0 x0).bind fun (r1 : (Int × Unit)) =>
 some (r1.1, ())
noncomputable def crc_Sum (x0 : Bytes) : Option (Int × Unit) := crc_Sum.on x0 []
noncomputable def crc_Sum.c : Callee := .pure [.one .str] [.one (.int .u32)] (fun x => crc_Sum x.1)
noncomputable def crc_Sum.calls : Nat → Option Callee
  | 0 => some crc_More.c
  | _ => none
theorem crc_Sum.eq : evPure crc_Sum.calls crc_Sum.af = (fun x H => crc_Sum.on x.1 H) := by kernel_rfl
end Ev
