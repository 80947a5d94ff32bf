/- What the functions of the package Ref27 compute: abstract code, and a function of plain Lean for each; the kernel checks that they are the same. Written by gen2.py. -/
import Derived.Test.YtboamjjdpmaikaaEvCore
import Derived.KernelRfl
set_option linter.unusedVariables false
set_option maxRecDepth 100000
namespace Ev
open Go (IntKind BinOp UnOp)

/-! ### tinderbox/tinderboxref27.Mul -/
def ref27_Mul.af : AFun := ⟨[.one (.int .u8), .one (.int .u8)], [.one (.int .u8)], [.t 4],
 .seq (.reg [.op ⟨0, some 4, .mv (.c (.one (.int .u8 0))), none⟩])
 (.seq (.reg [.op ⟨0, some 5, .mv (.c (.one (.int .i64 0))), none⟩])
 (.seq (.seq (.reg [.op ⟨0, some 6, .mv (.c (.one (.int .i64 0))), none⟩])
 (.block 0 (.loop [(5, .one (.int .i64)), (6, .one (.int .i64))] [(.exit 0, [(5, .one (.int .i64))])] (.seq (.seq (.reg [.op ⟨0, some 8, .mv (.t 6), none⟩,
  .op ⟨1, some 9, .bin .lss (.t 8) (.c (.one (.int .i64 8))), none⟩])
 (.cond (.t 9) (.skip) (.exit 0)))
 (.seq (.block 1 (.seq (.reg [.op ⟨0, some 12, .mv (.t 1), none⟩,
  .op ⟨1, some 13, .conv .i64 (.t 12), none⟩,
  .op ⟨2, some 14, .mv (.t 6), none⟩,
  .op ⟨3, some 15, .conv .u64 (.t 14), none⟩,
  .op ⟨4, some 16, .bin .shr (.t 13) (.t 15), none⟩,
  .op ⟨5, some 17, .bin .rem (.t 16) (.c (.one (.int .i64 2))), none⟩,
  .op ⟨6, some 18, .bin .eql (.t 17) (.c (.one (.int .i64 1))), none⟩])
 (.cond (.t 18) (.reg [.op ⟨0, some 19, .mv (.t 5), none⟩,
  .op ⟨1, some 20, .mv (.t 0), none⟩,
  .op ⟨2, some 21, .conv .i64 (.t 20), none⟩,
  .op ⟨3, some 22, .mv (.t 6), none⟩,
  .op ⟨4, some 23, .conv .u64 (.t 22), none⟩,
  .op ⟨5, some 24, .bin .shl (.t 21) (.t 23), none⟩,
  .op ⟨6, some 25, .bin .xor (.t 19) (.t 24), none⟩,
  .op ⟨7, some 5, .mv (.t 25), none⟩]) (.skip))))
 (.reg [.op ⟨0, some 10, .mv (.t 6), none⟩,
  .op ⟨1, some 11, .bin .add (.t 10) (.c (.one (.int .i64 1))), none⟩,
  .op ⟨2, some 6, .mv (.t 11), none⟩]))))))
 (.seq (.seq (.reg [.op ⟨0, some 7, .mv (.c (.one (.int .i64 14))), none⟩])
 (.block 2 (.loop [(5, .one (.int .i64)), (7, .one (.int .i64))] [(.exit 2, [(5, .one (.int .i64))])] (.seq (.seq (.reg [.op ⟨0, some 26, .mv (.t 7), none⟩,
  .op ⟨1, some 27, .bin .geq (.t 26) (.c (.one (.int .i64 8))), none⟩])
 (.cond (.t 27) (.skip) (.exit 2)))
 (.seq (.block 3 (.seq (.reg [.op ⟨0, some 30, .mv (.t 5), none⟩,
  .op ⟨1, some 31, .mv (.t 7), none⟩,
  .op ⟨2, some 32, .conv .u64 (.t 31), none⟩,
  .op ⟨3, some 33, .bin .shr (.t 30) (.t 32), none⟩,
  .op ⟨4, some 34, .bin .rem (.t 33) (.c (.one (.int .i64 2))), none⟩,
  .op ⟨5, some 35, .bin .eql (.t 34) (.c (.one (.int .i64 1))), none⟩])
 (.cond (.t 35) (.reg [.op ⟨0, some 36, .mv (.t 5), none⟩,
  .op ⟨1, some 37, .mv (.t 7), none⟩,
  .op ⟨2, some 38, .bin .sub (.t 37) (.c (.one (.int .i64 8))), none⟩,
  .op ⟨3, some 39, .conv .u64 (.t 38), none⟩,
  .op ⟨4, some 40, .bin .shl (.c (.one (.int .i64 285))) (.t 39), none⟩,
  .op ⟨5, some 41, .bin .xor (.t 36) (.t 40), none⟩,
  .op ⟨6, some 5, .mv (.t 41), none⟩]) (.skip))))
 (.reg [.op ⟨0, some 28, .mv (.t 7), none⟩,
  .op ⟨1, some 29, .bin .sub (.t 28) (.c (.one (.int .i64 1))), none⟩,
  .op ⟨2, some 7, .mv (.t 29), none⟩]))))))
 (.seq (.reg [.op ⟨0, some 42, .mv (.t 5), none⟩,
  .op ⟨1, some 43, .conv .u8 (.t 42), none⟩,
  .op ⟨2, some 4, .mv (.t 43), none⟩])
 (.ret)))))⟩
noncomputable def ref27_Mul.s1 (x0 : Int) (x1 : Int) (s1 : (Int × Int × Unit)) (H2 : Heap) : Option (((Int × Int × Unit) ⊕ (Int × Unit)) × Heap) :=
 cond (decide (s1.2.1 < 8)) (
 cond (decide ((IntKind.wrap .u64 s1.2.1) < 0)) none (
 cond (decide ((Int.tmod (Int.fdiv (IntKind.wrap .i64 x1) (2 ^ (min (Int.toNat (IntKind.wrap .u64 s1.2.1)) (IntKind.bits .i64)))) 2) = 1)) (
 cond (decide ((IntKind.wrap .u64 s1.2.1) < 0)) none (
 some (Sum.inl ((bitsI .xor .i64 s1.1 (IntKind.wrap .i64 ((IntKind.wrap .i64 x0) * 2 ^ (min (Int.toNat (IntKind.wrap .u64 s1.2.1)) (IntKind.bits .i64))))), (IntKind.wrap .i64 (s1.2.1 + 1)), ()), H2))) (
 some (Sum.inl (s1.1, (IntKind.wrap .i64 (s1.2.1 + 1)), ()), H2)))) (
 some (Sum.inr (s1.1, ()), H2))
noncomputable def ref27_Mul.s2 (s4 : (Int × Int × Unit)) (H5 : Heap) : Option (((Int × Int × Unit) ⊕ (Int × Unit)) × Heap) :=
 cond (decide (8 ≤ s4.2.1)) (
 cond (decide ((IntKind.wrap .u64 s4.2.1) < 0)) none (
 cond (decide ((Int.tmod (Int.fdiv s4.1 (2 ^ (min (Int.toNat (IntKind.wrap .u64 s4.2.1)) (IntKind.bits .i64)))) 2) = 1)) (
 cond (decide ((IntKind.wrap .u64 (IntKind.wrap .i64 (s4.2.1 - 8))) < 0)) none (
 some (Sum.inl ((bitsI .xor .i64 s4.1 (IntKind.wrap .i64 (285 * 2 ^ (min (Int.toNat (IntKind.wrap .u64 (IntKind.wrap .i64 (s4.2.1 - 8)))) (IntKind.bits .i64))))), (IntKind.wrap .i64 (s4.2.1 - 1)), ()), H5))) (
 some (Sum.inl (s4.1, (IntKind.wrap .i64 (s4.2.1 - 1)), ()), H5)))) (
 some (Sum.inr (s4.1, ()), H5))
noncomputable def ref27_Mul.on (x0 : Int) (x1 : Int) (H : Heap) : Option (Int × Unit) :=
 (loopW (ref27_Mul.s1 x0 x1) (0, 0, ()) H).bind fun (p3 : (Int × Unit) × Heap) =>
 (loopW (ref27_Mul.s2) (p3.1.1, 14, ()) p3.2).bind fun (p6 : (Int × Unit) × Heap) =>
 some ((IntKind.wrap .u8 p6.1.1), ())
noncomputable def ref27_Mul (x0 : Int) (x1 : Int) : Option (Int × Unit) := ref27_Mul.on x0 x1 []
noncomputable def ref27_Mul.c : Callee := .pure [.one (.int .u8), .one (.int .u8)] [.one (.int .u8)] (fun x => ref27_Mul x.1 x.2.1)
noncomputable def ref27_Mul.calls : Nat → Option Callee
  | _ => none
theorem ref27_Mul.eq : evPure ref27_Mul.calls ref27_Mul.af = (fun x H => ref27_Mul.on x.1 x.2.1 H) := by kernel_rfl

/-! ### tinderbox/tinderboxref27.Pow -/
def ref27_Pow.af : AFun := ⟨[.one (.int .u8), .one (.int .i64)], [.one (.int .u8)], [.t 4],
 .seq (.reg [.op ⟨0, some 4, .mv (.c (.one (.int .u8 0))), none⟩])
 (.seq (.reg [.op ⟨0, some 5, .mv (.c (.one (.int .u8 1))), none⟩])
 (.seq (.seq (.reg [.op ⟨0, some 6, .mv (.c (.one (.int .i64 0))), none⟩])
 (.block 0 (.loop [(5, .one (.int .u8)), (6, .one (.int .i64))] [(.exit 0, [(5, .one (.int .u8))])] (.seq (.seq (.reg [.op ⟨0, some 7, .mv (.t 6), none⟩,
  .op ⟨1, some 8, .mv (.t 1), none⟩,
  .op ⟨2, some 9, .bin .lss (.t 7) (.t 8), none⟩])
 (.cond (.t 9) (.skip) (.exit 0)))
 (.seq (.block 1 (.reg [.op ⟨0, some 12, .mv (.t 5), none⟩,
  .op ⟨1, some 13, .mv (.t 0), none⟩,
  .op ⟨2, some 14, .call 0 [(.t 12), (.t 13)], none⟩,
  .op ⟨3, some 5, .mv (.t 14), none⟩]))
 (.reg [.op ⟨0, some 10, .mv (.t 6), none⟩,
  .op ⟨1, some 11, .bin .add (.t 10) (.c (.one (.int .i64 1))), none⟩,
  .op ⟨2, some 6, .mv (.t 11), none⟩]))))))
 (.seq (.reg [.op ⟨0, some 15, .mv (.t 5), none⟩,
  .op ⟨1, some 4, .mv (.t 15), none⟩])
 (.ret))))⟩
noncomputable def ref27_Pow.s1 (x0 : Int) (x1 : Int) (s1 : (Int × Int × Unit)) (H2 : Heap) : Option (((Int × Int × Unit) ⊕ (Int × Unit)) × Heap) :=
 cond (decide (s1.2.1 < x1)) (
 (ref27_Mul s1.1 x0).bind fun (r3 : (Int × Unit)) =>
 some (Sum.inl (r3.1, (IntKind.wrap .i64 (s1.2.1 + 1)), ()), H2)) (
 some (Sum.inr (s1.1, ()), H2))
noncomputable def ref27_Pow.on (x0 : Int) (x1 : Int) (H : Heap) : Option (Int × Unit) :=
 (loopW (ref27_Pow.s1 x0 x1) (1, 0, ()) H).bind fun (p4 : (Int × Unit) × Heap) =>
 some (p4.1.1, ())
noncomputable def ref27_Pow (x0 : Int) (x1 : Int) : Option (Int × Unit) := ref27_Pow.on x0 x1 []
noncomputable def ref27_Pow.c : Callee := .pure [.one (.int .u8), .one (.int .i64)] [.one (.int .u8)] (fun x => ref27_Pow x.1 x.2.1)
noncomputable def ref27_Pow.calls : Nat → Option Callee
  | 0 => some ref27_Mul.c
  | _ => none
theorem ref27_Pow.eq : evPure ref27_Pow.calls ref27_Pow.af = (fun x H => ref27_Pow.on x.1 x.2.1 H) := by kernel_rfl
end Ev
