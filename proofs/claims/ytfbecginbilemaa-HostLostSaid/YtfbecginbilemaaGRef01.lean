/- What the functions of the package Ref01 compute: abstract code, and a function of plain Lean for each; the kernel checks that they are the same. Written by gen2.py. -/
import Derived.Test.YtfbecginbilemaaEvCore
import Derived.KernelRfl
set_option linter.unusedVariables false
set_option maxRecDepth 100000
namespace Ev
open Go (IntKind BinOp UnOp)

/-! ### tinderbox/tinderboxref01.turned -/
def ref01_turned.af : AFun := ⟨[.one (.int .u32), .one (.int .i64)], [.one (.int .u32)], [.t 4],
 .seq (.reg [.op ⟨0, some 4, .mv (.c (.one (.int .u32 0))), none⟩])
 (.seq (.reg [.op ⟨0, some 5, .mv (.c (.one (.int .u32 0))), none⟩])
 (.seq (.seq (.reg [.op ⟨0, some 6, .mv (.c (.one (.int .i64 0))), none⟩])
 (.block 0 (.loop [(0, .one (.int .u32)), (5, .one (.int .u32)), (6, .one (.int .i64))] [(.exit 0, [(5, .one (.int .u32))])] (.seq (.seq (.reg [.op ⟨0, some 7, .mv (.t 6), none⟩,
  .op ⟨1, some 8, .mv (.t 1), none⟩,
  .op ⟨2, some 9, .bin .lss (.t 7) (.t 8), none⟩])
 (.cond (.t 9) (.skip) (.exit 0)))
 (.seq (.block 1 (.seq (.reg [.op ⟨0, some 12, .mv (.t 5), none⟩,
  .op ⟨1, some 13, .bin .mul (.t 12) (.c (.one (.int .u32 2))), none⟩,
  .op ⟨2, some 14, .mv (.t 0), none⟩,
  .op ⟨3, some 15, .bin .rem (.t 14) (.c (.one (.int .u32 2))), none⟩,
  .op ⟨4, some 16, .bin .add (.t 13) (.t 15), none⟩,
  .op ⟨5, some 5, .mv (.t 16), none⟩])
 (.reg [.op ⟨0, some 17, .mv (.t 0), none⟩,
  .op ⟨1, some 18, .bin .quo (.t 17) (.c (.one (.int .u32 2))), none⟩,
  .op ⟨2, some 0, .mv (.t 18), none⟩])))
 (.reg [.op ⟨0, some 10, .mv (.t 6), none⟩,
  .op ⟨1, some 11, .bin .add (.t 10) (.c (.one (.int .i64 1))), none⟩,
  .op ⟨2, some 6, .mv (.t 11), none⟩]))))))
 (.seq (.reg [.op ⟨0, some 19, .mv (.t 5), none⟩,
  .op ⟨1, some 4, .mv (.t 19), none⟩])
 (.ret))))⟩
noncomputable def ref01_turned.s1 (x1 : Int) (s1 : (Int × Int × Int × Unit)) (H2 : Heap) : Option (((Int × Int × Int × Unit) ⊕ (Int × Unit)) × Heap) :=
 cond (decide (s1.2.2.1 < x1)) (
 some (Sum.inl ((IntKind.wrap .u32 (Int.tdiv s1.1 2)), (IntKind.wrap .u32 ((IntKind.wrap .u32 (s1.2.1 * 2)) + (Int.tmod s1.1 2))), (IntKind.wrap .i64 (s1.2.2.1 + 1)), ()), H2)) (
 some (Sum.inr (s1.2.1, ()), H2))
noncomputable def ref01_turned.on (x0 : Int) (x1 : Int) (H : Heap) : Option (Int × Unit) :=
 (loopW (ref01_turned.s1 x1) (x0, 0, 0, ()) H).bind fun (p3 : (Int × Unit) × Heap) =>
 some (p3.1.1, ())
noncomputable def ref01_turned (x0 : Int) (x1 : Int) : Option (Int × Unit) := ref01_turned.on x0 x1 []
noncomputable def ref01_turned.c : Callee := .pure [.one (.int .u32), .one (.int .i64)] [.one (.int .u32)] (fun x => ref01_turned x.1 x.2.1)
noncomputable def ref01_turned.calls : Nat → Option Callee
  | _ => none
theorem ref01_turned.eq : evPure ref01_turned.calls ref01_turned.af = (fun x H => ref01_turned.on x.1 x.2.1 H) := by kernel_rfl

/-! ### tinderbox/tinderboxref01.Sum -/
def ref01_Sum.af : AFun := ⟨[.one .str], [.one (.int .u32)], [.t 2],
 .seq (.reg [.op ⟨0, some 2, .mv (.c (.one (.int .u32 0))), none⟩])
 (.seq (.reg [.op ⟨0, some 3, .mv (.c (.one (.int .u32 4294967295))), none⟩])
 (.seq (.seq (.reg [.op ⟨0, some 4, .mv (.c (.one (.int .i64 0))), none⟩])
 (.block 0 (.loop [(3, .one (.int .u32)), (4, .one (.int .i64))] [(.exit 0, [(3, .one (.int .u32))])] (.seq (.seq (.reg [.op ⟨0, some 7, .mv (.t 4), none⟩,
  .op ⟨1, some 8, .mv (.t 0), none⟩,
  .op ⟨2, some 9, .lens (.t 8), none⟩,
  .op ⟨3, some 10, .bin .lss (.t 7) (.t 9), none⟩])
 (.cond (.t 10) (.skip) (.exit 0)))
 (.seq (.block 1 (.seq (.reg [.op ⟨0, some 13, .mv (.t 3), none⟩,
  .op ⟨1, some 14, .mv (.t 0), none⟩,
  .op ⟨2, some 15, .mv (.t 4), none⟩,
  .op ⟨3, some 16, .index (.t 14) (.t 15), none⟩,
  .op ⟨4, some 17, .conv .u32 (.t 16), none⟩,
  .op ⟨5, some 18, .call 0 [(.t 17), (.c (.one (.int .i64 8)))], none⟩,
  .op ⟨6, some 19, .bin .mul (.t 18) (.c (.one (.int .u32 16777216))), none⟩,
  .op ⟨7, some 20, .bin .xor (.t 13) (.t 19), none⟩,
  .op ⟨8, some 3, .mv (.t 20), none⟩])
 (.seq (.reg [.op ⟨0, some 5, .mv (.c (.one (.int .i64 0))), none⟩])
 (.block 2 (.loop [(3, .one (.int .u32)), (5, .one (.int .i64))] [(.exit 2, [(3, .one (.int .u32))])] (.seq (.seq (.reg [.op ⟨0, some 21, .mv (.t 5), none⟩,
  .op ⟨1, some 22, .bin .lss (.t 21) (.c (.one (.int .i64 8))), none⟩])
 (.cond (.t 22) (.skip) (.exit 2)))
 (.seq (.block 3 (.seq (.reg [.op ⟨0, some 25, .mv (.t 3), none⟩,
  .op ⟨1, some 26, .bin .geq (.t 25) (.c (.one (.int .u32 2147483648))), none⟩,
  .op ⟨2, some 6, .mv (.t 26), none⟩])
 (.seq (.reg [.op ⟨0, some 27, .mv (.t 3), none⟩,
  .op ⟨1, some 28, .bin .mul (.t 27) (.c (.one (.int .u32 2))), none⟩,
  .op ⟨2, some 3, .mv (.t 28), none⟩])
 (.seq (.reg [.op ⟨0, some 29, .mv (.t 6), none⟩])
 (.cond (.t 29) (.reg [.op ⟨0, some 30, .mv (.t 3), none⟩,
  .op ⟨1, some 31, .bin .xor (.t 30) (.c (.one (.int .u32 517762881))), none⟩,
  .op ⟨2, some 3, .mv (.t 31), none⟩]) (.skip))))))
 (.reg [.op ⟨0, some 23, .mv (.t 5), none⟩,
  .op ⟨1, some 24, .bin .add (.t 23) (.c (.one (.int .i64 1))), none⟩,
  .op ⟨2, some 5, .mv (.t 24), none⟩]))))))))
 (.reg [.op ⟨0, some 11, .mv (.t 4), none⟩,
  .op ⟨1, some 12, .bin .add (.t 11) (.c (.one (.int .i64 1))), none⟩,
  .op ⟨2, some 4, .mv (.t 12), none⟩]))))))
 (.seq (.reg [.op ⟨0, some 32, .mv (.t 3), none⟩,
  .op ⟨1, some 33, .call 0 [(.t 32), (.c (.one (.int .i64 32)))], none⟩,
  .op ⟨2, some 34, .bin .xor (.t 33) (.c (.one (.int .u32 4294967295))), none⟩,
  .op ⟨3, some 2, .mv (.t 34), none⟩])
 (.ret))))⟩
noncomputable def ref01_Sum.s1 (s5 : (Int × Int × Unit)) (H6 : Heap) : Option (((Int × Int × Unit) ⊕ (Int × Unit)) × Heap) :=
 cond (decide (s5.2.1 < 8)) (
 cond (decide (2147483648 ≤ s5.1)) (
 some (Sum.inl ((bitsI .xor .u32 (IntKind.wrap .u32 (s5.1 * 2)) 517762881), (IntKind.wrap .i64 (s5.2.1 + 1)), ()), H6)) (
 some (Sum.inl ((IntKind.wrap .u32 (s5.1 * 2)), (IntKind.wrap .i64 (s5.2.1 + 1)), ()), H6))) (
 some (Sum.inr (s5.1, ()), H6))
noncomputable def ref01_Sum.s2 (x0 : Bytes) (s1 : (Int × Int × Unit)) (H2 : Heap) : Option (((Int × Int × Unit) ⊕ (Int × Unit)) × Heap) :=
 cond (decide (s1.2.1 < (List.length (x0 : Bytes) : Int))) (
 (idxS x0 s1.2.1).bind fun (n3 : Int) =>
 (ref01_turned (IntKind.wrap .u32 n3) 8).bind fun (r4 : (Int × Unit)) =>
 (loopW (ref01_Sum.s1) ((bitsI .xor .u32 s1.1 (IntKind.wrap .u32 (r4.1 * 16777216))), 0, ()) H2).bind fun (p7 : (Int × Unit) × Heap) =>
 some (Sum.inl (p7.1.1, (IntKind.wrap .i64 (s1.2.1 + 1)), ()), p7.2)) (
 some (Sum.inr (s1.1, ()), H2))
noncomputable def ref01_Sum.on (x0 : Bytes) (H : Heap) : Option (Int × Unit) :=
 (loopW (ref01_Sum.s2 x0) (4294967295, 0, ()) H).bind fun (p8 : (Int × Unit) × Heap) =>
 (ref01_turned p8.1.1 32).bind fun (r9 : (Int × Unit)) =>
 some ((bitsI .xor .u32 r9.1 4294967295), ())
noncomputable def ref01_Sum (x0 : Bytes) : Option (Int × Unit) := ref01_Sum.on x0 []
noncomputable def ref01_Sum.c : Callee := .pure [.one .str] [.one (.int .u32)] (fun x => ref01_Sum x.1)
noncomputable def ref01_Sum.calls : Nat → Option Callee
  | 0 => some ref01_turned.c
  | _ => none
theorem ref01_Sum.eq : evPure ref01_Sum.calls ref01_Sum.af = (fun x H => ref01_Sum.on x.1 H) := by kernel_rfl
end Ev
