/- What the functions of the package Law05 compute: abstract code, and a function of plain Lean for each; the kernel checks that they are the same. Written by gen2.py. -/
import Derived.Test.YtloijdlakkmjgaaEvCore
import Derived.KernelRfl
set_option linter.unusedVariables false
set_option maxRecDepth 100000
namespace Ev
open Go (IntKind BinOp UnOp)

/-! ### tinderbox/tinderboxlaw05.Geometry -/
def law05_Geometry.af : AFun := ⟨[.agg [.int .i64, .int .i64, .int .i64]], [.agg [.int .i64, .int .i64, .int .i64]], [.cell 2],
 .seq (.reg [.op ⟨0, some 1, .box (.t 0), none⟩,
  .op ⟨1, some 2, .new [.int .i64 0, .int .i64 0, .int .i64 0], none⟩])
 (.seq (.reg [.op ⟨0, some 3, .addr 0 (.t 1), none⟩,
  .op ⟨1, some 4, .load (.one (.int .i64)) (.t 3), none⟩,
  .op ⟨2, some 5, .bin .and (.t 4) (.c (.one (.int .i64 7))), none⟩,
  .op ⟨3, some 6, .bin .add (.c (.one (.int .i64 8))) (.t 5), none⟩,
  .op ⟨4, some 7, .addr 1 (.t 1), none⟩,
  .op ⟨5, some 8, .load (.one (.int .i64)) (.t 7), none⟩,
  .op ⟨6, some 9, .bin .and (.t 8) (.c (.one (.int .i64 7))), none⟩,
  .op ⟨7, some 10, .bin .add (.c (.one (.int .i64 4))) (.t 9), none⟩,
  .op ⟨8, some 11, .addr 2 (.t 1), none⟩,
  .op ⟨9, some 12, .load (.one (.int .i64)) (.t 11), none⟩,
  .op ⟨10, some 13, .bin .and (.t 12) (.c (.one (.int .i64 63))), none⟩,
  .op ⟨11, some 14, .bin .add (.c (.one (.int .i64 64))) (.t 13), none⟩,
  .op ⟨12, some 15, .build [.int .i64 0, .int .i64 0, .int .i64 0] [(0, 1, (.t 6)), (1, 1, (.t 10)), (2, 1, (.t 14))], none⟩,
  .op ⟨13, none, .store 3 (.t 2) (.t 15), none⟩])
 (.ret))⟩
noncomputable def law05_Geometry (x0 : (Int × Int × Int × Unit)) (H : Heap) : Option (((Int × Int × Int × Unit) × Unit) × Heap) :=
 let H1 : Heap := H ++ [Blk.cells [.int .i64 x0.1, .int .i64 x0.2.1, .int .i64 x0.2.2.1] .exact]
 let H2 : Heap := H1 ++ [Blk.cells [.int .i64 0, .int .i64 0, .int .i64 0] .exact]
 (rdI .i64 H2 H.length 0).bind fun (v3 : Int) =>
 (rdI .i64 H2 H.length 1).bind fun (v4 : Int) =>
 (rdI .i64 H2 H.length 2).bind fun (v5 : Int) =>
 (wr H2 H1.length 0 [.int .i64 (IntKind.wrap .i64 (8 + (bitsI .and .i64 v3 7))), .int .i64 (IntKind.wrap .i64 (4 + (bitsI .and .i64 v4 7))), .int .i64 (IntKind.wrap .i64 (64 + (bitsI .and .i64 v5 63)))]).bind fun (H6 : Heap) =>
 Option.bind (α := (Int × Int × Int × Unit)) (rd H6 (.agg [.int .i64, .int .i64, .int .i64]) H1.length 0) fun (v7 : (Int × Int × Int × Unit)) =>
 some ((v7, ()), H6)
noncomputable def law05_Geometry.c : Callee := .full [.agg [.int .i64, .int .i64, .int .i64]] [.agg [.int .i64, .int .i64, .int .i64]] (fun x H => law05_Geometry x.1 H)
noncomputable def law05_Geometry.calls : Nat → Option Callee
  | _ => none
theorem law05_Geometry.eq : evFull law05_Geometry.calls law05_Geometry.af = (fun x H => law05_Geometry x.1 H) := by kernel_rfl
end Ev
