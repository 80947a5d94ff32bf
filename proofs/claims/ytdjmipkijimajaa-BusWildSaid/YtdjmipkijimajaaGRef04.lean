/- What the functions of the package Ref04 compute: abstract code, and a function of plain Lean for each; the kernel checks that they are the same. Written by gen2.py. -/
import Derived.Test.YtdjmipkijimajaaEvCore
import Derived.KernelRfl
set_option linter.unusedVariables false
set_option maxRecDepth 100000
namespace Ev
open Go (IntKind BinOp UnOp)

/-! ### tinderbox/tinderboxref04.Fixed -/
def ref04_Fixed.af : AFun := ⟨[.one (.int .u64), .one (.int .i64)], [.one .str], [.t 4],
 .seq (.reg [.op ⟨0, some 4, .mv (.c (.one (.str []))), none⟩])
 (.seq (.reg [.op ⟨0, some 7, .bslice 1 0 [] [], none⟩,
  .op ⟨1, some 5, .mv (.t 7), none⟩])
 (.seq (.seq (.reg [.op ⟨0, some 6, .mv (.c (.one (.int .i64 0))), none⟩])
 (.block 0 (.loop [(0, .one (.int .u64)), (5, .one (.sl 1)), (6, .one (.int .i64))] [(.exit 0, [(5, .one (.sl 1))])] (.seq (.seq (.reg [.op ⟨0, some 8, .mv (.t 6), none⟩,
  .op ⟨1, some 9, .mv (.t 1), none⟩,
  .op ⟨2, some 10, .bin .lss (.t 8) (.t 9), none⟩,
  .op ⟨3, some 11, .mv (.t 10), none⟩,
  .op ⟨4, some 12, .mv (.t 6), some (11, true)⟩,
  .op ⟨5, some 13, .bin .lss (.t 12) (.c (.one (.int .i64 8))), some (11, true)⟩,
  .op ⟨6, some 14, .pick (.t 11) (.t 13) (.c (.one (.bool false))), none⟩])
 (.cond (.t 14) (.skip) (.exit 0)))
 (.seq (.block 1 (.seq (.reg [.op ⟨0, some 17, .mv (.t 5), none⟩,
  .op ⟨1, some 18, .mv (.t 0), none⟩,
  .op ⟨2, some 19, .bin .rem (.t 18) (.c (.one (.int .u64 256))), none⟩,
  .op ⟨3, some 20, .conv .u8 (.t 19), none⟩,
  .op ⟨4, some 21, .bslice 1 1 [.int .u8 0] [(0, 1, (.t 20))], none⟩,
  .op ⟨5, some 22, .app 1 1 (.t 17) (.t 21), none⟩,
  .op ⟨6, some 5, .mv (.t 22), none⟩])
 (.reg [.op ⟨0, some 23, .mv (.t 0), none⟩,
  .op ⟨1, some 24, .bin .quo (.t 23) (.c (.one (.int .u64 256))), none⟩,
  .op ⟨2, some 0, .mv (.t 24), none⟩])))
 (.reg [.op ⟨0, some 15, .mv (.t 6), none⟩,
  .op ⟨1, some 16, .bin .add (.t 15) (.c (.one (.int .i64 1))), none⟩,
  .op ⟨2, some 6, .mv (.t 16), none⟩]))))))
 (.seq (.reg [.op ⟨0, some 25, .mv (.t 5), none⟩,
  .op ⟨1, some 26, .b2s (.t 25), none⟩,
  .op ⟨2, some 4, .mv (.t 26), none⟩])
 (.ret))))⟩
noncomputable def ref04_Fixed.s1 (x1 : Int) (s2 : (Int × Sl × Int × Unit)) (H3 : Heap) : Option (((Int × Sl × Int × Unit) ⊕ (Sl × Unit)) × Heap) :=
 cond (decide (s2.2.2.1 < x1)) (
 cond (decide (s2.2.2.1 < 8)) (
 let H4 : Heap := H3 ++ [Blk.cells [.int .u8 (IntKind.wrap .u8 (Int.tmod s2.1 256))] .exact]
 (slRow H4 1 (⟨some (H3.length, 0), 1, 1⟩)).bind fun (cs5 : (List C)) =>
 (appS H4 1 1 s2.2.1 1 cs5).bind fun (p6 : (Sl × Heap)) =>
 some (Sum.inl ((IntKind.wrap .u64 (Int.tdiv s2.1 256)), p6.1, (IntKind.wrap .i64 (s2.2.2.1 + 1)), ()), p6.2)) (
 some (Sum.inr (s2.2.1, ()), H3))) (
 some (Sum.inr (s2.2.1, ()), H3))
noncomputable def ref04_Fixed.on (x0 : Int) (x1 : Int) (H : Heap) : Option (Bytes × Unit) :=
 let H1 : Heap := H ++ [Blk.cells [] .exact]
 (loopW (ref04_Fixed.s1 x1) (x0, ⟨some (H.length, 0), 0, 0⟩, 0, ()) H1).bind fun (p7 : (Sl × Unit) × Heap) =>
 (strOf p7.2 p7.1.1).bind fun (s8 : Bytes) =>
 some (s8, ())
noncomputable def ref04_Fixed (x0 : Int) (x1 : Int) : Option (Bytes × Unit) := ref04_Fixed.on x0 x1 []
noncomputable def ref04_Fixed.c : Callee := .pure [.one (.int .u64), .one (.int .i64)] [.one .str] (fun x => ref04_Fixed x.1 x.2.1)
noncomputable def ref04_Fixed.calls : Nat → Option Callee
  | _ => none
theorem ref04_Fixed.eq : evPure ref04_Fixed.calls ref04_Fixed.af = (fun x H => ref04_Fixed.on x.1 x.2.1 H) := by kernel_rfl
end Ev
