/- What the functions of the package Ref31 compute: abstract code, and a function of plain Lean for each; the kernel checks that they are the same. Written by gen2.py. -/
import Derived.Test.YtdjmipkijimajaaEvCore
import Derived.Test.YtdjmipkijimajaaGRef01
import Derived.Test.YtdjmipkijimajaaGRef04
import Derived.KernelRfl
set_option linter.unusedVariables false
set_option maxRecDepth 100000
namespace Ev
open Go (IntKind BinOp UnOp)

/-! ### tinderbox/tinderboxref31.Param -/
def ref31_Param.af : AFun := ⟨[.agg [.int .i64, .int .i64, .int .i64]], [.one .str], [.t 2],
 .seq (.reg [.op ⟨0, some 1, .box (.t 0), none⟩,
  .op ⟨1, some 2, .mv (.c (.one (.str []))), none⟩])
 (.seq (.reg [.op ⟨0, some 4, .addr 0 (.t 1), none⟩,
  .op ⟨1, some 5, .load (.one (.int .i64)) (.t 4), none⟩,
  .op ⟨2, some 6, .conv .u64 (.t 5), none⟩,
  .op ⟨3, some 7, .call 0 [(.t 6), (.c (.one (.int .i64 4)))], none⟩,
  .op ⟨4, some 8, .bin .add (.c (.one (.str [84, 66, 1]))) (.t 7), none⟩,
  .op ⟨5, some 9, .addr 1 (.t 1), none⟩,
  .op ⟨6, some 10, .load (.one (.int .i64)) (.t 9), none⟩,
  .op ⟨7, some 11, .conv .u64 (.t 10), none⟩,
  .op ⟨8, some 12, .call 0 [(.t 11), (.c (.one (.int .i64 4)))], none⟩,
  .op ⟨9, some 13, .bin .add (.t 8) (.t 12), none⟩,
  .op ⟨10, some 14, .addr 2 (.t 1), none⟩,
  .op ⟨11, some 15, .load (.one (.int .i64)) (.t 14), none⟩,
  .op ⟨12, some 16, .conv .u64 (.t 15), none⟩,
  .op ⟨13, some 17, .call 0 [(.t 16), (.c (.one (.int .i64 4)))], none⟩,
  .op ⟨14, some 18, .bin .add (.t 13) (.t 17), none⟩,
  .op ⟨15, some 19, .call 0 [(.c (.one (.int .u64 32))), (.c (.one (.int .i64 2)))], none⟩,
  .op ⟨16, some 20, .bin .add (.t 18) (.t 19), none⟩,
  .op ⟨17, some 3, .mv (.t 20), none⟩])
 (.seq (.block 0 (.loop [(3, .one .str)] [(.exit 0, [(3, .one .str)])] (.seq (.seq (.reg [.op ⟨0, some 21, .mv (.t 3), none⟩,
  .op ⟨1, some 22, .lens (.t 21), none⟩,
  .op ⟨2, some 23, .bin .lss (.t 22) (.c (.one (.int .i64 20))), none⟩])
 (.cond (.t 23) (.skip) (.exit 0)))
 (.block 1 (.reg [.op ⟨0, some 24, .mv (.t 3), none⟩,
  .op ⟨1, some 25, .bin .add (.t 24) (.c (.one (.str [0]))), none⟩,
  .op ⟨2, some 3, .mv (.t 25), none⟩])))))
 (.seq (.reg [.op ⟨0, some 26, .mv (.t 3), none⟩,
  .op ⟨1, some 27, .mv (.t 3), none⟩,
  .op ⟨2, some 28, .call 1 [(.t 27)], none⟩,
  .op ⟨3, some 29, .conv .u64 (.t 28), none⟩,
  .op ⟨4, some 30, .call 0 [(.t 29), (.c (.one (.int .i64 4)))], none⟩,
  .op ⟨5, some 31, .bin .add (.t 26) (.t 30), none⟩,
  .op ⟨6, some 2, .mv (.t 31), none⟩])
 (.ret))))⟩
noncomputable def ref31_Param.s1 (s13 : (Bytes × Unit)) (H14 : Heap) : Option (((Bytes × Unit) ⊕ (Bytes × Unit)) × Heap) :=
 cond (decide ((List.length (s13.1 : Bytes) : Int) < 20)) (
 (catS s13.1 [0]).bind fun (s15 : Bytes) =>
 some (Sum.inl (s15, ()), H14)) (
 some (Sum.inr (s13.1, ()), H14))
noncomputable def ref31_Param.on (x0 : (Int × Int × Int × Unit)) (H : Heap) : Option (Bytes × Unit) :=
 let H1 : Heap := H ++ [Blk.cells [.int .i64 x0.1, .int .i64 x0.2.1, .int .i64 x0.2.2.1] .exact]
 (rdI .i64 H1 H.length 0).bind fun (v2 : Int) =>
 (ref04_Fixed (IntKind.wrap .u64 v2) 4).bind fun (r3 : (Bytes × Unit)) =>
 (catS [84, 66, 1] r3.1).bind fun (s4 : Bytes) =>
 (rdI .i64 H1 H.length 1).bind fun (v5 : Int) =>
 (ref04_Fixed (IntKind.wrap .u64 v5) 4).bind fun (r6 : (Bytes × Unit)) =>
 (catS s4 r6.1).bind fun (s7 : Bytes) =>
 (rdI .i64 H1 H.length 2).bind fun (v8 : Int) =>
 (ref04_Fixed (IntKind.wrap .u64 v8) 4).bind fun (r9 : (Bytes × Unit)) =>
 (catS s7 r9.1).bind fun (s10 : Bytes) =>
 (ref04_Fixed 32 2).bind fun (r11 : (Bytes × Unit)) =>
 (catS s10 r11.1).bind fun (s12 : Bytes) =>
 (loopW (ref31_Param.s1) (s12, ()) H1).bind fun (p16 : (Bytes × Unit) × Heap) =>
 (ref01_Sum p16.1.1).bind fun (r17 : (Int × Unit)) =>
 (ref04_Fixed (IntKind.wrap .u64 r17.1) 4).bind fun (r18 : (Bytes × Unit)) =>
 (catS p16.1.1 r18.1).bind fun (s19 : Bytes) =>
 some (s19, ())
noncomputable def ref31_Param (x0 : (Int × Int × Int × Unit)) : Option (Bytes × Unit) := ref31_Param.on x0 []
noncomputable def ref31_Param.c : Callee := .pure [.agg [.int .i64, .int .i64, .int .i64]] [.one .str] (fun x => ref31_Param x.1)
noncomputable def ref31_Param.calls : Nat → Option Callee
  | 0 => some ref04_Fixed.c
  | 1 => some ref01_Sum.c
  | _ => none
theorem ref31_Param.eq : evPure ref31_Param.calls ref31_Param.af = (fun x H => ref31_Param.on x.1 H) := by kernel_rfl
end Ev
