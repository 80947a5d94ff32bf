/- What the functions of the package Ref04 compute: abstract code, and a function of plain Lean for each; the kernel checks that they are the same. Written by gen2.py. -/
import Derived.Test.YtfbecginbilemaaEvCore
import Derived.KernelRfl
set_option linter.unusedVariables false
set_option maxRecDepth 100000
namespace Ev
open Go (IntKind BinOp UnOp)

/-! ### (tinderbox/tinderboxref04.At).Bytes -/
def ref04_At_Bytes.af : AFun := ⟨[.agg [.str, .int .i64], .one (.int .i64)], [.agg [.str, .int .i64], .one .str], [.cell 4, .t 5],
 .seq (.reg [.op ⟨0, some 2, .box (.t 0), none⟩,
  .op ⟨1, some 4, .new [.str [], .int .i64 0], none⟩,
  .op ⟨2, some 5, .mv (.c (.one (.str []))), none⟩])
 (.seq (.seq (.reg [.op ⟨0, some 6, .addr 1 (.t 2), none⟩,
  .op ⟨1, some 7, .load (.one (.int .i64)) (.t 6), none⟩,
  .op ⟨2, some 8, .bin .neq (.t 7) (.c (.one (.int .i64 0))), none⟩])
 (.cond (.t 8) (.seq (.reg [.op ⟨0, some 9, .load (.agg [.str, .int .i64]) (.t 2), none⟩,
  .op ⟨1, none, .store 2 (.t 4) (.t 9), none⟩,
  .op ⟨2, some 5, .mv (.c (.one (.str []))), none⟩])
 (.ret)) (.skip)))
 (.seq (.seq (.reg [.op ⟨0, some 10, .mv (.t 1), none⟩,
  .op ⟨1, some 11, .bin .lss (.t 10) (.c (.one (.int .i64 0))), none⟩,
  .op ⟨2, some 12, .mv (.t 11), none⟩,
  .op ⟨3, some 13, .mv (.t 1), some (12, false)⟩,
  .op ⟨4, some 14, .addr 0 (.t 2), some (12, false)⟩,
  .op ⟨5, some 15, .load (.one .str) (.t 14), some (12, false)⟩,
  .op ⟨6, some 16, .lens (.t 15), some (12, false)⟩,
  .op ⟨7, some 17, .bin .gtr (.t 13) (.t 16), some (12, false)⟩,
  .op ⟨8, some 18, .pick (.t 12) (.c (.one (.bool true))) (.t 17), none⟩])
 (.cond (.t 18) (.seq (.reg [.op ⟨0, some 19, .build [.str [], .int .i64 0] [(1, 1, (.c (.one (.int .i64 2))))], none⟩,
  .op ⟨1, none, .store 2 (.t 4) (.t 19), none⟩,
  .op ⟨2, some 5, .mv (.c (.one (.str []))), none⟩])
 (.ret)) (.skip)))
 (.seq (.reg [.op ⟨0, some 20, .addr 0 (.t 2), none⟩,
  .op ⟨1, some 21, .load (.one .str) (.t 20), none⟩,
  .op ⟨2, some 22, .mv (.t 1), none⟩,
  .op ⟨3, some 23, .slstr (.t 21) (some (.t 22)) none, none⟩,
  .op ⟨4, some 24, .build [.str [], .int .i64 0] [(0, 1, (.t 23))], none⟩,
  .op ⟨5, some 25, .addr 0 (.t 2), none⟩,
  .op ⟨6, some 26, .load (.one .str) (.t 25), none⟩,
  .op ⟨7, some 27, .mv (.t 1), none⟩,
  .op ⟨8, some 28, .slstr (.t 26) none (some (.t 27)), none⟩,
  .op ⟨9, none, .store 2 (.t 4) (.t 24), none⟩,
  .op ⟨10, some 5, .mv (.t 28), none⟩,
  .again ⟨6, some 26, .load (.one .str) (.t 25), none⟩])
 (.ret))))⟩
noncomputable def ref04_At_Bytes.on (x0 : (Bytes × Int × Unit)) (x1 : Int) (H : Heap) : Option ((Bytes × Int × Unit) × Bytes × Unit) :=
 let H1 : Heap := H ++ [Blk.cells [.str x0.1, .int .i64 x0.2.1] .exact]
 let H2 : Heap := H1 ++ [Blk.cells [.str [], .int .i64 0] .exact]
 (rdI .i64 H2 H.length 1).bind fun (v3 : Int) =>
 cond (!decide (v3 = 0)) (
 Option.bind (α := (Bytes × Int × Unit)) (rd H2 (.agg [.str, .int .i64]) H.length 0) fun (v4 : (Bytes × Int × Unit)) =>
 (wr H2 H1.length 0 [.str v4.1, .int .i64 v4.2.1]).bind fun (H5 : Heap) =>
 Option.bind (α := (Bytes × Int × Unit)) (rd H5 (.agg [.str, .int .i64]) H1.length 0) fun (v6 : (Bytes × Int × Unit)) =>
 some (v6, [], ())) (
 cond (decide (x1 < 0)) (
 (wr H2 H1.length 0 [.str [], .int .i64 2]).bind fun (H7 : Heap) =>
 Option.bind (α := (Bytes × Int × Unit)) (rd H7 (.agg [.str, .int .i64]) H1.length 0) fun (v8 : (Bytes × Int × Unit)) =>
 some (v8, [], ())) (
 (rdS H2 H.length 0).bind fun (v9 : Bytes) =>
 cond (decide ((List.length (v9 : Bytes) : Int) < x1)) (
 (wr H2 H1.length 0 [.str [], .int .i64 2]).bind fun (H10 : Heap) =>
 Option.bind (α := (Bytes × Int × Unit)) (rd H10 (.agg [.str, .int .i64]) H1.length 0) fun (v11 : (Bytes × Int × Unit)) =>
 some (v11, [], ())) (
 (rdS H2 H.length 0).bind fun (v12 : Bytes) =>
 (subS v12 x1 (List.length (v12 : Bytes) : Int)).bind fun (s13 : Bytes) =>
 (rdS H2 H.length 0).bind fun (v14 : Bytes) =>
 (subS v14 0 x1).bind fun (s15 : Bytes) =>
 (wr H2 H1.length 0 [.str s13, .int .i64 0]).bind fun (H16 : Heap) =>
 (rdS H16 H.length 0).bind fun (v17 : Bytes) =>
 if V.w (.one (.str v17)) = V.w (.one (.str v14)) then
 Option.bind (α := (Bytes × Int × Unit)) (rd H16 (.agg [.str, .int .i64]) H1.length 0) fun (v18 : (Bytes × Int × Unit)) =>
 some (v18, s15, ())
 else none)))
noncomputable def ref04_At_Bytes (x0 : (Bytes × Int × Unit)) (x1 : Int) : Option ((Bytes × Int × Unit) × Bytes × Unit) := ref04_At_Bytes.on x0 x1 []
noncomputable def ref04_At_Bytes.c : Callee := .pure [.agg [.str, .int .i64], .one (.int .i64)] [.agg [.str, .int .i64], .one .str] (fun x => ref04_At_Bytes x.1 x.2.1)
noncomputable def ref04_At_Bytes.calls : Nat → Option Callee
  | _ => none
theorem ref04_At_Bytes.eq : evPure ref04_At_Bytes.calls ref04_At_Bytes.af = (fun x H => ref04_At_Bytes.on x.1 x.2.1 H) := by kernel_rfl

/-! ### (tinderbox/tinderboxref04.At).Fixed -/
def ref04_At_Fixed.af : AFun := ⟨[.agg [.str, .int .i64], .one (.int .i64)], [.agg [.str, .int .i64], .one (.int .u64)], [.cell 4, .t 5],
 .seq (.reg [.op ⟨0, some 2, .box (.t 0), none⟩,
  .op ⟨1, some 4, .new [.str [], .int .i64 0], none⟩,
  .op ⟨2, some 5, .mv (.c (.one (.int .u64 0))), none⟩])
 (.seq (.reg [.op ⟨0, some 11, .mv (.t 1), none⟩,
  .op ⟨1, some 6, .mv (.t 11), none⟩])
 (.seq (.scope [(.normal, [(6, .one (.int .i64))])] (.seq (.reg [.op ⟨0, some 12, .mv (.t 6), none⟩,
  .op ⟨1, some 13, .bin .lss (.t 12) (.c (.one (.int .i64 0))), none⟩])
 (.cond (.t 13) (.reg [.op ⟨0, some 6, .mv (.c (.one (.int .i64 0))), none⟩]) (.skip))))
 (.seq (.scope [(.normal, [(6, .one (.int .i64))])] (.seq (.reg [.op ⟨0, some 14, .mv (.t 6), none⟩,
  .op ⟨1, some 15, .bin .gtr (.t 14) (.c (.one (.int .i64 8))), none⟩])
 (.cond (.t 15) (.reg [.op ⟨0, some 6, .mv (.c (.one (.int .i64 8))), none⟩]) (.skip))))
 (.seq (.reg [.op ⟨0, some 17, .load (.agg [.str, .int .i64]) (.t 2), none⟩,
  .op ⟨1, some 18, .mv (.t 6), none⟩,
  .op ⟨2, some 19, .call 0 [(.t 17), (.t 18)], none⟩,
  .op ⟨3, some 16, .mv (.t 19), none⟩,
  .op ⟨4, some 20, .ext (.t 16) 0, none⟩,
  .op ⟨5, some 21, .ext (.t 16) 1, none⟩,
  .op ⟨6, some 7, .new [.str [], .int .i64 0], none⟩,
  .op ⟨7, none, .store 2 (.t 7) (.t 20), none⟩,
  .op ⟨8, some 8, .mv (.t 21), none⟩])
 (.seq (.reg [.op ⟨0, some 9, .mv (.c (.one (.int .u64 0))), none⟩])
 (.seq (.seq (.reg [.op ⟨0, some 22, .mv (.t 8), none⟩,
  .op ⟨1, some 23, .lens (.t 22), none⟩,
  .op ⟨2, some 24, .bin .sub (.t 23) (.c (.one (.int .i64 1))), none⟩,
  .op ⟨3, some 10, .mv (.t 24), none⟩])
 (.block 0 (.loop [(9, .one (.int .u64)), (10, .one (.int .i64))] [(.exit 0, [(9, .one (.int .u64))])] (.seq (.seq (.reg [.op ⟨0, some 25, .mv (.t 10), none⟩,
  .op ⟨1, some 26, .bin .geq (.t 25) (.c (.one (.int .i64 0))), none⟩])
 (.cond (.t 26) (.skip) (.exit 0)))
 (.seq (.block 1 (.reg [.op ⟨0, some 29, .mv (.t 9), none⟩,
  .op ⟨1, some 30, .bin .mul (.t 29) (.c (.one (.int .u64 256))), none⟩,
  .op ⟨2, some 31, .mv (.t 8), none⟩,
  .op ⟨3, some 32, .mv (.t 10), none⟩,
  .op ⟨4, some 33, .index (.t 31) (.t 32), none⟩,
  .op ⟨5, some 34, .conv .u64 (.t 33), none⟩,
  .op ⟨6, some 35, .bin .add (.t 30) (.t 34), none⟩,
  .op ⟨7, some 9, .mv (.t 35), none⟩]))
 (.reg [.op ⟨0, some 27, .mv (.t 10), none⟩,
  .op ⟨1, some 28, .bin .sub (.t 27) (.c (.one (.int .i64 1))), none⟩,
  .op ⟨2, some 10, .mv (.t 28), none⟩]))))))
 (.seq (.reg [.op ⟨0, some 36, .load (.agg [.str, .int .i64]) (.t 7), none⟩,
  .op ⟨1, some 37, .mv (.t 9), none⟩,
  .op ⟨2, none, .store 2 (.t 4) (.t 36), none⟩,
  .op ⟨3, some 5, .mv (.t 37), none⟩])
 (.ret))))))))⟩
noncomputable def ref04_At_Fixed.s1 (r6 : ((Bytes × Int × Unit) × Bytes × Unit)) (s9 : (Int × Int × Unit)) (H10 : Heap) : Option (((Int × Int × Unit) ⊕ (Int × Unit)) × Heap) :=
 cond (decide (0 ≤ s9.2.1)) (
 (idxS r6.2.1 s9.2.1).bind fun (n11 : Int) =>
 some (Sum.inl ((IntKind.wrap .u64 ((IntKind.wrap .u64 (s9.1 * 256)) + (IntKind.wrap .u64 n11))), (IntKind.wrap .i64 (s9.2.1 - 1)), ()), H10)) (
 some (Sum.inr (s9.1, ()), H10))
noncomputable def ref04_At_Fixed.on (x0 : (Bytes × Int × Unit)) (x1 : Int) (H : Heap) : Option ((Bytes × Int × Unit) × Int × Unit) :=
 let H1 : Heap := H ++ [Blk.cells [.str x0.1, .int .i64 x0.2.1] .exact]
 let H2 : Heap := H1 ++ [Blk.cells [.str [], .int .i64 0] .exact]
 (cond (decide (x1 < 0)) (
 some ((0, ()), H2)) (
 some ((x1, ()), H2)) : Option ((Int × Unit) × Heap)).bind fun (p3 : (Int × Unit) × Heap) =>
 (cond (decide (8 < p3.1.1)) (
 some ((8, ()), p3.2)) (
 some ((p3.1.1, ()), p3.2)) : Option ((Int × Unit) × Heap)).bind fun (p4 : (Int × Unit) × Heap) =>
 Option.bind (α := (Bytes × Int × Unit)) (rd p4.2 (.agg [.str, .int .i64]) H.length 0) fun (v5 : (Bytes × Int × Unit)) =>
 (ref04_At_Bytes (v5.1, v5.2.1, ()) p4.1.1).bind fun (r6 : ((Bytes × Int × Unit) × Bytes × Unit)) =>
 let H7 : Heap := p4.2 ++ [Blk.cells [.str [], .int .i64 0] .exact]
 (wr H7 p4.2.length 0 [.str r6.1.1, .int .i64 r6.1.2.1]).bind fun (H8 : Heap) =>
 (loopW (ref04_At_Fixed.s1 r6) (0, (IntKind.wrap .i64 ((List.length (r6.2.1 : Bytes) : Int) - 1)), ()) H8).bind fun (p12 : (Int × Unit) × Heap) =>
 Option.bind (α := (Bytes × Int × Unit)) (rd p12.2 (.agg [.str, .int .i64]) p4.2.length 0) fun (v13 : (Bytes × Int × Unit)) =>
 (wr p12.2 H1.length 0 [.str v13.1, .int .i64 v13.2.1]).bind fun (H14 : Heap) =>
 Option.bind (α := (Bytes × Int × Unit)) (rd H14 (.agg [.str, .int .i64]) H1.length 0) fun (v15 : (Bytes × Int × Unit)) =>
 some (v15, p12.1.1, ())
noncomputable def ref04_At_Fixed (x0 : (Bytes × Int × Unit)) (x1 : Int) : Option ((Bytes × Int × Unit) × Int × Unit) := ref04_At_Fixed.on x0 x1 []
noncomputable def ref04_At_Fixed.c : Callee := .pure [.agg [.str, .int .i64], .one (.int .i64)] [.agg [.str, .int .i64], .one (.int .u64)] (fun x => ref04_At_Fixed x.1 x.2.1)
noncomputable def ref04_At_Fixed.calls : Nat → Option Callee
  | 0 => some ref04_At_Bytes.c
  | _ => none
theorem ref04_At_Fixed.eq : evPure ref04_At_Fixed.calls ref04_At_Fixed.af = (fun x H => ref04_At_Fixed.on x.1 x.2.1 H) := by kernel_rfl
end Ev
