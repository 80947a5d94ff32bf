/- What the functions of the package Group compute: abstract code, and a function of plain Lean for each; the kernel checks that they are the same. Written by gen2.py. -/
import Derived.Test.YtloijdlakkmjgaaEvCore
import Derived.Test.YtloijdlakkmjgaaGRec
import Derived.KernelRfl
set_option linter.unusedVariables false
set_option maxRecDepth 100000
namespace Ev
open Go (IntKind BinOp UnOp)

/-! ### tinderbox/group.Pack -/
def group_Pack.af : AFun := ⟨[.one (.sl 6), .one (.int .i64)], [.one (.sl 1)], [.t 4],
 .seq (.reg [.op ⟨0, some 4, .mv (.c (.one (.sl 1 (⟨none, 0, 0⟩)))), none⟩])
 (.seq (.reg [.op ⟨0, some 10, .bslice 1 1 [.str []] [(0, 1, (.c (.one (.str []))))], none⟩,
  .op ⟨1, some 5, .mv (.t 10), none⟩])
 (.seq (.seq (.reg [.op ⟨0, some 11, .mv (.t 0), none⟩,
  .op ⟨1, some 12, .len (.t 11), none⟩,
  .op ⟨2, some 13, .mv (.c (.one (.int .i64 0))), none⟩])
 (.block 0 (.loop [(5, .one (.sl 1)), (13, .one (.int .i64))] [(.exit 0, [(5, .one (.sl 1))])] (.seq (.reg [.op ⟨0, some 14, .bin .lss (.t 13) (.t 12), none⟩])
 (.seq (.cond (.t 14) (.skip) (.exit 0))
 (.seq (.block 1 (.seq (.reg [.op ⟨0, some 15, .idxa 6 (.t 11) (.t 13), none⟩,
  .op ⟨1, some 16, .load (.agg [.int .i64, .int .i64, .int .i64, .int .i64, .int .i64, .int .i64]) (.t 15), none⟩,
  .op ⟨2, some 7, .new [.int .i64 0, .int .i64 0, .int .i64 0, .int .i64 0, .int .i64 0, .int .i64 0], none⟩,
  .op ⟨3, none, .store 6 (.t 7) (.t 16), none⟩])
 (.seq (.reg [.op ⟨0, some 17, .load (.agg [.int .i64, .int .i64, .int .i64, .int .i64, .int .i64, .int .i64]) (.t 7), none⟩,
  .op ⟨1, some 18, .call 0 [(.t 17)], none⟩,
  .op ⟨2, some 8, .mv (.t 18), none⟩])
 (.seq (.seq (.reg [.op ⟨0, some 19, .mv (.t 5), none⟩,
  .op ⟨1, some 20, .len (.t 19), none⟩,
  .op ⟨2, some 21, .bin .sub (.t 20) (.c (.one (.int .i64 1))), none⟩,
  .op ⟨3, some 9, .mv (.t 21), none⟩])
 (.seq (.reg [.op ⟨0, some 22, .mv (.t 5), none⟩,
  .op ⟨1, some 23, .mv (.t 9), none⟩,
  .op ⟨2, some 24, .idxa 1 (.t 22) (.t 23), none⟩,
  .op ⟨3, some 25, .load (.one .str) (.t 24), none⟩,
  .op ⟨4, some 26, .lens (.t 25), none⟩,
  .op ⟨5, some 27, .mv (.t 8), none⟩,
  .op ⟨6, some 28, .lens (.t 27), none⟩,
  .op ⟨7, some 29, .bin .add (.t 26) (.t 28), none⟩,
  .op ⟨8, some 30, .mv (.t 1), none⟩,
  .op ⟨9, some 31, .bin .leq (.t 29) (.t 30), none⟩])
 (.cond (.t 31) (.seq (.reg [.op ⟨0, some 32, .mv (.t 5), none⟩,
  .op ⟨1, some 33, .mv (.t 9), none⟩,
  .op ⟨2, some 34, .idxa 1 (.t 32) (.t 33), none⟩,
  .op ⟨3, some 35, .load (.one .str) (.t 34), none⟩,
  .op ⟨4, some 36, .mv (.t 8), none⟩,
  .op ⟨5, some 37, .bin .add (.t 35) (.t 36), none⟩,
  .op ⟨6, some 38, .idxa 1 (.t 32) (.t 33), none⟩,
  .op ⟨7, none, .store 1 (.t 38) (.t 37), none⟩])
 (.exit 1)) (.skip))))
 (.reg [.op ⟨0, some 39, .mv (.t 5), none⟩,
  .op ⟨1, some 40, .mv (.t 8), none⟩,
  .op ⟨2, some 41, .bslice 1 1 [.str []] [(0, 1, (.t 40))], none⟩,
  .op ⟨3, some 42, .app 1 16 (.t 39) (.t 41), none⟩,
  .op ⟨4, some 5, .mv (.t 42), none⟩])))))
 (.reg [.op ⟨0, some 43, .bin .add (.t 13) (.c (.one (.int .i64 1))), none⟩,
  .op ⟨1, some 13, .mv (.t 43), none⟩])))))))
 (.seq (.reg [.op ⟨0, some 44, .mv (.t 5), none⟩,
  .op ⟨1, some 4, .mv (.t 44), none⟩])
 (.ret))))⟩
noncomputable def group_Pack.s1 (x0 : Sl) (x1 : Int) (s2 : (Sl × Int × Unit)) (H3 : Heap) : Option (((Sl × Int × Unit) ⊕ (Sl × Unit)) × Heap) :=
 cond (decide (s2.2.1 < (x0.len : Int))) (
 (Sl.at 6 x0 s2.2.1).bind fun (a4 : (Nat × Nat)) =>
 Option.bind (α := (Int × Int × Int × Int × Int × Int × Unit)) (rd H3 (.agg [.int .i64, .int .i64, .int .i64, .int .i64, .int .i64, .int .i64]) a4.1 a4.2) fun (v5 : (Int × Int × Int × Int × Int × Int × Unit)) =>
 let H6 : Heap := H3 ++ [Blk.cells [.int .i64 0, .int .i64 0, .int .i64 0, .int .i64 0, .int .i64 0, .int .i64 0] .exact]
 (wr H6 H3.length 0 [.int .i64 v5.1, .int .i64 v5.2.1, .int .i64 v5.2.2.1, .int .i64 v5.2.2.2.1, .int .i64 v5.2.2.2.2.1, .int .i64 v5.2.2.2.2.2.1]).bind fun (H7 : Heap) =>
 Option.bind (α := (Int × Int × Int × Int × Int × Int × Unit)) (rd H7 (.agg [.int .i64, .int .i64, .int .i64, .int .i64, .int .i64, .int .i64]) H3.length 0) fun (v8 : (Int × Int × Int × Int × Int × Int × Unit)) =>
 (rec_Put (v8.1, v8.2.1, v8.2.2.1, v8.2.2.2.1, v8.2.2.2.2.1, v8.2.2.2.2.2.1, ())).bind fun (r9 : (Bytes × Unit)) =>
 (Sl.at 1 s2.1 (IntKind.wrap .i64 ((s2.1.len : Int) - 1))).bind fun (a10 : (Nat × Nat)) =>
 (rdS H7 a10.1 a10.2).bind fun (v11 : Bytes) =>
 cond (decide ((IntKind.wrap .i64 ((List.length (v11 : Bytes) : Int) + (List.length (r9.1 : Bytes) : Int))) ≤ x1)) (
 (Sl.at 1 s2.1 (IntKind.wrap .i64 ((s2.1.len : Int) - 1))).bind fun (a12 : (Nat × Nat)) =>
 (rdS H7 a12.1 a12.2).bind fun (v13 : Bytes) =>
 (catS v13 r9.1).bind fun (s14 : Bytes) =>
 (Sl.at 1 s2.1 (IntKind.wrap .i64 ((s2.1.len : Int) - 1))).bind fun (a15 : (Nat × Nat)) =>
 (wr H7 a15.1 a15.2 [.str s14]).bind fun (H16 : Heap) =>
 some (Sum.inl (s2.1, (IntKind.wrap .i64 (s2.2.1 + 1)), ()), H16)) (
 let H17 : Heap := H7 ++ [Blk.cells [.str r9.1] .exact]
 (slRow H17 1 (⟨some (H7.length, 0), 1, 1⟩)).bind fun (cs18 : (List C)) =>
 (appS H17 1 16 s2.1 1 cs18).bind fun (p19 : (Sl × Heap)) =>
 some (Sum.inl (p19.1, (IntKind.wrap .i64 (s2.2.1 + 1)), ()), p19.2))) (
 some (Sum.inr (s2.1, ()), H3))
noncomputable def group_Pack (x0 : Sl) (x1 : Int) (H : Heap) : Option ((Sl × Unit) × Heap) :=
 let H1 : Heap := H ++ [Blk.cells [.str []] .exact]
 (loopW (group_Pack.s1 x0 x1) (⟨some (H.length, 0), 1, 1⟩, 0, ()) H1).bind fun (p20 : (Sl × Unit) × Heap) =>
 some ((p20.1.1, ()), p20.2)
noncomputable def group_Pack.c : Callee := .full [.one (.sl 6), .one (.int .i64)] [.one (.sl 1)] (fun x H => group_Pack x.1 x.2.1 H)
noncomputable def group_Pack.calls : Nat → Option Callee
  | 0 => some rec_Put.c
  | _ => none
theorem group_Pack.eq : evFull group_Pack.calls group_Pack.af = (fun x H => group_Pack x.1 x.2.1 H) := by kernel_rfl
end Ev
