/- What the functions of the package Wear compute: abstract code, and a function of plain Lean for each; the kernel checks that they are the same. Written by gen2.py. -/
import Derived.Test.YtloijdlakkmjgaaEvCore
import Derived.KernelRfl
set_option linter.unusedVariables false
set_option maxRecDepth 100000
namespace Ev
open Go (IntKind BinOp UnOp)

/-! ### tinderbox/wear.Least -/
def wear_Least.af : AFun := ⟨[.one (.sl 2)], [.one (.int .i64)], [.t 2],
 .seq (.reg [.op ⟨0, some 2, .mv (.c (.one (.int .i64 0))), none⟩])
 (.seq (.reg [.op ⟨0, some 3, .mv (.c (.one (.int .i64 (-1)))), none⟩])
 (.seq (.seq (.reg [.op ⟨0, some 6, .mv (.t 0), none⟩,
  .op ⟨1, some 7, .len (.t 6), none⟩,
  .op ⟨2, some 8, .mv (.c (.one (.int .i64 0))), none⟩])
 (.block 0 (.loop [(3, .one (.int .i64)), (8, .one (.int .i64))] [(.exit 0, [(3, .one (.int .i64))])] (.seq (.reg [.op ⟨0, some 9, .bin .lss (.t 8) (.t 7), none⟩])
 (.seq (.cond (.t 9) (.skip) (.exit 0))
 (.seq (.block 1 (.seq (.reg [.op ⟨0, some 10, .mv (.t 8), none⟩,
  .op ⟨1, some 11, .idxa 2 (.t 6) (.t 8), none⟩,
  .op ⟨2, some 12, .load (.agg [.int .i64, .int .i64]) (.t 11), none⟩,
  .op ⟨3, some 5, .new [.int .i64 0, .int .i64 0], none⟩,
  .op ⟨4, some 4, .mv (.t 10), none⟩,
  .op ⟨5, none, .store 2 (.t 5) (.t 12), none⟩])
 (.seq (.reg [.op ⟨0, some 13, .mv (.t 3), none⟩,
  .op ⟨1, some 14, .bin .lss (.t 13) (.c (.one (.int .i64 0))), none⟩,
  .op ⟨2, some 15, .mv (.t 14), none⟩,
  .op ⟨3, some 16, .addr 1 (.t 5), some (15, false)⟩,
  .op ⟨4, some 17, .load (.one (.int .i64)) (.t 16), some (15, false)⟩,
  .op ⟨5, some 18, .mv (.t 0), some (15, false)⟩,
  .op ⟨6, some 19, .mv (.t 3), some (15, false)⟩,
  .op ⟨7, some 20, .idxa 2 (.t 18) (.t 19), some (15, false)⟩,
  .op ⟨8, some 21, .addr 1 (.t 20), some (15, false)⟩,
  .op ⟨9, some 22, .load (.one (.int .i64)) (.t 21), some (15, false)⟩,
  .op ⟨10, some 23, .bin .lss (.t 17) (.t 22), some (15, false)⟩,
  .op ⟨11, some 24, .pick (.t 15) (.c (.one (.bool true))) (.t 23), none⟩])
 (.cond (.t 24) (.reg [.op ⟨0, some 25, .mv (.t 4), none⟩,
  .op ⟨1, some 3, .mv (.t 25), none⟩]) (.skip)))))
 (.reg [.op ⟨0, some 26, .bin .add (.t 8) (.c (.one (.int .i64 1))), none⟩,
  .op ⟨1, some 8, .mv (.t 26), none⟩])))))))
 (.seq (.reg [.op ⟨0, some 27, .mv (.t 3), none⟩,
  .op ⟨1, some 2, .mv (.t 27), none⟩])
 (.ret))))⟩
noncomputable def wear_Least.s1 (x0 : Sl) (s1 : (Int × Int × Unit)) (H2 : Heap) : Option (((Int × Int × Unit) ⊕ (Int × Unit)) × Heap) :=
 cond (decide (s1.2.1 < (x0.len : Int))) (
 (Sl.at 2 x0 s1.2.1).bind fun (a3 : (Nat × Nat)) =>
 Option.bind (α := (Int × Int × Unit)) (rd H2 (.agg [.int .i64, .int .i64]) a3.1 a3.2) fun (v4 : (Int × Int × Unit)) =>
 let H5 : Heap := H2 ++ [Blk.cells [.int .i64 0, .int .i64 0] .exact]
 (wr H5 H2.length 0 [.int .i64 v4.1, .int .i64 v4.2.1]).bind fun (H6 : Heap) =>
 cond (decide (s1.1 < 0)) (
 some (Sum.inl (s1.2.1, (IntKind.wrap .i64 (s1.2.1 + 1)), ()), H6)) (
 (rdI .i64 H6 H2.length 1).bind fun (v7 : Int) =>
 (Sl.at 2 x0 s1.1).bind fun (a8 : (Nat × Nat)) =>
 (rdI .i64 H6 a8.1 (a8.2 + 1)).bind fun (v9 : Int) =>
 cond (decide (v7 < v9)) (
 some (Sum.inl (s1.2.1, (IntKind.wrap .i64 (s1.2.1 + 1)), ()), H6)) (
 some (Sum.inl (s1.1, (IntKind.wrap .i64 (s1.2.1 + 1)), ()), H6)))) (
 some (Sum.inr (s1.1, ()), H2))
noncomputable def wear_Least (x0 : Sl) (H : Heap) : Option ((Int × Unit) × Heap) :=
 (loopW (wear_Least.s1 x0) ((-1), 0, ()) H).bind fun (p10 : (Int × Unit) × Heap) =>
 some ((p10.1.1, ()), p10.2)
noncomputable def wear_Least.c : Callee := .full [.one (.sl 2)] [.one (.int .i64)] (fun x H => wear_Least x.1 H)
noncomputable def wear_Least.calls : Nat → Option Callee
  | _ => none
theorem wear_Least.eq : evFull wear_Least.calls wear_Least.af = (fun x H => wear_Least x.1 H) := by kernel_rfl
end Ev
