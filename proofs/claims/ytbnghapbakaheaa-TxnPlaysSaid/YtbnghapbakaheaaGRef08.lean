/- What the functions of the package Ref08 compute: abstract code, and a function of plain Lean for each; the kernel checks that they are the same. Written by gen2.py. -/
import Derived.Test.YtbnghapbakaheaaEvCore
import Derived.Test.YtbnghapbakaheaaGRef07
import Derived.KernelRfl
set_option linter.unusedVariables false
set_option maxRecDepth 100000
namespace Ev
open Go (IntKind BinOp UnOp)

/-! ### (tinderbox/tinderboxref08.State).find -/
def ref08_State_find.af : AFun := ⟨[.agg [.sl 3, .sl 3, .sl 1, .sl 2], .one (.int .i64)], [.one (.int .i64)], [.t 4],
 .seq (.reg [.op ⟨0, some 2, .box (.t 0), none⟩,
  .op ⟨1, some 4, .mv (.c (.one (.int .i64 0))), none⟩])
 (.seq (.seq (.reg [.op ⟨0, some 5, .mv (.c (.one (.int .i64 0))), none⟩])
 (.block 0 (.loop [(5, .one (.int .i64))] [(.exit 0, []), (.ret, [(4, .one (.int .i64))])] (.seq (.seq (.reg [.op ⟨0, some 6, .mv (.t 5), none⟩,
  .op ⟨1, some 7, .addr 0 (.t 2), none⟩,
  .op ⟨2, some 8, .load (.one (.sl 3)) (.t 7), none⟩,
  .op ⟨3, some 9, .len (.t 8), none⟩,
  .op ⟨4, some 10, .bin .lss (.t 6) (.t 9), none⟩])
 (.cond (.t 10) (.skip) (.exit 0)))
 (.seq (.block 1 (.seq (.reg [.op ⟨0, some 13, .addr 0 (.t 2), none⟩,
  .op ⟨1, some 14, .load (.one (.sl 3)) (.t 13), none⟩,
  .op ⟨2, some 15, .mv (.t 5), none⟩,
  .op ⟨3, some 16, .idxa 3 (.t 14) (.t 15), none⟩,
  .op ⟨4, some 17, .addr 0 (.t 16), none⟩,
  .op ⟨5, some 18, .load (.one (.int .i64)) (.t 17), none⟩,
  .op ⟨6, some 19, .mv (.t 1), none⟩,
  .op ⟨7, some 20, .bin .eql (.t 18) (.t 19), none⟩])
 (.cond (.t 20) (.seq (.reg [.op ⟨0, some 21, .mv (.t 5), none⟩,
  .op ⟨1, some 4, .mv (.t 21), none⟩])
 (.ret)) (.skip))))
 (.reg [.op ⟨0, some 11, .mv (.t 5), none⟩,
  .op ⟨1, some 12, .bin .add (.t 11) (.c (.one (.int .i64 1))), none⟩,
  .op ⟨2, some 5, .mv (.t 12), none⟩]))))))
 (.seq (.reg [.op ⟨0, some 4, .mv (.c (.one (.int .i64 (-1)))), none⟩])
 (.ret)))⟩
noncomputable def ref08_State_find.s1 (x1 : Int) (H : Heap) (s2 : (Int × Unit)) (H3 : Heap) : Option (((Int × Unit) ⊕ ((Unit) ⊕ (Int × Unit))) × Heap) :=
 (rdSl 3 H3 H.length 0).bind fun (v4 : Sl) =>
 cond (decide (s2.1 < (v4.len : Int))) (
 (rdSl 3 H3 H.length 0).bind fun (v5 : Sl) =>
 (Sl.at 3 v5 s2.1).bind fun (a6 : (Nat × Nat)) =>
 (rdI .i64 H3 a6.1 a6.2).bind fun (v7 : Int) =>
 cond (decide (v7 = x1)) (
 some (Sum.inr (Sum.inr (s2.1, ())), H3)) (
 some (Sum.inl ((IntKind.wrap .i64 (s2.1 + 1)), ()), H3))) (
 some (Sum.inr (Sum.inl (())), H3))
noncomputable def ref08_State_find (x0 : (Sl × Sl × Sl × Sl × Unit)) (x1 : Int) (H : Heap) : Option ((Int × Unit) × Heap) :=
 let H1 : Heap := H ++ [Blk.cells [.sl 3 x0.1, .sl 3 x0.2.1, .sl 1 x0.2.2.1, .sl 2 x0.2.2.2.1] .exact]
 (loopW (ref08_State_find.s1 x1 H) (0, ()) H1).bind fun (p8 : ((Unit) ⊕ (Int × Unit)) × Heap) =>
 Sum.elim (fun (y9 : (Unit)) =>
 some (((-1), ()), p8.2)) (fun (z10 : (Int × Unit)) =>
 some ((z10.1, ()), p8.2)) p8.1
noncomputable def ref08_State_find.c : Callee := .full [.agg [.sl 3, .sl 3, .sl 1, .sl 2], .one (.int .i64)] [.one (.int .i64)] (fun x H => ref08_State_find x.1 x.2.1 H)
noncomputable def ref08_State_find.calls : Nat → Option Callee
  | _ => none
theorem ref08_State_find.eq : evFull ref08_State_find.calls ref08_State_find.af = (fun x H => ref08_State_find x.1 x.2.1 H) := by kernel_rfl

/-! ### (tinderbox/tinderboxref08.State).Get -/
def ref08_State_Get.af : AFun := ⟨[.agg [.sl 3, .sl 3, .sl 1, .sl 2], .one (.int .i64), .one (.int .i64)], [.one (.int .i64), .one .bool], [.t 6, .t 7],
 .seq (.reg [.op ⟨0, some 3, .box (.t 0), none⟩,
  .op ⟨1, some 6, .mv (.c (.one (.int .i64 0))), none⟩,
  .op ⟨2, some 7, .mv (.c (.one (.bool false))), none⟩])
 (.seq (.seq (.reg [.op ⟨0, some 8, .mv (.c (.one (.int .i64 0))), none⟩])
 (.block 0 (.loop [(8, .one (.int .i64))] [(.exit 0, []), (.ret, [(6, .one (.int .i64)), (7, .one .bool)])] (.seq (.seq (.reg [.op ⟨0, some 10, .mv (.t 8), none⟩,
  .op ⟨1, some 11, .addr 1 (.t 3), none⟩,
  .op ⟨2, some 12, .load (.one (.sl 3)) (.t 11), none⟩,
  .op ⟨3, some 13, .len (.t 12), none⟩,
  .op ⟨4, some 14, .bin .lss (.t 10) (.t 13), none⟩])
 (.cond (.t 14) (.skip) (.exit 0)))
 (.seq (.block 1 (.seq (.reg [.op ⟨0, some 17, .addr 1 (.t 3), none⟩,
  .op ⟨1, some 18, .load (.one (.sl 3)) (.t 17), none⟩,
  .op ⟨2, some 19, .mv (.t 8), none⟩,
  .op ⟨3, some 20, .idxa 3 (.t 18) (.t 19), none⟩,
  .op ⟨4, some 21, .load (.agg [.int .i64, .int .i64, .int .i64]) (.t 20), none⟩,
  .op ⟨5, some 9, .new [.int .i64 0, .int .i64 0, .int .i64 0], none⟩,
  .op ⟨6, none, .store 3 (.t 9) (.t 21), none⟩])
 (.seq (.reg [.op ⟨0, some 22, .addr 0 (.t 9), none⟩,
  .op ⟨1, some 23, .load (.one (.int .i64)) (.t 22), none⟩,
  .op ⟨2, some 24, .mv (.t 1), none⟩,
  .op ⟨3, some 25, .bin .eql (.t 23) (.t 24), none⟩,
  .op ⟨4, some 26, .mv (.t 25), none⟩,
  .op ⟨5, some 27, .addr 1 (.t 9), some (26, true)⟩,
  .op ⟨6, some 28, .load (.one (.int .i64)) (.t 27), some (26, true)⟩,
  .op ⟨7, some 29, .mv (.t 2), some (26, true)⟩,
  .op ⟨8, some 30, .bin .eql (.t 28) (.t 29), some (26, true)⟩,
  .op ⟨9, some 31, .pick (.t 26) (.t 30) (.c (.one (.bool false))), none⟩])
 (.cond (.t 31) (.seq (.reg [.op ⟨0, some 32, .addr 2 (.t 9), none⟩,
  .op ⟨1, some 33, .load (.one (.int .i64)) (.t 32), none⟩,
  .op ⟨2, some 6, .mv (.t 33), none⟩,
  .op ⟨3, some 7, .mv (.c (.one (.bool true))), none⟩])
 (.ret)) (.skip)))))
 (.reg [.op ⟨0, some 15, .mv (.t 8), none⟩,
  .op ⟨1, some 16, .bin .add (.t 15) (.c (.one (.int .i64 1))), none⟩,
  .op ⟨2, some 8, .mv (.t 16), none⟩]))))))
 (.seq (.reg [.op ⟨0, some 6, .mv (.c (.one (.int .i64 0))), none⟩,
  .op ⟨1, some 7, .mv (.c (.one (.bool false))), none⟩])
 (.ret)))⟩
noncomputable def ref08_State_Get.s1 (x1 : Int) (x2 : Int) (H : Heap) (s2 : (Int × Unit)) (H3 : Heap) : Option (((Int × Unit) ⊕ ((Unit) ⊕ (Int × Bool × Unit))) × Heap) :=
 (rdSl 3 H3 H.length 1).bind fun (v4 : Sl) =>
 cond (decide (s2.1 < (v4.len : Int))) (
 (rdSl 3 H3 H.length 1).bind fun (v5 : Sl) =>
 (Sl.at 3 v5 s2.1).bind fun (a6 : (Nat × Nat)) =>
 Option.bind (α := (Int × Int × Int × Unit)) (rd H3 (.agg [.int .i64, .int .i64, .int .i64]) a6.1 a6.2) fun (v7 : (Int × Int × Int × Unit)) =>
 let H8 : Heap := H3 ++ [Blk.cells [.int .i64 0, .int .i64 0, .int .i64 0] .exact]
 (wr H8 H3.length 0 [.int .i64 v7.1, .int .i64 v7.2.1, .int .i64 v7.2.2.1]).bind fun (H9 : Heap) =>
 (rdI .i64 H9 H3.length 0).bind fun (v10 : Int) =>
 cond (decide (v10 = x1)) (
 (rdI .i64 H9 H3.length 1).bind fun (v11 : Int) =>
 cond (decide (v11 = x2)) (
 (rdI .i64 H9 H3.length 2).bind fun (v12 : Int) =>
 some (Sum.inr (Sum.inr (v12, true, ())), H9)) (
 some (Sum.inl ((IntKind.wrap .i64 (s2.1 + 1)), ()), H9))) (
 some (Sum.inl ((IntKind.wrap .i64 (s2.1 + 1)), ()), H9))) (
 some (Sum.inr (Sum.inl (())), H3))
noncomputable def ref08_State_Get (x0 : (Sl × Sl × Sl × Sl × Unit)) (x1 : Int) (x2 : Int) (H : Heap) : Option ((Int × Bool × Unit) × Heap) :=
 let H1 : Heap := H ++ [Blk.cells [.sl 3 x0.1, .sl 3 x0.2.1, .sl 1 x0.2.2.1, .sl 2 x0.2.2.2.1] .exact]
 (loopW (ref08_State_Get.s1 x1 x2 H) (0, ()) H1).bind fun (p13 : ((Unit) ⊕ (Int × Bool × Unit)) × Heap) =>
 Sum.elim (fun (y14 : (Unit)) =>
 some ((0, false, ()), p13.2)) (fun (z15 : (Int × Bool × Unit)) =>
 some ((z15.1, z15.2.1, ()), p13.2)) p13.1
noncomputable def ref08_State_Get.c : Callee := .full [.agg [.sl 3, .sl 3, .sl 1, .sl 2], .one (.int .i64), .one (.int .i64)] [.one (.int .i64), .one .bool] (fun x H => ref08_State_Get x.1 x.2.1 x.2.2.1 H)
noncomputable def ref08_State_Get.calls : Nat → Option Callee
  | _ => none
theorem ref08_State_Get.eq : evFull ref08_State_Get.calls ref08_State_Get.af = (fun x H => ref08_State_Get x.1 x.2.1 x.2.2.1 H) := by kernel_rfl

/-! ### (tinderbox/tinderboxref08.State).Refs -/
def ref08_State_Refs.af : AFun := ⟨[.agg [.sl 3, .sl 3, .sl 1, .sl 2], .one (.int .i64)], [.one (.int .i64)], [.t 4],
 .seq (.reg [.op ⟨0, some 2, .box (.t 0), none⟩,
  .op ⟨1, some 4, .mv (.c (.one (.int .i64 0))), none⟩])
 (.seq (.reg [.op ⟨0, some 5, .mv (.c (.one (.int .i64 0))), none⟩])
 (.seq (.seq (.reg [.op ⟨0, some 6, .mv (.c (.one (.int .i64 0))), none⟩])
 (.block 0 (.loop [(5, .one (.int .i64)), (6, .one (.int .i64))] [(.exit 0, [(5, .one (.int .i64))])] (.seq (.seq (.reg [.op ⟨0, some 7, .mv (.t 6), none⟩,
  .op ⟨1, some 8, .addr 1 (.t 2), none⟩,
  .op ⟨2, some 9, .load (.one (.sl 3)) (.t 8), none⟩,
  .op ⟨3, some 10, .len (.t 9), none⟩,
  .op ⟨4, some 11, .bin .lss (.t 7) (.t 10), none⟩])
 (.cond (.t 11) (.skip) (.exit 0)))
 (.seq (.block 1 (.seq (.reg [.op ⟨0, some 14, .addr 1 (.t 2), none⟩,
  .op ⟨1, some 15, .load (.one (.sl 3)) (.t 14), none⟩,
  .op ⟨2, some 16, .mv (.t 6), none⟩,
  .op ⟨3, some 17, .idxa 3 (.t 15) (.t 16), none⟩,
  .op ⟨4, some 18, .addr 2 (.t 17), none⟩,
  .op ⟨5, some 19, .load (.one (.int .i64)) (.t 18), none⟩,
  .op ⟨6, some 20, .mv (.t 1), none⟩,
  .op ⟨7, some 21, .bin .eql (.t 19) (.t 20), none⟩])
 (.cond (.t 21) (.reg [.op ⟨0, some 22, .mv (.t 5), none⟩,
  .op ⟨1, some 23, .bin .add (.t 22) (.c (.one (.int .i64 1))), none⟩,
  .op ⟨2, some 5, .mv (.t 23), none⟩]) (.skip))))
 (.reg [.op ⟨0, some 12, .mv (.t 6), none⟩,
  .op ⟨1, some 13, .bin .add (.t 12) (.c (.one (.int .i64 1))), none⟩,
  .op ⟨2, some 6, .mv (.t 13), none⟩]))))))
 (.seq (.reg [.op ⟨0, some 24, .mv (.t 5), none⟩,
  .op ⟨1, some 4, .mv (.t 24), none⟩])
 (.ret))))⟩
noncomputable def ref08_State_Refs.s1 (x1 : Int) (H : Heap) (s2 : (Int × Int × Unit)) (H3 : Heap) : Option (((Int × Int × Unit) ⊕ (Int × Unit)) × Heap) :=
 (rdSl 3 H3 H.length 1).bind fun (v4 : Sl) =>
 cond (decide (s2.2.1 < (v4.len : Int))) (
 (rdSl 3 H3 H.length 1).bind fun (v5 : Sl) =>
 (Sl.at 3 v5 s2.2.1).bind fun (a6 : (Nat × Nat)) =>
 (rdI .i64 H3 a6.1 (a6.2 + 2)).bind fun (v7 : Int) =>
 cond (decide (v7 = x1)) (
 some (Sum.inl ((IntKind.wrap .i64 (s2.1 + 1)), (IntKind.wrap .i64 (s2.2.1 + 1)), ()), H3)) (
 some (Sum.inl (s2.1, (IntKind.wrap .i64 (s2.2.1 + 1)), ()), H3))) (
 some (Sum.inr (s2.1, ()), H3))
noncomputable def ref08_State_Refs (x0 : (Sl × Sl × Sl × Sl × Unit)) (x1 : Int) (H : Heap) : Option ((Int × Unit) × Heap) :=
 let H1 : Heap := H ++ [Blk.cells [.sl 3 x0.1, .sl 3 x0.2.1, .sl 1 x0.2.2.1, .sl 2 x0.2.2.2.1] .exact]
 (loopW (ref08_State_Refs.s1 x1 H) (0, 0, ()) H1).bind fun (p8 : (Int × Unit) × Heap) =>
 some ((p8.1.1, ()), p8.2)
noncomputable def ref08_State_Refs.c : Callee := .full [.agg [.sl 3, .sl 3, .sl 1, .sl 2], .one (.int .i64)] [.one (.int .i64)] (fun x H => ref08_State_Refs x.1 x.2.1 H)
noncomputable def ref08_State_Refs.calls : Nat → Option Callee
  | _ => none
theorem ref08_State_Refs.eq : evFull ref08_State_Refs.calls ref08_State_Refs.af = (fun x H => ref08_State_Refs x.1 x.2.1 H) := by kernel_rfl

/-! ### (tinderbox/tinderboxref08.State).made -/
def ref08_State_made.af : AFun := ⟨[.agg [.sl 3, .sl 3, .sl 1, .sl 2], .agg [.int .i64, .int .i64, .bool]], [.agg [.sl 3, .sl 3, .sl 1, .sl 2]], [.cell 4],
 .seq (.reg [.op ⟨0, some 2, .box (.t 0), none⟩,
  .op ⟨1, some 3, .box (.t 1), none⟩,
  .op ⟨2, some 4, .new [.sl 3 Sl.nil, .sl 3 Sl.nil, .sl 1 Sl.nil, .sl 2 Sl.nil], none⟩])
 (.seq (.reg [.op ⟨0, some 8, .bslice 3 0 [] [], none⟩,
  .op ⟨1, some 5, .mv (.t 8), none⟩,
  .op ⟨2, some 6, .mv (.c (.one (.bool false))), none⟩])
 (.seq (.seq (.reg [.op ⟨0, some 7, .mv (.c (.one (.int .i64 0))), none⟩])
 (.block 0 (.loop [(5, .one (.sl 3)), (6, .one .bool), (7, .one (.int .i64))] [(.exit 0, [(5, .one (.sl 3)), (6, .one .bool)])] (.seq (.seq (.reg [.op ⟨0, some 9, .mv (.t 7), none⟩,
  .op ⟨1, some 10, .addr 0 (.t 2), none⟩,
  .op ⟨2, some 11, .load (.one (.sl 3)) (.t 10), none⟩,
  .op ⟨3, some 12, .len (.t 11), none⟩,
  .op ⟨4, some 13, .bin .lss (.t 9) (.t 12), none⟩])
 (.cond (.t 13) (.skip) (.exit 0)))
 (.seq (.block 1 (.seq (.scope [(.normal, [(5, .one (.sl 3)), (6, .one .bool)])] (.seq (.scope [(.normal, [(28, .one .bool)])] (.reg [.op ⟨0, some 16, .mv (.t 6), none⟩,
  .op ⟨1, some 17, .un .not (.t 16), none⟩,
  .op ⟨2, some 18, .mv (.t 17), none⟩,
  .op ⟨3, some 19, .addr 0 (.t 2), some (18, true)⟩,
  .op ⟨4, some 20, .load (.one (.sl 3)) (.t 19), some (18, true)⟩,
  .op ⟨5, some 21, .mv (.t 7), some (18, true)⟩,
  .op ⟨6, some 22, .idxa 3 (.t 20) (.t 21), some (18, true)⟩,
  .op ⟨7, some 23, .addr 0 (.t 22), some (18, true)⟩,
  .op ⟨8, some 24, .load (.one (.int .i64)) (.t 23), some (18, true)⟩,
  .op ⟨9, some 25, .addr 0 (.t 3), some (18, true)⟩,
  .op ⟨10, some 26, .load (.one (.int .i64)) (.t 25), some (18, true)⟩,
  .op ⟨11, some 27, .bin .gtr (.t 24) (.t 26), some (18, true)⟩,
  .op ⟨12, some 28, .pick (.t 18) (.t 27) (.c (.one (.bool false))), none⟩]))
 (.cond (.t 28) (.reg [.op ⟨0, some 29, .mv (.t 5), none⟩,
  .op ⟨1, some 30, .load (.agg [.int .i64, .int .i64, .bool]) (.t 3), none⟩,
  .op ⟨2, some 31, .bslice 3 1 [.int .i64 0, .int .i64 0, .bool false] [(0, 3, (.t 30))], none⟩,
  .op ⟨3, some 32, .app 3 24 (.t 29) (.t 31), none⟩,
  .op ⟨4, some 5, .mv (.t 32), none⟩,
  .op ⟨5, some 6, .mv (.c (.one (.bool true))), none⟩]) (.skip))))
 (.seq (.reg [.op ⟨0, some 33, .addr 0 (.t 2), none⟩,
  .op ⟨1, some 34, .load (.one (.sl 3)) (.t 33), none⟩,
  .op ⟨2, some 35, .mv (.t 7), none⟩,
  .op ⟨3, some 36, .idxa 3 (.t 34) (.t 35), none⟩,
  .op ⟨4, some 37, .addr 0 (.t 36), none⟩,
  .op ⟨5, some 38, .load (.one (.int .i64)) (.t 37), none⟩,
  .op ⟨6, some 39, .addr 0 (.t 3), none⟩,
  .op ⟨7, some 40, .load (.one (.int .i64)) (.t 39), none⟩,
  .op ⟨8, some 41, .bin .neq (.t 38) (.t 40), none⟩])
 (.cond (.t 41) (.reg [.op ⟨0, some 42, .mv (.t 5), none⟩,
  .op ⟨1, some 43, .addr 0 (.t 2), none⟩,
  .op ⟨2, some 44, .load (.one (.sl 3)) (.t 43), none⟩,
  .op ⟨3, some 45, .mv (.t 7), none⟩,
  .op ⟨4, some 46, .idxa 3 (.t 44) (.t 45), none⟩,
  .op ⟨5, some 47, .load (.agg [.int .i64, .int .i64, .bool]) (.t 46), none⟩,
  .op ⟨6, some 48, .bslice 3 1 [.int .i64 0, .int .i64 0, .bool false] [(0, 3, (.t 47))], none⟩,
  .op ⟨7, some 49, .app 3 24 (.t 42) (.t 48), none⟩,
  .op ⟨8, some 5, .mv (.t 49), none⟩]) (.skip)))))
 (.reg [.op ⟨0, some 14, .mv (.t 7), none⟩,
  .op ⟨1, some 15, .bin .add (.t 14) (.c (.one (.int .i64 1))), none⟩,
  .op ⟨2, some 7, .mv (.t 15), none⟩]))))))
 (.seq (.seq (.reg [.op ⟨0, some 50, .mv (.t 6), none⟩,
  .op ⟨1, some 51, .un .not (.t 50), none⟩])
 (.cond (.t 51) (.reg [.op ⟨0, some 52, .mv (.t 5), none⟩,
  .op ⟨1, some 53, .load (.agg [.int .i64, .int .i64, .bool]) (.t 3), none⟩,
  .op ⟨2, some 54, .bslice 3 1 [.int .i64 0, .int .i64 0, .bool false] [(0, 3, (.t 53))], none⟩,
  .op ⟨3, some 55, .app 3 24 (.t 52) (.t 54), none⟩,
  .op ⟨4, some 5, .mv (.t 55), none⟩]) (.skip)))
 (.seq (.reg [.op ⟨0, some 56, .mv (.t 5), none⟩,
  .op ⟨1, some 57, .addr 0 (.t 2), none⟩,
  .op ⟨2, none, .store 1 (.t 57) (.t 56), none⟩])
 (.seq (.reg [.op ⟨0, some 58, .load (.agg [.sl 3, .sl 3, .sl 1, .sl 2]) (.t 2), none⟩,
  .op ⟨1, none, .store 4 (.t 4) (.t 58), none⟩])
 (.ret))))))⟩
noncomputable def ref08_State_made.s1 (H : Heap) (H1 : Heap) (s5 : (Sl × Bool × Int × Unit)) (H6 : Heap) : Option (((Sl × Bool × Int × Unit) ⊕ (Sl × Bool × Unit)) × Heap) :=
 (rdSl 3 H6 H.length 0).bind fun (v7 : Sl) =>
 cond (decide (s5.2.2.1 < (v7.len : Int))) (
 ((cond (!s5.2.1) (
 (rdSl 3 H6 H.length 0).bind fun (v8 : Sl) =>
 (Sl.at 3 v8 s5.2.2.1).bind fun (a9 : (Nat × Nat)) =>
 (rdI .i64 H6 a9.1 a9.2).bind fun (v10 : Int) =>
 (rdI .i64 H6 H1.length 0).bind fun (v11 : Int) =>
 some (((decide (v11 < v10)), ()), H6)) (
 some ((false, ()), H6)) : Option ((Bool × Unit) × Heap)).bind fun (p12 : (Bool × Unit) × Heap) =>
 cond p12.1.1 (
 Option.bind (α := (Int × Int × Bool × Unit)) (rd p12.2 (.agg [.int .i64, .int .i64, .bool]) H1.length 0) fun (v13 : (Int × Int × Bool × Unit)) =>
 let H14 : Heap := p12.2 ++ [Blk.cells [.int .i64 v13.1, .int .i64 v13.2.1, .bool v13.2.2.1] .exact]
 (slRow H14 3 (⟨some (p12.2.length, 0), 1, 1⟩)).bind fun (cs15 : (List C)) =>
 (appS H14 3 24 s5.1 1 cs15).bind fun (p16 : (Sl × Heap)) =>
 some ((p16.1, true, ()), p16.2)) (
 some ((s5.1, s5.2.1, ()), p12.2)) : Option ((Sl × Bool × Unit) × Heap)).bind fun (p17 : (Sl × Bool × Unit) × Heap) =>
 (rdSl 3 p17.2 H.length 0).bind fun (v18 : Sl) =>
 (Sl.at 3 v18 s5.2.2.1).bind fun (a19 : (Nat × Nat)) =>
 (rdI .i64 p17.2 a19.1 a19.2).bind fun (v20 : Int) =>
 (rdI .i64 p17.2 H1.length 0).bind fun (v21 : Int) =>
 cond (!decide (v20 = v21)) (
 (rdSl 3 p17.2 H.length 0).bind fun (v22 : Sl) =>
 (Sl.at 3 v22 s5.2.2.1).bind fun (a23 : (Nat × Nat)) =>
 Option.bind (α := (Int × Int × Bool × Unit)) (rd p17.2 (.agg [.int .i64, .int .i64, .bool]) a23.1 a23.2) fun (v24 : (Int × Int × Bool × Unit)) =>
 let H25 : Heap := p17.2 ++ [Blk.cells [.int .i64 v24.1, .int .i64 v24.2.1, .bool v24.2.2.1] .exact]
 (slRow H25 3 (⟨some (p17.2.length, 0), 1, 1⟩)).bind fun (cs26 : (List C)) =>
 (appS H25 3 24 p17.1.1 1 cs26).bind fun (p27 : (Sl × Heap)) =>
 some (Sum.inl (p27.1, p17.1.2.1, (IntKind.wrap .i64 (s5.2.2.1 + 1)), ()), p27.2)) (
 some (Sum.inl (p17.1.1, p17.1.2.1, (IntKind.wrap .i64 (s5.2.2.1 + 1)), ()), p17.2))) (
 some (Sum.inr (s5.1, s5.2.1, ()), H6))
noncomputable def ref08_State_made (x0 : (Sl × Sl × Sl × Sl × Unit)) (x1 : (Int × Int × Bool × Unit)) (H : Heap) : Option (((Sl × Sl × Sl × Sl × Unit) × Unit) × Heap) :=
 let H1 : Heap := H ++ [Blk.cells [.sl 3 x0.1, .sl 3 x0.2.1, .sl 1 x0.2.2.1, .sl 2 x0.2.2.2.1] .exact]
 let H2 : Heap := H1 ++ [Blk.cells [.int .i64 x1.1, .int .i64 x1.2.1, .bool x1.2.2.1] .exact]
 let H3 : Heap := H2 ++ [Blk.cells [.sl 3 Sl.nil, .sl 3 Sl.nil, .sl 1 Sl.nil, .sl 2 Sl.nil] .exact]
 let H4 : Heap := H3 ++ [Blk.cells [] .exact]
 (loopW (ref08_State_made.s1 H H1) (⟨some (H3.length, 0), 0, 0⟩, false, 0, ()) H4).bind fun (p28 : (Sl × Bool × Unit) × Heap) =>
 cond (!p28.1.2.1) (
 Option.bind (α := (Int × Int × Bool × Unit)) (rd p28.2 (.agg [.int .i64, .int .i64, .bool]) H1.length 0) fun (v29 : (Int × Int × Bool × Unit)) =>
 let H30 : Heap := p28.2 ++ [Blk.cells [.int .i64 v29.1, .int .i64 v29.2.1, .bool v29.2.2.1] .exact]
 (slRow H30 3 (⟨some (p28.2.length, 0), 1, 1⟩)).bind fun (cs31 : (List C)) =>
 (appS H30 3 24 p28.1.1 1 cs31).bind fun (p32 : (Sl × Heap)) =>
 (wr p32.2 H.length 0 [.sl 3 p32.1]).bind fun (H33 : Heap) =>
 Option.bind (α := (Sl × Sl × Sl × Sl × Unit)) (rd H33 (.agg [.sl 3, .sl 3, .sl 1, .sl 2]) H.length 0) fun (v34 : (Sl × Sl × Sl × Sl × Unit)) =>
 (wr H33 H2.length 0 [.sl 3 v34.1, .sl 3 v34.2.1, .sl 1 v34.2.2.1, .sl 2 v34.2.2.2.1]).bind fun (H35 : Heap) =>
 Option.bind (α := (Sl × Sl × Sl × Sl × Unit)) (rd H35 (.agg [.sl 3, .sl 3, .sl 1, .sl 2]) H2.length 0) fun (v36 : (Sl × Sl × Sl × Sl × Unit)) =>
 some ((v36, ()), H35)) (
 (wr p28.2 H.length 0 [.sl 3 p28.1.1]).bind fun (H37 : Heap) =>
 Option.bind (α := (Sl × Sl × Sl × Sl × Unit)) (rd H37 (.agg [.sl 3, .sl 3, .sl 1, .sl 2]) H.length 0) fun (v38 : (Sl × Sl × Sl × Sl × Unit)) =>
 (wr H37 H2.length 0 [.sl 3 v38.1, .sl 3 v38.2.1, .sl 1 v38.2.2.1, .sl 2 v38.2.2.2.1]).bind fun (H39 : Heap) =>
 Option.bind (α := (Sl × Sl × Sl × Sl × Unit)) (rd H39 (.agg [.sl 3, .sl 3, .sl 1, .sl 2]) H2.length 0) fun (v40 : (Sl × Sl × Sl × Sl × Unit)) =>
 some ((v40, ()), H39))
noncomputable def ref08_State_made.c : Callee := .full [.agg [.sl 3, .sl 3, .sl 1, .sl 2], .agg [.int .i64, .int .i64, .bool]] [.agg [.sl 3, .sl 3, .sl 1, .sl 2]] (fun x H => ref08_State_made x.1 x.2.1 H)
noncomputable def ref08_State_made.calls : Nat → Option Callee
  | _ => none
theorem ref08_State_made.eq : evFull ref08_State_made.calls ref08_State_made.af = (fun x H => ref08_State_made x.1 x.2.1 H) := by kernel_rfl

/-! ### (tinderbox/tinderboxref08.State).bad -/
def ref08_State_bad.af : AFun := ⟨[.agg [.sl 3, .sl 3, .sl 1, .sl 2], .one (.int .i64)], [.agg [.sl 3, .sl 3, .sl 1, .sl 2]], [.cell 4],
 .seq (.reg [.op ⟨0, some 2, .box (.t 0), none⟩,
  .op ⟨1, some 4, .new [.sl 3 Sl.nil, .sl 3 Sl.nil, .sl 1 Sl.nil, .sl 2 Sl.nil], none⟩])
 (.seq (.reg [.op ⟨0, some 8, .bslice 1 0 [] [], none⟩,
  .op ⟨1, some 5, .mv (.t 8), none⟩,
  .op ⟨2, some 6, .mv (.c (.one (.bool false))), none⟩])
 (.seq (.seq (.reg [.op ⟨0, some 7, .mv (.c (.one (.int .i64 0))), none⟩])
 (.block 0 (.loop [(5, .one (.sl 1)), (6, .one .bool), (7, .one (.int .i64))] [(.exit 0, [(5, .one (.sl 1)), (6, .one .bool)])] (.seq (.seq (.reg [.op ⟨0, some 9, .mv (.t 7), none⟩,
  .op ⟨1, some 10, .addr 2 (.t 2), none⟩,
  .op ⟨2, some 11, .load (.one (.sl 1)) (.t 10), none⟩,
  .op ⟨3, some 12, .len (.t 11), none⟩,
  .op ⟨4, some 13, .bin .lss (.t 9) (.t 12), none⟩])
 (.cond (.t 13) (.skip) (.exit 0)))
 (.seq (.block 1 (.seq (.scope [(.normal, [(5, .one (.sl 1)), (6, .one .bool)])] (.seq (.scope [(.normal, [(26, .one .bool)])] (.reg [.op ⟨0, some 16, .mv (.t 6), none⟩,
  .op ⟨1, some 17, .un .not (.t 16), none⟩,
  .op ⟨2, some 18, .mv (.t 17), none⟩,
  .op ⟨3, some 19, .addr 2 (.t 2), some (18, true)⟩,
  .op ⟨4, some 20, .load (.one (.sl 1)) (.t 19), some (18, true)⟩,
  .op ⟨5, some 21, .mv (.t 7), some (18, true)⟩,
  .op ⟨6, some 22, .idxa 1 (.t 20) (.t 21), some (18, true)⟩,
  .op ⟨7, some 23, .load (.one (.int .i64)) (.t 22), some (18, true)⟩,
  .op ⟨8, some 24, .mv (.t 1), some (18, true)⟩,
  .op ⟨9, some 25, .bin .geq (.t 23) (.t 24), some (18, true)⟩,
  .op ⟨10, some 26, .pick (.t 18) (.t 25) (.c (.one (.bool false))), none⟩]))
 (.cond (.t 26) (.reg [.op ⟨0, some 27, .mv (.t 5), none⟩,
  .op ⟨1, some 28, .mv (.t 1), none⟩,
  .op ⟨2, some 29, .bslice 1 1 [.int .i64 0] [(0, 1, (.t 28))], none⟩,
  .op ⟨3, some 30, .app 1 8 (.t 27) (.t 29), none⟩,
  .op ⟨4, some 5, .mv (.t 30), none⟩,
  .op ⟨5, some 6, .mv (.c (.one (.bool true))), none⟩]) (.skip))))
 (.seq (.reg [.op ⟨0, some 31, .addr 2 (.t 2), none⟩,
  .op ⟨1, some 32, .load (.one (.sl 1)) (.t 31), none⟩,
  .op ⟨2, some 33, .mv (.t 7), none⟩,
  .op ⟨3, some 34, .idxa 1 (.t 32) (.t 33), none⟩,
  .op ⟨4, some 35, .load (.one (.int .i64)) (.t 34), none⟩,
  .op ⟨5, some 36, .mv (.t 1), none⟩,
  .op ⟨6, some 37, .bin .neq (.t 35) (.t 36), none⟩])
 (.cond (.t 37) (.reg [.op ⟨0, some 38, .mv (.t 5), none⟩,
  .op ⟨1, some 39, .addr 2 (.t 2), none⟩,
  .op ⟨2, some 40, .load (.one (.sl 1)) (.t 39), none⟩,
  .op ⟨3, some 41, .mv (.t 7), none⟩,
  .op ⟨4, some 42, .idxa 1 (.t 40) (.t 41), none⟩,
  .op ⟨5, some 43, .load (.one (.int .i64)) (.t 42), none⟩,
  .op ⟨6, some 44, .bslice 1 1 [.int .i64 0] [(0, 1, (.t 43))], none⟩,
  .op ⟨7, some 45, .app 1 8 (.t 38) (.t 44), none⟩,
  .op ⟨8, some 5, .mv (.t 45), none⟩]) (.skip)))))
 (.reg [.op ⟨0, some 14, .mv (.t 7), none⟩,
  .op ⟨1, some 15, .bin .add (.t 14) (.c (.one (.int .i64 1))), none⟩,
  .op ⟨2, some 7, .mv (.t 15), none⟩]))))))
 (.seq (.seq (.reg [.op ⟨0, some 46, .mv (.t 6), none⟩,
  .op ⟨1, some 47, .un .not (.t 46), none⟩])
 (.cond (.t 47) (.reg [.op ⟨0, some 48, .mv (.t 5), none⟩,
  .op ⟨1, some 49, .mv (.t 1), none⟩,
  .op ⟨2, some 50, .bslice 1 1 [.int .i64 0] [(0, 1, (.t 49))], none⟩,
  .op ⟨3, some 51, .app 1 8 (.t 48) (.t 50), none⟩,
  .op ⟨4, some 5, .mv (.t 51), none⟩]) (.skip)))
 (.seq (.reg [.op ⟨0, some 52, .mv (.t 5), none⟩,
  .op ⟨1, some 53, .addr 2 (.t 2), none⟩,
  .op ⟨2, none, .store 1 (.t 53) (.t 52), none⟩])
 (.seq (.reg [.op ⟨0, some 54, .load (.agg [.sl 3, .sl 3, .sl 1, .sl 2]) (.t 2), none⟩,
  .op ⟨1, none, .store 4 (.t 4) (.t 54), none⟩])
 (.ret))))))⟩
noncomputable def ref08_State_bad.s1 (x1 : Int) (H : Heap) (s4 : (Sl × Bool × Int × Unit)) (H5 : Heap) : Option (((Sl × Bool × Int × Unit) ⊕ (Sl × Bool × Unit)) × Heap) :=
 (rdSl 1 H5 H.length 2).bind fun (v6 : Sl) =>
 cond (decide (s4.2.2.1 < (v6.len : Int))) (
 ((cond (!s4.2.1) (
 (rdSl 1 H5 H.length 2).bind fun (v7 : Sl) =>
 (Sl.at 1 v7 s4.2.2.1).bind fun (a8 : (Nat × Nat)) =>
 (rdI .i64 H5 a8.1 a8.2).bind fun (v9 : Int) =>
 some (((decide (x1 ≤ v9)), ()), H5)) (
 some ((false, ()), H5)) : Option ((Bool × Unit) × Heap)).bind fun (p10 : (Bool × Unit) × Heap) =>
 cond p10.1.1 (
 let H11 : Heap := p10.2 ++ [Blk.cells [.int .i64 x1] .exact]
 (slRow H11 1 (⟨some (p10.2.length, 0), 1, 1⟩)).bind fun (cs12 : (List C)) =>
 (appS H11 1 8 s4.1 1 cs12).bind fun (p13 : (Sl × Heap)) =>
 some ((p13.1, true, ()), p13.2)) (
 some ((s4.1, s4.2.1, ()), p10.2)) : Option ((Sl × Bool × Unit) × Heap)).bind fun (p14 : (Sl × Bool × Unit) × Heap) =>
 (rdSl 1 p14.2 H.length 2).bind fun (v15 : Sl) =>
 (Sl.at 1 v15 s4.2.2.1).bind fun (a16 : (Nat × Nat)) =>
 (rdI .i64 p14.2 a16.1 a16.2).bind fun (v17 : Int) =>
 cond (!decide (v17 = x1)) (
 (rdSl 1 p14.2 H.length 2).bind fun (v18 : Sl) =>
 (Sl.at 1 v18 s4.2.2.1).bind fun (a19 : (Nat × Nat)) =>
 (rdI .i64 p14.2 a19.1 a19.2).bind fun (v20 : Int) =>
 let H21 : Heap := p14.2 ++ [Blk.cells [.int .i64 v20] .exact]
 (slRow H21 1 (⟨some (p14.2.length, 0), 1, 1⟩)).bind fun (cs22 : (List C)) =>
 (appS H21 1 8 p14.1.1 1 cs22).bind fun (p23 : (Sl × Heap)) =>
 some (Sum.inl (p23.1, p14.1.2.1, (IntKind.wrap .i64 (s4.2.2.1 + 1)), ()), p23.2)) (
 some (Sum.inl (p14.1.1, p14.1.2.1, (IntKind.wrap .i64 (s4.2.2.1 + 1)), ()), p14.2))) (
 some (Sum.inr (s4.1, s4.2.1, ()), H5))
noncomputable def ref08_State_bad (x0 : (Sl × Sl × Sl × Sl × Unit)) (x1 : Int) (H : Heap) : Option (((Sl × Sl × Sl × Sl × Unit) × Unit) × Heap) :=
 let H1 : Heap := H ++ [Blk.cells [.sl 3 x0.1, .sl 3 x0.2.1, .sl 1 x0.2.2.1, .sl 2 x0.2.2.2.1] .exact]
 let H2 : Heap := H1 ++ [Blk.cells [.sl 3 Sl.nil, .sl 3 Sl.nil, .sl 1 Sl.nil, .sl 2 Sl.nil] .exact]
 let H3 : Heap := H2 ++ [Blk.cells [] .exact]
 (loopW (ref08_State_bad.s1 x1 H) (⟨some (H2.length, 0), 0, 0⟩, false, 0, ()) H3).bind fun (p24 : (Sl × Bool × Unit) × Heap) =>
 cond (!p24.1.2.1) (
 let H25 : Heap := p24.2 ++ [Blk.cells [.int .i64 x1] .exact]
 (slRow H25 1 (⟨some (p24.2.length, 0), 1, 1⟩)).bind fun (cs26 : (List C)) =>
 (appS H25 1 8 p24.1.1 1 cs26).bind fun (p27 : (Sl × Heap)) =>
 (wr p27.2 H.length 2 [.sl 1 p27.1]).bind fun (H28 : Heap) =>
 Option.bind (α := (Sl × Sl × Sl × Sl × Unit)) (rd H28 (.agg [.sl 3, .sl 3, .sl 1, .sl 2]) H.length 0) fun (v29 : (Sl × Sl × Sl × Sl × Unit)) =>
 (wr H28 H1.length 0 [.sl 3 v29.1, .sl 3 v29.2.1, .sl 1 v29.2.2.1, .sl 2 v29.2.2.2.1]).bind fun (H30 : Heap) =>
 Option.bind (α := (Sl × Sl × Sl × Sl × Unit)) (rd H30 (.agg [.sl 3, .sl 3, .sl 1, .sl 2]) H1.length 0) fun (v31 : (Sl × Sl × Sl × Sl × Unit)) =>
 some ((v31, ()), H30)) (
 (wr p24.2 H.length 2 [.sl 1 p24.1.1]).bind fun (H32 : Heap) =>
 Option.bind (α := (Sl × Sl × Sl × Sl × Unit)) (rd H32 (.agg [.sl 3, .sl 3, .sl 1, .sl 2]) H.length 0) fun (v33 : (Sl × Sl × Sl × Sl × Unit)) =>
 (wr H32 H1.length 0 [.sl 3 v33.1, .sl 3 v33.2.1, .sl 1 v33.2.2.1, .sl 2 v33.2.2.2.1]).bind fun (H34 : Heap) =>
 Option.bind (α := (Sl × Sl × Sl × Sl × Unit)) (rd H34 (.agg [.sl 3, .sl 3, .sl 1, .sl 2]) H1.length 0) fun (v35 : (Sl × Sl × Sl × Sl × Unit)) =>
 some ((v35, ()), H34))
noncomputable def ref08_State_bad.c : Callee := .full [.agg [.sl 3, .sl 3, .sl 1, .sl 2], .one (.int .i64)] [.agg [.sl 3, .sl 3, .sl 1, .sl 2]] (fun x H => ref08_State_bad x.1 x.2.1 H)
noncomputable def ref08_State_bad.calls : Nat → Option Callee
  | _ => none
theorem ref08_State_bad.eq : evFull ref08_State_bad.calls ref08_State_bad.af = (fun x H => ref08_State_bad x.1 x.2.1 H) := by kernel_rfl

/-! ### (tinderbox/tinderboxref08.State).worn -/
def ref08_State_worn.af : AFun := ⟨[.agg [.sl 3, .sl 3, .sl 1, .sl 2], .one (.int .i64), .one (.int .i64)], [.agg [.sl 3, .sl 3, .sl 1, .sl 2]], [.cell 6],
 .seq (.reg [.op ⟨0, some 3, .box (.t 0), none⟩,
  .op ⟨1, some 6, .new [.sl 3 Sl.nil, .sl 3 Sl.nil, .sl 1 Sl.nil, .sl 2 Sl.nil], none⟩])
 (.seq (.reg [.op ⟨0, some 11, .bslice 2 0 [] [], none⟩,
  .op ⟨1, some 7, .mv (.t 11), none⟩,
  .op ⟨2, some 8, .mv (.c (.one (.bool false))), none⟩])
 (.seq (.seq (.reg [.op ⟨0, some 9, .mv (.c (.one (.int .i64 0))), none⟩])
 (.block 0 (.loop [(7, .one (.sl 2)), (8, .one .bool), (9, .one (.int .i64))] [(.exit 0, [(7, .one (.sl 2)), (8, .one .bool)]), (.ret, [])] (.seq (.seq (.reg [.op ⟨0, some 12, .mv (.t 9), none⟩,
  .op ⟨1, some 13, .addr 3 (.t 3), none⟩,
  .op ⟨2, some 14, .load (.one (.sl 2)) (.t 13), none⟩,
  .op ⟨3, some 15, .len (.t 14), none⟩,
  .op ⟨4, some 16, .bin .lss (.t 12) (.t 15), none⟩])
 (.cond (.t 16) (.skip) (.exit 0)))
 (.seq (.block 1 (.seq (.reg [.op ⟨0, some 19, .addr 3 (.t 3), none⟩,
  .op ⟨1, some 20, .load (.one (.sl 2)) (.t 19), none⟩,
  .op ⟨2, some 21, .mv (.t 9), none⟩,
  .op ⟨3, some 22, .idxa 2 (.t 20) (.t 21), none⟩,
  .op ⟨4, some 23, .load (.agg [.int .i64, .int .i64]) (.t 22), none⟩,
  .op ⟨5, some 10, .new [.int .i64 0, .int .i64 0], none⟩,
  .op ⟨6, none, .store 2 (.t 10) (.t 23), none⟩])
 (.seq (.scope [(.normal, []), (.ret, [])] (.seq (.reg [.op ⟨0, some 24, .idxarr 1 2 (.t 10) (.c (.one (.int .i64 0))), none⟩,
  .op ⟨1, some 25, .load (.one (.int .i64)) (.t 24), none⟩,
  .op ⟨2, some 26, .mv (.t 1), none⟩,
  .op ⟨3, some 27, .bin .eql (.t 25) (.t 26), none⟩,
  .op ⟨4, some 28, .mv (.t 27), none⟩,
  .op ⟨5, some 29, .idxarr 1 2 (.t 10) (.c (.one (.int .i64 1))), some (28, true)⟩,
  .op ⟨6, some 30, .load (.one (.int .i64)) (.t 29), some (28, true)⟩,
  .op ⟨7, some 31, .mv (.t 2), some (28, true)⟩,
  .op ⟨8, some 32, .bin .gtr (.t 30) (.t 31), some (28, true)⟩,
  .op ⟨9, some 33, .pick (.t 28) (.t 32) (.c (.one (.bool false))), none⟩])
 (.cond (.t 33) (.seq (.reg [.op ⟨0, some 34, .load (.agg [.sl 3, .sl 3, .sl 1, .sl 2]) (.t 3), none⟩,
  .op ⟨1, none, .store 4 (.t 6) (.t 34), none⟩])
 (.ret)) (.skip))))
 (.seq (.scope [(.normal, [(7, .one (.sl 2)), (8, .one .bool)])] (.seq (.scope [(.normal, [(42, .one .bool)])] (.reg [.op ⟨0, some 35, .mv (.t 8), none⟩,
  .op ⟨1, some 36, .un .not (.t 35), none⟩,
  .op ⟨2, some 37, .mv (.t 36), none⟩,
  .op ⟨3, some 38, .idxarr 1 2 (.t 10) (.c (.one (.int .i64 0))), some (37, true)⟩,
  .op ⟨4, some 39, .load (.one (.int .i64)) (.t 38), some (37, true)⟩,
  .op ⟨5, some 40, .mv (.t 1), some (37, true)⟩,
  .op ⟨6, some 41, .bin .geq (.t 39) (.t 40), some (37, true)⟩,
  .op ⟨7, some 42, .pick (.t 37) (.t 41) (.c (.one (.bool false))), none⟩]))
 (.cond (.t 42) (.reg [.op ⟨0, some 43, .mv (.t 7), none⟩,
  .op ⟨1, some 44, .mv (.t 1), none⟩,
  .op ⟨2, some 45, .mv (.t 2), none⟩,
  .op ⟨3, some 46, .build [.int .i64 0, .int .i64 0] [(0, 1, (.t 44)), (1, 1, (.t 45))], none⟩,
  .op ⟨4, some 47, .bslice 2 1 [.int .i64 0, .int .i64 0] [(0, 2, (.t 46))], none⟩,
  .op ⟨5, some 48, .app 2 16 (.t 43) (.t 47), none⟩,
  .op ⟨6, some 7, .mv (.t 48), none⟩,
  .op ⟨7, some 8, .mv (.c (.one (.bool true))), none⟩]) (.skip))))
 (.seq (.reg [.op ⟨0, some 49, .idxarr 1 2 (.t 10) (.c (.one (.int .i64 0))), none⟩,
  .op ⟨1, some 50, .load (.one (.int .i64)) (.t 49), none⟩,
  .op ⟨2, some 51, .mv (.t 1), none⟩,
  .op ⟨3, some 52, .bin .neq (.t 50) (.t 51), none⟩])
 (.cond (.t 52) (.reg [.op ⟨0, some 53, .mv (.t 7), none⟩,
  .op ⟨1, some 54, .load (.agg [.int .i64, .int .i64]) (.t 10), none⟩,
  .op ⟨2, some 55, .bslice 2 1 [.int .i64 0, .int .i64 0] [(0, 2, (.t 54))], none⟩,
  .op ⟨3, some 56, .app 2 16 (.t 53) (.t 55), none⟩,
  .op ⟨4, some 7, .mv (.t 56), none⟩]) (.skip)))))))
 (.reg [.op ⟨0, some 17, .mv (.t 9), none⟩,
  .op ⟨1, some 18, .bin .add (.t 17) (.c (.one (.int .i64 1))), none⟩,
  .op ⟨2, some 9, .mv (.t 18), none⟩]))))))
 (.seq (.seq (.reg [.op ⟨0, some 57, .mv (.t 8), none⟩,
  .op ⟨1, some 58, .un .not (.t 57), none⟩])
 (.cond (.t 58) (.reg [.op ⟨0, some 59, .mv (.t 7), none⟩,
  .op ⟨1, some 60, .mv (.t 1), none⟩,
  .op ⟨2, some 61, .mv (.t 2), none⟩,
  .op ⟨3, some 62, .build [.int .i64 0, .int .i64 0] [(0, 1, (.t 60)), (1, 1, (.t 61))], none⟩,
  .op ⟨4, some 63, .bslice 2 1 [.int .i64 0, .int .i64 0] [(0, 2, (.t 62))], none⟩,
  .op ⟨5, some 64, .app 2 16 (.t 59) (.t 63), none⟩,
  .op ⟨6, some 7, .mv (.t 64), none⟩]) (.skip)))
 (.seq (.reg [.op ⟨0, some 65, .mv (.t 7), none⟩,
  .op ⟨1, some 66, .addr 3 (.t 3), none⟩,
  .op ⟨2, none, .store 1 (.t 66) (.t 65), none⟩])
 (.seq (.reg [.op ⟨0, some 67, .load (.agg [.sl 3, .sl 3, .sl 1, .sl 2]) (.t 3), none⟩,
  .op ⟨1, none, .store 4 (.t 6) (.t 67), none⟩])
 (.ret))))))⟩
noncomputable def ref08_State_worn.s1 (x1 : Int) (x2 : Int) (H : Heap) (H1 : Heap) (s4 : (Sl × Bool × Int × Unit)) (H5 : Heap) : Option (((Sl × Bool × Int × Unit) ⊕ ((Sl × Bool × Unit) ⊕ (Unit))) × Heap) :=
 (rdSl 2 H5 H.length 3).bind fun (v6 : Sl) =>
 cond (decide (s4.2.2.1 < (v6.len : Int))) (
 (rdSl 2 H5 H.length 3).bind fun (v7 : Sl) =>
 (Sl.at 2 v7 s4.2.2.1).bind fun (a8 : (Nat × Nat)) =>
 Option.bind (α := (Int × Int × Unit)) (rd H5 (.agg [.int .i64, .int .i64]) a8.1 a8.2) fun (v9 : (Int × Int × Unit)) =>
 let H10 : Heap := H5 ++ [Blk.cells [.int .i64 0, .int .i64 0] .exact]
 (wr H10 H5.length 0 [.int .i64 v9.1, .int .i64 v9.2.1]).bind fun (H11 : Heap) =>
 ((arrAt 1 2 (H5.length, 0) 0).bind fun (a12 : (Nat × Nat)) =>
 (rdI .i64 H11 a12.1 a12.2).bind fun (v13 : Int) =>
 cond (decide (v13 = x1)) (
 (arrAt 1 2 (H5.length, 0) 1).bind fun (a14 : (Nat × Nat)) =>
 (rdI .i64 H11 a14.1 a14.2).bind fun (v15 : Int) =>
 cond (decide (x2 < v15)) (
 Option.bind (α := (Sl × Sl × Sl × Sl × Unit)) (rd H11 (.agg [.sl 3, .sl 3, .sl 1, .sl 2]) H.length 0) fun (v16 : (Sl × Sl × Sl × Sl × Unit)) =>
 (wr H11 H1.length 0 [.sl 3 v16.1, .sl 3 v16.2.1, .sl 1 v16.2.2.1, .sl 2 v16.2.2.2.1]).bind fun (H17 : Heap) =>
 some (Sum.inr (()), H17)) (
 some (Sum.inl (()), H11))) (
 some (Sum.inl (()), H11)) : Option (((Unit) ⊕ (Unit)) × Heap)).bind fun (p18 : ((Unit) ⊕ (Unit)) × Heap) =>
 Sum.elim (fun (y19 : (Unit)) =>
 ((cond (!s4.2.1) (
 (arrAt 1 2 (H5.length, 0) 0).bind fun (a20 : (Nat × Nat)) =>
 (rdI .i64 p18.2 a20.1 a20.2).bind fun (v21 : Int) =>
 some (((decide (x1 ≤ v21)), ()), p18.2)) (
 some ((false, ()), p18.2)) : Option ((Bool × Unit) × Heap)).bind fun (p22 : (Bool × Unit) × Heap) =>
 cond p22.1.1 (
 let H23 : Heap := p22.2 ++ [Blk.cells [.int .i64 x1, .int .i64 x2] .exact]
 (slRow H23 2 (⟨some (p22.2.length, 0), 1, 1⟩)).bind fun (cs24 : (List C)) =>
 (appS H23 2 16 s4.1 1 cs24).bind fun (p25 : (Sl × Heap)) =>
 some ((p25.1, true, ()), p25.2)) (
 some ((s4.1, s4.2.1, ()), p22.2)) : Option ((Sl × Bool × Unit) × Heap)).bind fun (p26 : (Sl × Bool × Unit) × Heap) =>
 (arrAt 1 2 (H5.length, 0) 0).bind fun (a27 : (Nat × Nat)) =>
 (rdI .i64 p26.2 a27.1 a27.2).bind fun (v28 : Int) =>
 cond (!decide (v28 = x1)) (
 Option.bind (α := (Int × Int × Unit)) (rd p26.2 (.agg [.int .i64, .int .i64]) H5.length 0) fun (v29 : (Int × Int × Unit)) =>
 let H30 : Heap := p26.2 ++ [Blk.cells [.int .i64 v29.1, .int .i64 v29.2.1] .exact]
 (slRow H30 2 (⟨some (p26.2.length, 0), 1, 1⟩)).bind fun (cs31 : (List C)) =>
 (appS H30 2 16 p26.1.1 1 cs31).bind fun (p32 : (Sl × Heap)) =>
 some (Sum.inl (p32.1, p26.1.2.1, (IntKind.wrap .i64 (s4.2.2.1 + 1)), ()), p32.2)) (
 some (Sum.inl (p26.1.1, p26.1.2.1, (IntKind.wrap .i64 (s4.2.2.1 + 1)), ()), p26.2))) (fun (z33 : (Unit)) =>
 some (Sum.inr (Sum.inr (())), p18.2)) p18.1) (
 some (Sum.inr (Sum.inl (s4.1, s4.2.1, ())), H5))
noncomputable def ref08_State_worn (x0 : (Sl × Sl × Sl × Sl × Unit)) (x1 : Int) (x2 : Int) (H : Heap) : Option (((Sl × Sl × Sl × Sl × Unit) × Unit) × Heap) :=
 let H1 : Heap := H ++ [Blk.cells [.sl 3 x0.1, .sl 3 x0.2.1, .sl 1 x0.2.2.1, .sl 2 x0.2.2.2.1] .exact]
 let H2 : Heap := H1 ++ [Blk.cells [.sl 3 Sl.nil, .sl 3 Sl.nil, .sl 1 Sl.nil, .sl 2 Sl.nil] .exact]
 let H3 : Heap := H2 ++ [Blk.cells [] .exact]
 (loopW (ref08_State_worn.s1 x1 x2 H H1) (⟨some (H2.length, 0), 0, 0⟩, false, 0, ()) H3).bind fun (p34 : ((Sl × Bool × Unit) ⊕ (Unit)) × Heap) =>
 Sum.elim (fun (y35 : (Sl × Bool × Unit)) =>
 cond (!y35.2.1) (
 let H36 : Heap := p34.2 ++ [Blk.cells [.int .i64 x1, .int .i64 x2] .exact]
 (slRow H36 2 (⟨some (p34.2.length, 0), 1, 1⟩)).bind fun (cs37 : (List C)) =>
 (appS H36 2 16 y35.1 1 cs37).bind fun (p38 : (Sl × Heap)) =>
 (wr p38.2 H.length 3 [.sl 2 p38.1]).bind fun (H39 : Heap) =>
 Option.bind (α := (Sl × Sl × Sl × Sl × Unit)) (rd H39 (.agg [.sl 3, .sl 3, .sl 1, .sl 2]) H.length 0) fun (v40 : (Sl × Sl × Sl × Sl × Unit)) =>
 (wr H39 H1.length 0 [.sl 3 v40.1, .sl 3 v40.2.1, .sl 1 v40.2.2.1, .sl 2 v40.2.2.2.1]).bind fun (H41 : Heap) =>
 Option.bind (α := (Sl × Sl × Sl × Sl × Unit)) (rd H41 (.agg [.sl 3, .sl 3, .sl 1, .sl 2]) H1.length 0) fun (v42 : (Sl × Sl × Sl × Sl × Unit)) =>
 some ((v42, ()), H41)) (
 (wr p34.2 H.length 3 [.sl 2 y35.1]).bind fun (H43 : Heap) =>
 Option.bind (α := (Sl × Sl × Sl × Sl × Unit)) (rd H43 (.agg [.sl 3, .sl 3, .sl 1, .sl 2]) H.length 0) fun (v44 : (Sl × Sl × Sl × Sl × Unit)) =>
 (wr H43 H1.length 0 [.sl 3 v44.1, .sl 3 v44.2.1, .sl 1 v44.2.2.1, .sl 2 v44.2.2.2.1]).bind fun (H45 : Heap) =>
 Option.bind (α := (Sl × Sl × Sl × Sl × Unit)) (rd H45 (.agg [.sl 3, .sl 3, .sl 1, .sl 2]) H1.length 0) fun (v46 : (Sl × Sl × Sl × Sl × Unit)) =>
 some ((v46, ()), H45))) (fun (z47 : (Unit)) =>
 Option.bind (α := (Sl × Sl × Sl × Sl × Unit)) (rd p34.2 (.agg [.sl 3, .sl 3, .sl 1, .sl 2]) H1.length 0) fun (v48 : (Sl × Sl × Sl × Sl × Unit)) =>
 some ((v48, ()), p34.2)) p34.1
noncomputable def ref08_State_worn.c : Callee := .full [.agg [.sl 3, .sl 3, .sl 1, .sl 2], .one (.int .i64), .one (.int .i64)] [.agg [.sl 3, .sl 3, .sl 1, .sl 2]] (fun x H => ref08_State_worn x.1 x.2.1 x.2.2.1 H)
noncomputable def ref08_State_worn.calls : Nat → Option Callee
  | _ => none
theorem ref08_State_worn.eq : evFull ref08_State_worn.calls ref08_State_worn.af = (fun x H => ref08_State_worn x.1 x.2.1 x.2.2.1 H) := by kernel_rfl

/-! ### (tinderbox/tinderboxref08.State).with -/
def ref08_State_with.af : AFun := ⟨[.agg [.sl 3, .sl 3, .sl 1, .sl 2], .agg [.int .i64, .int .i64, .int .i64]], [.agg [.sl 3, .sl 3, .sl 1, .sl 2]], [.cell 4],
 .seq (.reg [.op ⟨0, some 2, .box (.t 0), none⟩,
  .op ⟨1, some 3, .box (.t 1), none⟩,
  .op ⟨2, some 4, .new [.sl 3 Sl.nil, .sl 3 Sl.nil, .sl 1 Sl.nil, .sl 2 Sl.nil], none⟩])
 (.seq (.reg [.op ⟨0, some 9, .bslice 3 0 [] [], none⟩,
  .op ⟨1, some 5, .mv (.t 9), none⟩,
  .op ⟨2, some 6, .mv (.c (.one (.bool false))), none⟩])
 (.seq (.seq (.reg [.op ⟨0, some 7, .mv (.c (.one (.int .i64 0))), none⟩])
 (.block 0 (.loop [(5, .one (.sl 3)), (6, .one .bool), (7, .one (.int .i64))] [(.exit 0, [(5, .one (.sl 3)), (6, .one .bool)])] (.seq (.seq (.reg [.op ⟨0, some 10, .mv (.t 7), none⟩,
  .op ⟨1, some 11, .addr 1 (.t 2), none⟩,
  .op ⟨2, some 12, .load (.one (.sl 3)) (.t 11), none⟩,
  .op ⟨3, some 13, .len (.t 12), none⟩,
  .op ⟨4, some 14, .bin .lss (.t 10) (.t 13), none⟩])
 (.cond (.t 14) (.skip) (.exit 0)))
 (.seq (.block 1 (.seq (.reg [.op ⟨0, some 17, .addr 1 (.t 2), none⟩,
  .op ⟨1, some 18, .load (.one (.sl 3)) (.t 17), none⟩,
  .op ⟨2, some 19, .mv (.t 7), none⟩,
  .op ⟨3, some 20, .idxa 3 (.t 18) (.t 19), none⟩,
  .op ⟨4, some 21, .load (.agg [.int .i64, .int .i64, .int .i64]) (.t 20), none⟩,
  .op ⟨5, some 8, .new [.int .i64 0, .int .i64 0, .int .i64 0], none⟩,
  .op ⟨6, none, .store 3 (.t 8) (.t 21), none⟩])
 (.seq (.scope [(.normal, [(5, .one (.sl 3)), (6, .one .bool)])] (.seq (.scope [(.normal, [(44, .one .bool)])] (.reg [.op ⟨0, some 22, .mv (.t 6), none⟩,
  .op ⟨1, some 23, .un .not (.t 22), none⟩,
  .op ⟨2, some 24, .mv (.t 23), none⟩,
  .op ⟨3, some 25, .addr 0 (.t 8), some (24, true)⟩,
  .op ⟨4, some 26, .load (.one (.int .i64)) (.t 25), some (24, true)⟩,
  .op ⟨5, some 27, .addr 0 (.t 3), some (24, true)⟩,
  .op ⟨6, some 28, .load (.one (.int .i64)) (.t 27), some (24, true)⟩,
  .op ⟨7, some 29, .bin .gtr (.t 26) (.t 28), some (24, true)⟩,
  .op ⟨8, some 30, .mv (.t 29), some (24, true)⟩,
  .op ⟨9, some 31, .addr 0 (.t 8), some (30, false)⟩,
  .op ⟨10, some 32, .load (.one (.int .i64)) (.t 31), some (30, false)⟩,
  .op ⟨11, some 33, .addr 0 (.t 3), some (30, false)⟩,
  .op ⟨12, some 34, .load (.one (.int .i64)) (.t 33), some (30, false)⟩,
  .op ⟨13, some 35, .bin .eql (.t 32) (.t 34), some (30, false)⟩,
  .op ⟨14, some 36, .mv (.t 35), some (30, false)⟩,
  .op ⟨15, some 37, .addr 1 (.t 8), some (36, true)⟩,
  .op ⟨16, some 38, .load (.one (.int .i64)) (.t 37), some (36, true)⟩,
  .op ⟨17, some 39, .addr 1 (.t 3), some (36, true)⟩,
  .op ⟨18, some 40, .load (.one (.int .i64)) (.t 39), some (36, true)⟩,
  .op ⟨19, some 41, .bin .geq (.t 38) (.t 40), some (36, true)⟩,
  .op ⟨20, some 42, .pick (.t 36) (.t 41) (.c (.one (.bool false))), some (30, false)⟩,
  .op ⟨21, some 43, .pick (.t 30) (.c (.one (.bool true))) (.t 42), some (24, true)⟩,
  .op ⟨22, some 44, .pick (.t 24) (.t 43) (.c (.one (.bool false))), none⟩]))
 (.cond (.t 44) (.reg [.op ⟨0, some 45, .mv (.t 5), none⟩,
  .op ⟨1, some 46, .load (.agg [.int .i64, .int .i64, .int .i64]) (.t 3), none⟩,
  .op ⟨2, some 47, .bslice 3 1 [.int .i64 0, .int .i64 0, .int .i64 0] [(0, 3, (.t 46))], none⟩,
  .op ⟨3, some 48, .app 3 24 (.t 45) (.t 47), none⟩,
  .op ⟨4, some 5, .mv (.t 48), none⟩,
  .op ⟨5, some 6, .mv (.c (.one (.bool true))), none⟩]) (.skip))))
 (.seq (.scope [(.normal, [(60, .one .bool)])] (.reg [.op ⟨0, some 49, .addr 0 (.t 8), none⟩,
  .op ⟨1, some 50, .load (.one (.int .i64)) (.t 49), none⟩,
  .op ⟨2, some 51, .addr 0 (.t 3), none⟩,
  .op ⟨3, some 52, .load (.one (.int .i64)) (.t 51), none⟩,
  .op ⟨4, some 53, .bin .neq (.t 50) (.t 52), none⟩,
  .op ⟨5, some 54, .mv (.t 53), none⟩,
  .op ⟨6, some 55, .addr 1 (.t 8), some (54, false)⟩,
  .op ⟨7, some 56, .load (.one (.int .i64)) (.t 55), some (54, false)⟩,
  .op ⟨8, some 57, .addr 1 (.t 3), some (54, false)⟩,
  .op ⟨9, some 58, .load (.one (.int .i64)) (.t 57), some (54, false)⟩,
  .op ⟨10, some 59, .bin .neq (.t 56) (.t 58), some (54, false)⟩,
  .op ⟨11, some 60, .pick (.t 54) (.c (.one (.bool true))) (.t 59), none⟩]))
 (.cond (.t 60) (.reg [.op ⟨0, some 61, .mv (.t 5), none⟩,
  .op ⟨1, some 62, .load (.agg [.int .i64, .int .i64, .int .i64]) (.t 8), none⟩,
  .op ⟨2, some 63, .bslice 3 1 [.int .i64 0, .int .i64 0, .int .i64 0] [(0, 3, (.t 62))], none⟩,
  .op ⟨3, some 64, .app 3 24 (.t 61) (.t 63), none⟩,
  .op ⟨4, some 5, .mv (.t 64), none⟩]) (.skip))))))
 (.reg [.op ⟨0, some 15, .mv (.t 7), none⟩,
  .op ⟨1, some 16, .bin .add (.t 15) (.c (.one (.int .i64 1))), none⟩,
  .op ⟨2, some 7, .mv (.t 16), none⟩]))))))
 (.seq (.seq (.reg [.op ⟨0, some 65, .mv (.t 6), none⟩,
  .op ⟨1, some 66, .un .not (.t 65), none⟩])
 (.cond (.t 66) (.reg [.op ⟨0, some 67, .mv (.t 5), none⟩,
  .op ⟨1, some 68, .load (.agg [.int .i64, .int .i64, .int .i64]) (.t 3), none⟩,
  .op ⟨2, some 69, .bslice 3 1 [.int .i64 0, .int .i64 0, .int .i64 0] [(0, 3, (.t 68))], none⟩,
  .op ⟨3, some 70, .app 3 24 (.t 67) (.t 69), none⟩,
  .op ⟨4, some 5, .mv (.t 70), none⟩]) (.skip)))
 (.seq (.reg [.op ⟨0, some 71, .mv (.t 5), none⟩,
  .op ⟨1, some 72, .addr 1 (.t 2), none⟩,
  .op ⟨2, none, .store 1 (.t 72) (.t 71), none⟩])
 (.seq (.reg [.op ⟨0, some 73, .load (.agg [.sl 3, .sl 3, .sl 1, .sl 2]) (.t 2), none⟩,
  .op ⟨1, none, .store 4 (.t 4) (.t 73), none⟩])
 (.ret))))))⟩
noncomputable def ref08_State_with.s1 (H : Heap) (H1 : Heap) (s5 : (Sl × Bool × Int × Unit)) (H6 : Heap) : Option (((Sl × Bool × Int × Unit) ⊕ (Sl × Bool × Unit)) × Heap) :=
 (rdSl 3 H6 H.length 1).bind fun (v7 : Sl) =>
 cond (decide (s5.2.2.1 < (v7.len : Int))) (
 (rdSl 3 H6 H.length 1).bind fun (v8 : Sl) =>
 (Sl.at 3 v8 s5.2.2.1).bind fun (a9 : (Nat × Nat)) =>
 Option.bind (α := (Int × Int × Int × Unit)) (rd H6 (.agg [.int .i64, .int .i64, .int .i64]) a9.1 a9.2) fun (v10 : (Int × Int × Int × Unit)) =>
 let H11 : Heap := H6 ++ [Blk.cells [.int .i64 0, .int .i64 0, .int .i64 0] .exact]
 (wr H11 H6.length 0 [.int .i64 v10.1, .int .i64 v10.2.1, .int .i64 v10.2.2.1]).bind fun (H12 : Heap) =>
 ((cond (!s5.2.1) (
 (rdI .i64 H12 H6.length 0).bind fun (v13 : Int) =>
 (rdI .i64 H12 H1.length 0).bind fun (v14 : Int) =>
 cond (decide (v14 < v13)) (
 some ((true, ()), H12)) (
 (rdI .i64 H12 H6.length 0).bind fun (v15 : Int) =>
 (rdI .i64 H12 H1.length 0).bind fun (v16 : Int) =>
 cond (decide (v15 = v16)) (
 (rdI .i64 H12 H6.length 1).bind fun (v17 : Int) =>
 (rdI .i64 H12 H1.length 1).bind fun (v18 : Int) =>
 some (((decide (v18 ≤ v17)), ()), H12)) (
 some ((false, ()), H12)))) (
 some ((false, ()), H12)) : Option ((Bool × Unit) × Heap)).bind fun (p19 : (Bool × Unit) × Heap) =>
 cond p19.1.1 (
 Option.bind (α := (Int × Int × Int × Unit)) (rd p19.2 (.agg [.int .i64, .int .i64, .int .i64]) H1.length 0) fun (v20 : (Int × Int × Int × Unit)) =>
 let H21 : Heap := p19.2 ++ [Blk.cells [.int .i64 v20.1, .int .i64 v20.2.1, .int .i64 v20.2.2.1] .exact]
 (slRow H21 3 (⟨some (p19.2.length, 0), 1, 1⟩)).bind fun (cs22 : (List C)) =>
 (appS H21 3 24 s5.1 1 cs22).bind fun (p23 : (Sl × Heap)) =>
 some ((p23.1, true, ()), p23.2)) (
 some ((s5.1, s5.2.1, ()), p19.2)) : Option ((Sl × Bool × Unit) × Heap)).bind fun (p24 : (Sl × Bool × Unit) × Heap) =>
 ((rdI .i64 p24.2 H6.length 0).bind fun (v25 : Int) =>
 (rdI .i64 p24.2 H1.length 0).bind fun (v26 : Int) =>
 cond (!decide (v25 = v26)) (
 some ((true, ()), p24.2)) (
 (rdI .i64 p24.2 H6.length 1).bind fun (v27 : Int) =>
 (rdI .i64 p24.2 H1.length 1).bind fun (v28 : Int) =>
 some (((!decide (v27 = v28)), ()), p24.2)) : Option ((Bool × Unit) × Heap)).bind fun (p29 : (Bool × Unit) × Heap) =>
 cond p29.1.1 (
 Option.bind (α := (Int × Int × Int × Unit)) (rd p29.2 (.agg [.int .i64, .int .i64, .int .i64]) H6.length 0) fun (v30 : (Int × Int × Int × Unit)) =>
 let H31 : Heap := p29.2 ++ [Blk.cells [.int .i64 v30.1, .int .i64 v30.2.1, .int .i64 v30.2.2.1] .exact]
 (slRow H31 3 (⟨some (p29.2.length, 0), 1, 1⟩)).bind fun (cs32 : (List C)) =>
 (appS H31 3 24 p24.1.1 1 cs32).bind fun (p33 : (Sl × Heap)) =>
 some (Sum.inl (p33.1, p24.1.2.1, (IntKind.wrap .i64 (s5.2.2.1 + 1)), ()), p33.2)) (
 some (Sum.inl (p24.1.1, p24.1.2.1, (IntKind.wrap .i64 (s5.2.2.1 + 1)), ()), p29.2))) (
 some (Sum.inr (s5.1, s5.2.1, ()), H6))
noncomputable def ref08_State_with (x0 : (Sl × Sl × Sl × Sl × Unit)) (x1 : (Int × Int × Int × Unit)) (H : Heap) : Option (((Sl × Sl × Sl × Sl × Unit) × Unit) × Heap) :=
 let H1 : Heap := H ++ [Blk.cells [.sl 3 x0.1, .sl 3 x0.2.1, .sl 1 x0.2.2.1, .sl 2 x0.2.2.2.1] .exact]
 let H2 : Heap := H1 ++ [Blk.cells [.int .i64 x1.1, .int .i64 x1.2.1, .int .i64 x1.2.2.1] .exact]
 let H3 : Heap := H2 ++ [Blk.cells [.sl 3 Sl.nil, .sl 3 Sl.nil, .sl 1 Sl.nil, .sl 2 Sl.nil] .exact]
 let H4 : Heap := H3 ++ [Blk.cells [] .exact]
 (loopW (ref08_State_with.s1 H H1) (⟨some (H3.length, 0), 0, 0⟩, false, 0, ()) H4).bind fun (p34 : (Sl × Bool × Unit) × Heap) =>
 cond (!p34.1.2.1) (
 Option.bind (α := (Int × Int × Int × Unit)) (rd p34.2 (.agg [.int .i64, .int .i64, .int .i64]) H1.length 0) fun (v35 : (Int × Int × Int × Unit)) =>
 let H36 : Heap := p34.2 ++ [Blk.cells [.int .i64 v35.1, .int .i64 v35.2.1, .int .i64 v35.2.2.1] .exact]
 (slRow H36 3 (⟨some (p34.2.length, 0), 1, 1⟩)).bind fun (cs37 : (List C)) =>
 (appS H36 3 24 p34.1.1 1 cs37).bind fun (p38 : (Sl × Heap)) =>
 (wr p38.2 H.length 1 [.sl 3 p38.1]).bind fun (H39 : Heap) =>
 Option.bind (α := (Sl × Sl × Sl × Sl × Unit)) (rd H39 (.agg [.sl 3, .sl 3, .sl 1, .sl 2]) H.length 0) fun (v40 : (Sl × Sl × Sl × Sl × Unit)) =>
 (wr H39 H2.length 0 [.sl 3 v40.1, .sl 3 v40.2.1, .sl 1 v40.2.2.1, .sl 2 v40.2.2.2.1]).bind fun (H41 : Heap) =>
 Option.bind (α := (Sl × Sl × Sl × Sl × Unit)) (rd H41 (.agg [.sl 3, .sl 3, .sl 1, .sl 2]) H2.length 0) fun (v42 : (Sl × Sl × Sl × Sl × Unit)) =>
 some ((v42, ()), H41)) (
 (wr p34.2 H.length 1 [.sl 3 p34.1.1]).bind fun (H43 : Heap) =>
 Option.bind (α := (Sl × Sl × Sl × Sl × Unit)) (rd H43 (.agg [.sl 3, .sl 3, .sl 1, .sl 2]) H.length 0) fun (v44 : (Sl × Sl × Sl × Sl × Unit)) =>
 (wr H43 H2.length 0 [.sl 3 v44.1, .sl 3 v44.2.1, .sl 1 v44.2.2.1, .sl 2 v44.2.2.2.1]).bind fun (H45 : Heap) =>
 Option.bind (α := (Sl × Sl × Sl × Sl × Unit)) (rd H45 (.agg [.sl 3, .sl 3, .sl 1, .sl 2]) H2.length 0) fun (v46 : (Sl × Sl × Sl × Sl × Unit)) =>
 some ((v46, ()), H45))
noncomputable def ref08_State_with.c : Callee := .full [.agg [.sl 3, .sl 3, .sl 1, .sl 2], .agg [.int .i64, .int .i64, .int .i64]] [.agg [.sl 3, .sl 3, .sl 1, .sl 2]] (fun x H => ref08_State_with x.1 x.2.1 H)
noncomputable def ref08_State_with.calls : Nat → Option Callee
  | _ => none
theorem ref08_State_with.eq : evFull ref08_State_with.calls ref08_State_with.af = (fun x H => ref08_State_with x.1 x.2.1 H) := by kernel_rfl

/-! ### (tinderbox/tinderboxref08.State).without -/
def ref08_State_without.af : AFun := ⟨[.agg [.sl 3, .sl 3, .sl 1, .sl 2], .one (.int .i64), .one (.int .i64)], [.agg [.sl 3, .sl 3, .sl 1, .sl 2]], [.cell 6],
 .seq (.reg [.op ⟨0, some 3, .box (.t 0), none⟩,
  .op ⟨1, some 6, .new [.sl 3 Sl.nil, .sl 3 Sl.nil, .sl 1 Sl.nil, .sl 2 Sl.nil], none⟩])
 (.seq (.reg [.op ⟨0, some 10, .bslice 3 0 [] [], none⟩,
  .op ⟨1, some 7, .mv (.t 10), none⟩])
 (.seq (.seq (.reg [.op ⟨0, some 8, .mv (.c (.one (.int .i64 0))), none⟩])
 (.block 0 (.loop [(7, .one (.sl 3)), (8, .one (.int .i64))] [(.exit 0, [(7, .one (.sl 3))])] (.seq (.seq (.reg [.op ⟨0, some 11, .mv (.t 8), none⟩,
  .op ⟨1, some 12, .addr 1 (.t 3), none⟩,
  .op ⟨2, some 13, .load (.one (.sl 3)) (.t 12), none⟩,
  .op ⟨3, some 14, .len (.t 13), none⟩,
  .op ⟨4, some 15, .bin .lss (.t 11) (.t 14), none⟩])
 (.cond (.t 15) (.skip) (.exit 0)))
 (.seq (.block 1 (.seq (.reg [.op ⟨0, some 18, .addr 1 (.t 3), none⟩,
  .op ⟨1, some 19, .load (.one (.sl 3)) (.t 18), none⟩,
  .op ⟨2, some 20, .mv (.t 8), none⟩,
  .op ⟨3, some 21, .idxa 3 (.t 19) (.t 20), none⟩,
  .op ⟨4, some 22, .load (.agg [.int .i64, .int .i64, .int .i64]) (.t 21), none⟩,
  .op ⟨5, some 9, .new [.int .i64 0, .int .i64 0, .int .i64 0], none⟩,
  .op ⟨6, none, .store 3 (.t 9) (.t 22), none⟩])
 (.seq (.scope [(.normal, [(36, .one .bool)])] (.reg [.op ⟨0, some 23, .addr 0 (.t 9), none⟩,
  .op ⟨1, some 24, .load (.one (.int .i64)) (.t 23), none⟩,
  .op ⟨2, some 25, .mv (.t 1), none⟩,
  .op ⟨3, some 26, .bin .neq (.t 24) (.t 25), none⟩,
  .op ⟨4, some 27, .mv (.t 26), none⟩,
  .op ⟨5, some 28, .mv (.t 2), some (27, false)⟩,
  .op ⟨6, some 29, .bin .geq (.t 28) (.c (.one (.int .i64 0))), some (27, false)⟩,
  .op ⟨7, some 30, .mv (.t 29), some (27, false)⟩,
  .op ⟨8, some 31, .addr 1 (.t 9), some (30, true)⟩,
  .op ⟨9, some 32, .load (.one (.int .i64)) (.t 31), some (30, true)⟩,
  .op ⟨10, some 33, .mv (.t 2), some (30, true)⟩,
  .op ⟨11, some 34, .bin .neq (.t 32) (.t 33), some (30, true)⟩,
  .op ⟨12, some 35, .pick (.t 30) (.t 34) (.c (.one (.bool false))), some (27, false)⟩,
  .op ⟨13, some 36, .pick (.t 27) (.c (.one (.bool true))) (.t 35), none⟩]))
 (.cond (.t 36) (.reg [.op ⟨0, some 37, .mv (.t 7), none⟩,
  .op ⟨1, some 38, .load (.agg [.int .i64, .int .i64, .int .i64]) (.t 9), none⟩,
  .op ⟨2, some 39, .bslice 3 1 [.int .i64 0, .int .i64 0, .int .i64 0] [(0, 3, (.t 38))], none⟩,
  .op ⟨3, some 40, .app 3 24 (.t 37) (.t 39), none⟩,
  .op ⟨4, some 7, .mv (.t 40), none⟩]) (.skip)))))
 (.reg [.op ⟨0, some 16, .mv (.t 8), none⟩,
  .op ⟨1, some 17, .bin .add (.t 16) (.c (.one (.int .i64 1))), none⟩,
  .op ⟨2, some 8, .mv (.t 17), none⟩]))))))
 (.seq (.reg [.op ⟨0, some 41, .mv (.t 7), none⟩,
  .op ⟨1, some 42, .addr 1 (.t 3), none⟩,
  .op ⟨2, none, .store 1 (.t 42) (.t 41), none⟩])
 (.seq (.reg [.op ⟨0, some 43, .load (.agg [.sl 3, .sl 3, .sl 1, .sl 2]) (.t 3), none⟩,
  .op ⟨1, none, .store 4 (.t 6) (.t 43), none⟩])
 (.ret)))))⟩
noncomputable def ref08_State_without.s1 (x1 : Int) (x2 : Int) (H : Heap) (s4 : (Sl × Int × Unit)) (H5 : Heap) : Option (((Sl × Int × Unit) ⊕ (Sl × Unit)) × Heap) :=
 (rdSl 3 H5 H.length 1).bind fun (v6 : Sl) =>
 cond (decide (s4.2.1 < (v6.len : Int))) (
 (rdSl 3 H5 H.length 1).bind fun (v7 : Sl) =>
 (Sl.at 3 v7 s4.2.1).bind fun (a8 : (Nat × Nat)) =>
 Option.bind (α := (Int × Int × Int × Unit)) (rd H5 (.agg [.int .i64, .int .i64, .int .i64]) a8.1 a8.2) fun (v9 : (Int × Int × Int × Unit)) =>
 let H10 : Heap := H5 ++ [Blk.cells [.int .i64 0, .int .i64 0, .int .i64 0] .exact]
 (wr H10 H5.length 0 [.int .i64 v9.1, .int .i64 v9.2.1, .int .i64 v9.2.2.1]).bind fun (H11 : Heap) =>
 ((rdI .i64 H11 H5.length 0).bind fun (v12 : Int) =>
 cond (!decide (v12 = x1)) (
 some ((true, ()), H11)) (
 cond (decide (0 ≤ x2)) (
 (rdI .i64 H11 H5.length 1).bind fun (v13 : Int) =>
 some (((!decide (v13 = x2)), ()), H11)) (
 some ((false, ()), H11))) : Option ((Bool × Unit) × Heap)).bind fun (p14 : (Bool × Unit) × Heap) =>
 cond p14.1.1 (
 Option.bind (α := (Int × Int × Int × Unit)) (rd p14.2 (.agg [.int .i64, .int .i64, .int .i64]) H5.length 0) fun (v15 : (Int × Int × Int × Unit)) =>
 let H16 : Heap := p14.2 ++ [Blk.cells [.int .i64 v15.1, .int .i64 v15.2.1, .int .i64 v15.2.2.1] .exact]
 (slRow H16 3 (⟨some (p14.2.length, 0), 1, 1⟩)).bind fun (cs17 : (List C)) =>
 (appS H16 3 24 s4.1 1 cs17).bind fun (p18 : (Sl × Heap)) =>
 some (Sum.inl (p18.1, (IntKind.wrap .i64 (s4.2.1 + 1)), ()), p18.2)) (
 some (Sum.inl (s4.1, (IntKind.wrap .i64 (s4.2.1 + 1)), ()), p14.2))) (
 some (Sum.inr (s4.1, ()), H5))
noncomputable def ref08_State_without (x0 : (Sl × Sl × Sl × Sl × Unit)) (x1 : Int) (x2 : Int) (H : Heap) : Option (((Sl × Sl × Sl × Sl × Unit) × Unit) × Heap) :=
 let H1 : Heap := H ++ [Blk.cells [.sl 3 x0.1, .sl 3 x0.2.1, .sl 1 x0.2.2.1, .sl 2 x0.2.2.2.1] .exact]
 let H2 : Heap := H1 ++ [Blk.cells [.sl 3 Sl.nil, .sl 3 Sl.nil, .sl 1 Sl.nil, .sl 2 Sl.nil] .exact]
 let H3 : Heap := H2 ++ [Blk.cells [] .exact]
 (loopW (ref08_State_without.s1 x1 x2 H) (⟨some (H2.length, 0), 0, 0⟩, 0, ()) H3).bind fun (p19 : (Sl × Unit) × Heap) =>
 (wr p19.2 H.length 1 [.sl 3 p19.1.1]).bind fun (H20 : Heap) =>
 Option.bind (α := (Sl × Sl × Sl × Sl × Unit)) (rd H20 (.agg [.sl 3, .sl 3, .sl 1, .sl 2]) H.length 0) fun (v21 : (Sl × Sl × Sl × Sl × Unit)) =>
 (wr H20 H1.length 0 [.sl 3 v21.1, .sl 3 v21.2.1, .sl 1 v21.2.2.1, .sl 2 v21.2.2.2.1]).bind fun (H22 : Heap) =>
 Option.bind (α := (Sl × Sl × Sl × Sl × Unit)) (rd H22 (.agg [.sl 3, .sl 3, .sl 1, .sl 2]) H1.length 0) fun (v23 : (Sl × Sl × Sl × Sl × Unit)) =>
 some ((v23, ()), H22)
noncomputable def ref08_State_without.c : Callee := .full [.agg [.sl 3, .sl 3, .sl 1, .sl 2], .one (.int .i64), .one (.int .i64)] [.agg [.sl 3, .sl 3, .sl 1, .sl 2]] (fun x H => ref08_State_without x.1 x.2.1 x.2.2.1 H)
noncomputable def ref08_State_without.calls : Nat → Option Callee
  | _ => none
theorem ref08_State_without.eq : evFull ref08_State_without.calls ref08_State_without.af = (fun x H => ref08_State_without x.1 x.2.1 x.2.2.1 H) := by kernel_rfl

/-! ### (tinderbox/tinderboxref08.State).dropped -/
def ref08_State_dropped.af : AFun := ⟨[.agg [.sl 3, .sl 3, .sl 1, .sl 2], .one (.int .i64)], [.agg [.sl 3, .sl 3, .sl 1, .sl 2]], [.cell 4],
 .seq (.reg [.op ⟨0, some 2, .box (.t 0), none⟩,
  .op ⟨1, some 4, .new [.sl 3 Sl.nil, .sl 3 Sl.nil, .sl 1 Sl.nil, .sl 2 Sl.nil], none⟩])
 (.seq (.reg [.op ⟨0, some 7, .bslice 3 0 [] [], none⟩,
  .op ⟨1, some 5, .mv (.t 7), none⟩])
 (.seq (.seq (.reg [.op ⟨0, some 6, .mv (.c (.one (.int .i64 0))), none⟩])
 (.block 0 (.loop [(5, .one (.sl 3)), (6, .one (.int .i64))] [(.exit 0, [(5, .one (.sl 3))])] (.seq (.seq (.reg [.op ⟨0, some 8, .mv (.t 6), none⟩,
  .op ⟨1, some 9, .addr 0 (.t 2), none⟩,
  .op ⟨2, some 10, .load (.one (.sl 3)) (.t 9), none⟩,
  .op ⟨3, some 11, .len (.t 10), none⟩,
  .op ⟨4, some 12, .bin .lss (.t 8) (.t 11), none⟩])
 (.cond (.t 12) (.skip) (.exit 0)))
 (.seq (.block 1 (.seq (.reg [.op ⟨0, some 15, .addr 0 (.t 2), none⟩,
  .op ⟨1, some 16, .load (.one (.sl 3)) (.t 15), none⟩,
  .op ⟨2, some 17, .mv (.t 6), none⟩,
  .op ⟨3, some 18, .idxa 3 (.t 16) (.t 17), none⟩,
  .op ⟨4, some 19, .addr 0 (.t 18), none⟩,
  .op ⟨5, some 20, .load (.one (.int .i64)) (.t 19), none⟩,
  .op ⟨6, some 21, .mv (.t 1), none⟩,
  .op ⟨7, some 22, .bin .neq (.t 20) (.t 21), none⟩])
 (.cond (.t 22) (.reg [.op ⟨0, some 23, .mv (.t 5), none⟩,
  .op ⟨1, some 24, .addr 0 (.t 2), none⟩,
  .op ⟨2, some 25, .load (.one (.sl 3)) (.t 24), none⟩,
  .op ⟨3, some 26, .mv (.t 6), none⟩,
  .op ⟨4, some 27, .idxa 3 (.t 25) (.t 26), none⟩,
  .op ⟨5, some 28, .load (.agg [.int .i64, .int .i64, .bool]) (.t 27), none⟩,
  .op ⟨6, some 29, .bslice 3 1 [.int .i64 0, .int .i64 0, .bool false] [(0, 3, (.t 28))], none⟩,
  .op ⟨7, some 30, .app 3 24 (.t 23) (.t 29), none⟩,
  .op ⟨8, some 5, .mv (.t 30), none⟩]) (.skip))))
 (.reg [.op ⟨0, some 13, .mv (.t 6), none⟩,
  .op ⟨1, some 14, .bin .add (.t 13) (.c (.one (.int .i64 1))), none⟩,
  .op ⟨2, some 6, .mv (.t 14), none⟩]))))))
 (.seq (.reg [.op ⟨0, some 31, .mv (.t 5), none⟩,
  .op ⟨1, some 32, .addr 0 (.t 2), none⟩,
  .op ⟨2, none, .store 1 (.t 32) (.t 31), none⟩])
 (.seq (.reg [.op ⟨0, some 33, .load (.agg [.sl 3, .sl 3, .sl 1, .sl 2]) (.t 2), none⟩,
  .op ⟨1, some 34, .mv (.t 1), none⟩,
  .op ⟨2, some 35, .call 0 [(.t 33), (.t 34), (.c (.one (.int .i64 (-1))))], none⟩,
  .op ⟨3, none, .store 4 (.t 4) (.t 35), none⟩])
 (.ret)))))⟩
noncomputable def ref08_State_dropped.s1 (x1 : Int) (H : Heap) (s4 : (Sl × Int × Unit)) (H5 : Heap) : Option (((Sl × Int × Unit) ⊕ (Sl × Unit)) × Heap) :=
 (rdSl 3 H5 H.length 0).bind fun (v6 : Sl) =>
 cond (decide (s4.2.1 < (v6.len : Int))) (
 (rdSl 3 H5 H.length 0).bind fun (v7 : Sl) =>
 (Sl.at 3 v7 s4.2.1).bind fun (a8 : (Nat × Nat)) =>
 (rdI .i64 H5 a8.1 a8.2).bind fun (v9 : Int) =>
 cond (!decide (v9 = x1)) (
 (rdSl 3 H5 H.length 0).bind fun (v10 : Sl) =>
 (Sl.at 3 v10 s4.2.1).bind fun (a11 : (Nat × Nat)) =>
 Option.bind (α := (Int × Int × Bool × Unit)) (rd H5 (.agg [.int .i64, .int .i64, .bool]) a11.1 a11.2) fun (v12 : (Int × Int × Bool × Unit)) =>
 let H13 : Heap := H5 ++ [Blk.cells [.int .i64 v12.1, .int .i64 v12.2.1, .bool v12.2.2.1] .exact]
 (slRow H13 3 (⟨some (H5.length, 0), 1, 1⟩)).bind fun (cs14 : (List C)) =>
 (appS H13 3 24 s4.1 1 cs14).bind fun (p15 : (Sl × Heap)) =>
 some (Sum.inl (p15.1, (IntKind.wrap .i64 (s4.2.1 + 1)), ()), p15.2)) (
 some (Sum.inl (s4.1, (IntKind.wrap .i64 (s4.2.1 + 1)), ()), H5))) (
 some (Sum.inr (s4.1, ()), H5))
noncomputable def ref08_State_dropped (x0 : (Sl × Sl × Sl × Sl × Unit)) (x1 : Int) (H : Heap) : Option (((Sl × Sl × Sl × Sl × Unit) × Unit) × Heap) :=
 let H1 : Heap := H ++ [Blk.cells [.sl 3 x0.1, .sl 3 x0.2.1, .sl 1 x0.2.2.1, .sl 2 x0.2.2.2.1] .exact]
 let H2 : Heap := H1 ++ [Blk.cells [.sl 3 Sl.nil, .sl 3 Sl.nil, .sl 1 Sl.nil, .sl 2 Sl.nil] .exact]
 let H3 : Heap := H2 ++ [Blk.cells [] .exact]
 (loopW (ref08_State_dropped.s1 x1 H) (⟨some (H2.length, 0), 0, 0⟩, 0, ()) H3).bind fun (p16 : (Sl × Unit) × Heap) =>
 (wr p16.2 H.length 0 [.sl 3 p16.1.1]).bind fun (H17 : Heap) =>
 Option.bind (α := (Sl × Sl × Sl × Sl × Unit)) (rd H17 (.agg [.sl 3, .sl 3, .sl 1, .sl 2]) H.length 0) fun (v18 : (Sl × Sl × Sl × Sl × Unit)) =>
 (ref08_State_without (v18.1, v18.2.1, v18.2.2.1, v18.2.2.2.1, ()) x1 (-1) H17).bind fun (r19 : (((Sl × Sl × Sl × Sl × Unit) × Unit) × Heap)) =>
 (wr r19.2 H1.length 0 [.sl 3 r19.1.1.1, .sl 3 r19.1.1.2.1, .sl 1 r19.1.1.2.2.1, .sl 2 r19.1.1.2.2.2.1]).bind fun (H20 : Heap) =>
 Option.bind (α := (Sl × Sl × Sl × Sl × Unit)) (rd H20 (.agg [.sl 3, .sl 3, .sl 1, .sl 2]) H1.length 0) fun (v21 : (Sl × Sl × Sl × Sl × Unit)) =>
 some ((v21, ()), H20)
noncomputable def ref08_State_dropped.c : Callee := .full [.agg [.sl 3, .sl 3, .sl 1, .sl 2], .one (.int .i64)] [.agg [.sl 3, .sl 3, .sl 1, .sl 2]] (fun x H => ref08_State_dropped x.1 x.2.1 H)
noncomputable def ref08_State_dropped.calls : Nat → Option Callee
  | 0 => some ref08_State_without.c
  | _ => none
theorem ref08_State_dropped.eq : evFull ref08_State_dropped.calls ref08_State_dropped.af = (fun x H => ref08_State_dropped x.1 x.2.1 H) := by kernel_rfl

/-! ### (tinderbox/tinderboxref08.State).Do -/
def ref08_State_Do.af : AFun := ⟨[.agg [.sl 3, .sl 3, .sl 1, .sl 2], .agg [.int .i64, .int .i64, .int .i64, .int .i64, .int .i64, .int .i64]], [.agg [.sl 3, .sl 3, .sl 1, .sl 2], .one (.int .i64)], [.cell 4, .t 5],
 .seq (.reg [.op ⟨0, some 2, .box (.t 0), none⟩,
  .op ⟨1, some 3, .box (.t 1), none⟩,
  .op ⟨2, some 4, .new [.sl 3 Sl.nil, .sl 3 Sl.nil, .sl 1 Sl.nil, .sl 2 Sl.nil], none⟩,
  .op ⟨3, some 5, .mv (.c (.one (.int .i64 0))), none⟩])
 (.seq (.reg [.op ⟨0, some 16, .load (.agg [.sl 3, .sl 3, .sl 1, .sl 2]) (.t 2), none⟩,
  .op ⟨1, some 17, .addr 1 (.t 3), none⟩,
  .op ⟨2, some 18, .load (.one (.int .i64)) (.t 17), none⟩,
  .op ⟨3, some 19, .call 0 [(.t 16), (.t 18)], none⟩,
  .op ⟨4, some 6, .mv (.t 19), none⟩])
 (.seq (.reg [.op ⟨0, some 21, .load (.agg [.sl 3, .sl 3, .sl 1, .sl 2]) (.t 2), none⟩,
  .op ⟨1, some 22, .addr 1 (.t 3), none⟩,
  .op ⟨2, some 23, .load (.one (.int .i64)) (.t 22), none⟩,
  .op ⟨3, some 24, .addr 2 (.t 3), none⟩,
  .op ⟨4, some 25, .load (.one (.int .i64)) (.t 24), none⟩,
  .op ⟨5, some 26, .call 1 [(.t 21), (.t 23), (.t 25)], none⟩,
  .op ⟨6, some 20, .mv (.t 26), none⟩,
  .op ⟨7, some 27, .ext (.t 20) 0, none⟩,
  .op ⟨8, some 28, .ext (.t 20) 1, none⟩,
  .op ⟨9, some 7, .mv (.t 27), none⟩,
  .op ⟨10, some 8, .mv (.t 28), none⟩])
 (.seq (.seq (.reg [.op ⟨0, some 29, .addr 0 (.t 3), none⟩,
  .op ⟨1, some 30, .load (.one (.int .i64)) (.t 29), none⟩])
 (.block 0 (.seq (.reg [.op ⟨0, some 32, .bin .eql (.t 30) (.c (.one (.int .i64 3))), none⟩,
  .op ⟨1, some 31, .mv (.t 32), none⟩])
 (.cond (.t 31) (.seq (.seq (.reg [.op ⟨0, some 33, .load (.agg [.sl 3, .sl 3, .sl 1, .sl 2]) (.t 2), none⟩,
  .op ⟨1, some 34, .addr 3 (.t 3), none⟩,
  .op ⟨2, some 35, .load (.one (.int .i64)) (.t 34), none⟩,
  .op ⟨3, some 36, .call 2 [(.t 33), (.t 35)], none⟩,
  .op ⟨4, some 37, .bin .eql (.t 36) (.c (.one (.int .i64 0))), none⟩,
  .op ⟨5, some 38, .mv (.t 37), none⟩,
  .op ⟨6, some 39, .load (.agg [.sl 3, .sl 3, .sl 1, .sl 2]) (.t 2), some (38, false)⟩,
  .op ⟨7, some 40, .addr 4 (.t 3), some (38, false)⟩,
  .op ⟨8, some 41, .load (.one (.int .i64)) (.t 40), some (38, false)⟩,
  .op ⟨9, some 42, .call 2 [(.t 39), (.t 41)], some (38, false)⟩,
  .op ⟨10, some 43, .bin .gtr (.t 42) (.c (.one (.int .i64 0))), some (38, false)⟩,
  .op ⟨11, some 44, .pick (.t 38) (.c (.one (.bool true))) (.t 43), none⟩])
 (.cond (.t 44) (.seq (.reg [.op ⟨0, some 45, .load (.agg [.sl 3, .sl 3, .sl 1, .sl 2]) (.t 2), none⟩,
  .op ⟨1, none, .store 4 (.t 4) (.t 45), none⟩,
  .op ⟨2, some 5, .mv (.c (.one (.int .i64 82))), none⟩])
 (.ret)) (.skip)))
 (.seq (.reg [.op ⟨0, some 46, .bslice 3 0 [] [], none⟩,
  .op ⟨1, some 9, .mv (.t 46), none⟩])
 (.seq (.seq (.reg [.op ⟨0, some 10, .mv (.c (.one (.int .i64 0))), none⟩])
 (.block 1 (.loop [(9, .one (.sl 3)), (10, .one (.int .i64))] [(.exit 1, [(9, .one (.sl 3))])] (.seq (.seq (.reg [.op ⟨0, some 47, .mv (.t 10), none⟩,
  .op ⟨1, some 48, .addr 1 (.t 2), none⟩,
  .op ⟨2, some 49, .load (.one (.sl 3)) (.t 48), none⟩,
  .op ⟨3, some 50, .len (.t 49), none⟩,
  .op ⟨4, some 51, .bin .lss (.t 47) (.t 50), none⟩])
 (.cond (.t 51) (.skip) (.exit 1)))
 (.seq (.block 2 (.seq (.reg [.op ⟨0, some 54, .addr 1 (.t 2), none⟩,
  .op ⟨1, some 55, .load (.one (.sl 3)) (.t 54), none⟩,
  .op ⟨2, some 56, .mv (.t 10), none⟩,
  .op ⟨3, some 57, .idxa 3 (.t 55) (.t 56), none⟩,
  .op ⟨4, some 58, .load (.agg [.int .i64, .int .i64, .int .i64]) (.t 57), none⟩,
  .op ⟨5, some 11, .new [.int .i64 0, .int .i64 0, .int .i64 0], none⟩,
  .op ⟨6, none, .store 3 (.t 11) (.t 58), none⟩])
 (.seq (.seq (.reg [.op ⟨0, some 59, .addr 2 (.t 11), none⟩,
  .op ⟨1, some 60, .load (.one (.int .i64)) (.t 59), none⟩,
  .op ⟨2, some 61, .addr 3 (.t 3), none⟩,
  .op ⟨3, some 62, .load (.one (.int .i64)) (.t 61), none⟩,
  .op ⟨4, some 63, .bin .eql (.t 60) (.t 62), none⟩])
 (.cond (.t 63) (.reg [.op ⟨0, some 64, .addr 4 (.t 3), none⟩,
  .op ⟨1, some 65, .load (.one (.int .i64)) (.t 64), none⟩,
  .op ⟨2, some 66, .addr 2 (.t 11), none⟩,
  .op ⟨3, none, .store 1 (.t 66) (.t 65), none⟩]) (.skip)))
 (.reg [.op ⟨0, some 67, .mv (.t 9), none⟩,
  .op ⟨1, some 68, .load (.agg [.int .i64, .int .i64, .int .i64]) (.t 11), none⟩,
  .op ⟨2, some 69, .bslice 3 1 [.int .i64 0, .int .i64 0, .int .i64 0] [(0, 3, (.t 68))], none⟩,
  .op ⟨3, some 70, .app 3 24 (.t 67) (.t 69), none⟩,
  .op ⟨4, some 9, .mv (.t 70), none⟩]))))
 (.reg [.op ⟨0, some 52, .mv (.t 10), none⟩,
  .op ⟨1, some 53, .bin .add (.t 52) (.c (.one (.int .i64 1))), none⟩,
  .op ⟨2, some 10, .mv (.t 53), none⟩]))))))
 (.seq (.reg [.op ⟨0, some 71, .mv (.t 9), none⟩,
  .op ⟨1, some 72, .addr 1 (.t 2), none⟩,
  .op ⟨2, none, .store 1 (.t 72) (.t 71), none⟩])
 (.seq (.reg [.op ⟨0, some 73, .load (.agg [.sl 3, .sl 3, .sl 1, .sl 2]) (.t 2), none⟩,
  .op ⟨1, none, .store 4 (.t 4) (.t 73), none⟩,
  .op ⟨2, some 5, .mv (.c (.one (.int .i64 0))), none⟩])
 (.ret)))))) (.seq (.reg [.op ⟨0, some 75, .bin .eql (.t 30) (.c (.one (.int .i64 4))), none⟩,
  .op ⟨1, some 74, .mv (.t 75), none⟩])
 (.cond (.t 74) (.seq (.seq (.reg [.op ⟨0, some 76, .mv (.t 6), none⟩,
  .op ⟨1, some 77, .bin .geq (.t 76) (.c (.one (.int .i64 0))), none⟩])
 (.cond (.t 77) (.seq (.reg [.op ⟨0, some 78, .load (.agg [.sl 3, .sl 3, .sl 1, .sl 2]) (.t 2), none⟩,
  .op ⟨1, none, .store 4 (.t 4) (.t 78), none⟩,
  .op ⟨2, some 5, .mv (.c (.one (.int .i64 80))), none⟩])
 (.ret)) (.skip)))
 (.seq (.reg [.op ⟨0, some 79, .load (.agg [.sl 3, .sl 3, .sl 1, .sl 2]) (.t 2), none⟩,
  .op ⟨1, some 80, .addr 1 (.t 3), none⟩,
  .op ⟨2, some 81, .load (.one (.int .i64)) (.t 80), none⟩,
  .op ⟨3, some 82, .addr 5 (.t 3), none⟩,
  .op ⟨4, some 83, .load (.one (.int .i64)) (.t 82), none⟩,
  .op ⟨5, some 84, .build [.int .i64 0, .int .i64 0, .bool false] [(0, 1, (.t 81)), (1, 1, (.t 83))], none⟩,
  .op ⟨6, some 85, .call 3 [(.t 79), (.t 84)], none⟩,
  .op ⟨7, none, .store 4 (.t 4) (.t 85), none⟩,
  .op ⟨8, some 5, .mv (.c (.one (.int .i64 0))), none⟩])
 (.ret))) (.seq (.reg [.op ⟨0, some 87, .bin .eql (.t 30) (.c (.one (.int .i64 8))), none⟩,
  .op ⟨1, some 86, .mv (.t 87), none⟩])
 (.cond (.t 86) (.seq (.reg [.op ⟨0, some 88, .load (.agg [.sl 3, .sl 3, .sl 1, .sl 2]) (.t 2), none⟩,
  .op ⟨1, some 89, .addr 3 (.t 3), none⟩,
  .op ⟨2, some 90, .load (.one (.int .i64)) (.t 89), none⟩,
  .op ⟨3, some 91, .call 4 [(.t 88), (.t 90)], none⟩,
  .op ⟨4, none, .store 4 (.t 4) (.t 91), none⟩,
  .op ⟨5, some 5, .mv (.c (.one (.int .i64 0))), none⟩])
 (.ret)) (.seq (.reg [.op ⟨0, some 93, .bin .eql (.t 30) (.c (.one (.int .i64 9))), none⟩,
  .op ⟨1, some 92, .mv (.t 93), none⟩])
 (.cond (.t 92) (.seq (.reg [.op ⟨0, some 94, .load (.agg [.sl 3, .sl 3, .sl 1, .sl 2]) (.t 2), none⟩,
  .op ⟨1, some 95, .addr 3 (.t 3), none⟩,
  .op ⟨2, some 96, .load (.one (.int .i64)) (.t 95), none⟩,
  .op ⟨3, some 97, .addr 5 (.t 3), none⟩,
  .op ⟨4, some 98, .load (.one (.int .i64)) (.t 97), none⟩,
  .op ⟨5, some 99, .call 5 [(.t 94), (.t 96), (.t 98)], none⟩,
  .op ⟨6, none, .store 4 (.t 4) (.t 99), none⟩,
  .op ⟨7, some 5, .mv (.c (.one (.int .i64 0))), none⟩])
 (.ret)) (.skip)))))))))))
 (.seq (.seq (.reg [.op ⟨0, some 100, .mv (.t 6), none⟩,
  .op ⟨1, some 101, .bin .lss (.t 100) (.c (.one (.int .i64 0))), none⟩])
 (.cond (.t 101) (.seq (.reg [.op ⟨0, some 102, .load (.agg [.sl 3, .sl 3, .sl 1, .sl 2]) (.t 2), none⟩,
  .op ⟨1, none, .store 4 (.t 4) (.t 102), none⟩,
  .op ⟨2, some 5, .mv (.c (.one (.int .i64 80))), none⟩])
 (.ret)) (.skip)))
 (.seq (.reg [.op ⟨0, some 103, .addr 0 (.t 2), none⟩,
  .op ⟨1, some 104, .load (.one (.sl 3)) (.t 103), none⟩,
  .op ⟨2, some 105, .mv (.t 6), none⟩,
  .op ⟨3, some 106, .idxa 3 (.t 104) (.t 105), none⟩,
  .op ⟨4, some 107, .load (.agg [.int .i64, .int .i64, .bool]) (.t 106), none⟩,
  .op ⟨5, some 12, .new [.int .i64 0, .int .i64 0, .bool false], none⟩,
  .op ⟨6, none, .store 3 (.t 12) (.t 107), none⟩])
 (.seq (.seq (.reg [.op ⟨0, some 108, .addr 0 (.t 3), none⟩,
  .op ⟨1, some 109, .load (.one (.int .i64)) (.t 108), none⟩])
 (.block 3 (.seq (.reg [.op ⟨0, some 111, .bin .eql (.t 109) (.c (.one (.int .i64 1))), none⟩,
  .op ⟨1, some 110, .mv (.t 111), none⟩])
 (.cond (.t 110) (.seq (.seq (.reg [.op ⟨0, some 112, .addr 2 (.t 3), none⟩,
  .op ⟨1, some 113, .load (.one (.int .i64)) (.t 112), none⟩,
  .op ⟨2, some 114, .bin .lss (.t 113) (.c (.one (.int .i64 0))), none⟩,
  .op ⟨3, some 115, .mv (.t 114), none⟩,
  .op ⟨4, some 116, .addr 2 (.t 3), some (115, false)⟩,
  .op ⟨5, some 117, .load (.one (.int .i64)) (.t 116), some (115, false)⟩,
  .op ⟨6, some 118, .addr 1 (.t 12), some (115, false)⟩,
  .op ⟨7, some 119, .load (.one (.int .i64)) (.t 118), some (115, false)⟩,
  .op ⟨8, some 120, .bin .geq (.t 117) (.t 119), some (115, false)⟩,
  .op ⟨9, some 121, .pick (.t 115) (.c (.one (.bool true))) (.t 120), none⟩])
 (.cond (.t 121) (.seq (.reg [.op ⟨0, some 122, .load (.agg [.sl 3, .sl 3, .sl 1, .sl 2]) (.t 2), none⟩,
  .op ⟨1, none, .store 4 (.t 4) (.t 122), none⟩,
  .op ⟨2, some 5, .mv (.c (.one (.int .i64 81))), none⟩])
 (.ret)) (.skip)))
 (.seq (.reg [.op ⟨0, some 123, .load (.agg [.sl 3, .sl 3, .sl 1, .sl 2]) (.t 2), none⟩,
  .op ⟨1, some 124, .addr 1 (.t 3), none⟩,
  .op ⟨2, some 125, .load (.one (.int .i64)) (.t 124), none⟩,
  .op ⟨3, some 126, .addr 2 (.t 3), none⟩,
  .op ⟨4, some 127, .load (.one (.int .i64)) (.t 126), none⟩,
  .op ⟨5, some 128, .addr 3 (.t 3), none⟩,
  .op ⟨6, some 129, .load (.one (.int .i64)) (.t 128), none⟩,
  .op ⟨7, some 130, .build [.int .i64 0, .int .i64 0, .int .i64 0] [(0, 1, (.t 125)), (1, 1, (.t 127)), (2, 1, (.t 129))], none⟩,
  .op ⟨8, some 131, .call 6 [(.t 123), (.t 130)], none⟩,
  .op ⟨9, none, .store 4 (.t 4) (.t 131), none⟩,
  .op ⟨10, some 5, .mv (.c (.one (.int .i64 0))), none⟩])
 (.ret))) (.seq (.reg [.op ⟨0, some 133, .bin .eql (.t 109) (.c (.one (.int .i64 2))), none⟩,
  .op ⟨1, some 132, .mv (.t 133), none⟩])
 (.cond (.t 132) (.seq (.seq (.reg [.op ⟨0, some 134, .mv (.t 8), none⟩,
  .op ⟨1, some 135, .un .not (.t 134), none⟩])
 (.cond (.t 135) (.seq (.reg [.op ⟨0, some 136, .load (.agg [.sl 3, .sl 3, .sl 1, .sl 2]) (.t 2), none⟩,
  .op ⟨1, none, .store 4 (.t 4) (.t 136), none⟩,
  .op ⟨2, some 5, .mv (.c (.one (.int .i64 81))), none⟩])
 (.ret)) (.skip)))
 (.seq (.reg [.op ⟨0, some 137, .load (.agg [.sl 3, .sl 3, .sl 1, .sl 2]) (.t 2), none⟩,
  .op ⟨1, some 138, .addr 1 (.t 3), none⟩,
  .op ⟨2, some 139, .load (.one (.int .i64)) (.t 138), none⟩,
  .op ⟨3, some 140, .addr 2 (.t 3), none⟩,
  .op ⟨4, some 141, .load (.one (.int .i64)) (.t 140), none⟩,
  .op ⟨5, some 142, .call 7 [(.t 137), (.t 139), (.t 141)], none⟩,
  .op ⟨6, none, .store 4 (.t 4) (.t 142), none⟩,
  .op ⟨7, some 5, .mv (.c (.one (.int .i64 0))), none⟩])
 (.ret))) (.seq (.reg [.op ⟨0, some 144, .bin .eql (.t 109) (.c (.one (.int .i64 5))), none⟩,
  .op ⟨1, some 143, .mv (.t 144), none⟩])
 (.cond (.t 143) (.seq (.reg [.op ⟨0, some 145, .load (.agg [.sl 3, .sl 3, .sl 1, .sl 2]) (.t 2), none⟩,
  .op ⟨1, some 146, .addr 1 (.t 3), none⟩,
  .op ⟨2, some 147, .load (.one (.int .i64)) (.t 146), none⟩,
  .op ⟨3, some 148, .call 8 [(.t 145), (.t 147)], none⟩,
  .op ⟨4, none, .store 4 (.t 4) (.t 148), none⟩,
  .op ⟨5, some 5, .mv (.c (.one (.int .i64 0))), none⟩])
 (.ret)) (.seq (.reg [.op ⟨0, some 150, .bin .eql (.t 109) (.c (.one (.int .i64 6))), none⟩,
  .op ⟨1, some 149, .mv (.t 150), none⟩])
 (.cond (.t 149) (.seq (.seq (.reg [.op ⟨0, some 151, .load (.agg [.sl 3, .sl 3, .sl 1, .sl 2]) (.t 2), none⟩,
  .op ⟨1, some 152, .addr 4 (.t 3), none⟩,
  .op ⟨2, some 153, .load (.one (.int .i64)) (.t 152), none⟩,
  .op ⟨3, some 154, .call 0 [(.t 151), (.t 153)], none⟩,
  .op ⟨4, some 155, .bin .geq (.t 154) (.c (.one (.int .i64 0))), none⟩])
 (.cond (.t 155) (.seq (.reg [.op ⟨0, some 156, .load (.agg [.sl 3, .sl 3, .sl 1, .sl 2]) (.t 2), none⟩,
  .op ⟨1, none, .store 4 (.t 4) (.t 156), none⟩,
  .op ⟨2, some 5, .mv (.c (.one (.int .i64 80))), none⟩])
 (.ret)) (.skip)))
 (.seq (.reg [.op ⟨0, some 157, .load (.agg [.sl 3, .sl 3, .sl 1, .sl 2]) (.t 2), none⟩,
  .op ⟨1, some 158, .addr 4 (.t 3), none⟩,
  .op ⟨2, some 159, .load (.one (.int .i64)) (.t 158), none⟩,
  .op ⟨3, some 160, .addr 1 (.t 12), none⟩,
  .op ⟨4, some 161, .load (.one (.int .i64)) (.t 160), none⟩,
  .op ⟨5, some 162, .build [.int .i64 0, .int .i64 0, .bool false] [(0, 1, (.t 159)), (1, 1, (.t 161))], none⟩,
  .op ⟨6, some 163, .call 3 [(.t 157), (.t 162)], none⟩,
  .op ⟨7, some 13, .new [.sl 3 Sl.nil, .sl 3 Sl.nil, .sl 1 Sl.nil, .sl 2 Sl.nil], none⟩,
  .op ⟨8, none, .store 4 (.t 13) (.t 163), none⟩])
 (.seq (.seq (.reg [.op ⟨0, some 14, .mv (.c (.one (.int .i64 0))), none⟩])
 (.block 4 (.loop [(14, .one (.int .i64))] [(.exit 4, [])] (.seq (.seq (.reg [.op ⟨0, some 164, .mv (.t 14), none⟩,
  .op ⟨1, some 165, .addr 1 (.t 2), none⟩,
  .op ⟨2, some 166, .load (.one (.sl 3)) (.t 165), none⟩,
  .op ⟨3, some 167, .len (.t 166), none⟩,
  .op ⟨4, some 168, .bin .lss (.t 164) (.t 167), none⟩])
 (.cond (.t 168) (.skip) (.exit 4)))
 (.seq (.block 5 (.seq (.reg [.op ⟨0, some 171, .addr 1 (.t 2), none⟩,
  .op ⟨1, some 172, .load (.one (.sl 3)) (.t 171), none⟩,
  .op ⟨2, some 173, .mv (.t 14), none⟩,
  .op ⟨3, some 174, .idxa 3 (.t 172) (.t 173), none⟩,
  .op ⟨4, some 175, .load (.agg [.int .i64, .int .i64, .int .i64]) (.t 174), none⟩,
  .op ⟨5, some 15, .new [.int .i64 0, .int .i64 0, .int .i64 0], none⟩,
  .op ⟨6, none, .store 3 (.t 15) (.t 175), none⟩])
 (.seq (.reg [.op ⟨0, some 176, .addr 0 (.t 15), none⟩,
  .op ⟨1, some 177, .load (.one (.int .i64)) (.t 176), none⟩,
  .op ⟨2, some 178, .addr 1 (.t 3), none⟩,
  .op ⟨3, some 179, .load (.one (.int .i64)) (.t 178), none⟩,
  .op ⟨4, some 180, .bin .eql (.t 177) (.t 179), none⟩])
 (.cond (.t 180) (.reg [.op ⟨0, some 181, .load (.agg [.sl 3, .sl 3, .sl 1, .sl 2]) (.t 13), none⟩,
  .op ⟨1, some 182, .addr 4 (.t 3), none⟩,
  .op ⟨2, some 183, .load (.one (.int .i64)) (.t 182), none⟩,
  .op ⟨3, some 184, .addr 1 (.t 15), none⟩,
  .op ⟨4, some 185, .load (.one (.int .i64)) (.t 184), none⟩,
  .op ⟨5, some 186, .addr 2 (.t 15), none⟩,
  .op ⟨6, some 187, .load (.one (.int .i64)) (.t 186), none⟩,
  .op ⟨7, some 188, .build [.int .i64 0, .int .i64 0, .int .i64 0] [(0, 1, (.t 183)), (1, 1, (.t 185)), (2, 1, (.t 187))], none⟩,
  .op ⟨8, some 189, .call 6 [(.t 181), (.t 188)], none⟩,
  .op ⟨9, none, .store 4 (.t 13) (.t 189), none⟩]) (.skip)))))
 (.reg [.op ⟨0, some 169, .mv (.t 14), none⟩,
  .op ⟨1, some 170, .bin .add (.t 169) (.c (.one (.int .i64 1))), none⟩,
  .op ⟨2, some 14, .mv (.t 170), none⟩]))))))
 (.seq (.reg [.op ⟨0, some 190, .load (.agg [.sl 3, .sl 3, .sl 1, .sl 2]) (.t 13), none⟩,
  .op ⟨1, none, .store 4 (.t 4) (.t 190), none⟩,
  .op ⟨2, some 5, .mv (.c (.one (.int .i64 0))), none⟩])
 (.ret))))) (.skip)))))))))))
 (.seq (.reg [.op ⟨0, some 191, .load (.agg [.sl 3, .sl 3, .sl 1, .sl 2]) (.t 2), none⟩,
  .op ⟨1, some 192, .addr 0 (.t 12), none⟩,
  .op ⟨2, some 193, .load (.one (.int .i64)) (.t 192), none⟩,
  .op ⟨3, some 194, .addr 1 (.t 12), none⟩,
  .op ⟨4, some 195, .load (.one (.int .i64)) (.t 194), none⟩,
  .op ⟨5, some 196, .build [.int .i64 0, .int .i64 0, .bool false] [(0, 1, (.t 193)), (1, 1, (.t 195)), (2, 1, (.c (.one (.bool true))))], none⟩,
  .op ⟨6, some 197, .call 3 [(.t 191), (.t 196)], none⟩,
  .op ⟨7, none, .store 4 (.t 4) (.t 197), none⟩,
  .op ⟨8, some 5, .mv (.c (.one (.int .i64 0))), none⟩])
 (.ret))))))))⟩
noncomputable def ref08_State_Do.s1 (H : Heap) (H1 : Heap) (s25 : (Sl × Int × Unit)) (H26 : Heap) : Option (((Sl × Int × Unit) ⊕ (Sl × Unit)) × Heap) :=
 (rdSl 3 H26 H.length 1).bind fun (v27 : Sl) =>
 cond (decide (s25.2.1 < (v27.len : Int))) (
 (rdSl 3 H26 H.length 1).bind fun (v28 : Sl) =>
 (Sl.at 3 v28 s25.2.1).bind fun (a29 : (Nat × Nat)) =>
 Option.bind (α := (Int × Int × Int × Unit)) (rd H26 (.agg [.int .i64, .int .i64, .int .i64]) a29.1 a29.2) fun (v30 : (Int × Int × Int × Unit)) =>
 let H31 : Heap := H26 ++ [Blk.cells [.int .i64 0, .int .i64 0, .int .i64 0] .exact]
 (wr H31 H26.length 0 [.int .i64 v30.1, .int .i64 v30.2.1, .int .i64 v30.2.2.1]).bind fun (H32 : Heap) =>
 (rdI .i64 H32 H26.length 2).bind fun (v33 : Int) =>
 (rdI .i64 H32 H1.length 3).bind fun (v34 : Int) =>
 cond (decide (v33 = v34)) (
 (rdI .i64 H32 H1.length 4).bind fun (v35 : Int) =>
 (wr H32 H26.length 2 [.int .i64 v35]).bind fun (H36 : Heap) =>
 Option.bind (α := (Int × Int × Int × Unit)) (rd H36 (.agg [.int .i64, .int .i64, .int .i64]) H26.length 0) fun (v37 : (Int × Int × Int × Unit)) =>
 let H38 : Heap := H36 ++ [Blk.cells [.int .i64 v37.1, .int .i64 v37.2.1, .int .i64 v37.2.2.1] .exact]
 (slRow H38 3 (⟨some (H36.length, 0), 1, 1⟩)).bind fun (cs39 : (List C)) =>
 (appS H38 3 24 s25.1 1 cs39).bind fun (p40 : (Sl × Heap)) =>
 some (Sum.inl (p40.1, (IntKind.wrap .i64 (s25.2.1 + 1)), ()), p40.2)) (
 Option.bind (α := (Int × Int × Int × Unit)) (rd H32 (.agg [.int .i64, .int .i64, .int .i64]) H26.length 0) fun (v41 : (Int × Int × Int × Unit)) =>
 let H42 : Heap := H32 ++ [Blk.cells [.int .i64 v41.1, .int .i64 v41.2.1, .int .i64 v41.2.2.1] .exact]
 (slRow H42 3 (⟨some (H32.length, 0), 1, 1⟩)).bind fun (cs43 : (List C)) =>
 (appS H42 3 24 s25.1 1 cs43).bind fun (p44 : (Sl × Heap)) =>
 some (Sum.inl (p44.1, (IntKind.wrap .i64 (s25.2.1 + 1)), ()), p44.2))) (
 some (Sum.inr (s25.1, ()), H26))
noncomputable def ref08_State_Do.s2 (H : Heap) (H1 : Heap) (r118 : (((Sl × Sl × Sl × Sl × Unit) × Unit) × Heap)) (s121 : (Int × Unit)) (H122 : Heap) : Option (((Int × Unit) ⊕ (Unit)) × Heap) :=
 (rdSl 3 H122 H.length 1).bind fun (v123 : Sl) =>
 cond (decide (s121.1 < (v123.len : Int))) (
 (rdSl 3 H122 H.length 1).bind fun (v124 : Sl) =>
 (Sl.at 3 v124 s121.1).bind fun (a125 : (Nat × Nat)) =>
 Option.bind (α := (Int × Int × Int × Unit)) (rd H122 (.agg [.int .i64, .int .i64, .int .i64]) a125.1 a125.2) fun (v126 : (Int × Int × Int × Unit)) =>
 let H127 : Heap := H122 ++ [Blk.cells [.int .i64 0, .int .i64 0, .int .i64 0] .exact]
 (wr H127 H122.length 0 [.int .i64 v126.1, .int .i64 v126.2.1, .int .i64 v126.2.2.1]).bind fun (H128 : Heap) =>
 (rdI .i64 H128 H122.length 0).bind fun (v129 : Int) =>
 (rdI .i64 H128 H1.length 1).bind fun (v130 : Int) =>
 cond (decide (v129 = v130)) (
 Option.bind (α := (Sl × Sl × Sl × Sl × Unit)) (rd H128 (.agg [.sl 3, .sl 3, .sl 1, .sl 2]) r118.2.length 0) fun (v131 : (Sl × Sl × Sl × Sl × Unit)) =>
 (rdI .i64 H128 H1.length 4).bind fun (v132 : Int) =>
 (rdI .i64 H128 H122.length 1).bind fun (v133 : Int) =>
 (rdI .i64 H128 H122.length 2).bind fun (v134 : Int) =>
 (ref08_State_with (v131.1, v131.2.1, v131.2.2.1, v131.2.2.2.1, ()) (v132, v133, v134, ()) H128).bind fun (r135 : (((Sl × Sl × Sl × Sl × Unit) × Unit) × Heap)) =>
 (wr r135.2 r118.2.length 0 [.sl 3 r135.1.1.1, .sl 3 r135.1.1.2.1, .sl 1 r135.1.1.2.2.1, .sl 2 r135.1.1.2.2.2.1]).bind fun (H136 : Heap) =>
 some (Sum.inl ((IntKind.wrap .i64 (s121.1 + 1)), ()), H136)) (
 some (Sum.inl ((IntKind.wrap .i64 (s121.1 + 1)), ()), H128))) (
 some (Sum.inr (()), H122))
noncomputable def ref08_State_Do (x0 : (Sl × Sl × Sl × Sl × Unit)) (x1 : (Int × Int × Int × Int × Int × Int × Unit)) (H : Heap) : Option (((Sl × Sl × Sl × Sl × Unit) × Int × Unit) × Heap) :=
 let H1 : Heap := H ++ [Blk.cells [.sl 3 x0.1, .sl 3 x0.2.1, .sl 1 x0.2.2.1, .sl 2 x0.2.2.2.1] .exact]
 let H2 : Heap := H1 ++ [Blk.cells [.int .i64 x1.1, .int .i64 x1.2.1, .int .i64 x1.2.2.1, .int .i64 x1.2.2.2.1, .int .i64 x1.2.2.2.2.1, .int .i64 x1.2.2.2.2.2.1] .exact]
 let H3 : Heap := H2 ++ [Blk.cells [.sl 3 Sl.nil, .sl 3 Sl.nil, .sl 1 Sl.nil, .sl 2 Sl.nil] .exact]
 Option.bind (α := (Sl × Sl × Sl × Sl × Unit)) (rd H3 (.agg [.sl 3, .sl 3, .sl 1, .sl 2]) H.length 0) fun (v4 : (Sl × Sl × Sl × Sl × Unit)) =>
 (rdI .i64 H3 H1.length 1).bind fun (v5 : Int) =>
 (ref08_State_find (v4.1, v4.2.1, v4.2.2.1, v4.2.2.2.1, ()) v5 H3).bind fun (r6 : ((Int × Unit) × Heap)) =>
 Option.bind (α := (Sl × Sl × Sl × Sl × Unit)) (rd r6.2 (.agg [.sl 3, .sl 3, .sl 1, .sl 2]) H.length 0) fun (v7 : (Sl × Sl × Sl × Sl × Unit)) =>
 (rdI .i64 r6.2 H1.length 1).bind fun (v8 : Int) =>
 (rdI .i64 r6.2 H1.length 2).bind fun (v9 : Int) =>
 (ref08_State_Get (v7.1, v7.2.1, v7.2.2.1, v7.2.2.2.1, ()) v8 v9 r6.2).bind fun (r10 : ((Int × Bool × Unit) × Heap)) =>
 (rdI .i64 r10.2 H1.length 0).bind fun (v11 : Int) =>
 cond (decide (v11 = 3)) (
 Option.bind (α := (Sl × Sl × Sl × Sl × Unit)) (rd r10.2 (.agg [.sl 3, .sl 3, .sl 1, .sl 2]) H.length 0) fun (v12 : (Sl × Sl × Sl × Sl × Unit)) =>
 (rdI .i64 r10.2 H1.length 3).bind fun (v13 : Int) =>
 (ref08_State_Refs (v12.1, v12.2.1, v12.2.2.1, v12.2.2.2.1, ()) v13 r10.2).bind fun (r14 : ((Int × Unit) × Heap)) =>
 cond (decide (r14.1.1 = 0)) (
 Option.bind (α := (Sl × Sl × Sl × Sl × Unit)) (rd r14.2 (.agg [.sl 3, .sl 3, .sl 1, .sl 2]) H.length 0) fun (v15 : (Sl × Sl × Sl × Sl × Unit)) =>
 (wr r14.2 H2.length 0 [.sl 3 v15.1, .sl 3 v15.2.1, .sl 1 v15.2.2.1, .sl 2 v15.2.2.2.1]).bind fun (H16 : Heap) =>
 Option.bind (α := (Sl × Sl × Sl × Sl × Unit)) (rd H16 (.agg [.sl 3, .sl 3, .sl 1, .sl 2]) H2.length 0) fun (v17 : (Sl × Sl × Sl × Sl × Unit)) =>
 some ((v17, 82, ()), H16)) (
 Option.bind (α := (Sl × Sl × Sl × Sl × Unit)) (rd r14.2 (.agg [.sl 3, .sl 3, .sl 1, .sl 2]) H.length 0) fun (v18 : (Sl × Sl × Sl × Sl × Unit)) =>
 (rdI .i64 r14.2 H1.length 4).bind fun (v19 : Int) =>
 (ref08_State_Refs (v18.1, v18.2.1, v18.2.2.1, v18.2.2.2.1, ()) v19 r14.2).bind fun (r20 : ((Int × Unit) × Heap)) =>
 cond (decide (0 < r20.1.1)) (
 Option.bind (α := (Sl × Sl × Sl × Sl × Unit)) (rd r20.2 (.agg [.sl 3, .sl 3, .sl 1, .sl 2]) H.length 0) fun (v21 : (Sl × Sl × Sl × Sl × Unit)) =>
 (wr r20.2 H2.length 0 [.sl 3 v21.1, .sl 3 v21.2.1, .sl 1 v21.2.2.1, .sl 2 v21.2.2.2.1]).bind fun (H22 : Heap) =>
 Option.bind (α := (Sl × Sl × Sl × Sl × Unit)) (rd H22 (.agg [.sl 3, .sl 3, .sl 1, .sl 2]) H2.length 0) fun (v23 : (Sl × Sl × Sl × Sl × Unit)) =>
 some ((v23, 82, ()), H22)) (
 let H24 : Heap := r20.2 ++ [Blk.cells [] .exact]
 (loopW (ref08_State_Do.s1 H H1) (⟨some (r20.2.length, 0), 0, 0⟩, 0, ()) H24).bind fun (p45 : (Sl × Unit) × Heap) =>
 (wr p45.2 H.length 1 [.sl 3 p45.1.1]).bind fun (H46 : Heap) =>
 Option.bind (α := (Sl × Sl × Sl × Sl × Unit)) (rd H46 (.agg [.sl 3, .sl 3, .sl 1, .sl 2]) H.length 0) fun (v47 : (Sl × Sl × Sl × Sl × Unit)) =>
 (wr H46 H2.length 0 [.sl 3 v47.1, .sl 3 v47.2.1, .sl 1 v47.2.2.1, .sl 2 v47.2.2.2.1]).bind fun (H48 : Heap) =>
 Option.bind (α := (Sl × Sl × Sl × Sl × Unit)) (rd H48 (.agg [.sl 3, .sl 3, .sl 1, .sl 2]) H2.length 0) fun (v49 : (Sl × Sl × Sl × Sl × Unit)) =>
 some ((v49, 0, ()), H48)))) (
 cond (decide (v11 = 4)) (
 cond (decide (0 ≤ r6.1.1)) (
 Option.bind (α := (Sl × Sl × Sl × Sl × Unit)) (rd r10.2 (.agg [.sl 3, .sl 3, .sl 1, .sl 2]) H.length 0) fun (v50 : (Sl × Sl × Sl × Sl × Unit)) =>
 (wr r10.2 H2.length 0 [.sl 3 v50.1, .sl 3 v50.2.1, .sl 1 v50.2.2.1, .sl 2 v50.2.2.2.1]).bind fun (H51 : Heap) =>
 Option.bind (α := (Sl × Sl × Sl × Sl × Unit)) (rd H51 (.agg [.sl 3, .sl 3, .sl 1, .sl 2]) H2.length 0) fun (v52 : (Sl × Sl × Sl × Sl × Unit)) =>
 some ((v52, 80, ()), H51)) (
 Option.bind (α := (Sl × Sl × Sl × Sl × Unit)) (rd r10.2 (.agg [.sl 3, .sl 3, .sl 1, .sl 2]) H.length 0) fun (v53 : (Sl × Sl × Sl × Sl × Unit)) =>
 (rdI .i64 r10.2 H1.length 1).bind fun (v54 : Int) =>
 (rdI .i64 r10.2 H1.length 5).bind fun (v55 : Int) =>
 (ref08_State_made (v53.1, v53.2.1, v53.2.2.1, v53.2.2.2.1, ()) (v54, v55, false, ()) r10.2).bind fun (r56 : (((Sl × Sl × Sl × Sl × Unit) × Unit) × Heap)) =>
 (wr r56.2 H2.length 0 [.sl 3 r56.1.1.1, .sl 3 r56.1.1.2.1, .sl 1 r56.1.1.2.2.1, .sl 2 r56.1.1.2.2.2.1]).bind fun (H57 : Heap) =>
 Option.bind (α := (Sl × Sl × Sl × Sl × Unit)) (rd H57 (.agg [.sl 3, .sl 3, .sl 1, .sl 2]) H2.length 0) fun (v58 : (Sl × Sl × Sl × Sl × Unit)) =>
 some ((v58, 0, ()), H57))) (
 cond (decide (v11 = 8)) (
 Option.bind (α := (Sl × Sl × Sl × Sl × Unit)) (rd r10.2 (.agg [.sl 3, .sl 3, .sl 1, .sl 2]) H.length 0) fun (v59 : (Sl × Sl × Sl × Sl × Unit)) =>
 (rdI .i64 r10.2 H1.length 3).bind fun (v60 : Int) =>
 (ref08_State_bad (v59.1, v59.2.1, v59.2.2.1, v59.2.2.2.1, ()) v60 r10.2).bind fun (r61 : (((Sl × Sl × Sl × Sl × Unit) × Unit) × Heap)) =>
 (wr r61.2 H2.length 0 [.sl 3 r61.1.1.1, .sl 3 r61.1.1.2.1, .sl 1 r61.1.1.2.2.1, .sl 2 r61.1.1.2.2.2.1]).bind fun (H62 : Heap) =>
 Option.bind (α := (Sl × Sl × Sl × Sl × Unit)) (rd H62 (.agg [.sl 3, .sl 3, .sl 1, .sl 2]) H2.length 0) fun (v63 : (Sl × Sl × Sl × Sl × Unit)) =>
 some ((v63, 0, ()), H62)) (
 cond (decide (v11 = 9)) (
 Option.bind (α := (Sl × Sl × Sl × Sl × Unit)) (rd r10.2 (.agg [.sl 3, .sl 3, .sl 1, .sl 2]) H.length 0) fun (v64 : (Sl × Sl × Sl × Sl × Unit)) =>
 (rdI .i64 r10.2 H1.length 3).bind fun (v65 : Int) =>
 (rdI .i64 r10.2 H1.length 5).bind fun (v66 : Int) =>
 (ref08_State_worn (v64.1, v64.2.1, v64.2.2.1, v64.2.2.2.1, ()) v65 v66 r10.2).bind fun (r67 : (((Sl × Sl × Sl × Sl × Unit) × Unit) × Heap)) =>
 (wr r67.2 H2.length 0 [.sl 3 r67.1.1.1, .sl 3 r67.1.1.2.1, .sl 1 r67.1.1.2.2.1, .sl 2 r67.1.1.2.2.2.1]).bind fun (H68 : Heap) =>
 Option.bind (α := (Sl × Sl × Sl × Sl × Unit)) (rd H68 (.agg [.sl 3, .sl 3, .sl 1, .sl 2]) H2.length 0) fun (v69 : (Sl × Sl × Sl × Sl × Unit)) =>
 some ((v69, 0, ()), H68)) (
 cond (decide (r6.1.1 < 0)) (
 Option.bind (α := (Sl × Sl × Sl × Sl × Unit)) (rd r10.2 (.agg [.sl 3, .sl 3, .sl 1, .sl 2]) H.length 0) fun (v70 : (Sl × Sl × Sl × Sl × Unit)) =>
 (wr r10.2 H2.length 0 [.sl 3 v70.1, .sl 3 v70.2.1, .sl 1 v70.2.2.1, .sl 2 v70.2.2.2.1]).bind fun (H71 : Heap) =>
 Option.bind (α := (Sl × Sl × Sl × Sl × Unit)) (rd H71 (.agg [.sl 3, .sl 3, .sl 1, .sl 2]) H2.length 0) fun (v72 : (Sl × Sl × Sl × Sl × Unit)) =>
 some ((v72, 80, ()), H71)) (
 (rdSl 3 r10.2 H.length 0).bind fun (v73 : Sl) =>
 (Sl.at 3 v73 r6.1.1).bind fun (a74 : (Nat × Nat)) =>
 Option.bind (α := (Int × Int × Bool × Unit)) (rd r10.2 (.agg [.int .i64, .int .i64, .bool]) a74.1 a74.2) fun (v75 : (Int × Int × Bool × Unit)) =>
 let H76 : Heap := r10.2 ++ [Blk.cells [.int .i64 0, .int .i64 0, .bool false] .exact]
 (wr H76 r10.2.length 0 [.int .i64 v75.1, .int .i64 v75.2.1, .bool v75.2.2.1]).bind fun (H77 : Heap) =>
 (rdI .i64 H77 H1.length 0).bind fun (v78 : Int) =>
 cond (decide (v78 = 1)) (
 (rdI .i64 H77 H1.length 2).bind fun (v79 : Int) =>
 cond (decide (v79 < 0)) (
 Option.bind (α := (Sl × Sl × Sl × Sl × Unit)) (rd H77 (.agg [.sl 3, .sl 3, .sl 1, .sl 2]) H.length 0) fun (v80 : (Sl × Sl × Sl × Sl × Unit)) =>
 (wr H77 H2.length 0 [.sl 3 v80.1, .sl 3 v80.2.1, .sl 1 v80.2.2.1, .sl 2 v80.2.2.2.1]).bind fun (H81 : Heap) =>
 Option.bind (α := (Sl × Sl × Sl × Sl × Unit)) (rd H81 (.agg [.sl 3, .sl 3, .sl 1, .sl 2]) H2.length 0) fun (v82 : (Sl × Sl × Sl × Sl × Unit)) =>
 some ((v82, 81, ()), H81)) (
 (rdI .i64 H77 H1.length 2).bind fun (v83 : Int) =>
 (rdI .i64 H77 r10.2.length 1).bind fun (v84 : Int) =>
 cond (decide (v84 ≤ v83)) (
 Option.bind (α := (Sl × Sl × Sl × Sl × Unit)) (rd H77 (.agg [.sl 3, .sl 3, .sl 1, .sl 2]) H.length 0) fun (v85 : (Sl × Sl × Sl × Sl × Unit)) =>
 (wr H77 H2.length 0 [.sl 3 v85.1, .sl 3 v85.2.1, .sl 1 v85.2.2.1, .sl 2 v85.2.2.2.1]).bind fun (H86 : Heap) =>
 Option.bind (α := (Sl × Sl × Sl × Sl × Unit)) (rd H86 (.agg [.sl 3, .sl 3, .sl 1, .sl 2]) H2.length 0) fun (v87 : (Sl × Sl × Sl × Sl × Unit)) =>
 some ((v87, 81, ()), H86)) (
 Option.bind (α := (Sl × Sl × Sl × Sl × Unit)) (rd H77 (.agg [.sl 3, .sl 3, .sl 1, .sl 2]) H.length 0) fun (v88 : (Sl × Sl × Sl × Sl × Unit)) =>
 (rdI .i64 H77 H1.length 1).bind fun (v89 : Int) =>
 (rdI .i64 H77 H1.length 2).bind fun (v90 : Int) =>
 (rdI .i64 H77 H1.length 3).bind fun (v91 : Int) =>
 (ref08_State_with (v88.1, v88.2.1, v88.2.2.1, v88.2.2.2.1, ()) (v89, v90, v91, ()) H77).bind fun (r92 : (((Sl × Sl × Sl × Sl × Unit) × Unit) × Heap)) =>
 (wr r92.2 H2.length 0 [.sl 3 r92.1.1.1, .sl 3 r92.1.1.2.1, .sl 1 r92.1.1.2.2.1, .sl 2 r92.1.1.2.2.2.1]).bind fun (H93 : Heap) =>
 Option.bind (α := (Sl × Sl × Sl × Sl × Unit)) (rd H93 (.agg [.sl 3, .sl 3, .sl 1, .sl 2]) H2.length 0) fun (v94 : (Sl × Sl × Sl × Sl × Unit)) =>
 some ((v94, 0, ()), H93)))) (
 cond (decide (v78 = 2)) (
 cond (!r10.1.2.1) (
 Option.bind (α := (Sl × Sl × Sl × Sl × Unit)) (rd H77 (.agg [.sl 3, .sl 3, .sl 1, .sl 2]) H.length 0) fun (v95 : (Sl × Sl × Sl × Sl × Unit)) =>
 (wr H77 H2.length 0 [.sl 3 v95.1, .sl 3 v95.2.1, .sl 1 v95.2.2.1, .sl 2 v95.2.2.2.1]).bind fun (H96 : Heap) =>
 Option.bind (α := (Sl × Sl × Sl × Sl × Unit)) (rd H96 (.agg [.sl 3, .sl 3, .sl 1, .sl 2]) H2.length 0) fun (v97 : (Sl × Sl × Sl × Sl × Unit)) =>
 some ((v97, 81, ()), H96)) (
 Option.bind (α := (Sl × Sl × Sl × Sl × Unit)) (rd H77 (.agg [.sl 3, .sl 3, .sl 1, .sl 2]) H.length 0) fun (v98 : (Sl × Sl × Sl × Sl × Unit)) =>
 (rdI .i64 H77 H1.length 1).bind fun (v99 : Int) =>
 (rdI .i64 H77 H1.length 2).bind fun (v100 : Int) =>
 (ref08_State_without (v98.1, v98.2.1, v98.2.2.1, v98.2.2.2.1, ()) v99 v100 H77).bind fun (r101 : (((Sl × Sl × Sl × Sl × Unit) × Unit) × Heap)) =>
 (wr r101.2 H2.length 0 [.sl 3 r101.1.1.1, .sl 3 r101.1.1.2.1, .sl 1 r101.1.1.2.2.1, .sl 2 r101.1.1.2.2.2.1]).bind fun (H102 : Heap) =>
 Option.bind (α := (Sl × Sl × Sl × Sl × Unit)) (rd H102 (.agg [.sl 3, .sl 3, .sl 1, .sl 2]) H2.length 0) fun (v103 : (Sl × Sl × Sl × Sl × Unit)) =>
 some ((v103, 0, ()), H102))) (
 cond (decide (v78 = 5)) (
 Option.bind (α := (Sl × Sl × Sl × Sl × Unit)) (rd H77 (.agg [.sl 3, .sl 3, .sl 1, .sl 2]) H.length 0) fun (v104 : (Sl × Sl × Sl × Sl × Unit)) =>
 (rdI .i64 H77 H1.length 1).bind fun (v105 : Int) =>
 (ref08_State_dropped (v104.1, v104.2.1, v104.2.2.1, v104.2.2.2.1, ()) v105 H77).bind fun (r106 : (((Sl × Sl × Sl × Sl × Unit) × Unit) × Heap)) =>
 (wr r106.2 H2.length 0 [.sl 3 r106.1.1.1, .sl 3 r106.1.1.2.1, .sl 1 r106.1.1.2.2.1, .sl 2 r106.1.1.2.2.2.1]).bind fun (H107 : Heap) =>
 Option.bind (α := (Sl × Sl × Sl × Sl × Unit)) (rd H107 (.agg [.sl 3, .sl 3, .sl 1, .sl 2]) H2.length 0) fun (v108 : (Sl × Sl × Sl × Sl × Unit)) =>
 some ((v108, 0, ()), H107)) (
 cond (decide (v78 = 6)) (
 Option.bind (α := (Sl × Sl × Sl × Sl × Unit)) (rd H77 (.agg [.sl 3, .sl 3, .sl 1, .sl 2]) H.length 0) fun (v109 : (Sl × Sl × Sl × Sl × Unit)) =>
 (rdI .i64 H77 H1.length 4).bind fun (v110 : Int) =>
 (ref08_State_find (v109.1, v109.2.1, v109.2.2.1, v109.2.2.2.1, ()) v110 H77).bind fun (r111 : ((Int × Unit) × Heap)) =>
 cond (decide (0 ≤ r111.1.1)) (
 Option.bind (α := (Sl × Sl × Sl × Sl × Unit)) (rd r111.2 (.agg [.sl 3, .sl 3, .sl 1, .sl 2]) H.length 0) fun (v112 : (Sl × Sl × Sl × Sl × Unit)) =>
 (wr r111.2 H2.length 0 [.sl 3 v112.1, .sl 3 v112.2.1, .sl 1 v112.2.2.1, .sl 2 v112.2.2.2.1]).bind fun (H113 : Heap) =>
 Option.bind (α := (Sl × Sl × Sl × Sl × Unit)) (rd H113 (.agg [.sl 3, .sl 3, .sl 1, .sl 2]) H2.length 0) fun (v114 : (Sl × Sl × Sl × Sl × Unit)) =>
 some ((v114, 80, ()), H113)) (
 Option.bind (α := (Sl × Sl × Sl × Sl × Unit)) (rd r111.2 (.agg [.sl 3, .sl 3, .sl 1, .sl 2]) H.length 0) fun (v115 : (Sl × Sl × Sl × Sl × Unit)) =>
 (rdI .i64 r111.2 H1.length 4).bind fun (v116 : Int) =>
 (rdI .i64 r111.2 r10.2.length 1).bind fun (v117 : Int) =>
 (ref08_State_made (v115.1, v115.2.1, v115.2.2.1, v115.2.2.2.1, ()) (v116, v117, false, ()) r111.2).bind fun (r118 : (((Sl × Sl × Sl × Sl × Unit) × Unit) × Heap)) =>
 let H119 : Heap := r118.2 ++ [Blk.cells [.sl 3 Sl.nil, .sl 3 Sl.nil, .sl 1 Sl.nil, .sl 2 Sl.nil] .exact]
 (wr H119 r118.2.length 0 [.sl 3 r118.1.1.1, .sl 3 r118.1.1.2.1, .sl 1 r118.1.1.2.2.1, .sl 2 r118.1.1.2.2.2.1]).bind fun (H120 : Heap) =>
 (loopW (ref08_State_Do.s2 H H1 r118) (0, ()) H120).bind fun (p137 : (Unit) × Heap) =>
 Option.bind (α := (Sl × Sl × Sl × Sl × Unit)) (rd p137.2 (.agg [.sl 3, .sl 3, .sl 1, .sl 2]) r118.2.length 0) fun (v138 : (Sl × Sl × Sl × Sl × Unit)) =>
 (wr p137.2 H2.length 0 [.sl 3 v138.1, .sl 3 v138.2.1, .sl 1 v138.2.2.1, .sl 2 v138.2.2.2.1]).bind fun (H139 : Heap) =>
 Option.bind (α := (Sl × Sl × Sl × Sl × Unit)) (rd H139 (.agg [.sl 3, .sl 3, .sl 1, .sl 2]) H2.length 0) fun (v140 : (Sl × Sl × Sl × Sl × Unit)) =>
 some ((v140, 0, ()), H139))) (
 Option.bind (α := (Sl × Sl × Sl × Sl × Unit)) (rd H77 (.agg [.sl 3, .sl 3, .sl 1, .sl 2]) H.length 0) fun (v141 : (Sl × Sl × Sl × Sl × Unit)) =>
 (rdI .i64 H77 r10.2.length 0).bind fun (v142 : Int) =>
 (rdI .i64 H77 r10.2.length 1).bind fun (v143 : Int) =>
 (ref08_State_made (v141.1, v141.2.1, v141.2.2.1, v141.2.2.2.1, ()) (v142, v143, true, ()) H77).bind fun (r144 : (((Sl × Sl × Sl × Sl × Unit) × Unit) × Heap)) =>
 (wr r144.2 H2.length 0 [.sl 3 r144.1.1.1, .sl 3 r144.1.1.2.1, .sl 1 r144.1.1.2.2.1, .sl 2 r144.1.1.2.2.2.1]).bind fun (H145 : Heap) =>
 Option.bind (α := (Sl × Sl × Sl × Sl × Unit)) (rd H145 (.agg [.sl 3, .sl 3, .sl 1, .sl 2]) H2.length 0) fun (v146 : (Sl × Sl × Sl × Sl × Unit)) =>
 some ((v146, 0, ()), H145))))))))))
noncomputable def ref08_State_Do.c : Callee := .full [.agg [.sl 3, .sl 3, .sl 1, .sl 2], .agg [.int .i64, .int .i64, .int .i64, .int .i64, .int .i64, .int .i64]] [.agg [.sl 3, .sl 3, .sl 1, .sl 2], .one (.int .i64)] (fun x H => ref08_State_Do x.1 x.2.1 H)
noncomputable def ref08_State_Do.calls : Nat → Option Callee
  | 0 => some ref08_State_find.c
  | 1 => some ref08_State_Get.c
  | 2 => some ref08_State_Refs.c
  | 3 => some ref08_State_made.c
  | 4 => some ref08_State_bad.c
  | 5 => some ref08_State_worn.c
  | 6 => some ref08_State_with.c
  | 7 => some ref08_State_without.c
  | 8 => some ref08_State_dropped.c
  | _ => none
theorem ref08_State_Do.eq : evFull ref08_State_Do.calls ref08_State_Do.af = (fun x H => ref08_State_Do x.1 x.2.1 H) := by kernel_rfl

/-! ### (tinderbox/tinderboxref08.State).Apply -/
def ref08_State_Apply.af : AFun := ⟨[.agg [.sl 3, .sl 3, .sl 1, .sl 2], .agg [.int .i64, .int .i64, .int .i64, .int .i64, .int .i64, .int .i64]], [.agg [.sl 3, .sl 3, .sl 1, .sl 2], .one (.int .i64)], [.cell 4, .t 5],
 .seq (.reg [.op ⟨0, some 2, .box (.t 0), none⟩,
  .op ⟨1, some 3, .box (.t 1), none⟩,
  .op ⟨2, some 4, .new [.sl 3 Sl.nil, .sl 3 Sl.nil, .sl 1 Sl.nil, .sl 2 Sl.nil], none⟩,
  .op ⟨3, some 5, .mv (.c (.one (.int .i64 0))), none⟩])
 (.seq (.seq (.reg [.op ⟨0, some 6, .load (.agg [.int .i64, .int .i64, .int .i64, .int .i64, .int .i64, .int .i64]) (.t 3), none⟩,
  .op ⟨1, some 7, .call 0 [(.t 6)], none⟩,
  .op ⟨2, some 8, .un .not (.t 7), none⟩])
 (.cond (.t 8) (.seq (.reg [.op ⟨0, some 9, .load (.agg [.sl 3, .sl 3, .sl 1, .sl 2]) (.t 2), none⟩,
  .op ⟨1, none, .store 4 (.t 4) (.t 9), none⟩,
  .op ⟨2, some 5, .mv (.c (.one (.int .i64 1))), none⟩])
 (.ret)) (.skip)))
 (.seq (.reg [.op ⟨0, some 10, .load (.agg [.sl 3, .sl 3, .sl 1, .sl 2]) (.t 2), none⟩,
  .op ⟨1, some 11, .load (.agg [.int .i64, .int .i64, .int .i64, .int .i64, .int .i64, .int .i64]) (.t 3), none⟩,
  .op ⟨2, some 12, .call 1 [(.t 10), (.t 11)], none⟩,
  .op ⟨3, some 13, .ext (.t 12) 0, none⟩,
  .op ⟨4, some 14, .ext (.t 12) 1, none⟩,
  .op ⟨5, none, .store 4 (.t 4) (.t 13), none⟩,
  .op ⟨6, some 5, .mv (.t 14), none⟩])
 (.ret)))⟩
noncomputable def ref08_State_Apply (x0 : (Sl × Sl × Sl × Sl × Unit)) (x1 : (Int × Int × Int × Int × Int × Int × Unit)) (H : Heap) : Option (((Sl × Sl × Sl × Sl × Unit) × Int × Unit) × Heap) :=
 let H1 : Heap := H ++ [Blk.cells [.sl 3 x0.1, .sl 3 x0.2.1, .sl 1 x0.2.2.1, .sl 2 x0.2.2.2.1] .exact]
 let H2 : Heap := H1 ++ [Blk.cells [.int .i64 x1.1, .int .i64 x1.2.1, .int .i64 x1.2.2.1, .int .i64 x1.2.2.2.1, .int .i64 x1.2.2.2.2.1, .int .i64 x1.2.2.2.2.2.1] .exact]
 let H3 : Heap := H2 ++ [Blk.cells [.sl 3 Sl.nil, .sl 3 Sl.nil, .sl 1 Sl.nil, .sl 2 Sl.nil] .exact]
 Option.bind (α := (Int × Int × Int × Int × Int × Int × Unit)) (rd H3 (.agg [.int .i64, .int .i64, .int .i64, .int .i64, .int .i64, .int .i64]) H1.length 0) fun (v4 : (Int × Int × Int × Int × Int × Int × Unit)) =>
 (ref07_Check (v4.1, v4.2.1, v4.2.2.1, v4.2.2.2.1, v4.2.2.2.2.1, v4.2.2.2.2.2.1, ())).bind fun (r5 : (Bool × Unit)) =>
 cond (!r5.1) (
 Option.bind (α := (Sl × Sl × Sl × Sl × Unit)) (rd H3 (.agg [.sl 3, .sl 3, .sl 1, .sl 2]) H.length 0) fun (v6 : (Sl × Sl × Sl × Sl × Unit)) =>
 (wr H3 H2.length 0 [.sl 3 v6.1, .sl 3 v6.2.1, .sl 1 v6.2.2.1, .sl 2 v6.2.2.2.1]).bind fun (H7 : Heap) =>
 Option.bind (α := (Sl × Sl × Sl × Sl × Unit)) (rd H7 (.agg [.sl 3, .sl 3, .sl 1, .sl 2]) H2.length 0) fun (v8 : (Sl × Sl × Sl × Sl × Unit)) =>
 some ((v8, 1, ()), H7)) (
 Option.bind (α := (Sl × Sl × Sl × Sl × Unit)) (rd H3 (.agg [.sl 3, .sl 3, .sl 1, .sl 2]) H.length 0) fun (v9 : (Sl × Sl × Sl × Sl × Unit)) =>
 Option.bind (α := (Int × Int × Int × Int × Int × Int × Unit)) (rd H3 (.agg [.int .i64, .int .i64, .int .i64, .int .i64, .int .i64, .int .i64]) H1.length 0) fun (v10 : (Int × Int × Int × Int × Int × Int × Unit)) =>
 (ref08_State_Do (v9.1, v9.2.1, v9.2.2.1, v9.2.2.2.1, ()) (v10.1, v10.2.1, v10.2.2.1, v10.2.2.2.1, v10.2.2.2.2.1, v10.2.2.2.2.2.1, ()) H3).bind fun (r11 : (((Sl × Sl × Sl × Sl × Unit) × Int × Unit) × Heap)) =>
 (wr r11.2 H2.length 0 [.sl 3 r11.1.1.1, .sl 3 r11.1.1.2.1, .sl 1 r11.1.1.2.2.1, .sl 2 r11.1.1.2.2.2.1]).bind fun (H12 : Heap) =>
 Option.bind (α := (Sl × Sl × Sl × Sl × Unit)) (rd H12 (.agg [.sl 3, .sl 3, .sl 1, .sl 2]) H2.length 0) fun (v13 : (Sl × Sl × Sl × Sl × Unit)) =>
 some ((v13, r11.1.2.1, ()), H12))
noncomputable def ref08_State_Apply.c : Callee := .full [.agg [.sl 3, .sl 3, .sl 1, .sl 2], .agg [.int .i64, .int .i64, .int .i64, .int .i64, .int .i64, .int .i64]] [.agg [.sl 3, .sl 3, .sl 1, .sl 2], .one (.int .i64)] (fun x H => ref08_State_Apply x.1 x.2.1 H)
noncomputable def ref08_State_Apply.calls : Nat → Option Callee
  | 0 => some ref07_Check.c
  | 1 => some ref08_State_Do.c
  | _ => none
theorem ref08_State_Apply.eq : evFull ref08_State_Apply.calls ref08_State_Apply.af = (fun x H => ref08_State_Apply x.1 x.2.1 H) := by kernel_rfl

/-! ### (tinderbox/tinderboxref08.State).Live -/
def ref08_State_Live.af : AFun := ⟨[.agg [.sl 3, .sl 3, .sl 1, .sl 2]], [.one (.int .i64)], [.t 2],
 .seq (.reg [.op ⟨0, some 1, .box (.t 0), none⟩,
  .op ⟨1, some 2, .mv (.c (.one (.int .i64 0))), none⟩])
 (.seq (.reg [.op ⟨0, some 3, .mv (.c (.one (.int .i64 0))), none⟩])
 (.seq (.seq (.reg [.op ⟨0, some 4, .mv (.c (.one (.int .i64 0))), none⟩])
 (.block 0 (.loop [(3, .one (.int .i64)), (4, .one (.int .i64))] [(.exit 0, [(3, .one (.int .i64))])] (.seq (.seq (.reg [.op ⟨0, some 7, .mv (.t 4), none⟩,
  .op ⟨1, some 8, .addr 1 (.t 1), none⟩,
  .op ⟨2, some 9, .load (.one (.sl 3)) (.t 8), none⟩,
  .op ⟨3, some 10, .len (.t 9), none⟩,
  .op ⟨4, some 11, .bin .lss (.t 7) (.t 10), none⟩])
 (.cond (.t 11) (.skip) (.exit 0)))
 (.seq (.block 1 (.seq (.reg [.op ⟨0, some 5, .mv (.c (.one (.bool true))), none⟩])
 (.seq (.seq (.reg [.op ⟨0, some 6, .mv (.c (.one (.int .i64 0))), none⟩])
 (.block 2 (.loop [(5, .one .bool), (6, .one (.int .i64))] [(.exit 2, [(5, .one .bool)])] (.seq (.seq (.reg [.op ⟨0, some 14, .mv (.t 6), none⟩,
  .op ⟨1, some 15, .mv (.t 4), none⟩,
  .op ⟨2, some 16, .bin .lss (.t 14) (.t 15), none⟩])
 (.cond (.t 16) (.skip) (.exit 2)))
 (.seq (.block 3 (.reg [.op ⟨0, some 19, .mv (.t 5), none⟩,
  .op ⟨1, some 20, .mv (.t 19), none⟩,
  .op ⟨2, some 21, .addr 1 (.t 1), some (20, true)⟩,
  .op ⟨3, some 22, .load (.one (.sl 3)) (.t 21), some (20, true)⟩,
  .op ⟨4, some 23, .mv (.t 6), some (20, true)⟩,
  .op ⟨5, some 24, .idxa 3 (.t 22) (.t 23), some (20, true)⟩,
  .op ⟨6, some 25, .addr 2 (.t 24), some (20, true)⟩,
  .op ⟨7, some 26, .load (.one (.int .i64)) (.t 25), some (20, true)⟩,
  .op ⟨8, some 27, .addr 1 (.t 1), some (20, true)⟩,
  .op ⟨9, some 28, .load (.one (.sl 3)) (.t 27), some (20, true)⟩,
  .op ⟨10, some 29, .mv (.t 4), some (20, true)⟩,
  .op ⟨11, some 30, .idxa 3 (.t 28) (.t 29), some (20, true)⟩,
  .op ⟨12, some 31, .addr 2 (.t 30), some (20, true)⟩,
  .op ⟨13, some 32, .load (.one (.int .i64)) (.t 31), some (20, true)⟩,
  .op ⟨14, some 33, .bin .neq (.t 26) (.t 32), some (20, true)⟩,
  .op ⟨15, some 34, .pick (.t 20) (.t 33) (.c (.one (.bool false))), none⟩,
  .op ⟨16, some 5, .mv (.t 34), none⟩]))
 (.reg [.op ⟨0, some 17, .mv (.t 6), none⟩,
  .op ⟨1, some 18, .bin .add (.t 17) (.c (.one (.int .i64 1))), none⟩,
  .op ⟨2, some 6, .mv (.t 18), none⟩]))))))
 (.seq (.reg [.op ⟨0, some 35, .mv (.t 5), none⟩])
 (.cond (.t 35) (.reg [.op ⟨0, some 36, .mv (.t 3), none⟩,
  .op ⟨1, some 37, .bin .add (.t 36) (.c (.one (.int .i64 1))), none⟩,
  .op ⟨2, some 3, .mv (.t 37), none⟩]) (.skip))))))
 (.reg [.op ⟨0, some 12, .mv (.t 4), none⟩,
  .op ⟨1, some 13, .bin .add (.t 12) (.c (.one (.int .i64 1))), none⟩,
  .op ⟨2, some 4, .mv (.t 13), none⟩]))))))
 (.seq (.reg [.op ⟨0, some 38, .mv (.t 3), none⟩,
  .op ⟨1, some 2, .mv (.t 38), none⟩])
 (.ret))))⟩
noncomputable def ref08_State_Live.s1 (H : Heap) (s2 : (Int × Int × Unit)) (s5 : (Bool × Int × Unit)) (H6 : Heap) : Option (((Bool × Int × Unit) ⊕ (Bool × Unit)) × Heap) :=
 cond (decide (s5.2.1 < s2.2.1)) (
 cond s5.1 (
 (rdSl 3 H6 H.length 1).bind fun (v7 : Sl) =>
 (Sl.at 3 v7 s5.2.1).bind fun (a8 : (Nat × Nat)) =>
 (rdI .i64 H6 a8.1 (a8.2 + 2)).bind fun (v9 : Int) =>
 (rdSl 3 H6 H.length 1).bind fun (v10 : Sl) =>
 (Sl.at 3 v10 s2.2.1).bind fun (a11 : (Nat × Nat)) =>
 (rdI .i64 H6 a11.1 (a11.2 + 2)).bind fun (v12 : Int) =>
 some (Sum.inl ((!decide (v9 = v12)), (IntKind.wrap .i64 (s5.2.1 + 1)), ()), H6)) (
 some (Sum.inl (false, (IntKind.wrap .i64 (s5.2.1 + 1)), ()), H6))) (
 some (Sum.inr (s5.1, ()), H6))
noncomputable def ref08_State_Live.s2 (H : Heap) (s2 : (Int × Int × Unit)) (H3 : Heap) : Option (((Int × Int × Unit) ⊕ (Int × Unit)) × Heap) :=
 (rdSl 3 H3 H.length 1).bind fun (v4 : Sl) =>
 cond (decide (s2.2.1 < (v4.len : Int))) (
 (loopW (ref08_State_Live.s1 H s2) (true, 0, ()) H3).bind fun (p13 : (Bool × Unit) × Heap) =>
 cond p13.1.1 (
 some (Sum.inl ((IntKind.wrap .i64 (s2.1 + 1)), (IntKind.wrap .i64 (s2.2.1 + 1)), ()), p13.2)) (
 some (Sum.inl (s2.1, (IntKind.wrap .i64 (s2.2.1 + 1)), ()), p13.2))) (
 some (Sum.inr (s2.1, ()), H3))
noncomputable def ref08_State_Live (x0 : (Sl × Sl × Sl × Sl × Unit)) (H : Heap) : Option ((Int × Unit) × Heap) :=
 let H1 : Heap := H ++ [Blk.cells [.sl 3 x0.1, .sl 3 x0.2.1, .sl 1 x0.2.2.1, .sl 2 x0.2.2.2.1] .exact]
 (loopW (ref08_State_Live.s2 H) (0, 0, ()) H1).bind fun (p14 : (Int × Unit) × Heap) =>
 some ((p14.1.1, ()), p14.2)
noncomputable def ref08_State_Live.c : Callee := .full [.agg [.sl 3, .sl 3, .sl 1, .sl 2]] [.one (.int .i64)] (fun x H => ref08_State_Live x.1 H)
noncomputable def ref08_State_Live.calls : Nat → Option Callee
  | _ => none
theorem ref08_State_Live.eq : evFull ref08_State_Live.calls ref08_State_Live.af = (fun x H => ref08_State_Live x.1 H) := by kernel_rfl

/-! ### (tinderbox/tinderboxref08.State).Pages -/
def ref08_State_Pages.af : AFun := ⟨[.agg [.sl 3, .sl 3, .sl 1, .sl 2], .one (.int .i64)], [.one (.int .i64)], [.t 4],
 .seq (.reg [.op ⟨0, some 2, .box (.t 0), none⟩,
  .op ⟨1, some 4, .mv (.c (.one (.int .i64 0))), none⟩])
 (.seq (.reg [.op ⟨0, some 5, .mv (.c (.one (.int .i64 0))), none⟩])
 (.seq (.seq (.reg [.op ⟨0, some 6, .mv (.c (.one (.int .i64 0))), none⟩])
 (.block 0 (.loop [(5, .one (.int .i64)), (6, .one (.int .i64))] [(.exit 0, [(5, .one (.int .i64))])] (.seq (.seq (.reg [.op ⟨0, some 7, .mv (.t 6), none⟩,
  .op ⟨1, some 8, .addr 1 (.t 2), none⟩,
  .op ⟨2, some 9, .load (.one (.sl 3)) (.t 8), none⟩,
  .op ⟨3, some 10, .len (.t 9), none⟩,
  .op ⟨4, some 11, .bin .lss (.t 7) (.t 10), none⟩])
 (.cond (.t 11) (.skip) (.exit 0)))
 (.seq (.block 1 (.seq (.reg [.op ⟨0, some 14, .addr 1 (.t 2), none⟩,
  .op ⟨1, some 15, .load (.one (.sl 3)) (.t 14), none⟩,
  .op ⟨2, some 16, .mv (.t 6), none⟩,
  .op ⟨3, some 17, .idxa 3 (.t 15) (.t 16), none⟩,
  .op ⟨4, some 18, .addr 0 (.t 17), none⟩,
  .op ⟨5, some 19, .load (.one (.int .i64)) (.t 18), none⟩,
  .op ⟨6, some 20, .mv (.t 1), none⟩,
  .op ⟨7, some 21, .bin .eql (.t 19) (.t 20), none⟩])
 (.cond (.t 21) (.reg [.op ⟨0, some 22, .mv (.t 5), none⟩,
  .op ⟨1, some 23, .bin .add (.t 22) (.c (.one (.int .i64 1))), none⟩,
  .op ⟨2, some 5, .mv (.t 23), none⟩]) (.skip))))
 (.reg [.op ⟨0, some 12, .mv (.t 6), none⟩,
  .op ⟨1, some 13, .bin .add (.t 12) (.c (.one (.int .i64 1))), none⟩,
  .op ⟨2, some 6, .mv (.t 13), none⟩]))))))
 (.seq (.reg [.op ⟨0, some 24, .mv (.t 5), none⟩,
  .op ⟨1, some 4, .mv (.t 24), none⟩])
 (.ret))))⟩
noncomputable def ref08_State_Pages.s1 (x1 : Int) (H : Heap) (s2 : (Int × Int × Unit)) (H3 : Heap) : Option (((Int × Int × Unit) ⊕ (Int × Unit)) × Heap) :=
 (rdSl 3 H3 H.length 1).bind fun (v4 : Sl) =>
 cond (decide (s2.2.1 < (v4.len : Int))) (
 (rdSl 3 H3 H.length 1).bind fun (v5 : Sl) =>
 (Sl.at 3 v5 s2.2.1).bind fun (a6 : (Nat × Nat)) =>
 (rdI .i64 H3 a6.1 a6.2).bind fun (v7 : Int) =>
 cond (decide (v7 = x1)) (
 some (Sum.inl ((IntKind.wrap .i64 (s2.1 + 1)), (IntKind.wrap .i64 (s2.2.1 + 1)), ()), H3)) (
 some (Sum.inl (s2.1, (IntKind.wrap .i64 (s2.2.1 + 1)), ()), H3))) (
 some (Sum.inr (s2.1, ()), H3))
noncomputable def ref08_State_Pages (x0 : (Sl × Sl × Sl × Sl × Unit)) (x1 : Int) (H : Heap) : Option ((Int × Unit) × Heap) :=
 let H1 : Heap := H ++ [Blk.cells [.sl 3 x0.1, .sl 3 x0.2.1, .sl 1 x0.2.2.1, .sl 2 x0.2.2.2.1] .exact]
 (loopW (ref08_State_Pages.s1 x1 H) (0, 0, ()) H1).bind fun (p8 : (Int × Unit) × Heap) =>
 some ((p8.1.1, ()), p8.2)
noncomputable def ref08_State_Pages.c : Callee := .full [.agg [.sl 3, .sl 3, .sl 1, .sl 2], .one (.int .i64)] [.one (.int .i64)] (fun x H => ref08_State_Pages x.1 x.2.1 H)
noncomputable def ref08_State_Pages.calls : Nat → Option Callee
  | _ => none
theorem ref08_State_Pages.eq : evFull ref08_State_Pages.calls ref08_State_Pages.af = (fun x H => ref08_State_Pages x.1 x.2.1 H) := by kernel_rfl
end Ev
