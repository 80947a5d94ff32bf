/- What the functions of the package Slices compute: abstract code, and a function of plain Lean for each; the kernel checks that they are the same. Written by gen2.py. -/
import Derived.Test.YtloijdlakkmjgaaEvCore
import Derived.KernelRfl
set_option linter.unusedVariables false
set_option maxRecDepth 100000
namespace Ev
open Go (IntKind BinOp UnOp)

/-! ### slices.Clone[[]tinderbox/api.Cut,tinderbox/api.Cut] -/
def slices_Clone_api_Cut_api_Cut.af : AFun := ⟨[.one (.sl 3)], [.one (.sl 3)], [.t 2],
 .seq (.reg [.op ⟨0, some 2, .mv (.c (.one (.sl 3 (⟨none, 0, 0⟩)))), none⟩])
 (.seq (.seq (.reg [.op ⟨0, some 3, .mv (.t 0), none⟩,
  .op ⟨1, some 4, .isnils false (.t 3), none⟩])
 (.cond (.t 4) (.seq (.reg [.op ⟨0, some 2, .mv (.c (.one (.sl 3 (⟨none, 0, 0⟩)))), none⟩])
 (.ret)) (.skip)))
 (.seq (.reg [.op ⟨0, some 5, .bslice 3 0 [] [], none⟩,
  .op ⟨1, some 6, .mv (.t 0), none⟩,
  .op ⟨2, some 7, .app 3 24 (.t 5) (.t 6), none⟩,
  .op ⟨3, some 2, .mv (.t 7), none⟩])
 (.ret)))⟩
noncomputable def slices_Clone_api_Cut_api_Cut (x0 : Sl) (H : Heap) : Option ((Sl × Unit) × Heap) :=
 cond (Option.isNone x0.p) (
 some ((⟨none, 0, 0⟩, ()), H)) (
 let H1 : Heap := H ++ [Blk.cells [] .exact]
 (slRow H1 3 x0).bind fun (cs2 : (List C)) =>
 (appS H1 3 24 (⟨some (H.length, 0), 0, 0⟩) x0.len cs2).bind fun (p3 : (Sl × Heap)) =>
 some ((p3.1, ()), p3.2))
noncomputable def slices_Clone_api_Cut_api_Cut.c : Callee := .full [.one (.sl 3)] [.one (.sl 3)] (fun x H => slices_Clone_api_Cut_api_Cut x.1 H)
noncomputable def slices_Clone_api_Cut_api_Cut.calls : Nat → Option Callee
  | _ => none
theorem slices_Clone_api_Cut_api_Cut.eq : evFull slices_Clone_api_Cut_api_Cut.calls slices_Clone_api_Cut_api_Cut.af = (fun x H => slices_Clone_api_Cut_api_Cut x.1 H) := by kernel_rfl

/-! ### slices.Clone[[]int,int] -/
def slices_Clone_int_int.af : AFun := ⟨[.one (.sl 1)], [.one (.sl 1)], [.t 2],
 .seq (.reg [.op ⟨0, some 2, .mv (.c (.one (.sl 1 (⟨none, 0, 0⟩)))), none⟩])
 (.seq (.seq (.reg [.op ⟨0, some 3, .mv (.t 0), none⟩,
  .op ⟨1, some 4, .isnils false (.t 3), none⟩])
 (.cond (.t 4) (.seq (.reg [.op ⟨0, some 2, .mv (.c (.one (.sl 1 (⟨none, 0, 0⟩)))), none⟩])
 (.ret)) (.skip)))
 (.seq (.reg [.op ⟨0, some 5, .bslice 1 0 [] [], none⟩,
  .op ⟨1, some 6, .mv (.t 0), none⟩,
  .op ⟨2, some 7, .app 1 8 (.t 5) (.t 6), none⟩,
  .op ⟨3, some 2, .mv (.t 7), none⟩])
 (.ret)))⟩
noncomputable def slices_Clone_int_int (x0 : Sl) (H : Heap) : Option ((Sl × Unit) × Heap) :=
 cond (Option.isNone x0.p) (
 some ((⟨none, 0, 0⟩, ()), H)) (
 let H1 : Heap := H ++ [Blk.cells [] .exact]
 (slRow H1 1 x0).bind fun (cs2 : (List C)) =>
 (appS H1 1 8 (⟨some (H.length, 0), 0, 0⟩) x0.len cs2).bind fun (p3 : (Sl × Heap)) =>
 some ((p3.1, ()), p3.2))
noncomputable def slices_Clone_int_int.c : Callee := .full [.one (.sl 1)] [.one (.sl 1)] (fun x H => slices_Clone_int_int x.1 H)
noncomputable def slices_Clone_int_int.calls : Nat → Option Callee
  | _ => none
theorem slices_Clone_int_int.eq : evFull slices_Clone_int_int.calls slices_Clone_int_int.af = (fun x H => slices_Clone_int_int x.1 H) := by kernel_rfl

/-! ### slices.Index[[]int,int] -/
def slices_Index_int_int.af : AFun := ⟨[.one (.sl 1), .one (.int .i64)], [.one (.int .i64)], [.t 4],
 .seq (.reg [.op ⟨0, some 4, .mv (.c (.one (.int .i64 0))), none⟩])
 (.seq (.seq (.reg [.op ⟨0, some 6, .mv (.t 0), none⟩,
  .op ⟨1, some 7, .len (.t 6), none⟩,
  .op ⟨2, some 8, .mv (.c (.one (.int .i64 0))), none⟩])
 (.block 0 (.loop [(8, .one (.int .i64))] [(.exit 0, []), (.ret, [(4, .one (.int .i64))])] (.seq (.reg [.op ⟨0, some 9, .bin .lss (.t 8) (.t 7), none⟩])
 (.seq (.cond (.t 9) (.skip) (.exit 0))
 (.seq (.block 1 (.seq (.reg [.op ⟨0, some 10, .mv (.t 8), none⟩,
  .op ⟨1, some 5, .mv (.t 10), none⟩])
 (.seq (.reg [.op ⟨0, some 11, .mv (.t 1), none⟩,
  .op ⟨1, some 12, .mv (.t 0), none⟩,
  .op ⟨2, some 13, .mv (.t 5), none⟩,
  .op ⟨3, some 14, .idxa 1 (.t 12) (.t 13), none⟩,
  .op ⟨4, some 15, .load (.one (.int .i64)) (.t 14), none⟩,
  .op ⟨5, some 16, .bin .eql (.t 11) (.t 15), none⟩])
 (.cond (.t 16) (.seq (.reg [.op ⟨0, some 17, .mv (.t 5), none⟩,
  .op ⟨1, some 4, .mv (.t 17), none⟩])
 (.ret)) (.skip)))))
 (.reg [.op ⟨0, some 18, .bin .add (.t 8) (.c (.one (.int .i64 1))), none⟩,
  .op ⟨1, some 8, .mv (.t 18), none⟩])))))))
 (.seq (.reg [.op ⟨0, some 4, .mv (.c (.one (.int .i64 (-1)))), none⟩])
 (.ret)))⟩
noncomputable def slices_Index_int_int.s1 (x0 : Sl) (x1 : Int) (s1 : (Int × Unit)) (H2 : Heap) : Option (((Int × Unit) ⊕ ((Unit) ⊕ (Int × Unit))) × Heap) :=
 cond (decide (s1.1 < (x0.len : Int))) (
 (Sl.at 1 x0 s1.1).bind fun (a3 : (Nat × Nat)) =>
 (rdI .i64 H2 a3.1 a3.2).bind fun (v4 : Int) =>
 cond (decide (x1 = v4)) (
 some (Sum.inr (Sum.inr (s1.1, ())), H2)) (
 some (Sum.inl ((IntKind.wrap .i64 (s1.1 + 1)), ()), H2))) (
 some (Sum.inr (Sum.inl (())), H2))
noncomputable def slices_Index_int_int (x0 : Sl) (x1 : Int) (H : Heap) : Option ((Int × Unit) × Heap) :=
 (loopW (slices_Index_int_int.s1 x0 x1) (0, ()) H).bind fun (p5 : ((Unit) ⊕ (Int × Unit)) × Heap) =>
 Sum.elim (fun (y6 : (Unit)) =>
 some (((-1), ()), p5.2)) (fun (z7 : (Int × Unit)) =>
 some ((z7.1, ()), p5.2)) p5.1
noncomputable def slices_Index_int_int.c : Callee := .full [.one (.sl 1), .one (.int .i64)] [.one (.int .i64)] (fun x H => slices_Index_int_int x.1 x.2.1 H)
noncomputable def slices_Index_int_int.calls : Nat → Option Callee
  | _ => none
theorem slices_Index_int_int.eq : evFull slices_Index_int_int.calls slices_Index_int_int.af = (fun x H => slices_Index_int_int x.1 x.2.1 H) := by kernel_rfl

/-! ### slices.Contains[[]int,int] -/
def slices_Contains_int_int.af : AFun := ⟨[.one (.sl 1), .one (.int .i64)], [.one .bool], [.t 4],
 .seq (.reg [.op ⟨0, some 4, .mv (.c (.one (.bool false))), none⟩])
 (.seq (.reg [.op ⟨0, some 5, .mv (.t 0), none⟩,
  .op ⟨1, some 6, .mv (.t 1), none⟩,
  .op ⟨2, some 7, .call 0 [(.t 5), (.t 6)], none⟩,
  .op ⟨3, some 8, .bin .geq (.t 7) (.c (.one (.int .i64 0))), none⟩,
  .op ⟨4, some 4, .mv (.t 8), none⟩])
 (.ret))⟩
noncomputable def slices_Contains_int_int (x0 : Sl) (x1 : Int) (H : Heap) : Option ((Bool × Unit) × Heap) :=
 (slices_Index_int_int x0 x1 H).bind fun (r1 : ((Int × Unit) × Heap)) =>
 some (((decide (0 ≤ r1.1.1)), ()), r1.2)
noncomputable def slices_Contains_int_int.c : Callee := .full [.one (.sl 1), .one (.int .i64)] [.one .bool] (fun x H => slices_Contains_int_int x.1 x.2.1 H)
noncomputable def slices_Contains_int_int.calls : Nat → Option Callee
  | 0 => some slices_Index_int_int.c
  | _ => none
theorem slices_Contains_int_int.eq : evFull slices_Contains_int_int.calls slices_Contains_int_int.af = (fun x H => slices_Contains_int_int x.1 x.2.1 H) := by kernel_rfl

/-! ### slices.Index[[]bool,bool] -/
def slices_Index_bool_bool.af : AFun := ⟨[.one (.sl 1), .one .bool], [.one (.int .i64)], [.t 4],
 .seq (.reg [.op ⟨0, some 4, .mv (.c (.one (.int .i64 0))), none⟩])
 (.seq (.seq (.reg [.op ⟨0, some 6, .mv (.t 0), none⟩,
  .op ⟨1, some 7, .len (.t 6), none⟩,
  .op ⟨2, some 8, .mv (.c (.one (.int .i64 0))), none⟩])
 (.block 0 (.loop [(8, .one (.int .i64))] [(.exit 0, []), (.ret, [(4, .one (.int .i64))])] (.seq (.reg [.op ⟨0, some 9, .bin .lss (.t 8) (.t 7), none⟩])
 (.seq (.cond (.t 9) (.skip) (.exit 0))
 (.seq (.block 1 (.seq (.reg [.op ⟨0, some 10, .mv (.t 8), none⟩,
  .op ⟨1, some 5, .mv (.t 10), none⟩])
 (.seq (.reg [.op ⟨0, some 11, .mv (.t 1), none⟩,
  .op ⟨1, some 12, .mv (.t 0), none⟩,
  .op ⟨2, some 13, .mv (.t 5), none⟩,
  .op ⟨3, some 14, .idxa 1 (.t 12) (.t 13), none⟩,
  .op ⟨4, some 15, .load (.one .bool) (.t 14), none⟩,
  .op ⟨5, some 16, .eqb false (.t 11) (.t 15), none⟩])
 (.cond (.t 16) (.seq (.reg [.op ⟨0, some 17, .mv (.t 5), none⟩,
  .op ⟨1, some 4, .mv (.t 17), none⟩])
 (.ret)) (.skip)))))
 (.reg [.op ⟨0, some 18, .bin .add (.t 8) (.c (.one (.int .i64 1))), none⟩,
  .op ⟨1, some 8, .mv (.t 18), none⟩])))))))
 (.seq (.reg [.op ⟨0, some 4, .mv (.c (.one (.int .i64 (-1)))), none⟩])
 (.ret)))⟩
noncomputable def slices_Index_bool_bool.s1 (x0 : Sl) (x1 : Bool) (s1 : (Int × Unit)) (H2 : Heap) : Option (((Int × Unit) ⊕ ((Unit) ⊕ (Int × Unit))) × Heap) :=
 cond (decide (s1.1 < (x0.len : Int))) (
 (Sl.at 1 x0 s1.1).bind fun (a3 : (Nat × Nat)) =>
 (rdB H2 a3.1 a3.2).bind fun (v4 : Bool) =>
 cond (x1 == v4) (
 some (Sum.inr (Sum.inr (s1.1, ())), H2)) (
 some (Sum.inl ((IntKind.wrap .i64 (s1.1 + 1)), ()), H2))) (
 some (Sum.inr (Sum.inl (())), H2))
noncomputable def slices_Index_bool_bool (x0 : Sl) (x1 : Bool) (H : Heap) : Option ((Int × Unit) × Heap) :=
 (loopW (slices_Index_bool_bool.s1 x0 x1) (0, ()) H).bind fun (p5 : ((Unit) ⊕ (Int × Unit)) × Heap) =>
 Sum.elim (fun (y6 : (Unit)) =>
 some (((-1), ()), p5.2)) (fun (z7 : (Int × Unit)) =>
 some ((z7.1, ()), p5.2)) p5.1
noncomputable def slices_Index_bool_bool.c : Callee := .full [.one (.sl 1), .one .bool] [.one (.int .i64)] (fun x H => slices_Index_bool_bool x.1 x.2.1 H)
noncomputable def slices_Index_bool_bool.calls : Nat → Option Callee
  | _ => none
theorem slices_Index_bool_bool.eq : evFull slices_Index_bool_bool.calls slices_Index_bool_bool.af = (fun x H => slices_Index_bool_bool x.1 x.2.1 H) := by kernel_rfl

/-! ### slices.Contains[[]bool,bool] -/
def slices_Contains_bool_bool.af : AFun := ⟨[.one (.sl 1), .one .bool], [.one .bool], [.t 4],
 .seq (.reg [.op ⟨0, some 4, .mv (.c (.one (.bool false))), none⟩])
 (.seq (.reg [.op ⟨0, some 5, .mv (.t 0), none⟩,
  .op ⟨1, some 6, .mv (.t 1), none⟩,
  .op ⟨2, some 7, .call 0 [(.t 5), (.t 6)], none⟩,
  .op ⟨3, some 8, .bin .geq (.t 7) (.c (.one (.int .i64 0))), none⟩,
  .op ⟨4, some 4, .mv (.t 8), none⟩])
 (.ret))⟩
noncomputable def slices_Contains_bool_bool (x0 : Sl) (x1 : Bool) (H : Heap) : Option ((Bool × Unit) × Heap) :=
 (slices_Index_bool_bool x0 x1 H).bind fun (r1 : ((Int × Unit) × Heap)) =>
 some (((decide (0 ≤ r1.1.1)), ()), r1.2)
noncomputable def slices_Contains_bool_bool.c : Callee := .full [.one (.sl 1), .one .bool] [.one .bool] (fun x H => slices_Contains_bool_bool x.1 x.2.1 H)
noncomputable def slices_Contains_bool_bool.calls : Nat → Option Callee
  | 0 => some slices_Index_bool_bool.c
  | _ => none
theorem slices_Contains_bool_bool.eq : evFull slices_Contains_bool_bool.calls slices_Contains_bool_bool.af = (fun x H => slices_Contains_bool_bool x.1 x.2.1 H) := by kernel_rfl
end Ev
