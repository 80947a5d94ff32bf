/- What the functions of the package Slices compute: abstract code, and a function of plain Lean for each; the kernel checks that they are the same. Written by gen2.py. -/
import Derived.Test.YtpebaginkkbnpaaGreatEvCore
import Derived.KernelRfl
set_option linter.unusedVariables false
set_option maxRecDepth 100000
namespace Ev
open Go (IntKind BinOp UnOp)

/-! ### slices.Clone[[]tinderbox/api.Cut,tinderbox/api.Cut] -/
def slices_Clone_api_Cut_api_Cut.af : AFun := ⟨[.one (.sl 3)], [.one (.sl 3)], [.t 2],
 .seq (.reg [.op ⟨0, some 2, .mv (.c (.one (.sl 3 (⟨none, 0, 0⟩)))), none⟩])
 (.seq (.seq (.reg [.op ⟨0, some 3, .mv (.t 0), none⟩,
  .op ⟨1, some 4, .isnils false (.t 3), none⟩])
 (.cond (.t 4) (.seq (.reg [.op ⟨0, some 2, .mv (.c (.one (.sl 3 (⟨none, 0, 0⟩)))), none⟩])
 (.ret)) (.skip)))
 (.seq (.reg [.op ⟨0, some 5, .bslice 3 0 [] [], none⟩,
  .op ⟨1, some 6, .mv (.t 0), none⟩,
  .op ⟨2, some 7, .app 3 24 (.t 5) (.t 6), none⟩,
  .op ⟨3, some 2, .mv (.t 7), none⟩])
 (.ret)))⟩
noncomputable def slices_Clone_api_Cut_api_Cut (x0 : Sl) (H : Heap) : Option ((Sl × Unit) × Heap) :=
 cond (Option.isNone x0.p) (
 some ((⟨none, 0, 0⟩, ()), H)) (
 let H1 : Heap := H ++ [Blk.cells [] .exact]
 (slRow H1 3 x0).bind fun (cs2 : (List C)) =>
 (appS H1 3 24 (⟨some (H.length, 0), 0, 0⟩) x0.len cs2).bind fun (p3 : (Sl × Heap)) =>
 some ((p3.1, ()), p3.2))
noncomputable def slices_Clone_api_Cut_api_Cut.c : Callee := .full [.one (.sl 3)] [.one (.sl 3)] (fun x H => slices_Clone_api_Cut_api_Cut x.1 H)
noncomputable def slices_Clone_api_Cut_api_Cut.calls : Nat → Option Callee
  | _ => none
theorem slices_Clone_api_Cut_api_Cut.eq : evFull slices_Clone_api_Cut_api_Cut.calls slices_Clone_api_Cut_api_Cut.af = (fun x H => slices_Clone_api_Cut_api_Cut x.1 H) := by kernel_rfl

/-! ### slices.Clone[[]int,int] -/
def slices_Clone_int_int.af : AFun := ⟨[.one (.sl 1)], [.one (.sl 1)], [.t 2],
 .seq (.reg [.op ⟨0, some 2, .mv (.c (.one (.sl 1 (⟨none, 0, 0⟩)))), none⟩])
 (.seq (.seq (.reg [.op ⟨0, some 3, .mv (.t 0), none⟩,
  .op ⟨1, some 4, .isnils false (.t 3), none⟩])
 (.cond (.t 4) (.seq (.reg [.op ⟨0, some 2, .mv (.c (.one (.sl 1 (⟨none, 0, 0⟩)))), none⟩])
 (.ret)) (.skip)))
 (.seq (.reg [.op ⟨0, some 5, .bslice 1 0 [] [], none⟩,
  .op ⟨1, some 6, .mv (.t 0), none⟩,
  .op ⟨2, some 7, .app 1 8 (.t 5) (.t 6), none⟩,
  .op ⟨3, some 2, .mv (.t 7), none⟩])
 (.ret)))⟩
noncomputable def slices_Clone_int_int (x0 : Sl) (H : Heap) : Option ((Sl × Unit) × Heap) :=
 cond (Option.isNone x0.p) (
 some ((⟨none, 0, 0⟩, ()), H)) (
 let H1 : Heap := H ++ [Blk.cells [] .exact]
 (slRow H1 1 x0).bind fun (cs2 : (List C)) =>
 (appS H1 1 8 (⟨some (H.length, 0), 0, 0⟩) x0.len cs2).bind fun (p3 : (Sl × Heap)) =>
 some ((p3.1, ()), p3.2))
noncomputable def slices_Clone_int_int.c : Callee := .full [.one (.sl 1)] [.one (.sl 1)] (fun x H => slices_Clone_int_int x.1 H)
noncomputable def slices_Clone_int_int.calls : Nat → Option Callee
  | _ => none
theorem slices_Clone_int_int.eq : evFull slices_Clone_int_int.calls slices_Clone_int_int.af = (fun x H => slices_Clone_int_int x.1 H) := by kernel_rfl

/-! ### slices.Index[[]int,int] -/
def slices_Index_int_int.af : AFun := ⟨[.one (.sl 1), .one (.int .i64)], [.one (.int .i64)], [.t 4],
 .seq (.reg [.op ⟨0, some 4, .mv (.c (.one (.int .i64 0))), none⟩])
 (.seq (.seq (.reg [.op ⟨0, some 6, .mv (.t 0), none⟩,
  .op ⟨1, some 7, .len (.t 6), none⟩,
  .op ⟨2, some 8, .mv (.c (.one (.int .i64 0))), none⟩])
 (.block 0 (.loop [(8, .one (.int .i64))] [(.exit 0, []), (.ret, [(4, .one (.int .i64))])] (.seq (.reg [.op ⟨0, some 9, .bin .lss (.t 8) (.t 7), none⟩])
 (.seq (.cond (.t 9) (.skip) (.exit 0))
 (.seq (.block 1 (.seq (.reg [.op ⟨0, some 10, .mv (.t 8), none⟩,
  .op ⟨1, some 5, .mv (.t 10), none⟩])
 (.seq (.reg [.op ⟨0, some 11, .mv (.t 1), none⟩,
  .op ⟨1, some 12, .mv (.t 0), none⟩,
  .op ⟨2, some 13, .mv (.t 5), none⟩,
  .op ⟨3, some 14, .idxa 1 (.t 12) (.t 13), none⟩,
  .op ⟨4, some 15, .load (.one (.int .i64)) (.t 14), none⟩,
  .op ⟨5, some 16, .bin .eql (.t 11) (.t 15), none⟩])
 (.cond (.t 16) (.seq (.reg [.op ⟨0, some 17, .mv (.t 5), none⟩,
  .op ⟨1, some 4, .mv (.t 17), none⟩])
 (.ret)) (.skip)))))
 (.reg [.op ⟨0, some 18, .bin .add (.t 8) (.c (.one (.int .i64 1))), none⟩,
  .op ⟨1, some 8, .mv (.t 18), none⟩])))))))
 (.seq (.reg [.op ⟨0, some 4, .mv (.c (.one (.int .i64 (-1)))), none⟩])
 (.ret)))⟩
noncomputable def slices_Index_int_int.s1 (x0 : Sl) (x1 : Int) (s1 : (Int × Unit)) (H2 : Heap) : Option (((Int × Unit) ⊕ ((Unit) ⊕ (Int × Unit))) × Heap) :=
 cond (decide (s1.1 < (x0.len : Int))) (
 (Sl.at 1 x0 s1.1).bind fun (a3 : (Nat × Nat)) =>
 (rdI .i64 H2 a3.1 a3.2).bind fun (v4 : Int) =>
 cond (decide (x1 = v4)) (
 some (Sum.inr (Sum.inr (s1.1, ())), H2)) (
 some (Sum.inl ((IntKind.wrap .i64 (s1.1 + 1)), ()), H2))) (
 some (Sum.inr (Sum.inl (())), H2))
noncomputable def slices_Index_int_int (x0 : Sl) (x1 : Int) (H : Heap) : Option ((Int × Unit) × Heap) :=
 (loopW (slices_Index_int_int.s1 x0 x1) (0, ()) H).bind fun (p5 : ((Unit) ⊕ (Int × Unit)) × Heap) =>
 Sum.elim (fun (y6 : (Unit)) =>
 some (((-1), ()), p5.2)) (fun (z7 : (Int × Unit)) =>
 some ((z7.1, ()), p5.2)) p5.1
noncomputable def slices_Index_int_int.c : Callee := .full [.one (.sl 1), .one (.int .i64)] [.one (.int .i64)] (fun x H => slices_Index_int_int x.1 x.2.1 H)
noncomputable def slices_Index_int_int.calls : Nat → Option Callee
  | _ => none
theorem slices_Index_int_int.eq : evFull slices_Index_int_int.calls slices_Index_int_int.af = (fun x H => slices_Index_int_int x.1 x.2.1 H) := by kernel_rfl

/-! ### slices.Contains[[]int,int] -/
def slices_Contains_int_int.af : AFun := ⟨[.one (.sl 1), .one (.int .i64)], [.one .bool], [.t 4],
 .seq (.reg [.op ⟨0, some 4, .mv (.c (.one (.bool false))), none⟩])
 (.seq (.reg [.op ⟨0, some 5, .mv (.t 0), none⟩,
  .op ⟨1, some 6, .mv (.t 1), none⟩,
  .op ⟨2, some 7, .call 0 [(.t 5), (.t 6)], none⟩,
  .op ⟨3, some 8, .bin .geq (.t 7) (.c (.one (.int .i64 0))), none⟩,
  .op ⟨4, some 4, .mv (.t 8), none⟩])
 (.ret))⟩
noncomputable def slices_Contains_int_int (x0 : Sl) (x1 : Int) (H : Heap) : Option ((Bool × Unit) × Heap) :=
 (slices_Index_int_int x0 x1 H).bind fun (r1 : ((Int × Unit) × Heap)) =>
 some (((decide (0 ≤ r1.1.1)), ()), r1.2)
noncomputable def slices_Contains_int_int.c : Callee := .full [.one (.sl 1), .one (.int .i64)] [.one .bool] (fun x H => slices_Contains_int_int x.1 x.2.1 H)
noncomputable def slices_Contains_int_int.calls : Nat → Option Callee
  | 0 => some slices_Index_int_int.c
  | _ => none
theorem slices_Contains_int_int.eq : evFull slices_Contains_int_int.calls slices_Contains_int_int.af = (fun x H => slices_Contains_int_int x.1 x.2.1 H) := by kernel_rfl

/-! ### slices.Clone[[]tinderbox/api.Noise,tinderbox/api.Noise] -/
def slices_Clone_api_Noise_api_Noise.af : AFun := ⟨[.one (.sl 5)], [.one (.sl 5)], [.t 2],
 .seq (.reg [.op ⟨0, some 2, .mv (.c (.one (.sl 5 (⟨none, 0, 0⟩)))), none⟩])
 (.seq (.seq (.reg [.op ⟨0, some 3, .mv (.t 0), none⟩,
  .op ⟨1, some 4, .isnils false (.t 3), none⟩])
 (.cond (.t 4) (.seq (.reg [.op ⟨0, some 2, .mv (.c (.one (.sl 5 (⟨none, 0, 0⟩)))), none⟩])
 (.ret)) (.skip)))
 (.seq (.reg [.op ⟨0, some 5, .bslice 5 0 [] [], none⟩,
  .op ⟨1, some 6, .mv (.t 0), none⟩,
  .op ⟨2, some 7, .app 5 40 (.t 5) (.t 6), none⟩,
  .op ⟨3, some 2, .mv (.t 7), none⟩])
 (.ret)))⟩
noncomputable def slices_Clone_api_Noise_api_Noise (x0 : Sl) (H : Heap) : Option ((Sl × Unit) × Heap) :=
 cond (Option.isNone x0.p) (
 some ((⟨none, 0, 0⟩, ()), H)) (
 let H1 : Heap := H ++ [Blk.cells [] .exact]
 (slRow H1 5 x0).bind fun (cs2 : (List C)) =>
 (appS H1 5 40 (⟨some (H.length, 0), 0, 0⟩) x0.len cs2).bind fun (p3 : (Sl × Heap)) =>
 some ((p3.1, ()), p3.2))
noncomputable def slices_Clone_api_Noise_api_Noise.c : Callee := .full [.one (.sl 5)] [.one (.sl 5)] (fun x H => slices_Clone_api_Noise_api_Noise x.1 H)
noncomputable def slices_Clone_api_Noise_api_Noise.calls : Nat → Option Callee
  | _ => none
theorem slices_Clone_api_Noise_api_Noise.eq : evFull slices_Clone_api_Noise_api_Noise.calls slices_Clone_api_Noise_api_Noise.af = (fun x H => slices_Clone_api_Noise_api_Noise x.1 H) := by kernel_rfl

/-! ### slices.Reverse[tinderbox/gf.Poly,byte] -/
def slices_Reverse_gf_Poly_byte.af : AFun := ⟨[.one (.sl 1)], [], [],
 .seq (.reg [.op ⟨0, some 4, .mv (.t 0), none⟩,
  .op ⟨1, some 5, .len (.t 4), none⟩,
  .op ⟨2, some 6, .bin .sub (.t 5) (.c (.one (.int .i64 1))), none⟩,
  .op ⟨3, some 2, .mv (.c (.one (.int .i64 0))), none⟩,
  .op ⟨4, some 3, .mv (.t 6), none⟩])
 (.block 0 (.loop [(2, .one (.int .i64)), (3, .one (.int .i64))] [(.exit 0, [])] (.seq (.seq (.reg [.op ⟨0, some 7, .mv (.t 2), none⟩,
  .op ⟨1, some 8, .mv (.t 3), none⟩,
  .op ⟨2, some 9, .bin .lss (.t 7) (.t 8), none⟩])
 (.cond (.t 9) (.skip) (.exit 0)))
 (.seq (.block 1 (.reg [.op ⟨0, some 14, .mv (.t 0), none⟩,
  .op ⟨1, some 15, .mv (.t 2), none⟩,
  .op ⟨2, some 16, .mv (.t 0), none⟩,
  .op ⟨3, some 17, .mv (.t 3), none⟩,
  .op ⟨4, some 18, .mv (.t 0), none⟩,
  .op ⟨5, some 19, .mv (.t 3), none⟩,
  .op ⟨6, some 20, .idxa 1 (.t 18) (.t 19), none⟩,
  .op ⟨7, some 21, .load (.one (.int .u8)) (.t 20), none⟩,
  .op ⟨8, some 22, .mv (.t 0), none⟩,
  .op ⟨9, some 23, .mv (.t 2), none⟩,
  .op ⟨10, some 24, .idxa 1 (.t 22) (.t 23), none⟩,
  .op ⟨11, some 25, .load (.one (.int .u8)) (.t 24), none⟩,
  .op ⟨12, some 26, .idxa 1 (.t 14) (.t 15), none⟩,
  .op ⟨13, none, .store 1 (.t 26) (.t 21), none⟩,
  .op ⟨14, some 27, .idxa 1 (.t 16) (.t 17), none⟩,
  .op ⟨15, none, .store 1 (.t 27) (.t 25), none⟩]))
 (.reg [.op ⟨0, some 10, .mv (.t 2), none⟩,
  .op ⟨1, some 11, .bin .add (.t 10) (.c (.one (.int .i64 1))), none⟩,
  .op ⟨2, some 12, .mv (.t 3), none⟩,
  .op ⟨3, some 13, .bin .sub (.t 12) (.c (.one (.int .i64 1))), none⟩,
  .op ⟨4, some 2, .mv (.t 11), none⟩,
  .op ⟨5, some 3, .mv (.t 13), none⟩])))))⟩
noncomputable def slices_Reverse_gf_Poly_byte.s1 (x0 : Sl) (s1 : (Int × Int × Unit)) (H2 : Heap) : Option (((Int × Int × Unit) ⊕ (Unit)) × Heap) :=
 cond (decide (s1.1 < s1.2.1)) (
 (Sl.at 1 x0 s1.2.1).bind fun (a3 : (Nat × Nat)) =>
 (rdI .u8 H2 a3.1 a3.2).bind fun (v4 : Int) =>
 (Sl.at 1 x0 s1.1).bind fun (a5 : (Nat × Nat)) =>
 (rdI .u8 H2 a5.1 a5.2).bind fun (v6 : Int) =>
 (Sl.at 1 x0 s1.1).bind fun (a7 : (Nat × Nat)) =>
 (wr H2 a7.1 a7.2 [.int .u8 v4]).bind fun (H8 : Heap) =>
 (Sl.at 1 x0 s1.2.1).bind fun (a9 : (Nat × Nat)) =>
 (wr H8 a9.1 a9.2 [.int .u8 v6]).bind fun (H10 : Heap) =>
 some (Sum.inl ((IntKind.wrap .i64 (s1.1 + 1)), (IntKind.wrap .i64 (s1.2.1 - 1)), ()), H10)) (
 some (Sum.inr (()), H2))
noncomputable def slices_Reverse_gf_Poly_byte (x0 : Sl) (H : Heap) : Option ((Unit) × Heap) :=
 (loopW (slices_Reverse_gf_Poly_byte.s1 x0) (0, (IntKind.wrap .i64 ((x0.len : Int) - 1)), ()) H).bind fun (p11 : (Unit) × Heap) =>
 some ((()), p11.2)
noncomputable def slices_Reverse_gf_Poly_byte.c : Callee := .full [.one (.sl 1)] [] (fun x H => slices_Reverse_gf_Poly_byte x.1 H)
noncomputable def slices_Reverse_gf_Poly_byte.calls : Nat → Option Callee
  | _ => none
theorem slices_Reverse_gf_Poly_byte.eq : evFull slices_Reverse_gf_Poly_byte.calls slices_Reverse_gf_Poly_byte.af = (fun x H => slices_Reverse_gf_Poly_byte x.1 H) := by kernel_rfl

/-! ### slices.Compact[[]int,int] -/
def slices_Compact_int_int.af : AFun := ⟨[.one (.sl 1)], [.one (.sl 1)], [.t 2],
 .seq (.reg [.op ⟨0, some 2, .mv (.c (.one (.sl 1 (⟨none, 0, 0⟩)))), none⟩])
 (.seq (.seq (.reg [.op ⟨0, some 6, .mv (.t 0), none⟩,
  .op ⟨1, some 7, .len (.t 6), none⟩,
  .op ⟨2, some 8, .bin .lss (.t 7) (.c (.one (.int .i64 2))), none⟩])
 (.cond (.t 8) (.seq (.reg [.op ⟨0, some 9, .mv (.t 0), none⟩,
  .op ⟨1, some 2, .mv (.t 9), none⟩])
 (.ret)) (.skip)))
 (.seq (.seq (.reg [.op ⟨0, some 3, .mv (.c (.one (.int .i64 1))), none⟩])
 (.block 0 (.loop [(3, .one (.int .i64))] [(.exit 0, []), (.ret, [(2, .one (.sl 1))])] (.seq (.seq (.reg [.op ⟨0, some 10, .mv (.t 3), none⟩,
  .op ⟨1, some 11, .mv (.t 0), none⟩,
  .op ⟨2, some 12, .len (.t 11), none⟩,
  .op ⟨3, some 13, .bin .lss (.t 10) (.t 12), none⟩])
 (.cond (.t 13) (.skip) (.exit 0)))
 (.seq (.block 1 (.seq (.reg [.op ⟨0, some 16, .mv (.t 0), none⟩,
  .op ⟨1, some 17, .mv (.t 3), none⟩,
  .op ⟨2, some 18, .idxa 1 (.t 16) (.t 17), none⟩,
  .op ⟨3, some 19, .load (.one (.int .i64)) (.t 18), none⟩,
  .op ⟨4, some 20, .mv (.t 0), none⟩,
  .op ⟨5, some 21, .mv (.t 3), none⟩,
  .op ⟨6, some 22, .bin .sub (.t 21) (.c (.one (.int .i64 1))), none⟩,
  .op ⟨7, some 23, .idxa 1 (.t 20) (.t 22), none⟩,
  .op ⟨8, some 24, .load (.one (.int .i64)) (.t 23), none⟩,
  .op ⟨9, some 25, .bin .eql (.t 19) (.t 24), none⟩])
 (.cond (.t 25) (.seq (.reg [.op ⟨0, some 26, .mv (.t 0), none⟩,
  .op ⟨1, some 27, .mv (.t 3), none⟩,
  .op ⟨2, some 28, .slc 1 (.t 26) (some (.t 27)) none none, none⟩,
  .op ⟨3, some 4, .mv (.t 28), none⟩])
 (.seq (.seq (.reg [.op ⟨0, some 5, .mv (.c (.one (.int .i64 1))), none⟩])
 (.block 2 (.loop [(3, .one (.int .i64)), (5, .one (.int .i64))] [(.exit 2, [(3, .one (.int .i64))])] (.seq (.seq (.reg [.op ⟨0, some 29, .mv (.t 5), none⟩,
  .op ⟨1, some 30, .mv (.t 4), none⟩,
  .op ⟨2, some 31, .len (.t 30), none⟩,
  .op ⟨3, some 32, .bin .lss (.t 29) (.t 31), none⟩])
 (.cond (.t 32) (.skip) (.exit 2)))
 (.seq (.block 3 (.seq (.reg [.op ⟨0, some 35, .mv (.t 4), none⟩,
  .op ⟨1, some 36, .mv (.t 5), none⟩,
  .op ⟨2, some 37, .idxa 1 (.t 35) (.t 36), none⟩,
  .op ⟨3, some 38, .load (.one (.int .i64)) (.t 37), none⟩,
  .op ⟨4, some 39, .mv (.t 4), none⟩,
  .op ⟨5, some 40, .mv (.t 5), none⟩,
  .op ⟨6, some 41, .bin .sub (.t 40) (.c (.one (.int .i64 1))), none⟩,
  .op ⟨7, some 42, .idxa 1 (.t 39) (.t 41), none⟩,
  .op ⟨8, some 43, .load (.one (.int .i64)) (.t 42), none⟩,
  .op ⟨9, some 44, .bin .neq (.t 38) (.t 43), none⟩])
 (.cond (.t 44) (.seq (.reg [.op ⟨0, some 45, .mv (.t 0), none⟩,
  .op ⟨1, some 46, .mv (.t 3), none⟩,
  .op ⟨2, some 47, .mv (.t 4), none⟩,
  .op ⟨3, some 48, .mv (.t 5), none⟩,
  .op ⟨4, some 49, .idxa 1 (.t 47) (.t 48), none⟩,
  .op ⟨5, some 50, .load (.one (.int .i64)) (.t 49), none⟩,
  .op ⟨6, some 51, .idxa 1 (.t 45) (.t 46), none⟩,
  .op ⟨7, none, .store 1 (.t 51) (.t 50), none⟩])
 (.reg [.op ⟨0, some 52, .mv (.t 3), none⟩,
  .op ⟨1, some 53, .bin .add (.t 52) (.c (.one (.int .i64 1))), none⟩,
  .op ⟨2, some 3, .mv (.t 53), none⟩])) (.skip))))
 (.reg [.op ⟨0, some 33, .mv (.t 5), none⟩,
  .op ⟨1, some 34, .bin .add (.t 33) (.c (.one (.int .i64 1))), none⟩,
  .op ⟨2, some 5, .mv (.t 34), none⟩]))))))
 (.seq (.reg [.op ⟨0, some 54, .mv (.t 0), none⟩,
  .op ⟨1, some 55, .mv (.t 3), none⟩,
  .op ⟨2, some 56, .slc 1 (.t 54) (some (.t 55)) none none, none⟩,
  .op ⟨3, none, .clr [.int .i64 0] (.t 56), none⟩])
 (.seq (.reg [.op ⟨0, some 57, .mv (.t 0), none⟩,
  .op ⟨1, some 58, .mv (.t 3), none⟩,
  .op ⟨2, some 59, .slc 1 (.t 57) none (some (.t 58)) none, none⟩,
  .op ⟨3, some 2, .mv (.t 59), none⟩])
 (.ret))))) (.skip))))
 (.reg [.op ⟨0, some 14, .mv (.t 3), none⟩,
  .op ⟨1, some 15, .bin .add (.t 14) (.c (.one (.int .i64 1))), none⟩,
  .op ⟨2, some 3, .mv (.t 15), none⟩]))))))
 (.seq (.reg [.op ⟨0, some 60, .mv (.t 0), none⟩,
  .op ⟨1, some 2, .mv (.t 60), none⟩])
 (.ret))))⟩
noncomputable def slices_Compact_int_int.s1 (x0 : Sl) (t7 : Sl) (s8 : (Int × Int × Unit)) (H9 : Heap) : Option (((Int × Int × Unit) ⊕ (Int × Unit)) × Heap) :=
 cond (decide (s8.2.1 < (t7.len : Int))) (
 (Sl.at 1 t7 s8.2.1).bind fun (a10 : (Nat × Nat)) =>
 (rdI .i64 H9 a10.1 a10.2).bind fun (v11 : Int) =>
 (Sl.at 1 t7 (IntKind.wrap .i64 (s8.2.1 - 1))).bind fun (a12 : (Nat × Nat)) =>
 (rdI .i64 H9 a12.1 a12.2).bind fun (v13 : Int) =>
 cond (!decide (v11 = v13)) (
 (Sl.at 1 t7 s8.2.1).bind fun (a14 : (Nat × Nat)) =>
 (rdI .i64 H9 a14.1 a14.2).bind fun (v15 : Int) =>
 (Sl.at 1 x0 s8.1).bind fun (a16 : (Nat × Nat)) =>
 (wr H9 a16.1 a16.2 [.int .i64 v15]).bind fun (H17 : Heap) =>
 some (Sum.inl ((IntKind.wrap .i64 (s8.1 + 1)), (IntKind.wrap .i64 (s8.2.1 + 1)), ()), H17)) (
 some (Sum.inl (s8.1, (IntKind.wrap .i64 (s8.2.1 + 1)), ()), H9))) (
 some (Sum.inr (s8.1, ()), H9))
noncomputable def slices_Compact_int_int.s2 (x0 : Sl) (s1 : (Int × Unit)) (H2 : Heap) : Option (((Int × Unit) ⊕ ((Unit) ⊕ (Sl × Unit))) × Heap) :=
 cond (decide (s1.1 < (x0.len : Int))) (
 (Sl.at 1 x0 s1.1).bind fun (a3 : (Nat × Nat)) =>
 (rdI .i64 H2 a3.1 a3.2).bind fun (v4 : Int) =>
 (Sl.at 1 x0 (IntKind.wrap .i64 (s1.1 - 1))).bind fun (a5 : (Nat × Nat)) =>
 (rdI .i64 H2 a5.1 a5.2).bind fun (v6 : Int) =>
 cond (decide (v4 = v6)) (
 (Sl.sub 1 x0 s1.1 (x0.len : Int) (x0.cap : Int)).bind fun (t7 : Sl) =>
 (loopW (slices_Compact_int_int.s1 x0 t7) (s1.1, 1, ()) H2).bind fun (p18 : (Int × Unit) × Heap) =>
 (Sl.sub 1 x0 p18.1.1 (x0.len : Int) (x0.cap : Int)).bind fun (t19 : Sl) =>
 (clrS p18.2 [.int .i64 0] t19).bind fun (H20 : Heap) =>
 (Sl.sub 1 x0 0 p18.1.1 (x0.cap : Int)).bind fun (t21 : Sl) =>
 some (Sum.inr (Sum.inr (t21, ())), H20)) (
 some (Sum.inl ((IntKind.wrap .i64 (s1.1 + 1)), ()), H2))) (
 some (Sum.inr (Sum.inl (())), H2))
noncomputable def slices_Compact_int_int (x0 : Sl) (H : Heap) : Option ((Sl × Unit) × Heap) :=
 cond (decide ((x0.len : Int) < 2)) (
 some ((x0, ()), H)) (
 (loopW (slices_Compact_int_int.s2 x0) (1, ()) H).bind fun (p22 : ((Unit) ⊕ (Sl × Unit)) × Heap) =>
 Sum.elim (fun (y23 : (Unit)) =>
 some ((x0, ()), p22.2)) (fun (z24 : (Sl × Unit)) =>
 some ((z24.1, ()), p22.2)) p22.1)
noncomputable def slices_Compact_int_int.c : Callee := .full [.one (.sl 1)] [.one (.sl 1)] (fun x H => slices_Compact_int_int x.1 H)
noncomputable def slices_Compact_int_int.calls : Nat → Option Callee
  | _ => none
theorem slices_Compact_int_int.eq : evFull slices_Compact_int_int.calls slices_Compact_int_int.af = (fun x H => slices_Compact_int_int x.1 H) := by kernel_rfl
end Ev
