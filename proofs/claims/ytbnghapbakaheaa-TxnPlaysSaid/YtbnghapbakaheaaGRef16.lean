/- What the functions of the package Ref16 compute: abstract code, and a function of plain Lean for each; the kernel checks that they are the same. Written by gen2.py. -/
import Derived.Test.YtbnghapbakaheaaEvCore
import Derived.Test.YtbnghapbakaheaaGRef08
import Derived.KernelRfl
set_option linter.unusedVariables false
set_option maxRecDepth 100000
namespace Ev
open Go (IntKind BinOp UnOp)

/-! ### (tinderbox/tinderboxref16.Plain).Put -/
def ref16_Plain_Put.af : AFun := ⟨[.agg [.sl 3, .sl 3, .sl 1, .sl 2, .sl 1], .one (.int .i64), .one (.int .i64), .one .str], [.agg [.sl 3, .sl 3, .sl 1, .sl 2, .sl 1], .one (.int .i64)], [.cell 8, .t 9],
 .seq (.reg [.op ⟨0, some 4, .box (.t 0), none⟩,
  .op ⟨1, some 8, .new [.sl 3 Sl.nil, .sl 3 Sl.nil, .sl 1 Sl.nil, .sl 2 Sl.nil, .sl 1 Sl.nil], none⟩,
  .op ⟨2, some 9, .mv (.c (.one (.int .i64 0))), none⟩])
 (.seq (.reg [.op ⟨0, some 13, .addr 0 (.t 4), none⟩,
  .op ⟨1, some 14, .load (.agg [.sl 3, .sl 3, .sl 1, .sl 2]) (.t 13), none⟩,
  .op ⟨2, some 15, .mv (.t 1), none⟩,
  .op ⟨3, some 16, .mv (.t 2), none⟩,
  .op ⟨4, some 17, .addr 4 (.t 4), none⟩,
  .op ⟨5, some 18, .load (.one (.sl 1)) (.t 17), none⟩,
  .op ⟨6, some 19, .len (.t 18), none⟩,
  .op ⟨7, some 20, .bin .add (.c (.one (.int .i64 1000))) (.t 19), none⟩,
  .op ⟨8, some 21, .build [.int .i64 0, .int .i64 0, .int .i64 0, .int .i64 0, .int .i64 0, .int .i64 0] [(0, 1, (.c (.one (.int .i64 1)))), (1, 1, (.t 15)), (2, 1, (.t 16)), (3, 1, (.t 20))], none⟩,
  .op ⟨9, some 22, .call 0 [(.t 14), (.t 21)], none⟩,
  .op ⟨10, some 12, .mv (.t 22), none⟩,
  .op ⟨11, some 23, .ext (.t 12) 0, none⟩,
  .op ⟨12, some 24, .ext (.t 12) 1, none⟩,
  .op ⟨13, some 10, .new [.sl 3 Sl.nil, .sl 3 Sl.nil, .sl 1 Sl.nil, .sl 2 Sl.nil], none⟩,
  .op ⟨14, none, .store 4 (.t 10) (.t 23), none⟩,
  .op ⟨15, some 11, .mv (.t 24), none⟩])
 (.seq (.seq (.reg [.op ⟨0, some 25, .mv (.t 11), none⟩,
  .op ⟨1, some 26, .bin .neq (.t 25) (.c (.one (.int .i64 0))), none⟩])
 (.cond (.t 26) (.seq (.reg [.op ⟨0, some 27, .load (.agg [.sl 3, .sl 3, .sl 1, .sl 2, .sl 1]) (.t 4), none⟩,
  .op ⟨1, some 28, .mv (.t 11), none⟩,
  .op ⟨2, none, .store 5 (.t 8) (.t 27), none⟩,
  .op ⟨3, some 9, .mv (.t 28), none⟩])
 (.ret)) (.skip)))
 (.seq (.reg [.op ⟨0, some 29, .load (.agg [.sl 3, .sl 3, .sl 1, .sl 2]) (.t 10), none⟩,
  .op ⟨1, some 30, .bslice 1 0 [] [], none⟩,
  .op ⟨2, some 31, .addr 4 (.t 4), none⟩,
  .op ⟨3, some 32, .load (.one (.sl 1)) (.t 31), none⟩,
  .op ⟨5, some 34, .mv (.t 3), none⟩,
  .op ⟨6, some 35, .bslice 1 1 [.str []] [(0, 1, (.t 34))], none⟩,
  .op ⟨4, some 33, .app 1 16 (.t 30) (.t 32), none⟩,
  .again ⟨0, some 29, .load (.agg [.sl 3, .sl 3, .sl 1, .sl 2]) (.t 10), none⟩,
  .still ⟨6, some 35, .bslice 1 1 [.str []] [(0, 1, (.t 34))], none⟩,
  .op ⟨7, some 36, .app 1 16 (.t 33) (.t 35), none⟩,
  .op ⟨8, some 37, .build [.sl 3 Sl.nil, .sl 3 Sl.nil, .sl 1 Sl.nil, .sl 2 Sl.nil, .sl 1 Sl.nil] [(0, 4, (.t 29)), (4, 1, (.t 36))], none⟩,
  .again ⟨0, some 29, .load (.agg [.sl 3, .sl 3, .sl 1, .sl 2]) (.t 10), none⟩,
  .op ⟨9, none, .store 5 (.t 8) (.t 37), none⟩,
  .op ⟨10, some 9, .mv (.c (.one (.int .i64 0))), none⟩])
 (.ret))))⟩
noncomputable def ref16_Plain_Put (x0 : (Sl × Sl × Sl × Sl × Sl × Unit)) (x1 : Int) (x2 : Int) (x3 : Bytes) (H : Heap) : Option (((Sl × Sl × Sl × Sl × Sl × Unit) × Int × Unit) × Heap) :=
 let H1 : Heap := H ++ [Blk.cells [.sl 3 x0.1, .sl 3 x0.2.1, .sl 1 x0.2.2.1, .sl 2 x0.2.2.2.1, .sl 1 x0.2.2.2.2.1] .exact]
 let H2 : Heap := H1 ++ [Blk.cells [.sl 3 Sl.nil, .sl 3 Sl.nil, .sl 1 Sl.nil, .sl 2 Sl.nil, .sl 1 Sl.nil] .exact]
 Option.bind (α := (Sl × Sl × Sl × Sl × Unit)) (rd H2 (.agg [.sl 3, .sl 3, .sl 1, .sl 2]) H.length 0) fun (v3 : (Sl × Sl × Sl × Sl × Unit)) =>
 (rdSl 1 H2 H.length 4).bind fun (v4 : Sl) =>
 (ref08_State_Do (v3.1, v3.2.1, v3.2.2.1, v3.2.2.2.1, ()) (1, x1, x2, (IntKind.wrap .i64 (1000 + (v4.len : Int))), 0, 0, ()) H2).bind fun (r5 : (((Sl × Sl × Sl × Sl × Unit) × Int × Unit) × Heap)) =>
 let H6 : Heap := r5.2 ++ [Blk.cells [.sl 3 Sl.nil, .sl 3 Sl.nil, .sl 1 Sl.nil, .sl 2 Sl.nil] .exact]
 (wr H6 r5.2.length 0 [.sl 3 r5.1.1.1, .sl 3 r5.1.1.2.1, .sl 1 r5.1.1.2.2.1, .sl 2 r5.1.1.2.2.2.1]).bind fun (H7 : Heap) =>
 cond (!decide (r5.1.2.1 = 0)) (
 Option.bind (α := (Sl × Sl × Sl × Sl × Sl × Unit)) (rd H7 (.agg [.sl 3, .sl 3, .sl 1, .sl 2, .sl 1]) H.length 0) fun (v8 : (Sl × Sl × Sl × Sl × Sl × Unit)) =>
 (wr H7 H1.length 0 [.sl 3 v8.1, .sl 3 v8.2.1, .sl 1 v8.2.2.1, .sl 2 v8.2.2.2.1, .sl 1 v8.2.2.2.2.1]).bind fun (H9 : Heap) =>
 Option.bind (α := (Sl × Sl × Sl × Sl × Sl × Unit)) (rd H9 (.agg [.sl 3, .sl 3, .sl 1, .sl 2, .sl 1]) H1.length 0) fun (v10 : (Sl × Sl × Sl × Sl × Sl × Unit)) =>
 some ((v10, r5.1.2.1, ()), H9)) (
 Option.bind (α := (Sl × Sl × Sl × Sl × Unit)) (rd H7 (.agg [.sl 3, .sl 3, .sl 1, .sl 2]) r5.2.length 0) fun (v11 : (Sl × Sl × Sl × Sl × Unit)) =>
 let H12 : Heap := H7 ++ [Blk.cells [] .exact]
 (rdSl 1 H12 H.length 4).bind fun (v13 : Sl) =>
 let H14 : Heap := H12 ++ [Blk.cells [.str x3] .exact]
 (slRow H14 1 v13).bind fun (cs15 : (List C)) =>
 (appS H14 1 16 (⟨some (H7.length, 0), 0, 0⟩) v13.len cs15).bind fun (p16 : (Sl × Heap)) =>
 Option.bind (α := (Sl × Sl × Sl × Sl × Unit)) (rd p16.2 (.agg [.sl 3, .sl 3, .sl 1, .sl 2]) r5.2.length 0) fun (v17 : (Sl × Sl × Sl × Sl × Unit)) =>
 if V.w (.agg [.sl 3 v17.1, .sl 3 v17.2.1, .sl 1 v17.2.2.1, .sl 2 v17.2.2.2.1]) = V.w (.agg [.sl 3 v11.1, .sl 3 v11.2.1, .sl 1 v11.2.2.1, .sl 2 v11.2.2.2.1]) then
 if p16.2[H12.length]? = some (Blk.cells [.str x3] .exact) then
 (slRow p16.2 1 (⟨some (H12.length, 0), 1, 1⟩)).bind fun (cs18 : (List C)) =>
 (appS p16.2 1 16 p16.1 1 cs18).bind fun (p19 : (Sl × Heap)) =>
 Option.bind (α := (Sl × Sl × Sl × Sl × Unit)) (rd p19.2 (.agg [.sl 3, .sl 3, .sl 1, .sl 2]) r5.2.length 0) fun (v20 : (Sl × Sl × Sl × Sl × Unit)) =>
 if V.w (.agg [.sl 3 v20.1, .sl 3 v20.2.1, .sl 1 v20.2.2.1, .sl 2 v20.2.2.2.1]) = V.w (.agg [.sl 3 v11.1, .sl 3 v11.2.1, .sl 1 v11.2.2.1, .sl 2 v11.2.2.2.1]) then
 (wr p19.2 H1.length 0 [.sl 3 v11.1, .sl 3 v11.2.1, .sl 1 v11.2.2.1, .sl 2 v11.2.2.2.1, .sl 1 p19.1]).bind fun (H21 : Heap) =>
 Option.bind (α := (Sl × Sl × Sl × Sl × Sl × Unit)) (rd H21 (.agg [.sl 3, .sl 3, .sl 1, .sl 2, .sl 1]) H1.length 0) fun (v22 : (Sl × Sl × Sl × Sl × Sl × Unit)) =>
 some ((v22, 0, ()), H21)
 else none
 else none
 else none)
noncomputable def ref16_Plain_Put.c : Callee := .full [.agg [.sl 3, .sl 3, .sl 1, .sl 2, .sl 1], .one (.int .i64), .one (.int .i64), .one .str] [.agg [.sl 3, .sl 3, .sl 1, .sl 2, .sl 1], .one (.int .i64)] (fun x H => ref16_Plain_Put x.1 x.2.1 x.2.2.1 x.2.2.2.1 H)
noncomputable def ref16_Plain_Put.calls : Nat → Option Callee
  | 0 => some ref08_State_Do.c
  | _ => none
theorem ref16_Plain_Put.eq : evFull ref16_Plain_Put.calls ref16_Plain_Put.af = (fun x H => ref16_Plain_Put x.1 x.2.1 x.2.2.1 x.2.2.2.1 H) := by kernel_rfl

/-! ### (tinderbox/tinderboxref16.Plain).Fits -/
def ref16_Plain_Fits.af : AFun := ⟨[.agg [.sl 3, .sl 3, .sl 1, .sl 2, .sl 1], .agg [.int .i64, .int .i64, .int .i64, .int .i64]], [.one .bool], [.t 4],
 .seq (.reg [.op ⟨0, some 2, .box (.t 0), none⟩,
  .op ⟨1, some 3, .box (.t 1), none⟩,
  .op ⟨2, some 4, .mv (.c (.one (.bool false))), none⟩])
 (.seq (.reg [.op ⟨0, some 5, .addr 0 (.t 2), none⟩,
  .op ⟨1, some 6, .load (.agg [.sl 3, .sl 3, .sl 1, .sl 2]) (.t 5), none⟩,
  .op ⟨3, some 8, .addr 0 (.t 3), none⟩,
  .op ⟨4, some 9, .load (.one (.int .i64)) (.t 8), none⟩,
  .op ⟨2, some 7, .call 0 [(.t 6)], none⟩,
  .op ⟨5, some 10, .bin .leq (.t 7) (.t 9), none⟩,
  .op ⟨6, some 11, .mv (.t 10), none⟩,
  .op ⟨7, some 12, .addr 0 (.t 2), some (11, true)⟩,
  .op ⟨8, some 13, .addr 1 (.t 12), some (11, true)⟩,
  .op ⟨9, some 14, .load (.one (.sl 3)) (.t 13), some (11, true)⟩,
  .op ⟨10, some 15, .len (.t 14), some (11, true)⟩,
  .op ⟨11, some 16, .addr 1 (.t 3), some (11, true)⟩,
  .op ⟨12, some 17, .load (.one (.int .i64)) (.t 16), some (11, true)⟩,
  .op ⟨13, some 18, .bin .leq (.t 15) (.t 17), some (11, true)⟩,
  .op ⟨14, some 19, .pick (.t 11) (.t 18) (.c (.one (.bool false))), none⟩,
  .op ⟨15, some 4, .mv (.t 19), none⟩,
  .again ⟨4, some 9, .load (.one (.int .i64)) (.t 8), none⟩])
 (.ret))⟩
noncomputable def ref16_Plain_Fits (x0 : (Sl × Sl × Sl × Sl × Sl × Unit)) (x1 : (Int × Int × Int × Int × Unit)) (H : Heap) : Option ((Bool × Unit) × Heap) :=
 let H1 : Heap := H ++ [Blk.cells [.sl 3 x0.1, .sl 3 x0.2.1, .sl 1 x0.2.2.1, .sl 2 x0.2.2.2.1, .sl 1 x0.2.2.2.2.1] .exact]
 let H2 : Heap := H1 ++ [Blk.cells [.int .i64 x1.1, .int .i64 x1.2.1, .int .i64 x1.2.2.1, .int .i64 x1.2.2.2.1] .exact]
 Option.bind (α := (Sl × Sl × Sl × Sl × Unit)) (rd H2 (.agg [.sl 3, .sl 3, .sl 1, .sl 2]) H.length 0) fun (v3 : (Sl × Sl × Sl × Sl × Unit)) =>
 (rdI .i64 H2 H1.length 0).bind fun (v4 : Int) =>
 (ref08_State_Live (v3.1, v3.2.1, v3.2.2.1, v3.2.2.2.1, ()) H2).bind fun (r5 : ((Int × Unit) × Heap)) =>
 cond (decide (r5.1.1 ≤ v4)) (
 (rdSl 3 r5.2 H.length 1).bind fun (v6 : Sl) =>
 (rdI .i64 r5.2 H1.length 1).bind fun (v7 : Int) =>
 (rdI .i64 r5.2 H1.length 0).bind fun (v8 : Int) =>
 if V.w (.one (.int .i64 v8)) = V.w (.one (.int .i64 v4)) then
 some (((decide ((v6.len : Int) ≤ v7)), ()), r5.2)
 else none) (
 (rdI .i64 r5.2 H1.length 0).bind fun (v9 : Int) =>
 if V.w (.one (.int .i64 v9)) = V.w (.one (.int .i64 v4)) then
 some ((false, ()), r5.2)
 else none)
noncomputable def ref16_Plain_Fits.c : Callee := .full [.agg [.sl 3, .sl 3, .sl 1, .sl 2, .sl 1], .agg [.int .i64, .int .i64, .int .i64, .int .i64]] [.one .bool] (fun x H => ref16_Plain_Fits x.1 x.2.1 H)
noncomputable def ref16_Plain_Fits.calls : Nat → Option Callee
  | 0 => some ref08_State_Live.c
  | _ => none
theorem ref16_Plain_Fits.eq : evFull ref16_Plain_Fits.calls ref16_Plain_Fits.af = (fun x H => ref16_Plain_Fits x.1 x.2.1 H) := by kernel_rfl

/-! ### (tinderbox/tinderboxref16.Plain).Get -/
def ref16_Plain_Get.af : AFun := ⟨[.agg [.sl 3, .sl 3, .sl 1, .sl 2, .sl 1], .one (.int .i64), .one (.int .i64)], [.one .str, .one .bool], [.t 6, .t 7],
 .seq (.reg [.op ⟨0, some 3, .box (.t 0), none⟩,
  .op ⟨1, some 6, .mv (.c (.one (.str []))), none⟩,
  .op ⟨2, some 7, .mv (.c (.one (.bool false))), none⟩])
 (.seq (.reg [.op ⟨0, some 11, .addr 0 (.t 3), none⟩,
  .op ⟨1, some 12, .load (.agg [.sl 3, .sl 3, .sl 1, .sl 2]) (.t 11), none⟩,
  .op ⟨2, some 13, .mv (.t 1), none⟩,
  .op ⟨3, some 14, .mv (.t 2), none⟩,
  .op ⟨4, some 15, .call 0 [(.t 12), (.t 13), (.t 14)], none⟩,
  .op ⟨5, some 10, .mv (.t 15), none⟩,
  .op ⟨6, some 16, .ext (.t 10) 0, none⟩,
  .op ⟨7, some 17, .ext (.t 10) 1, none⟩,
  .op ⟨8, some 8, .mv (.t 16), none⟩,
  .op ⟨9, some 9, .mv (.t 17), none⟩])
 (.seq (.seq (.reg [.op ⟨0, some 18, .mv (.t 9), none⟩,
  .op ⟨1, some 19, .un .not (.t 18), none⟩,
  .op ⟨2, some 20, .mv (.t 19), none⟩,
  .op ⟨3, some 21, .mv (.t 8), some (20, false)⟩,
  .op ⟨4, some 22, .bin .lss (.t 21) (.c (.one (.int .i64 1000))), some (20, false)⟩,
  .op ⟨5, some 23, .pick (.t 20) (.c (.one (.bool true))) (.t 22), none⟩,
  .op ⟨6, some 24, .mv (.t 23), none⟩,
  .op ⟨7, some 25, .mv (.t 8), some (24, false)⟩,
  .op ⟨8, some 26, .bin .sub (.t 25) (.c (.one (.int .i64 1000))), some (24, false)⟩,
  .op ⟨9, some 27, .addr 4 (.t 3), some (24, false)⟩,
  .op ⟨10, some 28, .load (.one (.sl 1)) (.t 27), some (24, false)⟩,
  .op ⟨11, some 29, .len (.t 28), some (24, false)⟩,
  .op ⟨12, some 30, .bin .geq (.t 26) (.t 29), some (24, false)⟩,
  .op ⟨13, some 31, .pick (.t 24) (.c (.one (.bool true))) (.t 30), none⟩])
 (.cond (.t 31) (.seq (.reg [.op ⟨0, some 6, .mv (.c (.one (.str []))), none⟩,
  .op ⟨1, some 7, .mv (.c (.one (.bool false))), none⟩])
 (.ret)) (.skip)))
 (.seq (.reg [.op ⟨0, some 32, .addr 4 (.t 3), none⟩,
  .op ⟨1, some 33, .load (.one (.sl 1)) (.t 32), none⟩,
  .op ⟨2, some 34, .mv (.t 8), none⟩,
  .op ⟨3, some 35, .bin .sub (.t 34) (.c (.one (.int .i64 1000))), none⟩,
  .op ⟨4, some 36, .idxa 1 (.t 33) (.t 35), none⟩,
  .op ⟨5, some 37, .load (.one .str) (.t 36), none⟩,
  .op ⟨6, some 6, .mv (.t 37), none⟩,
  .op ⟨7, some 7, .mv (.c (.one (.bool true))), none⟩])
 (.ret))))⟩
noncomputable def ref16_Plain_Get (x0 : (Sl × Sl × Sl × Sl × Sl × Unit)) (x1 : Int) (x2 : Int) (H : Heap) : Option ((Bytes × Bool × Unit) × Heap) :=
 let H1 : Heap := H ++ [Blk.cells [.sl 3 x0.1, .sl 3 x0.2.1, .sl 1 x0.2.2.1, .sl 2 x0.2.2.2.1, .sl 1 x0.2.2.2.2.1] .exact]
 Option.bind (α := (Sl × Sl × Sl × Sl × Unit)) (rd H1 (.agg [.sl 3, .sl 3, .sl 1, .sl 2]) H.length 0) fun (v2 : (Sl × Sl × Sl × Sl × Unit)) =>
 (ref08_State_Get (v2.1, v2.2.1, v2.2.2.1, v2.2.2.2.1, ()) x1 x2 H1).bind fun (r3 : ((Int × Bool × Unit) × Heap)) =>
 cond (!r3.1.2.1) (
 some (([], false, ()), r3.2)) (
 cond (decide (r3.1.1 < 1000)) (
 some (([], false, ()), r3.2)) (
 (rdSl 1 r3.2 H.length 4).bind fun (v4 : Sl) =>
 cond (decide ((v4.len : Int) ≤ (IntKind.wrap .i64 (r3.1.1 - 1000)))) (
 some (([], false, ()), r3.2)) (
 (rdSl 1 r3.2 H.length 4).bind fun (v5 : Sl) =>
 (Sl.at 1 v5 (IntKind.wrap .i64 (r3.1.1 - 1000))).bind fun (a6 : (Nat × Nat)) =>
 (rdS r3.2 a6.1 a6.2).bind fun (v7 : Bytes) =>
 some ((v7, true, ()), r3.2))))
noncomputable def ref16_Plain_Get.c : Callee := .full [.agg [.sl 3, .sl 3, .sl 1, .sl 2, .sl 1], .one (.int .i64), .one (.int .i64)] [.one .str, .one .bool] (fun x H => ref16_Plain_Get x.1 x.2.1 x.2.2.1 H)
noncomputable def ref16_Plain_Get.calls : Nat → Option Callee
  | 0 => some ref08_State_Get.c
  | _ => none
theorem ref16_Plain_Get.eq : evFull ref16_Plain_Get.calls ref16_Plain_Get.af = (fun x H => ref16_Plain_Get x.1 x.2.1 x.2.2.1 H) := by kernel_rfl
end Ev
