/- What the functions of the package Weave compute: abstract code, and a function of plain Lean for each; the kernel checks that they are the same. Written by gen2.py. -/
import Derived.Test.YtpebaginkkbnpaaGreatEvCore
import Derived.Test.YtpebaginkkbnpaaGreatGRs
import Derived.KernelRfl
set_option linter.unusedVariables false
set_option maxRecDepth 100000
namespace Ev
open Go (IntKind BinOp UnOp)

/-! ### tinderbox/weave.ShapeOf -/
def weave_ShapeOf.af : AFun := ⟨[.one (.int .i64), .one (.int .i64)], [.agg [.int .i64, .int .i64, .int .i64, .int .i64], .one .bool], [.cell 4, .t 5],
 .seq (.reg [.op ⟨0, some 4, .new [.int .i64 0, .int .i64 0, .int .i64 0, .int .i64 0], none⟩,
  .op ⟨1, some 5, .mv (.c (.one (.bool false))), none⟩])
 (.seq (.seq (.reg [.op ⟨0, some 7, .mv (.t 0), none⟩,
  .op ⟨1, some 8, .bin .lss (.t 7) (.c (.one (.int .i64 1))), none⟩,
  .op ⟨2, some 9, .mv (.t 8), none⟩,
  .op ⟨3, some 10, .mv (.t 0), some (9, false)⟩,
  .op ⟨4, some 11, .bin .gtr (.t 10) (.c (.one (.int .i64 1024))), some (9, false)⟩,
  .op ⟨5, some 12, .pick (.t 9) (.c (.one (.bool true))) (.t 11), none⟩,
  .op ⟨6, some 13, .mv (.t 12), none⟩,
  .op ⟨7, some 14, .mv (.t 1), some (13, false)⟩,
  .op ⟨8, some 15, .bin .lss (.t 14) (.c (.one (.int .i64 2))), some (13, false)⟩,
  .op ⟨9, some 16, .pick (.t 13) (.c (.one (.bool true))) (.t 15), none⟩,
  .op ⟨10, some 17, .mv (.t 16), none⟩,
  .op ⟨11, some 18, .mv (.t 1), some (17, false)⟩,
  .op ⟨12, some 19, .bin .gtr (.t 18) (.c (.one (.int .i64 32))), some (17, false)⟩,
  .op ⟨13, some 20, .pick (.t 17) (.c (.one (.bool true))) (.t 19), none⟩])
 (.cond (.t 20) (.seq (.reg [.op ⟨0, some 21, .build [.int .i64 0, .int .i64 0, .int .i64 0, .int .i64 0] [], none⟩,
  .op ⟨1, none, .store 4 (.t 4) (.t 21), none⟩,
  .op ⟨2, some 5, .mv (.c (.one (.bool false))), none⟩])
 (.ret)) (.skip)))
 (.seq (.reg [.op ⟨0, some 6, .mv (.c (.one (.int .i64 1))), none⟩])
 (.seq (.block 0 (.loop [(6, .one (.int .i64))] [(.exit 0, [(6, .one (.int .i64))])] (.seq (.seq (.reg [.op ⟨0, some 22, .mv (.t 0), none⟩,
  .op ⟨1, some 23, .mv (.t 6), none⟩,
  .op ⟨2, some 24, .bin .add (.t 22) (.t 23), none⟩,
  .op ⟨3, some 25, .bin .sub (.t 24) (.c (.one (.int .i64 1))), none⟩,
  .op ⟨4, some 26, .mv (.t 6), none⟩,
  .op ⟨5, some 27, .bin .quo (.t 25) (.t 26), none⟩,
  .op ⟨6, some 28, .mv (.t 1), none⟩,
  .op ⟨7, some 29, .bin .add (.t 27) (.t 28), none⟩,
  .op ⟨8, some 30, .bin .gtr (.t 29) (.c (.one (.int .i64 127))), none⟩])
 (.cond (.t 30) (.skip) (.exit 0)))
 (.block 1 (.reg [.op ⟨0, some 31, .mv (.t 6), none⟩,
  .op ⟨1, some 32, .bin .add (.t 31) (.c (.one (.int .i64 1))), none⟩,
  .op ⟨2, some 6, .mv (.t 32), none⟩])))))
 (.seq (.reg [.op ⟨0, some 33, .mv (.t 6), none⟩,
  .op ⟨1, some 34, .mv (.t 0), none⟩,
  .op ⟨2, some 35, .mv (.t 6), none⟩,
  .op ⟨3, some 36, .bin .add (.t 34) (.t 35), none⟩,
  .op ⟨4, some 37, .bin .sub (.t 36) (.c (.one (.int .i64 1))), none⟩,
  .op ⟨5, some 38, .mv (.t 6), none⟩,
  .op ⟨6, some 39, .bin .quo (.t 37) (.t 38), none⟩,
  .op ⟨7, some 40, .mv (.t 1), none⟩,
  .op ⟨8, some 41, .mv (.t 0), none⟩,
  .op ⟨9, some 42, .mv (.t 6), none⟩,
  .op ⟨10, some 43, .mv (.t 1), none⟩,
  .op ⟨11, some 44, .bin .mul (.t 42) (.t 43), none⟩,
  .op ⟨12, some 45, .bin .add (.t 41) (.t 44), none⟩,
  .op ⟨13, some 46, .build [.int .i64 0, .int .i64 0, .int .i64 0, .int .i64 0] [(0, 1, (.t 33)), (1, 1, (.t 39)), (2, 1, (.t 40)), (3, 1, (.t 45))], none⟩,
  .op ⟨14, none, .store 4 (.t 4) (.t 46), none⟩,
  .op ⟨15, some 5, .mv (.c (.one (.bool true))), none⟩])
 (.ret)))))⟩
noncomputable def weave_ShapeOf.s1 (x0 : Int) (x1 : Int) (s10 : (Int × Unit)) (H11 : Heap) : Option (((Int × Unit) ⊕ (Int × Unit)) × Heap) :=
 cond (decide (s10.1 = 0)) none (
 cond (decide (127 < (IntKind.wrap .i64 ((IntKind.wrap .i64 (Int.tdiv (IntKind.wrap .i64 ((IntKind.wrap .i64 (x0 + s10.1)) - 1)) s10.1)) + x1)))) (
 some (Sum.inl ((IntKind.wrap .i64 (s10.1 + 1)), ()), H11)) (
 some (Sum.inr (s10.1, ()), H11)))
noncomputable def weave_ShapeOf.on (x0 : Int) (x1 : Int) (H : Heap) : Option ((Int × Int × Int × Int × Unit) × Bool × Unit) :=
 let H1 : Heap := H ++ [Blk.cells [.int .i64 0, .int .i64 0, .int .i64 0, .int .i64 0] .exact]
 cond (decide (x0 < 1)) (
 (wr H1 H.length 0 [.int .i64 0, .int .i64 0, .int .i64 0, .int .i64 0]).bind fun (H2 : Heap) =>
 Option.bind (α := (Int × Int × Int × Int × Unit)) (rd H2 (.agg [.int .i64, .int .i64, .int .i64, .int .i64]) H.length 0) fun (v3 : (Int × Int × Int × Int × Unit)) =>
 some (v3, false, ())) (
 cond (decide (1024 < x0)) (
 (wr H1 H.length 0 [.int .i64 0, .int .i64 0, .int .i64 0, .int .i64 0]).bind fun (H4 : Heap) =>
 Option.bind (α := (Int × Int × Int × Int × Unit)) (rd H4 (.agg [.int .i64, .int .i64, .int .i64, .int .i64]) H.length 0) fun (v5 : (Int × Int × Int × Int × Unit)) =>
 some (v5, false, ())) (
 cond (decide (x1 < 2)) (
 (wr H1 H.length 0 [.int .i64 0, .int .i64 0, .int .i64 0, .int .i64 0]).bind fun (H6 : Heap) =>
 Option.bind (α := (Int × Int × Int × Int × Unit)) (rd H6 (.agg [.int .i64, .int .i64, .int .i64, .int .i64]) H.length 0) fun (v7 : (Int × Int × Int × Int × Unit)) =>
 some (v7, false, ())) (
 cond (decide (32 < x1)) (
 (wr H1 H.length 0 [.int .i64 0, .int .i64 0, .int .i64 0, .int .i64 0]).bind fun (H8 : Heap) =>
 Option.bind (α := (Int × Int × Int × Int × Unit)) (rd H8 (.agg [.int .i64, .int .i64, .int .i64, .int .i64]) H.length 0) fun (v9 : (Int × Int × Int × Int × Unit)) =>
 some (v9, false, ())) (
 (loopW (weave_ShapeOf.s1 x0 x1) (1, ()) H1).bind fun (p12 : (Int × Unit) × Heap) =>
 cond (decide (p12.1.1 = 0)) none (
 (wr p12.2 H.length 0 [.int .i64 p12.1.1, .int .i64 (IntKind.wrap .i64 (Int.tdiv (IntKind.wrap .i64 ((IntKind.wrap .i64 (x0 + p12.1.1)) - 1)) p12.1.1)), .int .i64 x1, .int .i64 (IntKind.wrap .i64 (x0 + (IntKind.wrap .i64 (p12.1.1 * x1))))]).bind fun (H13 : Heap) =>
 Option.bind (α := (Int × Int × Int × Int × Unit)) (rd H13 (.agg [.int .i64, .int .i64, .int .i64, .int .i64]) H.length 0) fun (v14 : (Int × Int × Int × Int × Unit)) =>
 some (v14, true, ()))))))
noncomputable def weave_ShapeOf (x0 : Int) (x1 : Int) : Option ((Int × Int × Int × Int × Unit) × Bool × Unit) := weave_ShapeOf.on x0 x1 []
noncomputable def weave_ShapeOf.c : Callee := .pure [.one (.int .i64), .one (.int .i64)] [.agg [.int .i64, .int .i64, .int .i64, .int .i64], .one .bool] (fun x => weave_ShapeOf x.1 x.2.1)
noncomputable def weave_ShapeOf.calls : Nat → Option Callee
  | _ => none
theorem weave_ShapeOf.eq : evPure weave_ShapeOf.calls weave_ShapeOf.af = (fun x H => weave_ShapeOf.on x.1 x.2.1 H) := by kernel_rfl

/-! ### tinderbox/weave.fits -/
def weave_fits.af : AFun := ⟨[.agg [.int .i64, .int .i64, .int .i64, .int .i64]], [.one .bool], [.t 2],
 .seq (.reg [.op ⟨0, some 1, .box (.t 0), none⟩,
  .op ⟨1, some 2, .mv (.c (.one (.bool false))), none⟩])
 (.seq (.reg [.op ⟨0, some 6, .addr 3 (.t 1), none⟩,
  .op ⟨1, some 7, .load (.one (.int .i64)) (.t 6), none⟩,
  .op ⟨2, some 8, .addr 0 (.t 1), none⟩,
  .op ⟨3, some 9, .load (.one (.int .i64)) (.t 8), none⟩,
  .op ⟨4, some 10, .addr 2 (.t 1), none⟩,
  .op ⟨5, some 11, .load (.one (.int .i64)) (.t 10), none⟩,
  .op ⟨6, some 12, .bin .mul (.t 9) (.t 11), none⟩,
  .op ⟨7, some 13, .bin .sub (.t 7) (.t 12), none⟩,
  .op ⟨8, some 14, .addr 2 (.t 1), none⟩,
  .op ⟨9, some 15, .load (.one (.int .i64)) (.t 14), none⟩,
  .op ⟨10, some 16, .call 0 [(.t 13), (.t 15)], none⟩,
  .op ⟨11, some 5, .mv (.t 16), none⟩,
  .op ⟨12, some 17, .ext (.t 5) 0, none⟩,
  .op ⟨13, some 18, .ext (.t 5) 1, none⟩,
  .op ⟨14, some 3, .new [.int .i64 0, .int .i64 0, .int .i64 0, .int .i64 0], none⟩,
  .op ⟨15, none, .store 4 (.t 3) (.t 17), none⟩,
  .op ⟨16, some 4, .mv (.t 18), none⟩])
 (.seq (.reg [.op ⟨0, some 19, .mv (.t 4), none⟩,
  .op ⟨1, some 20, .mv (.t 19), none⟩,
  .op ⟨2, some 21, .load (.agg [.int .i64, .int .i64, .int .i64, .int .i64]) (.t 3), some (20, true)⟩,
  .op ⟨3, some 22, .load (.agg [.int .i64, .int .i64, .int .i64, .int .i64]) (.t 1), some (20, true)⟩,
  .op ⟨4, some 23, .eqagg false [.int .i64, .int .i64, .int .i64, .int .i64] (.t 21) (.t 22), some (20, true)⟩,
  .op ⟨5, some 24, .pick (.t 20) (.t 23) (.c (.one (.bool false))), none⟩,
  .op ⟨6, some 2, .mv (.t 24), none⟩])
 (.ret)))⟩
noncomputable def weave_fits.on (x0 : (Int × Int × Int × Int × Unit)) (H : Heap) : Option (Bool × Unit) :=
 let H1 : Heap := H ++ [Blk.cells [.int .i64 x0.1, .int .i64 x0.2.1, .int .i64 x0.2.2.1, .int .i64 x0.2.2.2.1] .exact]
 (rdI .i64 H1 H.length 3).bind fun (v2 : Int) =>
 (rdI .i64 H1 H.length 0).bind fun (v3 : Int) =>
 (rdI .i64 H1 H.length 2).bind fun (v4 : Int) =>
 (rdI .i64 H1 H.length 2).bind fun (v5 : Int) =>
 (weave_ShapeOf (IntKind.wrap .i64 (v2 - (IntKind.wrap .i64 (v3 * v4)))) v5).bind fun (r6 : ((Int × Int × Int × Int × Unit) × Bool × Unit)) =>
 let H7 : Heap := H1 ++ [Blk.cells [.int .i64 0, .int .i64 0, .int .i64 0, .int .i64 0] .exact]
 (wr H7 H1.length 0 [.int .i64 r6.1.1, .int .i64 r6.1.2.1, .int .i64 r6.1.2.2.1, .int .i64 r6.1.2.2.2.1]).bind fun (H8 : Heap) =>
 cond r6.2.1 (
 Option.bind (α := (Int × Int × Int × Int × Unit)) (rd H8 (.agg [.int .i64, .int .i64, .int .i64, .int .i64]) H1.length 0) fun (v9 : (Int × Int × Int × Int × Unit)) =>
 Option.bind (α := (Int × Int × Int × Int × Unit)) (rd H8 (.agg [.int .i64, .int .i64, .int .i64, .int .i64]) H.length 0) fun (v10 : (Int × Int × Int × Int × Unit)) =>
 some (((decide (v9.1 = v10.1)) && ((decide (v9.2.1 = v10.2.1)) && ((decide (v9.2.2.1 = v10.2.2.1)) && ((decide (v9.2.2.2.1 = v10.2.2.2.1)) && true)))), ())) (
 some (false, ()))
noncomputable def weave_fits (x0 : (Int × Int × Int × Int × Unit)) : Option (Bool × Unit) := weave_fits.on x0 []
noncomputable def weave_fits.c : Callee := .pure [.agg [.int .i64, .int .i64, .int .i64, .int .i64]] [.one .bool] (fun x => weave_fits x.1)
noncomputable def weave_fits.calls : Nat → Option Callee
  | 0 => some weave_ShapeOf.c
  | _ => none
theorem weave_fits.eq : evPure weave_fits.calls weave_fits.af = (fun x H => weave_fits.on x.1 H) := by kernel_rfl

/-! ### tinderbox/weave.Mask -/
def weave_Mask.af : AFun := ⟨[.one (.int .i64), .one (.int .i64)], [.one .str], [.t 4],
 .seq (.reg [.op ⟨0, some 4, .mv (.c (.one (.str []))), none⟩])
 (.seq (.reg [.op ⟨0, some 9, .mv (.t 0), none⟩,
  .op ⟨1, some 10, .conv .u64 (.t 9), none⟩,
  .op ⟨2, some 11, .bin .mul (.t 10) (.c (.one (.int .u64 40503))), none⟩,
  .op ⟨3, some 12, .conv .u16 (.t 11), none⟩,
  .op ⟨4, some 13, .bin .xor (.c (.one (.int .u16 44257))) (.t 12), none⟩,
  .op ⟨5, some 5, .mv (.t 13), none⟩])
 (.seq (.scope [(.normal, [(5, .one (.int .u16))])] (.seq (.reg [.op ⟨0, some 14, .mv (.t 5), none⟩,
  .op ⟨1, some 15, .bin .eql (.t 14) (.c (.one (.int .u16 0))), none⟩])
 (.cond (.t 15) (.reg [.op ⟨0, some 5, .mv (.c (.one (.int .u16 44257))), none⟩]) (.skip))))
 (.seq (.reg [.op ⟨0, some 16, .mv (.t 1), none⟩,
  .op ⟨1, some 17, .max [(.t 16), (.c (.one (.int .i64 0)))], none⟩,
  .op ⟨2, some 18, .mk 1 1 [.int .u8 0] (.t 17) (.t 17), none⟩,
  .op ⟨3, some 6, .mv (.t 18), none⟩])
 (.seq (.seq (.reg [.op ⟨0, some 19, .mv (.t 6), none⟩,
  .op ⟨1, some 20, .len (.t 19), none⟩,
  .op ⟨2, some 21, .mv (.c (.one (.int .i64 0))), none⟩])
 (.block 0 (.loop [(5, .one (.int .u16)), (21, .one (.int .i64))] [(.exit 0, [])] (.seq (.reg [.op ⟨0, some 22, .bin .lss (.t 21) (.t 20), none⟩])
 (.seq (.cond (.t 22) (.skip) (.exit 0))
 (.seq (.block 1 (.seq (.reg [.op ⟨0, some 23, .mv (.t 21), none⟩,
  .op ⟨1, some 7, .mv (.t 23), none⟩])
 (.seq (.seq (.reg [.op ⟨0, some 24, .mv (.c (.one (.int .i64 0))), none⟩])
 (.block 2 (.loop [(5, .one (.int .u16)), (24, .one (.int .i64))] [(.exit 2, [(5, .one (.int .u16))])] (.seq (.reg [.op ⟨0, some 25, .bin .lss (.t 24) (.c (.one (.int .i64 8))), none⟩])
 (.seq (.cond (.t 25) (.skip) (.exit 2))
 (.seq (.block 3 (.seq (.reg [.op ⟨0, some 26, .mv (.t 5), none⟩,
  .op ⟨1, some 27, .bin .and (.t 26) (.c (.one (.int .u16 1))), none⟩,
  .op ⟨2, some 8, .mv (.t 27), none⟩])
 (.seq (.reg [.op ⟨0, some 28, .mv (.t 5), none⟩,
  .op ⟨1, some 29, .bin .shr (.t 28) (.c (.one (.int .u64 1))), none⟩,
  .op ⟨2, some 5, .mv (.t 29), none⟩])
 (.seq (.reg [.op ⟨0, some 30, .mv (.t 8), none⟩,
  .op ⟨1, some 31, .bin .eql (.t 30) (.c (.one (.int .u16 1))), none⟩])
 (.cond (.t 31) (.reg [.op ⟨0, some 32, .mv (.t 5), none⟩,
  .op ⟨1, some 33, .bin .xor (.t 32) (.c (.one (.int .u16 46080))), none⟩,
  .op ⟨2, some 5, .mv (.t 33), none⟩]) (.skip))))))
 (.reg [.op ⟨0, some 34, .bin .add (.t 24) (.c (.one (.int .i64 1))), none⟩,
  .op ⟨1, some 24, .mv (.t 34), none⟩])))))))
 (.reg [.op ⟨0, some 35, .mv (.t 6), none⟩,
  .op ⟨1, some 36, .mv (.t 7), none⟩,
  .op ⟨2, some 37, .mv (.t 5), none⟩,
  .op ⟨3, some 38, .conv .u8 (.t 37), none⟩,
  .op ⟨4, some 39, .idxa 1 (.t 35) (.t 36), none⟩,
  .op ⟨5, none, .store 1 (.t 39) (.t 38), none⟩]))))
 (.reg [.op ⟨0, some 40, .bin .add (.t 21) (.c (.one (.int .i64 1))), none⟩,
  .op ⟨1, some 21, .mv (.t 40), none⟩])))))))
 (.seq (.reg [.op ⟨0, some 41, .mv (.t 6), none⟩,
  .op ⟨1, some 42, .b2s (.t 41), none⟩,
  .op ⟨2, some 4, .mv (.t 42), none⟩])
 (.ret))))))⟩
noncomputable def weave_Mask.s1 (s6 : (Int × Int × Unit)) (H7 : Heap) : Option (((Int × Int × Unit) ⊕ (Int × Unit)) × Heap) :=
 cond (decide (s6.2.1 < 8)) (
 cond (decide ((bitsI .and .u16 s6.1 1) = 1)) (
 some (Sum.inl ((bitsI .xor .u16 (Int.fdiv s6.1 (2 ^ (min (Int.toNat 1) (IntKind.bits .u16)))) 46080), (IntKind.wrap .i64 (s6.2.1 + 1)), ()), H7)) (
 some (Sum.inl ((Int.fdiv s6.1 (2 ^ (min (Int.toNat 1) (IntKind.bits .u16)))), (IntKind.wrap .i64 (s6.2.1 + 1)), ()), H7))) (
 some (Sum.inr (s6.1, ()), H7))
noncomputable def weave_Mask.s2 (p3 : (Sl × Heap)) (s4 : (Int × Int × Unit)) (H5 : Heap) : Option (((Int × Int × Unit) ⊕ (Unit)) × Heap) :=
 cond (decide (s4.2.1 < (p3.1.len : Int))) (
 (loopW (weave_Mask.s1) (s4.1, 0, ()) H5).bind fun (p8 : (Int × Unit) × Heap) =>
 (Sl.at 1 p3.1 s4.2.1).bind fun (a9 : (Nat × Nat)) =>
 (wr p8.2 a9.1 a9.2 [.int .u8 (IntKind.wrap .u8 p8.1.1)]).bind fun (H10 : Heap) =>
 some (Sum.inl (p8.1.1, (IntKind.wrap .i64 (s4.2.1 + 1)), ()), H10)) (
 some (Sum.inr (()), H5))
noncomputable def weave_Mask.on (x0 : Int) (x1 : Int) (H : Heap) : Option (Bytes × Unit) :=
 (cond (decide ((bitsI .xor .u16 44257 (IntKind.wrap .u16 (IntKind.wrap .u64 ((IntKind.wrap .u64 x0) * 40503)))) = 0)) (
 some ((44257, ()), H)) (
 some (((bitsI .xor .u16 44257 (IntKind.wrap .u16 (IntKind.wrap .u64 ((IntKind.wrap .u64 x0) * 40503)))), ()), H)) : Option ((Int × Unit) × Heap)).bind fun (p1 : (Int × Unit) × Heap) =>
 let n2 : Int := (if 0 > x1 then 0 else x1)
 (mkS p1.2 1 [.int .u8 0] n2 n2).bind fun (p3 : (Sl × Heap)) =>
 (loopW (weave_Mask.s2 p3) (p1.1.1, 0, ()) p3.2).bind fun (p11 : (Unit) × Heap) =>
 (strOf p11.2 p3.1).bind fun (s12 : Bytes) =>
 some (s12, ())
noncomputable def weave_Mask (x0 : Int) (x1 : Int) : Option (Bytes × Unit) := weave_Mask.on x0 x1 []
noncomputable def weave_Mask.c : Callee := .pure [.one (.int .i64), .one (.int .i64)] [.one .str] (fun x => weave_Mask x.1 x.2.1)
noncomputable def weave_Mask.calls : Nat → Option Callee
  | _ => none
theorem weave_Mask.eq : evPure weave_Mask.calls weave_Mask.af = (fun x H => weave_Mask.on x.1 x.2.1 H) := by kernel_rfl

/-! ### tinderbox/weave.Mix -/
def weave_Mix.af : AFun := ⟨[.one .str, .one .str], [.one .str], [.t 4],
 .seq (.reg [.op ⟨0, some 4, .mv (.c (.one (.str []))), none⟩])
 (.seq (.reg [.op ⟨0, some 7, .mv (.t 0), none⟩,
  .op ⟨1, some 8, .lens (.t 7), none⟩,
  .op ⟨2, some 9, .mv (.t 1), none⟩,
  .op ⟨3, some 10, .lens (.t 9), none⟩,
  .op ⟨4, some 11, .min [(.t 8), (.t 10)], none⟩,
  .op ⟨5, some 12, .mk 1 1 [.int .u8 0] (.t 11) (.t 11), none⟩,
  .op ⟨6, some 5, .mv (.t 12), none⟩])
 (.seq (.seq (.reg [.op ⟨0, some 13, .mv (.t 5), none⟩,
  .op ⟨1, some 14, .len (.t 13), none⟩,
  .op ⟨2, some 15, .mv (.c (.one (.int .i64 0))), none⟩])
 (.block 0 (.loop [(15, .one (.int .i64))] [(.exit 0, [])] (.seq (.reg [.op ⟨0, some 16, .bin .lss (.t 15) (.t 14), none⟩])
 (.seq (.cond (.t 16) (.skip) (.exit 0))
 (.seq (.block 1 (.seq (.reg [.op ⟨0, some 17, .mv (.t 15), none⟩,
  .op ⟨1, some 6, .mv (.t 17), none⟩])
 (.reg [.op ⟨0, some 18, .mv (.t 5), none⟩,
  .op ⟨1, some 19, .mv (.t 6), none⟩,
  .op ⟨2, some 20, .mv (.t 0), none⟩,
  .op ⟨3, some 21, .mv (.t 6), none⟩,
  .op ⟨4, some 22, .index (.t 20) (.t 21), none⟩,
  .op ⟨5, some 23, .mv (.t 1), none⟩,
  .op ⟨6, some 24, .mv (.t 6), none⟩,
  .op ⟨7, some 25, .index (.t 23) (.t 24), none⟩,
  .op ⟨8, some 26, .bin .xor (.t 22) (.t 25), none⟩,
  .op ⟨9, some 27, .idxa 1 (.t 18) (.t 19), none⟩,
  .op ⟨10, none, .store 1 (.t 27) (.t 26), none⟩])))
 (.reg [.op ⟨0, some 28, .bin .add (.t 15) (.c (.one (.int .i64 1))), none⟩,
  .op ⟨1, some 15, .mv (.t 28), none⟩])))))))
 (.seq (.reg [.op ⟨0, some 29, .mv (.t 5), none⟩,
  .op ⟨1, some 30, .b2s (.t 29), none⟩,
  .op ⟨2, some 4, .mv (.t 30), none⟩])
 (.ret))))⟩
noncomputable def weave_Mix.s1 (x0 : Bytes) (x1 : Bytes) (p2 : (Sl × Heap)) (s3 : (Int × Unit)) (H4 : Heap) : Option (((Int × Unit) ⊕ (Unit)) × Heap) :=
 cond (decide (s3.1 < (p2.1.len : Int))) (
 (idxS x0 s3.1).bind fun (n5 : Int) =>
 (idxS x1 s3.1).bind fun (n6 : Int) =>
 (Sl.at 1 p2.1 s3.1).bind fun (a7 : (Nat × Nat)) =>
 (wr H4 a7.1 a7.2 [.int .u8 (bitsI .xor .u8 n5 n6)]).bind fun (H8 : Heap) =>
 some (Sum.inl ((IntKind.wrap .i64 (s3.1 + 1)), ()), H8)) (
 some (Sum.inr (()), H4))
noncomputable def weave_Mix.on (x0 : Bytes) (x1 : Bytes) (H : Heap) : Option (Bytes × Unit) :=
 let n1 : Int := (if (List.length (x1 : Bytes) : Int) < (List.length (x0 : Bytes) : Int) then (List.length (x1 : Bytes) : Int) else (List.length (x0 : Bytes) : Int))
 (mkS H 1 [.int .u8 0] n1 n1).bind fun (p2 : (Sl × Heap)) =>
 (loopW (weave_Mix.s1 x0 x1 p2) (0, ()) p2.2).bind fun (p9 : (Unit) × Heap) =>
 (strOf p9.2 p2.1).bind fun (s10 : Bytes) =>
 some (s10, ())
noncomputable def weave_Mix (x0 : Bytes) (x1 : Bytes) : Option (Bytes × Unit) := weave_Mix.on x0 x1 []
noncomputable def weave_Mix.c : Callee := .pure [.one .str, .one .str] [.one .str] (fun x => weave_Mix x.1 x.2.1)
noncomputable def weave_Mix.calls : Nat → Option Callee
  | _ => none
theorem weave_Mix.eq : evPure weave_Mix.calls weave_Mix.af = (fun x H => weave_Mix.on x.1 x.2.1 H) := by kernel_rfl

/-! ### tinderbox/weave.Encode -/
def weave_Encode.af : AFun := ⟨[.one .str, .agg [.int .i64, .int .i64, .int .i64, .int .i64], .one (.int .i64)], [.one .str, .one (.int .i64)], [.t 6, .t 7],
 .seq (.reg [.op ⟨0, some 4, .box (.t 1), none⟩,
  .op ⟨1, some 6, .mv (.c (.one (.str []))), none⟩,
  .op ⟨2, some 7, .mv (.c (.one (.int .i64 0))), none⟩])
 (.seq (.seq (.reg [.op ⟨0, some 15, .load (.agg [.int .i64, .int .i64, .int .i64, .int .i64]) (.t 4), none⟩,
  .op ⟨1, some 16, .call 0 [(.t 15)], none⟩,
  .op ⟨2, some 17, .un .not (.t 16), none⟩,
  .op ⟨3, some 18, .mv (.t 17), none⟩,
  .op ⟨4, some 19, .mv (.t 0), some (18, false)⟩,
  .op ⟨5, some 20, .lens (.t 19), some (18, false)⟩,
  .op ⟨6, some 21, .addr 3 (.t 4), some (18, false)⟩,
  .op ⟨7, some 22, .load (.one (.int .i64)) (.t 21), some (18, false)⟩,
  .op ⟨8, some 23, .addr 0 (.t 4), some (18, false)⟩,
  .op ⟨9, some 24, .load (.one (.int .i64)) (.t 23), some (18, false)⟩,
  .op ⟨10, some 25, .addr 2 (.t 4), some (18, false)⟩,
  .op ⟨11, some 26, .load (.one (.int .i64)) (.t 25), some (18, false)⟩,
  .op ⟨12, some 27, .bin .mul (.t 24) (.t 26), some (18, false)⟩,
  .op ⟨13, some 28, .bin .sub (.t 22) (.t 27), some (18, false)⟩,
  .op ⟨14, some 29, .bin .neq (.t 20) (.t 28), some (18, false)⟩,
  .op ⟨15, some 30, .pick (.t 18) (.c (.one (.bool true))) (.t 29), none⟩])
 (.cond (.t 30) (.seq (.reg [.op ⟨0, some 6, .mv (.c (.one (.str []))), none⟩,
  .op ⟨1, some 7, .mv (.c (.one (.int .i64 1))), none⟩])
 (.ret)) (.skip)))
 (.seq (.reg [.op ⟨0, some 31, .mv (.t 0), none⟩,
  .op ⟨1, some 32, .mv (.t 2), none⟩,
  .op ⟨2, some 33, .mv (.t 0), none⟩,
  .op ⟨3, some 34, .lens (.t 33), none⟩,
  .op ⟨4, some 35, .call 1 [(.t 32), (.t 34)], none⟩,
  .op ⟨5, some 36, .call 2 [(.t 31), (.t 35)], none⟩,
  .op ⟨6, some 8, .mv (.t 36), none⟩])
 (.seq (.reg [.op ⟨0, some 37, .addr 3 (.t 4), none⟩,
  .op ⟨1, some 38, .load (.one (.int .i64)) (.t 37), none⟩,
  .op ⟨2, some 39, .mk 1 1 [.int .u8 0] (.c (.one (.int .i64 0))) (.t 38), none⟩,
  .op ⟨3, some 9, .mv (.t 39), none⟩])
 (.seq (.reg [.op ⟨0, some 40, .mv (.t 9), none⟩,
  .op ⟨1, some 41, .mv (.t 8), none⟩,
  .op ⟨2, some 42, .app 1 1 (.t 40) (.t 41), none⟩,
  .op ⟨3, some 9, .mv (.t 42), none⟩])
 (.seq (.reg [.op ⟨0, some 43, .addr 0 (.t 4), none⟩,
  .op ⟨1, some 44, .load (.one (.int .i64)) (.t 43), none⟩,
  .op ⟨2, some 45, .mk 1 16 [.str []] (.t 44) (.t 44), none⟩,
  .op ⟨3, some 10, .mv (.t 45), none⟩])
 (.seq (.seq (.reg [.op ⟨0, some 46, .mv (.t 10), none⟩,
  .op ⟨1, some 47, .len (.t 46), none⟩,
  .op ⟨2, some 48, .mv (.c (.one (.int .i64 0))), none⟩])
 (.block 0 (.loop [(48, .one (.int .i64))] [(.exit 0, []), (.ret, [(6, .one .str), (7, .one (.int .i64))])] (.seq (.reg [.op ⟨0, some 49, .bin .lss (.t 48) (.t 47), none⟩])
 (.seq (.cond (.t 49) (.skip) (.exit 0))
 (.seq (.block 1 (.seq (.reg [.op ⟨0, some 50, .mv (.t 48), none⟩,
  .op ⟨1, some 11, .mv (.t 50), none⟩])
 (.seq (.reg [.op ⟨0, some 52, .mv (.t 8), none⟩,
  .op ⟨1, some 53, .load (.agg [.int .i64, .int .i64, .int .i64, .int .i64]) (.t 4), none⟩,
  .op ⟨2, some 54, .mv (.t 11), none⟩,
  .op ⟨3, some 55, .call 3 [(.t 52), (.t 53), (.t 54)], none⟩,
  .op ⟨4, some 56, .addr 2 (.t 4), none⟩,
  .op ⟨5, some 57, .load (.one (.int .i64)) (.t 56), none⟩,
  .op ⟨6, some 58, .call 4 [(.t 55), (.t 57)], none⟩,
  .op ⟨7, some 51, .mv (.t 58), none⟩,
  .op ⟨8, some 59, .ext (.t 51) 0, none⟩,
  .op ⟨9, some 60, .ext (.t 51) 1, none⟩,
  .op ⟨10, some 12, .mv (.t 59), none⟩,
  .op ⟨11, some 13, .mv (.t 60), none⟩])
 (.seq (.seq (.reg [.op ⟨0, some 61, .mv (.t 13), none⟩,
  .op ⟨1, some 62, .bin .neq (.t 61) (.c (.one (.int .i64 0))), none⟩])
 (.cond (.t 62) (.seq (.reg [.op ⟨0, some 63, .mv (.t 13), none⟩,
  .op ⟨1, some 6, .mv (.c (.one (.str []))), none⟩,
  .op ⟨2, some 7, .mv (.t 63), none⟩])
 (.ret)) (.skip)))
 (.reg [.op ⟨0, some 64, .mv (.t 10), none⟩,
  .op ⟨1, some 65, .mv (.t 11), none⟩,
  .op ⟨2, some 66, .mv (.t 12), none⟩,
  .op ⟨3, some 67, .mv (.t 12), none⟩,
  .op ⟨4, some 68, .lens (.t 67), none⟩,
  .op ⟨5, some 69, .addr 2 (.t 4), none⟩,
  .op ⟨6, some 70, .load (.one (.int .i64)) (.t 69), none⟩,
  .op ⟨7, some 71, .bin .sub (.t 68) (.t 70), none⟩,
  .op ⟨8, some 72, .slstr (.t 66) (some (.t 71)) none, none⟩,
  .op ⟨9, some 73, .idxa 1 (.t 64) (.t 65), none⟩,
  .op ⟨10, none, .store 1 (.t 73) (.t 72), none⟩])))))
 (.reg [.op ⟨0, some 74, .bin .add (.t 48) (.c (.one (.int .i64 1))), none⟩,
  .op ⟨1, some 48, .mv (.t 74), none⟩])))))))
 (.seq (.seq (.reg [.op ⟨0, some 75, .addr 0 (.t 4), none⟩,
  .op ⟨1, some 76, .load (.one (.int .i64)) (.t 75), none⟩,
  .op ⟨2, some 77, .addr 2 (.t 4), none⟩,
  .op ⟨3, some 78, .load (.one (.int .i64)) (.t 77), none⟩,
  .op ⟨4, some 79, .bin .mul (.t 76) (.t 78), none⟩,
  .op ⟨5, some 80, .mv (.c (.one (.int .i64 0))), none⟩])
 (.block 2 (.loop [(9, .one (.sl 1)), (80, .one (.int .i64))] [(.exit 2, [(9, .one (.sl 1))])] (.seq (.reg [.op ⟨0, some 81, .bin .lss (.t 80) (.t 79), none⟩])
 (.seq (.cond (.t 81) (.skip) (.exit 2))
 (.seq (.block 3 (.seq (.reg [.op ⟨0, some 82, .mv (.t 80), none⟩,
  .op ⟨1, some 14, .mv (.t 82), none⟩])
 (.reg [.op ⟨0, some 83, .mv (.t 9), none⟩,
  .op ⟨1, some 84, .mv (.t 10), none⟩,
  .op ⟨2, some 85, .mv (.t 0), none⟩,
  .op ⟨3, some 86, .lens (.t 85), none⟩,
  .op ⟨4, some 87, .mv (.t 14), none⟩,
  .op ⟨5, some 88, .bin .add (.t 86) (.t 87), none⟩,
  .op ⟨6, some 89, .addr 0 (.t 4), none⟩,
  .op ⟨7, some 90, .load (.one (.int .i64)) (.t 89), none⟩,
  .op ⟨8, some 91, .bin .rem (.t 88) (.t 90), none⟩,
  .op ⟨9, some 92, .idxa 1 (.t 84) (.t 91), none⟩,
  .op ⟨10, some 93, .load (.one .str) (.t 92), none⟩,
  .op ⟨11, some 94, .mv (.t 14), none⟩,
  .op ⟨12, some 95, .addr 0 (.t 4), none⟩,
  .op ⟨13, some 96, .load (.one (.int .i64)) (.t 95), none⟩,
  .op ⟨14, some 97, .bin .quo (.t 94) (.t 96), none⟩,
  .op ⟨15, some 98, .index (.t 93) (.t 97), none⟩,
  .op ⟨16, some 99, .bslice 1 1 [.int .u8 0] [(0, 1, (.t 98))], none⟩,
  .op ⟨17, some 100, .app 1 1 (.t 83) (.t 99), none⟩,
  .op ⟨18, some 9, .mv (.t 100), none⟩])))
 (.reg [.op ⟨0, some 101, .bin .add (.t 80) (.c (.one (.int .i64 1))), none⟩,
  .op ⟨1, some 80, .mv (.t 101), none⟩])))))))
 (.seq (.reg [.op ⟨0, some 102, .mv (.t 9), none⟩,
  .op ⟨1, some 103, .b2s (.t 102), none⟩,
  .op ⟨2, some 6, .mv (.t 103), none⟩,
  .op ⟨3, some 7, .mv (.c (.one (.int .i64 0))), none⟩])
 (.ret)))))))))⟩
noncomputable def weave_Encode.s1 (H : Heap) (r8 : (Bytes × Unit)) (p13 : (Sl × Heap)) (s14 : (Int × Unit)) (H15 : Heap) : Option (((Int × Unit) ⊕ ((Unit) ⊕ (Bytes × Int × Unit))) × Heap) :=
 cond (decide (s14.1 < (p13.1.len : Int))) (
 Option.bind (α := (Int × Int × Int × Int × Unit)) (rd H15 (.agg [.int .i64, .int .i64, .int .i64, .int .i64]) H.length 0) fun (v16 : (Int × Int × Int × Int × Unit)) =>
 (weave_part r8.1 (v16.1, v16.2.1, v16.2.2.1, v16.2.2.2.1, ()) s14.1).bind fun (r17 : (Bytes × Unit)) =>
 (rdI .i64 H15 H.length 2).bind fun (v18 : Int) =>
 (rs_Encode r17.1 v18).bind fun (r19 : (Bytes × Int × Unit)) =>
 cond (!decide (r19.2.1 = 0)) (
 some (Sum.inr (Sum.inr ([], r19.2.1, ())), H15)) (
 (rdI .i64 H15 H.length 2).bind fun (v20 : Int) =>
 (subS r19.1 (IntKind.wrap .i64 ((List.length (r19.1 : Bytes) : Int) - v20)) (List.length (r19.1 : Bytes) : Int)).bind fun (s21 : Bytes) =>
 (Sl.at 1 p13.1 s14.1).bind fun (a22 : (Nat × Nat)) =>
 (wr H15 a22.1 a22.2 [.str s21]).bind fun (H23 : Heap) =>
 some (Sum.inl ((IntKind.wrap .i64 (s14.1 + 1)), ()), H23))) (
 some (Sum.inr (Sum.inl (())), H15))
noncomputable def weave_Encode.s2 (x0 : Bytes) (H : Heap) (p13 : (Sl × Heap)) (v26 : Int) (v27 : Int) (s28 : (Sl × Int × Unit)) (H29 : Heap) : Option (((Sl × Int × Unit) ⊕ (Sl × Unit)) × Heap) :=
 cond (decide (s28.2.1 < (IntKind.wrap .i64 (v26 * v27)))) (
 (rdI .i64 H29 H.length 0).bind fun (v30 : Int) =>
 cond (decide (v30 = 0)) none (
 (Sl.at 1 p13.1 (Int.tmod (IntKind.wrap .i64 ((List.length (x0 : Bytes) : Int) + s28.2.1)) v30)).bind fun (a31 : (Nat × Nat)) =>
 (rdS H29 a31.1 a31.2).bind fun (v32 : Bytes) =>
 (rdI .i64 H29 H.length 0).bind fun (v33 : Int) =>
 cond (decide (v33 = 0)) none (
 (idxS v32 (IntKind.wrap .i64 (Int.tdiv s28.2.1 v33))).bind fun (n34 : Int) =>
 let H35 : Heap := H29 ++ [Blk.cells [.int .u8 n34] .exact]
 (slRow H35 1 (⟨some (H29.length, 0), 1, 1⟩)).bind fun (cs36 : (List C)) =>
 (appS H35 1 1 s28.1 1 cs36).bind fun (p37 : (Sl × Heap)) =>
 some (Sum.inl (p37.1, (IntKind.wrap .i64 (s28.2.1 + 1)), ()), p37.2)))) (
 some (Sum.inr (s28.1, ()), H29))
noncomputable def weave_Encode.on (x0 : Bytes) (x1 : (Int × Int × Int × Int × Unit)) (x2 : Int) (H : Heap) : Option (Bytes × Int × Unit) :=
 let H1 : Heap := H ++ [Blk.cells [.int .i64 x1.1, .int .i64 x1.2.1, .int .i64 x1.2.2.1, .int .i64 x1.2.2.2.1] .exact]
 Option.bind (α := (Int × Int × Int × Int × Unit)) (rd H1 (.agg [.int .i64, .int .i64, .int .i64, .int .i64]) H.length 0) fun (v2 : (Int × Int × Int × Int × Unit)) =>
 (weave_fits (v2.1, v2.2.1, v2.2.2.1, v2.2.2.2.1, ())).bind fun (r3 : (Bool × Unit)) =>
 cond (!r3.1) (
 some ([], 1, ())) (
 (rdI .i64 H1 H.length 3).bind fun (v4 : Int) =>
 (rdI .i64 H1 H.length 0).bind fun (v5 : Int) =>
 (rdI .i64 H1 H.length 2).bind fun (v6 : Int) =>
 cond (!decide ((List.length (x0 : Bytes) : Int) = (IntKind.wrap .i64 (v4 - (IntKind.wrap .i64 (v5 * v6)))))) (
 some ([], 1, ())) (
 (weave_Mask x2 (List.length (x0 : Bytes) : Int)).bind fun (r7 : (Bytes × Unit)) =>
 (weave_Mix x0 r7.1).bind fun (r8 : (Bytes × Unit)) =>
 (rdI .i64 H1 H.length 3).bind fun (v9 : Int) =>
 (mkS H1 1 [.int .u8 0] 0 v9).bind fun (p10 : (Sl × Heap)) =>
 (appS p10.2 1 1 p10.1 (List.length (r8.1 : Bytes)) (cellsOf r8.1)).bind fun (p11 : (Sl × Heap)) =>
 (rdI .i64 p11.2 H.length 0).bind fun (v12 : Int) =>
 (mkS p11.2 16 [.str []] v12 v12).bind fun (p13 : (Sl × Heap)) =>
 (loopW (weave_Encode.s1 H r8 p13) (0, ()) p13.2).bind fun (p24 : ((Unit) ⊕ (Bytes × Int × Unit)) × Heap) =>
 Sum.elim (fun (y25 : (Unit)) =>
 (rdI .i64 p24.2 H.length 0).bind fun (v26 : Int) =>
 (rdI .i64 p24.2 H.length 2).bind fun (v27 : Int) =>
 (loopW (weave_Encode.s2 x0 H p13 v26 v27) (p11.1, 0, ()) p24.2).bind fun (p38 : (Sl × Unit) × Heap) =>
 (strOf p38.2 p38.1.1).bind fun (s39 : Bytes) =>
 some (s39, 0, ())) (fun (z40 : (Bytes × Int × Unit)) =>
 some (z40.1, z40.2.1, ())) p24.1))
noncomputable def weave_Encode (x0 : Bytes) (x1 : (Int × Int × Int × Int × Unit)) (x2 : Int) : Option (Bytes × Int × Unit) := weave_Encode.on x0 x1 x2 []
noncomputable def weave_Encode.c : Callee := .pure [.one .str, .agg [.int .i64, .int .i64, .int .i64, .int .i64], .one (.int .i64)] [.one .str, .one (.int .i64)] (fun x => weave_Encode x.1 x.2.1 x.2.2.1)
noncomputable def weave_Encode.calls : Nat → Option Callee
  | 0 => some weave_fits.c
  | 1 => some weave_Mask.c
  | 2 => some weave_Mix.c
  | 3 => some weave_part.c
  | 4 => some rs_Encode.c
  | _ => none
theorem weave_Encode.eq : evPure weave_Encode.calls weave_Encode.af = (fun x H => weave_Encode.on x.1 x.2.1 x.2.2.1 H) := by kernel_rfl

/-! ### tinderbox/weave.Erased -/
def weave_Erased.af : AFun := ⟨[.one .str, .one (.int .i64)], [.one .bool], [.t 4],
 .seq (.reg [.op ⟨0, some 4, .mv (.c (.one (.bool false))), none⟩])
 (.seq (.reg [.op ⟨0, some 5, .mv (.c (.one (.int .i64 0))), none⟩])
 (.seq (.seq (.reg [.op ⟨0, some 8, .mv (.t 0), none⟩,
  .op ⟨1, some 9, .lens (.t 8), none⟩,
  .op ⟨2, some 10, .mv (.c (.one (.int .i64 0))), none⟩])
 (.block 0 (.loop [(5, .one (.int .i64)), (10, .one (.int .i64))] [(.exit 0, [(5, .one (.int .i64))])] (.seq (.reg [.op ⟨0, some 11, .bin .lss (.t 10) (.t 9), none⟩])
 (.seq (.cond (.t 11) (.skip) (.exit 0))
 (.seq (.block 1 (.seq (.reg [.op ⟨0, some 12, .mv (.t 10), none⟩,
  .op ⟨1, some 6, .mv (.t 12), none⟩])
 (.seq (.reg [.op ⟨0, some 13, .mv (.t 0), none⟩,
  .op ⟨1, some 14, .mv (.t 6), none⟩,
  .op ⟨2, some 15, .index (.t 13) (.t 14), none⟩,
  .op ⟨3, some 16, .bin .xor (.t 15) (.c (.one (.int .u8 255))), none⟩,
  .op ⟨4, some 7, .mv (.t 16), none⟩])
 (.block 2 (.loop [(5, .one (.int .i64)), (7, .one (.int .u8))] [(.exit 2, [(5, .one (.int .i64))])] (.seq (.seq (.reg [.op ⟨0, some 17, .mv (.t 7), none⟩,
  .op ⟨1, some 18, .bin .gtr (.t 17) (.c (.one (.int .u8 0))), none⟩])
 (.cond (.t 18) (.skip) (.exit 2)))
 (.seq (.block 3 (.reg [.op ⟨0, some 23, .mv (.t 5), none⟩,
  .op ⟨1, some 24, .bin .add (.t 23) (.c (.one (.int .i64 1))), none⟩,
  .op ⟨2, some 5, .mv (.t 24), none⟩]))
 (.reg [.op ⟨0, some 19, .mv (.t 7), none⟩,
  .op ⟨1, some 20, .mv (.t 7), none⟩,
  .op ⟨2, some 21, .bin .sub (.t 20) (.c (.one (.int .u8 1))), none⟩,
  .op ⟨3, some 22, .bin .and (.t 19) (.t 21), none⟩,
  .op ⟨4, some 7, .mv (.t 22), none⟩]))))))))
 (.reg [.op ⟨0, some 25, .bin .add (.t 10) (.c (.one (.int .i64 1))), none⟩,
  .op ⟨1, some 10, .mv (.t 25), none⟩])))))))
 (.seq (.reg [.op ⟨0, some 26, .mv (.t 5), none⟩,
  .op ⟨1, some 27, .mv (.t 1), none⟩,
  .op ⟨2, some 28, .bin .leq (.t 26) (.t 27), none⟩,
  .op ⟨3, some 4, .mv (.t 28), none⟩])
 (.ret))))⟩
noncomputable def weave_Erased.s1 (s4 : (Int × Int × Unit)) (H5 : Heap) : Option (((Int × Int × Unit) ⊕ (Int × Unit)) × Heap) :=
 cond (decide (0 < s4.2.1)) (
 some (Sum.inl ((IntKind.wrap .i64 (s4.1 + 1)), (bitsI .and .u8 s4.2.1 (IntKind.wrap .u8 (s4.2.1 - 1))), ()), H5)) (
 some (Sum.inr (s4.1, ()), H5))
noncomputable def weave_Erased.s2 (x0 : Bytes) (s1 : (Int × Int × Unit)) (H2 : Heap) : Option (((Int × Int × Unit) ⊕ (Int × Unit)) × Heap) :=
 cond (decide (s1.2.1 < (List.length (x0 : Bytes) : Int))) (
 (idxS x0 s1.2.1).bind fun (n3 : Int) =>
 (loopW (weave_Erased.s1) (s1.1, (bitsI .xor .u8 n3 255), ()) H2).bind fun (p6 : (Int × Unit) × Heap) =>
 some (Sum.inl (p6.1.1, (IntKind.wrap .i64 (s1.2.1 + 1)), ()), p6.2)) (
 some (Sum.inr (s1.1, ()), H2))
noncomputable def weave_Erased.on (x0 : Bytes) (x1 : Int) (H : Heap) : Option (Bool × Unit) :=
 (loopW (weave_Erased.s2 x0) (0, 0, ()) H).bind fun (p7 : (Int × Unit) × Heap) =>
 some ((decide (p7.1.1 ≤ x1)), ())
noncomputable def weave_Erased (x0 : Bytes) (x1 : Int) : Option (Bool × Unit) := weave_Erased.on x0 x1 []
noncomputable def weave_Erased.c : Callee := .pure [.one .str, .one (.int .i64)] [.one .bool] (fun x => weave_Erased x.1 x.2.1)
noncomputable def weave_Erased.calls : Nat → Option Callee
  | _ => none
theorem weave_Erased.eq : evPure weave_Erased.calls weave_Erased.af = (fun x H => weave_Erased.on x.1 x.2.1 H) := by kernel_rfl

/-! ### tinderbox/weave.holes -/
def weave_holes.af : AFun := ⟨[.one (.sl 1), .agg [.int .i64, .int .i64, .int .i64, .int .i64], .one (.int .i64)], [.one (.sl 1)], [.t 6],
 .seq (.reg [.op ⟨0, some 4, .box (.t 1), none⟩,
  .op ⟨1, some 6, .mv (.c (.one (.sl 1 (⟨none, 0, 0⟩)))), none⟩])
 (.seq (.reg [.op ⟨0, some 7, .mv (.c (.one (.sl 1 (⟨none, 0, 0⟩)))), none⟩])
 (.seq (.seq (.reg [.op ⟨0, some 10, .mv (.t 0), none⟩,
  .op ⟨1, some 11, .len (.t 10), none⟩,
  .op ⟨2, some 12, .mv (.c (.one (.int .i64 0))), none⟩])
 (.block 0 (.loop [(7, .one (.sl 1)), (12, .one (.int .i64))] [(.exit 0, [(7, .one (.sl 1))])] (.seq (.reg [.op ⟨0, some 13, .bin .lss (.t 12) (.t 11), none⟩])
 (.seq (.cond (.t 13) (.skip) (.exit 0))
 (.seq (.block 1 (.seq (.reg [.op ⟨0, some 14, .idxa 1 (.t 10) (.t 12), none⟩,
  .op ⟨1, some 15, .load (.one (.int .i64)) (.t 14), none⟩,
  .op ⟨2, some 9, .mv (.t 15), none⟩])
 (.seq (.scope [(.normal, [(31, .one .bool)])] (.reg [.op ⟨0, some 16, .mv (.t 9), none⟩,
  .op ⟨1, some 17, .bin .geq (.t 16) (.c (.one (.int .i64 0))), none⟩,
  .op ⟨2, some 18, .mv (.t 17), none⟩,
  .op ⟨3, some 19, .mv (.t 9), some (18, true)⟩,
  .op ⟨4, some 20, .addr 3 (.t 4), some (18, true)⟩,
  .op ⟨5, some 21, .load (.one (.int .i64)) (.t 20), some (18, true)⟩,
  .op ⟨6, some 22, .bin .lss (.t 19) (.t 21), some (18, true)⟩,
  .op ⟨7, some 23, .pick (.t 18) (.t 22) (.c (.one (.bool false))), none⟩,
  .op ⟨8, some 24, .mv (.t 23), none⟩,
  .op ⟨9, some 25, .mv (.t 9), some (24, true)⟩,
  .op ⟨10, some 26, .addr 0 (.t 4), some (24, true)⟩,
  .op ⟨11, some 27, .load (.one (.int .i64)) (.t 26), some (24, true)⟩,
  .op ⟨12, some 28, .bin .rem (.t 25) (.t 27), some (24, true)⟩,
  .op ⟨13, some 29, .mv (.t 2), some (24, true)⟩,
  .op ⟨14, some 30, .bin .eql (.t 28) (.t 29), some (24, true)⟩,
  .op ⟨15, some 31, .pick (.t 24) (.t 30) (.c (.one (.bool false))), none⟩]))
 (.cond (.t 31) (.reg [.op ⟨0, some 32, .mv (.t 7), none⟩,
  .op ⟨1, some 33, .mv (.t 9), none⟩,
  .op ⟨2, some 34, .addr 0 (.t 4), none⟩,
  .op ⟨3, some 35, .load (.one (.int .i64)) (.t 34), none⟩,
  .op ⟨4, some 36, .bin .quo (.t 33) (.t 35), none⟩,
  .op ⟨5, some 37, .bslice 1 1 [.int .i64 0] [(0, 1, (.t 36))], none⟩,
  .op ⟨6, some 38, .app 1 8 (.t 32) (.t 37), none⟩,
  .op ⟨7, some 7, .mv (.t 38), none⟩]) (.skip)))))
 (.reg [.op ⟨0, some 39, .bin .add (.t 12) (.c (.one (.int .i64 1))), none⟩,
  .op ⟨1, some 12, .mv (.t 39), none⟩])))))))
 (.seq (.reg [.op ⟨0, some 40, .mv (.t 7), none⟩,
  .op ⟨1, some 6, .mv (.t 40), none⟩])
 (.ret))))⟩
noncomputable def weave_holes.s1 (x0 : Sl) (x2 : Int) (H : Heap) (s2 : (Sl × Int × Unit)) (H3 : Heap) : Option (((Sl × Int × Unit) ⊕ (Sl × Unit)) × Heap) :=
 cond (decide (s2.2.1 < (x0.len : Int))) (
 (Sl.at 1 x0 s2.2.1).bind fun (a4 : (Nat × Nat)) =>
 (rdI .i64 H3 a4.1 a4.2).bind fun (v5 : Int) =>
 (cond (decide (0 ≤ v5)) (
 (rdI .i64 H3 H.length 3).bind fun (v6 : Int) =>
 cond (decide (v5 < v6)) (
 (rdI .i64 H3 H.length 0).bind fun (v7 : Int) =>
 cond (decide (v7 = 0)) none (
 some (((decide ((Int.tmod v5 v7) = x2)), ()), H3))) (
 some ((false, ()), H3))) (
 some ((false, ()), H3)) : Option ((Bool × Unit) × Heap)).bind fun (p8 : (Bool × Unit) × Heap) =>
 cond p8.1.1 (
 (rdI .i64 p8.2 H.length 0).bind fun (v9 : Int) =>
 cond (decide (v9 = 0)) none (
 let H10 : Heap := p8.2 ++ [Blk.cells [.int .i64 (IntKind.wrap .i64 (Int.tdiv v5 v9))] .exact]
 (slRow H10 1 (⟨some (p8.2.length, 0), 1, 1⟩)).bind fun (cs11 : (List C)) =>
 (appS H10 1 8 s2.1 1 cs11).bind fun (p12 : (Sl × Heap)) =>
 some (Sum.inl (p12.1, (IntKind.wrap .i64 (s2.2.1 + 1)), ()), p12.2))) (
 some (Sum.inl (s2.1, (IntKind.wrap .i64 (s2.2.1 + 1)), ()), p8.2))) (
 some (Sum.inr (s2.1, ()), H3))
noncomputable def weave_holes (x0 : Sl) (x1 : (Int × Int × Int × Int × Unit)) (x2 : Int) (H : Heap) : Option ((Sl × Unit) × Heap) :=
 let H1 : Heap := H ++ [Blk.cells [.int .i64 x1.1, .int .i64 x1.2.1, .int .i64 x1.2.2.1, .int .i64 x1.2.2.2.1] .exact]
 (loopW (weave_holes.s1 x0 x2 H) (⟨none, 0, 0⟩, 0, ()) H1).bind fun (p13 : (Sl × Unit) × Heap) =>
 some ((p13.1.1, ()), p13.2)
noncomputable def weave_holes.c : Callee := .full [.one (.sl 1), .agg [.int .i64, .int .i64, .int .i64, .int .i64], .one (.int .i64)] [.one (.sl 1)] (fun x H => weave_holes x.1 x.2.1 x.2.2.1 H)
noncomputable def weave_holes.calls : Nat → Option Callee
  | _ => none
theorem weave_holes.eq : evFull weave_holes.calls weave_holes.af = (fun x H => weave_holes x.1 x.2.1 x.2.2.1 H) := by kernel_rfl

/-! ### tinderbox/weave.size -/
def weave_size.af : AFun := ⟨[.agg [.int .i64, .int .i64, .int .i64, .int .i64], .one (.int .i64)], [.one (.int .i64)], [.t 4],
 .seq (.reg [.op ⟨0, some 2, .box (.t 0), none⟩,
  .op ⟨1, some 4, .mv (.c (.one (.int .i64 0))), none⟩])
 (.seq (.reg [.op ⟨0, some 6, .addr 3 (.t 2), none⟩,
  .op ⟨1, some 7, .load (.one (.int .i64)) (.t 6), none⟩,
  .op ⟨2, some 8, .addr 0 (.t 2), none⟩,
  .op ⟨3, some 9, .load (.one (.int .i64)) (.t 8), none⟩,
  .op ⟨4, some 10, .addr 2 (.t 2), none⟩,
  .op ⟨5, some 11, .load (.one (.int .i64)) (.t 10), none⟩,
  .op ⟨6, some 12, .bin .mul (.t 9) (.t 11), none⟩,
  .op ⟨7, some 13, .bin .sub (.t 7) (.t 12), none⟩,
  .op ⟨8, some 5, .mv (.t 13), none⟩])
 (.seq (.reg [.op ⟨0, some 14, .mv (.t 5), none⟩,
  .op ⟨1, some 15, .mv (.t 1), none⟩,
  .op ⟨2, some 16, .bin .sub (.t 14) (.t 15), none⟩,
  .op ⟨3, some 17, .addr 0 (.t 2), none⟩,
  .op ⟨4, some 18, .load (.one (.int .i64)) (.t 17), none⟩,
  .op ⟨5, some 19, .bin .add (.t 16) (.t 18), none⟩,
  .op ⟨6, some 20, .bin .sub (.t 19) (.c (.one (.int .i64 1))), none⟩,
  .op ⟨7, some 21, .addr 0 (.t 2), none⟩,
  .op ⟨8, some 22, .load (.one (.int .i64)) (.t 21), none⟩,
  .op ⟨9, some 23, .bin .quo (.t 20) (.t 22), none⟩,
  .op ⟨10, some 4, .mv (.t 23), none⟩])
 (.ret)))⟩
noncomputable def weave_size.on (x0 : (Int × Int × Int × Int × Unit)) (x1 : Int) (H : Heap) : Option (Int × Unit) :=
 let H1 : Heap := H ++ [Blk.cells [.int .i64 x0.1, .int .i64 x0.2.1, .int .i64 x0.2.2.1, .int .i64 x0.2.2.2.1] .exact]
 (rdI .i64 H1 H.length 3).bind fun (v2 : Int) =>
 (rdI .i64 H1 H.length 0).bind fun (v3 : Int) =>
 (rdI .i64 H1 H.length 2).bind fun (v4 : Int) =>
 (rdI .i64 H1 H.length 0).bind fun (v5 : Int) =>
 (rdI .i64 H1 H.length 0).bind fun (v6 : Int) =>
 cond (decide (v6 = 0)) none (
 some ((IntKind.wrap .i64 (Int.tdiv (IntKind.wrap .i64 ((IntKind.wrap .i64 ((IntKind.wrap .i64 ((IntKind.wrap .i64 (v2 - (IntKind.wrap .i64 (v3 * v4)))) - x1)) + v5)) - 1)) v6)), ()))
noncomputable def weave_size (x0 : (Int × Int × Int × Int × Unit)) (x1 : Int) : Option (Int × Unit) := weave_size.on x0 x1 []
noncomputable def weave_size.c : Callee := .pure [.agg [.int .i64, .int .i64, .int .i64, .int .i64], .one (.int .i64)] [.one (.int .i64)] (fun x => weave_size x.1 x.2.1)
noncomputable def weave_size.calls : Nat → Option Callee
  | _ => none
theorem weave_size.eq : evPure weave_size.calls weave_size.af = (fun x H => weave_size.on x.1 x.2.1 H) := by kernel_rfl

/-! ### tinderbox/weave.Decode -/
def weave_Decode.af : AFun := ⟨[.one .str, .agg [.int .i64, .int .i64, .int .i64, .int .i64], .one (.int .i64), .one (.sl 1)], [.one .str, .one (.int .i64), .one (.int .i64)], [.t 8, .t 9, .t 10],
 .seq (.reg [.op ⟨0, some 5, .box (.t 1), none⟩,
  .op ⟨1, some 8, .mv (.c (.one (.str []))), none⟩,
  .op ⟨2, some 9, .mv (.c (.one (.int .i64 0))), none⟩,
  .op ⟨3, some 10, .mv (.c (.one (.int .i64 0))), none⟩])
 (.seq (.seq (.reg [.op ⟨0, some 19, .load (.agg [.int .i64, .int .i64, .int .i64, .int .i64]) (.t 5), none⟩,
  .op ⟨1, some 20, .call 0 [(.t 19)], none⟩,
  .op ⟨2, some 21, .un .not (.t 20), none⟩,
  .op ⟨3, some 22, .mv (.t 21), none⟩,
  .op ⟨4, some 23, .mv (.t 0), some (22, false)⟩,
  .op ⟨5, some 24, .lens (.t 23), some (22, false)⟩,
  .op ⟨6, some 25, .addr 3 (.t 5), some (22, false)⟩,
  .op ⟨7, some 26, .load (.one (.int .i64)) (.t 25), some (22, false)⟩,
  .op ⟨8, some 27, .bin .neq (.t 24) (.t 26), some (22, false)⟩,
  .op ⟨9, some 28, .pick (.t 22) (.c (.one (.bool true))) (.t 27), none⟩])
 (.cond (.t 28) (.seq (.reg [.op ⟨0, some 8, .mv (.c (.one (.str []))), none⟩,
  .op ⟨1, some 9, .mv (.c (.one (.int .i64 0))), none⟩,
  .op ⟨2, some 10, .mv (.c (.one (.int .i64 1))), none⟩])
 (.ret)) (.skip)))
 (.seq (.reg [.op ⟨0, some 29, .addr 3 (.t 5), none⟩,
  .op ⟨1, some 30, .load (.one (.int .i64)) (.t 29), none⟩,
  .op ⟨2, some 31, .addr 0 (.t 5), none⟩,
  .op ⟨3, some 32, .load (.one (.int .i64)) (.t 31), none⟩,
  .op ⟨4, some 33, .addr 2 (.t 5), none⟩,
  .op ⟨5, some 34, .load (.one (.int .i64)) (.t 33), none⟩,
  .op ⟨6, some 35, .bin .mul (.t 32) (.t 34), none⟩,
  .op ⟨7, some 36, .bin .sub (.t 30) (.t 35), none⟩,
  .op ⟨8, some 11, .mv (.t 36), none⟩])
 (.seq (.reg [.op ⟨0, some 37, .mv (.t 11), none⟩,
  .op ⟨1, some 38, .mk 1 1 [.int .u8 0] (.t 37) (.t 37), none⟩,
  .op ⟨2, some 12, .mv (.t 38), none⟩,
  .op ⟨3, some 13, .mv (.c (.one (.int .i64 0))), none⟩])
 (.seq (.seq (.reg [.op ⟨0, some 39, .addr 0 (.t 5), none⟩,
  .op ⟨1, some 40, .load (.one (.int .i64)) (.t 39), none⟩,
  .op ⟨2, some 41, .mv (.c (.one (.int .i64 0))), none⟩])
 (.block 0 (.loop [(13, .one (.int .i64)), (41, .one (.int .i64))] [(.exit 0, [(13, .one (.int .i64))]), (.ret, [(8, .one .str), (9, .one (.int .i64)), (10, .one (.int .i64))])] (.seq (.reg [.op ⟨0, some 42, .bin .lss (.t 41) (.t 40), none⟩])
 (.seq (.cond (.t 42) (.skip) (.exit 0))
 (.seq (.block 1 (.seq (.reg [.op ⟨0, some 43, .mv (.t 41), none⟩,
  .op ⟨1, some 14, .mv (.t 43), none⟩])
 (.seq (.reg [.op ⟨0, some 45, .mv (.t 0), none⟩,
  .op ⟨1, some 46, .load (.agg [.int .i64, .int .i64, .int .i64, .int .i64]) (.t 5), none⟩,
  .op ⟨2, some 47, .mv (.t 14), none⟩,
  .op ⟨3, some 48, .call 1 [(.t 45), (.t 46), (.t 47)], none⟩,
  .op ⟨4, some 49, .addr 2 (.t 5), none⟩,
  .op ⟨5, some 50, .load (.one (.int .i64)) (.t 49), none⟩,
  .op ⟨6, some 51, .mv (.t 3), none⟩,
  .op ⟨7, some 52, .load (.agg [.int .i64, .int .i64, .int .i64, .int .i64]) (.t 5), none⟩,
  .op ⟨8, some 53, .mv (.t 14), none⟩,
  .op ⟨9, some 54, .call 2 [(.t 51), (.t 52), (.t 53)], none⟩,
  .again ⟨5, some 50, .load (.one (.int .i64)) (.t 49), none⟩,
  .op ⟨10, some 55, .call 3 [(.t 48), (.t 50), (.t 54)], none⟩,
  .op ⟨11, some 44, .mv (.t 55), none⟩,
  .op ⟨12, some 56, .ext (.t 44) 0, none⟩,
  .op ⟨13, some 57, .ext (.t 44) 1, none⟩,
  .op ⟨14, some 58, .ext (.t 44) 2, none⟩,
  .op ⟨15, some 15, .mv (.t 56), none⟩,
  .op ⟨16, some 16, .mv (.t 57), none⟩,
  .op ⟨17, some 17, .mv (.t 58), none⟩])
 (.seq (.seq (.reg [.op ⟨0, some 59, .mv (.t 17), none⟩,
  .op ⟨1, some 60, .bin .neq (.t 59) (.c (.one (.int .i64 0))), none⟩])
 (.cond (.t 60) (.seq (.reg [.op ⟨0, some 61, .mv (.t 17), none⟩,
  .op ⟨1, some 8, .mv (.c (.one (.str []))), none⟩,
  .op ⟨2, some 9, .mv (.c (.one (.int .i64 0))), none⟩,
  .op ⟨3, some 10, .mv (.t 61), none⟩])
 (.ret)) (.skip)))
 (.seq (.reg [.op ⟨0, some 62, .mv (.t 13), none⟩,
  .op ⟨1, some 63, .mv (.t 16), none⟩,
  .op ⟨2, some 64, .bin .add (.t 62) (.t 63), none⟩,
  .op ⟨3, some 13, .mv (.t 64), none⟩])
 (.seq (.reg [.op ⟨0, some 65, .load (.agg [.int .i64, .int .i64, .int .i64, .int .i64]) (.t 5), none⟩,
  .op ⟨1, some 66, .mv (.t 14), none⟩,
  .op ⟨2, some 67, .call 4 [(.t 65), (.t 66)], none⟩,
  .op ⟨3, some 68, .mv (.c (.one (.int .i64 0))), none⟩])
 (.block 2 (.loop [(68, .one (.int .i64))] [(.exit 2, [])] (.seq (.reg [.op ⟨0, some 69, .bin .lss (.t 68) (.t 67), none⟩])
 (.seq (.cond (.t 69) (.skip) (.exit 2))
 (.seq (.block 3 (.seq (.reg [.op ⟨0, some 70, .mv (.t 68), none⟩,
  .op ⟨1, some 18, .mv (.t 70), none⟩])
 (.reg [.op ⟨0, some 71, .mv (.t 12), none⟩,
  .op ⟨1, some 72, .mv (.t 18), none⟩,
  .op ⟨2, some 73, .addr 0 (.t 5), none⟩,
  .op ⟨3, some 74, .load (.one (.int .i64)) (.t 73), none⟩,
  .op ⟨4, some 75, .bin .mul (.t 72) (.t 74), none⟩,
  .op ⟨5, some 76, .mv (.t 14), none⟩,
  .op ⟨6, some 77, .bin .add (.t 75) (.t 76), none⟩,
  .op ⟨7, some 78, .mv (.t 15), none⟩,
  .op ⟨8, some 79, .mv (.t 18), none⟩,
  .op ⟨9, some 80, .index (.t 78) (.t 79), none⟩,
  .op ⟨10, some 81, .idxa 1 (.t 71) (.t 77), none⟩,
  .op ⟨11, none, .store 1 (.t 81) (.t 80), none⟩])))
 (.reg [.op ⟨0, some 82, .bin .add (.t 68) (.c (.one (.int .i64 1))), none⟩,
  .op ⟨1, some 68, .mv (.t 82), none⟩]))))))))))))
 (.reg [.op ⟨0, some 83, .bin .add (.t 41) (.c (.one (.int .i64 1))), none⟩,
  .op ⟨1, some 41, .mv (.t 83), none⟩])))))))
 (.seq (.reg [.op ⟨0, some 84, .mv (.t 12), none⟩,
  .op ⟨1, some 85, .b2s (.t 84), none⟩,
  .op ⟨2, some 86, .mv (.t 2), none⟩,
  .op ⟨3, some 87, .mv (.t 11), none⟩,
  .op ⟨4, some 88, .call 5 [(.t 86), (.t 87)], none⟩,
  .op ⟨5, some 89, .call 6 [(.t 85), (.t 88)], none⟩,
  .op ⟨6, some 90, .mv (.t 13), none⟩,
  .op ⟨7, some 8, .mv (.t 89), none⟩,
  .op ⟨8, some 9, .mv (.t 90), none⟩,
  .op ⟨9, some 10, .mv (.c (.one (.int .i64 0))), none⟩])
 (.ret))))))⟩
noncomputable def weave_Decode.s1 (H : Heap) (p8 : (Sl × Heap)) (s10 : (Int × Int × Unit)) (r18 : ((Bytes × Int × Int × Unit) × Heap)) (r20 : (Int × Unit)) (s21 : (Int × Unit)) (H22 : Heap) : Option (((Int × Unit) ⊕ (Unit)) × Heap) :=
 cond (decide (s21.1 < r20.1)) (
 (rdI .i64 H22 H.length 0).bind fun (v23 : Int) =>
 (idxS r18.1.1 s21.1).bind fun (n24 : Int) =>
 (Sl.at 1 p8.1 (IntKind.wrap .i64 ((IntKind.wrap .i64 (s21.1 * v23)) + s10.2.1))).bind fun (a25 : (Nat × Nat)) =>
 (wr H22 a25.1 a25.2 [.int .u8 n24]).bind fun (H26 : Heap) =>
 some (Sum.inl ((IntKind.wrap .i64 (s21.1 + 1)), ()), H26)) (
 some (Sum.inr (()), H22))
noncomputable def weave_Decode.s2 (x0 : Bytes) (x3 : Sl) (H : Heap) (p8 : (Sl × Heap)) (v9 : Int) (s10 : (Int × Int × Unit)) (H11 : Heap) : Option (((Int × Int × Unit) ⊕ ((Int × Unit) ⊕ (Bytes × Int × Int × Unit))) × Heap) :=
 cond (decide (s10.2.1 < v9)) (
 Option.bind (α := (Int × Int × Int × Int × Unit)) (rd H11 (.agg [.int .i64, .int .i64, .int .i64, .int .i64]) H.length 0) fun (v12 : (Int × Int × Int × Int × Unit)) =>
 (weave_part x0 (v12.1, v12.2.1, v12.2.2.1, v12.2.2.2.1, ()) s10.2.1).bind fun (r13 : (Bytes × Unit)) =>
 (rdI .i64 H11 H.length 2).bind fun (v14 : Int) =>
 Option.bind (α := (Int × Int × Int × Int × Unit)) (rd H11 (.agg [.int .i64, .int .i64, .int .i64, .int .i64]) H.length 0) fun (v15 : (Int × Int × Int × Int × Unit)) =>
 (weave_holes x3 (v15.1, v15.2.1, v15.2.2.1, v15.2.2.2.1, ()) s10.2.1 H11).bind fun (r16 : ((Sl × Unit) × Heap)) =>
 (rdI .i64 r16.2 H.length 2).bind fun (v17 : Int) =>
 if V.w (.one (.int .i64 v17)) = V.w (.one (.int .i64 v14)) then
 (rs_Decode r13.1 v14 r16.1.1 r16.2).bind fun (r18 : ((Bytes × Int × Int × Unit) × Heap)) =>
 cond (!decide (r18.1.2.2.1 = 0)) (
 some (Sum.inr (Sum.inr ([], 0, r18.1.2.2.1, ())), r18.2)) (
 Option.bind (α := (Int × Int × Int × Int × Unit)) (rd r18.2 (.agg [.int .i64, .int .i64, .int .i64, .int .i64]) H.length 0) fun (v19 : (Int × Int × Int × Int × Unit)) =>
 (weave_size (v19.1, v19.2.1, v19.2.2.1, v19.2.2.2.1, ()) s10.2.1).bind fun (r20 : (Int × Unit)) =>
 (loopW (weave_Decode.s1 H p8 s10 r18 r20) (0, ()) r18.2).bind fun (p27 : (Unit) × Heap) =>
 some (Sum.inl ((IntKind.wrap .i64 (s10.1 + r18.1.2.1)), (IntKind.wrap .i64 (s10.2.1 + 1)), ()), p27.2))
 else none) (
 some (Sum.inr (Sum.inl (s10.1, ())), H11))
noncomputable def weave_Decode (x0 : Bytes) (x1 : (Int × Int × Int × Int × Unit)) (x2 : Int) (x3 : Sl) (H : Heap) : Option ((Bytes × Int × Int × Unit) × Heap) :=
 let H1 : Heap := H ++ [Blk.cells [.int .i64 x1.1, .int .i64 x1.2.1, .int .i64 x1.2.2.1, .int .i64 x1.2.2.2.1] .exact]
 Option.bind (α := (Int × Int × Int × Int × Unit)) (rd H1 (.agg [.int .i64, .int .i64, .int .i64, .int .i64]) H.length 0) fun (v2 : (Int × Int × Int × Int × Unit)) =>
 (weave_fits (v2.1, v2.2.1, v2.2.2.1, v2.2.2.2.1, ())).bind fun (r3 : (Bool × Unit)) =>
 cond (!r3.1) (
 some (([], 0, 1, ()), H1)) (
 (rdI .i64 H1 H.length 3).bind fun (v4 : Int) =>
 cond (!decide ((List.length (x0 : Bytes) : Int) = v4)) (
 some (([], 0, 1, ()), H1)) (
 (rdI .i64 H1 H.length 3).bind fun (v5 : Int) =>
 (rdI .i64 H1 H.length 0).bind fun (v6 : Int) =>
 (rdI .i64 H1 H.length 2).bind fun (v7 : Int) =>
 (mkS H1 1 [.int .u8 0] (IntKind.wrap .i64 (v5 - (IntKind.wrap .i64 (v6 * v7)))) (IntKind.wrap .i64 (v5 - (IntKind.wrap .i64 (v6 * v7))))).bind fun (p8 : (Sl × Heap)) =>
 (rdI .i64 p8.2 H.length 0).bind fun (v9 : Int) =>
 (loopW (weave_Decode.s2 x0 x3 H p8 v9) (0, 0, ()) p8.2).bind fun (p28 : ((Int × Unit) ⊕ (Bytes × Int × Int × Unit)) × Heap) =>
 Sum.elim (fun (y29 : (Int × Unit)) =>
 (strOf p28.2 p8.1).bind fun (s30 : Bytes) =>
 (weave_Mask x2 (IntKind.wrap .i64 (v5 - (IntKind.wrap .i64 (v6 * v7))))).bind fun (r31 : (Bytes × Unit)) =>
 (weave_Mix s30 r31.1).bind fun (r32 : (Bytes × Unit)) =>
 some ((r32.1, y29.1, 0, ()), p28.2)) (fun (z33 : (Bytes × Int × Int × Unit)) =>
 some ((z33.1, z33.2.1, z33.2.2.1, ()), p28.2)) p28.1))
noncomputable def weave_Decode.c : Callee := .full [.one .str, .agg [.int .i64, .int .i64, .int .i64, .int .i64], .one (.int .i64), .one (.sl 1)] [.one .str, .one (.int .i64), .one (.int .i64)] (fun x H => weave_Decode x.1 x.2.1 x.2.2.1 x.2.2.2.1 H)
noncomputable def weave_Decode.calls : Nat → Option Callee
  | 0 => some weave_fits.c
  | 1 => some weave_part.c
  | 2 => some weave_holes.c
  | 3 => some rs_Decode.c
  | 4 => some weave_size.c
  | 5 => some weave_Mask.c
  | 6 => some weave_Mix.c
  | _ => none
theorem weave_Decode.eq : evFull weave_Decode.calls weave_Decode.af = (fun x H => weave_Decode x.1 x.2.1 x.2.2.1 x.2.2.2.1 H) := by kernel_rfl
end Ev
