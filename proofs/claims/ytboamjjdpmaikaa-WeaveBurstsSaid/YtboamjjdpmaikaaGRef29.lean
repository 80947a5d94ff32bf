/- What the functions of the package Ref29 compute: abstract code, and a function of plain Lean for each; the kernel checks that they are the same. Written by gen2.py. -/
import Derived.Test.YtboamjjdpmaikaaEvCore
import Derived.Test.YtboamjjdpmaikaaGRef27
import Derived.KernelRfl
set_option linter.unusedVariables false
set_option maxRecDepth 100000
namespace Ev
open Go (IntKind BinOp UnOp)

/-! ### tinderbox/tinderboxref29.Shape -/
def ref29_Shape.af : AFun := ⟨[.one (.int .i64), .one (.int .i64)], [.agg [.int .i64, .int .i64, .int .i64, .int .i64], .one .bool], [.cell 4, .t 5],
 .seq (.reg [.op ⟨0, some 4, .new [.int .i64 0, .int .i64 0, .int .i64 0, .int .i64 0], none⟩,
  .op ⟨1, some 5, .mv (.c (.one (.bool false))), none⟩])
 (.seq (.seq (.reg [.op ⟨0, some 8, .mv (.t 0), none⟩,
  .op ⟨1, some 9, .bin .lss (.t 8) (.c (.one (.int .i64 1))), none⟩,
  .op ⟨2, some 10, .mv (.t 9), none⟩,
  .op ⟨3, some 11, .mv (.t 0), some (10, false)⟩,
  .op ⟨4, some 12, .bin .gtr (.t 11) (.c (.one (.int .i64 1024))), some (10, false)⟩,
  .op ⟨5, some 13, .pick (.t 10) (.c (.one (.bool true))) (.t 12), none⟩,
  .op ⟨6, some 14, .mv (.t 13), none⟩,
  .op ⟨7, some 15, .mv (.t 1), some (14, false)⟩,
  .op ⟨8, some 16, .bin .lss (.t 15) (.c (.one (.int .i64 2))), some (14, false)⟩,
  .op ⟨9, some 17, .pick (.t 14) (.c (.one (.bool true))) (.t 16), none⟩,
  .op ⟨10, some 18, .mv (.t 17), none⟩,
  .op ⟨11, some 19, .mv (.t 1), some (18, false)⟩,
  .op ⟨12, some 20, .bin .gtr (.t 19) (.c (.one (.int .i64 32))), some (18, false)⟩,
  .op ⟨13, some 21, .pick (.t 18) (.c (.one (.bool true))) (.t 20), none⟩])
 (.cond (.t 21) (.seq (.reg [.op ⟨0, some 22, .build [.int .i64 0, .int .i64 0, .int .i64 0, .int .i64 0] [], none⟩,
  .op ⟨1, none, .store 4 (.t 4) (.t 22), none⟩,
  .op ⟨2, some 5, .mv (.c (.one (.bool false))), none⟩])
 (.ret)) (.skip)))
 (.seq (.seq (.reg [.op ⟨0, some 6, .mv (.c (.one (.int .i64 1))), none⟩])
 (.block 0 (.loop [(6, .one (.int .i64))] [(.exit 0, []), (.ret, [(5, .one .bool)])] (.seq (.seq (.reg [.op ⟨0, some 23, .mv (.t 6), none⟩,
  .op ⟨1, some 24, .bin .lss (.t 23) (.c (.one (.int .i64 1025))), none⟩])
 (.cond (.t 24) (.skip) (.exit 0)))
 (.seq (.block 1 (.seq (.reg [.op ⟨0, some 7, .mv (.c (.one (.int .i64 0))), none⟩])
 (.seq (.block 2 (.loop [(7, .one (.int .i64))] [(.exit 2, [(7, .one (.int .i64))])] (.seq (.seq (.reg [.op ⟨0, some 27, .mv (.t 7), none⟩,
  .op ⟨1, some 28, .mv (.t 6), none⟩,
  .op ⟨2, some 29, .bin .mul (.t 27) (.t 28), none⟩,
  .op ⟨3, some 30, .mv (.t 0), none⟩,
  .op ⟨4, some 31, .bin .lss (.t 29) (.t 30), none⟩])
 (.cond (.t 31) (.skip) (.exit 2)))
 (.block 3 (.reg [.op ⟨0, some 32, .mv (.t 7), none⟩,
  .op ⟨1, some 33, .bin .add (.t 32) (.c (.one (.int .i64 1))), none⟩,
  .op ⟨2, some 7, .mv (.t 33), none⟩])))))
 (.seq (.reg [.op ⟨0, some 34, .mv (.t 7), none⟩,
  .op ⟨1, some 35, .mv (.t 1), none⟩,
  .op ⟨2, some 36, .bin .add (.t 34) (.t 35), none⟩,
  .op ⟨3, some 37, .bin .leq (.t 36) (.c (.one (.int .i64 127))), none⟩])
 (.cond (.t 37) (.seq (.reg [.op ⟨0, some 38, .mv (.t 6), none⟩,
  .op ⟨1, some 39, .mv (.t 7), none⟩,
  .op ⟨2, some 40, .mv (.t 1), none⟩,
  .op ⟨3, some 41, .mv (.t 0), none⟩,
  .op ⟨4, some 42, .mv (.t 6), none⟩,
  .op ⟨5, some 43, .mv (.t 1), none⟩,
  .op ⟨6, some 44, .bin .mul (.t 42) (.t 43), none⟩,
  .op ⟨7, some 45, .bin .add (.t 41) (.t 44), none⟩,
  .op ⟨8, some 46, .build [.int .i64 0, .int .i64 0, .int .i64 0, .int .i64 0] [(0, 1, (.t 38)), (1, 1, (.t 39)), (2, 1, (.t 40)), (3, 1, (.t 45))], none⟩,
  .op ⟨9, none, .store 4 (.t 4) (.t 46), none⟩,
  .op ⟨10, some 5, .mv (.c (.one (.bool true))), none⟩])
 (.ret)) (.skip))))))
 (.reg [.op ⟨0, some 25, .mv (.t 6), none⟩,
  .op ⟨1, some 26, .bin .add (.t 25) (.c (.one (.int .i64 1))), none⟩,
  .op ⟨2, some 6, .mv (.t 26), none⟩]))))))
 (.seq (.reg [.op ⟨0, some 47, .build [.int .i64 0, .int .i64 0, .int .i64 0, .int .i64 0] [], none⟩,
  .op ⟨1, none, .store 4 (.t 4) (.t 47), none⟩,
  .op ⟨2, some 5, .mv (.c (.one (.bool false))), none⟩])
 (.ret))))⟩
noncomputable def ref29_Shape.s1 (x0 : Int) (s10 : (Int × Unit)) (s12 : (Int × Unit)) (H13 : Heap) : Option (((Int × Unit) ⊕ (Int × Unit)) × Heap) :=
 cond (decide ((IntKind.wrap .i64 (s12.1 * s10.1)) < x0)) (
 some (Sum.inl ((IntKind.wrap .i64 (s12.1 + 1)), ()), H13)) (
 some (Sum.inr (s12.1, ()), H13))
noncomputable def ref29_Shape.s2 (x0 : Int) (x1 : Int) (H : Heap) (s10 : (Int × Unit)) (H11 : Heap) : Option (((Int × Unit) ⊕ ((Unit) ⊕ (Bool × Unit))) × Heap) :=
 cond (decide (s10.1 < 1025)) (
 (loopW (ref29_Shape.s1 x0 s10) (0, ()) H11).bind fun (p14 : (Int × Unit) × Heap) =>
 cond (decide ((IntKind.wrap .i64 (p14.1.1 + x1)) ≤ 127)) (
 (wr p14.2 H.length 0 [.int .i64 s10.1, .int .i64 p14.1.1, .int .i64 x1, .int .i64 (IntKind.wrap .i64 (x0 + (IntKind.wrap .i64 (s10.1 * x1))))]).bind fun (H15 : Heap) =>
 some (Sum.inr (Sum.inr (true, ())), H15)) (
 some (Sum.inl ((IntKind.wrap .i64 (s10.1 + 1)), ()), p14.2))) (
 some (Sum.inr (Sum.inl (())), H11))
noncomputable def ref29_Shape.on (x0 : Int) (x1 : Int) (H : Heap) : Option ((Int × Int × Int × Int × Unit) × Bool × Unit) :=
 let H1 : Heap := H ++ [Blk.cells [.int .i64 0, .int .i64 0, .int .i64 0, .int .i64 0] .exact]
 cond (decide (x0 < 1)) (
 (wr H1 H.length 0 [.int .i64 0, .int .i64 0, .int .i64 0, .int .i64 0]).bind fun (H2 : Heap) =>
 Option.bind (α := (Int × Int × Int × Int × Unit)) (rd H2 (.agg [.int .i64, .int .i64, .int .i64, .int .i64]) H.length 0) fun (v3 : (Int × Int × Int × Int × Unit)) =>
 some (v3, false, ())) (
 cond (decide (1024 < x0)) (
 (wr H1 H.length 0 [.int .i64 0, .int .i64 0, .int .i64 0, .int .i64 0]).bind fun (H4 : Heap) =>
 Option.bind (α := (Int × Int × Int × Int × Unit)) (rd H4 (.agg [.int .i64, .int .i64, .int .i64, .int .i64]) H.length 0) fun (v5 : (Int × Int × Int × Int × Unit)) =>
 some (v5, false, ())) (
 cond (decide (x1 < 2)) (
 (wr H1 H.length 0 [.int .i64 0, .int .i64 0, .int .i64 0, .int .i64 0]).bind fun (H6 : Heap) =>
 Option.bind (α := (Int × Int × Int × Int × Unit)) (rd H6 (.agg [.int .i64, .int .i64, .int .i64, .int .i64]) H.length 0) fun (v7 : (Int × Int × Int × Int × Unit)) =>
 some (v7, false, ())) (
 cond (decide (32 < x1)) (
 (wr H1 H.length 0 [.int .i64 0, .int .i64 0, .int .i64 0, .int .i64 0]).bind fun (H8 : Heap) =>
 Option.bind (α := (Int × Int × Int × Int × Unit)) (rd H8 (.agg [.int .i64, .int .i64, .int .i64, .int .i64]) H.length 0) fun (v9 : (Int × Int × Int × Int × Unit)) =>
 some (v9, false, ())) (
 (loopW (ref29_Shape.s2 x0 x1 H) (1, ()) H1).bind fun (p16 : ((Unit) ⊕ (Bool × Unit)) × Heap) =>
 Sum.elim (fun (y17 : (Unit)) =>
 (wr p16.2 H.length 0 [.int .i64 0, .int .i64 0, .int .i64 0, .int .i64 0]).bind fun (H18 : Heap) =>
 Option.bind (α := (Int × Int × Int × Int × Unit)) (rd H18 (.agg [.int .i64, .int .i64, .int .i64, .int .i64]) H.length 0) fun (v19 : (Int × Int × Int × Int × Unit)) =>
 some (v19, false, ())) (fun (z20 : (Bool × Unit)) =>
 Option.bind (α := (Int × Int × Int × Int × Unit)) (rd p16.2 (.agg [.int .i64, .int .i64, .int .i64, .int .i64]) H.length 0) fun (v21 : (Int × Int × Int × Int × Unit)) =>
 some (v21, z20.1, ())) p16.1))))
noncomputable def ref29_Shape (x0 : Int) (x1 : Int) : Option ((Int × Int × Int × Int × Unit) × Bool × Unit) := ref29_Shape.on x0 x1 []
noncomputable def ref29_Shape.c : Callee := .pure [.one (.int .i64), .one (.int .i64)] [.agg [.int .i64, .int .i64, .int .i64, .int .i64], .one .bool] (fun x => ref29_Shape x.1 x.2.1)
noncomputable def ref29_Shape.calls : Nat → Option Callee
  | _ => none
theorem ref29_Shape.eq : evPure ref29_Shape.calls ref29_Shape.af = (fun x H => ref29_Shape.on x.1 x.2.1 H) := by kernel_rfl

/-! ### tinderbox/tinderboxref29.Mask -/
def ref29_Mask.af : AFun := ⟨[.one (.int .i64), .one (.int .i64)], [.one .str], [.t 4],
 .seq (.reg [.op ⟨0, some 4, .mv (.c (.one (.str []))), none⟩])
 (.seq (.reg [.op ⟨0, some 10, .mv (.t 0), none⟩,
  .op ⟨1, some 11, .conv .u16 (.t 10), none⟩,
  .op ⟨2, some 12, .conv .u64 (.t 11), none⟩,
  .op ⟨3, some 13, .bin .mul (.t 12) (.c (.one (.int .u64 40503))), none⟩,
  .op ⟨4, some 14, .bin .rem (.t 13) (.c (.one (.int .u64 65536))), none⟩,
  .op ⟨5, some 15, .bin .xor (.t 14) (.c (.one (.int .u64 44257))), none⟩,
  .op ⟨6, some 5, .mv (.t 15), none⟩])
 (.seq (.scope [(.normal, [(5, .one (.int .u64))])] (.seq (.reg [.op ⟨0, some 16, .mv (.t 5), none⟩,
  .op ⟨1, some 17, .bin .eql (.t 16) (.c (.one (.int .u64 0))), none⟩])
 (.cond (.t 17) (.reg [.op ⟨0, some 5, .mv (.c (.one (.int .u64 44257))), none⟩]) (.skip))))
 (.seq (.reg [.op ⟨0, some 18, .bslice 1 0 [] [], none⟩,
  .op ⟨1, some 6, .mv (.t 18), none⟩])
 (.seq (.seq (.reg [.op ⟨0, some 7, .mv (.c (.one (.int .i64 0))), none⟩])
 (.block 0 (.loop [(5, .one (.int .u64)), (6, .one (.sl 1)), (7, .one (.int .i64))] [(.exit 0, [(6, .one (.sl 1))])] (.seq (.seq (.reg [.op ⟨0, some 19, .mv (.t 7), none⟩,
  .op ⟨1, some 20, .mv (.t 1), none⟩,
  .op ⟨2, some 21, .bin .lss (.t 19) (.t 20), none⟩])
 (.cond (.t 21) (.skip) (.exit 0)))
 (.seq (.block 1 (.seq (.seq (.reg [.op ⟨0, some 8, .mv (.c (.one (.int .i64 0))), none⟩])
 (.block 2 (.loop [(5, .one (.int .u64)), (8, .one (.int .i64))] [(.exit 2, [(5, .one (.int .u64))])] (.seq (.seq (.reg [.op ⟨0, some 24, .mv (.t 8), none⟩,
  .op ⟨1, some 25, .bin .lss (.t 24) (.c (.one (.int .i64 8))), none⟩])
 (.cond (.t 25) (.skip) (.exit 2)))
 (.seq (.block 3 (.seq (.reg [.op ⟨0, some 28, .mv (.t 5), none⟩,
  .op ⟨1, some 29, .bin .rem (.t 28) (.c (.one (.int .u64 2))), none⟩,
  .op ⟨2, some 9, .mv (.t 29), none⟩])
 (.seq (.reg [.op ⟨0, some 30, .mv (.t 5), none⟩,
  .op ⟨1, some 31, .bin .quo (.t 30) (.c (.one (.int .u64 2))), none⟩,
  .op ⟨2, some 5, .mv (.t 31), none⟩])
 (.seq (.reg [.op ⟨0, some 32, .mv (.t 9), none⟩,
  .op ⟨1, some 33, .bin .eql (.t 32) (.c (.one (.int .u64 1))), none⟩])
 (.cond (.t 33) (.reg [.op ⟨0, some 34, .mv (.t 5), none⟩,
  .op ⟨1, some 35, .bin .xor (.t 34) (.c (.one (.int .u64 46080))), none⟩,
  .op ⟨2, some 5, .mv (.t 35), none⟩]) (.skip))))))
 (.reg [.op ⟨0, some 26, .mv (.t 8), none⟩,
  .op ⟨1, some 27, .bin .add (.t 26) (.c (.one (.int .i64 1))), none⟩,
  .op ⟨2, some 8, .mv (.t 27), none⟩]))))))
 (.reg [.op ⟨0, some 36, .mv (.t 6), none⟩,
  .op ⟨1, some 37, .mv (.t 5), none⟩,
  .op ⟨2, some 38, .bin .rem (.t 37) (.c (.one (.int .u64 256))), none⟩,
  .op ⟨3, some 39, .conv .u8 (.t 38), none⟩,
  .op ⟨4, some 40, .bslice 1 1 [.int .u8 0] [(0, 1, (.t 39))], none⟩,
  .op ⟨5, some 41, .app 1 1 (.t 36) (.t 40), none⟩,
  .op ⟨6, some 6, .mv (.t 41), none⟩])))
 (.reg [.op ⟨0, some 22, .mv (.t 7), none⟩,
  .op ⟨1, some 23, .bin .add (.t 22) (.c (.one (.int .i64 1))), none⟩,
  .op ⟨2, some 7, .mv (.t 23), none⟩]))))))
 (.seq (.reg [.op ⟨0, some 42, .mv (.t 6), none⟩,
  .op ⟨1, some 43, .b2s (.t 42), none⟩,
  .op ⟨2, some 4, .mv (.t 43), none⟩])
 (.ret))))))⟩
noncomputable def ref29_Mask.s1 (s5 : (Int × Int × Unit)) (H6 : Heap) : Option (((Int × Int × Unit) ⊕ (Int × Unit)) × Heap) :=
 cond (decide (s5.2.1 < 8)) (
 cond (decide ((Int.tmod s5.1 2) = 1)) (
 some (Sum.inl ((bitsI .xor .u64 (IntKind.wrap .u64 (Int.tdiv s5.1 2)) 46080), (IntKind.wrap .i64 (s5.2.1 + 1)), ()), H6)) (
 some (Sum.inl ((IntKind.wrap .u64 (Int.tdiv s5.1 2)), (IntKind.wrap .i64 (s5.2.1 + 1)), ()), H6))) (
 some (Sum.inr (s5.1, ()), H6))
noncomputable def ref29_Mask.s2 (x1 : Int) (s3 : (Int × Sl × Int × Unit)) (H4 : Heap) : Option (((Int × Sl × Int × Unit) ⊕ (Sl × Unit)) × Heap) :=
 cond (decide (s3.2.2.1 < x1)) (
 (loopW (ref29_Mask.s1) (s3.1, 0, ()) H4).bind fun (p7 : (Int × Unit) × Heap) =>
 let H8 : Heap := p7.2 ++ [Blk.cells [.int .u8 (IntKind.wrap .u8 (Int.tmod p7.1.1 256))] .exact]
 (slRow H8 1 (⟨some (p7.2.length, 0), 1, 1⟩)).bind fun (cs9 : (List C)) =>
 (appS H8 1 1 s3.2.1 1 cs9).bind fun (p10 : (Sl × Heap)) =>
 some (Sum.inl (p7.1.1, p10.1, (IntKind.wrap .i64 (s3.2.2.1 + 1)), ()), p10.2)) (
 some (Sum.inr (s3.2.1, ()), H4))
noncomputable def ref29_Mask.on (x0 : Int) (x1 : Int) (H : Heap) : Option (Bytes × Unit) :=
 (cond (decide ((bitsI .xor .u64 (Int.tmod (IntKind.wrap .u64 ((IntKind.wrap .u64 (IntKind.wrap .u16 x0)) * 40503)) 65536) 44257) = 0)) (
 some ((44257, ()), H)) (
 some (((bitsI .xor .u64 (Int.tmod (IntKind.wrap .u64 ((IntKind.wrap .u64 (IntKind.wrap .u16 x0)) * 40503)) 65536) 44257), ()), H)) : Option ((Int × Unit) × Heap)).bind fun (p1 : (Int × Unit) × Heap) =>
 let H2 : Heap := p1.2 ++ [Blk.cells [] .exact]
 (loopW (ref29_Mask.s2 x1) (p1.1.1, ⟨some (p1.2.length, 0), 0, 0⟩, 0, ()) H2).bind fun (p11 : (Sl × Unit) × Heap) =>
 (strOf p11.2 p11.1.1).bind fun (s12 : Bytes) =>
 some (s12, ())
noncomputable def ref29_Mask (x0 : Int) (x1 : Int) : Option (Bytes × Unit) := ref29_Mask.on x0 x1 []
noncomputable def ref29_Mask.c : Callee := .pure [.one (.int .i64), .one (.int .i64)] [.one .str] (fun x => ref29_Mask x.1 x.2.1)
noncomputable def ref29_Mask.calls : Nat → Option Callee
  | _ => none
theorem ref29_Mask.eq : evPure ref29_Mask.calls ref29_Mask.af = (fun x H => ref29_Mask.on x.1 x.2.1 H) := by kernel_rfl

/-! ### tinderbox/tinderboxref29.right -/
def ref29_right.af : AFun := ⟨[.one .str, .one (.int .i64)], [.one .bool], [.t 4],
 .seq (.reg [.op ⟨0, some 4, .mv (.c (.one (.bool false))), none⟩])
 (.seq (.seq (.reg [.op ⟨0, some 5, .mv (.c (.one (.int .i64 0))), none⟩])
 (.block 0 (.loop [(5, .one (.int .i64))] [(.exit 0, []), (.ret, [(4, .one .bool)])] (.seq (.seq (.reg [.op ⟨0, some 9, .mv (.t 5), none⟩,
  .op ⟨1, some 10, .mv (.t 1), none⟩,
  .op ⟨2, some 11, .bin .lss (.t 9) (.t 10), none⟩])
 (.cond (.t 11) (.skip) (.exit 0)))
 (.seq (.block 1 (.seq (.reg [.op ⟨0, some 14, .mv (.t 5), none⟩,
  .op ⟨1, some 15, .call 0 [(.c (.one (.int .u8 2))), (.t 14)], none⟩,
  .op ⟨2, some 6, .mv (.t 15), none⟩,
  .op ⟨3, some 7, .mv (.c (.one (.int .u8 0))), none⟩])
 (.seq (.seq (.reg [.op ⟨0, some 8, .mv (.c (.one (.int .i64 0))), none⟩])
 (.block 2 (.loop [(7, .one (.int .u8)), (8, .one (.int .i64))] [(.exit 2, [(7, .one (.int .u8))])] (.seq (.seq (.reg [.op ⟨0, some 16, .mv (.t 8), none⟩,
  .op ⟨1, some 17, .mv (.t 0), none⟩,
  .op ⟨2, some 18, .lens (.t 17), none⟩,
  .op ⟨3, some 19, .bin .lss (.t 16) (.t 18), none⟩])
 (.cond (.t 19) (.skip) (.exit 2)))
 (.seq (.block 3 (.reg [.op ⟨0, some 22, .mv (.t 7), none⟩,
  .op ⟨1, some 23, .mv (.t 6), none⟩,
  .op ⟨2, some 24, .call 1 [(.t 22), (.t 23)], none⟩,
  .op ⟨3, some 25, .mv (.t 0), none⟩,
  .op ⟨4, some 26, .mv (.t 8), none⟩,
  .op ⟨5, some 27, .index (.t 25) (.t 26), none⟩,
  .op ⟨6, some 28, .bin .xor (.t 24) (.t 27), none⟩,
  .op ⟨7, some 7, .mv (.t 28), none⟩]))
 (.reg [.op ⟨0, some 20, .mv (.t 8), none⟩,
  .op ⟨1, some 21, .bin .add (.t 20) (.c (.one (.int .i64 1))), none⟩,
  .op ⟨2, some 8, .mv (.t 21), none⟩]))))))
 (.seq (.reg [.op ⟨0, some 29, .mv (.t 7), none⟩,
  .op ⟨1, some 30, .bin .neq (.t 29) (.c (.one (.int .u8 0))), none⟩])
 (.cond (.t 30) (.seq (.reg [.op ⟨0, some 4, .mv (.c (.one (.bool false))), none⟩])
 (.ret)) (.skip))))))
 (.reg [.op ⟨0, some 12, .mv (.t 5), none⟩,
  .op ⟨1, some 13, .bin .add (.t 12) (.c (.one (.int .i64 1))), none⟩,
  .op ⟨2, some 5, .mv (.t 13), none⟩]))))))
 (.seq (.reg [.op ⟨0, some 4, .mv (.c (.one (.bool true))), none⟩])
 (.ret)))⟩
noncomputable def ref29_right.s1 (x0 : Bytes) (r3 : (Int × Unit)) (s4 : (Int × Int × Unit)) (H5 : Heap) : Option (((Int × Int × Unit) ⊕ (Int × Unit)) × Heap) :=
 cond (decide (s4.2.1 < (List.length (x0 : Bytes) : Int))) (
 (ref27_Mul s4.1 r3.1).bind fun (r6 : (Int × Unit)) =>
 (idxS x0 s4.2.1).bind fun (n7 : Int) =>
 some (Sum.inl ((bitsI .xor .u8 r6.1 n7), (IntKind.wrap .i64 (s4.2.1 + 1)), ()), H5)) (
 some (Sum.inr (s4.1, ()), H5))
noncomputable def ref29_right.s2 (x0 : Bytes) (x1 : Int) (s1 : (Int × Unit)) (H2 : Heap) : Option (((Int × Unit) ⊕ ((Unit) ⊕ (Bool × Unit))) × Heap) :=
 cond (decide (s1.1 < x1)) (
 (ref27_Pow 2 s1.1).bind fun (r3 : (Int × Unit)) =>
 (loopW (ref29_right.s1 x0 r3) (0, 0, ()) H2).bind fun (p8 : (Int × Unit) × Heap) =>
 cond (!decide (p8.1.1 = 0)) (
 some (Sum.inr (Sum.inr (false, ())), p8.2)) (
 some (Sum.inl ((IntKind.wrap .i64 (s1.1 + 1)), ()), p8.2))) (
 some (Sum.inr (Sum.inl (())), H2))
noncomputable def ref29_right.on (x0 : Bytes) (x1 : Int) (H : Heap) : Option (Bool × Unit) :=
 (loopW (ref29_right.s2 x0 x1) (0, ()) H).bind fun (p9 : ((Unit) ⊕ (Bool × Unit)) × Heap) =>
 Sum.elim (fun (y10 : (Unit)) =>
 some (true, ())) (fun (z11 : (Bool × Unit)) =>
 some (z11.1, ())) p9.1
noncomputable def ref29_right (x0 : Bytes) (x1 : Int) : Option (Bool × Unit) := ref29_right.on x0 x1 []
noncomputable def ref29_right.c : Callee := .pure [.one .str, .one (.int .i64)] [.one .bool] (fun x => ref29_right x.1 x.2.1)
noncomputable def ref29_right.calls : Nat → Option Callee
  | 0 => some ref27_Pow.c
  | 1 => some ref27_Mul.c
  | _ => none
theorem ref29_right.eq : evPure ref29_right.calls ref29_right.af = (fun x H => ref29_right.on x.1 x.2.1 H) := by kernel_rfl

/-! ### tinderbox/tinderboxref29.Kept -/
def ref29_Kept.af : AFun := ⟨[.one .str, .one .str, .agg [.int .i64, .int .i64, .int .i64, .int .i64], .one (.int .i64)], [.one .bool], [.t 8],
 .seq (.reg [.op ⟨0, some 6, .box (.t 2), none⟩,
  .op ⟨1, some 8, .mv (.c (.one (.bool false))), none⟩])
 (.seq (.seq (.reg [.op ⟨0, some 14, .mv (.t 1), none⟩,
  .op ⟨1, some 15, .lens (.t 14), none⟩,
  .op ⟨2, some 16, .addr 3 (.t 6), none⟩,
  .op ⟨3, some 17, .load (.one (.int .i64)) (.t 16), none⟩,
  .op ⟨4, some 18, .bin .neq (.t 15) (.t 17), none⟩,
  .op ⟨5, some 19, .mv (.t 18), none⟩,
  .op ⟨6, some 20, .mv (.t 0), some (19, false)⟩,
  .op ⟨7, some 21, .lens (.t 20), some (19, false)⟩,
  .op ⟨8, some 22, .addr 3 (.t 6), some (19, false)⟩,
  .op ⟨9, some 23, .load (.one (.int .i64)) (.t 22), some (19, false)⟩,
  .op ⟨10, some 24, .addr 0 (.t 6), some (19, false)⟩,
  .op ⟨11, some 25, .load (.one (.int .i64)) (.t 24), some (19, false)⟩,
  .op ⟨12, some 26, .addr 2 (.t 6), some (19, false)⟩,
  .op ⟨13, some 27, .load (.one (.int .i64)) (.t 26), some (19, false)⟩,
  .op ⟨14, some 28, .bin .mul (.t 25) (.t 27), some (19, false)⟩,
  .op ⟨15, some 29, .bin .sub (.t 23) (.t 28), some (19, false)⟩,
  .op ⟨16, some 30, .bin .neq (.t 21) (.t 29), some (19, false)⟩,
  .op ⟨17, some 31, .pick (.t 19) (.c (.one (.bool true))) (.t 30), none⟩])
 (.cond (.t 31) (.seq (.reg [.op ⟨0, some 8, .mv (.c (.one (.bool false))), none⟩])
 (.ret)) (.skip)))
 (.seq (.reg [.op ⟨0, some 32, .mv (.t 3), none⟩,
  .op ⟨1, some 33, .mv (.t 0), none⟩,
  .op ⟨2, some 34, .lens (.t 33), none⟩,
  .op ⟨3, some 35, .call 0 [(.t 32), (.t 34)], none⟩,
  .op ⟨4, some 9, .mv (.t 35), none⟩])
 (.seq (.seq (.reg [.op ⟨0, some 10, .mv (.c (.one (.int .i64 0))), none⟩])
 (.block 0 (.loop [(10, .one (.int .i64))] [(.exit 0, []), (.ret, [(8, .one .bool)])] (.seq (.seq (.reg [.op ⟨0, some 36, .mv (.t 10), none⟩,
  .op ⟨1, some 37, .mv (.t 0), none⟩,
  .op ⟨2, some 38, .lens (.t 37), none⟩,
  .op ⟨3, some 39, .bin .lss (.t 36) (.t 38), none⟩])
 (.cond (.t 39) (.skip) (.exit 0)))
 (.seq (.block 1 (.seq (.reg [.op ⟨0, some 42, .mv (.t 1), none⟩,
  .op ⟨1, some 43, .mv (.t 10), none⟩,
  .op ⟨2, some 44, .index (.t 42) (.t 43), none⟩,
  .op ⟨3, some 45, .mv (.t 0), none⟩,
  .op ⟨4, some 46, .mv (.t 10), none⟩,
  .op ⟨5, some 47, .index (.t 45) (.t 46), none⟩,
  .op ⟨6, some 48, .mv (.t 9), none⟩,
  .op ⟨7, some 49, .mv (.t 10), none⟩,
  .op ⟨8, some 50, .index (.t 48) (.t 49), none⟩,
  .op ⟨9, some 51, .bin .xor (.t 47) (.t 50), none⟩,
  .op ⟨10, some 52, .bin .neq (.t 44) (.t 51), none⟩])
 (.cond (.t 52) (.seq (.reg [.op ⟨0, some 8, .mv (.c (.one (.bool false))), none⟩])
 (.ret)) (.skip))))
 (.reg [.op ⟨0, some 40, .mv (.t 10), none⟩,
  .op ⟨1, some 41, .bin .add (.t 40) (.c (.one (.int .i64 1))), none⟩,
  .op ⟨2, some 10, .mv (.t 41), none⟩]))))))
 (.seq (.seq (.reg [.op ⟨0, some 11, .mv (.c (.one (.int .i64 0))), none⟩])
 (.block 2 (.loop [(11, .one (.int .i64))] [(.exit 2, []), (.ret, [(8, .one .bool)])] (.seq (.seq (.reg [.op ⟨0, some 53, .mv (.t 11), none⟩,
  .op ⟨1, some 54, .addr 0 (.t 6), none⟩,
  .op ⟨2, some 55, .load (.one (.int .i64)) (.t 54), none⟩,
  .op ⟨3, some 56, .bin .lss (.t 53) (.t 55), none⟩])
 (.cond (.t 56) (.skip) (.exit 2)))
 (.seq (.block 3 (.seq (.reg [.op ⟨0, some 59, .bslice 1 0 [] [], none⟩,
  .op ⟨1, some 12, .mv (.t 59), none⟩])
 (.seq (.seq (.reg [.op ⟨0, some 60, .mv (.t 11), none⟩,
  .op ⟨1, some 13, .mv (.t 60), none⟩])
 (.block 4 (.loop [(12, .one (.sl 1)), (13, .one (.int .i64))] [(.exit 4, [(12, .one (.sl 1))])] (.seq (.seq (.reg [.op ⟨0, some 61, .mv (.t 13), none⟩,
  .op ⟨1, some 62, .mv (.t 1), none⟩,
  .op ⟨2, some 63, .lens (.t 62), none⟩,
  .op ⟨3, some 64, .bin .lss (.t 61) (.t 63), none⟩])
 (.cond (.t 64) (.skip) (.exit 4)))
 (.seq (.block 5 (.reg [.op ⟨0, some 69, .mv (.t 12), none⟩,
  .op ⟨1, some 70, .mv (.t 1), none⟩,
  .op ⟨2, some 71, .mv (.t 13), none⟩,
  .op ⟨3, some 72, .index (.t 70) (.t 71), none⟩,
  .op ⟨4, some 73, .bslice 1 1 [.int .u8 0] [(0, 1, (.t 72))], none⟩,
  .op ⟨5, some 74, .app 1 1 (.t 69) (.t 73), none⟩,
  .op ⟨6, some 12, .mv (.t 74), none⟩]))
 (.reg [.op ⟨0, some 65, .mv (.t 13), none⟩,
  .op ⟨1, some 66, .addr 0 (.t 6), none⟩,
  .op ⟨2, some 67, .load (.one (.int .i64)) (.t 66), none⟩,
  .op ⟨3, some 68, .bin .add (.t 65) (.t 67), none⟩,
  .op ⟨4, some 13, .mv (.t 68), none⟩]))))))
 (.seq (.reg [.op ⟨0, some 75, .mv (.t 12), none⟩,
  .op ⟨1, some 76, .b2s (.t 75), none⟩,
  .op ⟨2, some 77, .addr 2 (.t 6), none⟩,
  .op ⟨3, some 78, .load (.one (.int .i64)) (.t 77), none⟩,
  .op ⟨4, some 79, .call 1 [(.t 76), (.t 78)], none⟩,
  .op ⟨5, some 80, .un .not (.t 79), none⟩])
 (.cond (.t 80) (.seq (.reg [.op ⟨0, some 8, .mv (.c (.one (.bool false))), none⟩])
 (.ret)) (.skip))))))
 (.reg [.op ⟨0, some 57, .mv (.t 11), none⟩,
  .op ⟨1, some 58, .bin .add (.t 57) (.c (.one (.int .i64 1))), none⟩,
  .op ⟨2, some 11, .mv (.t 58), none⟩]))))))
 (.seq (.reg [.op ⟨0, some 8, .mv (.c (.one (.bool true))), none⟩])
 (.ret))))))⟩
noncomputable def ref29_Kept.s1 (x0 : Bytes) (x1 : Bytes) (r6 : (Bytes × Unit)) (s7 : (Int × Unit)) (H8 : Heap) : Option (((Int × Unit) ⊕ ((Unit) ⊕ (Bool × Unit))) × Heap) :=
 cond (decide (s7.1 < (List.length (x0 : Bytes) : Int))) (
 (idxS x1 s7.1).bind fun (n9 : Int) =>
 (idxS x0 s7.1).bind fun (n10 : Int) =>
 (idxS r6.1 s7.1).bind fun (n11 : Int) =>
 cond (!decide (n9 = (bitsI .xor .u8 n10 n11))) (
 some (Sum.inr (Sum.inr (false, ())), H8)) (
 some (Sum.inl ((IntKind.wrap .i64 (s7.1 + 1)), ()), H8))) (
 some (Sum.inr (Sum.inl (())), H8))
noncomputable def ref29_Kept.s2 (x1 : Bytes) (H : Heap) (s18 : (Sl × Int × Unit)) (H19 : Heap) : Option (((Sl × Int × Unit) ⊕ (Sl × Unit)) × Heap) :=
 cond (decide (s18.2.1 < (List.length (x1 : Bytes) : Int))) (
 (idxS x1 s18.2.1).bind fun (n20 : Int) =>
 let H21 : Heap := H19 ++ [Blk.cells [.int .u8 n20] .exact]
 (slRow H21 1 (⟨some (H19.length, 0), 1, 1⟩)).bind fun (cs22 : (List C)) =>
 (appS H21 1 1 s18.1 1 cs22).bind fun (p23 : (Sl × Heap)) =>
 (rdI .i64 p23.2 H.length 0).bind fun (v24 : Int) =>
 some (Sum.inl (p23.1, (IntKind.wrap .i64 (s18.2.1 + v24)), ()), p23.2)) (
 some (Sum.inr (s18.1, ()), H19))
noncomputable def ref29_Kept.s3 (x1 : Bytes) (H : Heap) (s14 : (Int × Unit)) (H15 : Heap) : Option (((Int × Unit) ⊕ ((Unit) ⊕ (Bool × Unit))) × Heap) :=
 (rdI .i64 H15 H.length 0).bind fun (v16 : Int) =>
 cond (decide (s14.1 < v16)) (
 let H17 : Heap := H15 ++ [Blk.cells [] .exact]
 (loopW (ref29_Kept.s2 x1 H) (⟨some (H15.length, 0), 0, 0⟩, s14.1, ()) H17).bind fun (p25 : (Sl × Unit) × Heap) =>
 (strOf p25.2 p25.1.1).bind fun (s26 : Bytes) =>
 (rdI .i64 p25.2 H.length 2).bind fun (v27 : Int) =>
 (ref29_right s26 v27).bind fun (r28 : (Bool × Unit)) =>
 cond (!r28.1) (
 some (Sum.inr (Sum.inr (false, ())), p25.2)) (
 some (Sum.inl ((IntKind.wrap .i64 (s14.1 + 1)), ()), p25.2))) (
 some (Sum.inr (Sum.inl (())), H15))
noncomputable def ref29_Kept.on (x0 : Bytes) (x1 : Bytes) (x2 : (Int × Int × Int × Int × Unit)) (x3 : Int) (H : Heap) : Option (Bool × Unit) :=
 let H1 : Heap := H ++ [Blk.cells [.int .i64 x2.1, .int .i64 x2.2.1, .int .i64 x2.2.2.1, .int .i64 x2.2.2.2.1] .exact]
 (rdI .i64 H1 H.length 3).bind fun (v2 : Int) =>
 cond (!decide ((List.length (x1 : Bytes) : Int) = v2)) (
 some (false, ())) (
 (rdI .i64 H1 H.length 3).bind fun (v3 : Int) =>
 (rdI .i64 H1 H.length 0).bind fun (v4 : Int) =>
 (rdI .i64 H1 H.length 2).bind fun (v5 : Int) =>
 cond (!decide ((List.length (x0 : Bytes) : Int) = (IntKind.wrap .i64 (v3 - (IntKind.wrap .i64 (v4 * v5)))))) (
 some (false, ())) (
 (ref29_Mask x3 (List.length (x0 : Bytes) : Int)).bind fun (r6 : (Bytes × Unit)) =>
 (loopW (ref29_Kept.s1 x0 x1 r6) (0, ()) H1).bind fun (p12 : ((Unit) ⊕ (Bool × Unit)) × Heap) =>
 Sum.elim (fun (y13 : (Unit)) =>
 (loopW (ref29_Kept.s3 x1 H) (0, ()) p12.2).bind fun (p29 : ((Unit) ⊕ (Bool × Unit)) × Heap) =>
 Sum.elim (fun (y30 : (Unit)) =>
 some (true, ())) (fun (z31 : (Bool × Unit)) =>
 some (z31.1, ())) p29.1) (fun (z32 : (Bool × Unit)) =>
 some (z32.1, ())) p12.1))
noncomputable def ref29_Kept (x0 : Bytes) (x1 : Bytes) (x2 : (Int × Int × Int × Int × Unit)) (x3 : Int) : Option (Bool × Unit) := ref29_Kept.on x0 x1 x2 x3 []
noncomputable def ref29_Kept.c : Callee := .pure [.one .str, .one .str, .agg [.int .i64, .int .i64, .int .i64, .int .i64], .one (.int .i64)] [.one .bool] (fun x => ref29_Kept x.1 x.2.1 x.2.2.1 x.2.2.2.1)
noncomputable def ref29_Kept.calls : Nat → Option Callee
  | 0 => some ref29_Mask.c
  | 1 => some ref29_right.c
  | _ => none
theorem ref29_Kept.eq : evPure ref29_Kept.calls ref29_Kept.af = (fun x H => ref29_Kept.on x.1 x.2.1 x.2.2.1 x.2.2.2.1 H) := by kernel_rfl
end Ev
