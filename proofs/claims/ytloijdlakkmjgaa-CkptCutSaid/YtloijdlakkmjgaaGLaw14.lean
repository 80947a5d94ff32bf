/- What the functions of the package Law14 compute: abstract code, and a function of plain Lean for each; the kernel checks that they are the same. Written by gen2.py. -/
import Derived.Test.YtloijdlakkmjgaaEvCore
import Derived.Test.YtloijdlakkmjgaaGCkpt
import Derived.Test.YtloijdlakkmjgaaGGroup
import Derived.Test.YtloijdlakkmjgaaGLaw13
import Derived.Test.YtloijdlakkmjgaaGNand
import Derived.Test.YtloijdlakkmjgaaGRef07
import Derived.Test.YtloijdlakkmjgaaGWrite
import Derived.KernelRfl
set_option linter.unusedVariables false
set_option maxRecDepth 100000
namespace Ev
open Go (IntKind BinOp UnOp)

/-! ### tinderbox/tinderboxlaw14.found -/
def law14_found.af : AFun := ⟨[.one .ptr, .one (.int .i64)], [.one (.sl 8)], [.t 4],
 .seq (.reg [.op ⟨0, some 4, .mv (.c (.one (.sl 8 (⟨none, 0, 0⟩)))), none⟩])
 (.seq (.reg [.op ⟨0, some 11, .bslice 8 0 [] [], none⟩,
  .op ⟨1, some 5, .mv (.t 11), none⟩])
 (.seq (.seq (.reg [.op ⟨0, some 6, .mv (.c (.one (.int .i64 0))), none⟩])
 (.block 0 (.loop [(5, .one (.sl 8)), (6, .one (.int .i64))] [(.exit 0, [(5, .one (.sl 8))])] (.seq (.seq (.reg [.op ⟨0, some 12, .mv (.t 6), none⟩,
  .op ⟨1, some 13, .mv (.t 1), none⟩,
  .op ⟨2, some 14, .bin .lss (.t 12) (.t 13), none⟩])
 (.cond (.t 14) (.skip) (.exit 0)))
 (.seq (.block 1 (.seq (.reg [.op ⟨0, some 17, .mv (.t 6), none⟩,
  .op ⟨1, some 18, .build [.int .i64 0, .int .i64 0, .int .i64 0, .int .u64 0, .int .i64 0, .int .i64 0, .int .i64 0, .str []] [(0, 1, (.t 17))], none⟩,
  .op ⟨2, some 7, .new [.int .i64 0, .int .i64 0, .int .i64 0, .int .u64 0, .int .i64 0, .int .i64 0, .int .i64 0, .str []], none⟩,
  .op ⟨3, none, .store 8 (.t 7) (.t 18), none⟩])
 (.seq (.seq (.reg [.op ⟨0, some 20, .mv (.t 0), none⟩,
  .op ⟨1, some 21, .mv (.t 6), none⟩,
  .op ⟨2, some 22, .call 0 [(.t 20), (.t 21)], none⟩,
  .op ⟨3, some 19, .mv (.t 22), none⟩,
  .op ⟨4, some 23, .ext (.t 19) 0, none⟩,
  .op ⟨5, some 24, .ext (.t 19) 1, none⟩,
  .op ⟨6, some 25, .ext (.t 19) 2, none⟩,
  .op ⟨7, some 8, .new [.int .i64 0, .int .u64 0, .int .i64 0, .int .i64 0, .int .i64 0], none⟩,
  .op ⟨8, none, .store 5 (.t 8) (.t 23), none⟩,
  .op ⟨9, some 9, .mv (.t 24), none⟩,
  .op ⟨10, some 10, .mv (.t 25), none⟩])
 (.seq (.reg [.op ⟨0, some 26, .mv (.t 10), none⟩,
  .op ⟨1, some 27, .bin .eql (.t 26) (.c (.one (.int .i64 0))), none⟩])
 (.cond (.t 27) (.reg [.op ⟨0, some 28, .load (.agg [.int .i64, .int .u64, .int .i64, .int .i64, .int .i64]) (.t 8), none⟩,
  .op ⟨1, some 29, .mv (.t 9), none⟩,
  .op ⟨2, some 30, .addr 1 (.t 7), none⟩,
  .op ⟨3, none, .store 1 (.t 30) (.c (.one (.int .i64 1))), none⟩,
  .op ⟨4, some 31, .addr 2 (.t 7), none⟩,
  .again ⟨0, some 28, .load (.agg [.int .i64, .int .u64, .int .i64, .int .i64, .int .i64]) (.t 8), none⟩,
  .op ⟨5, none, .store 5 (.t 31) (.t 28), none⟩,
  .op ⟨6, some 32, .addr 7 (.t 7), none⟩,
  .op ⟨7, none, .store 1 (.t 32) (.t 29), none⟩]) (.skip))))
 (.reg [.op ⟨0, some 33, .mv (.t 5), none⟩,
  .op ⟨1, some 34, .load (.agg [.int .i64, .int .i64, .int .i64, .int .u64, .int .i64, .int .i64, .int .i64, .str]) (.t 7), none⟩,
  .op ⟨2, some 35, .bslice 8 1 [.int .i64 0, .int .i64 0, .int .i64 0, .int .u64 0, .int .i64 0, .int .i64 0, .int .i64 0, .str []] [(0, 8, (.t 34))], none⟩,
  .op ⟨3, some 36, .app 8 72 (.t 33) (.t 35), none⟩,
  .op ⟨4, some 5, .mv (.t 36), none⟩]))))
 (.reg [.op ⟨0, some 15, .mv (.t 6), none⟩,
  .op ⟨1, some 16, .bin .add (.t 15) (.c (.one (.int .i64 1))), none⟩,
  .op ⟨2, some 6, .mv (.t 16), none⟩]))))))
 (.seq (.reg [.op ⟨0, some 37, .mv (.t 5), none⟩,
  .op ⟨1, some 4, .mv (.t 37), none⟩])
 (.ret))))⟩
noncomputable def law14_found.s1 (x0 : Ptr) (x1 : Int) (s2 : (Sl × Int × Unit)) (H3 : Heap) : Option (((Sl × Int × Unit) ⊕ (Sl × Unit)) × Heap) :=
 cond (decide (s2.2.1 < x1)) (
 let H4 : Heap := H3 ++ [Blk.cells [.int .i64 0, .int .i64 0, .int .i64 0, .int .u64 0, .int .i64 0, .int .i64 0, .int .i64 0, .str []] .exact]
 (wr H4 H3.length 0 [.int .i64 s2.2.1, .int .i64 0, .int .i64 0, .int .u64 0, .int .i64 0, .int .i64 0, .int .i64 0, .str []]).bind fun (H5 : Heap) =>
 (write_Writer_Read x0 s2.2.1 H5).bind fun (r6 : (((Int × Int × Int × Int × Int × Unit) × Bytes × Int × Unit) × Heap)) =>
 let H7 : Heap := r6.2 ++ [Blk.cells [.int .i64 0, .int .u64 0, .int .i64 0, .int .i64 0, .int .i64 0] .exact]
 (wr H7 r6.2.length 0 [.int .i64 r6.1.1.1, .int .u64 r6.1.1.2.1, .int .i64 r6.1.1.2.2.1, .int .i64 r6.1.1.2.2.2.1, .int .i64 r6.1.1.2.2.2.2.1]).bind fun (H8 : Heap) =>
 cond (decide (r6.1.2.2.1 = 0)) (
 Option.bind (α := (Int × Int × Int × Int × Int × Unit)) (rd H8 (.agg [.int .i64, .int .u64, .int .i64, .int .i64, .int .i64]) r6.2.length 0) fun (v9 : (Int × Int × Int × Int × Int × Unit)) =>
 (wr H8 H3.length 1 [.int .i64 1]).bind fun (H10 : Heap) =>
 Option.bind (α := (Int × Int × Int × Int × Int × Unit)) (rd H10 (.agg [.int .i64, .int .u64, .int .i64, .int .i64, .int .i64]) r6.2.length 0) fun (v11 : (Int × Int × Int × Int × Int × Unit)) =>
 if V.w (.agg [.int .i64 v11.1, .int .u64 v11.2.1, .int .i64 v11.2.2.1, .int .i64 v11.2.2.2.1, .int .i64 v11.2.2.2.2.1]) = V.w (.agg [.int .i64 v9.1, .int .u64 v9.2.1, .int .i64 v9.2.2.1, .int .i64 v9.2.2.2.1, .int .i64 v9.2.2.2.2.1]) then
 (wr H10 H3.length 2 [.int .i64 v9.1, .int .u64 v9.2.1, .int .i64 v9.2.2.1, .int .i64 v9.2.2.2.1, .int .i64 v9.2.2.2.2.1]).bind fun (H12 : Heap) =>
 (wr H12 H3.length 7 [.str r6.1.2.1]).bind fun (H13 : Heap) =>
 Option.bind (α := (Int × Int × Int × Int × Int × Int × Int × Bytes × Unit)) (rd H13 (.agg [.int .i64, .int .i64, .int .i64, .int .u64, .int .i64, .int .i64, .int .i64, .str]) H3.length 0) fun (v14 : (Int × Int × Int × Int × Int × Int × Int × Bytes × Unit)) =>
 let H15 : Heap := H13 ++ [Blk.cells [.int .i64 v14.1, .int .i64 v14.2.1, .int .i64 v14.2.2.1, .int .u64 v14.2.2.2.1, .int .i64 v14.2.2.2.2.1, .int .i64 v14.2.2.2.2.2.1, .int .i64 v14.2.2.2.2.2.2.1, .str v14.2.2.2.2.2.2.2.1] .exact]
 (slRow H15 8 (⟨some (H13.length, 0), 1, 1⟩)).bind fun (cs16 : (List C)) =>
 (appS H15 8 72 s2.1 1 cs16).bind fun (p17 : (Sl × Heap)) =>
 some (Sum.inl (p17.1, (IntKind.wrap .i64 (s2.2.1 + 1)), ()), p17.2)
 else none) (
 Option.bind (α := (Int × Int × Int × Int × Int × Int × Int × Bytes × Unit)) (rd H8 (.agg [.int .i64, .int .i64, .int .i64, .int .u64, .int .i64, .int .i64, .int .i64, .str]) H3.length 0) fun (v18 : (Int × Int × Int × Int × Int × Int × Int × Bytes × Unit)) =>
 let H19 : Heap := H8 ++ [Blk.cells [.int .i64 v18.1, .int .i64 v18.2.1, .int .i64 v18.2.2.1, .int .u64 v18.2.2.2.1, .int .i64 v18.2.2.2.2.1, .int .i64 v18.2.2.2.2.2.1, .int .i64 v18.2.2.2.2.2.2.1, .str v18.2.2.2.2.2.2.2.1] .exact]
 (slRow H19 8 (⟨some (H8.length, 0), 1, 1⟩)).bind fun (cs20 : (List C)) =>
 (appS H19 8 72 s2.1 1 cs20).bind fun (p21 : (Sl × Heap)) =>
 some (Sum.inl (p21.1, (IntKind.wrap .i64 (s2.2.1 + 1)), ()), p21.2))) (
 some (Sum.inr (s2.1, ()), H3))
noncomputable def law14_found (x0 : Ptr) (x1 : Int) (H : Heap) : Option ((Sl × Unit) × Heap) :=
 let H1 : Heap := H ++ [Blk.cells [] .exact]
 (loopW (law14_found.s1 x0 x1) (⟨some (H.length, 0), 0, 0⟩, 0, ()) H1).bind fun (p22 : (Sl × Unit) × Heap) =>
 some ((p22.1.1, ()), p22.2)
noncomputable def law14_found.c : Callee := .full [.one .ptr, .one (.int .i64)] [.one (.sl 8)] (fun x H => law14_found x.1 x.2.1 H)
noncomputable def law14_found.calls : Nat → Option Callee
  | 0 => some write_Writer_Read.c
  | _ => none
theorem law14_found.eq : evFull law14_found.calls law14_found.af = (fun x H => law14_found x.1 x.2.1 H) := by kernel_rfl

/-! ### tinderbox/tinderboxlaw14.awake -/
def law14_awake.af : AFun := ⟨[], [.one .bool], [.t 0],
 .seq (.reg [.op ⟨0, some 0, .mv (.c (.one (.bool false))), none⟩])
 (.seq (.reg [.op ⟨0, some 10, .build [.int .i64 0, .int .i64 0, .int .i64 0] [], none⟩,
  .op ⟨1, some 11, .build [.sl 3 Sl.nil, .sl 1 Sl.nil, .sl 1 Sl.nil] [], none⟩,
  .op ⟨2, some 12, .call 0 [(.t 10), (.t 11)], none⟩,
  .op ⟨3, some 9, .mv (.t 12), none⟩,
  .op ⟨4, some 13, .ext (.t 9) 0, none⟩,
  .op ⟨5, some 14, .ext (.t 9) 1, none⟩,
  .op ⟨6, some 15, .ext (.t 9) 2, none⟩,
  .op ⟨7, some 1, .mv (.t 13), none⟩,
  .op ⟨8, some 2, .mv (.t 14), none⟩,
  .op ⟨9, some 3, .mv (.t 15), none⟩])
 (.seq (.seq (.reg [.op ⟨0, some 16, .mv (.t 3), none⟩,
  .op ⟨1, some 17, .un .not (.t 16), none⟩])
 (.cond (.t 17) (.seq (.reg [.op ⟨0, some 0, .mv (.c (.one (.bool false))), none⟩])
 (.ret)) (.skip)))
 (.seq (.reg [.op ⟨0, some 19, .mv (.t 2), none⟩,
  .op ⟨1, some 20, .build [.int .i64 0, .int .i64 0, .int .i64 0, .int .i64 0, .int .i64 0, .int .i64 0] [(0, 1, (.c (.one (.int .i64 5)))), (1, 1, (.c (.one (.int .i64 3))))], none⟩,
  .op ⟨2, some 21, .bslice 6 1 [.int .i64 0, .int .i64 0, .int .i64 0, .int .i64 0, .int .i64 0, .int .i64 0] [(0, 6, (.t 20))], none⟩,
  .op ⟨3, some 22, .call 1 [(.t 19), (.t 21), (.c (.one (.int .i64 3))), (.c (.one (.int .u64 7))), (.c (.one (.int .i64 64)))], none⟩,
  .op ⟨4, some 18, .mv (.t 22), none⟩,
  .op ⟨5, some 23, .ext (.t 18) 0, none⟩,
  .op ⟨6, some 24, .ext (.t 18) 1, none⟩,
  .op ⟨7, some 25, .ext (.t 18) 2, none⟩,
  .op ⟨8, some 4, .mv (.t 23), none⟩,
  .op ⟨9, some 5, .mv (.t 24), none⟩,
  .op ⟨10, some 6, .mv (.t 25), none⟩])
 (.seq (.reg [.op ⟨0, some 27, .mv (.t 2), none⟩,
  .op ⟨1, some 28, .call 2 [(.t 27), (.c (.one (.int .i64 8)))], none⟩,
  .op ⟨2, some 29, .call 3 [(.t 28)], none⟩,
  .op ⟨3, some 26, .mv (.t 29), none⟩,
  .op ⟨4, some 30, .ext (.t 26) 0, none⟩,
  .op ⟨5, some 31, .ext (.t 26) 1, none⟩,
  .op ⟨6, some 7, .mv (.t 30), none⟩,
  .op ⟨7, some 8, .mv (.t 31), none⟩])
 (.seq (.reg [.op ⟨0, some 32, .mv (.t 6), none⟩,
  .op ⟨1, some 33, .bin .eql (.t 32) (.c (.one (.int .i64 0))), none⟩,
  .op ⟨2, some 34, .mv (.t 33), none⟩,
  .op ⟨3, some 35, .mv (.t 4), some (34, true)⟩,
  .op ⟨4, some 36, .len (.t 35), some (34, true)⟩,
  .op ⟨5, some 37, .bin .eql (.t 36) (.c (.one (.int .i64 1))), some (34, true)⟩,
  .op ⟨6, some 38, .pick (.t 34) (.t 37) (.c (.one (.bool false))), none⟩,
  .op ⟨7, some 39, .mv (.t 38), none⟩,
  .op ⟨8, some 40, .mv (.t 4), some (39, true)⟩,
  .op ⟨9, some 41, .idxa 1 (.t 40) (.c (.one (.int .i64 0))), some (39, true)⟩,
  .op ⟨10, some 42, .load (.one (.int .i64)) (.t 41), some (39, true)⟩,
  .op ⟨11, some 43, .bin .eql (.t 42) (.c (.one (.int .i64 0))), some (39, true)⟩,
  .op ⟨12, some 44, .pick (.t 39) (.t 43) (.c (.one (.bool false))), none⟩,
  .op ⟨13, some 45, .mv (.t 44), none⟩,
  .op ⟨14, some 46, .mv (.t 5), some (45, true)⟩,
  .op ⟨15, some 47, .bin .eql (.t 46) (.c (.one (.int .u64 8))), some (45, true)⟩,
  .op ⟨16, some 48, .pick (.t 45) (.t 47) (.c (.one (.bool false))), none⟩,
  .op ⟨17, some 49, .mv (.t 48), none⟩,
  .op ⟨18, some 50, .mv (.t 8), some (49, true)⟩,
  .op ⟨19, some 51, .pick (.t 49) (.t 50) (.c (.one (.bool false))), none⟩,
  .op ⟨20, some 52, .mv (.t 51), none⟩,
  .op ⟨21, some 53, .mv (.t 7), some (52, true)⟩,
  .op ⟨22, some 54, .len (.t 53), some (52, true)⟩,
  .op ⟨23, some 55, .bin .eql (.t 54) (.c (.one (.int .i64 1))), some (52, true)⟩,
  .op ⟨24, some 56, .pick (.t 52) (.t 55) (.c (.one (.bool false))), none⟩,
  .op ⟨25, some 57, .mv (.t 56), none⟩,
  .op ⟨26, some 58, .mv (.t 7), some (57, true)⟩,
  .op ⟨27, some 59, .call 4 [(.t 58)], some (57, true)⟩,
  .op ⟨28, some 60, .len (.t 59), some (57, true)⟩,
  .op ⟨29, some 61, .bin .eql (.t 60) (.c (.one (.int .i64 1))), some (57, true)⟩,
  .op ⟨30, some 62, .pick (.t 57) (.t 61) (.c (.one (.bool false))), none⟩,
  .op ⟨31, some 0, .mv (.t 62), none⟩])
 (.ret))))))⟩
noncomputable def law14_awake.on (H : Heap) : Option (Bool × Unit) :=
 (law13_Begun (0, 0, 0, ()) (⟨none, 0, 0⟩, ⟨none, 0, 0⟩, ⟨none, 0, 0⟩, ()) H).bind fun (r1 : ((Ptr × Ptr × Bool × Unit) × Heap)) =>
 cond (!r1.1.2.2.1) (
 some (false, ())) (
 let H2 : Heap := r1.2 ++ [Blk.cells [.int .i64 5, .int .i64 3, .int .i64 0, .int .i64 0, .int .i64 0, .int .i64 0] .exact]
 (ckpt_Write r1.1.2.1 (⟨some (r1.2.length, 0), 1, 1⟩) 3 7 64 H2).bind fun (r3 : ((Sl × Int × Int × Unit) × Heap)) =>
 (law14_found r1.1.2.1 8 r3.2).bind fun (r4 : ((Sl × Unit) × Heap)) =>
 (ckpt_Newest r4.1.1 r4.2).bind fun (r5 : ((Sl × Bool × Unit) × Heap)) =>
 cond (decide (r3.1.2.2.1 = 0)) (
 cond (decide ((r3.1.1.len : Int) = 1)) (
 (Sl.at 1 r3.1.1 0).bind fun (a6 : (Nat × Nat)) =>
 (rdI .i64 r5.2 a6.1 a6.2).bind fun (v7 : Int) =>
 cond (decide (v7 = 0)) (
 cond (decide (r3.1.2.1 = 8)) (
 cond r5.1.2.1 (
 cond (decide ((r5.1.1.len : Int) = 1)) (
 (ckpt_Texts r5.1.1 r5.2).bind fun (r8 : ((Sl × Unit) × Heap)) =>
 some ((decide ((r8.1.1.len : Int) = 1)), ())) (
 some (false, ()))) (
 some (false, ()))) (
 some (false, ()))) (
 some (false, ()))) (
 some (false, ()))) (
 some (false, ())))
noncomputable def law14_awake  : Option (Bool × Unit) := law14_awake.on []
noncomputable def law14_awake.c : Callee := .pure [] [.one .bool] (fun _ => law14_awake)
noncomputable def law14_awake.calls : Nat → Option Callee
  | 0 => some law13_Begun.c
  | 1 => some ckpt_Write.c
  | 2 => some law14_found.c
  | 3 => some ckpt_Newest.c
  | 4 => some ckpt_Texts.c
  | _ => none
theorem law14_awake.eq : evPure law14_awake.calls law14_awake.af = (fun _ H => law14_awake.on H) := by kernel_rfl

/-! ### tinderbox/tinderboxlaw14.good -/
def law14_good.af : AFun := ⟨[.one (.sl 6)], [.one (.sl 6)], [.t 2],
 .seq (.reg [.op ⟨0, some 2, .mv (.c (.one (.sl 6 (⟨none, 0, 0⟩)))), none⟩])
 (.seq (.reg [.op ⟨0, some 5, .bslice 6 0 [] [], none⟩,
  .op ⟨1, some 3, .mv (.t 5), none⟩])
 (.seq (.seq (.reg [.op ⟨0, some 4, .mv (.c (.one (.int .i64 0))), none⟩])
 (.block 0 (.loop [(3, .one (.sl 6)), (4, .one (.int .i64))] [(.exit 0, [(3, .one (.sl 6))])] (.seq (.seq (.reg [.op ⟨0, some 6, .mv (.t 4), none⟩,
  .op ⟨1, some 7, .mv (.t 0), none⟩,
  .op ⟨2, some 8, .len (.t 7), none⟩,
  .op ⟨3, some 9, .bin .lss (.t 6) (.t 8), none⟩,
  .op ⟨4, some 10, .mv (.t 9), none⟩,
  .op ⟨5, some 11, .mv (.t 4), some (10, true)⟩,
  .op ⟨6, some 12, .bin .lss (.t 11) (.c (.one (.int .i64 30))), some (10, true)⟩,
  .op ⟨7, some 13, .pick (.t 10) (.t 12) (.c (.one (.bool false))), none⟩])
 (.cond (.t 13) (.skip) (.exit 0)))
 (.seq (.block 1 (.seq (.reg [.op ⟨0, some 16, .mv (.t 0), none⟩,
  .op ⟨1, some 17, .mv (.t 4), none⟩,
  .op ⟨2, some 18, .idxa 6 (.t 16) (.t 17), none⟩,
  .op ⟨3, some 19, .load (.agg [.int .i64, .int .i64, .int .i64, .int .i64, .int .i64, .int .i64]) (.t 18), none⟩,
  .op ⟨4, some 20, .call 0 [(.t 19)], none⟩])
 (.cond (.t 20) (.reg [.op ⟨0, some 21, .mv (.t 3), none⟩,
  .op ⟨1, some 22, .mv (.t 0), none⟩,
  .op ⟨2, some 23, .mv (.t 4), none⟩,
  .op ⟨3, some 24, .idxa 6 (.t 22) (.t 23), none⟩,
  .op ⟨4, some 25, .load (.agg [.int .i64, .int .i64, .int .i64, .int .i64, .int .i64, .int .i64]) (.t 24), none⟩,
  .op ⟨5, some 26, .bslice 6 1 [.int .i64 0, .int .i64 0, .int .i64 0, .int .i64 0, .int .i64 0, .int .i64 0] [(0, 6, (.t 25))], none⟩,
  .op ⟨6, some 27, .app 6 48 (.t 21) (.t 26), none⟩,
  .op ⟨7, some 3, .mv (.t 27), none⟩]) (.skip))))
 (.reg [.op ⟨0, some 14, .mv (.t 4), none⟩,
  .op ⟨1, some 15, .bin .add (.t 14) (.c (.one (.int .i64 1))), none⟩,
  .op ⟨2, some 4, .mv (.t 15), none⟩]))))))
 (.seq (.reg [.op ⟨0, some 28, .mv (.t 3), none⟩,
  .op ⟨1, some 2, .mv (.t 28), none⟩])
 (.ret))))⟩
noncomputable def law14_good.s1 (x0 : Sl) (s2 : (Sl × Int × Unit)) (H3 : Heap) : Option (((Sl × Int × Unit) ⊕ (Sl × Unit)) × Heap) :=
 cond (decide (s2.2.1 < (x0.len : Int))) (
 cond (decide (s2.2.1 < 30)) (
 (Sl.at 6 x0 s2.2.1).bind fun (a4 : (Nat × Nat)) =>
 Option.bind (α := (Int × Int × Int × Int × Int × Int × Unit)) (rd H3 (.agg [.int .i64, .int .i64, .int .i64, .int .i64, .int .i64, .int .i64]) a4.1 a4.2) fun (v5 : (Int × Int × Int × Int × Int × Int × Unit)) =>
 (ref07_Check (v5.1, v5.2.1, v5.2.2.1, v5.2.2.2.1, v5.2.2.2.2.1, v5.2.2.2.2.2.1, ())).bind fun (r6 : (Bool × Unit)) =>
 cond r6.1 (
 (Sl.at 6 x0 s2.2.1).bind fun (a7 : (Nat × Nat)) =>
 Option.bind (α := (Int × Int × Int × Int × Int × Int × Unit)) (rd H3 (.agg [.int .i64, .int .i64, .int .i64, .int .i64, .int .i64, .int .i64]) a7.1 a7.2) fun (v8 : (Int × Int × Int × Int × Int × Int × Unit)) =>
 let H9 : Heap := H3 ++ [Blk.cells [.int .i64 v8.1, .int .i64 v8.2.1, .int .i64 v8.2.2.1, .int .i64 v8.2.2.2.1, .int .i64 v8.2.2.2.2.1, .int .i64 v8.2.2.2.2.2.1] .exact]
 (slRow H9 6 (⟨some (H3.length, 0), 1, 1⟩)).bind fun (cs10 : (List C)) =>
 (appS H9 6 48 s2.1 1 cs10).bind fun (p11 : (Sl × Heap)) =>
 some (Sum.inl (p11.1, (IntKind.wrap .i64 (s2.2.1 + 1)), ()), p11.2)) (
 some (Sum.inl (s2.1, (IntKind.wrap .i64 (s2.2.1 + 1)), ()), H3))) (
 some (Sum.inr (s2.1, ()), H3))) (
 some (Sum.inr (s2.1, ()), H3))
noncomputable def law14_good (x0 : Sl) (H : Heap) : Option ((Sl × Unit) × Heap) :=
 let H1 : Heap := H ++ [Blk.cells [] .exact]
 (loopW (law14_good.s1 x0) (⟨some (H.length, 0), 0, 0⟩, 0, ()) H1).bind fun (p12 : (Sl × Unit) × Heap) =>
 some ((p12.1.1, ()), p12.2)
noncomputable def law14_good.c : Callee := .full [.one (.sl 6)] [.one (.sl 6)] (fun x H => law14_good x.1 H)
noncomputable def law14_good.calls : Nat → Option Callee
  | 0 => some ref07_Check.c
  | _ => none
theorem law14_good.eq : evFull law14_good.calls law14_good.af = (fun x H => law14_good x.1 H) := by kernel_rfl

/-! ### tinderbox/tinderboxlaw14.CkptWrites -/
def law14_CkptWrites.af : AFun := ⟨[.one (.sl 6), .one .bool, .one (.int .u64)], [.one .bool], [.t 6],
 .seq (.reg [.op ⟨0, some 6, .mv (.c (.one (.bool false))), none⟩])
 (.seq (.reg [.op ⟨0, some 24, .build [.int .i64 0, .int .i64 0, .int .i64 0] [], none⟩,
  .op ⟨1, some 25, .build [.sl 3 Sl.nil, .sl 1 Sl.nil, .sl 1 Sl.nil] [], none⟩,
  .op ⟨2, some 26, .call 0 [(.t 24), (.t 25)], none⟩,
  .op ⟨3, some 23, .mv (.t 26), none⟩,
  .op ⟨4, some 27, .ext (.t 23) 0, none⟩,
  .op ⟨5, some 28, .ext (.t 23) 1, none⟩,
  .op ⟨6, some 29, .ext (.t 23) 2, none⟩,
  .op ⟨7, some 7, .mv (.t 27), none⟩,
  .op ⟨8, some 8, .mv (.t 28), none⟩,
  .op ⟨9, some 9, .mv (.t 29), none⟩])
 (.seq (.seq (.reg [.op ⟨0, some 30, .call 1 [], none⟩,
  .op ⟨1, some 31, .un .not (.t 30), none⟩,
  .op ⟨2, some 32, .mv (.t 31), none⟩,
  .op ⟨3, some 33, .mv (.t 9), some (32, false)⟩,
  .op ⟨4, some 34, .un .not (.t 33), some (32, false)⟩,
  .op ⟨5, some 35, .pick (.t 32) (.c (.one (.bool true))) (.t 34), none⟩])
 (.cond (.t 35) (.seq (.reg [.op ⟨0, some 6, .mv (.c (.one (.bool false))), none⟩])
 (.ret)) (.skip)))
 (.seq (.reg [.op ⟨0, some 36, .mv (.t 0), none⟩,
  .op ⟨1, some 37, .call 2 [(.t 36)], none⟩,
  .op ⟨2, some 38, .mv (.t 2), none⟩,
  .op ⟨3, some 39, .bin .and (.t 38) (.c (.one (.int .u64 65535))), none⟩,
  .op ⟨4, some 40, .mv (.t 7), none⟩,
  .op ⟨5, some 41, .call 3 [(.t 40)], none⟩,
  .op ⟨6, some 42, .field (.one (.int .i64)) 2 (.t 41), none⟩,
  .op ⟨7, some 10, .mv (.t 37), none⟩,
  .op ⟨8, some 11, .mv (.c (.one (.int .i64 2))), none⟩,
  .op ⟨9, some 12, .mv (.t 39), none⟩,
  .op ⟨10, some 13, .mv (.t 42), none⟩])
 (.seq (.scope [(.normal, [(11, .one (.int .i64))])] (.seq (.reg [.op ⟨0, some 43, .mv (.t 1), none⟩])
 (.cond (.t 43) (.reg [.op ⟨0, some 11, .mv (.c (.one (.int .i64 3))), none⟩]) (.skip))))
 (.seq (.reg [.op ⟨0, some 44, .mv (.t 10), none⟩,
  .op ⟨1, some 45, .mv (.t 13), none⟩,
  .op ⟨2, some 46, .call 4 [(.t 44), (.t 45)], none⟩,
  .op ⟨3, some 14, .mv (.t 46), none⟩])
 (.seq (.reg [.op ⟨0, some 48, .mv (.t 8), none⟩,
  .op ⟨1, some 49, .mv (.t 10), none⟩,
  .op ⟨2, some 50, .mv (.t 11), none⟩,
  .op ⟨3, some 51, .mv (.t 12), none⟩,
  .op ⟨4, some 52, .mv (.t 13), none⟩,
  .op ⟨5, some 53, .call 5 [(.t 48), (.t 49), (.t 50), (.t 51), (.t 52)], none⟩,
  .op ⟨6, some 47, .mv (.t 53), none⟩,
  .op ⟨7, some 54, .ext (.t 47) 0, none⟩,
  .op ⟨8, some 55, .ext (.t 47) 1, none⟩,
  .op ⟨9, some 56, .ext (.t 47) 2, none⟩,
  .op ⟨10, some 15, .mv (.t 54), none⟩,
  .op ⟨11, some 16, .mv (.t 55), none⟩,
  .op ⟨12, some 17, .mv (.t 56), none⟩])
 (.seq (.seq (.reg [.op ⟨0, some 57, .mv (.t 14), none⟩,
  .op ⟨1, some 58, .len (.t 57), none⟩,
  .op ⟨2, some 59, .bin .gtr (.t 58) (.c (.one (.int .i64 32))), none⟩])
 (.cond (.t 59) (.seq (.reg [.op ⟨0, some 60, .mv (.t 17), none⟩,
  .op ⟨1, some 61, .bin .eql (.t 60) (.c (.one (.int .i64 130))), none⟩,
  .op ⟨2, some 62, .mv (.t 61), none⟩,
  .op ⟨3, some 63, .mv (.t 15), some (62, true)⟩,
  .op ⟨4, some 64, .len (.t 63), some (62, true)⟩,
  .op ⟨5, some 65, .bin .eql (.t 64) (.c (.one (.int .i64 0))), some (62, true)⟩,
  .op ⟨6, some 66, .pick (.t 62) (.t 65) (.c (.one (.bool false))), none⟩,
  .op ⟨7, some 6, .mv (.t 66), none⟩])
 (.ret)) (.skip)))
 (.seq (.seq (.reg [.op ⟨0, some 67, .mv (.t 17), none⟩,
  .op ⟨1, some 68, .bin .neq (.t 67) (.c (.one (.int .i64 0))), none⟩,
  .op ⟨2, some 69, .mv (.t 68), none⟩,
  .op ⟨3, some 70, .mv (.t 15), some (69, false)⟩,
  .op ⟨4, some 71, .len (.t 70), some (69, false)⟩,
  .op ⟨5, some 72, .mv (.t 14), some (69, false)⟩,
  .op ⟨6, some 73, .len (.t 72), some (69, false)⟩,
  .op ⟨7, some 74, .bin .neq (.t 71) (.t 73), some (69, false)⟩,
  .op ⟨8, some 75, .pick (.t 69) (.c (.one (.bool true))) (.t 74), none⟩])
 (.cond (.t 75) (.seq (.reg [.op ⟨0, some 6, .mv (.c (.one (.bool false))), none⟩])
 (.ret)) (.skip)))
 (.seq (.reg [.op ⟨0, some 76, .mv (.t 12), none⟩,
  .op ⟨1, some 18, .mv (.t 76), none⟩])
 (.seq (.seq (.reg [.op ⟨0, some 19, .mv (.c (.one (.int .i64 0))), none⟩])
 (.block 0 (.loop [(18, .one (.int .u64)), (19, .one (.int .i64))] [(.exit 0, [(18, .one (.int .u64))]), (.ret, [(6, .one .bool)])] (.seq (.seq (.reg [.op ⟨0, some 77, .mv (.t 19), none⟩,
  .op ⟨1, some 78, .mv (.t 15), none⟩,
  .op ⟨2, some 79, .len (.t 78), none⟩,
  .op ⟨3, some 80, .bin .lss (.t 77) (.t 79), none⟩])
 (.cond (.t 80) (.skip) (.exit 0)))
 (.seq (.block 1 (.seq (.reg [.op ⟨0, some 84, .mv (.t 8), none⟩,
  .op ⟨1, some 85, .mv (.t 15), none⟩,
  .op ⟨2, some 86, .mv (.t 19), none⟩,
  .op ⟨3, some 87, .idxa 1 (.t 85) (.t 86), none⟩,
  .op ⟨4, some 88, .load (.one (.int .i64)) (.t 87), none⟩,
  .op ⟨5, some 89, .call 6 [(.t 84), (.t 88)], none⟩,
  .op ⟨6, some 83, .mv (.t 89), none⟩,
  .op ⟨7, some 90, .ext (.t 83) 0, none⟩,
  .op ⟨8, some 91, .ext (.t 83) 1, none⟩,
  .op ⟨9, some 92, .ext (.t 83) 2, none⟩,
  .op ⟨10, some 20, .new [.int .i64 0, .int .u64 0, .int .i64 0, .int .i64 0, .int .i64 0], none⟩,
  .op ⟨11, none, .store 5 (.t 20) (.t 90), none⟩,
  .op ⟨12, some 21, .mv (.t 91), none⟩,
  .op ⟨13, some 22, .mv (.t 92), none⟩])
 (.seq (.seq (.reg [.op ⟨0, some 93, .mv (.t 22), none⟩,
  .op ⟨1, some 94, .bin .neq (.t 93) (.c (.one (.int .i64 0))), none⟩,
  .op ⟨2, some 95, .mv (.t 94), none⟩,
  .op ⟨3, some 96, .mv (.t 21), some (95, false)⟩,
  .op ⟨4, some 97, .mv (.t 14), some (95, false)⟩,
  .op ⟨5, some 98, .mv (.t 19), some (95, false)⟩,
  .op ⟨6, some 99, .idxa 1 (.t 97) (.t 98), some (95, false)⟩,
  .op ⟨7, some 100, .load (.one .str) (.t 99), some (95, false)⟩,
  .op ⟨8, some 101, .bin .neq (.t 96) (.t 100), some (95, false)⟩,
  .op ⟨9, some 102, .pick (.t 95) (.c (.one (.bool true))) (.t 101), none⟩,
  .op ⟨10, some 103, .mv (.t 102), none⟩,
  .op ⟨11, some 104, .addr 0 (.t 20), some (103, false)⟩,
  .op ⟨12, some 105, .load (.one (.int .i64)) (.t 104), some (103, false)⟩,
  .op ⟨13, some 106, .mv (.t 11), some (103, false)⟩,
  .op ⟨14, some 107, .bin .neq (.t 105) (.t 106), some (103, false)⟩,
  .op ⟨15, some 108, .pick (.t 103) (.c (.one (.bool true))) (.t 107), none⟩,
  .op ⟨16, some 109, .mv (.t 108), none⟩,
  .op ⟨17, some 110, .addr 1 (.t 20), some (109, false)⟩,
  .op ⟨18, some 111, .load (.one (.int .u64)) (.t 110), some (109, false)⟩,
  .op ⟨19, some 112, .mv (.t 18), some (109, false)⟩,
  .op ⟨20, some 113, .bin .neq (.t 111) (.t 112), some (109, false)⟩,
  .op ⟨21, some 114, .pick (.t 109) (.c (.one (.bool true))) (.t 113), none⟩,
  .op ⟨22, some 115, .mv (.t 114), none⟩,
  .op ⟨23, some 116, .addr 2 (.t 20), some (115, false)⟩,
  .op ⟨24, some 117, .load (.one (.int .i64)) (.t 116), some (115, false)⟩,
  .op ⟨25, some 118, .mv (.t 19), some (115, false)⟩,
  .op ⟨26, some 119, .bin .neq (.t 117) (.t 118), some (115, false)⟩,
  .op ⟨27, some 120, .pick (.t 115) (.c (.one (.bool true))) (.t 119), none⟩,
  .op ⟨28, some 121, .mv (.t 120), none⟩,
  .op ⟨29, some 122, .addr 3 (.t 20), some (121, false)⟩,
  .op ⟨30, some 123, .load (.one (.int .i64)) (.t 122), some (121, false)⟩,
  .op ⟨31, some 124, .mv (.t 15), some (121, false)⟩,
  .op ⟨32, some 125, .len (.t 124), some (121, false)⟩,
  .op ⟨33, some 126, .bin .neq (.t 123) (.t 125), some (121, false)⟩,
  .op ⟨34, some 127, .pick (.t 121) (.c (.one (.bool true))) (.t 126), none⟩,
  .op ⟨35, some 128, .mv (.t 127), none⟩,
  .op ⟨36, some 129, .mv (.t 15), some (128, false)⟩,
  .op ⟨37, some 130, .mv (.t 19), some (128, false)⟩,
  .op ⟨38, some 131, .idxa 1 (.t 129) (.t 130), some (128, false)⟩,
  .op ⟨39, some 132, .load (.one (.int .i64)) (.t 131), some (128, false)⟩,
  .op ⟨40, some 133, .mv (.t 19), some (128, false)⟩,
  .op ⟨41, some 134, .bin .neq (.t 132) (.t 133), some (128, false)⟩,
  .op ⟨42, some 135, .pick (.t 128) (.c (.one (.bool true))) (.t 134), none⟩])
 (.cond (.t 135) (.seq (.reg [.op ⟨0, some 6, .mv (.c (.one (.bool false))), none⟩])
 (.ret)) (.skip)))
 (.seq (.reg [.op ⟨0, some 136, .mv (.t 1), none⟩,
  .op ⟨1, some 137, .un .not (.t 136), none⟩])
 (.cond (.t 137) (.reg [.op ⟨0, some 138, .mv (.t 18), none⟩,
  .op ⟨1, some 139, .bin .add (.t 138) (.c (.one (.int .u64 1))), none⟩,
  .op ⟨2, some 18, .mv (.t 139), none⟩]) (.skip))))))
 (.reg [.op ⟨0, some 81, .mv (.t 19), none⟩,
  .op ⟨1, some 82, .bin .add (.t 81) (.c (.one (.int .i64 1))), none⟩,
  .op ⟨2, some 19, .mv (.t 82), none⟩]))))))
 (.seq (.seq (.reg [.op ⟨0, some 140, .mv (.t 1), none⟩])
 (.cond (.t 140) (.reg [.op ⟨0, some 141, .mv (.t 18), none⟩,
  .op ⟨1, some 142, .bin .add (.t 141) (.c (.one (.int .u64 1))), none⟩,
  .op ⟨2, some 18, .mv (.t 142), none⟩]) (.skip)))
 (.seq (.reg [.op ⟨0, some 143, .mv (.t 16), none⟩,
  .op ⟨1, some 144, .mv (.t 18), none⟩,
  .op ⟨2, some 145, .bin .eql (.t 143) (.t 144), none⟩,
  .op ⟨3, some 6, .mv (.t 145), none⟩])
 (.ret)))))))))))))⟩
noncomputable def law14_CkptWrites.s1 (x1 : Bool) (r1 : ((Ptr × Ptr × Bool × Unit) × Heap)) (p5 : ((Int × Unit) × Heap)) (r6 : ((Sl × Unit) × Heap)) (r7 : ((Sl × Int × Int × Unit) × Heap)) (s8 : (Int × Int × Unit)) (H9 : Heap) : Option (((Int × Int × Unit) ⊕ ((Int × Unit) ⊕ (Bool × Unit))) × Heap) :=
 cond (decide (s8.2.1 < (r7.1.1.len : Int))) (
 (Sl.at 1 r7.1.1 s8.2.1).bind fun (a10 : (Nat × Nat)) =>
 (rdI .i64 H9 a10.1 a10.2).bind fun (v11 : Int) =>
 (write_Writer_Read r1.1.2.1 v11 H9).bind fun (r12 : (((Int × Int × Int × Int × Int × Unit) × Bytes × Int × Unit) × Heap)) =>
 let H13 : Heap := r12.2 ++ [Blk.cells [.int .i64 0, .int .u64 0, .int .i64 0, .int .i64 0, .int .i64 0] .exact]
 (wr H13 r12.2.length 0 [.int .i64 r12.1.1.1, .int .u64 r12.1.1.2.1, .int .i64 r12.1.1.2.2.1, .int .i64 r12.1.1.2.2.2.1, .int .i64 r12.1.1.2.2.2.2.1]).bind fun (H14 : Heap) =>
 cond (!decide (r12.1.2.2.1 = 0)) (
 some (Sum.inr (Sum.inr (false, ())), H14)) (
 (Sl.at 1 r6.1.1 s8.2.1).bind fun (a15 : (Nat × Nat)) =>
 (rdS H14 a15.1 a15.2).bind fun (v16 : Bytes) =>
 cond (!decide ((r12.1.2.1 : Bytes) = v16)) (
 some (Sum.inr (Sum.inr (false, ())), H14)) (
 (rdI .i64 H14 r12.2.length 0).bind fun (v17 : Int) =>
 cond (!decide (v17 = p5.1.1)) (
 some (Sum.inr (Sum.inr (false, ())), H14)) (
 (rdI .u64 H14 r12.2.length 1).bind fun (v18 : Int) =>
 cond (!decide (v18 = s8.1)) (
 some (Sum.inr (Sum.inr (false, ())), H14)) (
 (rdI .i64 H14 r12.2.length 2).bind fun (v19 : Int) =>
 cond (!decide (v19 = s8.2.1)) (
 some (Sum.inr (Sum.inr (false, ())), H14)) (
 (rdI .i64 H14 r12.2.length 3).bind fun (v20 : Int) =>
 cond (!decide (v20 = (r7.1.1.len : Int))) (
 some (Sum.inr (Sum.inr (false, ())), H14)) (
 (Sl.at 1 r7.1.1 s8.2.1).bind fun (a21 : (Nat × Nat)) =>
 (rdI .i64 H14 a21.1 a21.2).bind fun (v22 : Int) =>
 cond (!decide (v22 = s8.2.1)) (
 some (Sum.inr (Sum.inr (false, ())), H14)) (
 cond (!x1) (
 some (Sum.inl ((IntKind.wrap .u64 (s8.1 + 1)), (IntKind.wrap .i64 (s8.2.1 + 1)), ()), H14)) (
 some (Sum.inl (s8.1, (IntKind.wrap .i64 (s8.2.1 + 1)), ()), H14)))))))))) (
 some (Sum.inr (Sum.inl (s8.1, ())), H9))
noncomputable def law14_CkptWrites (x0 : Sl) (x1 : Bool) (x2 : Int) (H : Heap) : Option ((Bool × Unit) × Heap) :=
 (law13_Begun (0, 0, 0, ()) (⟨none, 0, 0⟩, ⟨none, 0, 0⟩, ⟨none, 0, 0⟩, ()) H).bind fun (r1 : ((Ptr × Ptr × Bool × Unit) × Heap)) =>
 (law14_awake).bind fun (r2 : (Bool × Unit)) =>
 cond (!r2.1) (
 some ((false, ()), r1.2)) (
 cond (!r1.1.2.2.1) (
 some ((false, ()), r1.2)) (
 (law14_good x0 r1.2).bind fun (r3 : ((Sl × Unit) × Heap)) =>
 (nand_Chip_Geometry r1.1.1 r3.2).bind fun (r4 : (((Int × Int × Int × Unit) × Unit) × Heap)) =>
 (cond x1 (
 some ((3, ()), r4.2)) (
 some ((2, ()), r4.2)) : Option ((Int × Unit) × Heap)).bind fun (p5 : (Int × Unit) × Heap) =>
 (group_Pack r3.1.1 r4.1.1.2.2.1 p5.2).bind fun (r6 : ((Sl × Unit) × Heap)) =>
 (ckpt_Write r1.1.2.1 r3.1.1 p5.1.1 (bitsI .and .u64 x2 65535) r4.1.1.2.2.1 r6.2).bind fun (r7 : ((Sl × Int × Int × Unit) × Heap)) =>
 cond (decide (32 < (r6.1.1.len : Int))) (
 cond (decide (r7.1.2.2.1 = 130)) (
 some (((decide ((r7.1.1.len : Int) = 0)), ()), r7.2)) (
 some ((false, ()), r7.2))) (
 cond (!decide (r7.1.2.2.1 = 0)) (
 some ((false, ()), r7.2)) (
 cond (!decide ((r7.1.1.len : Int) = (r6.1.1.len : Int))) (
 some ((false, ()), r7.2)) (
 (loopW (law14_CkptWrites.s1 x1 r1 p5 r6 r7) ((bitsI .and .u64 x2 65535), 0, ()) r7.2).bind fun (p23 : ((Int × Unit) ⊕ (Bool × Unit)) × Heap) =>
 Sum.elim (fun (y24 : (Int × Unit)) =>
 cond x1 (
 some (((decide (r7.1.2.1 = (IntKind.wrap .u64 (y24.1 + 1)))), ()), p23.2)) (
 some (((decide (r7.1.2.1 = y24.1)), ()), p23.2))) (fun (z25 : (Bool × Unit)) =>
 some ((z25.1, ()), p23.2)) p23.1)))))
noncomputable def law14_CkptWrites.c : Callee := .full [.one (.sl 6), .one .bool, .one (.int .u64)] [.one .bool] (fun x H => law14_CkptWrites x.1 x.2.1 x.2.2.1 H)
noncomputable def law14_CkptWrites.calls : Nat → Option Callee
  | 0 => some law13_Begun.c
  | 1 => some law14_awake.c
  | 2 => some law14_good.c
  | 3 => some nand_Chip_Geometry.c
  | 4 => some group_Pack.c
  | 5 => some ckpt_Write.c
  | 6 => some write_Writer_Read.c
  | _ => none
theorem law14_CkptWrites.eq : evFull law14_CkptWrites.calls law14_CkptWrites.af = (fun x H => law14_CkptWrites x.1 x.2.1 x.2.2.1 H) := by kernel_rfl

/-! ### tinderbox/tinderboxlaw14.newest -/
def law14_newest.af : AFun := ⟨[.one (.sl 8)], [.agg [.int .i64, .int .u64, .int .i64, .int .i64, .int .i64], .one .bool], [.cell 2, .t 3],
 .seq (.reg [.op ⟨0, some 2, .new [.int .i64 0, .int .u64 0, .int .i64 0, .int .i64 0, .int .i64 0], none⟩,
  .op ⟨1, some 3, .mv (.c (.one (.bool false))), none⟩])
 (.seq (.reg [.op ⟨0, some 13, .build [.int .i64 0, .int .u64 0, .int .i64 0, .int .i64 0, .int .i64 0] [], none⟩,
  .op ⟨1, some 4, .new [.int .i64 0, .int .u64 0, .int .i64 0, .int .i64 0, .int .i64 0], none⟩,
  .op ⟨2, none, .store 5 (.t 4) (.t 13), none⟩,
  .op ⟨3, some 5, .mv (.c (.one (.bool false))), none⟩])
 (.seq (.seq (.reg [.op ⟨0, some 6, .mv (.c (.one (.int .i64 0))), none⟩])
 (.block 0 (.loop [(5, .one .bool), (6, .one (.int .i64))] [(.exit 0, [(5, .one .bool)])] (.seq (.seq (.reg [.op ⟨0, some 14, .mv (.t 6), none⟩,
  .op ⟨1, some 15, .mv (.t 0), none⟩,
  .op ⟨2, some 16, .len (.t 15), none⟩,
  .op ⟨3, some 17, .bin .lss (.t 14) (.t 16), none⟩])
 (.cond (.t 17) (.skip) (.exit 0)))
 (.seq (.block 1 (.seq (.reg [.op ⟨0, some 20, .mv (.t 0), none⟩,
  .op ⟨1, some 21, .mv (.t 6), none⟩,
  .op ⟨2, some 22, .idxa 8 (.t 20) (.t 21), none⟩,
  .op ⟨3, some 23, .addr 2 (.t 22), none⟩,
  .op ⟨4, some 24, .load (.agg [.int .i64, .int .u64, .int .i64, .int .i64, .int .i64]) (.t 23), none⟩,
  .op ⟨5, some 7, .new [.int .i64 0, .int .u64 0, .int .i64 0, .int .i64 0, .int .i64 0], none⟩,
  .op ⟨6, none, .store 5 (.t 7) (.t 24), none⟩])
 (.seq (.scope [(.normal, []), (.exit 1, [])] (.seq (.reg [.op ⟨0, some 25, .mv (.t 0), none⟩,
  .op ⟨1, some 26, .mv (.t 6), none⟩,
  .op ⟨2, some 27, .idxa 8 (.t 25) (.t 26), none⟩,
  .op ⟨3, some 28, .addr 1 (.t 27), none⟩,
  .op ⟨4, some 29, .load (.one (.int .i64)) (.t 28), none⟩,
  .op ⟨5, some 30, .bin .neq (.t 29) (.c (.one (.int .i64 1))), none⟩,
  .op ⟨6, some 31, .mv (.t 30), none⟩,
  .op ⟨7, some 32, .addr 0 (.t 7), some (31, false)⟩,
  .op ⟨8, some 33, .load (.one (.int .i64)) (.t 32), some (31, false)⟩,
  .op ⟨9, some 34, .bin .neq (.t 33) (.c (.one (.int .i64 3))), some (31, false)⟩,
  .op ⟨10, some 35, .pick (.t 31) (.c (.one (.bool true))) (.t 34), none⟩,
  .op ⟨11, some 36, .mv (.t 35), none⟩,
  .op ⟨12, some 37, .mv (.t 5), some (36, false)⟩,
  .op ⟨13, some 38, .mv (.t 37), some (36, false)⟩,
  .op ⟨14, some 39, .addr 1 (.t 7), some (38, true)⟩,
  .op ⟨15, some 40, .load (.one (.int .u64)) (.t 39), some (38, true)⟩,
  .op ⟨16, some 41, .addr 1 (.t 4), some (38, true)⟩,
  .op ⟨17, some 42, .load (.one (.int .u64)) (.t 41), some (38, true)⟩,
  .op ⟨18, some 43, .bin .leq (.t 40) (.t 42), some (38, true)⟩,
  .op ⟨19, some 44, .pick (.t 38) (.t 43) (.c (.one (.bool false))), some (36, false)⟩,
  .op ⟨20, some 45, .pick (.t 36) (.c (.one (.bool true))) (.t 44), none⟩])
 (.cond (.t 45) (.exit 1) (.skip))))
 (.seq (.reg [.op ⟨0, some 8, .mv (.c (.one (.bool true))), none⟩])
 (.seq (.seq (.reg [.op ⟨0, some 9, .mv (.c (.one (.int .i64 0))), none⟩])
 (.block 2 (.loop [(8, .one .bool), (9, .one (.int .i64))] [(.exit 2, [(8, .one .bool)])] (.seq (.seq (.reg [.op ⟨0, some 46, .mv (.t 9), none⟩,
  .op ⟨1, some 47, .addr 3 (.t 7), none⟩,
  .op ⟨2, some 48, .load (.one (.int .i64)) (.t 47), none⟩,
  .op ⟨3, some 49, .bin .lss (.t 46) (.t 48), none⟩,
  .op ⟨4, some 50, .mv (.t 49), none⟩,
  .op ⟨5, some 51, .mv (.t 8), some (50, true)⟩,
  .op ⟨6, some 52, .pick (.t 50) (.t 51) (.c (.one (.bool false))), none⟩])
 (.cond (.t 52) (.skip) (.exit 2)))
 (.seq (.block 3 (.seq (.reg [.op ⟨0, some 10, .mv (.c (.one (.bool false))), none⟩])
 (.seq (.seq (.reg [.op ⟨0, some 11, .mv (.c (.one (.int .i64 0))), none⟩])
 (.block 4 (.loop [(10, .one .bool), (11, .one (.int .i64))] [(.exit 4, [(10, .one .bool)])] (.seq (.seq (.reg [.op ⟨0, some 55, .mv (.t 11), none⟩,
  .op ⟨1, some 56, .mv (.t 0), none⟩,
  .op ⟨2, some 57, .len (.t 56), none⟩,
  .op ⟨3, some 58, .bin .lss (.t 55) (.t 57), none⟩])
 (.cond (.t 58) (.skip) (.exit 4)))
 (.seq (.block 5 (.seq (.reg [.op ⟨0, some 61, .mv (.t 0), none⟩,
  .op ⟨1, some 62, .mv (.t 11), none⟩,
  .op ⟨2, some 63, .idxa 8 (.t 61) (.t 62), none⟩,
  .op ⟨3, some 64, .addr 2 (.t 63), none⟩,
  .op ⟨4, some 65, .load (.agg [.int .i64, .int .u64, .int .i64, .int .i64, .int .i64]) (.t 64), none⟩,
  .op ⟨5, some 12, .new [.int .i64 0, .int .u64 0, .int .i64 0, .int .i64 0, .int .i64 0], none⟩,
  .op ⟨6, none, .store 5 (.t 12) (.t 65), none⟩])
 (.reg [.op ⟨0, some 66, .mv (.t 10), none⟩,
  .op ⟨1, some 67, .mv (.t 66), none⟩,
  .op ⟨2, some 68, .mv (.t 0), some (67, false)⟩,
  .op ⟨3, some 69, .mv (.t 11), some (67, false)⟩,
  .op ⟨4, some 70, .idxa 8 (.t 68) (.t 69), some (67, false)⟩,
  .op ⟨5, some 71, .addr 1 (.t 70), some (67, false)⟩,
  .op ⟨6, some 72, .load (.one (.int .i64)) (.t 71), some (67, false)⟩,
  .op ⟨7, some 73, .bin .eql (.t 72) (.c (.one (.int .i64 1))), some (67, false)⟩,
  .op ⟨8, some 74, .mv (.t 73), some (67, false)⟩,
  .op ⟨9, some 75, .addr 0 (.t 12), some (74, true)⟩,
  .op ⟨10, some 76, .load (.one (.int .i64)) (.t 75), some (74, true)⟩,
  .op ⟨11, some 77, .addr 0 (.t 7), some (74, true)⟩,
  .op ⟨12, some 78, .load (.one (.int .i64)) (.t 77), some (74, true)⟩,
  .op ⟨13, some 79, .bin .eql (.t 76) (.t 78), some (74, true)⟩,
  .op ⟨14, some 80, .pick (.t 74) (.t 79) (.c (.one (.bool false))), some (67, false)⟩,
  .op ⟨15, some 81, .mv (.t 80), some (67, false)⟩,
  .op ⟨16, some 82, .addr 1 (.t 12), some (81, true)⟩,
  .op ⟨17, some 83, .load (.one (.int .u64)) (.t 82), some (81, true)⟩,
  .op ⟨18, some 84, .addr 1 (.t 7), some (81, true)⟩,
  .op ⟨19, some 85, .load (.one (.int .u64)) (.t 84), some (81, true)⟩,
  .op ⟨20, some 86, .bin .eql (.t 83) (.t 85), some (81, true)⟩,
  .op ⟨21, some 87, .pick (.t 81) (.t 86) (.c (.one (.bool false))), some (67, false)⟩,
  .op ⟨22, some 88, .mv (.t 87), some (67, false)⟩,
  .op ⟨23, some 89, .addr 3 (.t 12), some (88, true)⟩,
  .op ⟨24, some 90, .load (.one (.int .i64)) (.t 89), some (88, true)⟩,
  .op ⟨25, some 91, .addr 3 (.t 7), some (88, true)⟩,
  .op ⟨26, some 92, .load (.one (.int .i64)) (.t 91), some (88, true)⟩,
  .op ⟨27, some 93, .bin .eql (.t 90) (.t 92), some (88, true)⟩,
  .op ⟨28, some 94, .pick (.t 88) (.t 93) (.c (.one (.bool false))), some (67, false)⟩,
  .op ⟨29, some 95, .mv (.t 94), some (67, false)⟩,
  .op ⟨30, some 96, .addr 2 (.t 12), some (95, true)⟩,
  .op ⟨31, some 97, .load (.one (.int .i64)) (.t 96), some (95, true)⟩,
  .op ⟨32, some 98, .mv (.t 9), some (95, true)⟩,
  .op ⟨33, some 99, .bin .eql (.t 97) (.t 98), some (95, true)⟩,
  .op ⟨34, some 100, .pick (.t 95) (.t 99) (.c (.one (.bool false))), some (67, false)⟩,
  .op ⟨35, some 101, .pick (.t 67) (.c (.one (.bool true))) (.t 100), none⟩,
  .op ⟨36, some 10, .mv (.t 101), none⟩])))
 (.reg [.op ⟨0, some 59, .mv (.t 11), none⟩,
  .op ⟨1, some 60, .bin .add (.t 59) (.c (.one (.int .i64 1))), none⟩,
  .op ⟨2, some 11, .mv (.t 60), none⟩]))))))
 (.reg [.op ⟨0, some 102, .mv (.t 10), none⟩,
  .op ⟨1, some 8, .mv (.t 102), none⟩]))))
 (.reg [.op ⟨0, some 53, .mv (.t 9), none⟩,
  .op ⟨1, some 54, .bin .add (.t 53) (.c (.one (.int .i64 1))), none⟩,
  .op ⟨2, some 9, .mv (.t 54), none⟩]))))))
 (.seq (.reg [.op ⟨0, some 103, .mv (.t 8), none⟩])
 (.cond (.t 103) (.reg [.op ⟨0, some 104, .load (.agg [.int .i64, .int .u64, .int .i64, .int .i64, .int .i64]) (.t 7), none⟩,
  .op ⟨1, none, .store 5 (.t 4) (.t 104), none⟩,
  .op ⟨2, some 5, .mv (.c (.one (.bool true))), none⟩]) (.skip))))))))
 (.reg [.op ⟨0, some 18, .mv (.t 6), none⟩,
  .op ⟨1, some 19, .bin .add (.t 18) (.c (.one (.int .i64 1))), none⟩,
  .op ⟨2, some 6, .mv (.t 19), none⟩]))))))
 (.seq (.reg [.op ⟨0, some 105, .load (.agg [.int .i64, .int .u64, .int .i64, .int .i64, .int .i64]) (.t 4), none⟩,
  .op ⟨1, some 106, .mv (.t 5), none⟩,
  .op ⟨2, none, .store 5 (.t 2) (.t 105), none⟩,
  .op ⟨3, some 3, .mv (.t 106), none⟩])
 (.ret))))⟩
noncomputable def law14_newest.s1 (x0 : Sl) (H5 : Heap) (s17 : (Bool × Int × Unit)) (s20 : (Bool × Int × Unit)) (H21 : Heap) : Option (((Bool × Int × Unit) ⊕ (Bool × Unit)) × Heap) :=
 cond (decide (s20.2.1 < (x0.len : Int))) (
 (Sl.at 8 x0 s20.2.1).bind fun (a22 : (Nat × Nat)) =>
 Option.bind (α := (Int × Int × Int × Int × Int × Unit)) (rd H21 (.agg [.int .i64, .int .u64, .int .i64, .int .i64, .int .i64]) a22.1 (a22.2 + 2)) fun (v23 : (Int × Int × Int × Int × Int × Unit)) =>
 let H24 : Heap := H21 ++ [Blk.cells [.int .i64 0, .int .u64 0, .int .i64 0, .int .i64 0, .int .i64 0] .exact]
 (wr H24 H21.length 0 [.int .i64 v23.1, .int .u64 v23.2.1, .int .i64 v23.2.2.1, .int .i64 v23.2.2.2.1, .int .i64 v23.2.2.2.2.1]).bind fun (H25 : Heap) =>
 cond s20.1 (
 some (Sum.inl (true, (IntKind.wrap .i64 (s20.2.1 + 1)), ()), H25)) (
 (Sl.at 8 x0 s20.2.1).bind fun (a26 : (Nat × Nat)) =>
 (rdI .i64 H25 a26.1 (a26.2 + 1)).bind fun (v27 : Int) =>
 cond (decide (v27 = 1)) (
 (rdI .i64 H25 H21.length 0).bind fun (v28 : Int) =>
 (rdI .i64 H25 H5.length 0).bind fun (v29 : Int) =>
 cond (decide (v28 = v29)) (
 (rdI .u64 H25 H21.length 1).bind fun (v30 : Int) =>
 (rdI .u64 H25 H5.length 1).bind fun (v31 : Int) =>
 cond (decide (v30 = v31)) (
 (rdI .i64 H25 H21.length 3).bind fun (v32 : Int) =>
 (rdI .i64 H25 H5.length 3).bind fun (v33 : Int) =>
 cond (decide (v32 = v33)) (
 (rdI .i64 H25 H21.length 2).bind fun (v34 : Int) =>
 some (Sum.inl ((decide (v34 = s17.2.1)), (IntKind.wrap .i64 (s20.2.1 + 1)), ()), H25)) (
 some (Sum.inl (false, (IntKind.wrap .i64 (s20.2.1 + 1)), ()), H25))) (
 some (Sum.inl (false, (IntKind.wrap .i64 (s20.2.1 + 1)), ()), H25))) (
 some (Sum.inl (false, (IntKind.wrap .i64 (s20.2.1 + 1)), ()), H25))) (
 some (Sum.inl (false, (IntKind.wrap .i64 (s20.2.1 + 1)), ()), H25)))) (
 some (Sum.inr (s20.1, ()), H21))
noncomputable def law14_newest.s2 (x0 : Sl) (H5 : Heap) (s17 : (Bool × Int × Unit)) (H18 : Heap) : Option (((Bool × Int × Unit) ⊕ (Bool × Unit)) × Heap) :=
 (rdI .i64 H18 H5.length 3).bind fun (v19 : Int) =>
 cond (decide (s17.2.1 < v19)) (
 cond s17.1 (
 (loopW (law14_newest.s1 x0 H5 s17) (false, 0, ()) H18).bind fun (p35 : (Bool × Unit) × Heap) =>
 some (Sum.inl (p35.1.1, (IntKind.wrap .i64 (s17.2.1 + 1)), ()), p35.2)) (
 some (Sum.inr (s17.1, ()), H18))) (
 some (Sum.inr (s17.1, ()), H18))
noncomputable def law14_newest.s3 (x0 : Sl) (H1 : Heap) (s4 : (Bool × Int × Unit)) (H5 : Heap) : Option (((Bool × Int × Unit) ⊕ (Bool × Unit)) × Heap) :=
 cond (decide (s4.2.1 < (x0.len : Int))) (
 (Sl.at 8 x0 s4.2.1).bind fun (a6 : (Nat × Nat)) =>
 Option.bind (α := (Int × Int × Int × Int × Int × Unit)) (rd H5 (.agg [.int .i64, .int .u64, .int .i64, .int .i64, .int .i64]) a6.1 (a6.2 + 2)) fun (v7 : (Int × Int × Int × Int × Int × Unit)) =>
 let H8 : Heap := H5 ++ [Blk.cells [.int .i64 0, .int .u64 0, .int .i64 0, .int .i64 0, .int .i64 0] .exact]
 (wr H8 H5.length 0 [.int .i64 v7.1, .int .u64 v7.2.1, .int .i64 v7.2.2.1, .int .i64 v7.2.2.2.1, .int .i64 v7.2.2.2.2.1]).bind fun (H9 : Heap) =>
 ((Sl.at 8 x0 s4.2.1).bind fun (a10 : (Nat × Nat)) =>
 (rdI .i64 H9 a10.1 (a10.2 + 1)).bind fun (v11 : Int) =>
 cond (!decide (v11 = 1)) (
 some (Sum.inr (()), H9)) (
 (rdI .i64 H9 H5.length 0).bind fun (v12 : Int) =>
 cond (!decide (v12 = 3)) (
 some (Sum.inr (()), H9)) (
 cond s4.1 (
 (rdI .u64 H9 H5.length 1).bind fun (v13 : Int) =>
 (rdI .u64 H9 H1.length 1).bind fun (v14 : Int) =>
 cond (decide (v13 ≤ v14)) (
 some (Sum.inr (()), H9)) (
 some (Sum.inl (()), H9))) (
 some (Sum.inl (()), H9)))) : Option (((Unit) ⊕ (Unit)) × Heap)).bind fun (p15 : ((Unit) ⊕ (Unit)) × Heap) =>
 Sum.elim (fun (y16 : (Unit)) =>
 (loopW (law14_newest.s2 x0 H5) (true, 0, ()) p15.2).bind fun (p36 : (Bool × Unit) × Heap) =>
 cond p36.1.1 (
 Option.bind (α := (Int × Int × Int × Int × Int × Unit)) (rd p36.2 (.agg [.int .i64, .int .u64, .int .i64, .int .i64, .int .i64]) H5.length 0) fun (v37 : (Int × Int × Int × Int × Int × Unit)) =>
 (wr p36.2 H1.length 0 [.int .i64 v37.1, .int .u64 v37.2.1, .int .i64 v37.2.2.1, .int .i64 v37.2.2.2.1, .int .i64 v37.2.2.2.2.1]).bind fun (H38 : Heap) =>
 some (Sum.inl (true, (IntKind.wrap .i64 (s4.2.1 + 1)), ()), H38)) (
 some (Sum.inl (s4.1, (IntKind.wrap .i64 (s4.2.1 + 1)), ()), p36.2))) (fun (z39 : (Unit)) =>
 some (Sum.inl (s4.1, (IntKind.wrap .i64 (s4.2.1 + 1)), ()), p15.2)) p15.1) (
 some (Sum.inr (s4.1, ()), H5))
noncomputable def law14_newest (x0 : Sl) (H : Heap) : Option (((Int × Int × Int × Int × Int × Unit) × Bool × Unit) × Heap) :=
 let H1 : Heap := H ++ [Blk.cells [.int .i64 0, .int .u64 0, .int .i64 0, .int .i64 0, .int .i64 0] .exact]
 let H2 : Heap := H1 ++ [Blk.cells [.int .i64 0, .int .u64 0, .int .i64 0, .int .i64 0, .int .i64 0] .exact]
 (wr H2 H1.length 0 [.int .i64 0, .int .u64 0, .int .i64 0, .int .i64 0, .int .i64 0]).bind fun (H3 : Heap) =>
 (loopW (law14_newest.s3 x0 H1) (false, 0, ()) H3).bind fun (p40 : (Bool × Unit) × Heap) =>
 Option.bind (α := (Int × Int × Int × Int × Int × Unit)) (rd p40.2 (.agg [.int .i64, .int .u64, .int .i64, .int .i64, .int .i64]) H1.length 0) fun (v41 : (Int × Int × Int × Int × Int × Unit)) =>
 (wr p40.2 H.length 0 [.int .i64 v41.1, .int .u64 v41.2.1, .int .i64 v41.2.2.1, .int .i64 v41.2.2.2.1, .int .i64 v41.2.2.2.2.1]).bind fun (H42 : Heap) =>
 Option.bind (α := (Int × Int × Int × Int × Int × Unit)) (rd H42 (.agg [.int .i64, .int .u64, .int .i64, .int .i64, .int .i64]) H.length 0) fun (v43 : (Int × Int × Int × Int × Int × Unit)) =>
 some ((v43, p40.1.1, ()), H42)
noncomputable def law14_newest.c : Callee := .full [.one (.sl 8)] [.agg [.int .i64, .int .u64, .int .i64, .int .i64, .int .i64], .one .bool] (fun x H => law14_newest x.1 H)
noncomputable def law14_newest.calls : Nat → Option Callee
  | _ => none
theorem law14_newest.eq : evFull law14_newest.calls law14_newest.af = (fun x H => law14_newest x.1 H) := by kernel_rfl

/-! ### tinderbox/tinderboxlaw14.CkptNewest -/
def law14_CkptNewest.af : AFun := ⟨[.one (.sl 5)], [.one .bool], [.t 2],
 .seq (.reg [.op ⟨0, some 2, .mv (.c (.one (.bool false))), none⟩])
 (.seq (.reg [.op ⟨0, some 13, .bslice 8 0 [] [], none⟩,
  .op ⟨1, some 3, .mv (.t 13), none⟩])
 (.seq (.seq (.reg [.op ⟨0, some 4, .mv (.c (.one (.int .i64 0))), none⟩])
 (.block 0 (.loop [(3, .one (.sl 8)), (4, .one (.int .i64))] [(.exit 0, [(3, .one (.sl 8))])] (.seq (.seq (.reg [.op ⟨0, some 14, .mv (.t 4), none⟩,
  .op ⟨1, some 15, .mv (.t 0), none⟩,
  .op ⟨2, some 16, .len (.t 15), none⟩,
  .op ⟨3, some 17, .bin .lss (.t 14) (.t 16), none⟩,
  .op ⟨4, some 18, .mv (.t 17), none⟩,
  .op ⟨5, some 19, .mv (.t 4), some (18, true)⟩,
  .op ⟨6, some 20, .bin .lss (.t 19) (.c (.one (.int .i64 40))), some (18, true)⟩,
  .op ⟨7, some 21, .pick (.t 18) (.t 20) (.c (.one (.bool false))), none⟩])
 (.cond (.t 21) (.skip) (.exit 0)))
 (.seq (.block 1 (.seq (.reg [.op ⟨0, some 24, .mv (.t 0), none⟩,
  .op ⟨1, some 25, .mv (.t 4), none⟩,
  .op ⟨2, some 26, .idxa 5 (.t 24) (.t 25), none⟩,
  .op ⟨3, some 27, .addr 4 (.t 26), none⟩,
  .op ⟨4, some 28, .load (.one (.int .i64)) (.t 27), none⟩,
  .op ⟨5, some 29, .bin .and (.t 28) (.c (.one (.int .i64 3))), none⟩,
  .op ⟨6, some 30, .bin .add (.c (.one (.int .i64 1))) (.t 29), none⟩,
  .op ⟨7, some 5, .mv (.t 30), none⟩])
 (.seq (.reg [.op ⟨0, some 31, .mv (.t 0), none⟩,
  .op ⟨1, some 32, .mv (.t 4), none⟩,
  .op ⟨2, some 33, .idxa 5 (.t 31) (.t 32), none⟩,
  .op ⟨3, some 34, .addr 1 (.t 33), none⟩,
  .op ⟨4, some 35, .load (.one (.int .i64)) (.t 34), none⟩,
  .op ⟨5, some 36, .bin .rem (.t 35) (.c (.one (.int .i64 3))), none⟩,
  .op ⟨6, some 37, .bin .add (.t 36) (.c (.one (.int .i64 3))), none⟩,
  .op ⟨7, some 38, .bin .rem (.t 37) (.c (.one (.int .i64 3))), none⟩,
  .op ⟨8, some 39, .bin .add (.c (.one (.int .i64 1))) (.t 38), none⟩,
  .op ⟨9, some 40, .mv (.t 0), none⟩,
  .op ⟨10, some 41, .mv (.t 4), none⟩,
  .op ⟨11, some 42, .idxa 5 (.t 40) (.t 41), none⟩,
  .op ⟨12, some 43, .addr 2 (.t 42), none⟩,
  .op ⟨13, some 44, .load (.one (.int .i64)) (.t 43), none⟩,
  .op ⟨14, some 45, .bin .and (.t 44) (.c (.one (.int .i64 7))), none⟩,
  .op ⟨15, some 46, .conv .u64 (.t 45), none⟩,
  .op ⟨16, some 47, .mv (.t 0), none⟩,
  .op ⟨17, some 48, .mv (.t 4), none⟩,
  .op ⟨18, some 49, .idxa 5 (.t 47) (.t 48), none⟩,
  .op ⟨19, some 50, .addr 3 (.t 49), none⟩,
  .op ⟨20, some 51, .load (.one (.int .i64)) (.t 50), none⟩,
  .op ⟨21, some 52, .bin .and (.t 51) (.c (.one (.int .i64 3))), none⟩,
  .op ⟨22, some 53, .mv (.t 5), none⟩,
  .op ⟨23, some 54, .bin .rem (.t 52) (.t 53), none⟩,
  .op ⟨24, some 55, .mv (.t 5), none⟩,
  .op ⟨25, some 56, .build [.int .i64 0, .int .u64 0, .int .i64 0, .int .i64 0, .int .i64 0] [(0, 1, (.t 39)), (1, 1, (.t 46)), (2, 1, (.t 54)), (3, 1, (.t 55))], none⟩,
  .op ⟨26, some 6, .new [.int .i64 0, .int .u64 0, .int .i64 0, .int .i64 0, .int .i64 0], none⟩,
  .op ⟨27, none, .store 5 (.t 6) (.t 56), none⟩])
 (.reg [.op ⟨0, some 57, .mv (.t 3), none⟩,
  .op ⟨1, some 58, .mv (.t 4), none⟩,
  .op ⟨2, some 59, .mv (.t 0), none⟩,
  .op ⟨3, some 60, .mv (.t 4), none⟩,
  .op ⟨4, some 61, .idxa 5 (.t 59) (.t 60), none⟩,
  .op ⟨5, some 62, .addr 0 (.t 61), none⟩,
  .op ⟨6, some 63, .load (.one (.int .i64)) (.t 62), none⟩,
  .op ⟨7, some 64, .bin .and (.t 63) (.c (.one (.int .i64 1))), none⟩,
  .op ⟨8, some 65, .load (.agg [.int .i64, .int .u64, .int .i64, .int .i64, .int .i64]) (.t 6), none⟩,
  .op ⟨9, some 66, .mv (.t 4), none⟩,
  .op ⟨10, some 67, .bin .add (.c (.one (.int .i64 97))) (.t 66), none⟩,
  .op ⟨11, some 68, .conv .u8 (.t 67), none⟩,
  .op ⟨12, some 69, .bslice 1 1 [.int .u8 0] [(0, 1, (.t 68))], none⟩,
  .op ⟨13, some 70, .b2s (.t 69), none⟩,
  .op ⟨14, some 71, .build [.int .i64 0, .int .i64 0, .int .i64 0, .int .u64 0, .int .i64 0, .int .i64 0, .int .i64 0, .str []] [(0, 1, (.t 58)), (1, 1, (.t 64)), (2, 5, (.t 65)), (7, 1, (.t 70))], none⟩,
  .op ⟨15, some 72, .bslice 8 1 [.int .i64 0, .int .i64 0, .int .i64 0, .int .u64 0, .int .i64 0, .int .i64 0, .int .i64 0, .str []] [(0, 8, (.t 71))], none⟩,
  .op ⟨16, some 73, .app 8 72 (.t 57) (.t 72), none⟩,
  .op ⟨17, some 3, .mv (.t 73), none⟩]))))
 (.reg [.op ⟨0, some 22, .mv (.t 4), none⟩,
  .op ⟨1, some 23, .bin .add (.t 22) (.c (.one (.int .i64 1))), none⟩,
  .op ⟨2, some 4, .mv (.t 23), none⟩]))))))
 (.seq (.reg [.op ⟨0, some 75, .mv (.t 3), none⟩,
  .op ⟨1, some 76, .call 0 [(.t 75)], none⟩,
  .op ⟨2, some 74, .mv (.t 76), none⟩,
  .op ⟨3, some 77, .ext (.t 74) 0, none⟩,
  .op ⟨4, some 78, .ext (.t 74) 1, none⟩,
  .op ⟨5, some 7, .new [.int .i64 0, .int .u64 0, .int .i64 0, .int .i64 0, .int .i64 0], none⟩,
  .op ⟨6, none, .store 5 (.t 7) (.t 77), none⟩,
  .op ⟨7, some 8, .mv (.t 78), none⟩])
 (.seq (.reg [.op ⟨0, some 80, .mv (.t 3), none⟩,
  .op ⟨1, some 81, .call 1 [(.t 80)], none⟩,
  .op ⟨2, some 79, .mv (.t 81), none⟩,
  .op ⟨3, some 82, .ext (.t 79) 0, none⟩,
  .op ⟨4, some 83, .ext (.t 79) 1, none⟩,
  .op ⟨5, some 9, .mv (.t 82), none⟩,
  .op ⟨6, some 10, .mv (.t 83), none⟩])
 (.seq (.scope [(.normal, []), (.ret, [(2, .one .bool)])] (.seq (.reg [.op ⟨0, some 84, .call 2 [], none⟩,
  .op ⟨1, some 85, .un .not (.t 84), none⟩,
  .op ⟨2, some 86, .mv (.t 85), none⟩,
  .op ⟨3, some 87, .mv (.t 10), some (86, false)⟩,
  .op ⟨4, some 88, .mv (.t 8), some (86, false)⟩,
  .op ⟨5, some 89, .eqb true (.t 87) (.t 88), some (86, false)⟩,
  .op ⟨6, some 90, .pick (.t 86) (.c (.one (.bool true))) (.t 89), none⟩,
  .op ⟨7, some 91, .mv (.t 90), none⟩,
  .op ⟨8, some 92, .mv (.t 8), some (91, false)⟩,
  .op ⟨9, some 93, .un .not (.t 92), some (91, false)⟩,
  .op ⟨10, some 94, .mv (.t 93), some (91, false)⟩,
  .op ⟨11, some 95, .mv (.t 9), some (94, true)⟩,
  .op ⟨12, some 96, .len (.t 95), some (94, true)⟩,
  .op ⟨13, some 97, .bin .neq (.t 96) (.c (.one (.int .i64 0))), some (94, true)⟩,
  .op ⟨14, some 98, .pick (.t 94) (.t 97) (.c (.one (.bool false))), some (91, false)⟩,
  .op ⟨15, some 99, .pick (.t 91) (.c (.one (.bool true))) (.t 98), none⟩])
 (.cond (.t 99) (.seq (.reg [.op ⟨0, some 2, .mv (.c (.one (.bool false))), none⟩])
 (.ret)) (.skip))))
 (.seq (.seq (.reg [.op ⟨0, some 100, .mv (.t 8), none⟩,
  .op ⟨1, some 101, .un .not (.t 100), none⟩])
 (.cond (.t 101) (.seq (.reg [.op ⟨0, some 2, .mv (.c (.one (.bool true))), none⟩])
 (.ret)) (.skip)))
 (.seq (.reg [.op ⟨0, some 102, .mv (.t 9), none⟩,
  .op ⟨1, some 103, .call 3 [(.t 102)], none⟩,
  .op ⟨2, some 11, .mv (.t 103), none⟩])
 (.seq (.seq (.reg [.op ⟨0, some 104, .mv (.t 9), none⟩,
  .op ⟨1, some 105, .len (.t 104), none⟩,
  .op ⟨2, some 106, .addr 3 (.t 7), none⟩,
  .op ⟨3, some 107, .load (.one (.int .i64)) (.t 106), none⟩,
  .op ⟨4, some 108, .bin .neq (.t 105) (.t 107), none⟩,
  .op ⟨5, some 109, .mv (.t 108), none⟩,
  .op ⟨6, some 110, .mv (.t 11), some (109, false)⟩,
  .op ⟨7, some 111, .len (.t 110), some (109, false)⟩,
  .op ⟨8, some 112, .addr 3 (.t 7), some (109, false)⟩,
  .op ⟨9, some 113, .load (.one (.int .i64)) (.t 112), some (109, false)⟩,
  .op ⟨10, some 114, .bin .neq (.t 111) (.t 113), some (109, false)⟩,
  .op ⟨11, some 115, .pick (.t 109) (.c (.one (.bool true))) (.t 114), none⟩])
 (.cond (.t 115) (.seq (.reg [.op ⟨0, some 2, .mv (.c (.one (.bool false))), none⟩])
 (.ret)) (.skip)))
 (.seq (.seq (.reg [.op ⟨0, some 12, .mv (.c (.one (.int .i64 0))), none⟩])
 (.block 2 (.loop [(12, .one (.int .i64))] [(.exit 2, []), (.ret, [(2, .one .bool)])] (.seq (.seq (.reg [.op ⟨0, some 116, .mv (.t 12), none⟩,
  .op ⟨1, some 117, .mv (.t 9), none⟩,
  .op ⟨2, some 118, .len (.t 117), none⟩,
  .op ⟨3, some 119, .bin .lss (.t 116) (.t 118), none⟩])
 (.cond (.t 119) (.skip) (.exit 2)))
 (.seq (.block 3 (.seq (.reg [.op ⟨0, some 122, .mv (.t 9), none⟩,
  .op ⟨1, some 123, .mv (.t 12), none⟩,
  .op ⟨2, some 124, .idxa 8 (.t 122) (.t 123), none⟩,
  .op ⟨3, some 125, .addr 2 (.t 124), none⟩,
  .op ⟨4, some 126, .load (.agg [.int .i64, .int .u64, .int .i64, .int .i64, .int .i64]) (.t 125), none⟩,
  .op ⟨5, some 127, .addr 0 (.t 7), none⟩,
  .op ⟨6, some 128, .load (.one (.int .i64)) (.t 127), none⟩,
  .op ⟨7, some 129, .addr 1 (.t 7), none⟩,
  .op ⟨8, some 130, .load (.one (.int .u64)) (.t 129), none⟩,
  .op ⟨9, some 131, .mv (.t 12), none⟩,
  .op ⟨10, some 132, .addr 3 (.t 7), none⟩,
  .op ⟨11, some 133, .load (.one (.int .i64)) (.t 132), none⟩,
  .op ⟨12, some 134, .build [.int .i64 0, .int .u64 0, .int .i64 0, .int .i64 0, .int .i64 0] [(0, 1, (.t 128)), (1, 1, (.t 130)), (2, 1, (.t 131)), (3, 1, (.t 133))], none⟩,
  .op ⟨13, some 135, .eqagg true [.int .i64, .int .u64, .int .i64, .int .i64, .int .i64] (.t 126) (.t 134), none⟩,
  .op ⟨14, some 136, .mv (.t 135), none⟩,
  .op ⟨15, some 137, .mv (.t 11), some (136, false)⟩,
  .op ⟨16, some 138, .mv (.t 12), some (136, false)⟩,
  .op ⟨17, some 139, .idxa 1 (.t 137) (.t 138), some (136, false)⟩,
  .op ⟨18, some 140, .load (.one .str) (.t 139), some (136, false)⟩,
  .op ⟨19, some 141, .mv (.t 9), some (136, false)⟩,
  .op ⟨20, some 142, .mv (.t 12), some (136, false)⟩,
  .op ⟨21, some 143, .idxa 8 (.t 141) (.t 142), some (136, false)⟩,
  .op ⟨22, some 144, .addr 7 (.t 143), some (136, false)⟩,
  .op ⟨23, some 145, .load (.one .str) (.t 144), some (136, false)⟩,
  .op ⟨24, some 146, .bin .neq (.t 140) (.t 145), some (136, false)⟩,
  .op ⟨25, some 147, .pick (.t 136) (.c (.one (.bool true))) (.t 146), none⟩])
 (.cond (.t 147) (.seq (.reg [.op ⟨0, some 2, .mv (.c (.one (.bool false))), none⟩])
 (.ret)) (.skip))))
 (.reg [.op ⟨0, some 120, .mv (.t 12), none⟩,
  .op ⟨1, some 121, .bin .add (.t 120) (.c (.one (.int .i64 1))), none⟩,
  .op ⟨2, some 12, .mv (.t 121), none⟩]))))))
 (.seq (.reg [.op ⟨0, some 2, .mv (.c (.one (.bool true))), none⟩])
 (.ret)))))))))))⟩
noncomputable def law14_CkptNewest.s1 (x0 : Sl) (s2 : (Sl × Int × Unit)) (H3 : Heap) : Option (((Sl × Int × Unit) ⊕ (Sl × Unit)) × Heap) :=
 cond (decide (s2.2.1 < (x0.len : Int))) (
 cond (decide (s2.2.1 < 40)) (
 (Sl.at 5 x0 s2.2.1).bind fun (a4 : (Nat × Nat)) =>
 (rdI .i64 H3 a4.1 (a4.2 + 4)).bind fun (v5 : Int) =>
 (Sl.at 5 x0 s2.2.1).bind fun (a6 : (Nat × Nat)) =>
 (rdI .i64 H3 a6.1 (a6.2 + 1)).bind fun (v7 : Int) =>
 (Sl.at 5 x0 s2.2.1).bind fun (a8 : (Nat × Nat)) =>
 (rdI .i64 H3 a8.1 (a8.2 + 2)).bind fun (v9 : Int) =>
 (Sl.at 5 x0 s2.2.1).bind fun (a10 : (Nat × Nat)) =>
 (rdI .i64 H3 a10.1 (a10.2 + 3)).bind fun (v11 : Int) =>
 cond (decide ((IntKind.wrap .i64 (1 + (bitsI .and .i64 v5 3))) = 0)) none (
 let H12 : Heap := H3 ++ [Blk.cells [.int .i64 0, .int .u64 0, .int .i64 0, .int .i64 0, .int .i64 0] .exact]
 (wr H12 H3.length 0 [.int .i64 (IntKind.wrap .i64 (1 + (Int.tmod (IntKind.wrap .i64 ((Int.tmod v7 3) + 3)) 3))), .int .u64 (IntKind.wrap .u64 (bitsI .and .i64 v9 7)), .int .i64 (Int.tmod (bitsI .and .i64 v11 3) (IntKind.wrap .i64 (1 + (bitsI .and .i64 v5 3)))), .int .i64 (IntKind.wrap .i64 (1 + (bitsI .and .i64 v5 3))), .int .i64 0]).bind fun (H13 : Heap) =>
 (Sl.at 5 x0 s2.2.1).bind fun (a14 : (Nat × Nat)) =>
 (rdI .i64 H13 a14.1 a14.2).bind fun (v15 : Int) =>
 Option.bind (α := (Int × Int × Int × Int × Int × Unit)) (rd H13 (.agg [.int .i64, .int .u64, .int .i64, .int .i64, .int .i64]) H3.length 0) fun (v16 : (Int × Int × Int × Int × Int × Unit)) =>
 let H17 : Heap := H13 ++ [Blk.cells [.int .u8 (IntKind.wrap .u8 (IntKind.wrap .i64 (97 + s2.2.1)))] .exact]
 (strOf H17 (⟨some (H13.length, 0), 1, 1⟩)).bind fun (s18 : Bytes) =>
 let H19 : Heap := H17 ++ [Blk.cells [.int .i64 s2.2.1, .int .i64 (bitsI .and .i64 v15 1), .int .i64 v16.1, .int .u64 v16.2.1, .int .i64 v16.2.2.1, .int .i64 v16.2.2.2.1, .int .i64 v16.2.2.2.2.1, .str s18] .exact]
 (slRow H19 8 (⟨some (H17.length, 0), 1, 1⟩)).bind fun (cs20 : (List C)) =>
 (appS H19 8 72 s2.1 1 cs20).bind fun (p21 : (Sl × Heap)) =>
 some (Sum.inl (p21.1, (IntKind.wrap .i64 (s2.2.1 + 1)), ()), p21.2))) (
 some (Sum.inr (s2.1, ()), H3))) (
 some (Sum.inr (s2.1, ()), H3))
noncomputable def law14_CkptNewest.s2 (r23 : (((Int × Int × Int × Int × Int × Unit) × Bool × Unit) × Heap)) (r26 : ((Sl × Bool × Unit) × Heap)) (r30 : ((Sl × Unit) × Heap)) (s33 : (Int × Unit)) (H34 : Heap) : Option (((Int × Unit) ⊕ ((Unit) ⊕ (Bool × Unit))) × Heap) :=
 cond (decide (s33.1 < (r26.1.1.len : Int))) (
 (Sl.at 8 r26.1.1 s33.1).bind fun (a35 : (Nat × Nat)) =>
 Option.bind (α := (Int × Int × Int × Int × Int × Unit)) (rd H34 (.agg [.int .i64, .int .u64, .int .i64, .int .i64, .int .i64]) a35.1 (a35.2 + 2)) fun (v36 : (Int × Int × Int × Int × Int × Unit)) =>
 (rdI .i64 H34 r23.2.length 0).bind fun (v37 : Int) =>
 (rdI .u64 H34 r23.2.length 1).bind fun (v38 : Int) =>
 (rdI .i64 H34 r23.2.length 3).bind fun (v39 : Int) =>
 cond (!((decide (v36.1 = v37)) && ((decide (v36.2.1 = v38)) && ((decide (v36.2.2.1 = s33.1)) && ((decide (v36.2.2.2.1 = v39)) && ((decide (v36.2.2.2.2.1 = 0)) && true)))))) (
 some (Sum.inr (Sum.inr (false, ())), H34)) (
 (Sl.at 1 r30.1.1 s33.1).bind fun (a40 : (Nat × Nat)) =>
 (rdS H34 a40.1 a40.2).bind fun (v41 : Bytes) =>
 (Sl.at 8 r26.1.1 s33.1).bind fun (a42 : (Nat × Nat)) =>
 (rdS H34 a42.1 (a42.2 + 7)).bind fun (v43 : Bytes) =>
 cond (!decide ((v41 : Bytes) = v43)) (
 some (Sum.inr (Sum.inr (false, ())), H34)) (
 some (Sum.inl ((IntKind.wrap .i64 (s33.1 + 1)), ()), H34)))) (
 some (Sum.inr (Sum.inl (())), H34))
noncomputable def law14_CkptNewest (x0 : Sl) (H : Heap) : Option ((Bool × Unit) × Heap) :=
 let H1 : Heap := H ++ [Blk.cells [] .exact]
 (loopW (law14_CkptNewest.s1 x0) (⟨some (H.length, 0), 0, 0⟩, 0, ()) H1).bind fun (p22 : (Sl × Unit) × Heap) =>
 (law14_newest p22.1.1 p22.2).bind fun (r23 : (((Int × Int × Int × Int × Int × Unit) × Bool × Unit) × Heap)) =>
 let H24 : Heap := r23.2 ++ [Blk.cells [.int .i64 0, .int .u64 0, .int .i64 0, .int .i64 0, .int .i64 0] .exact]
 (wr H24 r23.2.length 0 [.int .i64 r23.1.1.1, .int .u64 r23.1.1.2.1, .int .i64 r23.1.1.2.2.1, .int .i64 r23.1.1.2.2.2.1, .int .i64 r23.1.1.2.2.2.2.1]).bind fun (H25 : Heap) =>
 (ckpt_Newest p22.1.1 H25).bind fun (r26 : ((Sl × Bool × Unit) × Heap)) =>
 ((law14_awake).bind fun (r27 : (Bool × Unit)) =>
 cond (!r27.1) (
 some (Sum.inr (false, ()), r26.2)) (
 cond (!(r26.1.2.1 == r23.1.2.1)) (
 some (Sum.inr (false, ()), r26.2)) (
 cond (!r23.1.2.1) (
 cond (!decide ((r26.1.1.len : Int) = 0)) (
 some (Sum.inr (false, ()), r26.2)) (
 some (Sum.inl (()), r26.2))) (
 some (Sum.inl (()), r26.2)))) : Option (((Unit) ⊕ (Bool × Unit)) × Heap)).bind fun (p28 : ((Unit) ⊕ (Bool × Unit)) × Heap) =>
 Sum.elim (fun (y29 : (Unit)) =>
 cond (!r23.1.2.1) (
 some ((true, ()), p28.2)) (
 (ckpt_Texts r26.1.1 p28.2).bind fun (r30 : ((Sl × Unit) × Heap)) =>
 (rdI .i64 r30.2 r23.2.length 3).bind fun (v31 : Int) =>
 cond (!decide ((r26.1.1.len : Int) = v31)) (
 some ((false, ()), r30.2)) (
 (rdI .i64 r30.2 r23.2.length 3).bind fun (v32 : Int) =>
 cond (!decide ((r30.1.1.len : Int) = v32)) (
 some ((false, ()), r30.2)) (
 (loopW (law14_CkptNewest.s2 r23 r26 r30) (0, ()) r30.2).bind fun (p44 : ((Unit) ⊕ (Bool × Unit)) × Heap) =>
 Sum.elim (fun (y45 : (Unit)) =>
 some ((true, ()), p44.2)) (fun (z46 : (Bool × Unit)) =>
 some ((z46.1, ()), p44.2)) p44.1)))) (fun (z47 : (Bool × Unit)) =>
 some ((z47.1, ()), p28.2)) p28.1
noncomputable def law14_CkptNewest.c : Callee := .full [.one (.sl 5)] [.one .bool] (fun x H => law14_CkptNewest x.1 H)
noncomputable def law14_CkptNewest.calls : Nat → Option Callee
  | 0 => some law14_newest.c
  | 1 => some ckpt_Newest.c
  | 2 => some law14_awake.c
  | 3 => some ckpt_Texts.c
  | _ => none
theorem law14_CkptNewest.eq : evFull law14_CkptNewest.calls law14_CkptNewest.af = (fun x H => law14_CkptNewest x.1 H) := by kernel_rfl

/-! ### tinderbox/tinderboxlaw14.CkptCut -/
def law14_CkptCut.af : AFun := ⟨[.one (.sl 6), .one (.sl 6), .agg [.int .i64, .int .i64, .int .u8]], [.one .bool], [.t 6],
 .seq (.reg [.op ⟨0, some 5, .box (.t 2), none⟩,
  .op ⟨1, some 6, .mv (.c (.one (.bool false))), none⟩])
 (.seq (.reg [.op ⟨0, some 24, .build [.int .i64 0, .int .i64 0, .int .i64 0] [], none⟩,
  .op ⟨1, some 25, .build [.sl 3 Sl.nil, .sl 1 Sl.nil, .sl 1 Sl.nil] [], none⟩,
  .op ⟨2, some 26, .call 0 [(.t 24), (.t 25)], none⟩,
  .op ⟨3, some 23, .mv (.t 26), none⟩,
  .op ⟨4, some 27, .ext (.t 23) 0, none⟩,
  .op ⟨5, some 28, .ext (.t 23) 1, none⟩,
  .op ⟨6, some 29, .ext (.t 23) 2, none⟩,
  .op ⟨7, some 7, .mv (.t 27), none⟩,
  .op ⟨8, some 8, .mv (.t 28), none⟩,
  .op ⟨9, some 9, .mv (.t 29), none⟩])
 (.seq (.seq (.reg [.op ⟨0, some 30, .call 1 [], none⟩,
  .op ⟨1, some 31, .un .not (.t 30), none⟩,
  .op ⟨2, some 32, .mv (.t 31), none⟩,
  .op ⟨3, some 33, .mv (.t 9), some (32, false)⟩,
  .op ⟨4, some 34, .un .not (.t 33), some (32, false)⟩,
  .op ⟨5, some 35, .pick (.t 32) (.c (.one (.bool true))) (.t 34), none⟩])
 (.cond (.t 35) (.seq (.reg [.op ⟨0, some 6, .mv (.c (.one (.bool false))), none⟩])
 (.ret)) (.skip)))
 (.seq (.reg [.op ⟨0, some 36, .mv (.t 7), none⟩,
  .op ⟨1, some 37, .call 2 [(.t 36)], none⟩,
  .op ⟨2, some 38, .field (.one (.int .i64)) 2 (.t 37), none⟩,
  .op ⟨3, some 10, .mv (.t 38), none⟩])
 (.seq (.reg [.op ⟨0, some 39, .mv (.t 0), none⟩,
  .op ⟨1, some 40, .call 3 [(.t 39)], none⟩,
  .op ⟨2, some 41, .mv (.t 1), none⟩,
  .op ⟨3, some 42, .call 3 [(.t 41)], none⟩,
  .op ⟨4, some 11, .mv (.t 40), none⟩,
  .op ⟨5, some 12, .mv (.t 42), none⟩])
 (.seq (.seq (.reg [.op ⟨0, some 43, .mv (.t 11), none⟩,
  .op ⟨1, some 44, .mv (.t 10), none⟩,
  .op ⟨2, some 45, .call 4 [(.t 43), (.t 44)], none⟩,
  .op ⟨3, some 46, .len (.t 45), none⟩,
  .op ⟨4, some 47, .mv (.t 12), none⟩,
  .op ⟨5, some 48, .mv (.t 10), none⟩,
  .op ⟨6, some 49, .call 4 [(.t 47), (.t 48)], none⟩,
  .op ⟨7, some 50, .len (.t 49), none⟩,
  .op ⟨8, some 51, .bin .add (.t 46) (.t 50), none⟩,
  .op ⟨9, some 52, .bin .gtr (.t 51) (.c (.one (.int .i64 28))), none⟩])
 (.cond (.t 52) (.seq (.reg [.op ⟨0, some 6, .mv (.c (.one (.bool true))), none⟩])
 (.ret)) (.skip)))
 (.seq (.reg [.op ⟨0, some 54, .mv (.t 8), none⟩,
  .op ⟨1, some 55, .mv (.t 11), none⟩,
  .op ⟨2, some 56, .mv (.t 10), none⟩,
  .op ⟨3, some 57, .call 5 [(.t 54), (.t 55), (.c (.one (.int .i64 3))), (.c (.one (.int .u64 5))), (.t 56)], none⟩,
  .op ⟨4, some 53, .mv (.t 57), none⟩,
  .op ⟨5, some 58, .ext (.t 53) 0, none⟩,
  .op ⟨6, some 59, .ext (.t 53) 1, none⟩,
  .op ⟨7, some 60, .ext (.t 53) 2, none⟩,
  .op ⟨8, some 13, .mv (.t 58), none⟩,
  .op ⟨9, some 14, .mv (.t 59), none⟩,
  .op ⟨10, some 15, .mv (.t 60), none⟩])
 (.seq (.reg [.op ⟨0, some 61, .load (.agg [.int .i64, .int .i64, .int .u8]) (.t 5), none⟩,
  .op ⟨1, some 16, .new [.int .i64 0, .int .i64 0, .int .u8 0], none⟩,
  .op ⟨2, none, .store 3 (.t 16) (.t 61), none⟩])
 (.seq (.reg [.op ⟨0, some 62, .addr 0 (.t 5), none⟩,
  .op ⟨1, some 63, .load (.one (.int .i64)) (.t 62), none⟩,
  .op ⟨2, some 64, .bin .and (.t 63) (.c (.one (.int .i64 7))), none⟩,
  .op ⟨3, some 65, .bin .add (.c (.one (.int .i64 1))) (.t 64), none⟩,
  .op ⟨4, some 66, .addr 0 (.t 16), none⟩,
  .op ⟨5, none, .store 1 (.t 66) (.t 65), none⟩])
 (.seq (.reg [.op ⟨0, some 67, .mv (.t 7), none⟩,
  .op ⟨1, some 68, .load (.agg [.int .i64, .int .i64, .int .u8]) (.t 16), none⟩,
  .op ⟨2, some 69, .bslice 3 1 [.int .i64 0, .int .i64 0, .int .u8 0] [(0, 3, (.t 68))], none⟩,
  .op ⟨3, some 70, .build [.sl 3 Sl.nil, .sl 1 Sl.nil, .sl 1 Sl.nil] [(0, 1, (.t 69))], none⟩,
  .op ⟨4, some 71, .call 6 [(.t 67), (.t 70)], none⟩])
 (.seq (.reg [.op ⟨0, some 73, .mv (.t 8), none⟩,
  .op ⟨1, some 74, .mv (.t 12), none⟩,
  .op ⟨2, some 75, .mv (.t 14), none⟩,
  .op ⟨3, some 76, .mv (.t 10), none⟩,
  .op ⟨4, some 77, .call 5 [(.t 73), (.t 74), (.c (.one (.int .i64 3))), (.t 75), (.t 76)], none⟩,
  .op ⟨5, some 72, .mv (.t 77), none⟩,
  .op ⟨6, some 78, .ext (.t 72) 0, none⟩,
  .op ⟨7, some 79, .ext (.t 72) 1, none⟩,
  .op ⟨8, some 80, .ext (.t 72) 2, none⟩,
  .op ⟨9, some 17, .mv (.t 78), none⟩,
  .op ⟨10, some 18, .mv (.t 79), none⟩,
  .op ⟨11, some 19, .mv (.t 80), none⟩])
 (.seq (.reg [.op ⟨0, some 81, .mv (.t 7), none⟩,
  .op ⟨1, some 82, .call 7 [(.t 81)], none⟩])
 (.seq (.reg [.op ⟨0, some 84, .mv (.t 8), none⟩,
  .op ⟨1, some 85, .call 8 [(.t 84), (.c (.one (.int .i64 32)))], none⟩,
  .op ⟨2, some 86, .call 9 [(.t 85)], none⟩,
  .op ⟨3, some 83, .mv (.t 86), none⟩,
  .op ⟨4, some 87, .ext (.t 83) 0, none⟩,
  .op ⟨5, some 88, .ext (.t 83) 1, none⟩,
  .op ⟨6, some 20, .mv (.t 87), none⟩,
  .op ⟨7, some 21, .mv (.t 88), none⟩])
 (.seq (.scope [(.normal, []), (.ret, [(6, .one .bool)])] (.seq (.reg [.op ⟨0, some 89, .mv (.t 15), none⟩,
  .op ⟨1, some 90, .bin .neq (.t 89) (.c (.one (.int .i64 0))), none⟩,
  .op ⟨2, some 91, .mv (.t 90), none⟩,
  .op ⟨3, some 92, .mv (.t 21), some (91, false)⟩,
  .op ⟨4, some 93, .un .not (.t 92), some (91, false)⟩,
  .op ⟨5, some 94, .pick (.t 91) (.c (.one (.bool true))) (.t 93), none⟩,
  .op ⟨6, some 95, .mv (.t 94), none⟩,
  .op ⟨7, some 96, .mv (.t 20), some (95, false)⟩,
  .op ⟨8, some 97, .len (.t 96), some (95, false)⟩,
  .op ⟨9, some 98, .bin .eql (.t 97) (.c (.one (.int .i64 0))), some (95, false)⟩,
  .op ⟨10, some 99, .pick (.t 95) (.c (.one (.bool true))) (.t 98), none⟩,
  .op ⟨11, some 100, .mv (.t 99), none⟩,
  .op ⟨12, some 101, .mv (.t 19), some (100, false)⟩,
  .op ⟨13, some 102, .bin .neq (.t 101) (.c (.one (.int .i64 0))), some (100, false)⟩,
  .op ⟨14, some 103, .mv (.t 102), some (100, false)⟩,
  .op ⟨15, some 104, .mv (.t 19), some (103, true)⟩,
  .op ⟨16, some 105, .bin .neq (.t 104) (.c (.one (.int .i64 51))), some (103, true)⟩,
  .op ⟨17, some 106, .pick (.t 103) (.t 105) (.c (.one (.bool false))), some (100, false)⟩,
  .op ⟨18, some 107, .pick (.t 100) (.c (.one (.bool true))) (.t 106), none⟩])
 (.cond (.t 107) (.seq (.reg [.op ⟨0, some 6, .mv (.c (.one (.bool false))), none⟩])
 (.ret)) (.skip))))
 (.seq (.reg [.op ⟨0, some 108, .mv (.t 12), none⟩,
  .op ⟨1, some 109, .mv (.t 10), none⟩,
  .op ⟨2, some 110, .call 4 [(.t 108), (.t 109)], none⟩,
  .op ⟨3, some 111, .len (.t 110), none⟩,
  .op ⟨4, some 22, .mv (.t 111), none⟩])
 (.seq (.seq (.scope [(.normal, [(126, .one .bool)])] (.reg [.op ⟨0, some 112, .mv (.t 19), none⟩,
  .op ⟨1, some 113, .bin .eql (.t 112) (.c (.one (.int .i64 0))), none⟩,
  .op ⟨2, some 114, .mv (.t 113), none⟩,
  .op ⟨3, some 115, .addr 0 (.t 16), some (114, false)⟩,
  .op ⟨4, some 116, .load (.one (.int .i64)) (.t 115), some (114, false)⟩,
  .op ⟨5, some 117, .mv (.t 22), some (114, false)⟩,
  .op ⟨6, some 118, .bin .eql (.t 116) (.t 117), some (114, false)⟩,
  .op ⟨7, some 119, .mv (.t 118), some (114, false)⟩,
  .op ⟨8, some 120, .addr 1 (.t 16), some (119, true)⟩,
  .op ⟨9, some 121, .load (.one (.int .i64)) (.t 120), some (119, true)⟩,
  .op ⟨10, some 122, .mv (.t 10), some (119, true)⟩,
  .op ⟨11, some 123, .bin .add (.t 122) (.c (.one (.int .i64 32))), some (119, true)⟩,
  .op ⟨12, some 124, .bin .geq (.t 121) (.t 123), some (119, true)⟩,
  .op ⟨13, some 125, .pick (.t 119) (.t 124) (.c (.one (.bool false))), some (114, false)⟩,
  .op ⟨14, some 126, .pick (.t 114) (.c (.one (.bool true))) (.t 125), none⟩]))
 (.cond (.t 126) (.seq (.reg [.op ⟨0, some 127, .mv (.t 20), none⟩,
  .op ⟨1, some 128, .idxa 8 (.t 127) (.c (.one (.int .i64 0))), none⟩,
  .op ⟨2, some 129, .addr 2 (.t 128), none⟩,
  .op ⟨3, some 130, .addr 1 (.t 129), none⟩,
  .op ⟨4, some 131, .load (.one (.int .u64)) (.t 130), none⟩,
  .op ⟨5, some 132, .mv (.t 14), none⟩,
  .op ⟨6, some 133, .bin .eql (.t 131) (.t 132), none⟩,
  .op ⟨7, some 134, .mv (.t 133), none⟩,
  .op ⟨8, some 135, .mv (.t 20), some (134, true)⟩,
  .op ⟨9, some 136, .len (.t 135), some (134, true)⟩,
  .op ⟨10, some 137, .mv (.t 22), some (134, true)⟩,
  .op ⟨11, some 138, .bin .eql (.t 136) (.t 137), some (134, true)⟩,
  .op ⟨12, some 139, .pick (.t 134) (.t 138) (.c (.one (.bool false))), none⟩,
  .op ⟨13, some 6, .mv (.t 139), none⟩])
 (.ret)) (.skip)))
 (.seq (.reg [.op ⟨0, some 140, .mv (.t 20), none⟩,
  .op ⟨1, some 141, .idxa 8 (.t 140) (.c (.one (.int .i64 0))), none⟩,
  .op ⟨2, some 142, .addr 2 (.t 141), none⟩,
  .op ⟨3, some 143, .addr 1 (.t 142), none⟩,
  .op ⟨4, some 144, .load (.one (.int .u64)) (.t 143), none⟩,
  .op ⟨5, some 145, .bin .eql (.t 144) (.c (.one (.int .u64 5))), none⟩,
  .op ⟨6, some 146, .mv (.t 145), none⟩,
  .op ⟨7, some 147, .mv (.t 20), some (146, true)⟩,
  .op ⟨8, some 148, .len (.t 147), some (146, true)⟩,
  .op ⟨9, some 149, .mv (.t 13), some (146, true)⟩,
  .op ⟨10, some 150, .len (.t 149), some (146, true)⟩,
  .op ⟨11, some 151, .bin .eql (.t 148) (.t 150), some (146, true)⟩,
  .op ⟨12, some 152, .pick (.t 146) (.t 151) (.c (.one (.bool false))), none⟩,
  .op ⟨13, some 153, .mv (.t 152), none⟩,
  .op ⟨14, some 154, .mv (.t 20), some (153, false)⟩,
  .op ⟨15, some 155, .idxa 8 (.t 154) (.c (.one (.int .i64 0))), some (153, false)⟩,
  .op ⟨16, some 156, .addr 2 (.t 155), some (153, false)⟩,
  .op ⟨17, some 157, .addr 1 (.t 156), some (153, false)⟩,
  .op ⟨18, some 158, .load (.one (.int .u64)) (.t 157), some (153, false)⟩,
  .op ⟨19, some 159, .mv (.t 14), some (153, false)⟩,
  .op ⟨20, some 160, .bin .eql (.t 158) (.t 159), some (153, false)⟩,
  .op ⟨21, some 161, .mv (.t 160), some (153, false)⟩,
  .op ⟨22, some 162, .mv (.t 20), some (161, true)⟩,
  .op ⟨23, some 163, .len (.t 162), some (161, true)⟩,
  .op ⟨24, some 164, .mv (.t 22), some (161, true)⟩,
  .op ⟨25, some 165, .bin .eql (.t 163) (.t 164), some (161, true)⟩,
  .op ⟨26, some 166, .pick (.t 161) (.t 165) (.c (.one (.bool false))), some (153, false)⟩,
  .op ⟨27, some 167, .mv (.t 166), some (153, false)⟩,
  .op ⟨28, some 168, .addr 0 (.t 16), some (167, true)⟩,
  .op ⟨29, some 169, .load (.one (.int .i64)) (.t 168), some (167, true)⟩,
  .op ⟨30, some 170, .mv (.t 22), some (167, true)⟩,
  .op ⟨31, some 171, .bin .eql (.t 169) (.t 170), some (167, true)⟩,
  .op ⟨32, some 172, .pick (.t 167) (.t 171) (.c (.one (.bool false))), some (153, false)⟩,
  .op ⟨33, some 173, .pick (.t 153) (.c (.one (.bool true))) (.t 172), none⟩,
  .op ⟨34, some 6, .mv (.t 173), none⟩])
 (.ret)))))))))))))))))⟩
noncomputable def law14_CkptCut (x0 : Sl) (x1 : Sl) (x2 : (Int × Int × Int × Unit)) (H : Heap) : Option ((Bool × Unit) × Heap) :=
 let H1 : Heap := H ++ [Blk.cells [.int .i64 x2.1, .int .i64 x2.2.1, .int .u8 x2.2.2.1] .exact]
 (law13_Begun (0, 0, 0, ()) (⟨none, 0, 0⟩, ⟨none, 0, 0⟩, ⟨none, 0, 0⟩, ()) H1).bind fun (r2 : ((Ptr × Ptr × Bool × Unit) × Heap)) =>
 (law14_awake).bind fun (r3 : (Bool × Unit)) =>
 cond (!r3.1) (
 some ((false, ()), r2.2)) (
 cond (!r2.1.2.2.1) (
 some ((false, ()), r2.2)) (
 (nand_Chip_Geometry r2.1.1 r2.2).bind fun (r4 : (((Int × Int × Int × Unit) × Unit) × Heap)) =>
 (law14_good x0 r4.2).bind fun (r5 : ((Sl × Unit) × Heap)) =>
 (law14_good x1 r5.2).bind fun (r6 : ((Sl × Unit) × Heap)) =>
 (group_Pack r5.1.1 r4.1.1.2.2.1 r6.2).bind fun (r7 : ((Sl × Unit) × Heap)) =>
 (group_Pack r6.1.1 r4.1.1.2.2.1 r7.2).bind fun (r8 : ((Sl × Unit) × Heap)) =>
 cond (decide (28 < (IntKind.wrap .i64 ((r7.1.1.len : Int) + (r8.1.1.len : Int))))) (
 some ((true, ()), r8.2)) (
 (ckpt_Write r2.1.2.1 r5.1.1 3 5 r4.1.1.2.2.1 r8.2).bind fun (r9 : ((Sl × Int × Int × Unit) × Heap)) =>
 Option.bind (α := (Int × Int × Int × Unit)) (rd r9.2 (.agg [.int .i64, .int .i64, .int .u8]) H.length 0) fun (v10 : (Int × Int × Int × Unit)) =>
 let H11 : Heap := r9.2 ++ [Blk.cells [.int .i64 0, .int .i64 0, .int .u8 0] .exact]
 (wr H11 r9.2.length 0 [.int .i64 v10.1, .int .i64 v10.2.1, .int .u8 v10.2.2.1]).bind fun (H12 : Heap) =>
 (rdI .i64 H12 H.length 0).bind fun (v13 : Int) =>
 (wr H12 r9.2.length 0 [.int .i64 (IntKind.wrap .i64 (1 + (bitsI .and .i64 v13 7)))]).bind fun (H14 : Heap) =>
 Option.bind (α := (Int × Int × Int × Unit)) (rd H14 (.agg [.int .i64, .int .i64, .int .u8]) r9.2.length 0) fun (v15 : (Int × Int × Int × Unit)) =>
 let H16 : Heap := H14 ++ [Blk.cells [.int .i64 v15.1, .int .i64 v15.2.1, .int .u8 v15.2.2.1] .exact]
 (nand_Chip_Arm r2.1.1 (⟨some (H14.length, 0), 1, 1⟩, ⟨none, 0, 0⟩, ⟨none, 0, 0⟩, ()) H16).bind fun (r17 : ((Unit) × Heap)) =>
 (ckpt_Write r2.1.2.1 r6.1.1 3 r9.1.2.1 r4.1.1.2.2.1 r17.2).bind fun (r18 : ((Sl × Int × Int × Unit) × Heap)) =>
 (nand_Chip_Power r2.1.1 r18.2).bind fun (r19 : ((Unit) × Heap)) =>
 (law14_found r2.1.2.1 32 r19.2).bind fun (r20 : ((Sl × Unit) × Heap)) =>
 (ckpt_Newest r20.1.1 r20.2).bind fun (r21 : ((Sl × Bool × Unit) × Heap)) =>
 (cond (!decide (r9.1.2.2.1 = 0)) (
 some (Sum.inr (false, ()), r21.2)) (
 cond (!r21.1.2.1) (
 some (Sum.inr (false, ()), r21.2)) (
 cond (decide ((r21.1.1.len : Int) = 0)) (
 some (Sum.inr (false, ()), r21.2)) (
 cond (!decide (r18.1.2.2.1 = 0)) (
 cond (!decide (r18.1.2.2.1 = 51)) (
 some (Sum.inr (false, ()), r21.2)) (
 some (Sum.inl (()), r21.2))) (
 some (Sum.inl (()), r21.2))))) : Option (((Unit) ⊕ (Bool × Unit)) × Heap)).bind fun (p22 : ((Unit) ⊕ (Bool × Unit)) × Heap) =>
 Sum.elim (fun (y23 : (Unit)) =>
 (group_Pack r6.1.1 r4.1.1.2.2.1 p22.2).bind fun (r24 : ((Sl × Unit) × Heap)) =>
 (cond (decide (r18.1.2.2.1 = 0)) (
 some ((true, ()), r24.2)) (
 (rdI .i64 r24.2 r9.2.length 0).bind fun (v25 : Int) =>
 cond (decide (v25 = (r24.1.1.len : Int))) (
 (rdI .i64 r24.2 r9.2.length 1).bind fun (v26 : Int) =>
 some (((decide ((IntKind.wrap .i64 (r4.1.1.2.2.1 + 32)) ≤ v26)), ()), r24.2)) (
 some ((false, ()), r24.2))) : Option ((Bool × Unit) × Heap)).bind fun (p27 : (Bool × Unit) × Heap) =>
 cond p27.1.1 (
 (Sl.at 8 r21.1.1 0).bind fun (a28 : (Nat × Nat)) =>
 (rdI .u64 p27.2 a28.1 (a28.2 + 3)).bind fun (v29 : Int) =>
 cond (decide (v29 = r9.1.2.1)) (
 some (((decide ((r21.1.1.len : Int) = (r24.1.1.len : Int))), ()), p27.2)) (
 some ((false, ()), p27.2))) (
 (Sl.at 8 r21.1.1 0).bind fun (a30 : (Nat × Nat)) =>
 (rdI .u64 p27.2 a30.1 (a30.2 + 3)).bind fun (v31 : Int) =>
 cond (decide (v31 = 5)) (
 cond (decide ((r21.1.1.len : Int) = (r9.1.1.len : Int))) (
 some ((true, ()), p27.2)) (
 (Sl.at 8 r21.1.1 0).bind fun (a32 : (Nat × Nat)) =>
 (rdI .u64 p27.2 a32.1 (a32.2 + 3)).bind fun (v33 : Int) =>
 cond (decide (v33 = r9.1.2.1)) (
 cond (decide ((r21.1.1.len : Int) = (r24.1.1.len : Int))) (
 (rdI .i64 p27.2 r9.2.length 0).bind fun (v34 : Int) =>
 some (((decide (v34 = (r24.1.1.len : Int))), ()), p27.2)) (
 some ((false, ()), p27.2))) (
 some ((false, ()), p27.2)))) (
 (Sl.at 8 r21.1.1 0).bind fun (a35 : (Nat × Nat)) =>
 (rdI .u64 p27.2 a35.1 (a35.2 + 3)).bind fun (v36 : Int) =>
 cond (decide (v36 = r9.1.2.1)) (
 cond (decide ((r21.1.1.len : Int) = (r24.1.1.len : Int))) (
 (rdI .i64 p27.2 r9.2.length 0).bind fun (v37 : Int) =>
 some (((decide (v37 = (r24.1.1.len : Int))), ()), p27.2)) (
 some ((false, ()), p27.2))) (
 some ((false, ()), p27.2))))) (fun (z38 : (Bool × Unit)) =>
 some ((z38.1, ()), p22.2)) p22.1)))
noncomputable def law14_CkptCut.c : Callee := .full [.one (.sl 6), .one (.sl 6), .agg [.int .i64, .int .i64, .int .u8]] [.one .bool] (fun x H => law14_CkptCut x.1 x.2.1 x.2.2.1 H)
noncomputable def law14_CkptCut.calls : Nat → Option Callee
  | 0 => some law13_Begun.c
  | 1 => some law14_awake.c
  | 2 => some nand_Chip_Geometry.c
  | 3 => some law14_good.c
  | 4 => some group_Pack.c
  | 5 => some ckpt_Write.c
  | 6 => some nand_Chip_Arm.c
  | 7 => some nand_Chip_Power.c
  | 8 => some law14_found.c
  | 9 => some ckpt_Newest.c
  | _ => none
theorem law14_CkptCut.eq : evFull law14_CkptCut.calls law14_CkptCut.af = (fun x H => law14_CkptCut x.1 x.2.1 x.2.2.1 H) := by kernel_rfl
end Ev
