/- What the functions of the package Law30 compute: abstract code, and a function of plain Lean for each; the kernel checks that they are the same. Written by gen2.py. -/
import Derived.Test.YtpebaginkkbnpaaGreatEvCore
import Derived.Test.YtpebaginkkbnpaaGreatGCell
import Derived.Test.YtpebaginkkbnpaaGreatGNand
import Derived.Test.YtpebaginkkbnpaaGreatGWeave
import Derived.KernelRfl
set_option linter.unusedVariables false
set_option maxRecDepth 100000
namespace Ev
open Go (IntKind BinOp UnOp)

/-! ### tinderbox/tinderboxlaw30.geometry -/
def law30_geometry.af : AFun := ⟨[], [.agg [.int .i64, .int .i64, .int .i64]], [.cell 0],
 .seq (.reg [.op ⟨0, some 0, .new [.int .i64 0, .int .i64 0, .int .i64 0], none⟩])
 (.seq (.reg [.op ⟨0, some 1, .build [.int .i64 0, .int .i64 0, .int .i64 0] [(0, 1, (.c (.one (.int .i64 8)))), (1, 1, (.c (.one (.int .i64 4)))), (2, 1, (.c (.one (.int .i64 64))))], none⟩,
  .op ⟨1, none, .store 3 (.t 0) (.t 1), none⟩])
 (.ret))⟩
noncomputable def law30_geometry.on (H : Heap) : Option ((Int × Int × Int × Unit) × Unit) :=
 let H1 : Heap := H ++ [Blk.cells [.int .i64 0, .int .i64 0, .int .i64 0] .exact]
 (wr H1 H.length 0 [.int .i64 8, .int .i64 4, .int .i64 64]).bind fun (H2 : Heap) =>
 Option.bind (α := (Int × Int × Int × Unit)) (rd H2 (.agg [.int .i64, .int .i64, .int .i64]) H.length 0) fun (v3 : (Int × Int × Int × Unit)) =>
 some (v3, ())
noncomputable def law30_geometry  : Option ((Int × Int × Int × Unit) × Unit) := law30_geometry.on []
noncomputable def law30_geometry.c : Callee := .pure [] [.agg [.int .i64, .int .i64, .int .i64]] (fun _ => law30_geometry)
noncomputable def law30_geometry.calls : Nat → Option Callee
  | _ => none
theorem law30_geometry.eq : evPure law30_geometry.calls law30_geometry.af = (fun _ H => law30_geometry.on H) := by kernel_rfl

/-! ### tinderbox/tinderboxlaw30.noise -/
def law30_noise.af : AFun := ⟨[.one (.sl 5)], [.one (.sl 5)], [.t 2],
 .seq (.reg [.op ⟨0, some 2, .mv (.c (.one (.sl 5 (⟨none, 0, 0⟩)))), none⟩])
 (.seq (.reg [.op ⟨0, some 8, .bslice 5 0 [] [], none⟩,
  .op ⟨1, some 9, .build [.int .i64 0, .int .i64 0, .int .i64 0, .int .i64 0, .int .i64 0, .int .i64 0, .int .i64 0, .int .i64 0, .int .i64 0, .int .i64 0, .int .i64 0, .int .i64 0, .int .i64 0, .int .i64 0, .int .i64 0, .int .i64 0, .int .i64 0, .int .i64 0, .int .i64 0, .int .i64 0, .int .i64 0, .int .i64 0, .int .i64 0, .int .i64 0, .int .i64 0, .int .i64 0, .int .i64 0, .int .i64 0, .int .i64 0, .int .i64 0, .int .i64 0, .int .i64 0] [], none⟩,
  .op ⟨2, some 4, .new [.int .i64 0, .int .i64 0, .int .i64 0, .int .i64 0, .int .i64 0, .int .i64 0, .int .i64 0, .int .i64 0, .int .i64 0, .int .i64 0, .int .i64 0, .int .i64 0, .int .i64 0, .int .i64 0, .int .i64 0, .int .i64 0, .int .i64 0, .int .i64 0, .int .i64 0, .int .i64 0, .int .i64 0, .int .i64 0, .int .i64 0, .int .i64 0, .int .i64 0, .int .i64 0, .int .i64 0, .int .i64 0, .int .i64 0, .int .i64 0, .int .i64 0, .int .i64 0], none⟩,
  .op ⟨3, some 3, .mv (.t 8), none⟩,
  .op ⟨4, none, .store 32 (.t 4) (.t 9), none⟩])
 (.seq (.seq (.reg [.op ⟨0, some 5, .mv (.c (.one (.int .i64 0))), none⟩])
 (.block 0 (.loop [(3, .one (.sl 5)), (5, .one (.int .i64))] [(.exit 0, [(3, .one (.sl 5))])] (.seq (.seq (.reg [.op ⟨0, some 10, .mv (.t 5), none⟩,
  .op ⟨1, some 11, .mv (.t 0), none⟩,
  .op ⟨2, some 12, .len (.t 11), none⟩,
  .op ⟨3, some 13, .bin .lss (.t 10) (.t 12), none⟩,
  .op ⟨4, some 14, .mv (.t 13), none⟩,
  .op ⟨5, some 15, .mv (.t 5), some (14, true)⟩,
  .op ⟨6, some 16, .bin .lss (.t 15) (.c (.one (.int .i64 40))), some (14, true)⟩,
  .op ⟨7, some 17, .pick (.t 14) (.t 16) (.c (.one (.bool false))), none⟩])
 (.cond (.t 17) (.skip) (.exit 0)))
 (.seq (.block 1 (.seq (.reg [.op ⟨0, some 20, .mv (.t 0), none⟩,
  .op ⟨1, some 21, .mv (.t 5), none⟩,
  .op ⟨2, some 22, .idxa 5 (.t 20) (.t 21), none⟩,
  .op ⟨3, some 23, .load (.agg [.int .i64, .int .i64, .int .i64, .int .i64, .int .u8]) (.t 22), none⟩,
  .op ⟨4, some 6, .new [.int .i64 0, .int .i64 0, .int .i64 0, .int .i64 0, .int .u8 0], none⟩,
  .op ⟨5, none, .store 5 (.t 6) (.t 23), none⟩])
 (.seq (.reg [.op ⟨0, some 24, .addr 1 (.t 6), none⟩,
  .op ⟨1, some 25, .load (.one (.int .i64)) (.t 24), none⟩,
  .op ⟨2, some 26, .bin .and (.t 25) (.c (.one (.int .i64 7))), none⟩,
  .op ⟨3, some 27, .addr 2 (.t 6), none⟩,
  .op ⟨4, some 28, .load (.one (.int .i64)) (.t 27), none⟩,
  .op ⟨5, some 29, .bin .and (.t 28) (.c (.one (.int .i64 3))), none⟩,
  .op ⟨6, some 30, .addr 3 (.t 6), none⟩,
  .op ⟨7, some 31, .load (.one (.int .i64)) (.t 30), none⟩,
  .op ⟨8, some 32, .bin .rem (.t 31) (.c (.one (.int .i64 104))), none⟩,
  .op ⟨9, some 33, .bin .add (.t 32) (.c (.one (.int .i64 104))), none⟩,
  .op ⟨10, some 34, .bin .rem (.t 33) (.c (.one (.int .i64 104))), none⟩,
  .op ⟨11, some 35, .addr 4 (.t 6), none⟩,
  .op ⟨12, some 36, .load (.one (.int .u8)) (.t 35), none⟩,
  .op ⟨13, some 37, .bin .and (.t 36) (.c (.one (.int .u8 7))), none⟩,
  .op ⟨14, some 38, .conv .u64 (.t 37), none⟩,
  .op ⟨15, some 39, .bin .shl (.c (.one (.int .u8 1))) (.t 38), none⟩,
  .op ⟨16, some 40, .addr 1 (.t 6), none⟩,
  .op ⟨17, none, .store 1 (.t 40) (.t 26), none⟩,
  .op ⟨18, some 41, .addr 2 (.t 6), none⟩,
  .op ⟨19, none, .store 1 (.t 41) (.t 29), none⟩,
  .op ⟨20, some 42, .addr 3 (.t 6), none⟩,
  .op ⟨21, none, .store 1 (.t 42) (.t 34), none⟩,
  .op ⟨22, some 43, .addr 4 (.t 6), none⟩,
  .op ⟨23, none, .store 1 (.t 43) (.t 39), none⟩])
 (.seq (.reg [.op ⟨0, some 44, .addr 1 (.t 6), none⟩,
  .op ⟨1, some 45, .load (.one (.int .i64)) (.t 44), none⟩,
  .op ⟨2, some 46, .bin .mul (.t 45) (.c (.one (.int .i64 4))), none⟩,
  .op ⟨3, some 47, .addr 2 (.t 6), none⟩,
  .op ⟨4, some 48, .load (.one (.int .i64)) (.t 47), none⟩,
  .op ⟨5, some 49, .bin .add (.t 46) (.t 48), none⟩,
  .op ⟨6, some 7, .mv (.t 49), none⟩])
 (.seq (.reg [.op ⟨0, some 50, .mv (.t 7), none⟩,
  .op ⟨1, some 51, .idxarr 1 32 (.t 4) (.t 50), none⟩,
  .op ⟨2, some 52, .load (.one (.int .i64)) (.t 51), none⟩,
  .op ⟨3, some 53, .bin .lss (.t 52) (.c (.one (.int .i64 4))), none⟩])
 (.cond (.t 53) (.seq (.reg [.op ⟨0, some 54, .mv (.t 7), none⟩,
  .op ⟨1, some 55, .idxarr 1 32 (.t 4) (.t 54), none⟩,
  .op ⟨2, some 56, .load (.one (.int .i64)) (.t 55), none⟩,
  .op ⟨3, some 57, .bin .add (.t 56) (.c (.one (.int .i64 1))), none⟩,
  .op ⟨4, some 58, .idxarr 1 32 (.t 4) (.t 54), none⟩,
  .op ⟨5, none, .store 1 (.t 58) (.t 57), none⟩])
 (.reg [.op ⟨0, some 59, .mv (.t 3), none⟩,
  .op ⟨1, some 60, .load (.agg [.int .i64, .int .i64, .int .i64, .int .i64, .int .u8]) (.t 6), none⟩,
  .op ⟨2, some 61, .bslice 5 1 [.int .i64 0, .int .i64 0, .int .i64 0, .int .i64 0, .int .u8 0] [(0, 5, (.t 60))], none⟩,
  .op ⟨3, some 62, .app 5 40 (.t 59) (.t 61), none⟩,
  .op ⟨4, some 3, .mv (.t 62), none⟩])) (.skip)))))))
 (.reg [.op ⟨0, some 18, .mv (.t 5), none⟩,
  .op ⟨1, some 19, .bin .add (.t 18) (.c (.one (.int .i64 1))), none⟩,
  .op ⟨2, some 5, .mv (.t 19), none⟩]))))))
 (.seq (.reg [.op ⟨0, some 63, .mv (.t 3), none⟩,
  .op ⟨1, some 2, .mv (.t 63), none⟩])
 (.ret))))⟩
noncomputable def law30_noise.s1 (x0 : Sl) (H1 : Heap) (s4 : (Sl × Int × Unit)) (H5 : Heap) : Option (((Sl × Int × Unit) ⊕ (Sl × Unit)) × Heap) :=
 cond (decide (s4.2.1 < (x0.len : Int))) (
 cond (decide (s4.2.1 < 40)) (
 (Sl.at 5 x0 s4.2.1).bind fun (a6 : (Nat × Nat)) =>
 Option.bind (α := (Int × Int × Int × Int × Int × Unit)) (rd H5 (.agg [.int .i64, .int .i64, .int .i64, .int .i64, .int .u8]) a6.1 a6.2) fun (v7 : (Int × Int × Int × Int × Int × Unit)) =>
 let H8 : Heap := H5 ++ [Blk.cells [.int .i64 0, .int .i64 0, .int .i64 0, .int .i64 0, .int .u8 0] .exact]
 (wr H8 H5.length 0 [.int .i64 v7.1, .int .i64 v7.2.1, .int .i64 v7.2.2.1, .int .i64 v7.2.2.2.1, .int .u8 v7.2.2.2.2.1]).bind fun (H9 : Heap) =>
 (rdI .i64 H9 H5.length 1).bind fun (v10 : Int) =>
 (rdI .i64 H9 H5.length 2).bind fun (v11 : Int) =>
 (rdI .i64 H9 H5.length 3).bind fun (v12 : Int) =>
 (rdI .u8 H9 H5.length 4).bind fun (v13 : Int) =>
 cond (decide ((IntKind.wrap .u64 (bitsI .and .u8 v13 7)) < 0)) none (
 (wr H9 H5.length 1 [.int .i64 (bitsI .and .i64 v10 7)]).bind fun (H14 : Heap) =>
 (wr H14 H5.length 2 [.int .i64 (bitsI .and .i64 v11 3)]).bind fun (H15 : Heap) =>
 (wr H15 H5.length 3 [.int .i64 (Int.tmod (IntKind.wrap .i64 ((Int.tmod v12 104) + 104)) 104)]).bind fun (H16 : Heap) =>
 (wr H16 H5.length 4 [.int .u8 (IntKind.wrap .u8 (1 * 2 ^ (min (Int.toNat (IntKind.wrap .u64 (bitsI .and .u8 v13 7))) (IntKind.bits .u8))))]).bind fun (H17 : Heap) =>
 (rdI .i64 H17 H5.length 1).bind fun (v18 : Int) =>
 (rdI .i64 H17 H5.length 2).bind fun (v19 : Int) =>
 (arrAt 1 32 (H1.length, 0) (IntKind.wrap .i64 ((IntKind.wrap .i64 (v18 * 4)) + v19))).bind fun (a20 : (Nat × Nat)) =>
 (rdI .i64 H17 a20.1 a20.2).bind fun (v21 : Int) =>
 cond (decide (v21 < 4)) (
 (arrAt 1 32 (H1.length, 0) (IntKind.wrap .i64 ((IntKind.wrap .i64 (v18 * 4)) + v19))).bind fun (a22 : (Nat × Nat)) =>
 (rdI .i64 H17 a22.1 a22.2).bind fun (v23 : Int) =>
 (arrAt 1 32 (H1.length, 0) (IntKind.wrap .i64 ((IntKind.wrap .i64 (v18 * 4)) + v19))).bind fun (a24 : (Nat × Nat)) =>
 (wr H17 a24.1 a24.2 [.int .i64 (IntKind.wrap .i64 (v23 + 1))]).bind fun (H25 : Heap) =>
 Option.bind (α := (Int × Int × Int × Int × Int × Unit)) (rd H25 (.agg [.int .i64, .int .i64, .int .i64, .int .i64, .int .u8]) H5.length 0) fun (v26 : (Int × Int × Int × Int × Int × Unit)) =>
 let H27 : Heap := H25 ++ [Blk.cells [.int .i64 v26.1, .int .i64 v26.2.1, .int .i64 v26.2.2.1, .int .i64 v26.2.2.2.1, .int .u8 v26.2.2.2.2.1] .exact]
 (slRow H27 5 (⟨some (H25.length, 0), 1, 1⟩)).bind fun (cs28 : (List C)) =>
 (appS H27 5 40 s4.1 1 cs28).bind fun (p29 : (Sl × Heap)) =>
 some (Sum.inl (p29.1, (IntKind.wrap .i64 (s4.2.1 + 1)), ()), p29.2)) (
 some (Sum.inl (s4.1, (IntKind.wrap .i64 (s4.2.1 + 1)), ()), H17)))) (
 some (Sum.inr (s4.1, ()), H5))) (
 some (Sum.inr (s4.1, ()), H5))
noncomputable def law30_noise (x0 : Sl) (H : Heap) : Option ((Sl × Unit) × Heap) :=
 let H1 : Heap := H ++ [Blk.cells [] .exact]
 let H2 : Heap := H1 ++ [Blk.cells [.int .i64 0, .int .i64 0, .int .i64 0, .int .i64 0, .int .i64 0, .int .i64 0, .int .i64 0, .int .i64 0, .int .i64 0, .int .i64 0, .int .i64 0, .int .i64 0, .int .i64 0, .int .i64 0, .int .i64 0, .int .i64 0, .int .i64 0, .int .i64 0, .int .i64 0, .int .i64 0, .int .i64 0, .int .i64 0, .int .i64 0, .int .i64 0, .int .i64 0, .int .i64 0, .int .i64 0, .int .i64 0, .int .i64 0, .int .i64 0, .int .i64 0, .int .i64 0] .exact]
 (wr H2 H1.length 0 [.int .i64 0, .int .i64 0, .int .i64 0, .int .i64 0, .int .i64 0, .int .i64 0, .int .i64 0, .int .i64 0, .int .i64 0, .int .i64 0, .int .i64 0, .int .i64 0, .int .i64 0, .int .i64 0, .int .i64 0, .int .i64 0, .int .i64 0, .int .i64 0, .int .i64 0, .int .i64 0, .int .i64 0, .int .i64 0, .int .i64 0, .int .i64 0, .int .i64 0, .int .i64 0, .int .i64 0, .int .i64 0, .int .i64 0, .int .i64 0, .int .i64 0, .int .i64 0]).bind fun (H3 : Heap) =>
 (loopW (law30_noise.s1 x0 H1) (⟨some (H.length, 0), 0, 0⟩, 0, ()) H3).bind fun (p30 : (Sl × Unit) × Heap) =>
 some ((p30.1.1, ()), p30.2)
noncomputable def law30_noise.c : Callee := .full [.one (.sl 5)] [.one (.sl 5)] (fun x H => law30_noise x.1 H)
noncomputable def law30_noise.calls : Nat → Option Callee
  | _ => none
theorem law30_noise.eq : evFull law30_noise.calls law30_noise.af = (fun x H => law30_noise x.1 H) := by kernel_rfl

/-! ### tinderbox/tinderboxlaw30.text -/
def law30_text.af : AFun := ⟨[.one .str, .one (.int .i64)], [.one .str], [.t 4],
 .seq (.reg [.op ⟨0, some 4, .mv (.c (.one (.str []))), none⟩])
 (.seq (.reg [.op ⟨0, some 6, .mv (.t 0), none⟩,
  .op ⟨1, some 7, .mv (.t 0), none⟩,
  .op ⟨2, some 8, .lens (.t 7), none⟩,
  .op ⟨3, some 9, .mv (.t 1), none⟩,
  .op ⟨4, some 10, .min [(.t 8), (.t 9)], none⟩,
  .op ⟨5, some 11, .slstr (.t 6) none (some (.t 10)), none⟩,
  .op ⟨6, some 12, .s2b (.t 11), none⟩,
  .op ⟨7, some 5, .mv (.t 12), none⟩])
 (.seq (.block 0 (.loop [(5, .one (.sl 1))] [(.exit 0, [(5, .one (.sl 1))])] (.seq (.seq (.reg [.op ⟨0, some 13, .mv (.t 5), none⟩,
  .op ⟨1, some 14, .len (.t 13), none⟩,
  .op ⟨2, some 15, .mv (.t 1), none⟩,
  .op ⟨3, some 16, .bin .lss (.t 14) (.t 15), none⟩])
 (.cond (.t 16) (.skip) (.exit 0)))
 (.block 1 (.reg [.op ⟨0, some 17, .mv (.t 5), none⟩,
  .op ⟨1, some 18, .mv (.t 5), none⟩,
  .op ⟨2, some 19, .len (.t 18), none⟩,
  .op ⟨3, some 20, .bin .mul (.c (.one (.int .i64 7))) (.t 19), none⟩,
  .op ⟨4, some 21, .conv .u8 (.t 20), none⟩,
  .op ⟨5, some 22, .bslice 1 1 [.int .u8 0] [(0, 1, (.t 21))], none⟩,
  .op ⟨6, some 23, .app 1 1 (.t 17) (.t 22), none⟩,
  .op ⟨7, some 5, .mv (.t 23), none⟩])))))
 (.seq (.reg [.op ⟨0, some 24, .mv (.t 5), none⟩,
  .op ⟨1, some 25, .b2s (.t 24), none⟩,
  .op ⟨2, some 4, .mv (.t 25), none⟩])
 (.ret))))⟩
noncomputable def law30_text.s1 (x1 : Int) (s3 : (Sl × Unit)) (H4 : Heap) : Option (((Sl × Unit) ⊕ (Sl × Unit)) × Heap) :=
 cond (decide ((s3.1.len : Int) < x1)) (
 let H5 : Heap := H4 ++ [Blk.cells [.int .u8 (IntKind.wrap .u8 (IntKind.wrap .i64 (7 * (s3.1.len : Int))))] .exact]
 (slRow H5 1 (⟨some (H4.length, 0), 1, 1⟩)).bind fun (cs6 : (List C)) =>
 (appS H5 1 1 s3.1 1 cs6).bind fun (p7 : (Sl × Heap)) =>
 some (Sum.inl (p7.1, ()), p7.2)) (
 some (Sum.inr (s3.1, ()), H4))
noncomputable def law30_text.on (x0 : Bytes) (x1 : Int) (H : Heap) : Option (Bytes × Unit) :=
 (subS x0 0 (if x1 < (List.length (x0 : Bytes) : Int) then x1 else (List.length (x0 : Bytes) : Int))).bind fun (s1 : Bytes) =>
 let H2 : Heap := H ++ [Blk.cells (cellsOf s1) .loose]
 (loopW (law30_text.s1 x1) (⟨some (H.length, 0), (List.length (s1 : Bytes)), (List.length (s1 : Bytes))⟩, ()) H2).bind fun (p8 : (Sl × Unit) × Heap) =>
 (strOf p8.2 p8.1.1).bind fun (s9 : Bytes) =>
 some (s9, ())
noncomputable def law30_text (x0 : Bytes) (x1 : Int) : Option (Bytes × Unit) := law30_text.on x0 x1 []
noncomputable def law30_text.c : Callee := .pure [.one .str, .one (.int .i64)] [.one .str] (fun x => law30_text x.1 x.2.1)
noncomputable def law30_text.calls : Nat → Option Callee
  | _ => none
theorem law30_text.eq : evPure law30_text.calls law30_text.af = (fun x H => law30_text.on x.1 x.2.1 H) := by kernel_rfl

/-! ### tinderbox/tinderboxlaw30.awake -/
def law30_awake.af : AFun := ⟨[], [.one .bool], [.t 0],
 .seq (.reg [.op ⟨0, some 0, .mv (.c (.one (.bool false))), none⟩])
 (.seq (.reg [.op ⟨0, some 7, .call 0 [], none⟩,
  .op ⟨1, some 8, .build [.sl 3 Sl.nil, .sl 1 Sl.nil, .sl 1 Sl.nil] [], none⟩,
  .op ⟨2, some 9, .build [.int .i64 0, .int .i64 0, .int .i64 0, .int .i64 0, .int .u8 0] [(0, 1, (.c (.one (.int .i64 1)))), (1, 1, (.c (.one (.int .i64 2)))), (3, 1, (.c (.one (.int .i64 5)))), (4, 1, (.c (.one (.int .u8 9))))], none⟩,
  .op ⟨3, some 10, .bslice 5 1 [.int .i64 0, .int .i64 0, .int .i64 0, .int .i64 0, .int .u8 0] [(0, 5, (.t 9))], none⟩,
  .op ⟨4, some 11, .call 1 [(.t 7), (.t 8), (.t 10), (.c (.one (.int .i64 1)))], none⟩,
  .op ⟨5, some 6, .mv (.t 11), none⟩,
  .op ⟨6, some 12, .ext (.t 6) 0, none⟩,
  .op ⟨7, some 13, .ext (.t 6) 1, none⟩,
  .op ⟨8, some 1, .mv (.t 12), none⟩,
  .op ⟨9, some 2, .mv (.t 13), none⟩])
 (.seq (.seq (.reg [.op ⟨0, some 14, .mv (.t 2), none⟩,
  .op ⟨1, some 15, .bin .neq (.t 14) (.c (.one (.int .i64 0))), none⟩,
  .op ⟨2, some 16, .mv (.t 15), none⟩,
  .op ⟨3, some 17, .mv (.t 1), some (16, false)⟩,
  .op ⟨4, some 18, .call 2 [(.c (.one (.str [97, 98, 99]))), (.c (.one (.int .i64 64)))], some (16, false)⟩,
  .op ⟨5, some 19, .call 2 [(.c (.one (.str [100]))), (.c (.one (.int .i64 32)))], some (16, false)⟩,
  .op ⟨6, some 20, .call 3 [(.t 17), (.c (.one (.int .i64 2))), (.c (.one (.int .i64 0))), (.t 18), (.t 19)], some (16, false)⟩,
  .op ⟨7, some 21, .bin .neq (.t 20) (.c (.one (.int .i64 0))), some (16, false)⟩,
  .op ⟨8, some 22, .pick (.t 16) (.c (.one (.bool true))) (.t 21), none⟩])
 (.cond (.t 22) (.seq (.reg [.op ⟨0, some 0, .mv (.c (.one (.bool false))), none⟩])
 (.ret)) (.skip)))
 (.seq (.reg [.op ⟨0, some 24, .mv (.t 1), none⟩,
  .op ⟨1, some 25, .call 4 [(.t 24), (.c (.one (.int .i64 2))), (.c (.one (.int .i64 0)))], none⟩,
  .op ⟨2, some 23, .mv (.t 25), none⟩,
  .op ⟨3, some 26, .ext (.t 23) 0, none⟩,
  .op ⟨4, some 27, .ext (.t 23) 1, none⟩,
  .op ⟨5, some 28, .ext (.t 23) 2, none⟩,
  .op ⟨6, some 3, .mv (.t 26), none⟩,
  .op ⟨7, some 4, .mv (.t 27), none⟩,
  .op ⟨8, some 5, .mv (.t 28), none⟩])
 (.seq (.reg [.op ⟨0, some 29, .mv (.t 5), none⟩,
  .op ⟨1, some 30, .bin .eql (.t 29) (.c (.one (.int .i64 0))), none⟩,
  .op ⟨2, some 31, .mv (.t 30), none⟩,
  .op ⟨3, some 32, .mv (.t 3), some (31, true)⟩,
  .op ⟨4, some 33, .call 2 [(.c (.one (.str [97, 98, 99]))), (.c (.one (.int .i64 64)))], some (31, true)⟩,
  .op ⟨5, some 34, .bin .eql (.t 32) (.t 33), some (31, true)⟩,
  .op ⟨6, some 35, .pick (.t 31) (.t 34) (.c (.one (.bool false))), none⟩,
  .op ⟨7, some 36, .mv (.t 35), none⟩,
  .op ⟨8, some 37, .mv (.t 1), some (36, true)⟩,
  .op ⟨9, some 38, .call 5 [(.t 37)], some (36, true)⟩,
  .op ⟨10, some 39, .field (.one (.int .i64)) 0 (.t 38), some (36, true)⟩,
  .op ⟨11, some 40, .bin .eql (.t 39) (.c (.one (.int .i64 1))), some (36, true)⟩,
  .op ⟨12, some 41, .pick (.t 36) (.t 40) (.c (.one (.bool false))), none⟩,
  .op ⟨13, some 42, .mv (.t 41), none⟩,
  .op ⟨14, some 43, .mv (.t 1), some (42, true)⟩,
  .op ⟨15, some 44, .call 6 [(.t 43)], some (42, true)⟩,
  .op ⟨16, some 45, .bin .eql (.t 44) (.c (.one (.int .i64 1))), some (42, true)⟩,
  .op ⟨17, some 46, .pick (.t 42) (.t 45) (.c (.one (.bool false))), none⟩,
  .op ⟨18, some 0, .mv (.t 46), none⟩])
 (.ret)))))⟩
noncomputable def law30_awake.on (H : Heap) : Option (Bool × Unit) :=
 (law30_geometry).bind fun (r1 : ((Int × Int × Int × Unit) × Unit)) =>
 let H2 : Heap := H ++ [Blk.cells [.int .i64 1, .int .i64 2, .int .i64 0, .int .i64 5, .int .u8 9] .exact]
 (cell_New (r1.1.1, r1.1.2.1, r1.1.2.2.1, ()) (⟨none, 0, 0⟩, ⟨none, 0, 0⟩, ⟨none, 0, 0⟩, ()) (⟨some (H.length, 0), 1, 1⟩) 1 H2).bind fun (r3 : ((Ptr × Int × Unit) × Heap)) =>
 cond (!decide (r3.1.2.1 = 0)) (
 some (false, ())) (
 (law30_text [97, 98, 99] 64).bind fun (r4 : (Bytes × Unit)) =>
 (law30_text [100] 32).bind fun (r5 : (Bytes × Unit)) =>
 (cell_Cells_Program r3.1.1 2 0 r4.1 r5.1 r3.2).bind fun (r6 : ((Int × Unit) × Heap)) =>
 cond (!decide (r6.1.1 = 0)) (
 some (false, ())) (
 (cell_Cells_Read r3.1.1 2 0 r6.2).bind fun (r7 : ((Bytes × Bytes × Int × Unit) × Heap)) =>
 cond (decide (r7.1.2.2.1 = 0)) (
 (law30_text [97, 98, 99] 64).bind fun (r8 : (Bytes × Unit)) =>
 cond (decide ((r7.1.1 : Bytes) = r8.1)) (
 (cell_Cells_Health r3.1.1 r7.2).bind fun (r9 : (((Int × Bool × Unit) × Unit) × Heap)) =>
 cond (decide (r9.1.1.1 = 1)) (
 (cell_Cells_Reads r3.1.1 r9.2).bind fun (r10 : ((Int × Unit) × Heap)) =>
 some ((decide (r10.1.1 = 1)), ())) (
 some (false, ()))) (
 some (false, ()))) (
 some (false, ()))))
noncomputable def law30_awake  : Option (Bool × Unit) := law30_awake.on []
noncomputable def law30_awake.c : Callee := .pure [] [.one .bool] (fun _ => law30_awake)
noncomputable def law30_awake.calls : Nat → Option Callee
  | 0 => some law30_geometry.c
  | 1 => some cell_New.c
  | 2 => some law30_text.c
  | 3 => some cell_Cells_Program.c
  | 4 => some cell_Cells_Read.c
  | 5 => some cell_Cells_Health.c
  | 6 => some cell_Cells_Reads.c
  | _ => none
theorem law30_awake.eq : evPure law30_awake.calls law30_awake.af = (fun _ H => law30_awake.on H) := by kernel_rfl

/-! ### tinderbox/tinderboxlaw30.nearly -/
def law30_nearly.af : AFun := ⟨[.one .ptr, .one (.int .i64), .one (.int .i64)], [.one .bool], [.t 6],
 .seq (.reg [.op ⟨0, some 6, .mv (.c (.one (.bool false))), none⟩])
 (.seq (.reg [.op ⟨0, some 11, .mv (.t 0), none⟩,
  .op ⟨1, some 12, .call 0 [(.t 11)], none⟩,
  .op ⟨2, some 13, .mv (.t 1), none⟩,
  .op ⟨3, some 14, .mv (.t 2), none⟩,
  .op ⟨4, some 15, .call 1 [(.t 12), (.t 13), (.t 14)], none⟩,
  .op ⟨5, some 10, .mv (.t 15), none⟩,
  .op ⟨6, some 16, .ext (.t 10) 0, none⟩,
  .op ⟨7, some 17, .ext (.t 10) 1, none⟩,
  .op ⟨8, some 18, .ext (.t 10) 2, none⟩,
  .op ⟨9, some 7, .mv (.t 16), none⟩,
  .op ⟨10, some 8, .mv (.t 17), none⟩,
  .op ⟨11, some 9, .mv (.t 18), none⟩])
 (.seq (.reg [.op ⟨0, some 19, .mv (.t 9), none⟩,
  .op ⟨1, some 20, .bin .eql (.t 19) (.c (.one (.int .i64 0))), none⟩,
  .op ⟨2, some 21, .mv (.t 20), none⟩,
  .op ⟨3, some 22, .mv (.t 7), some (21, true)⟩,
  .op ⟨4, some 23, .mv (.t 8), some (21, true)⟩,
  .op ⟨5, some 24, .bin .add (.t 22) (.t 23), some (21, true)⟩,
  .op ⟨6, some 25, .call 2 [(.t 24), (.c (.one (.int .i64 40)))], some (21, true)⟩,
  .op ⟨7, some 26, .pick (.t 21) (.t 25) (.c (.one (.bool false))), none⟩,
  .op ⟨8, some 27, .mv (.t 26), none⟩,
  .op ⟨9, some 28, .mv (.t 7), some (27, true)⟩,
  .op ⟨10, some 29, .mv (.t 8), some (27, true)⟩,
  .op ⟨11, some 30, .bin .add (.t 28) (.t 29), some (27, true)⟩,
  .op ⟨12, some 31, .call 2 [(.t 30), (.c (.one (.int .i64 0)))], some (27, true)⟩,
  .op ⟨13, some 32, .un .not (.t 31), some (27, true)⟩,
  .op ⟨14, some 33, .pick (.t 27) (.t 32) (.c (.one (.bool false))), none⟩,
  .op ⟨15, some 6, .mv (.t 33), none⟩])
 (.ret)))⟩
noncomputable def law30_nearly (x0 : Ptr) (x1 : Int) (x2 : Int) (H : Heap) : Option ((Bool × Unit) × Heap) :=
 (cell_Cells_Chip x0 H).bind fun (r1 : ((Ptr × Unit) × Heap)) =>
 (nand_Chip_Read r1.1.1 x1 x2 r1.2).bind fun (r2 : ((Bytes × Bytes × Int × Unit) × Heap)) =>
 cond (decide (r2.1.2.2.1 = 0)) (
 (catS r2.1.1 r2.1.2.1).bind fun (s3 : Bytes) =>
 (weave_Erased s3 40).bind fun (r4 : (Bool × Unit)) =>
 cond r4.1 (
 (catS r2.1.1 r2.1.2.1).bind fun (s5 : Bytes) =>
 (weave_Erased s5 0).bind fun (r6 : (Bool × Unit)) =>
 some (((!r6.1), ()), r2.2)) (
 some ((false, ()), r2.2))) (
 some ((false, ()), r2.2))
noncomputable def law30_nearly.c : Callee := .full [.one .ptr, .one (.int .i64), .one (.int .i64)] [.one .bool] (fun x H => law30_nearly x.1 x.2.1 x.2.2.1 H)
noncomputable def law30_nearly.calls : Nat → Option Callee
  | 0 => some cell_Cells_Chip.c
  | 1 => some nand_Chip_Read.c
  | 2 => some weave_Erased.c
  | _ => none
theorem law30_nearly.eq : evFull law30_nearly.calls law30_nearly.af = (fun x H => law30_nearly x.1 x.2.1 x.2.2.1 H) := by kernel_rfl

/-! ### tinderbox/tinderboxlaw30.CellPlays -/
def law30_CellPlays.af : AFun := ⟨[.agg [.sl 3, .sl 1, .sl 1], .one (.sl 5), .one (.sl 4)], [.one .bool], [.t 6],
 .seq (.reg [.op ⟨0, some 3, .box (.t 0), none⟩,
  .op ⟨1, some 6, .mv (.c (.one (.bool false))), none⟩])
 (.seq (.reg [.op ⟨0, some 22, .addr 1 (.t 3), none⟩,
  .op ⟨1, some 23, .load (.one (.sl 1)) (.t 22), none⟩,
  .op ⟨2, some 24, .addr 1 (.t 3), none⟩,
  .op ⟨3, some 25, .load (.one (.sl 1)) (.t 24), none⟩,
  .op ⟨4, some 26, .len (.t 25), none⟩,
  .op ⟨5, some 27, .min [(.t 26), (.c (.one (.int .i64 3)))], none⟩,
  .op ⟨6, some 28, .slc 1 (.t 23) none (some (.t 27)) none, none⟩,
  .op ⟨7, some 29, .addr 2 (.t 3), none⟩,
  .op ⟨8, some 30, .load (.one (.sl 1)) (.t 29), none⟩,
  .op ⟨9, some 31, .addr 2 (.t 3), none⟩,
  .op ⟨10, some 32, .load (.one (.sl 1)) (.t 31), none⟩,
  .op ⟨11, some 33, .len (.t 32), none⟩,
  .op ⟨12, some 34, .min [(.t 33), (.c (.one (.int .i64 3)))], none⟩,
  .op ⟨13, some 35, .slc 1 (.t 30) none (some (.t 34)) none, none⟩,
  .op ⟨14, some 36, .build [.sl 3 Sl.nil, .sl 1 Sl.nil, .sl 1 Sl.nil] [(1, 1, (.t 28)), (2, 1, (.t 35))], none⟩,
  .op ⟨15, some 7, .new [.sl 3 Sl.nil, .sl 1 Sl.nil, .sl 1 Sl.nil], none⟩,
  .op ⟨16, none, .store 3 (.t 7) (.t 36), none⟩])
 (.seq (.reg [.op ⟨0, some 38, .call 0 [], none⟩,
  .op ⟨1, some 39, .load (.agg [.sl 3, .sl 1, .sl 1]) (.t 7), none⟩,
  .op ⟨2, some 40, .mv (.t 1), none⟩,
  .op ⟨3, some 41, .call 1 [(.t 40)], none⟩,
  .again ⟨1, some 39, .load (.agg [.sl 3, .sl 1, .sl 1]) (.t 7), none⟩,
  .op ⟨4, some 42, .call 2 [(.t 38), (.t 39), (.t 41), (.c (.one (.int .i64 3)))], none⟩,
  .op ⟨5, some 37, .mv (.t 42), none⟩,
  .op ⟨6, some 43, .ext (.t 37) 0, none⟩,
  .op ⟨7, some 44, .ext (.t 37) 1, none⟩,
  .op ⟨8, some 8, .mv (.t 43), none⟩,
  .op ⟨9, some 9, .mv (.t 44), none⟩])
 (.seq (.reg [.op ⟨0, some 46, .call 0 [], none⟩,
  .op ⟨1, some 47, .load (.agg [.sl 3, .sl 1, .sl 1]) (.t 7), none⟩,
  .op ⟨2, some 48, .call 3 [(.t 46), (.t 47)], none⟩,
  .op ⟨3, some 45, .mv (.t 48), none⟩,
  .op ⟨4, some 49, .ext (.t 45) 0, none⟩,
  .op ⟨5, some 50, .ext (.t 45) 1, none⟩,
  .op ⟨6, some 10, .mv (.t 49), none⟩,
  .op ⟨7, some 11, .mv (.t 50), none⟩])
 (.seq (.seq (.reg [.op ⟨0, some 51, .call 4 [], none⟩,
  .op ⟨1, some 52, .un .not (.t 51), none⟩,
  .op ⟨2, some 53, .mv (.t 52), none⟩,
  .op ⟨3, some 54, .mv (.t 9), some (53, false)⟩,
  .op ⟨4, some 55, .bin .neq (.t 54) (.c (.one (.int .i64 0))), some (53, false)⟩,
  .op ⟨5, some 56, .pick (.t 53) (.c (.one (.bool true))) (.t 55), none⟩,
  .op ⟨6, some 57, .mv (.t 56), none⟩,
  .op ⟨7, some 58, .mv (.t 11), some (57, false)⟩,
  .op ⟨8, some 59, .bin .neq (.t 58) (.c (.one (.int .i64 0))), some (57, false)⟩,
  .op ⟨9, some 60, .pick (.t 57) (.c (.one (.bool true))) (.t 59), none⟩])
 (.cond (.t 60) (.seq (.reg [.op ⟨0, some 6, .mv (.c (.one (.bool false))), none⟩])
 (.ret)) (.skip)))
 (.seq (.seq (.reg [.op ⟨0, some 12, .mv (.c (.one (.int .i64 0))), none⟩])
 (.block 0 (.loop [(12, .one (.int .i64))] [(.exit 0, []), (.ret, [(6, .one .bool)])] (.seq (.seq (.reg [.op ⟨0, some 61, .mv (.t 12), none⟩,
  .op ⟨1, some 62, .mv (.t 2), none⟩,
  .op ⟨2, some 63, .len (.t 62), none⟩,
  .op ⟨3, some 64, .bin .lss (.t 61) (.t 63), none⟩,
  .op ⟨4, some 65, .mv (.t 64), none⟩,
  .op ⟨5, some 66, .mv (.t 12), some (65, true)⟩,
  .op ⟨6, some 67, .bin .lss (.t 66) (.c (.one (.int .i64 60))), some (65, true)⟩,
  .op ⟨7, some 68, .pick (.t 65) (.t 67) (.c (.one (.bool false))), none⟩])
 (.cond (.t 68) (.skip) (.exit 0)))
 (.seq (.block 1 (.seq (.reg [.op ⟨0, some 71, .mv (.t 2), none⟩,
  .op ⟨1, some 72, .mv (.t 12), none⟩,
  .op ⟨2, some 73, .idxa 4 (.t 71) (.t 72), none⟩,
  .op ⟨3, some 74, .load (.agg [.int .i64, .int .i64, .int .i64, .str]) (.t 73), none⟩,
  .op ⟨4, some 13, .new [.int .i64 0, .int .i64 0, .int .i64 0, .str []], none⟩,
  .op ⟨5, none, .store 4 (.t 13) (.t 74), none⟩])
 (.seq (.reg [.op ⟨0, some 75, .addr 3 (.t 13), none⟩,
  .op ⟨1, some 76, .load (.one .str) (.t 75), none⟩,
  .op ⟨2, some 77, .call 5 [(.t 76), (.c (.one (.int .i64 64)))], none⟩,
  .op ⟨3, some 78, .addr 3 (.t 13), none⟩,
  .op ⟨4, some 79, .load (.one .str) (.t 78), none⟩,
  .op ⟨5, some 80, .call 5 [(.t 79), (.c (.one (.int .i64 32)))], none⟩,
  .op ⟨6, some 14, .mv (.t 77), none⟩,
  .op ⟨7, some 15, .mv (.t 80), none⟩])
 (.seq (.reg [.op ⟨0, some 81, .addr 0 (.t 13), none⟩,
  .op ⟨1, some 82, .load (.one (.int .i64)) (.t 81), none⟩])
 (.block 2 (.seq (.scope [(.normal, [(134, .one .bool)])] (.seq (.reg [.op ⟨0, some 135, .bin .eql (.t 82) (.c (.one (.int .i64 0))), none⟩,
  .op ⟨1, some 134, .mv (.t 135), none⟩])
 (.cond (.t 134) (.skip) (.reg [.op ⟨0, some 136, .bin .eql (.t 82) (.c (.one (.int .i64 1))), none⟩,
  .op ⟨1, some 134, .mv (.t 136), none⟩]))))
 (.cond (.t 134) (.seq (.reg [.op ⟨0, some 137, .mv (.t 8), none⟩,
  .op ⟨1, some 138, .addr 1 (.t 13), none⟩,
  .op ⟨2, some 139, .load (.one (.int .i64)) (.t 138), none⟩,
  .op ⟨3, some 140, .addr 2 (.t 13), none⟩,
  .op ⟨4, some 141, .load (.one (.int .i64)) (.t 140), none⟩,
  .op ⟨5, some 142, .mv (.t 14), none⟩,
  .op ⟨6, some 143, .mv (.t 15), none⟩,
  .op ⟨8, some 145, .mv (.t 10), none⟩,
  .op ⟨9, some 146, .addr 1 (.t 13), none⟩,
  .op ⟨10, some 147, .load (.one (.int .i64)) (.t 146), none⟩,
  .op ⟨11, some 148, .addr 2 (.t 13), none⟩,
  .op ⟨12, some 149, .load (.one (.int .i64)) (.t 148), none⟩,
  .op ⟨13, some 150, .mv (.t 14), none⟩,
  .op ⟨14, some 151, .mv (.t 15), none⟩,
  .op ⟨7, some 144, .call 6 [(.t 137), (.t 139), (.t 141), (.t 142), (.t 143)], none⟩,
  .again ⟨10, some 147, .load (.one (.int .i64)) (.t 146), none⟩,
  .again ⟨12, some 149, .load (.one (.int .i64)) (.t 148), none⟩,
  .op ⟨15, some 152, .call 7 [(.t 145), (.t 147), (.t 149), (.t 150), (.t 151)], none⟩,
  .op ⟨16, some 153, .bin .neq (.t 144) (.t 152), none⟩])
 (.cond (.t 153) (.seq (.reg [.op ⟨0, some 6, .mv (.c (.one (.bool false))), none⟩])
 (.ret)) (.skip))) (.seq (.reg [.op ⟨0, some 155, .bin .eql (.t 82) (.c (.one (.int .i64 2))), none⟩,
  .op ⟨1, some 154, .mv (.t 155), none⟩])
 (.cond (.t 154) (.seq (.reg [.op ⟨0, some 156, .mv (.t 8), none⟩,
  .op ⟨1, some 157, .addr 1 (.t 13), none⟩,
  .op ⟨2, some 158, .load (.one (.int .i64)) (.t 157), none⟩,
  .op ⟨4, some 160, .mv (.t 10), none⟩,
  .op ⟨5, some 161, .addr 1 (.t 13), none⟩,
  .op ⟨6, some 162, .load (.one (.int .i64)) (.t 161), none⟩,
  .op ⟨3, some 159, .call 8 [(.t 156), (.t 158)], none⟩,
  .again ⟨6, some 162, .load (.one (.int .i64)) (.t 161), none⟩,
  .op ⟨7, some 163, .call 9 [(.t 160), (.t 162)], none⟩,
  .op ⟨8, some 164, .bin .neq (.t 159) (.t 163), none⟩])
 (.cond (.t 164) (.seq (.reg [.op ⟨0, some 6, .mv (.c (.one (.bool false))), none⟩])
 (.ret)) (.skip))) (.seq (.reg [.op ⟨0, some 84, .mv (.t 8), none⟩,
  .op ⟨1, some 85, .addr 1 (.t 13), none⟩,
  .op ⟨2, some 86, .load (.one (.int .i64)) (.t 85), none⟩,
  .op ⟨3, some 87, .addr 2 (.t 13), none⟩,
  .op ⟨4, some 88, .load (.one (.int .i64)) (.t 87), none⟩,
  .op ⟨5, some 89, .call 10 [(.t 84), (.t 86), (.t 88)], none⟩,
  .op ⟨6, some 83, .mv (.t 89), none⟩,
  .op ⟨7, some 90, .ext (.t 83) 0, none⟩,
  .op ⟨8, some 91, .ext (.t 83) 1, none⟩,
  .op ⟨9, some 92, .ext (.t 83) 2, none⟩,
  .op ⟨10, some 16, .mv (.t 90), none⟩,
  .op ⟨11, some 17, .mv (.t 91), none⟩,
  .op ⟨12, some 18, .mv (.t 92), none⟩])
 (.seq (.reg [.op ⟨0, some 94, .mv (.t 10), none⟩,
  .op ⟨1, some 95, .addr 1 (.t 13), none⟩,
  .op ⟨2, some 96, .load (.one (.int .i64)) (.t 95), none⟩,
  .op ⟨3, some 97, .addr 2 (.t 13), none⟩,
  .op ⟨4, some 98, .load (.one (.int .i64)) (.t 97), none⟩,
  .op ⟨5, some 99, .call 11 [(.t 94), (.t 96), (.t 98)], none⟩,
  .op ⟨6, some 93, .mv (.t 99), none⟩,
  .op ⟨7, some 100, .ext (.t 93) 0, none⟩,
  .op ⟨8, some 101, .ext (.t 93) 1, none⟩,
  .op ⟨9, some 102, .ext (.t 93) 2, none⟩,
  .op ⟨10, some 19, .mv (.t 100), none⟩,
  .op ⟨11, some 20, .mv (.t 101), none⟩,
  .op ⟨12, some 21, .mv (.t 102), none⟩])
 (.seq (.scope [(.normal, []), (.ret, [(6, .one .bool)])] (.seq (.reg [.op ⟨0, some 103, .mv (.t 21), none⟩,
  .op ⟨1, some 104, .bin .eql (.t 103) (.c (.one (.int .i64 0))), none⟩,
  .op ⟨2, some 105, .mv (.t 104), none⟩,
  .op ⟨3, some 106, .mv (.t 8), some (105, true)⟩,
  .op ⟨4, some 107, .addr 1 (.t 13), some (105, true)⟩,
  .op ⟨5, some 108, .load (.one (.int .i64)) (.t 107), some (105, true)⟩,
  .op ⟨6, some 109, .addr 2 (.t 13), some (105, true)⟩,
  .op ⟨7, some 110, .load (.one (.int .i64)) (.t 109), some (105, true)⟩,
  .op ⟨8, some 111, .call 12 [(.t 106), (.t 108), (.t 110)], some (105, true)⟩,
  .op ⟨9, some 112, .mv (.t 111), some (105, true)⟩,
  .op ⟨10, some 113, .mv (.t 10), some (112, false)⟩,
  .op ⟨12, some 115, .addr 1 (.t 13), some (112, false)⟩,
  .op ⟨13, some 116, .load (.one (.int .i64)) (.t 115), some (112, false)⟩,
  .op ⟨11, some 114, .call 13 [(.t 113)], some (112, false)⟩,
  .op ⟨14, some 117, .idxa 1 (.t 114) (.t 116), some (112, false)⟩,
  .op ⟨15, some 118, .load (.one .bool) (.t 117), some (112, false)⟩,
  .op ⟨16, some 119, .pick (.t 112) (.c (.one (.bool true))) (.t 118), some (105, true)⟩,
  .op ⟨17, some 120, .pick (.t 105) (.t 119) (.c (.one (.bool false))), none⟩,
  .again ⟨13, some 116, .load (.one (.int .i64)) (.t 115), some (112, false)⟩])
 (.cond (.t 120) (.seq (.reg [.op ⟨0, some 6, .mv (.c (.one (.bool true))), none⟩])
 (.ret)) (.skip))))
 (.seq (.reg [.op ⟨0, some 121, .mv (.t 18), none⟩,
  .op ⟨1, some 122, .mv (.t 21), none⟩,
  .op ⟨2, some 123, .bin .neq (.t 121) (.t 122), none⟩,
  .op ⟨3, some 124, .mv (.t 123), none⟩,
  .op ⟨4, some 125, .mv (.t 16), some (124, false)⟩,
  .op ⟨5, some 126, .mv (.t 19), some (124, false)⟩,
  .op ⟨6, some 127, .bin .neq (.t 125) (.t 126), some (124, false)⟩,
  .op ⟨7, some 128, .pick (.t 124) (.c (.one (.bool true))) (.t 127), none⟩,
  .op ⟨8, some 129, .mv (.t 128), none⟩,
  .op ⟨9, some 130, .mv (.t 17), some (129, false)⟩,
  .op ⟨10, some 131, .mv (.t 20), some (129, false)⟩,
  .op ⟨11, some 132, .bin .neq (.t 130) (.t 131), some (129, false)⟩,
  .op ⟨12, some 133, .pick (.t 129) (.c (.one (.bool true))) (.t 132), none⟩])
 (.cond (.t 133) (.seq (.reg [.op ⟨0, some 6, .mv (.c (.one (.bool false))), none⟩])
 (.ret)) (.skip)))))))))))))))
 (.reg [.op ⟨0, some 69, .mv (.t 12), none⟩,
  .op ⟨1, some 70, .bin .add (.t 69) (.c (.one (.int .i64 1))), none⟩,
  .op ⟨2, some 12, .mv (.t 70), none⟩]))))))
 (.seq (.reg [.op ⟨0, some 6, .mv (.c (.one (.bool true))), none⟩])
 (.ret)))))))⟩
noncomputable def law30_CellPlays.s1 (x2 : Sl) (r14 : ((Ptr × Int × Unit) × Heap)) (r17 : ((Ptr × Int × Unit) × Heap)) (s19 : (Int × Unit)) (H20 : Heap) : Option (((Int × Unit) ⊕ ((Unit) ⊕ (Bool × Unit))) × Heap) :=
 cond (decide (s19.1 < (x2.len : Int))) (
 cond (decide (s19.1 < 60)) (
 (Sl.at 4 x2 s19.1).bind fun (a21 : (Nat × Nat)) =>
 Option.bind (α := (Int × Int × Int × Bytes × Unit)) (rd H20 (.agg [.int .i64, .int .i64, .int .i64, .str]) a21.1 a21.2) fun (v22 : (Int × Int × Int × Bytes × Unit)) =>
 let H23 : Heap := H20 ++ [Blk.cells [.int .i64 0, .int .i64 0, .int .i64 0, .str []] .exact]
 (wr H23 H20.length 0 [.int .i64 v22.1, .int .i64 v22.2.1, .int .i64 v22.2.2.1, .str v22.2.2.2.1]).bind fun (H24 : Heap) =>
 (rdS H24 H20.length 3).bind fun (v25 : Bytes) =>
 (law30_text v25 64).bind fun (r26 : (Bytes × Unit)) =>
 (rdS H24 H20.length 3).bind fun (v27 : Bytes) =>
 (law30_text v27 32).bind fun (r28 : (Bytes × Unit)) =>
 (rdI .i64 H24 H20.length 0).bind fun (v29 : Int) =>
 (cond (decide (v29 = 0)) (
 some (((decide (v29 = 0)), ()), H24)) (
 some (((decide (v29 = 1)), ()), H24)) : Option ((Bool × Unit) × Heap)).bind fun (p30 : (Bool × Unit) × Heap) =>
 cond p30.1.1 (
 (rdI .i64 p30.2 H20.length 1).bind fun (v31 : Int) =>
 (rdI .i64 p30.2 H20.length 2).bind fun (v32 : Int) =>
 (rdI .i64 p30.2 H20.length 1).bind fun (v33 : Int) =>
 (rdI .i64 p30.2 H20.length 2).bind fun (v34 : Int) =>
 (cell_Cells_Program r14.1.1 v31 v32 r26.1 r28.1 p30.2).bind fun (r35 : ((Int × Unit) × Heap)) =>
 (rdI .i64 r35.2 H20.length 1).bind fun (v36 : Int) =>
 if V.w (.one (.int .i64 v36)) = V.w (.one (.int .i64 v33)) then
 (rdI .i64 r35.2 H20.length 2).bind fun (v37 : Int) =>
 if V.w (.one (.int .i64 v37)) = V.w (.one (.int .i64 v34)) then
 (nand_Chip_Program r17.1.1 v33 v34 r26.1 r28.1 r35.2).bind fun (r38 : ((Int × Unit) × Heap)) =>
 cond (!decide (r35.1.1 = r38.1.1)) (
 some (Sum.inr (Sum.inr (false, ())), r38.2)) (
 some (Sum.inl ((IntKind.wrap .i64 (s19.1 + 1)), ()), r38.2))
 else none
 else none) (
 cond (decide (v29 = 2)) (
 (rdI .i64 p30.2 H20.length 1).bind fun (v39 : Int) =>
 (rdI .i64 p30.2 H20.length 1).bind fun (v40 : Int) =>
 (cell_Cells_Erase r14.1.1 v39 p30.2).bind fun (r41 : ((Int × Unit) × Heap)) =>
 (rdI .i64 r41.2 H20.length 1).bind fun (v42 : Int) =>
 if V.w (.one (.int .i64 v42)) = V.w (.one (.int .i64 v40)) then
 (nand_Chip_Erase r17.1.1 v40 r41.2).bind fun (r43 : ((Int × Unit) × Heap)) =>
 cond (!decide (r41.1.1 = r43.1.1)) (
 some (Sum.inr (Sum.inr (false, ())), r43.2)) (
 some (Sum.inl ((IntKind.wrap .i64 (s19.1 + 1)), ()), r43.2))
 else none) (
 (rdI .i64 p30.2 H20.length 1).bind fun (v44 : Int) =>
 (rdI .i64 p30.2 H20.length 2).bind fun (v45 : Int) =>
 (cell_Cells_Read r14.1.1 v44 v45 p30.2).bind fun (r46 : ((Bytes × Bytes × Int × Unit) × Heap)) =>
 (rdI .i64 r46.2 H20.length 1).bind fun (v47 : Int) =>
 (rdI .i64 r46.2 H20.length 2).bind fun (v48 : Int) =>
 (nand_Chip_Read r17.1.1 v47 v48 r46.2).bind fun (r49 : ((Bytes × Bytes × Int × Unit) × Heap)) =>
 (cond (decide (r49.1.2.2.1 = 0)) (
 (rdI .i64 r49.2 H20.length 1).bind fun (v50 : Int) =>
 (rdI .i64 r49.2 H20.length 2).bind fun (v51 : Int) =>
 (law30_nearly r14.1.1 v50 v51 r49.2).bind fun (r52 : ((Bool × Unit) × Heap)) =>
 cond r52.1.1 (
 some (Sum.inr (true, ()), r52.2)) (
 (rdI .i64 r52.2 H20.length 1).bind fun (v53 : Int) =>
 (nand_Chip_Dead r17.1.1 r52.2).bind fun (r54 : ((Sl × Unit) × Heap)) =>
 (Sl.at 1 r54.1.1 v53).bind fun (a55 : (Nat × Nat)) =>
 (rdB r54.2 a55.1 a55.2).bind fun (v56 : Bool) =>
 (rdI .i64 r54.2 H20.length 1).bind fun (v57 : Int) =>
 if V.w (.one (.int .i64 v57)) = V.w (.one (.int .i64 v53)) then
 cond v56 (
 some (Sum.inr (true, ()), r54.2)) (
 some (Sum.inl (()), r54.2))
 else none)) (
 some (Sum.inl (()), r49.2)) : Option (((Unit) ⊕ (Bool × Unit)) × Heap)).bind fun (p58 : ((Unit) ⊕ (Bool × Unit)) × Heap) =>
 Sum.elim (fun (y59 : (Unit)) =>
 cond (!decide (r46.1.2.2.1 = r49.1.2.2.1)) (
 some (Sum.inr (Sum.inr (false, ())), p58.2)) (
 cond (!decide ((r46.1.1 : Bytes) = r49.1.1)) (
 some (Sum.inr (Sum.inr (false, ())), p58.2)) (
 cond (!decide ((r46.1.2.1 : Bytes) = r49.1.2.1)) (
 some (Sum.inr (Sum.inr (false, ())), p58.2)) (
 some (Sum.inl ((IntKind.wrap .i64 (s19.1 + 1)), ()), p58.2))))) (fun (z60 : (Bool × Unit)) =>
 some (Sum.inr (Sum.inr (z60.1, ())), p58.2)) p58.1))) (
 some (Sum.inr (Sum.inl (())), H20))) (
 some (Sum.inr (Sum.inl (())), H20))
noncomputable def law30_CellPlays (x0 : (Sl × Sl × Sl × Unit)) (x1 : Sl) (x2 : Sl) (H : Heap) : Option ((Bool × Unit) × Heap) :=
 let H1 : Heap := H ++ [Blk.cells [.sl 3 x0.1, .sl 1 x0.2.1, .sl 1 x0.2.2.1] .exact]
 (rdSl 1 H1 H.length 1).bind fun (v2 : Sl) =>
 (rdSl 1 H1 H.length 1).bind fun (v3 : Sl) =>
 (Sl.sub 1 v2 0 (if 3 < (v3.len : Int) then 3 else (v3.len : Int)) (v2.cap : Int)).bind fun (t4 : Sl) =>
 (rdSl 1 H1 H.length 2).bind fun (v5 : Sl) =>
 (rdSl 1 H1 H.length 2).bind fun (v6 : Sl) =>
 (Sl.sub 1 v5 0 (if 3 < (v6.len : Int) then 3 else (v6.len : Int)) (v5.cap : Int)).bind fun (t7 : Sl) =>
 let H8 : Heap := H1 ++ [Blk.cells [.sl 3 Sl.nil, .sl 1 Sl.nil, .sl 1 Sl.nil] .exact]
 (wr H8 H1.length 0 [.sl 3 (⟨none, 0, 0⟩), .sl 1 t4, .sl 1 t7]).bind fun (H9 : Heap) =>
 (law30_geometry).bind fun (r10 : ((Int × Int × Int × Unit) × Unit)) =>
 Option.bind (α := (Sl × Sl × Sl × Unit)) (rd H9 (.agg [.sl 3, .sl 1, .sl 1]) H1.length 0) fun (v11 : (Sl × Sl × Sl × Unit)) =>
 (law30_noise x1 H9).bind fun (r12 : ((Sl × Unit) × Heap)) =>
 Option.bind (α := (Sl × Sl × Sl × Unit)) (rd r12.2 (.agg [.sl 3, .sl 1, .sl 1]) H1.length 0) fun (v13 : (Sl × Sl × Sl × Unit)) =>
 if V.w (.agg [.sl 3 v13.1, .sl 1 v13.2.1, .sl 1 v13.2.2.1]) = V.w (.agg [.sl 3 v11.1, .sl 1 v11.2.1, .sl 1 v11.2.2.1]) then
 (cell_New (r10.1.1, r10.1.2.1, r10.1.2.2.1, ()) (v11.1, v11.2.1, v11.2.2.1, ()) r12.1.1 3 r12.2).bind fun (r14 : ((Ptr × Int × Unit) × Heap)) =>
 (law30_geometry).bind fun (r15 : ((Int × Int × Int × Unit) × Unit)) =>
 Option.bind (α := (Sl × Sl × Sl × Unit)) (rd r14.2 (.agg [.sl 3, .sl 1, .sl 1]) H1.length 0) fun (v16 : (Sl × Sl × Sl × Unit)) =>
 (nand_New (r15.1.1, r15.1.2.1, r15.1.2.2.1, ()) (v16.1, v16.2.1, v16.2.2.1, ()) r14.2).bind fun (r17 : ((Ptr × Int × Unit) × Heap)) =>
 (law30_awake).bind fun (r18 : (Bool × Unit)) =>
 cond (!r18.1) (
 some ((false, ()), r17.2)) (
 cond (!decide (r14.1.2.1 = 0)) (
 some ((false, ()), r17.2)) (
 cond (!decide (r17.1.2.1 = 0)) (
 some ((false, ()), r17.2)) (
 (loopW (law30_CellPlays.s1 x2 r14 r17) (0, ()) r17.2).bind fun (p61 : ((Unit) ⊕ (Bool × Unit)) × Heap) =>
 Sum.elim (fun (y62 : (Unit)) =>
 some ((true, ()), p61.2)) (fun (z63 : (Bool × Unit)) =>
 some ((z63.1, ()), p61.2)) p61.1)))
 else none
noncomputable def law30_CellPlays.c : Callee := .full [.agg [.sl 3, .sl 1, .sl 1], .one (.sl 5), .one (.sl 4)] [.one .bool] (fun x H => law30_CellPlays x.1 x.2.1 x.2.2.1 H)
noncomputable def law30_CellPlays.calls : Nat → Option Callee
  | 0 => some law30_geometry.c
  | 1 => some law30_noise.c
  | 2 => some cell_New.c
  | 3 => some nand_New.c
  | 4 => some law30_awake.c
  | 5 => some law30_text.c
  | 6 => some cell_Cells_Program.c
  | 7 => some nand_Chip_Program.c
  | 8 => some cell_Cells_Erase.c
  | 9 => some nand_Chip_Erase.c
  | 10 => some cell_Cells_Read.c
  | 11 => some nand_Chip_Read.c
  | 12 => some law30_nearly.c
  | 13 => some nand_Chip_Dead.c
  | _ => none
theorem law30_CellPlays.eq : evFull law30_CellPlays.calls law30_CellPlays.af = (fun x H => law30_CellPlays x.1 x.2.1 x.2.2.1 H) := by kernel_rfl
end Ev
