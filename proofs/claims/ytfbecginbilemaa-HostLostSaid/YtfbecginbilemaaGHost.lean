/- What the functions of the package Host compute: abstract code, and a function of plain Lean for each; the kernel checks that they are the same. Written by gen2.py. -/
import Derived.Test.YtfbecginbilemaaEvCore
import Derived.Test.YtfbecginbilemaaGBus
import Derived.Test.YtfbecginbilemaaGCode
import Derived.Test.YtfbecginbilemaaGCrc
import Derived.Test.YtfbecginbilemaaGNand
import Derived.KernelRfl
set_option linter.unusedVariables false
set_option maxRecDepth 100000
namespace Ev
open Go (IntKind BinOp UnOp)

/-! ### tinderbox/host.param -/
def host_param.af : AFun := ⟨[.one .str], [.agg [.int .i64, .int .i64, .int .i64], .one .bool], [.cell 2, .t 3],
 .seq (.reg [.op ⟨0, some 2, .new [.int .i64 0, .int .i64 0, .int .i64 0], none⟩,
  .op ⟨1, some 3, .mv (.c (.one (.bool false))), none⟩])
 (.seq (.reg [.op ⟨0, some 9, .mv (.t 0), none⟩,
  .op ⟨1, some 10, .call 0 [(.t 9)], none⟩,
  .op ⟨2, some 4, .mv (.t 10), none⟩])
 (.seq (.reg [.op ⟨0, some 11, .mv (.t 4), none⟩,
  .op ⟨1, some 12, .call 1 [(.t 11), (.c (.one (.int .i64 3)))], none⟩])
 (.seq (.reg [.op ⟨0, some 13, .mv (.t 4), none⟩,
  .op ⟨1, some 14, .call 2 [(.t 13), (.c (.one (.int .i64 4)))], none⟩,
  .op ⟨2, some 15, .conv .i64 (.t 14), none⟩,
  .op ⟨3, some 16, .mv (.t 4), none⟩,
  .op ⟨4, some 17, .call 2 [(.t 16), (.c (.one (.int .i64 4)))], none⟩,
  .op ⟨5, some 18, .conv .i64 (.t 17), none⟩,
  .op ⟨6, some 19, .mv (.t 4), none⟩,
  .op ⟨7, some 20, .call 2 [(.t 19), (.c (.one (.int .i64 4)))], none⟩,
  .op ⟨8, some 21, .conv .i64 (.t 20), none⟩,
  .op ⟨9, some 22, .build [.int .i64 0, .int .i64 0, .int .i64 0] [(0, 1, (.t 15)), (1, 1, (.t 18)), (2, 1, (.t 21))], none⟩,
  .op ⟨10, some 5, .new [.int .i64 0, .int .i64 0, .int .i64 0], none⟩,
  .op ⟨11, none, .store 3 (.t 5) (.t 22), none⟩])
 (.seq (.reg [.op ⟨0, some 23, .mv (.t 4), none⟩,
  .op ⟨1, some 24, .call 2 [(.t 23), (.c (.one (.int .i64 2)))], none⟩,
  .op ⟨2, some 6, .mv (.t 24), none⟩])
 (.seq (.reg [.op ⟨0, some 25, .mv (.t 0), none⟩,
  .op ⟨1, some 26, .lens (.t 25), none⟩,
  .op ⟨2, some 27, .bin .sub (.t 26) (.c (.one (.int .i64 4))), none⟩,
  .op ⟨3, some 7, .mv (.t 27), none⟩])
 (.seq (.reg [.op ⟨0, some 28, .mv (.t 0), none⟩,
  .op ⟨1, some 29, .mv (.t 7), none⟩,
  .op ⟨2, some 30, .slstr (.t 28) none (some (.t 29)), none⟩,
  .op ⟨3, some 31, .call 3 [(.t 30)], none⟩,
  .op ⟨4, some 32, .conv .u64 (.t 31), none⟩,
  .op ⟨5, some 33, .mv (.t 0), none⟩,
  .op ⟨6, some 34, .mv (.t 7), none⟩,
  .op ⟨7, some 35, .slstr (.t 33) (some (.t 34)) none, none⟩,
  .op ⟨8, some 36, .call 0 [(.t 35)], none⟩,
  .op ⟨9, some 37, .call 2 [(.t 36), (.c (.one (.int .i64 4)))], none⟩,
  .op ⟨10, some 38, .bin .eql (.t 32) (.t 37), none⟩,
  .op ⟨11, some 8, .mv (.t 38), none⟩])
 (.seq (.reg [.op ⟨0, some 39, .load (.agg [.int .i64, .int .i64, .int .i64]) (.t 5), none⟩,
  .op ⟨1, some 40, .mv (.t 8), none⟩,
  .op ⟨2, some 41, .mv (.t 40), none⟩,
  .op ⟨3, some 42, .mv (.t 6), some (41, true)⟩,
  .op ⟨4, some 43, .bin .eql (.t 42) (.c (.one (.int .u64 32))), some (41, true)⟩,
  .op ⟨5, some 44, .pick (.t 41) (.t 43) (.c (.one (.bool false))), none⟩,
  .op ⟨6, none, .store 3 (.t 2) (.t 39), none⟩,
  .op ⟨7, some 3, .mv (.t 44), none⟩])
 (.ret))))))))⟩
noncomputable def host_param.on (x0 : Bytes) (H : Heap) : Option ((Int × Int × Int × Unit) × Bool × Unit) :=
 let H1 : Heap := H ++ [Blk.cells [.int .i64 0, .int .i64 0, .int .i64 0] .exact]
 (code_New x0 H1).bind fun (r2 : ((Ptr × Unit) × Heap)) =>
 (code_Reader_Bytes r2.1.1 3 r2.2).bind fun (r3 : ((Bytes × Unit) × Heap)) =>
 (code_Reader_Fixed r2.1.1 4 r3.2).bind fun (r4 : ((Int × Unit) × Heap)) =>
 (code_Reader_Fixed r2.1.1 4 r4.2).bind fun (r5 : ((Int × Unit) × Heap)) =>
 (code_Reader_Fixed r2.1.1 4 r5.2).bind fun (r6 : ((Int × Unit) × Heap)) =>
 let H7 : Heap := r6.2 ++ [Blk.cells [.int .i64 0, .int .i64 0, .int .i64 0] .exact]
 (wr H7 r6.2.length 0 [.int .i64 (IntKind.wrap .i64 r4.1.1), .int .i64 (IntKind.wrap .i64 r5.1.1), .int .i64 (IntKind.wrap .i64 r6.1.1)]).bind fun (H8 : Heap) =>
 (code_Reader_Fixed r2.1.1 2 H8).bind fun (r9 : ((Int × Unit) × Heap)) =>
 (subS x0 0 (IntKind.wrap .i64 ((List.length (x0 : Bytes) : Int) - 4))).bind fun (s10 : Bytes) =>
 (crc_Sum s10).bind fun (r11 : (Int × Unit)) =>
 (subS x0 (IntKind.wrap .i64 ((List.length (x0 : Bytes) : Int) - 4)) (List.length (x0 : Bytes) : Int)).bind fun (s12 : Bytes) =>
 (code_New s12 r9.2).bind fun (r13 : ((Ptr × Unit) × Heap)) =>
 (code_Reader_Fixed r13.1.1 4 r13.2).bind fun (r14 : ((Int × Unit) × Heap)) =>
 Option.bind (α := (Int × Int × Int × Unit)) (rd r14.2 (.agg [.int .i64, .int .i64, .int .i64]) r6.2.length 0) fun (v15 : (Int × Int × Int × Unit)) =>
 cond (decide ((IntKind.wrap .u64 r11.1) = r14.1.1)) (
 (wr r14.2 H.length 0 [.int .i64 v15.1, .int .i64 v15.2.1, .int .i64 v15.2.2.1]).bind fun (H16 : Heap) =>
 Option.bind (α := (Int × Int × Int × Unit)) (rd H16 (.agg [.int .i64, .int .i64, .int .i64]) H.length 0) fun (v17 : (Int × Int × Int × Unit)) =>
 some (v17, (decide (r9.1.1 = 32)), ())) (
 (wr r14.2 H.length 0 [.int .i64 v15.1, .int .i64 v15.2.1, .int .i64 v15.2.2.1]).bind fun (H18 : Heap) =>
 Option.bind (α := (Int × Int × Int × Unit)) (rd H18 (.agg [.int .i64, .int .i64, .int .i64]) H.length 0) fun (v19 : (Int × Int × Int × Unit)) =>
 some (v19, false, ()))
noncomputable def host_param (x0 : Bytes) : Option ((Int × Int × Int × Unit) × Bool × Unit) := host_param.on x0 []
noncomputable def host_param.c : Callee := .pure [.one .str] [.agg [.int .i64, .int .i64, .int .i64], .one .bool] (fun x => host_param x.1)
noncomputable def host_param.calls : Nat → Option Callee
  | 0 => some code_New.c
  | 1 => some code_Reader_Bytes.c
  | 2 => some code_Reader_Fixed.c
  | 3 => some crc_Sum.c
  | _ => none
theorem host_param.eq : evPure host_param.calls host_param.af = (fun x H => host_param.on x.1 H) := by kernel_rfl

/-! ### tinderbox/host.majority -/
def host_majority.af : AFun := ⟨[.one .str, .one (.int .i64)], [.one .str], [.t 4],
 .seq (.reg [.op ⟨0, some 4, .mv (.c (.one (.str []))), none⟩])
 (.seq (.reg [.op ⟨0, some 10, .mv (.t 1), none⟩,
  .op ⟨1, some 11, .mk 1 1 [.int .u8 0] (.t 10) (.t 10), none⟩,
  .op ⟨2, some 5, .mv (.t 11), none⟩])
 (.seq (.seq (.reg [.op ⟨0, some 12, .mv (.t 5), none⟩,
  .op ⟨1, some 13, .len (.t 12), none⟩,
  .op ⟨2, some 14, .mv (.c (.one (.int .i64 0))), none⟩])
 (.block 0 (.loop [(14, .one (.int .i64))] [(.exit 0, [])] (.seq (.reg [.op ⟨0, some 15, .bin .lss (.t 14) (.t 13), none⟩])
 (.seq (.cond (.t 15) (.skip) (.exit 0))
 (.seq (.block 1 (.seq (.reg [.op ⟨0, some 16, .mv (.t 14), none⟩,
  .op ⟨1, some 6, .mv (.t 16), none⟩])
 (.seq (.reg [.op ⟨0, some 17, .mv (.t 0), none⟩,
  .op ⟨1, some 18, .mv (.t 6), none⟩,
  .op ⟨2, some 19, .index (.t 17) (.t 18), none⟩,
  .op ⟨3, some 20, .mv (.t 0), none⟩,
  .op ⟨4, some 21, .mv (.t 6), none⟩,
  .op ⟨5, some 22, .mv (.t 1), none⟩,
  .op ⟨6, some 23, .bin .add (.t 21) (.t 22), none⟩,
  .op ⟨7, some 24, .index (.t 20) (.t 23), none⟩,
  .op ⟨8, some 25, .mv (.t 0), none⟩,
  .op ⟨9, some 26, .mv (.t 6), none⟩,
  .op ⟨10, some 27, .mv (.t 1), none⟩,
  .op ⟨11, some 28, .bin .mul (.c (.one (.int .i64 2))) (.t 27), none⟩,
  .op ⟨12, some 29, .bin .add (.t 26) (.t 28), none⟩,
  .op ⟨13, some 30, .index (.t 25) (.t 29), none⟩,
  .op ⟨14, some 7, .mv (.t 19), none⟩,
  .op ⟨15, some 8, .mv (.t 24), none⟩,
  .op ⟨16, some 9, .mv (.t 30), none⟩])
 (.reg [.op ⟨0, some 31, .mv (.t 5), none⟩,
  .op ⟨1, some 32, .mv (.t 6), none⟩,
  .op ⟨2, some 33, .mv (.t 7), none⟩,
  .op ⟨3, some 34, .mv (.t 8), none⟩,
  .op ⟨4, some 35, .bin .and (.t 33) (.t 34), none⟩,
  .op ⟨5, some 36, .mv (.t 7), none⟩,
  .op ⟨6, some 37, .mv (.t 9), none⟩,
  .op ⟨7, some 38, .bin .and (.t 36) (.t 37), none⟩,
  .op ⟨8, some 39, .bin .or (.t 35) (.t 38), none⟩,
  .op ⟨9, some 40, .mv (.t 8), none⟩,
  .op ⟨10, some 41, .mv (.t 9), none⟩,
  .op ⟨11, some 42, .bin .and (.t 40) (.t 41), none⟩,
  .op ⟨12, some 43, .bin .or (.t 39) (.t 42), none⟩,
  .op ⟨13, some 44, .idxa 1 (.t 31) (.t 32), none⟩,
  .op ⟨14, none, .store 1 (.t 44) (.t 43), none⟩]))))
 (.reg [.op ⟨0, some 45, .bin .add (.t 14) (.c (.one (.int .i64 1))), none⟩,
  .op ⟨1, some 14, .mv (.t 45), none⟩])))))))
 (.seq (.reg [.op ⟨0, some 46, .mv (.t 5), none⟩,
  .op ⟨1, some 47, .b2s (.t 46), none⟩,
  .op ⟨2, some 4, .mv (.t 47), none⟩])
 (.ret))))⟩
noncomputable def host_majority.s1 (x0 : Bytes) (x1 : Int) (p1 : (Sl × Heap)) (s2 : (Int × Unit)) (H3 : Heap) : Option (((Int × Unit) ⊕ (Unit)) × Heap) :=
 cond (decide (s2.1 < (p1.1.len : Int))) (
 (idxS x0 s2.1).bind fun (n4 : Int) =>
 (idxS x0 (IntKind.wrap .i64 (s2.1 + x1))).bind fun (n5 : Int) =>
 (idxS x0 (IntKind.wrap .i64 (s2.1 + (IntKind.wrap .i64 (2 * x1))))).bind fun (n6 : Int) =>
 (Sl.at 1 p1.1 s2.1).bind fun (a7 : (Nat × Nat)) =>
 (wr H3 a7.1 a7.2 [.int .u8 (bitsI .or .u8 (bitsI .or .u8 (bitsI .and .u8 n4 n5) (bitsI .and .u8 n4 n6)) (bitsI .and .u8 n5 n6))]).bind fun (H8 : Heap) =>
 some (Sum.inl ((IntKind.wrap .i64 (s2.1 + 1)), ()), H8)) (
 some (Sum.inr (()), H3))
noncomputable def host_majority.on (x0 : Bytes) (x1 : Int) (H : Heap) : Option (Bytes × Unit) :=
 (mkS H 1 [.int .u8 0] x1 x1).bind fun (p1 : (Sl × Heap)) =>
 (loopW (host_majority.s1 x0 x1 p1) (0, ()) p1.2).bind fun (p9 : (Unit) × Heap) =>
 (strOf p9.2 p1.1).bind fun (s10 : Bytes) =>
 some (s10, ())
noncomputable def host_majority (x0 : Bytes) (x1 : Int) : Option (Bytes × Unit) := host_majority.on x0 x1 []
noncomputable def host_majority.c : Callee := .pure [.one .str, .one (.int .i64)] [.one .str] (fun x => host_majority x.1 x.2.1)
noncomputable def host_majority.calls : Nat → Option Callee
  | _ => none
theorem host_majority.eq : evPure host_majority.calls host_majority.af = (fun x H => host_majority.on x.1 x.2.1 H) := by kernel_rfl

/-! ### tinderbox/host.Params -/
def host_Params.af : AFun := ⟨[.one .str], [.agg [.int .i64, .int .i64, .int .i64], .one .bool], [.cell 2, .t 3],
 .seq (.reg [.op ⟨0, some 2, .new [.int .i64 0, .int .i64 0, .int .i64 0], none⟩,
  .op ⟨1, some 3, .mv (.c (.one (.bool false))), none⟩])
 (.seq (.seq (.reg [.op ⟨0, some 9, .mv (.t 0), none⟩,
  .op ⟨1, some 10, .lens (.t 9), none⟩,
  .op ⟨2, some 11, .bin .neq (.t 10) (.c (.one (.int .i64 72))), none⟩])
 (.cond (.t 11) (.seq (.reg [.op ⟨0, some 12, .build [.int .i64 0, .int .i64 0, .int .i64 0] [], none⟩,
  .op ⟨1, none, .store 3 (.t 2) (.t 12), none⟩,
  .op ⟨2, some 3, .mv (.c (.one (.bool false))), none⟩])
 (.ret)) (.skip)))
 (.seq (.seq (.reg [.op ⟨0, some 13, .mv (.c (.one (.int .i64 0))), none⟩])
 (.block 0 (.loop [(13, .one (.int .i64))] [(.exit 0, []), (.ret, [(3, .one .bool)])] (.seq (.reg [.op ⟨0, some 14, .bin .lss (.t 13) (.c (.one (.int .i64 3))), none⟩])
 (.seq (.cond (.t 14) (.skip) (.exit 0))
 (.seq (.block 1 (.seq (.reg [.op ⟨0, some 15, .mv (.t 13), none⟩,
  .op ⟨1, some 4, .mv (.t 15), none⟩])
 (.seq (.reg [.op ⟨0, some 17, .mv (.t 0), none⟩,
  .op ⟨1, some 18, .mv (.t 4), none⟩,
  .op ⟨2, some 19, .bin .mul (.t 18) (.c (.one (.int .i64 24))), none⟩,
  .op ⟨3, some 20, .mv (.t 4), none⟩,
  .op ⟨4, some 21, .bin .add (.t 20) (.c (.one (.int .i64 1))), none⟩,
  .op ⟨5, some 22, .bin .mul (.t 21) (.c (.one (.int .i64 24))), none⟩,
  .op ⟨6, some 23, .slstr (.t 17) (some (.t 19)) (some (.t 22)), none⟩,
  .op ⟨7, some 24, .call 0 [(.t 23)], none⟩,
  .op ⟨8, some 16, .mv (.t 24), none⟩,
  .op ⟨9, some 25, .ext (.t 16) 0, none⟩,
  .op ⟨10, some 26, .ext (.t 16) 1, none⟩,
  .op ⟨11, some 5, .new [.int .i64 0, .int .i64 0, .int .i64 0], none⟩,
  .op ⟨12, none, .store 3 (.t 5) (.t 25), none⟩,
  .op ⟨13, some 6, .mv (.t 26), none⟩])
 (.seq (.reg [.op ⟨0, some 27, .mv (.t 6), none⟩])
 (.cond (.t 27) (.seq (.reg [.op ⟨0, some 28, .load (.agg [.int .i64, .int .i64, .int .i64]) (.t 5), none⟩,
  .op ⟨1, none, .store 3 (.t 2) (.t 28), none⟩,
  .op ⟨2, some 3, .mv (.c (.one (.bool true))), none⟩])
 (.ret)) (.skip))))))
 (.reg [.op ⟨0, some 29, .bin .add (.t 13) (.c (.one (.int .i64 1))), none⟩,
  .op ⟨1, some 13, .mv (.t 29), none⟩])))))))
 (.seq (.reg [.op ⟨0, some 31, .mv (.t 0), none⟩,
  .op ⟨1, some 32, .call 1 [(.t 31), (.c (.one (.int .i64 24)))], none⟩,
  .op ⟨2, some 33, .call 0 [(.t 32)], none⟩,
  .op ⟨3, some 30, .mv (.t 33), none⟩,
  .op ⟨4, some 34, .ext (.t 30) 0, none⟩,
  .op ⟨5, some 35, .ext (.t 30) 1, none⟩,
  .op ⟨6, some 7, .new [.int .i64 0, .int .i64 0, .int .i64 0], none⟩,
  .op ⟨7, none, .store 3 (.t 7) (.t 34), none⟩,
  .op ⟨8, some 8, .mv (.t 35), none⟩])
 (.seq (.seq (.reg [.op ⟨0, some 36, .mv (.t 8), none⟩,
  .op ⟨1, some 37, .un .not (.t 36), none⟩])
 (.cond (.t 37) (.seq (.reg [.op ⟨0, some 38, .build [.int .i64 0, .int .i64 0, .int .i64 0] [], none⟩,
  .op ⟨1, none, .store 3 (.t 2) (.t 38), none⟩,
  .op ⟨2, some 3, .mv (.c (.one (.bool false))), none⟩])
 (.ret)) (.skip)))
 (.seq (.reg [.op ⟨0, some 39, .load (.agg [.int .i64, .int .i64, .int .i64]) (.t 7), none⟩,
  .op ⟨1, none, .store 3 (.t 2) (.t 39), none⟩,
  .op ⟨2, some 3, .mv (.c (.one (.bool true))), none⟩])
 (.ret))))))⟩
noncomputable def host_Params.s1 (x0 : Bytes) (H : Heap) (s4 : (Int × Unit)) (H5 : Heap) : Option (((Int × Unit) ⊕ ((Unit) ⊕ (Bool × Unit))) × Heap) :=
 cond (decide (s4.1 < 3)) (
 (subS x0 (IntKind.wrap .i64 (s4.1 * 24)) (IntKind.wrap .i64 ((IntKind.wrap .i64 (s4.1 + 1)) * 24))).bind fun (s6 : Bytes) =>
 (host_param s6).bind fun (r7 : ((Int × Int × Int × Unit) × Bool × Unit)) =>
 let H8 : Heap := H5 ++ [Blk.cells [.int .i64 0, .int .i64 0, .int .i64 0] .exact]
 (wr H8 H5.length 0 [.int .i64 r7.1.1, .int .i64 r7.1.2.1, .int .i64 r7.1.2.2.1]).bind fun (H9 : Heap) =>
 cond r7.2.1 (
 Option.bind (α := (Int × Int × Int × Unit)) (rd H9 (.agg [.int .i64, .int .i64, .int .i64]) H5.length 0) fun (v10 : (Int × Int × Int × Unit)) =>
 (wr H9 H.length 0 [.int .i64 v10.1, .int .i64 v10.2.1, .int .i64 v10.2.2.1]).bind fun (H11 : Heap) =>
 some (Sum.inr (Sum.inr (true, ())), H11)) (
 some (Sum.inl ((IntKind.wrap .i64 (s4.1 + 1)), ()), H9))) (
 some (Sum.inr (Sum.inl (())), H5))
noncomputable def host_Params.on (x0 : Bytes) (H : Heap) : Option ((Int × Int × Int × Unit) × Bool × Unit) :=
 let H1 : Heap := H ++ [Blk.cells [.int .i64 0, .int .i64 0, .int .i64 0] .exact]
 cond (!decide ((List.length (x0 : Bytes) : Int) = 72)) (
 (wr H1 H.length 0 [.int .i64 0, .int .i64 0, .int .i64 0]).bind fun (H2 : Heap) =>
 Option.bind (α := (Int × Int × Int × Unit)) (rd H2 (.agg [.int .i64, .int .i64, .int .i64]) H.length 0) fun (v3 : (Int × Int × Int × Unit)) =>
 some (v3, false, ())) (
 (loopW (host_Params.s1 x0 H) (0, ()) H1).bind fun (p12 : ((Unit) ⊕ (Bool × Unit)) × Heap) =>
 Sum.elim (fun (y13 : (Unit)) =>
 (host_majority x0 24).bind fun (r14 : (Bytes × Unit)) =>
 (host_param r14.1).bind fun (r15 : ((Int × Int × Int × Unit) × Bool × Unit)) =>
 let H16 : Heap := p12.2 ++ [Blk.cells [.int .i64 0, .int .i64 0, .int .i64 0] .exact]
 (wr H16 p12.2.length 0 [.int .i64 r15.1.1, .int .i64 r15.1.2.1, .int .i64 r15.1.2.2.1]).bind fun (H17 : Heap) =>
 cond (!r15.2.1) (
 (wr H17 H.length 0 [.int .i64 0, .int .i64 0, .int .i64 0]).bind fun (H18 : Heap) =>
 Option.bind (α := (Int × Int × Int × Unit)) (rd H18 (.agg [.int .i64, .int .i64, .int .i64]) H.length 0) fun (v19 : (Int × Int × Int × Unit)) =>
 some (v19, false, ())) (
 Option.bind (α := (Int × Int × Int × Unit)) (rd H17 (.agg [.int .i64, .int .i64, .int .i64]) p12.2.length 0) fun (v20 : (Int × Int × Int × Unit)) =>
 (wr H17 H.length 0 [.int .i64 v20.1, .int .i64 v20.2.1, .int .i64 v20.2.2.1]).bind fun (H21 : Heap) =>
 Option.bind (α := (Int × Int × Int × Unit)) (rd H21 (.agg [.int .i64, .int .i64, .int .i64]) H.length 0) fun (v22 : (Int × Int × Int × Unit)) =>
 some (v22, true, ()))) (fun (z23 : (Bool × Unit)) =>
 Option.bind (α := (Int × Int × Int × Unit)) (rd p12.2 (.agg [.int .i64, .int .i64, .int .i64]) H.length 0) fun (v24 : (Int × Int × Int × Unit)) =>
 some (v24, z23.1, ())) p12.1)
noncomputable def host_Params (x0 : Bytes) : Option ((Int × Int × Int × Unit) × Bool × Unit) := host_Params.on x0 []
noncomputable def host_Params.c : Callee := .pure [.one .str] [.agg [.int .i64, .int .i64, .int .i64], .one .bool] (fun x => host_Params x.1)
noncomputable def host_Params.calls : Nat → Option Callee
  | 0 => some host_param.c
  | 1 => some host_majority.c
  | _ => none
theorem host_Params.eq : evPure host_Params.calls host_Params.af = (fun x H => host_Params.on x.1 H) := by kernel_rfl

/-! ### (*tinderbox/host.Host).wait -/
def host_Host_wait.af : AFun := ⟨[.one .ptr], [.one (.int .i64)], [.t 2],
 .seq (.reg [.op ⟨0, some 2, .mv (.c (.one (.int .i64 0))), none⟩])
 (.seq (.seq (.reg [.op ⟨0, some 3, .mv (.c (.one (.int .i64 0))), none⟩])
 (.block 0 (.loop [(3, .one (.int .i64))] [(.exit 0, []), (.ret, [(2, .one (.int .i64))])] (.seq (.reg [.op ⟨0, some 4, .bin .lss (.t 3) (.c (.one (.int .i64 64))), none⟩])
 (.seq (.cond (.t 4) (.skip) (.exit 0))
 (.seq (.block 1 (.seq (.reg [.op ⟨0, some 5, .mv (.t 0), none⟩,
  .op ⟨1, some 6, .nilc (.t 5), none⟩,
  .op ⟨2, some 7, .addr 4 (.t 6), none⟩,
  .op ⟨3, some 8, .load (.one (.int .i64)) (.t 7), none⟩,
  .op ⟨4, some 9, .bin .add (.t 8) (.c (.one (.int .i64 1))), none⟩,
  .op ⟨5, some 10, .nilc (.t 5), none⟩,
  .op ⟨6, some 11, .addr 4 (.t 10), none⟩,
  .op ⟨7, none, .store 1 (.t 11) (.t 9), none⟩])
 (.seq (.reg [.op ⟨0, some 12, .mv (.t 0), none⟩,
  .op ⟨1, some 13, .nilc (.t 12), none⟩,
  .op ⟨2, some 14, .addr 0 (.t 13), none⟩,
  .op ⟨3, some 15, .load (.one .ptr) (.t 14), none⟩,
  .op ⟨4, some 16, .call 0 [(.t 15)], none⟩])
 (.cond (.t 16) (.seq (.reg [.op ⟨0, some 2, .mv (.c (.one (.int .i64 0))), none⟩])
 (.ret)) (.skip)))))
 (.reg [.op ⟨0, some 17, .bin .add (.t 3) (.c (.one (.int .i64 1))), none⟩,
  .op ⟨1, some 3, .mv (.t 17), none⟩])))))))
 (.seq (.reg [.op ⟨0, some 2, .mv (.c (.one (.int .i64 320))), none⟩])
 (.ret)))⟩
noncomputable def host_Host_wait.s1 (x0 : Ptr) (s1 : (Int × Unit)) (H2 : Heap) : Option (((Int × Unit) ⊕ ((Unit) ⊕ (Int × Unit))) × Heap) :=
 cond (decide (s1.1 < 64)) (
 (x0).bind fun (a3 : Nat × Nat) =>
 (rdI .i64 H2 a3.1 (a3.2 + 4)).bind fun (v4 : Int) =>
 (x0).bind fun (a5 : Nat × Nat) =>
 (wr H2 a5.1 (a5.2 + 4) [.int .i64 (IntKind.wrap .i64 (v4 + 1))]).bind fun (H6 : Heap) =>
 (x0).bind fun (a7 : Nat × Nat) =>
 (rdP H6 a7.1 a7.2).bind fun (v8 : Ptr) =>
 (bus_Bus_Ready v8 H6).bind fun (r9 : ((Bool × Unit) × Heap)) =>
 cond r9.1.1 (
 some (Sum.inr (Sum.inr (0, ())), r9.2)) (
 some (Sum.inl ((IntKind.wrap .i64 (s1.1 + 1)), ()), r9.2))) (
 some (Sum.inr (Sum.inl (())), H2))
noncomputable def host_Host_wait (x0 : Ptr) (H : Heap) : Option ((Int × Unit) × Heap) :=
 (loopW (host_Host_wait.s1 x0) (0, ()) H).bind fun (p10 : ((Unit) ⊕ (Int × Unit)) × Heap) =>
 Sum.elim (fun (y11 : (Unit)) =>
 some ((320, ()), p10.2)) (fun (z12 : (Int × Unit)) =>
 some ((z12.1, ()), p10.2)) p10.1
noncomputable def host_Host_wait.c : Callee := .full [.one .ptr] [.one (.int .i64)] (fun x H => host_Host_wait x.1 H)
noncomputable def host_Host_wait.calls : Nat → Option Callee
  | 0 => some bus_Bus_Ready.c
  | _ => none
theorem host_Host_wait.eq : evFull host_Host_wait.calls host_Host_wait.af = (fun x H => host_Host_wait x.1 H) := by kernel_rfl

/-! ### tinderbox/host.take -/
def host_take.af : AFun := ⟨[.one .ptr, .one (.int .i64)], [.one .str], [.t 4],
 .seq (.reg [.op ⟨0, some 4, .mv (.c (.one (.str []))), none⟩])
 (.seq (.reg [.op ⟨0, some 7, .mv (.t 1), none⟩,
  .op ⟨1, some 8, .mk 1 1 [.int .u8 0] (.t 7) (.t 7), none⟩,
  .op ⟨2, some 5, .mv (.t 8), none⟩])
 (.seq (.seq (.reg [.op ⟨0, some 9, .mv (.t 5), none⟩,
  .op ⟨1, some 10, .len (.t 9), none⟩,
  .op ⟨2, some 11, .mv (.c (.one (.int .i64 0))), none⟩])
 (.block 0 (.loop [(11, .one (.int .i64))] [(.exit 0, [])] (.seq (.reg [.op ⟨0, some 12, .bin .lss (.t 11) (.t 10), none⟩])
 (.seq (.cond (.t 12) (.skip) (.exit 0))
 (.seq (.block 1 (.seq (.reg [.op ⟨0, some 13, .mv (.t 11), none⟩,
  .op ⟨1, some 6, .mv (.t 13), none⟩])
 (.reg [.op ⟨0, some 14, .mv (.t 5), none⟩,
  .op ⟨1, some 15, .mv (.t 6), none⟩,
  .op ⟨2, some 16, .mv (.t 0), none⟩,
  .op ⟨3, some 17, .call 0 [(.t 16)], none⟩,
  .op ⟨4, some 18, .idxa 1 (.t 14) (.t 15), none⟩,
  .op ⟨5, none, .store 1 (.t 18) (.t 17), none⟩])))
 (.reg [.op ⟨0, some 19, .bin .add (.t 11) (.c (.one (.int .i64 1))), none⟩,
  .op ⟨1, some 11, .mv (.t 19), none⟩])))))))
 (.seq (.reg [.op ⟨0, some 20, .mv (.t 5), none⟩,
  .op ⟨1, some 21, .b2s (.t 20), none⟩,
  .op ⟨2, some 4, .mv (.t 21), none⟩])
 (.ret))))⟩
noncomputable def host_take.s1 (x0 : Ptr) (p1 : (Sl × Heap)) (s2 : (Int × Unit)) (H3 : Heap) : Option (((Int × Unit) ⊕ (Unit)) × Heap) :=
 cond (decide (s2.1 < (p1.1.len : Int))) (
 (bus_Bus_Out x0 H3).bind fun (r4 : ((Int × Unit) × Heap)) =>
 (Sl.at 1 p1.1 s2.1).bind fun (a5 : (Nat × Nat)) =>
 (wr r4.2 a5.1 a5.2 [.int .u8 r4.1.1]).bind fun (H6 : Heap) =>
 some (Sum.inl ((IntKind.wrap .i64 (s2.1 + 1)), ()), H6)) (
 some (Sum.inr (()), H3))
noncomputable def host_take (x0 : Ptr) (x1 : Int) (H : Heap) : Option ((Bytes × Unit) × Heap) :=
 (mkS H 1 [.int .u8 0] x1 x1).bind fun (p1 : (Sl × Heap)) =>
 (loopW (host_take.s1 x0 p1) (0, ()) p1.2).bind fun (p7 : (Unit) × Heap) =>
 (strOf p7.2 p1.1).bind fun (s8 : Bytes) =>
 some ((s8, ()), p7.2)
noncomputable def host_take.c : Callee := .full [.one .ptr, .one (.int .i64)] [.one .str] (fun x H => host_take x.1 x.2.1 H)
noncomputable def host_take.calls : Nat → Option Callee
  | 0 => some bus_Bus_Out.c
  | _ => none
theorem host_take.eq : evFull host_take.calls host_take.af = (fun x H => host_take x.1 x.2.1 H) := by kernel_rfl

/-! ### tinderbox/host.Probe -/
def host_Probe.af : AFun := ⟨[.one .ptr], [.one .ptr, .one (.int .i64)], [.t 2, .t 3],
 .seq (.reg [.op ⟨0, some 2, .mv (.c (.one (.ptr none))), none⟩,
  .op ⟨1, some 3, .mv (.c (.one (.int .i64 0))), none⟩])
 (.seq (.seq (.reg [.op ⟨0, some 10, .mv (.t 0), none⟩,
  .op ⟨1, some 11, .isnil false (.t 10), none⟩])
 (.cond (.t 11) (.seq (.reg [.op ⟨0, some 2, .mv (.c (.one (.ptr none))), none⟩,
  .op ⟨1, some 3, .mv (.c (.one (.int .i64 1))), none⟩])
 (.ret)) (.skip)))
 (.seq (.reg [.op ⟨0, some 12, .mv (.t 0), none⟩,
  .op ⟨1, some 13, .build [.ptr none, .int .i64 0, .int .i64 0, .int .i64 0, .int .i64 0] [(0, 1, (.t 12))], none⟩,
  .op ⟨2, some 14, .box (.t 13), none⟩,
  .op ⟨3, some 4, .mv (.t 14), none⟩])
 (.seq (.reg [.op ⟨0, some 15, .mv (.t 0), none⟩,
  .op ⟨1, some 16, .call 0 [(.t 15), (.c (.one (.int .u8 255)))], none⟩])
 (.seq (.seq (.reg [.op ⟨0, some 17, .mv (.t 4), none⟩,
  .op ⟨1, some 18, .call 1 [(.t 17)], none⟩,
  .op ⟨2, some 5, .mv (.t 18), none⟩])
 (.seq (.reg [.op ⟨0, some 19, .mv (.t 5), none⟩,
  .op ⟨1, some 20, .bin .neq (.t 19) (.c (.one (.int .i64 0))), none⟩])
 (.cond (.t 20) (.seq (.reg [.op ⟨0, some 21, .mv (.t 5), none⟩,
  .op ⟨1, some 2, .mv (.c (.one (.ptr none))), none⟩,
  .op ⟨2, some 3, .mv (.t 21), none⟩])
 (.ret)) (.skip))))
 (.seq (.reg [.op ⟨0, some 22, .mv (.t 0), none⟩,
  .op ⟨1, some 23, .call 0 [(.t 22), (.c (.one (.int .u8 236)))], none⟩])
 (.seq (.reg [.op ⟨0, some 24, .mv (.t 0), none⟩,
  .op ⟨1, some 25, .call 2 [(.t 24), (.c (.one (.int .u8 0)))], none⟩])
 (.seq (.seq (.reg [.op ⟨0, some 26, .mv (.t 4), none⟩,
  .op ⟨1, some 27, .call 1 [(.t 26)], none⟩,
  .op ⟨2, some 6, .mv (.t 27), none⟩])
 (.seq (.reg [.op ⟨0, some 28, .mv (.t 6), none⟩,
  .op ⟨1, some 29, .bin .neq (.t 28) (.c (.one (.int .i64 0))), none⟩])
 (.cond (.t 29) (.seq (.reg [.op ⟨0, some 30, .mv (.t 6), none⟩,
  .op ⟨1, some 2, .mv (.c (.one (.ptr none))), none⟩,
  .op ⟨2, some 3, .mv (.t 30), none⟩])
 (.ret)) (.skip))))
 (.seq (.reg [.op ⟨0, some 31, .mv (.t 0), none⟩,
  .op ⟨1, some 32, .call 3 [(.t 31), (.c (.one (.int .i64 72)))], none⟩,
  .op ⟨2, some 7, .mv (.t 32), none⟩])
 (.seq (.reg [.op ⟨0, some 34, .mv (.t 7), none⟩,
  .op ⟨1, some 35, .call 4 [(.t 34)], none⟩,
  .op ⟨2, some 33, .mv (.t 35), none⟩,
  .op ⟨3, some 36, .ext (.t 33) 0, none⟩,
  .op ⟨4, some 37, .ext (.t 33) 1, none⟩,
  .op ⟨5, some 8, .new [.int .i64 0, .int .i64 0, .int .i64 0], none⟩,
  .op ⟨6, none, .store 3 (.t 8) (.t 36), none⟩,
  .op ⟨7, some 9, .mv (.t 37), none⟩])
 (.seq (.seq (.reg [.op ⟨0, some 38, .mv (.t 9), none⟩,
  .op ⟨1, some 39, .un .not (.t 38), none⟩])
 (.cond (.t 39) (.seq (.reg [.op ⟨0, some 2, .mv (.c (.one (.ptr none))), none⟩,
  .op ⟨1, some 3, .mv (.c (.one (.int .i64 321))), none⟩])
 (.ret)) (.skip)))
 (.seq (.reg [.op ⟨0, some 40, .mv (.t 4), none⟩,
  .op ⟨1, some 41, .load (.agg [.int .i64, .int .i64, .int .i64]) (.t 8), none⟩,
  .op ⟨2, some 42, .nilc (.t 40), none⟩,
  .op ⟨3, some 43, .addr 1 (.t 42), none⟩,
  .op ⟨4, none, .store 3 (.t 43) (.t 41), none⟩])
 (.seq (.reg [.op ⟨0, some 44, .mv (.t 4), none⟩,
  .op ⟨1, some 2, .mv (.t 44), none⟩,
  .op ⟨2, some 3, .mv (.c (.one (.int .i64 0))), none⟩])
 (.ret)))))))))))))⟩
noncomputable def host_Probe (x0 : Ptr) (H : Heap) : Option ((Ptr × Int × Unit) × Heap) :=
 cond (Option.isNone x0) (
 some ((none, 1, ()), H)) (
 let H1 : Heap := H ++ [Blk.cells [.ptr x0, .int .i64 0, .int .i64 0, .int .i64 0, .int .i64 0] .exact]
 (bus_Bus_Command x0 255 H1).bind fun (r2 : ((Unit) × Heap)) =>
 (host_Host_wait (some (H.length, 0)) r2.2).bind fun (r3 : ((Int × Unit) × Heap)) =>
 cond (!decide (r3.1.1 = 0)) (
 some ((none, r3.1.1, ()), r3.2)) (
 (bus_Bus_Command x0 236 r3.2).bind fun (r4 : ((Unit) × Heap)) =>
 (bus_Bus_Address x0 0 r4.2).bind fun (r5 : ((Unit) × Heap)) =>
 (host_Host_wait (some (H.length, 0)) r5.2).bind fun (r6 : ((Int × Unit) × Heap)) =>
 cond (!decide (r6.1.1 = 0)) (
 some ((none, r6.1.1, ()), r6.2)) (
 (host_take x0 72 r6.2).bind fun (r7 : ((Bytes × Unit) × Heap)) =>
 (host_Params r7.1.1).bind fun (r8 : ((Int × Int × Int × Unit) × Bool × Unit)) =>
 let H9 : Heap := r7.2 ++ [Blk.cells [.int .i64 0, .int .i64 0, .int .i64 0] .exact]
 (wr H9 r7.2.length 0 [.int .i64 r8.1.1, .int .i64 r8.1.2.1, .int .i64 r8.1.2.2.1]).bind fun (H10 : Heap) =>
 cond (!r8.2.1) (
 some ((none, 321, ()), H10)) (
 Option.bind (α := (Int × Int × Int × Unit)) (rd H10 (.agg [.int .i64, .int .i64, .int .i64]) r7.2.length 0) fun (v11 : (Int × Int × Int × Unit)) =>
 (wr H10 H.length 1 [.int .i64 v11.1, .int .i64 v11.2.1, .int .i64 v11.2.2.1]).bind fun (H12 : Heap) =>
 some ((some (H.length, 0), 0, ()), H12)))))
noncomputable def host_Probe.c : Callee := .full [.one .ptr] [.one .ptr, .one (.int .i64)] (fun x H => host_Probe x.1 H)
noncomputable def host_Probe.calls : Nat → Option Callee
  | 0 => some bus_Bus_Command.c
  | 1 => some host_Host_wait.c
  | 2 => some bus_Bus_Address.c
  | 3 => some host_take.c
  | 4 => some host_Params.c
  | _ => none
theorem host_Probe.eq : evFull host_Probe.calls host_Probe.af = (fun x H => host_Probe x.1 H) := by kernel_rfl

/-! ### (*tinderbox/host.Host).Geometry -/
def host_Host_Geometry.af : AFun := ⟨[.one .ptr], [.agg [.int .i64, .int .i64, .int .i64]], [.cell 2],
 .seq (.reg [.op ⟨0, some 2, .new [.int .i64 0, .int .i64 0, .int .i64 0], none⟩])
 (.seq (.seq (.reg [.op ⟨0, some 3, .mv (.t 0), none⟩,
  .op ⟨1, some 4, .isnil false (.t 3), none⟩])
 (.cond (.t 4) (.seq (.reg [.op ⟨0, some 5, .build [.int .i64 0, .int .i64 0, .int .i64 0] [], none⟩,
  .op ⟨1, none, .store 3 (.t 2) (.t 5), none⟩])
 (.ret)) (.skip)))
 (.seq (.reg [.op ⟨0, some 6, .mv (.t 0), none⟩,
  .op ⟨1, some 7, .nilc (.t 6), none⟩,
  .op ⟨2, some 8, .addr 1 (.t 7), none⟩,
  .op ⟨3, some 9, .load (.agg [.int .i64, .int .i64, .int .i64]) (.t 8), none⟩,
  .op ⟨4, none, .store 3 (.t 2) (.t 9), none⟩])
 (.ret)))⟩
noncomputable def host_Host_Geometry (x0 : Ptr) (H : Heap) : Option (((Int × Int × Int × Unit) × Unit) × Heap) :=
 let H1 : Heap := H ++ [Blk.cells [.int .i64 0, .int .i64 0, .int .i64 0] .exact]
 cond (Option.isNone x0) (
 (wr H1 H.length 0 [.int .i64 0, .int .i64 0, .int .i64 0]).bind fun (H2 : Heap) =>
 Option.bind (α := (Int × Int × Int × Unit)) (rd H2 (.agg [.int .i64, .int .i64, .int .i64]) H.length 0) fun (v3 : (Int × Int × Int × Unit)) =>
 some ((v3, ()), H2)) (
 (x0).bind fun (a4 : Nat × Nat) =>
 Option.bind (α := (Int × Int × Int × Unit)) (rd H1 (.agg [.int .i64, .int .i64, .int .i64]) a4.1 (a4.2 + 1)) fun (v5 : (Int × Int × Int × Unit)) =>
 (wr H1 H.length 0 [.int .i64 v5.1, .int .i64 v5.2.1, .int .i64 v5.2.2.1]).bind fun (H6 : Heap) =>
 Option.bind (α := (Int × Int × Int × Unit)) (rd H6 (.agg [.int .i64, .int .i64, .int .i64]) H.length 0) fun (v7 : (Int × Int × Int × Unit)) =>
 some ((v7, ()), H6))
noncomputable def host_Host_Geometry.c : Callee := .full [.one .ptr] [.agg [.int .i64, .int .i64, .int .i64]] (fun x H => host_Host_Geometry x.1 H)
noncomputable def host_Host_Geometry.calls : Nat → Option Callee
  | _ => none
theorem host_Host_Geometry.eq : evFull host_Host_Geometry.calls host_Host_Geometry.af = (fun x H => host_Host_Geometry x.1 H) := by kernel_rfl

/-! ### (*tinderbox/host.Host).Polls -/
def host_Host_Polls.af : AFun := ⟨[.one .ptr], [.one (.int .i64)], [.t 2],
 .seq (.reg [.op ⟨0, some 2, .mv (.c (.one (.int .i64 0))), none⟩])
 (.seq (.seq (.reg [.op ⟨0, some 3, .mv (.t 0), none⟩,
  .op ⟨1, some 4, .isnil false (.t 3), none⟩])
 (.cond (.t 4) (.seq (.reg [.op ⟨0, some 2, .mv (.c (.one (.int .i64 0))), none⟩])
 (.ret)) (.skip)))
 (.seq (.reg [.op ⟨0, some 5, .mv (.t 0), none⟩,
  .op ⟨1, some 6, .nilc (.t 5), none⟩,
  .op ⟨2, some 7, .addr 4 (.t 6), none⟩,
  .op ⟨3, some 8, .load (.one (.int .i64)) (.t 7), none⟩,
  .op ⟨4, some 2, .mv (.t 8), none⟩])
 (.ret)))⟩
noncomputable def host_Host_Polls (x0 : Ptr) (H : Heap) : Option ((Int × Unit) × Heap) :=
 cond (Option.isNone x0) (
 some ((0, ()), H)) (
 (x0).bind fun (a1 : Nat × Nat) =>
 (rdI .i64 H a1.1 (a1.2 + 4)).bind fun (v2 : Int) =>
 some ((v2, ()), H))
noncomputable def host_Host_Polls.c : Callee := .full [.one .ptr] [.one (.int .i64)] (fun x H => host_Host_Polls x.1 H)
noncomputable def host_Host_Polls.calls : Nat → Option Callee
  | _ => none
theorem host_Host_Polls.eq : evFull host_Host_Polls.calls host_Host_Polls.af = (fun x H => host_Host_Polls x.1 H) := by kernel_rfl

/-! ### (*tinderbox/host.Host).row -/
def host_Host_row.af : AFun := ⟨[.one .ptr, .one (.int .i64), .one (.int .i64)], [.one (.int .i64), .one .bool], [.t 6, .t 7],
 .seq (.reg [.op ⟨0, some 6, .mv (.c (.one (.int .i64 0))), none⟩,
  .op ⟨1, some 7, .mv (.c (.one (.bool false))), none⟩])
 (.seq (.reg [.op ⟨0, some 8, .mv (.t 1), none⟩,
  .op ⟨1, some 9, .mv (.t 0), none⟩,
  .op ⟨2, some 10, .nilc (.t 9), none⟩,
  .op ⟨3, some 11, .addr 1 (.t 10), none⟩,
  .op ⟨4, some 12, .addr 1 (.t 11), none⟩,
  .op ⟨5, some 13, .load (.one (.int .i64)) (.t 12), none⟩,
  .op ⟨6, some 14, .bin .mul (.t 8) (.t 13), none⟩,
  .op ⟨7, some 15, .mv (.t 2), none⟩,
  .op ⟨8, some 16, .bin .add (.t 14) (.t 15), none⟩,
  .op ⟨9, some 17, .mv (.t 1), none⟩,
  .op ⟨10, some 18, .bin .geq (.t 17) (.c (.one (.int .i64 0))), none⟩,
  .op ⟨11, some 19, .mv (.t 18), none⟩,
  .op ⟨12, some 20, .mv (.t 1), some (19, true)⟩,
  .op ⟨13, some 21, .mv (.t 0), some (19, true)⟩,
  .op ⟨14, some 22, .nilc (.t 21), some (19, true)⟩,
  .op ⟨15, some 23, .addr 1 (.t 22), some (19, true)⟩,
  .op ⟨16, some 24, .addr 0 (.t 23), some (19, true)⟩,
  .op ⟨17, some 25, .load (.one (.int .i64)) (.t 24), some (19, true)⟩,
  .op ⟨18, some 26, .bin .lss (.t 20) (.t 25), some (19, true)⟩,
  .op ⟨19, some 27, .pick (.t 19) (.t 26) (.c (.one (.bool false))), none⟩,
  .op ⟨20, some 28, .mv (.t 27), none⟩,
  .op ⟨21, some 29, .mv (.t 2), some (28, true)⟩,
  .op ⟨22, some 30, .bin .geq (.t 29) (.c (.one (.int .i64 0))), some (28, true)⟩,
  .op ⟨23, some 31, .pick (.t 28) (.t 30) (.c (.one (.bool false))), none⟩,
  .op ⟨24, some 32, .mv (.t 31), none⟩,
  .op ⟨25, some 33, .mv (.t 2), some (32, true)⟩,
  .op ⟨26, some 34, .mv (.t 0), some (32, true)⟩,
  .op ⟨27, some 35, .nilc (.t 34), some (32, true)⟩,
  .op ⟨28, some 36, .addr 1 (.t 35), some (32, true)⟩,
  .op ⟨29, some 37, .addr 1 (.t 36), some (32, true)⟩,
  .op ⟨30, some 38, .load (.one (.int .i64)) (.t 37), some (32, true)⟩,
  .op ⟨31, some 39, .bin .lss (.t 33) (.t 38), some (32, true)⟩,
  .op ⟨32, some 40, .pick (.t 32) (.t 39) (.c (.one (.bool false))), none⟩,
  .op ⟨33, some 6, .mv (.t 16), none⟩,
  .op ⟨34, some 7, .mv (.t 40), none⟩])
 (.ret))⟩
noncomputable def host_Host_row (x0 : Ptr) (x1 : Int) (x2 : Int) (H : Heap) : Option ((Int × Bool × Unit) × Heap) :=
 (x0).bind fun (a1 : Nat × Nat) =>
 (rdI .i64 H a1.1 (a1.2 + 2)).bind fun (v2 : Int) =>
 cond (decide (0 ≤ x1)) (
 (x0).bind fun (a3 : Nat × Nat) =>
 (rdI .i64 H a3.1 (a3.2 + 1)).bind fun (v4 : Int) =>
 cond (decide (x1 < v4)) (
 cond (decide (0 ≤ x2)) (
 (x0).bind fun (a5 : Nat × Nat) =>
 (rdI .i64 H a5.1 (a5.2 + 2)).bind fun (v6 : Int) =>
 some (((IntKind.wrap .i64 ((IntKind.wrap .i64 (x1 * v2)) + x2)), (decide (x2 < v6)), ()), H)) (
 some (((IntKind.wrap .i64 ((IntKind.wrap .i64 (x1 * v2)) + x2)), false, ()), H))) (
 some (((IntKind.wrap .i64 ((IntKind.wrap .i64 (x1 * v2)) + x2)), false, ()), H))) (
 some (((IntKind.wrap .i64 ((IntKind.wrap .i64 (x1 * v2)) + x2)), false, ()), H))
noncomputable def host_Host_row.c : Callee := .full [.one .ptr, .one (.int .i64), .one (.int .i64)] [.one (.int .i64), .one .bool] (fun x H => host_Host_row x.1 x.2.1 x.2.2.1 H)
noncomputable def host_Host_row.calls : Nat → Option Callee
  | _ => none
theorem host_Host_row.eq : evFull host_Host_row.calls host_Host_row.af = (fun x H => host_Host_row x.1 x.2.1 x.2.2.1 H) := by kernel_rfl

/-! ### (*tinderbox/host.Host).begin -/
def host_Host_begin.af : AFun := ⟨[.one .ptr, .one (.int .i64), .one (.int .i64)], [.one (.int .i64), .one (.int .i64)], [.t 6, .t 7],
 .seq (.reg [.op ⟨0, some 6, .mv (.c (.one (.int .i64 0))), none⟩,
  .op ⟨1, some 7, .mv (.c (.one (.int .i64 0))), none⟩])
 (.seq (.seq (.reg [.op ⟨0, some 10, .mv (.t 0), none⟩,
  .op ⟨1, some 11, .isnil false (.t 10), none⟩])
 (.cond (.t 11) (.seq (.reg [.op ⟨0, some 6, .mv (.c (.one (.int .i64 0))), none⟩,
  .op ⟨1, some 7, .mv (.c (.one (.int .i64 1))), none⟩])
 (.ret)) (.skip)))
 (.seq (.reg [.op ⟨0, some 13, .mv (.t 0), none⟩,
  .op ⟨1, some 14, .mv (.t 1), none⟩,
  .op ⟨2, some 15, .mv (.t 2), none⟩,
  .op ⟨3, some 16, .call 0 [(.t 13), (.t 14), (.t 15)], none⟩,
  .op ⟨4, some 12, .mv (.t 16), none⟩,
  .op ⟨5, some 17, .ext (.t 12) 0, none⟩,
  .op ⟨6, some 18, .ext (.t 12) 1, none⟩,
  .op ⟨7, some 8, .mv (.t 17), none⟩,
  .op ⟨8, some 9, .mv (.t 18), none⟩])
 (.seq (.block 0 (.seq (.reg [.op ⟨0, some 20, .mv (.t 0), none⟩,
  .op ⟨1, some 21, .nilc (.t 20), none⟩,
  .op ⟨2, some 22, .addr 0 (.t 21), none⟩,
  .op ⟨3, some 23, .load (.one .ptr) (.t 22), none⟩,
  .op ⟨4, some 24, .call 1 [(.t 23)], none⟩,
  .op ⟨5, some 25, .call 2 [(.t 24)], none⟩,
  .op ⟨6, some 19, .mv (.t 25), none⟩])
 (.cond (.t 19) (.seq (.reg [.op ⟨0, some 6, .mv (.c (.one (.int .i64 0))), none⟩,
  .op ⟨1, some 7, .mv (.c (.one (.int .i64 51))), none⟩])
 (.ret)) (.seq (.reg [.op ⟨0, some 27, .mv (.t 9), none⟩,
  .op ⟨1, some 28, .un .not (.t 27), none⟩,
  .op ⟨2, some 26, .mv (.t 28), none⟩])
 (.cond (.t 26) (.seq (.reg [.op ⟨0, some 6, .mv (.c (.one (.int .i64 0))), none⟩,
  .op ⟨1, some 7, .mv (.c (.one (.int .i64 50))), none⟩])
 (.ret)) (.skip))))))
 (.seq (.reg [.op ⟨0, some 29, .mv (.t 8), none⟩,
  .op ⟨1, some 6, .mv (.t 29), none⟩,
  .op ⟨2, some 7, .mv (.c (.one (.int .i64 0))), none⟩])
 (.ret)))))⟩
noncomputable def host_Host_begin (x0 : Ptr) (x1 : Int) (x2 : Int) (H : Heap) : Option ((Int × Int × Unit) × Heap) :=
 cond (Option.isNone x0) (
 some ((0, 1, ()), H)) (
 (host_Host_row x0 x1 x2 H).bind fun (r1 : ((Int × Bool × Unit) × Heap)) =>
 (x0).bind fun (a2 : Nat × Nat) =>
 (rdP r1.2 a2.1 a2.2).bind fun (v3 : Ptr) =>
 (bus_Bus_Chip v3 r1.2).bind fun (r4 : ((Ptr × Unit) × Heap)) =>
 (nand_Chip_Off r4.1.1 r4.2).bind fun (r5 : ((Bool × Unit) × Heap)) =>
 cond r5.1.1 (
 some ((0, 51, ()), r5.2)) (
 cond (!r1.1.2.1) (
 some ((0, 50, ()), r5.2)) (
 some ((r1.1.1, 0, ()), r5.2))))
noncomputable def host_Host_begin.c : Callee := .full [.one .ptr, .one (.int .i64), .one (.int .i64)] [.one (.int .i64), .one (.int .i64)] (fun x H => host_Host_begin x.1 x.2.1 x.2.2.1 H)
noncomputable def host_Host_begin.calls : Nat → Option Callee
  | 0 => some host_Host_row.c
  | 1 => some bus_Bus_Chip.c
  | 2 => some nand_Chip_Off.c
  | _ => none
theorem host_Host_begin.eq : evFull host_Host_begin.calls host_Host_begin.af = (fun x H => host_Host_begin x.1 x.2.1 x.2.2.1 H) := by kernel_rfl

/-! ### (*tinderbox/host.Host).send -/
def host_Host_send.af : AFun := ⟨[.one .ptr, .one (.int .i64), .one (.int .i64)], [], [],
 .seq (.reg [.op ⟨0, some 6, .mv (.t 2), none⟩,
  .op ⟨1, some 7, .mv (.c (.one (.int .i64 0))), none⟩])
 (.block 0 (.loop [(1, .one (.int .i64)), (7, .one (.int .i64))] [(.exit 0, [])] (.seq (.reg [.op ⟨0, some 8, .bin .lss (.t 7) (.t 6), none⟩])
 (.seq (.cond (.t 8) (.skip) (.exit 0))
 (.seq (.block 1 (.seq (.reg [.op ⟨0, some 9, .mv (.t 0), none⟩,
  .op ⟨1, some 10, .nilc (.t 9), none⟩,
  .op ⟨2, some 11, .addr 0 (.t 10), none⟩,
  .op ⟨3, some 12, .load (.one .ptr) (.t 11), none⟩,
  .op ⟨4, some 13, .mv (.t 1), none⟩,
  .op ⟨5, some 14, .conv .u8 (.t 13), none⟩,
  .op ⟨6, some 15, .call 0 [(.t 12), (.t 14)], none⟩])
 (.reg [.op ⟨0, some 16, .mv (.t 1), none⟩,
  .op ⟨1, some 17, .bin .shr (.t 16) (.c (.one (.int .u64 8))), none⟩,
  .op ⟨2, some 1, .mv (.t 17), none⟩])))
 (.reg [.op ⟨0, some 18, .bin .add (.t 7) (.c (.one (.int .i64 1))), none⟩,
  .op ⟨1, some 7, .mv (.t 18), none⟩]))))))⟩
noncomputable def host_Host_send.s1 (x0 : Ptr) (x2 : Int) (s1 : (Int × Int × Unit)) (H2 : Heap) : Option (((Int × Int × Unit) ⊕ (Unit)) × Heap) :=
 cond (decide (s1.2.1 < x2)) (
 (x0).bind fun (a3 : Nat × Nat) =>
 (rdP H2 a3.1 a3.2).bind fun (v4 : Ptr) =>
 (bus_Bus_Address v4 (IntKind.wrap .u8 s1.1) H2).bind fun (r5 : ((Unit) × Heap)) =>
 some (Sum.inl ((Int.fdiv s1.1 (2 ^ (min (Int.toNat 8) (IntKind.bits .i64)))), (IntKind.wrap .i64 (s1.2.1 + 1)), ()), r5.2)) (
 some (Sum.inr (()), H2))
noncomputable def host_Host_send (x0 : Ptr) (x1 : Int) (x2 : Int) (H : Heap) : Option ((Unit) × Heap) :=
 (loopW (host_Host_send.s1 x0 x2) (x1, 0, ()) H).bind fun (p6 : (Unit) × Heap) =>
 some ((()), p6.2)
noncomputable def host_Host_send.c : Callee := .full [.one .ptr, .one (.int .i64), .one (.int .i64)] [] (fun x H => host_Host_send x.1 x.2.1 x.2.2.1 H)
noncomputable def host_Host_send.calls : Nat → Option Callee
  | 0 => some bus_Bus_Address.c
  | _ => none
theorem host_Host_send.eq : evFull host_Host_send.calls host_Host_send.af = (fun x H => host_Host_send x.1 x.2.1 x.2.2.1 H) := by kernel_rfl

/-! ### (*tinderbox/host.Host).failed -/
def host_Host_failed.af : AFun := ⟨[.one .ptr], [.one .bool], [.t 2],
 .seq (.reg [.op ⟨0, some 2, .mv (.c (.one (.bool false))), none⟩])
 (.seq (.reg [.op ⟨0, some 3, .mv (.t 0), none⟩,
  .op ⟨1, some 4, .nilc (.t 3), none⟩,
  .op ⟨2, some 5, .addr 0 (.t 4), none⟩,
  .op ⟨3, some 6, .load (.one .ptr) (.t 5), none⟩,
  .op ⟨4, some 7, .call 0 [(.t 6), (.c (.one (.int .u8 112)))], none⟩])
 (.seq (.reg [.op ⟨0, some 8, .mv (.t 0), none⟩,
  .op ⟨1, some 9, .nilc (.t 8), none⟩,
  .op ⟨2, some 10, .addr 0 (.t 9), none⟩,
  .op ⟨3, some 11, .load (.one .ptr) (.t 10), none⟩,
  .op ⟨4, some 12, .call 1 [(.t 11)], none⟩,
  .op ⟨5, some 13, .bin .and (.t 12) (.c (.one (.int .u8 1))), none⟩,
  .op ⟨6, some 14, .bin .neq (.t 13) (.c (.one (.int .u8 0))), none⟩,
  .op ⟨7, some 2, .mv (.t 14), none⟩])
 (.ret)))⟩
noncomputable def host_Host_failed (x0 : Ptr) (H : Heap) : Option ((Bool × Unit) × Heap) :=
 (x0).bind fun (a1 : Nat × Nat) =>
 (rdP H a1.1 a1.2).bind fun (v2 : Ptr) =>
 (bus_Bus_Command v2 112 H).bind fun (r3 : ((Unit) × Heap)) =>
 (x0).bind fun (a4 : Nat × Nat) =>
 (rdP r3.2 a4.1 a4.2).bind fun (v5 : Ptr) =>
 (bus_Bus_Out v5 r3.2).bind fun (r6 : ((Int × Unit) × Heap)) =>
 some (((!decide ((bitsI .and .u8 r6.1.1 1) = 0)), ()), r6.2)
noncomputable def host_Host_failed.c : Callee := .full [.one .ptr] [.one .bool] (fun x H => host_Host_failed x.1 H)
noncomputable def host_Host_failed.calls : Nat → Option Callee
  | 0 => some bus_Bus_Command.c
  | 1 => some bus_Bus_Out.c
  | _ => none
theorem host_Host_failed.eq : evFull host_Host_failed.calls host_Host_failed.af = (fun x H => host_Host_failed x.1 H) := by kernel_rfl

/-! ### (*tinderbox/host.Host).why -/
def host_Host_why.af : AFun := ⟨[.one .ptr, .one (.int .i64)], [.one (.int .i64)], [.t 4],
 .seq (.reg [.op ⟨0, some 4, .mv (.c (.one (.int .i64 0))), none⟩])
 (.seq (.seq (.reg [.op ⟨0, some 5, .mv (.t 0), none⟩,
  .op ⟨1, some 6, .nilc (.t 5), none⟩,
  .op ⟨2, some 7, .addr 0 (.t 6), none⟩,
  .op ⟨3, some 8, .load (.one .ptr) (.t 7), none⟩,
  .op ⟨4, some 9, .call 0 [(.t 8)], none⟩,
  .op ⟨5, some 10, .call 1 [(.t 9)], none⟩])
 (.cond (.t 10) (.seq (.reg [.op ⟨0, some 4, .mv (.c (.one (.int .i64 51))), none⟩])
 (.ret)) (.skip)))
 (.seq (.reg [.op ⟨0, some 11, .mv (.t 1), none⟩,
  .op ⟨1, some 4, .mv (.t 11), none⟩])
 (.ret)))⟩
noncomputable def host_Host_why (x0 : Ptr) (x1 : Int) (H : Heap) : Option ((Int × Unit) × Heap) :=
 (x0).bind fun (a1 : Nat × Nat) =>
 (rdP H a1.1 a1.2).bind fun (v2 : Ptr) =>
 (bus_Bus_Chip v2 H).bind fun (r3 : ((Ptr × Unit) × Heap)) =>
 (nand_Chip_Off r3.1.1 r3.2).bind fun (r4 : ((Bool × Unit) × Heap)) =>
 cond r4.1.1 (
 some ((51, ()), r4.2)) (
 some ((x1, ()), r4.2))
noncomputable def host_Host_why.c : Callee := .full [.one .ptr, .one (.int .i64)] [.one (.int .i64)] (fun x H => host_Host_why x.1 x.2.1 H)
noncomputable def host_Host_why.calls : Nat → Option Callee
  | 0 => some bus_Bus_Chip.c
  | 1 => some nand_Chip_Off.c
  | _ => none
theorem host_Host_why.eq : evFull host_Host_why.calls host_Host_why.af = (fun x H => host_Host_why x.1 x.2.1 H) := by kernel_rfl

/-! ### (*tinderbox/host.Host).Read -/
def host_Host_Read.af : AFun := ⟨[.one .ptr, .one (.int .i64), .one (.int .i64)], [.one .str, .one .str, .one (.int .i64)], [.t 6, .t 7, .t 8],
 .seq (.reg [.op ⟨0, some 6, .mv (.c (.one (.str []))), none⟩,
  .op ⟨1, some 7, .mv (.c (.one (.str []))), none⟩,
  .op ⟨2, some 8, .mv (.c (.one (.int .i64 0))), none⟩])
 (.seq (.reg [.op ⟨0, some 14, .mv (.t 0), none⟩,
  .op ⟨1, some 15, .mv (.t 1), none⟩,
  .op ⟨2, some 16, .mv (.t 2), none⟩,
  .op ⟨3, some 17, .call 0 [(.t 14), (.t 15), (.t 16)], none⟩,
  .op ⟨4, some 13, .mv (.t 17), none⟩,
  .op ⟨5, some 18, .ext (.t 13) 0, none⟩,
  .op ⟨6, some 19, .ext (.t 13) 1, none⟩,
  .op ⟨7, some 9, .mv (.t 18), none⟩,
  .op ⟨8, some 10, .mv (.t 19), none⟩])
 (.seq (.seq (.reg [.op ⟨0, some 20, .mv (.t 10), none⟩,
  .op ⟨1, some 21, .bin .neq (.t 20) (.c (.one (.int .i64 0))), none⟩])
 (.cond (.t 21) (.seq (.reg [.op ⟨0, some 22, .mv (.t 10), none⟩,
  .op ⟨1, some 6, .mv (.c (.one (.str []))), none⟩,
  .op ⟨2, some 7, .mv (.c (.one (.str []))), none⟩,
  .op ⟨3, some 8, .mv (.t 22), none⟩])
 (.ret)) (.skip)))
 (.seq (.reg [.op ⟨0, some 23, .mv (.t 0), none⟩,
  .op ⟨1, some 24, .nilc (.t 23), none⟩,
  .op ⟨2, some 25, .addr 0 (.t 24), none⟩,
  .op ⟨3, some 26, .load (.one .ptr) (.t 25), none⟩,
  .op ⟨4, some 27, .call 1 [(.t 26), (.c (.one (.int .u8 0)))], none⟩])
 (.seq (.reg [.op ⟨0, some 28, .mv (.t 0), none⟩,
  .op ⟨1, some 29, .call 2 [(.t 28), (.c (.one (.int .i64 0))), (.c (.one (.int .i64 2)))], none⟩])
 (.seq (.reg [.op ⟨0, some 30, .mv (.t 0), none⟩,
  .op ⟨1, some 31, .mv (.t 9), none⟩,
  .op ⟨2, some 32, .call 2 [(.t 30), (.t 31), (.c (.one (.int .i64 3)))], none⟩])
 (.seq (.reg [.op ⟨0, some 33, .mv (.t 0), none⟩,
  .op ⟨1, some 34, .nilc (.t 33), none⟩,
  .op ⟨2, some 35, .addr 0 (.t 34), none⟩,
  .op ⟨3, some 36, .load (.one .ptr) (.t 35), none⟩,
  .op ⟨4, some 37, .call 1 [(.t 36), (.c (.one (.int .u8 48)))], none⟩])
 (.seq (.seq (.reg [.op ⟨0, some 38, .mv (.t 0), none⟩,
  .op ⟨1, some 39, .call 3 [(.t 38)], none⟩,
  .op ⟨2, some 11, .mv (.t 39), none⟩])
 (.seq (.reg [.op ⟨0, some 40, .mv (.t 11), none⟩,
  .op ⟨1, some 41, .bin .neq (.t 40) (.c (.one (.int .i64 0))), none⟩])
 (.cond (.t 41) (.seq (.reg [.op ⟨0, some 42, .mv (.t 11), none⟩,
  .op ⟨1, some 6, .mv (.c (.one (.str []))), none⟩,
  .op ⟨2, some 7, .mv (.c (.one (.str []))), none⟩,
  .op ⟨3, some 8, .mv (.t 42), none⟩])
 (.ret)) (.skip))))
 (.seq (.seq (.reg [.op ⟨0, some 43, .mv (.t 0), none⟩,
  .op ⟨1, some 44, .call 4 [(.t 43)], none⟩])
 (.cond (.t 44) (.seq (.reg [.op ⟨0, some 45, .mv (.t 0), none⟩,
  .op ⟨1, some 46, .call 5 [(.t 45), (.c (.one (.int .i64 50)))], none⟩,
  .op ⟨2, some 6, .mv (.c (.one (.str []))), none⟩,
  .op ⟨3, some 7, .mv (.c (.one (.str []))), none⟩,
  .op ⟨4, some 8, .mv (.t 46), none⟩])
 (.ret)) (.skip)))
 (.seq (.reg [.op ⟨0, some 47, .mv (.t 0), none⟩,
  .op ⟨1, some 48, .nilc (.t 47), none⟩,
  .op ⟨2, some 49, .addr 0 (.t 48), none⟩,
  .op ⟨3, some 50, .load (.one .ptr) (.t 49), none⟩,
  .op ⟨4, some 51, .mv (.t 0), none⟩,
  .op ⟨5, some 52, .nilc (.t 51), none⟩,
  .op ⟨6, some 53, .addr 1 (.t 52), none⟩,
  .op ⟨7, some 54, .addr 2 (.t 53), none⟩,
  .op ⟨8, some 55, .load (.one (.int .i64)) (.t 54), none⟩,
  .op ⟨9, some 56, .bin .add (.t 55) (.c (.one (.int .i64 32))), none⟩,
  .op ⟨10, some 57, .call 6 [(.t 50), (.t 56)], none⟩,
  .op ⟨11, some 12, .mv (.t 57), none⟩])
 (.seq (.reg [.op ⟨0, some 58, .mv (.t 12), none⟩,
  .op ⟨1, some 59, .mv (.t 0), none⟩,
  .op ⟨2, some 60, .nilc (.t 59), none⟩,
  .op ⟨3, some 61, .addr 1 (.t 60), none⟩,
  .op ⟨4, some 62, .addr 2 (.t 61), none⟩,
  .op ⟨5, some 63, .load (.one (.int .i64)) (.t 62), none⟩,
  .op ⟨6, some 64, .slstr (.t 58) none (some (.t 63)), none⟩,
  .op ⟨7, some 65, .mv (.t 12), none⟩,
  .op ⟨8, some 66, .mv (.t 0), none⟩,
  .op ⟨9, some 67, .nilc (.t 66), none⟩,
  .op ⟨10, some 68, .addr 1 (.t 67), none⟩,
  .op ⟨11, some 69, .addr 2 (.t 68), none⟩,
  .op ⟨12, some 70, .load (.one (.int .i64)) (.t 69), none⟩,
  .op ⟨13, some 71, .slstr (.t 65) (some (.t 70)) none, none⟩,
  .op ⟨14, some 6, .mv (.t 64), none⟩,
  .op ⟨15, some 7, .mv (.t 71), none⟩,
  .op ⟨16, some 8, .mv (.c (.one (.int .i64 0))), none⟩])
 (.ret)))))))))))⟩
noncomputable def host_Host_Read (x0 : Ptr) (x1 : Int) (x2 : Int) (H : Heap) : Option ((Bytes × Bytes × Int × Unit) × Heap) :=
 (host_Host_begin x0 x1 x2 H).bind fun (r1 : ((Int × Int × Unit) × Heap)) =>
 cond (!decide (r1.1.2.1 = 0)) (
 some (([], [], r1.1.2.1, ()), r1.2)) (
 (x0).bind fun (a2 : Nat × Nat) =>
 (rdP r1.2 a2.1 a2.2).bind fun (v3 : Ptr) =>
 (bus_Bus_Command v3 0 r1.2).bind fun (r4 : ((Unit) × Heap)) =>
 (host_Host_send x0 0 2 r4.2).bind fun (r5 : ((Unit) × Heap)) =>
 (host_Host_send x0 r1.1.1 3 r5.2).bind fun (r6 : ((Unit) × Heap)) =>
 (x0).bind fun (a7 : Nat × Nat) =>
 (rdP r6.2 a7.1 a7.2).bind fun (v8 : Ptr) =>
 (bus_Bus_Command v8 48 r6.2).bind fun (r9 : ((Unit) × Heap)) =>
 (host_Host_wait x0 r9.2).bind fun (r10 : ((Int × Unit) × Heap)) =>
 cond (!decide (r10.1.1 = 0)) (
 some (([], [], r10.1.1, ()), r10.2)) (
 (host_Host_failed x0 r10.2).bind fun (r11 : ((Bool × Unit) × Heap)) =>
 cond r11.1.1 (
 (host_Host_why x0 50 r11.2).bind fun (r12 : ((Int × Unit) × Heap)) =>
 some (([], [], r12.1.1, ()), r12.2)) (
 (x0).bind fun (a13 : Nat × Nat) =>
 (rdP r11.2 a13.1 a13.2).bind fun (v14 : Ptr) =>
 (x0).bind fun (a15 : Nat × Nat) =>
 (rdI .i64 r11.2 a15.1 (a15.2 + 3)).bind fun (v16 : Int) =>
 (host_take v14 (IntKind.wrap .i64 (v16 + 32)) r11.2).bind fun (r17 : ((Bytes × Unit) × Heap)) =>
 (x0).bind fun (a18 : Nat × Nat) =>
 (rdI .i64 r17.2 a18.1 (a18.2 + 3)).bind fun (v19 : Int) =>
 (subS r17.1.1 0 v19).bind fun (s20 : Bytes) =>
 (x0).bind fun (a21 : Nat × Nat) =>
 (rdI .i64 r17.2 a21.1 (a21.2 + 3)).bind fun (v22 : Int) =>
 (subS r17.1.1 v22 (List.length (r17.1.1 : Bytes) : Int)).bind fun (s23 : Bytes) =>
 some ((s20, s23, 0, ()), r17.2))))
noncomputable def host_Host_Read.c : Callee := .full [.one .ptr, .one (.int .i64), .one (.int .i64)] [.one .str, .one .str, .one (.int .i64)] (fun x H => host_Host_Read x.1 x.2.1 x.2.2.1 H)
noncomputable def host_Host_Read.calls : Nat → Option Callee
  | 0 => some host_Host_begin.c
  | 1 => some bus_Bus_Command.c
  | 2 => some host_Host_send.c
  | 3 => some host_Host_wait.c
  | 4 => some host_Host_failed.c
  | 5 => some host_Host_why.c
  | 6 => some host_take.c
  | _ => none
theorem host_Host_Read.eq : evFull host_Host_Read.calls host_Host_Read.af = (fun x H => host_Host_Read x.1 x.2.1 x.2.2.1 H) := by kernel_rfl

/-! ### (*tinderbox/host.Host).Marked -/
def host_Host_Marked.af : AFun := ⟨[.one .ptr, .one (.int .i64)], [.one .bool, .one (.int .i64)], [.t 4, .t 5],
 .seq (.reg [.op ⟨0, some 4, .mv (.c (.one (.bool false))), none⟩,
  .op ⟨1, some 5, .mv (.c (.one (.int .i64 0))), none⟩])
 (.seq (.reg [.op ⟨0, some 10, .mv (.t 0), none⟩,
  .op ⟨1, some 11, .mv (.t 1), none⟩,
  .op ⟨2, some 12, .call 0 [(.t 10), (.t 11), (.c (.one (.int .i64 0)))], none⟩,
  .op ⟨3, some 9, .mv (.t 12), none⟩,
  .op ⟨4, some 13, .ext (.t 9) 0, none⟩,
  .op ⟨5, some 14, .ext (.t 9) 1, none⟩,
  .op ⟨6, some 6, .mv (.t 13), none⟩,
  .op ⟨7, some 7, .mv (.t 14), none⟩])
 (.seq (.seq (.reg [.op ⟨0, some 15, .mv (.t 7), none⟩,
  .op ⟨1, some 16, .bin .neq (.t 15) (.c (.one (.int .i64 0))), none⟩])
 (.cond (.t 16) (.seq (.reg [.op ⟨0, some 17, .mv (.t 7), none⟩,
  .op ⟨1, some 4, .mv (.c (.one (.bool false))), none⟩,
  .op ⟨2, some 5, .mv (.t 17), none⟩])
 (.ret)) (.skip)))
 (.seq (.reg [.op ⟨0, some 18, .mv (.t 0), none⟩,
  .op ⟨1, some 19, .nilc (.t 18), none⟩,
  .op ⟨2, some 20, .addr 0 (.t 19), none⟩,
  .op ⟨3, some 21, .load (.one .ptr) (.t 20), none⟩,
  .op ⟨4, some 22, .call 1 [(.t 21), (.c (.one (.int .u8 165)))], none⟩])
 (.seq (.reg [.op ⟨0, some 23, .mv (.t 0), none⟩,
  .op ⟨1, some 24, .mv (.t 6), none⟩,
  .op ⟨2, some 25, .call 2 [(.t 23), (.t 24), (.c (.one (.int .i64 3)))], none⟩])
 (.seq (.seq (.reg [.op ⟨0, some 26, .mv (.t 0), none⟩,
  .op ⟨1, some 27, .call 3 [(.t 26)], none⟩,
  .op ⟨2, some 8, .mv (.t 27), none⟩])
 (.seq (.reg [.op ⟨0, some 28, .mv (.t 8), none⟩,
  .op ⟨1, some 29, .bin .neq (.t 28) (.c (.one (.int .i64 0))), none⟩])
 (.cond (.t 29) (.seq (.reg [.op ⟨0, some 30, .mv (.t 8), none⟩,
  .op ⟨1, some 4, .mv (.c (.one (.bool false))), none⟩,
  .op ⟨2, some 5, .mv (.t 30), none⟩])
 (.ret)) (.skip))))
 (.seq (.seq (.reg [.op ⟨0, some 31, .mv (.t 0), none⟩,
  .op ⟨1, some 32, .call 4 [(.t 31)], none⟩])
 (.cond (.t 32) (.seq (.reg [.op ⟨0, some 33, .mv (.t 0), none⟩,
  .op ⟨1, some 34, .call 5 [(.t 33), (.c (.one (.int .i64 50)))], none⟩,
  .op ⟨2, some 4, .mv (.c (.one (.bool false))), none⟩,
  .op ⟨3, some 5, .mv (.t 34), none⟩])
 (.ret)) (.skip)))
 (.seq (.reg [.op ⟨0, some 35, .mv (.t 0), none⟩,
  .op ⟨1, some 36, .nilc (.t 35), none⟩,
  .op ⟨2, some 37, .addr 0 (.t 36), none⟩,
  .op ⟨3, some 38, .load (.one .ptr) (.t 37), none⟩,
  .op ⟨4, some 39, .call 6 [(.t 38)], none⟩,
  .op ⟨5, some 40, .bin .eql (.t 39) (.c (.one (.int .u8 0))), none⟩,
  .op ⟨6, some 4, .mv (.t 40), none⟩,
  .op ⟨7, some 5, .mv (.c (.one (.int .i64 0))), none⟩])
 (.ret))))))))⟩
noncomputable def host_Host_Marked (x0 : Ptr) (x1 : Int) (H : Heap) : Option ((Bool × Int × Unit) × Heap) :=
 (host_Host_begin x0 x1 0 H).bind fun (r1 : ((Int × Int × Unit) × Heap)) =>
 cond (!decide (r1.1.2.1 = 0)) (
 some ((false, r1.1.2.1, ()), r1.2)) (
 (x0).bind fun (a2 : Nat × Nat) =>
 (rdP r1.2 a2.1 a2.2).bind fun (v3 : Ptr) =>
 (bus_Bus_Command v3 165 r1.2).bind fun (r4 : ((Unit) × Heap)) =>
 (host_Host_send x0 r1.1.1 3 r4.2).bind fun (r5 : ((Unit) × Heap)) =>
 (host_Host_wait x0 r5.2).bind fun (r6 : ((Int × Unit) × Heap)) =>
 cond (!decide (r6.1.1 = 0)) (
 some ((false, r6.1.1, ()), r6.2)) (
 (host_Host_failed x0 r6.2).bind fun (r7 : ((Bool × Unit) × Heap)) =>
 cond r7.1.1 (
 (host_Host_why x0 50 r7.2).bind fun (r8 : ((Int × Unit) × Heap)) =>
 some ((false, r8.1.1, ()), r8.2)) (
 (x0).bind fun (a9 : Nat × Nat) =>
 (rdP r7.2 a9.1 a9.2).bind fun (v10 : Ptr) =>
 (bus_Bus_Out v10 r7.2).bind fun (r11 : ((Int × Unit) × Heap)) =>
 some (((decide (r11.1.1 = 0)), 0, ()), r11.2))))
noncomputable def host_Host_Marked.c : Callee := .full [.one .ptr, .one (.int .i64)] [.one .bool, .one (.int .i64)] (fun x H => host_Host_Marked x.1 x.2.1 H)
noncomputable def host_Host_Marked.calls : Nat → Option Callee
  | 0 => some host_Host_begin.c
  | 1 => some bus_Bus_Command.c
  | 2 => some host_Host_send.c
  | 3 => some host_Host_wait.c
  | 4 => some host_Host_failed.c
  | 5 => some host_Host_why.c
  | 6 => some bus_Bus_Out.c
  | _ => none
theorem host_Host_Marked.eq : evFull host_Host_Marked.calls host_Host_Marked.af = (fun x H => host_Host_Marked x.1 x.2.1 H) := by kernel_rfl

/-! ### (*tinderbox/host.Host).clean -/
def host_Host_clean.af : AFun := ⟨[.one .ptr, .one (.int .i64), .one (.int .i64)], [.one .bool], [.t 6],
 .seq (.reg [.op ⟨0, some 6, .mv (.c (.one (.bool false))), none⟩])
 (.seq (.block 0 (.loop [(2, .one (.int .i64))] [(.exit 0, []), (.ret, [(6, .one .bool)])] (.seq (.seq (.reg [.op ⟨0, some 12, .mv (.t 2), none⟩,
  .op ⟨1, some 13, .mv (.t 0), none⟩,
  .op ⟨2, some 14, .nilc (.t 13), none⟩,
  .op ⟨3, some 15, .addr 1 (.t 14), none⟩,
  .op ⟨4, some 16, .addr 1 (.t 15), none⟩,
  .op ⟨5, some 17, .load (.one (.int .i64)) (.t 16), none⟩,
  .op ⟨6, some 18, .bin .lss (.t 12) (.t 17), none⟩])
 (.cond (.t 18) (.skip) (.exit 0)))
 (.seq (.block 1 (.seq (.reg [.op ⟨0, some 22, .mv (.t 0), none⟩,
  .op ⟨1, some 23, .mv (.t 1), none⟩,
  .op ⟨2, some 24, .mv (.t 2), none⟩,
  .op ⟨3, some 25, .call 0 [(.t 22), (.t 23), (.t 24)], none⟩,
  .op ⟨4, some 21, .mv (.t 25), none⟩,
  .op ⟨5, some 26, .ext (.t 21) 0, none⟩,
  .op ⟨6, some 27, .ext (.t 21) 1, none⟩,
  .op ⟨7, some 28, .ext (.t 21) 2, none⟩,
  .op ⟨8, some 7, .mv (.t 26), none⟩,
  .op ⟨9, some 8, .mv (.t 27), none⟩,
  .op ⟨10, some 9, .mv (.t 28), none⟩])
 (.seq (.seq (.reg [.op ⟨0, some 29, .mv (.t 9), none⟩,
  .op ⟨1, some 30, .bin .neq (.t 29) (.c (.one (.int .i64 0))), none⟩])
 (.cond (.t 30) (.seq (.reg [.op ⟨0, some 6, .mv (.c (.one (.bool false))), none⟩])
 (.ret)) (.skip)))
 (.seq (.reg [.op ⟨0, some 31, .mv (.t 7), none⟩,
  .op ⟨1, some 32, .mv (.t 8), none⟩,
  .op ⟨2, some 33, .bin .add (.t 31) (.t 32), none⟩,
  .op ⟨3, some 34, .s2b (.t 33), none⟩,
  .op ⟨4, some 35, .len (.t 34), none⟩,
  .op ⟨5, some 36, .mv (.c (.one (.int .i64 0))), none⟩])
 (.block 2 (.loop [(36, .one (.int .i64))] [(.exit 2, []), (.ret, [(6, .one .bool)])] (.seq (.reg [.op ⟨0, some 37, .bin .lss (.t 36) (.t 35), none⟩])
 (.seq (.cond (.t 37) (.skip) (.exit 2))
 (.seq (.block 3 (.seq (.reg [.op ⟨0, some 38, .idxa 1 (.t 34) (.t 36), none⟩,
  .op ⟨1, some 39, .load (.one (.int .u8)) (.t 38), none⟩,
  .op ⟨2, some 11, .mv (.t 39), none⟩])
 (.seq (.reg [.op ⟨0, some 40, .mv (.t 11), none⟩,
  .op ⟨1, some 41, .bin .neq (.t 40) (.c (.one (.int .u8 255))), none⟩])
 (.cond (.t 41) (.seq (.reg [.op ⟨0, some 6, .mv (.c (.one (.bool false))), none⟩])
 (.ret)) (.skip)))))
 (.reg [.op ⟨0, some 42, .bin .add (.t 36) (.c (.one (.int .i64 1))), none⟩,
  .op ⟨1, some 36, .mv (.t 42), none⟩]))))))))))
 (.reg [.op ⟨0, some 19, .mv (.t 2), none⟩,
  .op ⟨1, some 20, .bin .add (.t 19) (.c (.one (.int .i64 1))), none⟩,
  .op ⟨2, some 2, .mv (.t 20), none⟩])))))
 (.seq (.reg [.op ⟨0, some 6, .mv (.c (.one (.bool true))), none⟩])
 (.ret)))⟩
noncomputable def host_Host_clean.s1 (r5 : ((Bytes × Bytes × Int × Unit) × Heap)) (s6 : Bytes) (s8 : (Int × Unit)) (H9 : Heap) : Option (((Int × Unit) ⊕ ((Unit) ⊕ (Bool × Unit))) × Heap) :=
 cond (decide (s8.1 < ((List.length (s6 : Bytes)) : Int))) (
 (Sl.at 1 (⟨some (r5.2.length, 0), (List.length (s6 : Bytes)), (List.length (s6 : Bytes))⟩) s8.1).bind fun (a10 : (Nat × Nat)) =>
 (rdI .u8 H9 a10.1 a10.2).bind fun (v11 : Int) =>
 cond (!decide (v11 = 255)) (
 some (Sum.inr (Sum.inr (false, ())), H9)) (
 some (Sum.inl ((IntKind.wrap .i64 (s8.1 + 1)), ()), H9))) (
 some (Sum.inr (Sum.inl (())), H9))
noncomputable def host_Host_clean.s2 (x0 : Ptr) (x1 : Int) (s1 : (Int × Unit)) (H2 : Heap) : Option (((Int × Unit) ⊕ ((Unit) ⊕ (Bool × Unit))) × Heap) :=
 (x0).bind fun (a3 : Nat × Nat) =>
 (rdI .i64 H2 a3.1 (a3.2 + 2)).bind fun (v4 : Int) =>
 cond (decide (s1.1 < v4)) (
 (host_Host_Read x0 x1 s1.1 H2).bind fun (r5 : ((Bytes × Bytes × Int × Unit) × Heap)) =>
 cond (!decide (r5.1.2.2.1 = 0)) (
 some (Sum.inr (Sum.inr (false, ())), r5.2)) (
 (catS r5.1.1 r5.1.2.1).bind fun (s6 : Bytes) =>
 let H7 : Heap := r5.2 ++ [Blk.cells (cellsOf s6) .loose]
 (loopW (host_Host_clean.s1 r5 s6) (0, ()) H7).bind fun (p12 : ((Unit) ⊕ (Bool × Unit)) × Heap) =>
 Sum.elim (fun (y13 : (Unit)) =>
 some (Sum.inl ((IntKind.wrap .i64 (s1.1 + 1)), ()), p12.2)) (fun (z14 : (Bool × Unit)) =>
 some (Sum.inr (Sum.inr (z14.1, ())), p12.2)) p12.1)) (
 some (Sum.inr (Sum.inl (())), H2))
noncomputable def host_Host_clean (x0 : Ptr) (x1 : Int) (x2 : Int) (H : Heap) : Option ((Bool × Unit) × Heap) :=
 (loopW (host_Host_clean.s2 x0 x1) (x2, ()) H).bind fun (p15 : ((Unit) ⊕ (Bool × Unit)) × Heap) =>
 Sum.elim (fun (y16 : (Unit)) =>
 some ((true, ()), p15.2)) (fun (z17 : (Bool × Unit)) =>
 some ((z17.1, ()), p15.2)) p15.1
noncomputable def host_Host_clean.c : Callee := .full [.one .ptr, .one (.int .i64), .one (.int .i64)] [.one .bool] (fun x H => host_Host_clean x.1 x.2.1 x.2.2.1 H)
noncomputable def host_Host_clean.calls : Nat → Option Callee
  | 0 => some host_Host_Read.c
  | _ => none
theorem host_Host_clean.eq : evFull host_Host_clean.calls host_Host_clean.af = (fun x H => host_Host_clean x.1 x.2.1 x.2.2.1 H) := by kernel_rfl

/-! ### (*tinderbox/host.Host).Program -/
def host_Host_Program.af : AFun := ⟨[.one .ptr, .one (.int .i64), .one (.int .i64), .one .str, .one .str], [.one (.int .i64)], [.t 10],
 .seq (.reg [.op ⟨0, some 10, .mv (.c (.one (.int .i64 0))), none⟩])
 (.seq (.reg [.op ⟨0, some 17, .mv (.t 0), none⟩,
  .op ⟨1, some 18, .mv (.t 1), none⟩,
  .op ⟨2, some 19, .mv (.t 2), none⟩,
  .op ⟨3, some 20, .call 0 [(.t 17), (.t 18), (.t 19)], none⟩,
  .op ⟨4, some 16, .mv (.t 20), none⟩,
  .op ⟨5, some 21, .ext (.t 16) 0, none⟩,
  .op ⟨6, some 22, .ext (.t 16) 1, none⟩,
  .op ⟨7, some 11, .mv (.t 21), none⟩,
  .op ⟨8, some 12, .mv (.t 22), none⟩])
 (.seq (.seq (.reg [.op ⟨0, some 23, .mv (.t 12), none⟩,
  .op ⟨1, some 24, .bin .neq (.t 23) (.c (.one (.int .i64 0))), none⟩])
 (.cond (.t 24) (.seq (.reg [.op ⟨0, some 25, .mv (.t 12), none⟩,
  .op ⟨1, some 10, .mv (.t 25), none⟩])
 (.ret)) (.skip)))
 (.seq (.seq (.reg [.op ⟨0, some 26, .mv (.t 3), none⟩,
  .op ⟨1, some 27, .lens (.t 26), none⟩,
  .op ⟨2, some 28, .mv (.t 0), none⟩,
  .op ⟨3, some 29, .nilc (.t 28), none⟩,
  .op ⟨4, some 30, .addr 1 (.t 29), none⟩,
  .op ⟨5, some 31, .addr 2 (.t 30), none⟩,
  .op ⟨6, some 32, .load (.one (.int .i64)) (.t 31), none⟩,
  .op ⟨7, some 33, .bin .neq (.t 27) (.t 32), none⟩,
  .op ⟨8, some 34, .mv (.t 33), none⟩,
  .op ⟨9, some 35, .mv (.t 4), some (34, false)⟩,
  .op ⟨10, some 36, .lens (.t 35), some (34, false)⟩,
  .op ⟨11, some 37, .bin .neq (.t 36) (.c (.one (.int .i64 32))), some (34, false)⟩,
  .op ⟨12, some 38, .pick (.t 34) (.c (.one (.bool true))) (.t 37), none⟩])
 (.cond (.t 38) (.seq (.reg [.op ⟨0, some 10, .mv (.c (.one (.int .i64 1))), none⟩])
 (.ret)) (.skip)))
 (.seq (.seq (.reg [.op ⟨0, some 39, .mv (.t 0), none⟩,
  .op ⟨1, some 40, .mv (.t 1), none⟩,
  .op ⟨2, some 41, .mv (.t 2), none⟩,
  .op ⟨3, some 42, .call 1 [(.t 39), (.t 40), (.t 41)], none⟩,
  .op ⟨4, some 43, .un .not (.t 42), none⟩])
 (.cond (.t 43) (.seq (.reg [.op ⟨0, some 10, .mv (.c (.one (.int .i64 52))), none⟩])
 (.ret)) (.skip)))
 (.seq (.reg [.op ⟨0, some 44, .mv (.t 0), none⟩,
  .op ⟨1, some 45, .nilc (.t 44), none⟩,
  .op ⟨2, some 46, .addr 0 (.t 45), none⟩,
  .op ⟨3, some 47, .load (.one .ptr) (.t 46), none⟩,
  .op ⟨4, some 48, .call 2 [(.t 47), (.c (.one (.int .u8 128)))], none⟩])
 (.seq (.reg [.op ⟨0, some 49, .mv (.t 0), none⟩,
  .op ⟨1, some 50, .call 3 [(.t 49), (.c (.one (.int .i64 0))), (.c (.one (.int .i64 2)))], none⟩])
 (.seq (.reg [.op ⟨0, some 51, .mv (.t 0), none⟩,
  .op ⟨1, some 52, .mv (.t 11), none⟩,
  .op ⟨2, some 53, .call 3 [(.t 51), (.t 52), (.c (.one (.int .i64 3)))], none⟩])
 (.seq (.seq (.reg [.op ⟨0, some 54, .mv (.t 3), none⟩,
  .op ⟨1, some 55, .mv (.t 4), none⟩,
  .op ⟨2, some 56, .bin .add (.t 54) (.t 55), none⟩,
  .op ⟨3, some 57, .s2b (.t 56), none⟩,
  .op ⟨4, some 58, .len (.t 57), none⟩,
  .op ⟨5, some 59, .mv (.c (.one (.int .i64 0))), none⟩])
 (.block 0 (.loop [(59, .one (.int .i64))] [(.exit 0, [])] (.seq (.reg [.op ⟨0, some 60, .bin .lss (.t 59) (.t 58), none⟩])
 (.seq (.cond (.t 60) (.skip) (.exit 0))
 (.seq (.block 1 (.seq (.reg [.op ⟨0, some 61, .idxa 1 (.t 57) (.t 59), none⟩,
  .op ⟨1, some 62, .load (.one (.int .u8)) (.t 61), none⟩,
  .op ⟨2, some 14, .mv (.t 62), none⟩])
 (.reg [.op ⟨0, some 63, .mv (.t 0), none⟩,
  .op ⟨1, some 64, .nilc (.t 63), none⟩,
  .op ⟨2, some 65, .addr 0 (.t 64), none⟩,
  .op ⟨3, some 66, .load (.one .ptr) (.t 65), none⟩,
  .op ⟨4, some 67, .mv (.t 14), none⟩,
  .op ⟨5, some 68, .call 4 [(.t 66), (.t 67)], none⟩])))
 (.reg [.op ⟨0, some 69, .bin .add (.t 59) (.c (.one (.int .i64 1))), none⟩,
  .op ⟨1, some 59, .mv (.t 69), none⟩])))))))
 (.seq (.reg [.op ⟨0, some 70, .mv (.t 0), none⟩,
  .op ⟨1, some 71, .nilc (.t 70), none⟩,
  .op ⟨2, some 72, .addr 0 (.t 71), none⟩,
  .op ⟨3, some 73, .load (.one .ptr) (.t 72), none⟩,
  .op ⟨4, some 74, .call 2 [(.t 73), (.c (.one (.int .u8 16)))], none⟩])
 (.seq (.seq (.reg [.op ⟨0, some 75, .mv (.t 0), none⟩,
  .op ⟨1, some 76, .call 5 [(.t 75)], none⟩,
  .op ⟨2, some 15, .mv (.t 76), none⟩])
 (.seq (.reg [.op ⟨0, some 77, .mv (.t 15), none⟩,
  .op ⟨1, some 78, .bin .neq (.t 77) (.c (.one (.int .i64 0))), none⟩])
 (.cond (.t 78) (.seq (.reg [.op ⟨0, some 79, .mv (.t 15), none⟩,
  .op ⟨1, some 10, .mv (.t 79), none⟩])
 (.ret)) (.skip))))
 (.seq (.seq (.reg [.op ⟨0, some 80, .mv (.t 0), none⟩,
  .op ⟨1, some 81, .call 6 [(.t 80)], none⟩])
 (.cond (.t 81) (.seq (.reg [.op ⟨0, some 82, .mv (.t 0), none⟩,
  .op ⟨1, some 83, .call 7 [(.t 82), (.c (.one (.int .i64 53)))], none⟩,
  .op ⟨2, some 10, .mv (.t 83), none⟩])
 (.ret)) (.skip)))
 (.seq (.reg [.op ⟨0, some 10, .mv (.c (.one (.int .i64 0))), none⟩])
 (.ret)))))))))))))⟩
noncomputable def host_Host_Program.s1 (x0 : Ptr) (r9 : ((Unit) × Heap)) (s10 : Bytes) (s12 : (Int × Unit)) (H13 : Heap) : Option (((Int × Unit) ⊕ (Unit)) × Heap) :=
 cond (decide (s12.1 < ((List.length (s10 : Bytes)) : Int))) (
 (Sl.at 1 (⟨some (r9.2.length, 0), (List.length (s10 : Bytes)), (List.length (s10 : Bytes))⟩) s12.1).bind fun (a14 : (Nat × Nat)) =>
 (rdI .u8 H13 a14.1 a14.2).bind fun (v15 : Int) =>
 (x0).bind fun (a16 : Nat × Nat) =>
 (rdP H13 a16.1 a16.2).bind fun (v17 : Ptr) =>
 (bus_Bus_In v17 v15 H13).bind fun (r18 : ((Unit) × Heap)) =>
 some (Sum.inl ((IntKind.wrap .i64 (s12.1 + 1)), ()), r18.2)) (
 some (Sum.inr (()), H13))
noncomputable def host_Host_Program (x0 : Ptr) (x1 : Int) (x2 : Int) (x3 : Bytes) (x4 : Bytes) (H : Heap) : Option ((Int × Unit) × Heap) :=
 (host_Host_begin x0 x1 x2 H).bind fun (r1 : ((Int × Int × Unit) × Heap)) =>
 cond (!decide (r1.1.2.1 = 0)) (
 some ((r1.1.2.1, ()), r1.2)) (
 (x0).bind fun (a2 : Nat × Nat) =>
 (rdI .i64 r1.2 a2.1 (a2.2 + 3)).bind fun (v3 : Int) =>
 cond (!decide ((List.length (x3 : Bytes) : Int) = v3)) (
 some ((1, ()), r1.2)) (
 cond (!decide ((List.length (x4 : Bytes) : Int) = 32)) (
 some ((1, ()), r1.2)) (
 (host_Host_clean x0 x1 x2 r1.2).bind fun (r4 : ((Bool × Unit) × Heap)) =>
 cond (!r4.1.1) (
 some ((52, ()), r4.2)) (
 (x0).bind fun (a5 : Nat × Nat) =>
 (rdP r4.2 a5.1 a5.2).bind fun (v6 : Ptr) =>
 (bus_Bus_Command v6 128 r4.2).bind fun (r7 : ((Unit) × Heap)) =>
 (host_Host_send x0 0 2 r7.2).bind fun (r8 : ((Unit) × Heap)) =>
 (host_Host_send x0 r1.1.1 3 r8.2).bind fun (r9 : ((Unit) × Heap)) =>
 (catS x3 x4).bind fun (s10 : Bytes) =>
 let H11 : Heap := r9.2 ++ [Blk.cells (cellsOf s10) .loose]
 (loopW (host_Host_Program.s1 x0 r9 s10) (0, ()) H11).bind fun (p19 : (Unit) × Heap) =>
 (x0).bind fun (a20 : Nat × Nat) =>
 (rdP p19.2 a20.1 a20.2).bind fun (v21 : Ptr) =>
 (bus_Bus_Command v21 16 p19.2).bind fun (r22 : ((Unit) × Heap)) =>
 (host_Host_wait x0 r22.2).bind fun (r23 : ((Int × Unit) × Heap)) =>
 cond (!decide (r23.1.1 = 0)) (
 some ((r23.1.1, ()), r23.2)) (
 (host_Host_failed x0 r23.2).bind fun (r24 : ((Bool × Unit) × Heap)) =>
 cond r24.1.1 (
 (host_Host_why x0 53 r24.2).bind fun (r25 : ((Int × Unit) × Heap)) =>
 some ((r25.1.1, ()), r25.2)) (
 some ((0, ()), r24.2)))))))
noncomputable def host_Host_Program.c : Callee := .full [.one .ptr, .one (.int .i64), .one (.int .i64), .one .str, .one .str] [.one (.int .i64)] (fun x H => host_Host_Program x.1 x.2.1 x.2.2.1 x.2.2.2.1 x.2.2.2.2.1 H)
noncomputable def host_Host_Program.calls : Nat → Option Callee
  | 0 => some host_Host_begin.c
  | 1 => some host_Host_clean.c
  | 2 => some bus_Bus_Command.c
  | 3 => some host_Host_send.c
  | 4 => some bus_Bus_In.c
  | 5 => some host_Host_wait.c
  | 6 => some host_Host_failed.c
  | 7 => some host_Host_why.c
  | _ => none
theorem host_Host_Program.eq : evFull host_Host_Program.calls host_Host_Program.af = (fun x H => host_Host_Program x.1 x.2.1 x.2.2.1 x.2.2.2.1 x.2.2.2.2.1 H) := by kernel_rfl

/-! ### (*tinderbox/host.Host).Erase -/
def host_Host_Erase.af : AFun := ⟨[.one .ptr, .one (.int .i64)], [.one (.int .i64)], [.t 4],
 .seq (.reg [.op ⟨0, some 4, .mv (.c (.one (.int .i64 0))), none⟩])
 (.seq (.reg [.op ⟨0, some 9, .mv (.t 0), none⟩,
  .op ⟨1, some 10, .mv (.t 1), none⟩,
  .op ⟨2, some 11, .call 0 [(.t 9), (.t 10), (.c (.one (.int .i64 0)))], none⟩,
  .op ⟨3, some 8, .mv (.t 11), none⟩,
  .op ⟨4, some 12, .ext (.t 8) 0, none⟩,
  .op ⟨5, some 13, .ext (.t 8) 1, none⟩,
  .op ⟨6, some 5, .mv (.t 12), none⟩,
  .op ⟨7, some 6, .mv (.t 13), none⟩])
 (.seq (.seq (.reg [.op ⟨0, some 14, .mv (.t 6), none⟩,
  .op ⟨1, some 15, .bin .neq (.t 14) (.c (.one (.int .i64 0))), none⟩])
 (.cond (.t 15) (.seq (.reg [.op ⟨0, some 16, .mv (.t 6), none⟩,
  .op ⟨1, some 4, .mv (.t 16), none⟩])
 (.ret)) (.skip)))
 (.seq (.reg [.op ⟨0, some 17, .mv (.t 0), none⟩,
  .op ⟨1, some 18, .nilc (.t 17), none⟩,
  .op ⟨2, some 19, .addr 0 (.t 18), none⟩,
  .op ⟨3, some 20, .load (.one .ptr) (.t 19), none⟩,
  .op ⟨4, some 21, .call 1 [(.t 20), (.c (.one (.int .u8 96)))], none⟩])
 (.seq (.reg [.op ⟨0, some 22, .mv (.t 0), none⟩,
  .op ⟨1, some 23, .mv (.t 5), none⟩,
  .op ⟨2, some 24, .call 2 [(.t 22), (.t 23), (.c (.one (.int .i64 3)))], none⟩])
 (.seq (.reg [.op ⟨0, some 25, .mv (.t 0), none⟩,
  .op ⟨1, some 26, .nilc (.t 25), none⟩,
  .op ⟨2, some 27, .addr 0 (.t 26), none⟩,
  .op ⟨3, some 28, .load (.one .ptr) (.t 27), none⟩,
  .op ⟨4, some 29, .call 1 [(.t 28), (.c (.one (.int .u8 208)))], none⟩])
 (.seq (.seq (.reg [.op ⟨0, some 30, .mv (.t 0), none⟩,
  .op ⟨1, some 31, .call 3 [(.t 30)], none⟩,
  .op ⟨2, some 7, .mv (.t 31), none⟩])
 (.seq (.reg [.op ⟨0, some 32, .mv (.t 7), none⟩,
  .op ⟨1, some 33, .bin .neq (.t 32) (.c (.one (.int .i64 0))), none⟩])
 (.cond (.t 33) (.seq (.reg [.op ⟨0, some 34, .mv (.t 7), none⟩,
  .op ⟨1, some 4, .mv (.t 34), none⟩])
 (.ret)) (.skip))))
 (.seq (.seq (.reg [.op ⟨0, some 35, .mv (.t 0), none⟩,
  .op ⟨1, some 36, .call 4 [(.t 35)], none⟩])
 (.cond (.t 36) (.seq (.reg [.op ⟨0, some 37, .mv (.t 0), none⟩,
  .op ⟨1, some 38, .call 5 [(.t 37), (.c (.one (.int .i64 54)))], none⟩,
  .op ⟨2, some 4, .mv (.t 38), none⟩])
 (.ret)) (.skip)))
 (.seq (.reg [.op ⟨0, some 4, .mv (.c (.one (.int .i64 0))), none⟩])
 (.ret)))))))))⟩
noncomputable def host_Host_Erase (x0 : Ptr) (x1 : Int) (H : Heap) : Option ((Int × Unit) × Heap) :=
 (host_Host_begin x0 x1 0 H).bind fun (r1 : ((Int × Int × Unit) × Heap)) =>
 cond (!decide (r1.1.2.1 = 0)) (
 some ((r1.1.2.1, ()), r1.2)) (
 (x0).bind fun (a2 : Nat × Nat) =>
 (rdP r1.2 a2.1 a2.2).bind fun (v3 : Ptr) =>
 (bus_Bus_Command v3 96 r1.2).bind fun (r4 : ((Unit) × Heap)) =>
 (host_Host_send x0 r1.1.1 3 r4.2).bind fun (r5 : ((Unit) × Heap)) =>
 (x0).bind fun (a6 : Nat × Nat) =>
 (rdP r5.2 a6.1 a6.2).bind fun (v7 : Ptr) =>
 (bus_Bus_Command v7 208 r5.2).bind fun (r8 : ((Unit) × Heap)) =>
 (host_Host_wait x0 r8.2).bind fun (r9 : ((Int × Unit) × Heap)) =>
 cond (!decide (r9.1.1 = 0)) (
 some ((r9.1.1, ()), r9.2)) (
 (host_Host_failed x0 r9.2).bind fun (r10 : ((Bool × Unit) × Heap)) =>
 cond r10.1.1 (
 (host_Host_why x0 54 r10.2).bind fun (r11 : ((Int × Unit) × Heap)) =>
 some ((r11.1.1, ()), r11.2)) (
 some ((0, ()), r10.2))))
noncomputable def host_Host_Erase.c : Callee := .full [.one .ptr, .one (.int .i64)] [.one (.int .i64)] (fun x H => host_Host_Erase x.1 x.2.1 H)
noncomputable def host_Host_Erase.calls : Nat → Option Callee
  | 0 => some host_Host_begin.c
  | 1 => some bus_Bus_Command.c
  | 2 => some host_Host_send.c
  | 3 => some host_Host_wait.c
  | 4 => some host_Host_failed.c
  | 5 => some host_Host_why.c
  | _ => none
theorem host_Host_Erase.eq : evFull host_Host_Erase.calls host_Host_Erase.af = (fun x H => host_Host_Erase x.1 x.2.1 H) := by kernel_rfl

/-! ### (*tinderbox/host.Host).Mark -/
def host_Host_Mark.af : AFun := ⟨[.one .ptr, .one (.int .i64)], [.one (.int .i64)], [.t 4],
 .seq (.reg [.op ⟨0, some 4, .mv (.c (.one (.int .i64 0))), none⟩])
 (.seq (.reg [.op ⟨0, some 9, .mv (.t 0), none⟩,
  .op ⟨1, some 10, .mv (.t 1), none⟩,
  .op ⟨2, some 11, .call 0 [(.t 9), (.t 10), (.c (.one (.int .i64 0)))], none⟩,
  .op ⟨3, some 8, .mv (.t 11), none⟩,
  .op ⟨4, some 12, .ext (.t 8) 0, none⟩,
  .op ⟨5, some 13, .ext (.t 8) 1, none⟩,
  .op ⟨6, some 5, .mv (.t 12), none⟩,
  .op ⟨7, some 6, .mv (.t 13), none⟩])
 (.seq (.seq (.reg [.op ⟨0, some 14, .mv (.t 6), none⟩,
  .op ⟨1, some 15, .bin .neq (.t 14) (.c (.one (.int .i64 0))), none⟩])
 (.cond (.t 15) (.seq (.reg [.op ⟨0, some 16, .mv (.t 6), none⟩,
  .op ⟨1, some 4, .mv (.t 16), none⟩])
 (.ret)) (.skip)))
 (.seq (.reg [.op ⟨0, some 17, .mv (.t 0), none⟩,
  .op ⟨1, some 18, .nilc (.t 17), none⟩,
  .op ⟨2, some 19, .addr 0 (.t 18), none⟩,
  .op ⟨3, some 20, .load (.one .ptr) (.t 19), none⟩,
  .op ⟨4, some 21, .call 1 [(.t 20), (.c (.one (.int .u8 160)))], none⟩])
 (.seq (.reg [.op ⟨0, some 22, .mv (.t 0), none⟩,
  .op ⟨1, some 23, .mv (.t 5), none⟩,
  .op ⟨2, some 24, .call 2 [(.t 22), (.t 23), (.c (.one (.int .i64 3)))], none⟩])
 (.seq (.seq (.reg [.op ⟨0, some 25, .mv (.t 0), none⟩,
  .op ⟨1, some 26, .call 3 [(.t 25)], none⟩,
  .op ⟨2, some 7, .mv (.t 26), none⟩])
 (.seq (.reg [.op ⟨0, some 27, .mv (.t 7), none⟩,
  .op ⟨1, some 28, .bin .neq (.t 27) (.c (.one (.int .i64 0))), none⟩])
 (.cond (.t 28) (.seq (.reg [.op ⟨0, some 29, .mv (.t 7), none⟩,
  .op ⟨1, some 4, .mv (.t 29), none⟩])
 (.ret)) (.skip))))
 (.seq (.seq (.reg [.op ⟨0, some 30, .mv (.t 0), none⟩,
  .op ⟨1, some 31, .call 4 [(.t 30)], none⟩])
 (.cond (.t 31) (.seq (.reg [.op ⟨0, some 32, .mv (.t 0), none⟩,
  .op ⟨1, some 33, .call 5 [(.t 32), (.c (.one (.int .i64 53)))], none⟩,
  .op ⟨2, some 4, .mv (.t 33), none⟩])
 (.ret)) (.skip)))
 (.seq (.reg [.op ⟨0, some 4, .mv (.c (.one (.int .i64 0))), none⟩])
 (.ret))))))))⟩
noncomputable def host_Host_Mark (x0 : Ptr) (x1 : Int) (H : Heap) : Option ((Int × Unit) × Heap) :=
 (host_Host_begin x0 x1 0 H).bind fun (r1 : ((Int × Int × Unit) × Heap)) =>
 cond (!decide (r1.1.2.1 = 0)) (
 some ((r1.1.2.1, ()), r1.2)) (
 (x0).bind fun (a2 : Nat × Nat) =>
 (rdP r1.2 a2.1 a2.2).bind fun (v3 : Ptr) =>
 (bus_Bus_Command v3 160 r1.2).bind fun (r4 : ((Unit) × Heap)) =>
 (host_Host_send x0 r1.1.1 3 r4.2).bind fun (r5 : ((Unit) × Heap)) =>
 (host_Host_wait x0 r5.2).bind fun (r6 : ((Int × Unit) × Heap)) =>
 cond (!decide (r6.1.1 = 0)) (
 some ((r6.1.1, ()), r6.2)) (
 (host_Host_failed x0 r6.2).bind fun (r7 : ((Bool × Unit) × Heap)) =>
 cond r7.1.1 (
 (host_Host_why x0 53 r7.2).bind fun (r8 : ((Int × Unit) × Heap)) =>
 some ((r8.1.1, ()), r8.2)) (
 some ((0, ()), r7.2))))
noncomputable def host_Host_Mark.c : Callee := .full [.one .ptr, .one (.int .i64)] [.one (.int .i64)] (fun x H => host_Host_Mark x.1 x.2.1 H)
noncomputable def host_Host_Mark.calls : Nat → Option Callee
  | 0 => some host_Host_begin.c
  | 1 => some bus_Bus_Command.c
  | 2 => some host_Host_send.c
  | 3 => some host_Host_wait.c
  | 4 => some host_Host_failed.c
  | 5 => some host_Host_why.c
  | _ => none
theorem host_Host_Mark.eq : evFull host_Host_Mark.calls host_Host_Mark.af = (fun x H => host_Host_Mark x.1 x.2.1 H) := by kernel_rfl
end Ev
