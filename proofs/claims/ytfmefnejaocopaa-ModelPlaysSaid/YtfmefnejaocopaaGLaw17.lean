/- What the functions of the package Law17 compute: abstract code, and a function of plain Lean for each; the kernel checks that they are the same. Written by gen2.py. -/
import Derived.Test.YtfmefnejaocopaaEvCore
import Derived.Test.YtfmefnejaocopaaGRef07
import Derived.Test.YtfmefnejaocopaaGRef08
import Derived.Test.YtfmefnejaocopaaGRef16
import Derived.KernelRfl
set_option linter.unusedVariables false
set_option maxRecDepth 100000
namespace Ev
open Go (IntKind BinOp UnOp)

/-! ### tinderbox/tinderboxlaw17.sealed -/
def law17_sealed.af : AFun := ⟨[.agg [.sl 3, .sl 3, .sl 1, .sl 2], .one (.int .i64)], [.one (.int .i64)], [.t 4],
 .seq (.reg [.op ⟨0, some 2, .box (.t 0), none⟩,
  .op ⟨1, some 4, .mv (.c (.one (.int .i64 0))), none⟩])
 (.seq (.seq (.reg [.op ⟨0, some 5, .mv (.c (.one (.int .i64 0))), none⟩])
 (.block 0 (.loop [(5, .one (.int .i64))] [(.exit 0, []), (.ret, [(4, .one (.int .i64))])] (.seq (.seq (.reg [.op ⟨0, some 6, .mv (.t 5), none⟩,
  .op ⟨1, some 7, .addr 0 (.t 2), none⟩,
  .op ⟨2, some 8, .load (.one (.sl 3)) (.t 7), none⟩,
  .op ⟨3, some 9, .len (.t 8), none⟩,
  .op ⟨4, some 10, .bin .lss (.t 6) (.t 9), none⟩])
 (.cond (.t 10) (.skip) (.exit 0)))
 (.seq (.block 1 (.seq (.reg [.op ⟨0, some 13, .addr 0 (.t 2), none⟩,
  .op ⟨1, some 14, .load (.one (.sl 3)) (.t 13), none⟩,
  .op ⟨2, some 15, .mv (.t 5), none⟩,
  .op ⟨3, some 16, .idxa 3 (.t 14) (.t 15), none⟩,
  .op ⟨4, some 17, .addr 0 (.t 16), none⟩,
  .op ⟨5, some 18, .load (.one (.int .i64)) (.t 17), none⟩,
  .op ⟨6, some 19, .mv (.t 1), none⟩,
  .op ⟨7, some 20, .bin .eql (.t 18) (.t 19), none⟩])
 (.cond (.t 20) (.seq (.seq (.reg [.op ⟨0, some 21, .addr 0 (.t 2), none⟩,
  .op ⟨1, some 22, .load (.one (.sl 3)) (.t 21), none⟩,
  .op ⟨2, some 23, .mv (.t 5), none⟩,
  .op ⟨3, some 24, .idxa 3 (.t 22) (.t 23), none⟩,
  .op ⟨4, some 25, .addr 2 (.t 24), none⟩,
  .op ⟨5, some 26, .load (.one .bool) (.t 25), none⟩])
 (.cond (.t 26) (.seq (.reg [.op ⟨0, some 4, .mv (.c (.one (.int .i64 170))), none⟩])
 (.ret)) (.skip)))
 (.seq (.reg [.op ⟨0, some 4, .mv (.c (.one (.int .i64 0))), none⟩])
 (.ret))) (.skip))))
 (.reg [.op ⟨0, some 11, .mv (.t 5), none⟩,
  .op ⟨1, some 12, .bin .add (.t 11) (.c (.one (.int .i64 1))), none⟩,
  .op ⟨2, some 5, .mv (.t 12), none⟩]))))))
 (.seq (.reg [.op ⟨0, some 4, .mv (.c (.one (.int .i64 80))), none⟩])
 (.ret)))⟩
noncomputable def law17_sealed.s1 (x1 : Int) (H : Heap) (s2 : (Int × Unit)) (H3 : Heap) : Option (((Int × Unit) ⊕ ((Unit) ⊕ (Int × Unit))) × Heap) :=
 (rdSl 3 H3 H.length 0).bind fun (v4 : Sl) =>
 cond (decide (s2.1 < (v4.len : Int))) (
 (rdSl 3 H3 H.length 0).bind fun (v5 : Sl) =>
 (Sl.at 3 v5 s2.1).bind fun (a6 : (Nat × Nat)) =>
 (rdI .i64 H3 a6.1 a6.2).bind fun (v7 : Int) =>
 cond (decide (v7 = x1)) (
 (rdSl 3 H3 H.length 0).bind fun (v8 : Sl) =>
 (Sl.at 3 v8 s2.1).bind fun (a9 : (Nat × Nat)) =>
 (rdB H3 a9.1 (a9.2 + 2)).bind fun (v10 : Bool) =>
 cond v10 (
 some (Sum.inr (Sum.inr (170, ())), H3)) (
 some (Sum.inr (Sum.inr (0, ())), H3))) (
 some (Sum.inl ((IntKind.wrap .i64 (s2.1 + 1)), ()), H3))) (
 some (Sum.inr (Sum.inl (())), H3))
noncomputable def law17_sealed (x0 : (Sl × Sl × Sl × Sl × Unit)) (x1 : Int) (H : Heap) : Option ((Int × Unit) × Heap) :=
 let H1 : Heap := H ++ [Blk.cells [.sl 3 x0.1, .sl 3 x0.2.1, .sl 1 x0.2.2.1, .sl 2 x0.2.2.2.1] .exact]
 (loopW (law17_sealed.s1 x1 H) (0, ()) H1).bind fun (p11 : ((Unit) ⊕ (Int × Unit)) × Heap) =>
 Sum.elim (fun (y12 : (Unit)) =>
 some ((80, ()), p11.2)) (fun (z13 : (Int × Unit)) =>
 some ((z13.1, ()), p11.2)) p11.1
noncomputable def law17_sealed.c : Callee := .full [.agg [.sl 3, .sl 3, .sl 1, .sl 2], .one (.int .i64)] [.one (.int .i64)] (fun x H => law17_sealed x.1 x.2.1 H)
noncomputable def law17_sealed.calls : Nat → Option Callee
  | _ => none
theorem law17_sealed.eq : evFull law17_sealed.calls law17_sealed.af = (fun x H => law17_sealed x.1 x.2.1 H) := by kernel_rfl

/-! ### (tinderbox/tinderboxlaw17.Plain).Put -/
def law17_Plain_Put.af : AFun := ⟨[.agg [.sl 3, .sl 3, .sl 1, .sl 2, .sl 1, .int .i64], .one (.int .i64), .one (.int .i64), .one .str, .agg [.int .i64, .int .i64, .int .i64, .int .i64], .one (.int .i64)], [.agg [.sl 3, .sl 3, .sl 1, .sl 2, .sl 1, .int .i64], .one (.int .i64)], [.cell 12, .t 13],
 .seq (.reg [.op ⟨0, some 6, .box (.t 0), none⟩,
  .op ⟨1, some 10, .box (.t 4), none⟩,
  .op ⟨2, some 12, .new [.sl 3 Sl.nil, .sl 3 Sl.nil, .sl 1 Sl.nil, .sl 2 Sl.nil, .sl 1 Sl.nil, .int .i64 0], none⟩,
  .op ⟨3, some 13, .mv (.c (.one (.int .i64 0))), none⟩])
 (.seq (.seq (.reg [.op ⟨0, some 16, .mv (.t 3), none⟩,
  .op ⟨1, some 17, .lens (.t 16), none⟩,
  .op ⟨2, some 18, .mv (.t 5), none⟩,
  .op ⟨3, some 19, .bin .gtr (.t 17) (.t 18), none⟩])
 (.cond (.t 19) (.seq (.reg [.op ⟨0, some 20, .load (.agg [.sl 3, .sl 3, .sl 1, .sl 2, .sl 1, .int .i64]) (.t 6), none⟩,
  .op ⟨1, none, .store 6 (.t 12) (.t 20), none⟩,
  .op ⟨2, some 13, .mv (.c (.one (.int .i64 173))), none⟩])
 (.ret)) (.skip)))
 (.seq (.seq (.reg [.op ⟨0, some 21, .addr 0 (.t 6), none⟩,
  .op ⟨1, some 22, .addr 0 (.t 21), none⟩,
  .op ⟨2, some 23, .load (.agg [.sl 3, .sl 3, .sl 1, .sl 2]) (.t 22), none⟩,
  .op ⟨3, some 24, .mv (.t 1), none⟩,
  .op ⟨4, some 25, .call 0 [(.t 23), (.t 24)], none⟩,
  .op ⟨5, some 14, .mv (.t 25), none⟩])
 (.seq (.reg [.op ⟨0, some 26, .mv (.t 14), none⟩,
  .op ⟨1, some 27, .bin .neq (.t 26) (.c (.one (.int .i64 0))), none⟩])
 (.cond (.t 27) (.seq (.reg [.op ⟨0, some 28, .load (.agg [.sl 3, .sl 3, .sl 1, .sl 2, .sl 1, .int .i64]) (.t 6), none⟩,
  .op ⟨1, some 29, .mv (.t 14), none⟩,
  .op ⟨2, none, .store 6 (.t 12) (.t 28), none⟩,
  .op ⟨3, some 13, .mv (.t 29), none⟩])
 (.ret)) (.skip))))
 (.seq (.seq (.reg [.op ⟨0, some 30, .addr 5 (.t 6), none⟩,
  .op ⟨1, some 31, .load (.one (.int .i64)) (.t 30), none⟩,
  .op ⟨2, some 32, .bin .geq (.t 31) (.c (.one (.int .i64 8))), none⟩])
 (.cond (.t 32) (.seq (.reg [.op ⟨0, some 33, .load (.agg [.sl 3, .sl 3, .sl 1, .sl 2, .sl 1, .int .i64]) (.t 6), none⟩,
  .op ⟨1, none, .store 6 (.t 12) (.t 33), none⟩,
  .op ⟨2, some 13, .mv (.c (.one (.int .i64 171))), none⟩])
 (.ret)) (.skip)))
 (.seq (.reg [.op ⟨0, some 35, .addr 0 (.t 6), none⟩,
  .op ⟨1, some 36, .load (.agg [.sl 3, .sl 3, .sl 1, .sl 2, .sl 1]) (.t 35), none⟩,
  .op ⟨2, some 37, .mv (.t 1), none⟩,
  .op ⟨3, some 38, .mv (.t 2), none⟩,
  .op ⟨4, some 39, .mv (.t 3), none⟩,
  .op ⟨5, some 40, .call 1 [(.t 36), (.t 37), (.t 38), (.t 39)], none⟩,
  .op ⟨6, some 34, .mv (.t 40), none⟩,
  .op ⟨7, some 41, .ext (.t 34) 0, none⟩,
  .op ⟨8, some 42, .ext (.t 34) 1, none⟩,
  .op ⟨9, some 15, .new [.sl 3 Sl.nil, .sl 3 Sl.nil, .sl 1 Sl.nil, .sl 2 Sl.nil, .sl 1 Sl.nil], none⟩,
  .op ⟨10, none, .store 5 (.t 15) (.t 41), none⟩,
  .op ⟨11, some 13, .mv (.t 42), none⟩])
 (.seq (.seq (.reg [.op ⟨0, some 43, .mv (.t 13), none⟩,
  .op ⟨1, some 44, .bin .neq (.t 43) (.c (.one (.int .i64 0))), none⟩])
 (.cond (.t 44) (.seq (.reg [.op ⟨0, some 45, .load (.agg [.sl 3, .sl 3, .sl 1, .sl 2, .sl 1, .int .i64]) (.t 6), none⟩,
  .op ⟨1, some 46, .mv (.t 13), none⟩,
  .op ⟨2, none, .store 6 (.t 12) (.t 45), none⟩,
  .op ⟨3, some 13, .mv (.t 46), none⟩])
 (.ret)) (.skip)))
 (.seq (.seq (.reg [.op ⟨0, some 47, .load (.agg [.sl 3, .sl 3, .sl 1, .sl 2, .sl 1]) (.t 15), none⟩,
  .op ⟨1, some 48, .load (.agg [.int .i64, .int .i64, .int .i64, .int .i64]) (.t 10), none⟩,
  .op ⟨2, some 49, .call 2 [(.t 47), (.t 48)], none⟩,
  .op ⟨3, some 50, .un .not (.t 49), none⟩])
 (.cond (.t 50) (.seq (.reg [.op ⟨0, some 51, .load (.agg [.sl 3, .sl 3, .sl 1, .sl 2, .sl 1, .int .i64]) (.t 6), none⟩,
  .op ⟨1, none, .store 6 (.t 12) (.t 51), none⟩,
  .op ⟨2, some 13, .mv (.c (.one (.int .i64 172))), none⟩])
 (.ret)) (.skip)))
 (.seq (.reg [.op ⟨0, some 52, .load (.agg [.sl 3, .sl 3, .sl 1, .sl 2, .sl 1]) (.t 15), none⟩,
  .op ⟨1, some 53, .addr 5 (.t 6), none⟩,
  .op ⟨2, some 54, .load (.one (.int .i64)) (.t 53), none⟩,
  .op ⟨3, some 55, .bin .add (.t 54) (.c (.one (.int .i64 1))), none⟩,
  .op ⟨4, some 56, .build [.sl 3 Sl.nil, .sl 3 Sl.nil, .sl 1 Sl.nil, .sl 2 Sl.nil, .sl 1 Sl.nil, .int .i64 0] [(0, 5, (.t 52)), (5, 1, (.t 55))], none⟩,
  .op ⟨5, none, .store 6 (.t 12) (.t 56), none⟩,
  .op ⟨6, some 13, .mv (.c (.one (.int .i64 0))), none⟩])
 (.ret))))))))⟩
noncomputable def law17_Plain_Put (x0 : (Sl × Sl × Sl × Sl × Sl × Int × Unit)) (x1 : Int) (x2 : Int) (x3 : Bytes) (x4 : (Int × Int × Int × Int × Unit)) (x5 : Int) (H : Heap) : Option (((Sl × Sl × Sl × Sl × Sl × Int × Unit) × Int × Unit) × Heap) :=
 let H1 : Heap := H ++ [Blk.cells [.sl 3 x0.1, .sl 3 x0.2.1, .sl 1 x0.2.2.1, .sl 2 x0.2.2.2.1, .sl 1 x0.2.2.2.2.1, .int .i64 x0.2.2.2.2.2.1] .exact]
 let H2 : Heap := H1 ++ [Blk.cells [.int .i64 x4.1, .int .i64 x4.2.1, .int .i64 x4.2.2.1, .int .i64 x4.2.2.2.1] .exact]
 let H3 : Heap := H2 ++ [Blk.cells [.sl 3 Sl.nil, .sl 3 Sl.nil, .sl 1 Sl.nil, .sl 2 Sl.nil, .sl 1 Sl.nil, .int .i64 0] .exact]
 cond (decide (x5 < (List.length (x3 : Bytes) : Int))) (
 Option.bind (α := (Sl × Sl × Sl × Sl × Sl × Int × Unit)) (rd H3 (.agg [.sl 3, .sl 3, .sl 1, .sl 2, .sl 1, .int .i64]) H.length 0) fun (v4 : (Sl × Sl × Sl × Sl × Sl × Int × Unit)) =>
 (wr H3 H2.length 0 [.sl 3 v4.1, .sl 3 v4.2.1, .sl 1 v4.2.2.1, .sl 2 v4.2.2.2.1, .sl 1 v4.2.2.2.2.1, .int .i64 v4.2.2.2.2.2.1]).bind fun (H5 : Heap) =>
 Option.bind (α := (Sl × Sl × Sl × Sl × Sl × Int × Unit)) (rd H5 (.agg [.sl 3, .sl 3, .sl 1, .sl 2, .sl 1, .int .i64]) H2.length 0) fun (v6 : (Sl × Sl × Sl × Sl × Sl × Int × Unit)) =>
 some ((v6, 173, ()), H5)) (
 Option.bind (α := (Sl × Sl × Sl × Sl × Unit)) (rd H3 (.agg [.sl 3, .sl 3, .sl 1, .sl 2]) H.length 0) fun (v7 : (Sl × Sl × Sl × Sl × Unit)) =>
 (law17_sealed (v7.1, v7.2.1, v7.2.2.1, v7.2.2.2.1, ()) x1 H3).bind fun (r8 : ((Int × Unit) × Heap)) =>
 cond (!decide (r8.1.1 = 0)) (
 Option.bind (α := (Sl × Sl × Sl × Sl × Sl × Int × Unit)) (rd r8.2 (.agg [.sl 3, .sl 3, .sl 1, .sl 2, .sl 1, .int .i64]) H.length 0) fun (v9 : (Sl × Sl × Sl × Sl × Sl × Int × Unit)) =>
 (wr r8.2 H2.length 0 [.sl 3 v9.1, .sl 3 v9.2.1, .sl 1 v9.2.2.1, .sl 2 v9.2.2.2.1, .sl 1 v9.2.2.2.2.1, .int .i64 v9.2.2.2.2.2.1]).bind fun (H10 : Heap) =>
 Option.bind (α := (Sl × Sl × Sl × Sl × Sl × Int × Unit)) (rd H10 (.agg [.sl 3, .sl 3, .sl 1, .sl 2, .sl 1, .int .i64]) H2.length 0) fun (v11 : (Sl × Sl × Sl × Sl × Sl × Int × Unit)) =>
 some ((v11, r8.1.1, ()), H10)) (
 (rdI .i64 r8.2 H.length 5).bind fun (v12 : Int) =>
 cond (decide (8 ≤ v12)) (
 Option.bind (α := (Sl × Sl × Sl × Sl × Sl × Int × Unit)) (rd r8.2 (.agg [.sl 3, .sl 3, .sl 1, .sl 2, .sl 1, .int .i64]) H.length 0) fun (v13 : (Sl × Sl × Sl × Sl × Sl × Int × Unit)) =>
 (wr r8.2 H2.length 0 [.sl 3 v13.1, .sl 3 v13.2.1, .sl 1 v13.2.2.1, .sl 2 v13.2.2.2.1, .sl 1 v13.2.2.2.2.1, .int .i64 v13.2.2.2.2.2.1]).bind fun (H14 : Heap) =>
 Option.bind (α := (Sl × Sl × Sl × Sl × Sl × Int × Unit)) (rd H14 (.agg [.sl 3, .sl 3, .sl 1, .sl 2, .sl 1, .int .i64]) H2.length 0) fun (v15 : (Sl × Sl × Sl × Sl × Sl × Int × Unit)) =>
 some ((v15, 171, ()), H14)) (
 Option.bind (α := (Sl × Sl × Sl × Sl × Sl × Unit)) (rd r8.2 (.agg [.sl 3, .sl 3, .sl 1, .sl 2, .sl 1]) H.length 0) fun (v16 : (Sl × Sl × Sl × Sl × Sl × Unit)) =>
 (ref16_Plain_Put (v16.1, v16.2.1, v16.2.2.1, v16.2.2.2.1, v16.2.2.2.2.1, ()) x1 x2 x3 r8.2).bind fun (r17 : (((Sl × Sl × Sl × Sl × Sl × Unit) × Int × Unit) × Heap)) =>
 let H18 : Heap := r17.2 ++ [Blk.cells [.sl 3 Sl.nil, .sl 3 Sl.nil, .sl 1 Sl.nil, .sl 2 Sl.nil, .sl 1 Sl.nil] .exact]
 (wr H18 r17.2.length 0 [.sl 3 r17.1.1.1, .sl 3 r17.1.1.2.1, .sl 1 r17.1.1.2.2.1, .sl 2 r17.1.1.2.2.2.1, .sl 1 r17.1.1.2.2.2.2.1]).bind fun (H19 : Heap) =>
 cond (!decide (r17.1.2.1 = 0)) (
 Option.bind (α := (Sl × Sl × Sl × Sl × Sl × Int × Unit)) (rd H19 (.agg [.sl 3, .sl 3, .sl 1, .sl 2, .sl 1, .int .i64]) H.length 0) fun (v20 : (Sl × Sl × Sl × Sl × Sl × Int × Unit)) =>
 (wr H19 H2.length 0 [.sl 3 v20.1, .sl 3 v20.2.1, .sl 1 v20.2.2.1, .sl 2 v20.2.2.2.1, .sl 1 v20.2.2.2.2.1, .int .i64 v20.2.2.2.2.2.1]).bind fun (H21 : Heap) =>
 Option.bind (α := (Sl × Sl × Sl × Sl × Sl × Int × Unit)) (rd H21 (.agg [.sl 3, .sl 3, .sl 1, .sl 2, .sl 1, .int .i64]) H2.length 0) fun (v22 : (Sl × Sl × Sl × Sl × Sl × Int × Unit)) =>
 some ((v22, r17.1.2.1, ()), H21)) (
 Option.bind (α := (Sl × Sl × Sl × Sl × Sl × Unit)) (rd H19 (.agg [.sl 3, .sl 3, .sl 1, .sl 2, .sl 1]) r17.2.length 0) fun (v23 : (Sl × Sl × Sl × Sl × Sl × Unit)) =>
 Option.bind (α := (Int × Int × Int × Int × Unit)) (rd H19 (.agg [.int .i64, .int .i64, .int .i64, .int .i64]) H1.length 0) fun (v24 : (Int × Int × Int × Int × Unit)) =>
 (ref16_Plain_Fits (v23.1, v23.2.1, v23.2.2.1, v23.2.2.2.1, v23.2.2.2.2.1, ()) (v24.1, v24.2.1, v24.2.2.1, v24.2.2.2.1, ()) H19).bind fun (r25 : ((Bool × Unit) × Heap)) =>
 cond (!r25.1.1) (
 Option.bind (α := (Sl × Sl × Sl × Sl × Sl × Int × Unit)) (rd r25.2 (.agg [.sl 3, .sl 3, .sl 1, .sl 2, .sl 1, .int .i64]) H.length 0) fun (v26 : (Sl × Sl × Sl × Sl × Sl × Int × Unit)) =>
 (wr r25.2 H2.length 0 [.sl 3 v26.1, .sl 3 v26.2.1, .sl 1 v26.2.2.1, .sl 2 v26.2.2.2.1, .sl 1 v26.2.2.2.2.1, .int .i64 v26.2.2.2.2.2.1]).bind fun (H27 : Heap) =>
 Option.bind (α := (Sl × Sl × Sl × Sl × Sl × Int × Unit)) (rd H27 (.agg [.sl 3, .sl 3, .sl 1, .sl 2, .sl 1, .int .i64]) H2.length 0) fun (v28 : (Sl × Sl × Sl × Sl × Sl × Int × Unit)) =>
 some ((v28, 172, ()), H27)) (
 Option.bind (α := (Sl × Sl × Sl × Sl × Sl × Unit)) (rd r25.2 (.agg [.sl 3, .sl 3, .sl 1, .sl 2, .sl 1]) r17.2.length 0) fun (v29 : (Sl × Sl × Sl × Sl × Sl × Unit)) =>
 (rdI .i64 r25.2 H.length 5).bind fun (v30 : Int) =>
 (wr r25.2 H2.length 0 [.sl 3 v29.1, .sl 3 v29.2.1, .sl 1 v29.2.2.1, .sl 2 v29.2.2.2.1, .sl 1 v29.2.2.2.2.1, .int .i64 (IntKind.wrap .i64 (v30 + 1))]).bind fun (H31 : Heap) =>
 Option.bind (α := (Sl × Sl × Sl × Sl × Sl × Int × Unit)) (rd H31 (.agg [.sl 3, .sl 3, .sl 1, .sl 2, .sl 1, .int .i64]) H2.length 0) fun (v32 : (Sl × Sl × Sl × Sl × Sl × Int × Unit)) =>
 some ((v32, 0, ()), H31))))))
noncomputable def law17_Plain_Put.c : Callee := .full [.agg [.sl 3, .sl 3, .sl 1, .sl 2, .sl 1, .int .i64], .one (.int .i64), .one (.int .i64), .one .str, .agg [.int .i64, .int .i64, .int .i64, .int .i64], .one (.int .i64)] [.agg [.sl 3, .sl 3, .sl 1, .sl 2, .sl 1, .int .i64], .one (.int .i64)] (fun x H => law17_Plain_Put x.1 x.2.1 x.2.2.1 x.2.2.2.1 x.2.2.2.2.1 x.2.2.2.2.2.1 H)
noncomputable def law17_Plain_Put.calls : Nat → Option Callee
  | 0 => some law17_sealed.c
  | 1 => some ref16_Plain_Put.c
  | 2 => some ref16_Plain_Fits.c
  | _ => none
theorem law17_Plain_Put.eq : evFull law17_Plain_Put.calls law17_Plain_Put.af = (fun x H => law17_Plain_Put x.1 x.2.1 x.2.2.1 x.2.2.2.1 x.2.2.2.2.1 x.2.2.2.2.2.1 H) := by kernel_rfl

/-! ### (tinderbox/tinderboxlaw17.Plain).Do -/
def law17_Plain_Do.af : AFun := ⟨[.agg [.sl 3, .sl 3, .sl 1, .sl 2, .sl 1, .int .i64], .agg [.int .i64, .int .i64, .int .i64, .int .i64, .int .i64, .int .i64], .agg [.int .i64, .int .i64, .int .i64, .int .i64]], [.agg [.sl 3, .sl 3, .sl 1, .sl 2, .sl 1, .int .i64], .one (.int .i64)], [.cell 6, .t 7],
 .seq (.reg [.op ⟨0, some 3, .box (.t 0), none⟩,
  .op ⟨1, some 4, .box (.t 1), none⟩,
  .op ⟨2, some 5, .box (.t 2), none⟩,
  .op ⟨3, some 6, .new [.sl 3 Sl.nil, .sl 3 Sl.nil, .sl 1 Sl.nil, .sl 2 Sl.nil, .sl 1 Sl.nil, .int .i64 0], none⟩,
  .op ⟨4, some 7, .mv (.c (.one (.int .i64 0))), none⟩])
 (.seq (.scope [(.normal, []), (.ret, [(7, .one (.int .i64))])] (.seq (.reg [.op ⟨0, some 11, .addr 0 (.t 4), none⟩,
  .op ⟨1, some 12, .load (.one (.int .i64)) (.t 11), none⟩,
  .op ⟨2, some 13, .bin .eql (.t 12) (.c (.one (.int .i64 2))), none⟩,
  .op ⟨3, some 14, .mv (.t 13), none⟩,
  .op ⟨4, some 15, .addr 0 (.t 4), some (14, false)⟩,
  .op ⟨5, some 16, .load (.one (.int .i64)) (.t 15), some (14, false)⟩,
  .op ⟨6, some 17, .bin .geq (.t 16) (.c (.one (.int .i64 4))), some (14, false)⟩,
  .op ⟨7, some 18, .mv (.t 17), some (14, false)⟩,
  .op ⟨8, some 19, .addr 0 (.t 4), some (18, true)⟩,
  .op ⟨9, some 20, .load (.one (.int .i64)) (.t 19), some (18, true)⟩,
  .op ⟨10, some 21, .bin .leq (.t 20) (.c (.one (.int .i64 7))), some (18, true)⟩,
  .op ⟨11, some 22, .pick (.t 18) (.t 21) (.c (.one (.bool false))), some (14, false)⟩,
  .op ⟨12, some 23, .pick (.t 14) (.c (.one (.bool true))) (.t 22), none⟩,
  .op ⟨13, some 24, .un .not (.t 23), none⟩,
  .op ⟨14, some 25, .mv (.t 24), none⟩,
  .op ⟨15, some 26, .load (.agg [.int .i64, .int .i64, .int .i64, .int .i64, .int .i64, .int .i64]) (.t 4), some (25, false)⟩,
  .op ⟨16, some 27, .call 0 [(.t 26)], some (25, false)⟩,
  .op ⟨17, some 28, .un .not (.t 27), some (25, false)⟩,
  .op ⟨18, some 29, .pick (.t 25) (.c (.one (.bool true))) (.t 28), none⟩])
 (.cond (.t 29) (.seq (.reg [.op ⟨0, some 30, .load (.agg [.sl 3, .sl 3, .sl 1, .sl 2, .sl 1, .int .i64]) (.t 3), none⟩,
  .op ⟨1, none, .store 6 (.t 6) (.t 30), none⟩,
  .op ⟨2, some 7, .mv (.c (.one (.int .i64 1))), none⟩])
 (.ret)) (.skip))))
 (.seq (.scope [(.normal, []), (.ret, [(7, .one (.int .i64))])] (.seq (.reg [.op ⟨0, some 31, .addr 0 (.t 4), none⟩,
  .op ⟨1, some 32, .load (.one (.int .i64)) (.t 31), none⟩,
  .op ⟨2, some 33, .bin .eql (.t 32) (.c (.one (.int .i64 2))), none⟩])
 (.cond (.t 33) (.seq (.reg [.op ⟨0, some 34, .addr 0 (.t 3), none⟩,
  .op ⟨1, some 35, .addr 0 (.t 34), none⟩,
  .op ⟨2, some 36, .load (.agg [.sl 3, .sl 3, .sl 1, .sl 2]) (.t 35), none⟩,
  .op ⟨3, some 37, .addr 1 (.t 4), none⟩,
  .op ⟨4, some 38, .load (.one (.int .i64)) (.t 37), none⟩,
  .op ⟨5, some 39, .call 1 [(.t 36), (.t 38)], none⟩,
  .op ⟨6, some 8, .mv (.t 39), none⟩])
 (.seq (.reg [.op ⟨0, some 40, .mv (.t 8), none⟩,
  .op ⟨1, some 41, .bin .neq (.t 40) (.c (.one (.int .i64 0))), none⟩])
 (.cond (.t 41) (.seq (.reg [.op ⟨0, some 42, .load (.agg [.sl 3, .sl 3, .sl 1, .sl 2, .sl 1, .int .i64]) (.t 3), none⟩,
  .op ⟨1, some 43, .mv (.t 8), none⟩,
  .op ⟨2, none, .store 6 (.t 6) (.t 42), none⟩,
  .op ⟨3, some 7, .mv (.t 43), none⟩])
 (.ret)) (.skip)))) (.skip))))
 (.seq (.seq (.reg [.op ⟨0, some 44, .addr 5 (.t 3), none⟩,
  .op ⟨1, some 45, .load (.one (.int .i64)) (.t 44), none⟩,
  .op ⟨2, some 46, .bin .geq (.t 45) (.c (.one (.int .i64 8))), none⟩])
 (.cond (.t 46) (.seq (.reg [.op ⟨0, some 47, .load (.agg [.sl 3, .sl 3, .sl 1, .sl 2, .sl 1, .int .i64]) (.t 3), none⟩,
  .op ⟨1, none, .store 6 (.t 6) (.t 47), none⟩,
  .op ⟨2, some 7, .mv (.c (.one (.int .i64 171))), none⟩])
 (.ret)) (.skip)))
 (.seq (.reg [.op ⟨0, some 49, .addr 0 (.t 3), none⟩,
  .op ⟨1, some 50, .addr 0 (.t 49), none⟩,
  .op ⟨2, some 51, .load (.agg [.sl 3, .sl 3, .sl 1, .sl 2]) (.t 50), none⟩,
  .op ⟨3, some 52, .load (.agg [.int .i64, .int .i64, .int .i64, .int .i64, .int .i64, .int .i64]) (.t 4), none⟩,
  .op ⟨4, some 53, .call 2 [(.t 51), (.t 52)], none⟩,
  .op ⟨5, some 48, .mv (.t 53), none⟩,
  .op ⟨6, some 54, .ext (.t 48) 0, none⟩,
  .op ⟨7, some 55, .ext (.t 48) 1, none⟩,
  .op ⟨8, some 9, .new [.sl 3 Sl.nil, .sl 3 Sl.nil, .sl 1 Sl.nil, .sl 2 Sl.nil], none⟩,
  .op ⟨9, none, .store 4 (.t 9) (.t 54), none⟩,
  .op ⟨10, some 7, .mv (.t 55), none⟩])
 (.seq (.seq (.reg [.op ⟨0, some 56, .mv (.t 7), none⟩,
  .op ⟨1, some 57, .bin .neq (.t 56) (.c (.one (.int .i64 0))), none⟩])
 (.cond (.t 57) (.seq (.reg [.op ⟨0, some 58, .load (.agg [.sl 3, .sl 3, .sl 1, .sl 2, .sl 1, .int .i64]) (.t 3), none⟩,
  .op ⟨1, some 59, .mv (.t 7), none⟩,
  .op ⟨2, none, .store 6 (.t 6) (.t 58), none⟩,
  .op ⟨3, some 7, .mv (.t 59), none⟩])
 (.ret)) (.skip)))
 (.seq (.reg [.op ⟨0, some 60, .load (.agg [.sl 3, .sl 3, .sl 1, .sl 2]) (.t 9), none⟩,
  .op ⟨1, some 61, .addr 0 (.t 3), none⟩,
  .op ⟨2, some 62, .addr 4 (.t 61), none⟩,
  .op ⟨3, some 63, .load (.one (.sl 1)) (.t 62), none⟩,
  .op ⟨4, some 64, .build [.sl 3 Sl.nil, .sl 3 Sl.nil, .sl 1 Sl.nil, .sl 2 Sl.nil, .sl 1 Sl.nil] [(0, 4, (.t 60)), (4, 1, (.t 63))], none⟩,
  .op ⟨5, some 10, .new [.sl 3 Sl.nil, .sl 3 Sl.nil, .sl 1 Sl.nil, .sl 2 Sl.nil, .sl 1 Sl.nil], none⟩,
  .op ⟨6, none, .store 5 (.t 10) (.t 64), none⟩])
 (.seq (.seq (.reg [.op ⟨0, some 65, .load (.agg [.sl 3, .sl 3, .sl 1, .sl 2, .sl 1]) (.t 10), none⟩,
  .op ⟨1, some 66, .load (.agg [.int .i64, .int .i64, .int .i64, .int .i64]) (.t 5), none⟩,
  .op ⟨2, some 67, .call 3 [(.t 65), (.t 66)], none⟩,
  .op ⟨3, some 68, .un .not (.t 67), none⟩])
 (.cond (.t 68) (.seq (.reg [.op ⟨0, some 69, .load (.agg [.sl 3, .sl 3, .sl 1, .sl 2, .sl 1, .int .i64]) (.t 3), none⟩,
  .op ⟨1, none, .store 6 (.t 6) (.t 69), none⟩,
  .op ⟨2, some 7, .mv (.c (.one (.int .i64 172))), none⟩])
 (.ret)) (.skip)))
 (.seq (.reg [.op ⟨0, some 70, .load (.agg [.sl 3, .sl 3, .sl 1, .sl 2, .sl 1]) (.t 10), none⟩,
  .op ⟨1, some 71, .addr 5 (.t 3), none⟩,
  .op ⟨2, some 72, .load (.one (.int .i64)) (.t 71), none⟩,
  .op ⟨3, some 73, .bin .add (.t 72) (.c (.one (.int .i64 1))), none⟩,
  .op ⟨4, some 74, .build [.sl 3 Sl.nil, .sl 3 Sl.nil, .sl 1 Sl.nil, .sl 2 Sl.nil, .sl 1 Sl.nil, .int .i64 0] [(0, 5, (.t 70)), (5, 1, (.t 73))], none⟩,
  .op ⟨5, none, .store 6 (.t 6) (.t 74), none⟩,
  .op ⟨6, some 7, .mv (.c (.one (.int .i64 0))), none⟩])
 (.ret)))))))))⟩
noncomputable def law17_Plain_Do (x0 : (Sl × Sl × Sl × Sl × Sl × Int × Unit)) (x1 : (Int × Int × Int × Int × Int × Int × Unit)) (x2 : (Int × Int × Int × Int × Unit)) (H : Heap) : Option (((Sl × Sl × Sl × Sl × Sl × Int × Unit) × Int × Unit) × Heap) :=
 let H1 : Heap := H ++ [Blk.cells [.sl 3 x0.1, .sl 3 x0.2.1, .sl 1 x0.2.2.1, .sl 2 x0.2.2.2.1, .sl 1 x0.2.2.2.2.1, .int .i64 x0.2.2.2.2.2.1] .exact]
 let H2 : Heap := H1 ++ [Blk.cells [.int .i64 x1.1, .int .i64 x1.2.1, .int .i64 x1.2.2.1, .int .i64 x1.2.2.2.1, .int .i64 x1.2.2.2.2.1, .int .i64 x1.2.2.2.2.2.1] .exact]
 let H3 : Heap := H2 ++ [Blk.cells [.int .i64 x2.1, .int .i64 x2.2.1, .int .i64 x2.2.2.1, .int .i64 x2.2.2.2.1] .exact]
 let H4 : Heap := H3 ++ [Blk.cells [.sl 3 Sl.nil, .sl 3 Sl.nil, .sl 1 Sl.nil, .sl 2 Sl.nil, .sl 1 Sl.nil, .int .i64 0] .exact]
 ((rdI .i64 H4 H1.length 0).bind fun (v5 : Int) =>
 cond (decide (v5 = 2)) (
 Option.bind (α := (Int × Int × Int × Int × Int × Int × Unit)) (rd H4 (.agg [.int .i64, .int .i64, .int .i64, .int .i64, .int .i64, .int .i64]) H1.length 0) fun (v6 : (Int × Int × Int × Int × Int × Int × Unit)) =>
 (ref07_Check (v6.1, v6.2.1, v6.2.2.1, v6.2.2.2.1, v6.2.2.2.2.1, v6.2.2.2.2.2.1, ())).bind fun (r7 : (Bool × Unit)) =>
 cond (!r7.1) (
 Option.bind (α := (Sl × Sl × Sl × Sl × Sl × Int × Unit)) (rd H4 (.agg [.sl 3, .sl 3, .sl 1, .sl 2, .sl 1, .int .i64]) H.length 0) fun (v8 : (Sl × Sl × Sl × Sl × Sl × Int × Unit)) =>
 (wr H4 H3.length 0 [.sl 3 v8.1, .sl 3 v8.2.1, .sl 1 v8.2.2.1, .sl 2 v8.2.2.2.1, .sl 1 v8.2.2.2.2.1, .int .i64 v8.2.2.2.2.2.1]).bind fun (H9 : Heap) =>
 some (Sum.inr (1, ()), H9)) (
 some (Sum.inl (()), H4))) (
 (rdI .i64 H4 H1.length 0).bind fun (v10 : Int) =>
 cond (decide (4 ≤ v10)) (
 (rdI .i64 H4 H1.length 0).bind fun (v11 : Int) =>
 cond (!(decide (v11 ≤ 7))) (
 Option.bind (α := (Sl × Sl × Sl × Sl × Sl × Int × Unit)) (rd H4 (.agg [.sl 3, .sl 3, .sl 1, .sl 2, .sl 1, .int .i64]) H.length 0) fun (v12 : (Sl × Sl × Sl × Sl × Sl × Int × Unit)) =>
 (wr H4 H3.length 0 [.sl 3 v12.1, .sl 3 v12.2.1, .sl 1 v12.2.2.1, .sl 2 v12.2.2.2.1, .sl 1 v12.2.2.2.2.1, .int .i64 v12.2.2.2.2.2.1]).bind fun (H13 : Heap) =>
 some (Sum.inr (1, ()), H13)) (
 Option.bind (α := (Int × Int × Int × Int × Int × Int × Unit)) (rd H4 (.agg [.int .i64, .int .i64, .int .i64, .int .i64, .int .i64, .int .i64]) H1.length 0) fun (v14 : (Int × Int × Int × Int × Int × Int × Unit)) =>
 (ref07_Check (v14.1, v14.2.1, v14.2.2.1, v14.2.2.2.1, v14.2.2.2.2.1, v14.2.2.2.2.2.1, ())).bind fun (r15 : (Bool × Unit)) =>
 cond (!r15.1) (
 Option.bind (α := (Sl × Sl × Sl × Sl × Sl × Int × Unit)) (rd H4 (.agg [.sl 3, .sl 3, .sl 1, .sl 2, .sl 1, .int .i64]) H.length 0) fun (v16 : (Sl × Sl × Sl × Sl × Sl × Int × Unit)) =>
 (wr H4 H3.length 0 [.sl 3 v16.1, .sl 3 v16.2.1, .sl 1 v16.2.2.1, .sl 2 v16.2.2.2.1, .sl 1 v16.2.2.2.2.1, .int .i64 v16.2.2.2.2.2.1]).bind fun (H17 : Heap) =>
 some (Sum.inr (1, ()), H17)) (
 some (Sum.inl (()), H4)))) (
 Option.bind (α := (Sl × Sl × Sl × Sl × Sl × Int × Unit)) (rd H4 (.agg [.sl 3, .sl 3, .sl 1, .sl 2, .sl 1, .int .i64]) H.length 0) fun (v18 : (Sl × Sl × Sl × Sl × Sl × Int × Unit)) =>
 (wr H4 H3.length 0 [.sl 3 v18.1, .sl 3 v18.2.1, .sl 1 v18.2.2.1, .sl 2 v18.2.2.2.1, .sl 1 v18.2.2.2.2.1, .int .i64 v18.2.2.2.2.2.1]).bind fun (H19 : Heap) =>
 some (Sum.inr (1, ()), H19))) : Option (((Unit) ⊕ (Int × Unit)) × Heap)).bind fun (p20 : ((Unit) ⊕ (Int × Unit)) × Heap) =>
 Sum.elim (fun (y21 : (Unit)) =>
 ((rdI .i64 p20.2 H1.length 0).bind fun (v22 : Int) =>
 cond (decide (v22 = 2)) (
 Option.bind (α := (Sl × Sl × Sl × Sl × Unit)) (rd p20.2 (.agg [.sl 3, .sl 3, .sl 1, .sl 2]) H.length 0) fun (v23 : (Sl × Sl × Sl × Sl × Unit)) =>
 (rdI .i64 p20.2 H1.length 1).bind fun (v24 : Int) =>
 (law17_sealed (v23.1, v23.2.1, v23.2.2.1, v23.2.2.2.1, ()) v24 p20.2).bind fun (r25 : ((Int × Unit) × Heap)) =>
 cond (!decide (r25.1.1 = 0)) (
 Option.bind (α := (Sl × Sl × Sl × Sl × Sl × Int × Unit)) (rd r25.2 (.agg [.sl 3, .sl 3, .sl 1, .sl 2, .sl 1, .int .i64]) H.length 0) fun (v26 : (Sl × Sl × Sl × Sl × Sl × Int × Unit)) =>
 (wr r25.2 H3.length 0 [.sl 3 v26.1, .sl 3 v26.2.1, .sl 1 v26.2.2.1, .sl 2 v26.2.2.2.1, .sl 1 v26.2.2.2.2.1, .int .i64 v26.2.2.2.2.2.1]).bind fun (H27 : Heap) =>
 some (Sum.inr (r25.1.1, ()), H27)) (
 some (Sum.inl (()), r25.2))) (
 some (Sum.inl (()), p20.2)) : Option (((Unit) ⊕ (Int × Unit)) × Heap)).bind fun (p28 : ((Unit) ⊕ (Int × Unit)) × Heap) =>
 Sum.elim (fun (y29 : (Unit)) =>
 (rdI .i64 p28.2 H.length 5).bind fun (v30 : Int) =>
 cond (decide (8 ≤ v30)) (
 Option.bind (α := (Sl × Sl × Sl × Sl × Sl × Int × Unit)) (rd p28.2 (.agg [.sl 3, .sl 3, .sl 1, .sl 2, .sl 1, .int .i64]) H.length 0) fun (v31 : (Sl × Sl × Sl × Sl × Sl × Int × Unit)) =>
 (wr p28.2 H3.length 0 [.sl 3 v31.1, .sl 3 v31.2.1, .sl 1 v31.2.2.1, .sl 2 v31.2.2.2.1, .sl 1 v31.2.2.2.2.1, .int .i64 v31.2.2.2.2.2.1]).bind fun (H32 : Heap) =>
 Option.bind (α := (Sl × Sl × Sl × Sl × Sl × Int × Unit)) (rd H32 (.agg [.sl 3, .sl 3, .sl 1, .sl 2, .sl 1, .int .i64]) H3.length 0) fun (v33 : (Sl × Sl × Sl × Sl × Sl × Int × Unit)) =>
 some ((v33, 171, ()), H32)) (
 Option.bind (α := (Sl × Sl × Sl × Sl × Unit)) (rd p28.2 (.agg [.sl 3, .sl 3, .sl 1, .sl 2]) H.length 0) fun (v34 : (Sl × Sl × Sl × Sl × Unit)) =>
 Option.bind (α := (Int × Int × Int × Int × Int × Int × Unit)) (rd p28.2 (.agg [.int .i64, .int .i64, .int .i64, .int .i64, .int .i64, .int .i64]) H1.length 0) fun (v35 : (Int × Int × Int × Int × Int × Int × Unit)) =>
 (ref08_State_Do (v34.1, v34.2.1, v34.2.2.1, v34.2.2.2.1, ()) (v35.1, v35.2.1, v35.2.2.1, v35.2.2.2.1, v35.2.2.2.2.1, v35.2.2.2.2.2.1, ()) p28.2).bind fun (r36 : (((Sl × Sl × Sl × Sl × Unit) × Int × Unit) × Heap)) =>
 let H37 : Heap := r36.2 ++ [Blk.cells [.sl 3 Sl.nil, .sl 3 Sl.nil, .sl 1 Sl.nil, .sl 2 Sl.nil] .exact]
 (wr H37 r36.2.length 0 [.sl 3 r36.1.1.1, .sl 3 r36.1.1.2.1, .sl 1 r36.1.1.2.2.1, .sl 2 r36.1.1.2.2.2.1]).bind fun (H38 : Heap) =>
 cond (!decide (r36.1.2.1 = 0)) (
 Option.bind (α := (Sl × Sl × Sl × Sl × Sl × Int × Unit)) (rd H38 (.agg [.sl 3, .sl 3, .sl 1, .sl 2, .sl 1, .int .i64]) H.length 0) fun (v39 : (Sl × Sl × Sl × Sl × Sl × Int × Unit)) =>
 (wr H38 H3.length 0 [.sl 3 v39.1, .sl 3 v39.2.1, .sl 1 v39.2.2.1, .sl 2 v39.2.2.2.1, .sl 1 v39.2.2.2.2.1, .int .i64 v39.2.2.2.2.2.1]).bind fun (H40 : Heap) =>
 Option.bind (α := (Sl × Sl × Sl × Sl × Sl × Int × Unit)) (rd H40 (.agg [.sl 3, .sl 3, .sl 1, .sl 2, .sl 1, .int .i64]) H3.length 0) fun (v41 : (Sl × Sl × Sl × Sl × Sl × Int × Unit)) =>
 some ((v41, r36.1.2.1, ()), H40)) (
 Option.bind (α := (Sl × Sl × Sl × Sl × Unit)) (rd H38 (.agg [.sl 3, .sl 3, .sl 1, .sl 2]) r36.2.length 0) fun (v42 : (Sl × Sl × Sl × Sl × Unit)) =>
 (rdSl 1 H38 H.length 4).bind fun (v43 : Sl) =>
 let H44 : Heap := H38 ++ [Blk.cells [.sl 3 Sl.nil, .sl 3 Sl.nil, .sl 1 Sl.nil, .sl 2 Sl.nil, .sl 1 Sl.nil] .exact]
 (wr H44 H38.length 0 [.sl 3 v42.1, .sl 3 v42.2.1, .sl 1 v42.2.2.1, .sl 2 v42.2.2.2.1, .sl 1 v43]).bind fun (H45 : Heap) =>
 Option.bind (α := (Sl × Sl × Sl × Sl × Sl × Unit)) (rd H45 (.agg [.sl 3, .sl 3, .sl 1, .sl 2, .sl 1]) H38.length 0) fun (v46 : (Sl × Sl × Sl × Sl × Sl × Unit)) =>
 Option.bind (α := (Int × Int × Int × Int × Unit)) (rd H45 (.agg [.int .i64, .int .i64, .int .i64, .int .i64]) H2.length 0) fun (v47 : (Int × Int × Int × Int × Unit)) =>
 (ref16_Plain_Fits (v46.1, v46.2.1, v46.2.2.1, v46.2.2.2.1, v46.2.2.2.2.1, ()) (v47.1, v47.2.1, v47.2.2.1, v47.2.2.2.1, ()) H45).bind fun (r48 : ((Bool × Unit) × Heap)) =>
 cond (!r48.1.1) (
 Option.bind (α := (Sl × Sl × Sl × Sl × Sl × Int × Unit)) (rd r48.2 (.agg [.sl 3, .sl 3, .sl 1, .sl 2, .sl 1, .int .i64]) H.length 0) fun (v49 : (Sl × Sl × Sl × Sl × Sl × Int × Unit)) =>
 (wr r48.2 H3.length 0 [.sl 3 v49.1, .sl 3 v49.2.1, .sl 1 v49.2.2.1, .sl 2 v49.2.2.2.1, .sl 1 v49.2.2.2.2.1, .int .i64 v49.2.2.2.2.2.1]).bind fun (H50 : Heap) =>
 Option.bind (α := (Sl × Sl × Sl × Sl × Sl × Int × Unit)) (rd H50 (.agg [.sl 3, .sl 3, .sl 1, .sl 2, .sl 1, .int .i64]) H3.length 0) fun (v51 : (Sl × Sl × Sl × Sl × Sl × Int × Unit)) =>
 some ((v51, 172, ()), H50)) (
 Option.bind (α := (Sl × Sl × Sl × Sl × Sl × Unit)) (rd r48.2 (.agg [.sl 3, .sl 3, .sl 1, .sl 2, .sl 1]) H38.length 0) fun (v52 : (Sl × Sl × Sl × Sl × Sl × Unit)) =>
 (rdI .i64 r48.2 H.length 5).bind fun (v53 : Int) =>
 (wr r48.2 H3.length 0 [.sl 3 v52.1, .sl 3 v52.2.1, .sl 1 v52.2.2.1, .sl 2 v52.2.2.2.1, .sl 1 v52.2.2.2.2.1, .int .i64 (IntKind.wrap .i64 (v53 + 1))]).bind fun (H54 : Heap) =>
 Option.bind (α := (Sl × Sl × Sl × Sl × Sl × Int × Unit)) (rd H54 (.agg [.sl 3, .sl 3, .sl 1, .sl 2, .sl 1, .int .i64]) H3.length 0) fun (v55 : (Sl × Sl × Sl × Sl × Sl × Int × Unit)) =>
 some ((v55, 0, ()), H54))))) (fun (z56 : (Int × Unit)) =>
 Option.bind (α := (Sl × Sl × Sl × Sl × Sl × Int × Unit)) (rd p28.2 (.agg [.sl 3, .sl 3, .sl 1, .sl 2, .sl 1, .int .i64]) H3.length 0) fun (v57 : (Sl × Sl × Sl × Sl × Sl × Int × Unit)) =>
 some ((v57, z56.1, ()), p28.2)) p28.1) (fun (z58 : (Int × Unit)) =>
 Option.bind (α := (Sl × Sl × Sl × Sl × Sl × Int × Unit)) (rd p20.2 (.agg [.sl 3, .sl 3, .sl 1, .sl 2, .sl 1, .int .i64]) H3.length 0) fun (v59 : (Sl × Sl × Sl × Sl × Sl × Int × Unit)) =>
 some ((v59, z58.1, ()), p20.2)) p20.1
noncomputable def law17_Plain_Do.c : Callee := .full [.agg [.sl 3, .sl 3, .sl 1, .sl 2, .sl 1, .int .i64], .agg [.int .i64, .int .i64, .int .i64, .int .i64, .int .i64, .int .i64], .agg [.int .i64, .int .i64, .int .i64, .int .i64]] [.agg [.sl 3, .sl 3, .sl 1, .sl 2, .sl 1, .int .i64], .one (.int .i64)] (fun x H => law17_Plain_Do x.1 x.2.1 x.2.2.1 H)
noncomputable def law17_Plain_Do.calls : Nat → Option Callee
  | 0 => some ref07_Check.c
  | 1 => some law17_sealed.c
  | 2 => some ref08_State_Do.c
  | 3 => some ref16_Plain_Fits.c
  | _ => none
theorem law17_Plain_Do.eq : evFull law17_Plain_Do.calls law17_Plain_Do.af = (fun x H => law17_Plain_Do x.1 x.2.1 x.2.2.1 H) := by kernel_rfl
end Ev
