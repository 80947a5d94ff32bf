/- What the functions of the package Nand compute: abstract code, and a function of plain Lean for each; the kernel checks that they are the same. Written by gen2.py. -/
import Derived.Test.YtpebaginkkbnpaaGreatEvCore
import Derived.Test.YtpebaginkkbnpaaGreatGSlices
import Derived.KernelRfl
set_option linter.unusedVariables false
set_option maxRecDepth 100000
namespace Ev
open Go (IntKind BinOp UnOp)

/-! ### tinderbox/nand.Check -/
def nand_Check.af : AFun := ⟨[.agg [.int .i64, .int .i64, .int .i64]], [.one .bool], [.t 2],
 .seq (.reg [.op ⟨0, some 1, .box (.t 0), none⟩,
  .op ⟨1, some 2, .mv (.c (.one (.bool false))), none⟩])
 (.seq (.reg [.op ⟨0, some 3, .addr 0 (.t 1), none⟩,
  .op ⟨1, some 4, .load (.one (.int .i64)) (.t 3), none⟩,
  .op ⟨2, some 5, .bin .geq (.t 4) (.c (.one (.int .i64 8))), none⟩,
  .op ⟨3, some 6, .mv (.t 5), none⟩,
  .op ⟨4, some 7, .addr 0 (.t 1), some (6, true)⟩,
  .op ⟨5, some 8, .load (.one (.int .i64)) (.t 7), some (6, true)⟩,
  .op ⟨6, some 9, .bin .leq (.t 8) (.c (.one (.int .i64 32))), some (6, true)⟩,
  .op ⟨7, some 10, .pick (.t 6) (.t 9) (.c (.one (.bool false))), none⟩,
  .op ⟨8, some 11, .mv (.t 10), none⟩,
  .op ⟨9, some 12, .addr 1 (.t 1), some (11, true)⟩,
  .op ⟨10, some 13, .load (.one (.int .i64)) (.t 12), some (11, true)⟩,
  .op ⟨11, some 14, .bin .geq (.t 13) (.c (.one (.int .i64 4))), some (11, true)⟩,
  .op ⟨12, some 15, .pick (.t 11) (.t 14) (.c (.one (.bool false))), none⟩,
  .op ⟨13, some 16, .mv (.t 15), none⟩,
  .op ⟨14, some 17, .addr 1 (.t 1), some (16, true)⟩,
  .op ⟨15, some 18, .load (.one (.int .i64)) (.t 17), some (16, true)⟩,
  .op ⟨16, some 19, .bin .leq (.t 18) (.c (.one (.int .i64 16))), some (16, true)⟩,
  .op ⟨17, some 20, .pick (.t 16) (.t 19) (.c (.one (.bool false))), none⟩,
  .op ⟨18, some 21, .mv (.t 20), none⟩,
  .op ⟨19, some 22, .addr 2 (.t 1), some (21, true)⟩,
  .op ⟨20, some 23, .load (.one (.int .i64)) (.t 22), some (21, true)⟩,
  .op ⟨21, some 24, .bin .geq (.t 23) (.c (.one (.int .i64 64))), some (21, true)⟩,
  .op ⟨22, some 25, .pick (.t 21) (.t 24) (.c (.one (.bool false))), none⟩,
  .op ⟨23, some 26, .mv (.t 25), none⟩,
  .op ⟨24, some 27, .addr 2 (.t 1), some (26, true)⟩,
  .op ⟨25, some 28, .load (.one (.int .i64)) (.t 27), some (26, true)⟩,
  .op ⟨26, some 29, .bin .leq (.t 28) (.c (.one (.int .i64 256))), some (26, true)⟩,
  .op ⟨27, some 30, .pick (.t 26) (.t 29) (.c (.one (.bool false))), none⟩,
  .op ⟨28, some 2, .mv (.t 30), none⟩])
 (.ret))⟩
noncomputable def nand_Check.on (x0 : (Int × Int × Int × Unit)) (H : Heap) : Option (Bool × Unit) :=
 let H1 : Heap := H ++ [Blk.cells [.int .i64 x0.1, .int .i64 x0.2.1, .int .i64 x0.2.2.1] .exact]
 (rdI .i64 H1 H.length 0).bind fun (v2 : Int) =>
 cond (decide (8 ≤ v2)) (
 (rdI .i64 H1 H.length 0).bind fun (v3 : Int) =>
 cond (decide (v3 ≤ 32)) (
 (rdI .i64 H1 H.length 1).bind fun (v4 : Int) =>
 cond (decide (4 ≤ v4)) (
 (rdI .i64 H1 H.length 1).bind fun (v5 : Int) =>
 cond (decide (v5 ≤ 16)) (
 (rdI .i64 H1 H.length 2).bind fun (v6 : Int) =>
 cond (decide (64 ≤ v6)) (
 (rdI .i64 H1 H.length 2).bind fun (v7 : Int) =>
 some ((decide (v7 ≤ 256)), ())) (
 some (false, ()))) (
 some (false, ()))) (
 some (false, ()))) (
 some (false, ()))) (
 some (false, ()))
noncomputable def nand_Check (x0 : (Int × Int × Int × Unit)) : Option (Bool × Unit) := nand_Check.on x0 []
noncomputable def nand_Check.c : Callee := .pure [.agg [.int .i64, .int .i64, .int .i64]] [.one .bool] (fun x => nand_Check x.1)
noncomputable def nand_Check.calls : Nat → Option Callee
  | _ => none
theorem nand_Check.eq : evPure nand_Check.calls nand_Check.af = (fun x H => nand_Check.on x.1 H) := by kernel_rfl

/-! ### tinderbox/nand.New -/
def nand_New.af : AFun := ⟨[.agg [.int .i64, .int .i64, .int .i64], .agg [.sl 3, .sl 1, .sl 1]], [.one .ptr, .one (.int .i64)], [.t 4, .t 5],
 .seq (.reg [.op ⟨0, some 2, .box (.t 0), none⟩,
  .op ⟨1, some 3, .box (.t 1), none⟩,
  .op ⟨2, some 4, .mv (.c (.one (.ptr none))), none⟩,
  .op ⟨3, some 5, .mv (.c (.one (.int .i64 0))), none⟩])
 (.seq (.seq (.reg [.op ⟨0, some 8, .load (.agg [.int .i64, .int .i64, .int .i64]) (.t 2), none⟩,
  .op ⟨1, some 9, .call 0 [(.t 8)], none⟩,
  .op ⟨2, some 10, .un .not (.t 9), none⟩])
 (.cond (.t 10) (.seq (.reg [.op ⟨0, some 4, .mv (.c (.one (.ptr none))), none⟩,
  .op ⟨1, some 5, .mv (.c (.one (.int .i64 1))), none⟩])
 (.ret)) (.skip)))
 (.seq (.reg [.op ⟨0, some 11, .load (.agg [.int .i64, .int .i64, .int .i64]) (.t 2), none⟩,
  .op ⟨1, some 12, .addr 0 (.t 2), none⟩,
  .op ⟨2, some 13, .load (.one (.int .i64)) (.t 12), none⟩,
  .op ⟨3, some 14, .mk 4 40 [.sl 1 Sl.nil, .int .i64 0, .bool false, .bool false] (.t 13) (.t 13), none⟩,
  .op ⟨4, some 15, .addr 0 (.t 3), none⟩,
  .op ⟨5, some 16, .load (.one (.sl 3)) (.t 15), none⟩,
  .op ⟨7, some 18, .addr 1 (.t 3), none⟩,
  .op ⟨8, some 19, .load (.one (.sl 1)) (.t 18), none⟩,
  .op ⟨6, some 17, .call 1 [(.t 16)], none⟩,
  .again ⟨0, some 11, .load (.agg [.int .i64, .int .i64, .int .i64]) (.t 2), none⟩,
  .again ⟨2, some 13, .load (.one (.int .i64)) (.t 12), none⟩,
  .still ⟨3, some 14, .mk 4 40 [.sl 1 Sl.nil, .int .i64 0, .bool false, .bool false] (.t 13) (.t 13), none⟩,
  .again ⟨8, some 19, .load (.one (.sl 1)) (.t 18), none⟩,
  .op ⟨9, some 20, .call 2 [(.t 19)], none⟩,
  .op ⟨10, some 21, .build [.int .i64 0, .int .i64 0, .int .i64 0, .sl 4 Sl.nil, .sl 3 Sl.nil, .sl 1 Sl.nil, .int .i64 0, .bool false] [(0, 3, (.t 11)), (3, 1, (.t 14)), (4, 1, (.t 17)), (5, 1, (.t 20))], none⟩,
  .op ⟨11, some 22, .box (.t 21), none⟩,
  .op ⟨12, some 6, .mv (.t 22), none⟩,
  .again ⟨0, some 11, .load (.agg [.int .i64, .int .i64, .int .i64]) (.t 2), none⟩,
  .again ⟨2, some 13, .load (.one (.int .i64)) (.t 12), none⟩,
  .still ⟨3, some 14, .mk 4 40 [.sl 1 Sl.nil, .int .i64 0, .bool false, .bool false] (.t 13) (.t 13), none⟩])
 (.seq (.seq (.reg [.op ⟨0, some 23, .mv (.t 6), none⟩,
  .op ⟨1, some 24, .nilc (.t 23), none⟩,
  .op ⟨2, some 25, .addr 3 (.t 24), none⟩,
  .op ⟨3, some 26, .load (.one (.sl 4)) (.t 25), none⟩,
  .op ⟨4, some 27, .len (.t 26), none⟩,
  .op ⟨5, some 28, .mv (.c (.one (.int .i64 0))), none⟩])
 (.block 0 (.loop [(28, .one (.int .i64))] [(.exit 0, [])] (.seq (.reg [.op ⟨0, some 29, .bin .lss (.t 28) (.t 27), none⟩])
 (.seq (.cond (.t 29) (.skip) (.exit 0))
 (.seq (.block 1 (.seq (.reg [.op ⟨0, some 30, .mv (.t 28), none⟩,
  .op ⟨1, some 7, .mv (.t 30), none⟩])
 (.seq (.reg [.op ⟨0, some 31, .mv (.t 6), none⟩,
  .op ⟨1, some 32, .nilc (.t 31), none⟩,
  .op ⟨2, some 33, .addr 3 (.t 32), none⟩,
  .op ⟨3, some 34, .load (.one (.sl 4)) (.t 33), none⟩,
  .op ⟨4, some 35, .mv (.t 7), none⟩,
  .op ⟨5, some 36, .addr 1 (.t 2), none⟩,
  .op ⟨6, some 37, .load (.one (.int .i64)) (.t 36), none⟩,
  .op ⟨7, some 38, .mk 1 16 [.str []] (.t 37) (.t 37), none⟩,
  .op ⟨8, some 39, .idxa 4 (.t 34) (.t 35), none⟩,
  .op ⟨9, some 40, .addr 0 (.t 39), none⟩,
  .op ⟨10, none, .store 1 (.t 40) (.t 38), none⟩])
 (.seq (.reg [.op ⟨0, some 41, .mv (.t 6), none⟩,
  .op ⟨1, some 42, .nilc (.t 41), none⟩,
  .op ⟨2, some 43, .addr 3 (.t 42), none⟩,
  .op ⟨3, some 44, .load (.one (.sl 4)) (.t 43), none⟩,
  .op ⟨4, some 45, .mv (.t 7), none⟩,
  .op ⟨5, some 46, .addr 2 (.t 3), none⟩,
  .op ⟨6, some 47, .load (.one (.sl 1)) (.t 46), none⟩,
  .op ⟨7, some 48, .mv (.t 7), none⟩,
  .op ⟨8, some 49, .call 3 [(.t 47), (.t 48)], none⟩,
  .op ⟨9, some 50, .idxa 4 (.t 44) (.t 45), none⟩,
  .op ⟨10, some 51, .addr 3 (.t 50), none⟩,
  .again ⟨3, some 44, .load (.one (.sl 4)) (.t 43), none⟩,
  .op ⟨11, none, .store 1 (.t 51) (.t 49), none⟩])
 (.reg [.op ⟨0, some 52, .mv (.t 6), none⟩,
  .op ⟨1, some 53, .nilc (.t 52), none⟩,
  .op ⟨2, some 54, .addr 3 (.t 53), none⟩,
  .op ⟨3, some 55, .load (.one (.sl 4)) (.t 54), none⟩,
  .op ⟨4, some 56, .mv (.t 7), none⟩,
  .op ⟨5, some 57, .mv (.t 6), none⟩,
  .op ⟨6, some 58, .nilc (.t 57), none⟩,
  .op ⟨7, some 59, .addr 3 (.t 58), none⟩,
  .op ⟨8, some 60, .load (.one (.sl 4)) (.t 59), none⟩,
  .op ⟨9, some 61, .mv (.t 7), none⟩,
  .op ⟨10, some 62, .idxa 4 (.t 60) (.t 61), none⟩,
  .op ⟨11, some 63, .addr 3 (.t 62), none⟩,
  .op ⟨12, some 64, .load (.one .bool) (.t 63), none⟩,
  .op ⟨13, some 65, .idxa 4 (.t 55) (.t 56), none⟩,
  .op ⟨14, some 66, .addr 2 (.t 65), none⟩,
  .op ⟨15, none, .store 1 (.t 66) (.t 64), none⟩])))))
 (.reg [.op ⟨0, some 67, .bin .add (.t 28) (.c (.one (.int .i64 1))), none⟩,
  .op ⟨1, some 28, .mv (.t 67), none⟩])))))))
 (.seq (.reg [.op ⟨0, some 68, .mv (.t 6), none⟩,
  .op ⟨1, some 4, .mv (.t 68), none⟩,
  .op ⟨2, some 5, .mv (.c (.one (.int .i64 0))), none⟩])
 (.ret)))))⟩
noncomputable def nand_New.s1 (H : Heap) (H1 : Heap) (r15 : ((Sl × Unit) × Heap)) (v20 : Sl) (s21 : (Int × Unit)) (H22 : Heap) : Option (((Int × Unit) ⊕ (Unit)) × Heap) :=
 cond (decide (s21.1 < (v20.len : Int))) (
 (rdSl 4 H22 r15.2.length 3).bind fun (v23 : Sl) =>
 (rdI .i64 H22 H.length 1).bind fun (v24 : Int) =>
 (mkS H22 16 [.str []] v24 v24).bind fun (p25 : (Sl × Heap)) =>
 (Sl.at 4 v23 s21.1).bind fun (a26 : (Nat × Nat)) =>
 (wr p25.2 a26.1 a26.2 [.sl 1 p25.1]).bind fun (H27 : Heap) =>
 (rdSl 4 H27 r15.2.length 3).bind fun (v28 : Sl) =>
 (rdSl 1 H27 H1.length 2).bind fun (v29 : Sl) =>
 (slices_Contains_int_int v29 s21.1 H27).bind fun (r30 : ((Bool × Unit) × Heap)) =>
 (Sl.at 4 v28 s21.1).bind fun (a31 : (Nat × Nat)) =>
 (rdSl 4 r30.2 r15.2.length 3).bind fun (v32 : Sl) =>
 if V.w (.one (.sl 4 v32)) = V.w (.one (.sl 4 v28)) then
 (wr r30.2 a31.1 (a31.2 + 3) [.bool r30.1.1]).bind fun (H33 : Heap) =>
 (rdSl 4 H33 r15.2.length 3).bind fun (v34 : Sl) =>
 (rdSl 4 H33 r15.2.length 3).bind fun (v35 : Sl) =>
 (Sl.at 4 v35 s21.1).bind fun (a36 : (Nat × Nat)) =>
 (rdB H33 a36.1 (a36.2 + 3)).bind fun (v37 : Bool) =>
 (Sl.at 4 v34 s21.1).bind fun (a38 : (Nat × Nat)) =>
 (wr H33 a38.1 (a38.2 + 2) [.bool v37]).bind fun (H39 : Heap) =>
 some (Sum.inl ((IntKind.wrap .i64 (s21.1 + 1)), ()), H39)
 else none) (
 some (Sum.inr (()), H22))
noncomputable def nand_New (x0 : (Int × Int × Int × Unit)) (x1 : (Sl × Sl × Sl × Unit)) (H : Heap) : Option ((Ptr × Int × Unit) × Heap) :=
 let H1 : Heap := H ++ [Blk.cells [.int .i64 x0.1, .int .i64 x0.2.1, .int .i64 x0.2.2.1] .exact]
 let H2 : Heap := H1 ++ [Blk.cells [.sl 3 x1.1, .sl 1 x1.2.1, .sl 1 x1.2.2.1] .exact]
 Option.bind (α := (Int × Int × Int × Unit)) (rd H2 (.agg [.int .i64, .int .i64, .int .i64]) H.length 0) fun (v3 : (Int × Int × Int × Unit)) =>
 (nand_Check (v3.1, v3.2.1, v3.2.2.1, ())).bind fun (r4 : (Bool × Unit)) =>
 cond (!r4.1) (
 some ((none, 1, ()), H2)) (
 Option.bind (α := (Int × Int × Int × Unit)) (rd H2 (.agg [.int .i64, .int .i64, .int .i64]) H.length 0) fun (v5 : (Int × Int × Int × Unit)) =>
 (rdI .i64 H2 H.length 0).bind fun (v6 : Int) =>
 (mkS H2 40 [.sl 1 Sl.nil, .int .i64 0, .bool false, .bool false] v6 v6).bind fun (p7 : (Sl × Heap)) =>
 (rdSl 3 p7.2 H1.length 0).bind fun (v8 : Sl) =>
 (rdSl 1 p7.2 H1.length 1).bind fun (v9 : Sl) =>
 (slices_Clone_api_Cut_api_Cut v8 p7.2).bind fun (r10 : ((Sl × Unit) × Heap)) =>
 Option.bind (α := (Int × Int × Int × Unit)) (rd r10.2 (.agg [.int .i64, .int .i64, .int .i64]) H.length 0) fun (v11 : (Int × Int × Int × Unit)) =>
 if V.w (.agg [.int .i64 v11.1, .int .i64 v11.2.1, .int .i64 v11.2.2.1]) = V.w (.agg [.int .i64 v5.1, .int .i64 v5.2.1, .int .i64 v5.2.2.1]) then
 (rdI .i64 r10.2 H.length 0).bind fun (v12 : Int) =>
 if V.w (.one (.int .i64 v12)) = V.w (.one (.int .i64 v6)) then
 (p7.1.p).bind fun (a13 : Nat × Nat) =>
 if r10.2[a13.1]? = some (Blk.cells (rep (Int.toNat v6) [.sl 1 Sl.nil, .int .i64 0, .bool false, .bool false]) .exact) then
 (rdSl 1 r10.2 H1.length 1).bind fun (v14 : Sl) =>
 if V.w (.one (.sl 1 v14)) = V.w (.one (.sl 1 v9)) then
 (slices_Clone_int_int v9 r10.2).bind fun (r15 : ((Sl × Unit) × Heap)) =>
 let H16 : Heap := r15.2 ++ [Blk.cells [.int .i64 v5.1, .int .i64 v5.2.1, .int .i64 v5.2.2.1, .sl 4 p7.1, .sl 3 r10.1.1, .sl 1 r15.1.1, .int .i64 0, .bool false] .exact]
 Option.bind (α := (Int × Int × Int × Unit)) (rd H16 (.agg [.int .i64, .int .i64, .int .i64]) H.length 0) fun (v17 : (Int × Int × Int × Unit)) =>
 if V.w (.agg [.int .i64 v17.1, .int .i64 v17.2.1, .int .i64 v17.2.2.1]) = V.w (.agg [.int .i64 v5.1, .int .i64 v5.2.1, .int .i64 v5.2.2.1]) then
 (rdI .i64 H16 H.length 0).bind fun (v18 : Int) =>
 if V.w (.one (.int .i64 v18)) = V.w (.one (.int .i64 v6)) then
 (p7.1.p).bind fun (a19 : Nat × Nat) =>
 if H16[a19.1]? = some (Blk.cells (rep (Int.toNat v6) [.sl 1 Sl.nil, .int .i64 0, .bool false, .bool false]) .exact) then
 (rdSl 4 H16 r15.2.length 3).bind fun (v20 : Sl) =>
 (loopW (nand_New.s1 H H1 r15 v20) (0, ()) H16).bind fun (p40 : (Unit) × Heap) =>
 some ((some (r15.2.length, 0), 0, ()), p40.2)
 else none
 else none
 else none
 else none
 else none
 else none
 else none)
noncomputable def nand_New.c : Callee := .full [.agg [.int .i64, .int .i64, .int .i64], .agg [.sl 3, .sl 1, .sl 1]] [.one .ptr, .one (.int .i64)] (fun x H => nand_New x.1 x.2.1 H)
noncomputable def nand_New.calls : Nat → Option Callee
  | 0 => some nand_Check.c
  | 1 => some slices_Clone_api_Cut_api_Cut.c
  | 2 => some slices_Clone_int_int.c
  | 3 => some slices_Contains_int_int.c
  | _ => none
theorem nand_New.eq : evFull nand_New.calls nand_New.af = (fun x H => nand_New x.1 x.2.1 H) := by kernel_rfl

/-! ### (*tinderbox/nand.Chip).in -/
def nand_Chip_in.af : AFun := ⟨[.one .ptr, .one (.int .i64), .one (.int .i64)], [.one (.int .i64)], [.t 6],
 .seq (.reg [.op ⟨0, some 6, .mv (.c (.one (.int .i64 0))), none⟩])
 (.seq (.block 0 (.seq (.reg [.op ⟨0, some 8, .mv (.t 0), none⟩,
  .op ⟨1, some 9, .isnil false (.t 8), none⟩,
  .op ⟨2, some 7, .mv (.t 9), none⟩])
 (.cond (.t 7) (.seq (.reg [.op ⟨0, some 6, .mv (.c (.one (.int .i64 1))), none⟩])
 (.ret)) (.seq (.reg [.op ⟨0, some 11, .mv (.t 0), none⟩,
  .op ⟨1, some 12, .nilc (.t 11), none⟩,
  .op ⟨2, some 13, .addr 7 (.t 12), none⟩,
  .op ⟨3, some 14, .load (.one .bool) (.t 13), none⟩,
  .op ⟨4, some 10, .mv (.t 14), none⟩])
 (.cond (.t 10) (.seq (.reg [.op ⟨0, some 6, .mv (.c (.one (.int .i64 51))), none⟩])
 (.ret)) (.seq (.reg [.op ⟨0, some 16, .mv (.t 1), none⟩,
  .op ⟨1, some 17, .bin .lss (.t 16) (.c (.one (.int .i64 0))), none⟩,
  .op ⟨2, some 18, .mv (.t 17), none⟩,
  .op ⟨3, some 19, .mv (.t 1), some (18, false)⟩,
  .op ⟨4, some 20, .mv (.t 0), some (18, false)⟩,
  .op ⟨5, some 21, .nilc (.t 20), some (18, false)⟩,
  .op ⟨6, some 22, .addr 0 (.t 21), some (18, false)⟩,
  .op ⟨7, some 23, .addr 0 (.t 22), some (18, false)⟩,
  .op ⟨8, some 24, .load (.one (.int .i64)) (.t 23), some (18, false)⟩,
  .op ⟨9, some 25, .bin .geq (.t 19) (.t 24), some (18, false)⟩,
  .op ⟨10, some 26, .pick (.t 18) (.c (.one (.bool true))) (.t 25), none⟩,
  .op ⟨11, some 27, .mv (.t 26), none⟩,
  .op ⟨12, some 28, .mv (.t 2), some (27, false)⟩,
  .op ⟨13, some 29, .bin .lss (.t 28) (.c (.one (.int .i64 0))), some (27, false)⟩,
  .op ⟨14, some 30, .pick (.t 27) (.c (.one (.bool true))) (.t 29), none⟩,
  .op ⟨15, some 31, .mv (.t 30), none⟩,
  .op ⟨16, some 32, .mv (.t 2), some (31, false)⟩,
  .op ⟨17, some 33, .mv (.t 0), some (31, false)⟩,
  .op ⟨18, some 34, .nilc (.t 33), some (31, false)⟩,
  .op ⟨19, some 35, .addr 0 (.t 34), some (31, false)⟩,
  .op ⟨20, some 36, .addr 1 (.t 35), some (31, false)⟩,
  .op ⟨21, some 37, .load (.one (.int .i64)) (.t 36), some (31, false)⟩,
  .op ⟨22, some 38, .bin .geq (.t 32) (.t 37), some (31, false)⟩,
  .op ⟨23, some 39, .pick (.t 31) (.c (.one (.bool true))) (.t 38), none⟩,
  .op ⟨24, some 15, .mv (.t 39), none⟩])
 (.cond (.t 15) (.seq (.reg [.op ⟨0, some 6, .mv (.c (.one (.int .i64 50))), none⟩])
 (.ret)) (.skip))))))))
 (.seq (.reg [.op ⟨0, some 6, .mv (.c (.one (.int .i64 0))), none⟩])
 (.ret)))⟩
noncomputable def nand_Chip_in (x0 : Ptr) (x1 : Int) (x2 : Int) (H : Heap) : Option ((Int × Unit) × Heap) :=
 cond (Option.isNone x0) (
 some ((1, ()), H)) (
 (x0).bind fun (a1 : Nat × Nat) =>
 (rdB H a1.1 (a1.2 + 7)).bind fun (v2 : Bool) =>
 cond v2 (
 some ((51, ()), H)) (
 cond (decide (x1 < 0)) (
 some ((50, ()), H)) (
 (x0).bind fun (a3 : Nat × Nat) =>
 (rdI .i64 H a3.1 a3.2).bind fun (v4 : Int) =>
 cond (decide (v4 ≤ x1)) (
 some ((50, ()), H)) (
 cond (decide (x2 < 0)) (
 some ((50, ()), H)) (
 (x0).bind fun (a5 : Nat × Nat) =>
 (rdI .i64 H a5.1 (a5.2 + 1)).bind fun (v6 : Int) =>
 cond (decide (v6 ≤ x2)) (
 some ((50, ()), H)) (
 some ((0, ()), H)))))))
noncomputable def nand_Chip_in.c : Callee := .full [.one .ptr, .one (.int .i64), .one (.int .i64)] [.one (.int .i64)] (fun x H => nand_Chip_in x.1 x.2.1 x.2.2.1 H)
noncomputable def nand_Chip_in.calls : Nat → Option Callee
  | _ => none
theorem nand_Chip_in.eq : evFull nand_Chip_in.calls nand_Chip_in.af = (fun x H => nand_Chip_in x.1 x.2.1 x.2.2.1 H) := by kernel_rfl

/-! ### (*tinderbox/nand.Chip).full -/
def nand_Chip_full.af : AFun := ⟨[.one .ptr], [.one .str], [.t 2],
 .seq (.reg [.op ⟨0, some 2, .mv (.c (.one (.str []))), none⟩])
 (.seq (.reg [.op ⟨0, some 3, .bslice 1 1 [.int .u8 0] [(0, 1, (.c (.one (.int .u8 255))))], none⟩,
  .op ⟨1, some 4, .b2s (.t 3), none⟩,
  .op ⟨2, some 5, .mv (.t 0), none⟩,
  .op ⟨3, some 6, .nilc (.t 5), none⟩,
  .op ⟨4, some 7, .addr 0 (.t 6), none⟩,
  .op ⟨5, some 8, .addr 2 (.t 7), none⟩,
  .op ⟨6, some 9, .load (.one (.int .i64)) (.t 8), none⟩,
  .op ⟨7, some 10, .bin .add (.t 9) (.c (.one (.int .i64 32))), none⟩,
  .op ⟨8, some 11, .call 0 [(.t 4), (.t 10)], none⟩,
  .op ⟨9, some 2, .mv (.t 11), none⟩])
 (.ret))⟩
noncomputable def nand_Chip_full (x0 : Ptr) (H : Heap) : Option ((Bytes × Unit) × Heap) :=
 let H1 : Heap := H ++ [Blk.cells [.int .u8 255] .exact]
 (strOf H1 (⟨some (H.length, 0), 1, 1⟩)).bind fun (s2 : Bytes) =>
 (x0).bind fun (a3 : Nat × Nat) =>
 (rdI .i64 H1 a3.1 (a3.2 + 2)).bind fun (v4 : Int) =>
 (strings_Repeat s2 (IntKind.wrap .i64 (v4 + 32))).bind fun (r5 : (Bytes × Unit)) =>
 some ((r5.1, ()), H1)
noncomputable def nand_Chip_full.c : Callee := .full [.one .ptr] [.one .str] (fun x H => nand_Chip_full x.1 H)
noncomputable def nand_Chip_full.calls : Nat → Option Callee
  | 0 => some strings_Repeat.c
  | _ => none
theorem nand_Chip_full.eq : evFull nand_Chip_full.calls nand_Chip_full.af = (fun x H => nand_Chip_full x.1 H) := by kernel_rfl

/-! ### (*tinderbox/nand.Chip).Read -/
def nand_Chip_Read.af : AFun := ⟨[.one .ptr, .one (.int .i64), .one (.int .i64)], [.one .str, .one .str, .one (.int .i64)], [.t 6, .t 7, .t 8],
 .seq (.reg [.op ⟨0, some 6, .mv (.c (.one (.str []))), none⟩,
  .op ⟨1, some 7, .mv (.c (.one (.str []))), none⟩,
  .op ⟨2, some 8, .mv (.c (.one (.int .i64 0))), none⟩])
 (.seq (.seq (.reg [.op ⟨0, some 11, .mv (.t 0), none⟩,
  .op ⟨1, some 12, .mv (.t 1), none⟩,
  .op ⟨2, some 13, .mv (.t 2), none⟩,
  .op ⟨3, some 14, .call 0 [(.t 11), (.t 12), (.t 13)], none⟩,
  .op ⟨4, some 9, .mv (.t 14), none⟩])
 (.seq (.reg [.op ⟨0, some 15, .mv (.t 9), none⟩,
  .op ⟨1, some 16, .bin .neq (.t 15) (.c (.one (.int .i64 0))), none⟩])
 (.cond (.t 16) (.seq (.reg [.op ⟨0, some 17, .mv (.t 9), none⟩,
  .op ⟨1, some 6, .mv (.c (.one (.str []))), none⟩,
  .op ⟨2, some 7, .mv (.c (.one (.str []))), none⟩,
  .op ⟨3, some 8, .mv (.t 17), none⟩])
 (.ret)) (.skip))))
 (.seq (.reg [.op ⟨0, some 18, .mv (.t 0), none⟩,
  .op ⟨1, some 19, .nilc (.t 18), none⟩,
  .op ⟨2, some 20, .addr 3 (.t 19), none⟩,
  .op ⟨3, some 21, .load (.one (.sl 4)) (.t 20), none⟩,
  .op ⟨4, some 22, .mv (.t 1), none⟩,
  .op ⟨5, some 23, .idxa 4 (.t 21) (.t 22), none⟩,
  .op ⟨6, some 24, .addr 0 (.t 23), none⟩,
  .op ⟨7, some 25, .load (.one (.sl 1)) (.t 24), none⟩,
  .op ⟨8, some 26, .mv (.t 2), none⟩,
  .op ⟨9, some 27, .idxa 1 (.t 25) (.t 26), none⟩,
  .op ⟨10, some 28, .load (.one .str) (.t 27), none⟩,
  .op ⟨11, some 10, .mv (.t 28), none⟩])
 (.seq (.scope [(.normal, [(10, .one .str)])] (.seq (.reg [.op ⟨0, some 29, .mv (.t 10), none⟩,
  .op ⟨1, some 30, .bin .eql (.t 29) (.c (.one (.str []))), none⟩])
 (.cond (.t 30) (.reg [.op ⟨0, some 31, .mv (.t 0), none⟩,
  .op ⟨1, some 32, .call 1 [(.t 31)], none⟩,
  .op ⟨2, some 10, .mv (.t 32), none⟩]) (.skip))))
 (.seq (.reg [.op ⟨0, some 33, .mv (.t 10), none⟩,
  .op ⟨1, some 34, .mv (.t 0), none⟩,
  .op ⟨2, some 35, .nilc (.t 34), none⟩,
  .op ⟨3, some 36, .addr 0 (.t 35), none⟩,
  .op ⟨4, some 37, .addr 2 (.t 36), none⟩,
  .op ⟨5, some 38, .load (.one (.int .i64)) (.t 37), none⟩,
  .op ⟨6, some 39, .slstr (.t 33) none (some (.t 38)), none⟩,
  .op ⟨7, some 40, .mv (.t 10), none⟩,
  .op ⟨8, some 41, .mv (.t 0), none⟩,
  .op ⟨9, some 42, .nilc (.t 41), none⟩,
  .op ⟨10, some 43, .addr 0 (.t 42), none⟩,
  .op ⟨11, some 44, .addr 2 (.t 43), none⟩,
  .op ⟨12, some 45, .load (.one (.int .i64)) (.t 44), none⟩,
  .op ⟨13, some 46, .slstr (.t 40) (some (.t 45)) none, none⟩,
  .op ⟨14, some 6, .mv (.t 39), none⟩,
  .op ⟨15, some 7, .mv (.t 46), none⟩,
  .op ⟨16, some 8, .mv (.c (.one (.int .i64 0))), none⟩])
 (.ret)))))⟩
noncomputable def nand_Chip_Read (x0 : Ptr) (x1 : Int) (x2 : Int) (H : Heap) : Option ((Bytes × Bytes × Int × Unit) × Heap) :=
 (nand_Chip_in x0 x1 x2 H).bind fun (r1 : ((Int × Unit) × Heap)) =>
 cond (!decide (r1.1.1 = 0)) (
 some (([], [], r1.1.1, ()), r1.2)) (
 (x0).bind fun (a2 : Nat × Nat) =>
 (rdSl 4 r1.2 a2.1 (a2.2 + 3)).bind fun (v3 : Sl) =>
 (Sl.at 4 v3 x1).bind fun (a4 : (Nat × Nat)) =>
 (rdSl 1 r1.2 a4.1 a4.2).bind fun (v5 : Sl) =>
 (Sl.at 1 v5 x2).bind fun (a6 : (Nat × Nat)) =>
 (rdS r1.2 a6.1 a6.2).bind fun (v7 : Bytes) =>
 (cond (decide ((v7 : Bytes) = [])) (
 (nand_Chip_full x0 r1.2).bind fun (r8 : ((Bytes × Unit) × Heap)) =>
 some ((r8.1.1, ()), r8.2)) (
 some ((v7, ()), r1.2)) : Option ((Bytes × Unit) × Heap)).bind fun (p9 : (Bytes × Unit) × Heap) =>
 (x0).bind fun (a10 : Nat × Nat) =>
 (rdI .i64 p9.2 a10.1 (a10.2 + 2)).bind fun (v11 : Int) =>
 (subS p9.1.1 0 v11).bind fun (s12 : Bytes) =>
 (x0).bind fun (a13 : Nat × Nat) =>
 (rdI .i64 p9.2 a13.1 (a13.2 + 2)).bind fun (v14 : Int) =>
 (subS p9.1.1 v14 (List.length (p9.1.1 : Bytes) : Int)).bind fun (s15 : Bytes) =>
 some ((s12, s15, 0, ()), p9.2))
noncomputable def nand_Chip_Read.c : Callee := .full [.one .ptr, .one (.int .i64), .one (.int .i64)] [.one .str, .one .str, .one (.int .i64)] (fun x H => nand_Chip_Read x.1 x.2.1 x.2.2.1 H)
noncomputable def nand_Chip_Read.calls : Nat → Option Callee
  | 0 => some nand_Chip_in.c
  | 1 => some nand_Chip_full.c
  | _ => none
theorem nand_Chip_Read.eq : evFull nand_Chip_Read.calls nand_Chip_Read.af = (fun x H => nand_Chip_Read x.1 x.2.1 x.2.2.1 H) := by kernel_rfl

/-! ### (*tinderbox/nand.Chip).act -/
def nand_Chip_act.af : AFun := ⟨[.one .ptr], [.agg [.int .i64, .int .i64, .int .u8], .one .bool], [.cell 2, .t 3],
 .seq (.reg [.op ⟨0, some 2, .new [.int .i64 0, .int .i64 0, .int .u8 0], none⟩,
  .op ⟨1, some 3, .mv (.c (.one (.bool false))), none⟩])
 (.seq (.reg [.op ⟨0, some 6, .mv (.t 0), none⟩,
  .op ⟨1, some 7, .nilc (.t 6), none⟩,
  .op ⟨2, some 8, .addr 6 (.t 7), none⟩,
  .op ⟨3, some 9, .load (.one (.int .i64)) (.t 8), none⟩,
  .op ⟨4, some 10, .bin .add (.t 9) (.c (.one (.int .i64 1))), none⟩,
  .op ⟨5, some 11, .nilc (.t 6), none⟩,
  .op ⟨6, some 12, .addr 6 (.t 11), none⟩,
  .op ⟨7, none, .store 1 (.t 12) (.t 10), none⟩])
 (.seq (.seq (.reg [.op ⟨0, some 13, .mv (.t 0), none⟩,
  .op ⟨1, some 14, .nilc (.t 13), none⟩,
  .op ⟨2, some 15, .addr 4 (.t 14), none⟩,
  .op ⟨3, some 16, .load (.one (.sl 3)) (.t 15), none⟩,
  .op ⟨4, some 17, .len (.t 16), none⟩,
  .op ⟨5, some 18, .mv (.c (.one (.int .i64 0))), none⟩])
 (.block 0 (.loop [(18, .one (.int .i64))] [(.exit 0, []), (.ret, [(3, .one .bool)])] (.seq (.reg [.op ⟨0, some 19, .bin .lss (.t 18) (.t 17), none⟩])
 (.seq (.cond (.t 19) (.skip) (.exit 0))
 (.seq (.block 1 (.seq (.reg [.op ⟨0, some 20, .idxa 3 (.t 16) (.t 18), none⟩,
  .op ⟨1, some 21, .load (.agg [.int .i64, .int .i64, .int .u8]) (.t 20), none⟩,
  .op ⟨2, some 5, .new [.int .i64 0, .int .i64 0, .int .u8 0], none⟩,
  .op ⟨3, none, .store 3 (.t 5) (.t 21), none⟩])
 (.seq (.reg [.op ⟨0, some 22, .addr 0 (.t 5), none⟩,
  .op ⟨1, some 23, .load (.one (.int .i64)) (.t 22), none⟩,
  .op ⟨2, some 24, .mv (.t 0), none⟩,
  .op ⟨3, some 25, .nilc (.t 24), none⟩,
  .op ⟨4, some 26, .addr 6 (.t 25), none⟩,
  .op ⟨5, some 27, .load (.one (.int .i64)) (.t 26), none⟩,
  .op ⟨6, some 28, .bin .eql (.t 23) (.t 27), none⟩])
 (.cond (.t 28) (.seq (.reg [.op ⟨0, some 29, .mv (.t 0), none⟩,
  .op ⟨1, some 30, .nilc (.t 29), none⟩,
  .op ⟨2, some 31, .addr 7 (.t 30), none⟩,
  .op ⟨3, none, .store 1 (.t 31) (.c (.one (.bool true))), none⟩])
 (.seq (.reg [.op ⟨0, some 32, .load (.agg [.int .i64, .int .i64, .int .u8]) (.t 5), none⟩,
  .op ⟨1, none, .store 3 (.t 2) (.t 32), none⟩,
  .op ⟨2, some 3, .mv (.c (.one (.bool true))), none⟩])
 (.ret))) (.skip)))))
 (.reg [.op ⟨0, some 33, .bin .add (.t 18) (.c (.one (.int .i64 1))), none⟩,
  .op ⟨1, some 18, .mv (.t 33), none⟩])))))))
 (.seq (.reg [.op ⟨0, some 34, .build [.int .i64 0, .int .i64 0, .int .u8 0] [], none⟩,
  .op ⟨1, none, .store 3 (.t 2) (.t 34), none⟩,
  .op ⟨2, some 3, .mv (.c (.one (.bool false))), none⟩])
 (.ret))))⟩
noncomputable def nand_Chip_act.s1 (x0 : Ptr) (H : Heap) (v7 : Sl) (s8 : (Int × Unit)) (H9 : Heap) : Option (((Int × Unit) ⊕ ((Unit) ⊕ (Bool × Unit))) × Heap) :=
 cond (decide (s8.1 < (v7.len : Int))) (
 (Sl.at 3 v7 s8.1).bind fun (a10 : (Nat × Nat)) =>
 Option.bind (α := (Int × Int × Int × Unit)) (rd H9 (.agg [.int .i64, .int .i64, .int .u8]) a10.1 a10.2) fun (v11 : (Int × Int × Int × Unit)) =>
 let H12 : Heap := H9 ++ [Blk.cells [.int .i64 0, .int .i64 0, .int .u8 0] .exact]
 (wr H12 H9.length 0 [.int .i64 v11.1, .int .i64 v11.2.1, .int .u8 v11.2.2.1]).bind fun (H13 : Heap) =>
 (rdI .i64 H13 H9.length 0).bind fun (v14 : Int) =>
 (x0).bind fun (a15 : Nat × Nat) =>
 (rdI .i64 H13 a15.1 (a15.2 + 6)).bind fun (v16 : Int) =>
 cond (decide (v14 = v16)) (
 (x0).bind fun (a17 : Nat × Nat) =>
 (wr H13 a17.1 (a17.2 + 7) [.bool true]).bind fun (H18 : Heap) =>
 Option.bind (α := (Int × Int × Int × Unit)) (rd H18 (.agg [.int .i64, .int .i64, .int .u8]) H9.length 0) fun (v19 : (Int × Int × Int × Unit)) =>
 (wr H18 H.length 0 [.int .i64 v19.1, .int .i64 v19.2.1, .int .u8 v19.2.2.1]).bind fun (H20 : Heap) =>
 some (Sum.inr (Sum.inr (true, ())), H20)) (
 some (Sum.inl ((IntKind.wrap .i64 (s8.1 + 1)), ()), H13))) (
 some (Sum.inr (Sum.inl (())), H9))
noncomputable def nand_Chip_act (x0 : Ptr) (H : Heap) : Option (((Int × Int × Int × Unit) × Bool × Unit) × Heap) :=
 let H1 : Heap := H ++ [Blk.cells [.int .i64 0, .int .i64 0, .int .u8 0] .exact]
 (x0).bind fun (a2 : Nat × Nat) =>
 (rdI .i64 H1 a2.1 (a2.2 + 6)).bind fun (v3 : Int) =>
 (x0).bind fun (a4 : Nat × Nat) =>
 (wr H1 a4.1 (a4.2 + 6) [.int .i64 (IntKind.wrap .i64 (v3 + 1))]).bind fun (H5 : Heap) =>
 (x0).bind fun (a6 : Nat × Nat) =>
 (rdSl 3 H5 a6.1 (a6.2 + 4)).bind fun (v7 : Sl) =>
 (loopW (nand_Chip_act.s1 x0 H v7) (0, ()) H5).bind fun (p21 : ((Unit) ⊕ (Bool × Unit)) × Heap) =>
 Sum.elim (fun (y22 : (Unit)) =>
 (wr p21.2 H.length 0 [.int .i64 0, .int .i64 0, .int .u8 0]).bind fun (H23 : Heap) =>
 Option.bind (α := (Int × Int × Int × Unit)) (rd H23 (.agg [.int .i64, .int .i64, .int .u8]) H.length 0) fun (v24 : (Int × Int × Int × Unit)) =>
 some ((v24, false, ()), H23)) (fun (z25 : (Bool × Unit)) =>
 Option.bind (α := (Int × Int × Int × Unit)) (rd p21.2 (.agg [.int .i64, .int .i64, .int .u8]) H.length 0) fun (v26 : (Int × Int × Int × Unit)) =>
 some ((v26, z25.1, ()), p21.2)) p21.1
noncomputable def nand_Chip_act.c : Callee := .full [.one .ptr] [.agg [.int .i64, .int .i64, .int .u8], .one .bool] (fun x H => nand_Chip_act x.1 H)
noncomputable def nand_Chip_act.calls : Nat → Option Callee
  | _ => none
theorem nand_Chip_act.eq : evFull nand_Chip_act.calls nand_Chip_act.af = (fun x H => nand_Chip_act x.1 H) := by kernel_rfl

/-! ### tinderbox/nand.torn -/
def nand_torn.af : AFun := ⟨[.agg [.int .i64, .int .i64, .int .u8], .one .str], [.one .str], [.t 4],
 .seq (.reg [.op ⟨0, some 2, .box (.t 0), none⟩,
  .op ⟨1, some 4, .mv (.c (.one (.str []))), none⟩])
 (.seq (.reg [.op ⟨0, some 6, .addr 1 (.t 2), none⟩,
  .op ⟨1, some 7, .load (.one (.int .i64)) (.t 6), none⟩,
  .op ⟨2, some 8, .max [(.t 7), (.c (.one (.int .i64 0)))], none⟩,
  .op ⟨3, some 9, .mv (.t 1), none⟩,
  .op ⟨4, some 10, .lens (.t 9), none⟩,
  .op ⟨5, some 11, .min [(.t 8), (.t 10)], none⟩,
  .op ⟨6, some 5, .mv (.t 11), none⟩])
 (.seq (.reg [.op ⟨0, some 12, .mv (.t 1), none⟩,
  .op ⟨1, some 13, .mv (.t 5), none⟩,
  .op ⟨2, some 14, .slstr (.t 12) none (some (.t 13)), none⟩,
  .op ⟨3, some 15, .addr 2 (.t 2), none⟩,
  .op ⟨4, some 16, .load (.one (.int .u8)) (.t 15), none⟩,
  .op ⟨5, some 17, .bslice 1 1 [.int .u8 0] [(0, 1, (.t 16))], none⟩,
  .op ⟨6, some 18, .b2s (.t 17), none⟩,
  .op ⟨7, some 19, .mv (.t 1), none⟩,
  .op ⟨8, some 20, .lens (.t 19), none⟩,
  .op ⟨9, some 21, .mv (.t 5), none⟩,
  .op ⟨10, some 22, .bin .sub (.t 20) (.t 21), none⟩,
  .op ⟨11, some 23, .call 0 [(.t 18), (.t 22)], none⟩,
  .op ⟨12, some 24, .bin .add (.t 14) (.t 23), none⟩,
  .op ⟨13, some 4, .mv (.t 24), none⟩])
 (.ret)))⟩
noncomputable def nand_torn.on (x0 : (Int × Int × Int × Unit)) (x1 : Bytes) (H : Heap) : Option (Bytes × Unit) :=
 let H1 : Heap := H ++ [Blk.cells [.int .i64 x0.1, .int .i64 x0.2.1, .int .u8 x0.2.2.1] .exact]
 (rdI .i64 H1 H.length 1).bind fun (v2 : Int) =>
 (subS x1 0 (if (List.length (x1 : Bytes) : Int) < (if 0 > v2 then 0 else v2) then (List.length (x1 : Bytes) : Int) else (if 0 > v2 then 0 else v2))).bind fun (s3 : Bytes) =>
 (rdI .u8 H1 H.length 2).bind fun (v4 : Int) =>
 let H5 : Heap := H1 ++ [Blk.cells [.int .u8 v4] .exact]
 (strOf H5 (⟨some (H1.length, 0), 1, 1⟩)).bind fun (s6 : Bytes) =>
 (strings_Repeat s6 (IntKind.wrap .i64 ((List.length (x1 : Bytes) : Int) - (if (List.length (x1 : Bytes) : Int) < (if 0 > v2 then 0 else v2) then (List.length (x1 : Bytes) : Int) else (if 0 > v2 then 0 else v2))))).bind fun (r7 : (Bytes × Unit)) =>
 (catS s3 r7.1).bind fun (s8 : Bytes) =>
 some (s8, ())
noncomputable def nand_torn (x0 : (Int × Int × Int × Unit)) (x1 : Bytes) : Option (Bytes × Unit) := nand_torn.on x0 x1 []
noncomputable def nand_torn.c : Callee := .pure [.agg [.int .i64, .int .i64, .int .u8], .one .str] [.one .str] (fun x => nand_torn x.1 x.2.1)
noncomputable def nand_torn.calls : Nat → Option Callee
  | 0 => some strings_Repeat.c
  | _ => none
theorem nand_torn.eq : evPure nand_torn.calls nand_torn.af = (fun x H => nand_torn.on x.1 x.2.1 H) := by kernel_rfl

/-! ### (*tinderbox/nand.Chip).lay -/
def nand_Chip_lay.af : AFun := ⟨[.one .ptr, .one (.int .i64), .one (.int .i64), .one .str], [], [],
 .seq (.scope [(.normal, [(3, .one .str)])] (.seq (.reg [.op ⟨0, some 8, .mv (.t 3), none⟩,
  .op ⟨1, some 9, .mv (.t 0), none⟩,
  .op ⟨2, some 10, .call 0 [(.t 9)], none⟩,
  .op ⟨3, some 11, .bin .eql (.t 8) (.t 10), none⟩])
 (.cond (.t 11) (.reg [.op ⟨0, some 3, .mv (.c (.one (.str []))), none⟩]) (.skip))))
 (.reg [.op ⟨0, some 12, .mv (.t 0), none⟩,
  .op ⟨1, some 13, .nilc (.t 12), none⟩,
  .op ⟨2, some 14, .addr 3 (.t 13), none⟩,
  .op ⟨3, some 15, .load (.one (.sl 4)) (.t 14), none⟩,
  .op ⟨4, some 16, .mv (.t 1), none⟩,
  .op ⟨5, some 17, .idxa 4 (.t 15) (.t 16), none⟩,
  .op ⟨6, some 18, .addr 0 (.t 17), none⟩,
  .op ⟨7, some 19, .load (.one (.sl 1)) (.t 18), none⟩,
  .op ⟨8, some 20, .mv (.t 2), none⟩,
  .op ⟨9, some 21, .mv (.t 3), none⟩,
  .op ⟨10, some 22, .idxa 1 (.t 19) (.t 20), none⟩,
  .op ⟨11, none, .store 1 (.t 22) (.t 21), none⟩])⟩
noncomputable def nand_Chip_lay (x0 : Ptr) (x1 : Int) (x2 : Int) (x3 : Bytes) (H : Heap) : Option ((Unit) × Heap) :=
 ((nand_Chip_full x0 H).bind fun (r1 : ((Bytes × Unit) × Heap)) =>
 cond (decide ((x3 : Bytes) = r1.1.1)) (
 some (([], ()), r1.2)) (
 some ((x3, ()), r1.2)) : Option ((Bytes × Unit) × Heap)).bind fun (p2 : (Bytes × Unit) × Heap) =>
 (x0).bind fun (a3 : Nat × Nat) =>
 (rdSl 4 p2.2 a3.1 (a3.2 + 3)).bind fun (v4 : Sl) =>
 (Sl.at 4 v4 x1).bind fun (a5 : (Nat × Nat)) =>
 (rdSl 1 p2.2 a5.1 a5.2).bind fun (v6 : Sl) =>
 (Sl.at 1 v6 x2).bind fun (a7 : (Nat × Nat)) =>
 (wr p2.2 a7.1 a7.2 [.str p2.1.1]).bind fun (H8 : Heap) =>
 some ((()), H8)
noncomputable def nand_Chip_lay.c : Callee := .full [.one .ptr, .one (.int .i64), .one (.int .i64), .one .str] [] (fun x H => nand_Chip_lay x.1 x.2.1 x.2.2.1 x.2.2.2.1 H)
noncomputable def nand_Chip_lay.calls : Nat → Option Callee
  | 0 => some nand_Chip_full.c
  | _ => none
theorem nand_Chip_lay.eq : evFull nand_Chip_lay.calls nand_Chip_lay.af = (fun x H => nand_Chip_lay x.1 x.2.1 x.2.2.1 x.2.2.2.1 H) := by kernel_rfl

/-! ### (*tinderbox/nand.Chip).fail -/
def nand_Chip_fail.af : AFun := ⟨[.one .ptr], [.one .bool], [.t 2],
 .seq (.reg [.op ⟨0, some 2, .mv (.c (.one (.bool false))), none⟩])
 (.seq (.reg [.op ⟨0, some 3, .mv (.t 0), none⟩,
  .op ⟨1, some 4, .nilc (.t 3), none⟩,
  .op ⟨2, some 5, .addr 5 (.t 4), none⟩,
  .op ⟨3, some 6, .load (.one (.sl 1)) (.t 5), none⟩,
  .op ⟨4, some 7, .mv (.t 0), none⟩,
  .op ⟨5, some 8, .nilc (.t 7), none⟩,
  .op ⟨6, some 9, .addr 6 (.t 8), none⟩,
  .op ⟨7, some 10, .load (.one (.int .i64)) (.t 9), none⟩,
  .op ⟨8, some 11, .call 0 [(.t 6), (.t 10)], none⟩,
  .op ⟨9, some 2, .mv (.t 11), none⟩])
 (.ret))⟩
noncomputable def nand_Chip_fail (x0 : Ptr) (H : Heap) : Option ((Bool × Unit) × Heap) :=
 (x0).bind fun (a1 : Nat × Nat) =>
 (rdSl 1 H a1.1 (a1.2 + 5)).bind fun (v2 : Sl) =>
 (x0).bind fun (a3 : Nat × Nat) =>
 (rdI .i64 H a3.1 (a3.2 + 6)).bind fun (v4 : Int) =>
 (slices_Contains_int_int v2 v4 H).bind fun (r5 : ((Bool × Unit) × Heap)) =>
 some ((r5.1.1, ()), r5.2)
noncomputable def nand_Chip_fail.c : Callee := .full [.one .ptr] [.one .bool] (fun x H => nand_Chip_fail x.1 H)
noncomputable def nand_Chip_fail.calls : Nat → Option Callee
  | 0 => some slices_Contains_int_int.c
  | _ => none
theorem nand_Chip_fail.eq : evFull nand_Chip_fail.calls nand_Chip_fail.af = (fun x H => nand_Chip_fail x.1 H) := by kernel_rfl

/-! ### (*tinderbox/nand.Chip).Program -/
def nand_Chip_Program.af : AFun := ⟨[.one .ptr, .one (.int .i64), .one (.int .i64), .one .str, .one .str], [.one (.int .i64)], [.t 10],
 .seq (.reg [.op ⟨0, some 10, .mv (.c (.one (.int .i64 0))), none⟩])
 (.seq (.seq (.reg [.op ⟨0, some 16, .mv (.t 0), none⟩,
  .op ⟨1, some 17, .mv (.t 1), none⟩,
  .op ⟨2, some 18, .mv (.t 2), none⟩,
  .op ⟨3, some 19, .call 0 [(.t 16), (.t 17), (.t 18)], none⟩,
  .op ⟨4, some 11, .mv (.t 19), none⟩])
 (.seq (.reg [.op ⟨0, some 20, .mv (.t 11), none⟩,
  .op ⟨1, some 21, .bin .neq (.t 20) (.c (.one (.int .i64 0))), none⟩])
 (.cond (.t 21) (.seq (.reg [.op ⟨0, some 22, .mv (.t 11), none⟩,
  .op ⟨1, some 10, .mv (.t 22), none⟩])
 (.ret)) (.skip))))
 (.seq (.seq (.reg [.op ⟨0, some 23, .mv (.t 3), none⟩,
  .op ⟨1, some 24, .lens (.t 23), none⟩,
  .op ⟨2, some 25, .mv (.t 0), none⟩,
  .op ⟨3, some 26, .nilc (.t 25), none⟩,
  .op ⟨4, some 27, .addr 0 (.t 26), none⟩,
  .op ⟨5, some 28, .addr 2 (.t 27), none⟩,
  .op ⟨6, some 29, .load (.one (.int .i64)) (.t 28), none⟩,
  .op ⟨7, some 30, .bin .neq (.t 24) (.t 29), none⟩,
  .op ⟨8, some 31, .mv (.t 30), none⟩,
  .op ⟨9, some 32, .mv (.t 4), some (31, false)⟩,
  .op ⟨10, some 33, .lens (.t 32), some (31, false)⟩,
  .op ⟨11, some 34, .bin .neq (.t 33) (.c (.one (.int .i64 32))), some (31, false)⟩,
  .op ⟨12, some 35, .pick (.t 31) (.c (.one (.bool true))) (.t 34), none⟩])
 (.cond (.t 35) (.seq (.reg [.op ⟨0, some 10, .mv (.c (.one (.int .i64 1))), none⟩])
 (.ret)) (.skip)))
 (.seq (.reg [.op ⟨0, some 36, .mv (.t 0), none⟩,
  .op ⟨1, some 37, .nilc (.t 36), none⟩,
  .op ⟨2, some 38, .addr 3 (.t 37), none⟩,
  .op ⟨3, some 39, .load (.one (.sl 4)) (.t 38), none⟩,
  .op ⟨4, some 40, .mv (.t 1), none⟩,
  .op ⟨5, some 41, .idxa 4 (.t 39) (.t 40), none⟩,
  .op ⟨6, some 12, .mv (.t 41), none⟩])
 (.seq (.seq (.reg [.op ⟨0, some 42, .mv (.t 2), none⟩,
  .op ⟨1, some 13, .mv (.t 42), none⟩])
 (.block 0 (.loop [(13, .one (.int .i64))] [(.exit 0, []), (.ret, [(10, .one (.int .i64))])] (.seq (.seq (.reg [.op ⟨0, some 43, .mv (.t 13), none⟩,
  .op ⟨1, some 44, .mv (.t 0), none⟩,
  .op ⟨2, some 45, .nilc (.t 44), none⟩,
  .op ⟨3, some 46, .addr 0 (.t 45), none⟩,
  .op ⟨4, some 47, .addr 1 (.t 46), none⟩,
  .op ⟨5, some 48, .load (.one (.int .i64)) (.t 47), none⟩,
  .op ⟨6, some 49, .bin .lss (.t 43) (.t 48), none⟩])
 (.cond (.t 49) (.skip) (.exit 0)))
 (.seq (.block 1 (.seq (.reg [.op ⟨0, some 52, .mv (.t 12), none⟩,
  .op ⟨1, some 53, .nilc (.t 52), none⟩,
  .op ⟨2, some 54, .addr 0 (.t 53), none⟩,
  .op ⟨3, some 55, .load (.one (.sl 1)) (.t 54), none⟩,
  .op ⟨4, some 56, .mv (.t 13), none⟩,
  .op ⟨5, some 57, .idxa 1 (.t 55) (.t 56), none⟩,
  .op ⟨6, some 58, .load (.one .str) (.t 57), none⟩,
  .op ⟨7, some 59, .bin .neq (.t 58) (.c (.one (.str []))), none⟩])
 (.cond (.t 59) (.seq (.reg [.op ⟨0, some 10, .mv (.c (.one (.int .i64 52))), none⟩])
 (.ret)) (.skip))))
 (.reg [.op ⟨0, some 50, .mv (.t 13), none⟩,
  .op ⟨1, some 51, .bin .add (.t 50) (.c (.one (.int .i64 1))), none⟩,
  .op ⟨2, some 13, .mv (.t 51), none⟩]))))))
 (.seq (.reg [.op ⟨0, some 61, .mv (.t 0), none⟩,
  .op ⟨1, some 62, .call 1 [(.t 61)], none⟩,
  .op ⟨2, some 60, .mv (.t 62), none⟩,
  .op ⟨3, some 63, .ext (.t 60) 0, none⟩,
  .op ⟨4, some 64, .ext (.t 60) 1, none⟩,
  .op ⟨5, some 14, .new [.int .i64 0, .int .i64 0, .int .u8 0], none⟩,
  .op ⟨6, none, .store 3 (.t 14) (.t 63), none⟩,
  .op ⟨7, some 15, .mv (.t 64), none⟩])
 (.seq (.block 2 (.seq (.reg [.op ⟨0, some 66, .mv (.t 15), none⟩,
  .op ⟨1, some 65, .mv (.t 66), none⟩])
 (.cond (.t 65) (.seq (.reg [.op ⟨0, some 67, .mv (.t 0), none⟩,
  .op ⟨1, some 68, .mv (.t 1), none⟩,
  .op ⟨2, some 69, .mv (.t 2), none⟩,
  .op ⟨3, some 70, .load (.agg [.int .i64, .int .i64, .int .u8]) (.t 14), none⟩,
  .op ⟨4, some 71, .mv (.t 3), none⟩,
  .op ⟨5, some 72, .mv (.t 4), none⟩,
  .op ⟨6, some 73, .bin .add (.t 71) (.t 72), none⟩,
  .op ⟨7, some 74, .call 2 [(.t 70), (.t 73)], none⟩,
  .op ⟨8, some 75, .call 3 [(.t 67), (.t 68), (.t 69), (.t 74)], none⟩])
 (.seq (.reg [.op ⟨0, some 10, .mv (.c (.one (.int .i64 51))), none⟩])
 (.ret))) (.seq (.scope [(.normal, [(76, .one .bool)])] (.reg [.op ⟨0, some 77, .mv (.t 12), none⟩,
  .op ⟨1, some 78, .nilc (.t 77), none⟩,
  .op ⟨2, some 79, .addr 2 (.t 78), none⟩,
  .op ⟨3, some 80, .load (.one .bool) (.t 79), none⟩,
  .op ⟨4, some 81, .mv (.t 80), none⟩,
  .op ⟨5, some 82, .mv (.t 0), some (81, false)⟩,
  .op ⟨6, some 83, .call 4 [(.t 82)], some (81, false)⟩,
  .op ⟨7, some 84, .pick (.t 81) (.c (.one (.bool true))) (.t 83), none⟩,
  .op ⟨8, some 76, .mv (.t 84), none⟩]))
 (.cond (.t 76) (.seq (.reg [.op ⟨0, some 85, .mv (.t 12), none⟩,
  .op ⟨1, some 86, .nilc (.t 85), none⟩,
  .op ⟨2, some 87, .addr 2 (.t 86), none⟩,
  .op ⟨3, none, .store 1 (.t 87) (.c (.one (.bool true))), none⟩])
 (.seq (.reg [.op ⟨0, some 88, .mv (.t 0), none⟩,
  .op ⟨1, some 89, .mv (.t 1), none⟩,
  .op ⟨2, some 90, .mv (.t 2), none⟩,
  .op ⟨3, some 91, .build [.int .i64 0, .int .i64 0, .int .u8 0] [], none⟩,
  .op ⟨4, some 92, .mv (.t 3), none⟩,
  .op ⟨5, some 93, .mv (.t 4), none⟩,
  .op ⟨6, some 94, .bin .add (.t 92) (.t 93), none⟩,
  .op ⟨7, some 95, .call 2 [(.t 91), (.t 94)], none⟩,
  .op ⟨8, some 96, .call 3 [(.t 88), (.t 89), (.t 90), (.t 95)], none⟩])
 (.seq (.reg [.op ⟨0, some 10, .mv (.c (.one (.int .i64 53))), none⟩])
 (.ret)))) (.skip))))))
 (.seq (.reg [.op ⟨0, some 97, .mv (.t 0), none⟩,
  .op ⟨1, some 98, .mv (.t 1), none⟩,
  .op ⟨2, some 99, .mv (.t 2), none⟩,
  .op ⟨3, some 100, .mv (.t 3), none⟩,
  .op ⟨4, some 101, .mv (.t 4), none⟩,
  .op ⟨5, some 102, .bin .add (.t 100) (.t 101), none⟩,
  .op ⟨6, some 103, .call 3 [(.t 97), (.t 98), (.t 99), (.t 102)], none⟩])
 (.seq (.reg [.op ⟨0, some 10, .mv (.c (.one (.int .i64 0))), none⟩])
 (.ret)))))))))⟩
noncomputable def nand_Chip_Program.s1 (x0 : Ptr) (a6 : (Nat × Nat)) (s7 : (Int × Unit)) (H8 : Heap) : Option (((Int × Unit) ⊕ ((Unit) ⊕ (Int × Unit))) × Heap) :=
 (x0).bind fun (a9 : Nat × Nat) =>
 (rdI .i64 H8 a9.1 (a9.2 + 1)).bind fun (v10 : Int) =>
 cond (decide (s7.1 < v10)) (
 (rdSl 1 H8 a6.1 a6.2).bind fun (v11 : Sl) =>
 (Sl.at 1 v11 s7.1).bind fun (a12 : (Nat × Nat)) =>
 (rdS H8 a12.1 a12.2).bind fun (v13 : Bytes) =>
 cond (!decide ((v13 : Bytes) = [])) (
 some (Sum.inr (Sum.inr (52, ())), H8)) (
 some (Sum.inl ((IntKind.wrap .i64 (s7.1 + 1)), ()), H8))) (
 some (Sum.inr (Sum.inl (())), H8))
noncomputable def nand_Chip_Program (x0 : Ptr) (x1 : Int) (x2 : Int) (x3 : Bytes) (x4 : Bytes) (H : Heap) : Option ((Int × Unit) × Heap) :=
 (nand_Chip_in x0 x1 x2 H).bind fun (r1 : ((Int × Unit) × Heap)) =>
 cond (!decide (r1.1.1 = 0)) (
 some ((r1.1.1, ()), r1.2)) (
 (x0).bind fun (a2 : Nat × Nat) =>
 (rdI .i64 r1.2 a2.1 (a2.2 + 2)).bind fun (v3 : Int) =>
 cond (!decide ((List.length (x3 : Bytes) : Int) = v3)) (
 some ((1, ()), r1.2)) (
 cond (!decide ((List.length (x4 : Bytes) : Int) = 32)) (
 some ((1, ()), r1.2)) (
 (x0).bind fun (a4 : Nat × Nat) =>
 (rdSl 4 r1.2 a4.1 (a4.2 + 3)).bind fun (v5 : Sl) =>
 (Sl.at 4 v5 x1).bind fun (a6 : (Nat × Nat)) =>
 (loopW (nand_Chip_Program.s1 x0 a6) (x2, ()) r1.2).bind fun (p14 : ((Unit) ⊕ (Int × Unit)) × Heap) =>
 Sum.elim (fun (y15 : (Unit)) =>
 (nand_Chip_act x0 p14.2).bind fun (r16 : (((Int × Int × Int × Unit) × Bool × Unit) × Heap)) =>
 let H17 : Heap := r16.2 ++ [Blk.cells [.int .i64 0, .int .i64 0, .int .u8 0] .exact]
 (wr H17 r16.2.length 0 [.int .i64 r16.1.1.1, .int .i64 r16.1.1.2.1, .int .u8 r16.1.1.2.2.1]).bind fun (H18 : Heap) =>
 cond r16.1.2.1 (
 Option.bind (α := (Int × Int × Int × Unit)) (rd H18 (.agg [.int .i64, .int .i64, .int .u8]) r16.2.length 0) fun (v19 : (Int × Int × Int × Unit)) =>
 (catS x3 x4).bind fun (s20 : Bytes) =>
 (nand_torn (v19.1, v19.2.1, v19.2.2.1, ()) s20).bind fun (r21 : (Bytes × Unit)) =>
 (nand_Chip_lay x0 x1 x2 r21.1 H18).bind fun (r22 : ((Unit) × Heap)) =>
 some ((51, ()), r22.2)) (
 ((rdB H18 a6.1 (a6.2 + 2)).bind fun (v23 : Bool) =>
 cond v23 (
 some ((true, ()), H18)) (
 (nand_Chip_fail x0 H18).bind fun (r24 : ((Bool × Unit) × Heap)) =>
 some ((r24.1.1, ()), r24.2)) : Option ((Bool × Unit) × Heap)).bind fun (p25 : (Bool × Unit) × Heap) =>
 cond p25.1.1 (
 (wr p25.2 a6.1 (a6.2 + 2) [.bool true]).bind fun (H26 : Heap) =>
 (catS x3 x4).bind fun (s27 : Bytes) =>
 (nand_torn (0, 0, 0, ()) s27).bind fun (r28 : (Bytes × Unit)) =>
 (nand_Chip_lay x0 x1 x2 r28.1 H26).bind fun (r29 : ((Unit) × Heap)) =>
 some ((53, ()), r29.2)) (
 (catS x3 x4).bind fun (s30 : Bytes) =>
 (nand_Chip_lay x0 x1 x2 s30 p25.2).bind fun (r31 : ((Unit) × Heap)) =>
 some ((0, ()), r31.2)))) (fun (z32 : (Int × Unit)) =>
 some ((z32.1, ()), p14.2)) p14.1)))
noncomputable def nand_Chip_Program.c : Callee := .full [.one .ptr, .one (.int .i64), .one (.int .i64), .one .str, .one .str] [.one (.int .i64)] (fun x H => nand_Chip_Program x.1 x.2.1 x.2.2.1 x.2.2.2.1 x.2.2.2.2.1 H)
noncomputable def nand_Chip_Program.calls : Nat → Option Callee
  | 0 => some nand_Chip_in.c
  | 1 => some nand_Chip_act.c
  | 2 => some nand_torn.c
  | 3 => some nand_Chip_lay.c
  | 4 => some nand_Chip_fail.c
  | _ => none
theorem nand_Chip_Program.eq : evFull nand_Chip_Program.calls nand_Chip_Program.af = (fun x H => nand_Chip_Program x.1 x.2.1 x.2.2.1 x.2.2.2.1 x.2.2.2.2.1 H) := by kernel_rfl

/-! ### (*tinderbox/nand.Chip).Erase -/
def nand_Chip_Erase.af : AFun := ⟨[.one .ptr, .one (.int .i64)], [.one (.int .i64)], [.t 4],
 .seq (.reg [.op ⟨0, some 4, .mv (.c (.one (.int .i64 0))), none⟩])
 (.seq (.seq (.reg [.op ⟨0, some 11, .mv (.t 0), none⟩,
  .op ⟨1, some 12, .mv (.t 1), none⟩,
  .op ⟨2, some 13, .call 0 [(.t 11), (.t 12), (.c (.one (.int .i64 0)))], none⟩,
  .op ⟨3, some 5, .mv (.t 13), none⟩])
 (.seq (.reg [.op ⟨0, some 14, .mv (.t 5), none⟩,
  .op ⟨1, some 15, .bin .neq (.t 14) (.c (.one (.int .i64 0))), none⟩])
 (.cond (.t 15) (.seq (.reg [.op ⟨0, some 16, .mv (.t 5), none⟩,
  .op ⟨1, some 4, .mv (.t 16), none⟩])
 (.ret)) (.skip))))
 (.seq (.reg [.op ⟨0, some 17, .mv (.t 0), none⟩,
  .op ⟨1, some 18, .nilc (.t 17), none⟩,
  .op ⟨2, some 19, .addr 3 (.t 18), none⟩,
  .op ⟨3, some 20, .load (.one (.sl 4)) (.t 19), none⟩,
  .op ⟨4, some 21, .mv (.t 1), none⟩,
  .op ⟨5, some 22, .idxa 4 (.t 20) (.t 21), none⟩,
  .op ⟨6, some 6, .mv (.t 22), none⟩])
 (.seq (.reg [.op ⟨0, some 24, .mv (.t 0), none⟩,
  .op ⟨1, some 25, .call 1 [(.t 24)], none⟩,
  .op ⟨2, some 23, .mv (.t 25), none⟩,
  .op ⟨3, some 26, .ext (.t 23) 0, none⟩,
  .op ⟨4, some 27, .ext (.t 23) 1, none⟩,
  .op ⟨5, some 7, .new [.int .i64 0, .int .i64 0, .int .u8 0], none⟩,
  .op ⟨6, none, .store 3 (.t 7) (.t 26), none⟩,
  .op ⟨7, some 8, .mv (.t 27), none⟩])
 (.seq (.reg [.op ⟨0, some 28, .mv (.t 6), none⟩,
  .op ⟨1, some 29, .nilc (.t 28), none⟩,
  .op ⟨2, some 30, .addr 1 (.t 29), none⟩,
  .op ⟨3, some 31, .load (.one (.int .i64)) (.t 30), none⟩,
  .op ⟨4, some 32, .bin .add (.t 31) (.c (.one (.int .i64 1))), none⟩,
  .op ⟨5, some 33, .nilc (.t 28), none⟩,
  .op ⟨6, some 34, .addr 1 (.t 33), none⟩,
  .op ⟨7, none, .store 1 (.t 34) (.t 32), none⟩])
 (.seq (.block 0 (.seq (.reg [.op ⟨0, some 36, .mv (.t 8), none⟩,
  .op ⟨1, some 35, .mv (.t 36), none⟩])
 (.cond (.t 35) (.seq (.seq (.reg [.op ⟨0, some 37, .addr 1 (.t 7), none⟩,
  .op ⟨1, some 38, .load (.one (.int .i64)) (.t 37), none⟩,
  .op ⟨2, some 39, .max [(.t 38), (.c (.one (.int .i64 0)))], none⟩,
  .op ⟨3, some 40, .mv (.t 0), none⟩,
  .op ⟨4, some 41, .nilc (.t 40), none⟩,
  .op ⟨5, some 42, .addr 0 (.t 41), none⟩,
  .op ⟨6, some 43, .addr 1 (.t 42), none⟩,
  .op ⟨7, some 44, .load (.one (.int .i64)) (.t 43), none⟩,
  .op ⟨8, some 45, .min [(.t 39), (.t 44)], none⟩,
  .op ⟨9, some 46, .mv (.c (.one (.int .i64 0))), none⟩])
 (.block 1 (.loop [(46, .one (.int .i64))] [(.exit 1, [])] (.seq (.reg [.op ⟨0, some 47, .bin .lss (.t 46) (.t 45), none⟩])
 (.seq (.cond (.t 47) (.skip) (.exit 1))
 (.seq (.block 2 (.seq (.reg [.op ⟨0, some 48, .mv (.t 46), none⟩,
  .op ⟨1, some 9, .mv (.t 48), none⟩])
 (.reg [.op ⟨0, some 49, .mv (.t 6), none⟩,
  .op ⟨1, some 50, .nilc (.t 49), none⟩,
  .op ⟨2, some 51, .addr 0 (.t 50), none⟩,
  .op ⟨3, some 52, .load (.one (.sl 1)) (.t 51), none⟩,
  .op ⟨4, some 53, .mv (.t 9), none⟩,
  .op ⟨5, some 54, .idxa 1 (.t 52) (.t 53), none⟩,
  .op ⟨6, none, .store 1 (.t 54) (.c (.one (.str []))), none⟩])))
 (.reg [.op ⟨0, some 55, .bin .add (.t 46) (.c (.one (.int .i64 1))), none⟩,
  .op ⟨1, some 46, .mv (.t 55), none⟩])))))))
 (.seq (.seq (.reg [.op ⟨0, some 56, .addr 1 (.t 7), none⟩,
  .op ⟨1, some 57, .load (.one (.int .i64)) (.t 56), none⟩,
  .op ⟨2, some 10, .mv (.t 57), none⟩])
 (.seq (.scope [(.normal, [(68, .one .bool)])] (.reg [.op ⟨0, some 58, .mv (.t 10), none⟩,
  .op ⟨1, some 59, .bin .geq (.t 58) (.c (.one (.int .i64 0))), none⟩,
  .op ⟨2, some 60, .mv (.t 59), none⟩,
  .op ⟨3, some 61, .mv (.t 10), some (60, true)⟩,
  .op ⟨4, some 62, .mv (.t 0), some (60, true)⟩,
  .op ⟨5, some 63, .nilc (.t 62), some (60, true)⟩,
  .op ⟨6, some 64, .addr 0 (.t 63), some (60, true)⟩,
  .op ⟨7, some 65, .addr 1 (.t 64), some (60, true)⟩,
  .op ⟨8, some 66, .load (.one (.int .i64)) (.t 65), some (60, true)⟩,
  .op ⟨9, some 67, .bin .lss (.t 61) (.t 66), some (60, true)⟩,
  .op ⟨10, some 68, .pick (.t 60) (.t 67) (.c (.one (.bool false))), none⟩]))
 (.cond (.t 68) (.reg [.op ⟨0, some 69, .mv (.t 0), none⟩,
  .op ⟨1, some 70, .mv (.t 1), none⟩,
  .op ⟨2, some 71, .mv (.t 10), none⟩,
  .op ⟨3, some 72, .addr 2 (.t 7), none⟩,
  .op ⟨4, some 73, .load (.one (.int .u8)) (.t 72), none⟩,
  .op ⟨5, some 74, .build [.int .i64 0, .int .i64 0, .int .u8 0] [(2, 1, (.t 73))], none⟩,
  .op ⟨6, some 75, .mv (.t 0), none⟩,
  .op ⟨7, some 76, .call 2 [(.t 75)], none⟩,
  .op ⟨8, some 77, .call 3 [(.t 74), (.t 76)], none⟩,
  .again ⟨4, some 73, .load (.one (.int .u8)) (.t 72), none⟩,
  .op ⟨9, some 78, .call 4 [(.t 69), (.t 70), (.t 71), (.t 77)], none⟩]) (.skip))))
 (.seq (.reg [.op ⟨0, some 4, .mv (.c (.one (.int .i64 51))), none⟩])
 (.ret)))) (.seq (.scope [(.normal, [(79, .one .bool)])] (.reg [.op ⟨0, some 80, .mv (.t 6), none⟩,
  .op ⟨1, some 81, .nilc (.t 80), none⟩,
  .op ⟨2, some 82, .addr 2 (.t 81), none⟩,
  .op ⟨3, some 83, .load (.one .bool) (.t 82), none⟩,
  .op ⟨4, some 84, .mv (.t 83), none⟩,
  .op ⟨5, some 85, .mv (.t 0), some (84, false)⟩,
  .op ⟨6, some 86, .call 5 [(.t 85)], some (84, false)⟩,
  .op ⟨7, some 87, .pick (.t 84) (.c (.one (.bool true))) (.t 86), none⟩,
  .op ⟨8, some 79, .mv (.t 87), none⟩]))
 (.cond (.t 79) (.seq (.reg [.op ⟨0, some 88, .mv (.t 6), none⟩,
  .op ⟨1, some 89, .nilc (.t 88), none⟩,
  .op ⟨2, some 90, .addr 2 (.t 89), none⟩,
  .op ⟨3, none, .store 1 (.t 90) (.c (.one (.bool true))), none⟩])
 (.seq (.reg [.op ⟨0, some 4, .mv (.c (.one (.int .i64 54))), none⟩])
 (.ret))) (.skip))))))
 (.seq (.reg [.op ⟨0, some 91, .mv (.t 6), none⟩,
  .op ⟨1, some 92, .nilc (.t 91), none⟩,
  .op ⟨2, some 93, .addr 0 (.t 92), none⟩,
  .op ⟨3, some 94, .load (.one (.sl 1)) (.t 93), none⟩,
  .op ⟨4, none, .clr [.str []] (.t 94), none⟩])
 (.seq (.reg [.op ⟨0, some 4, .mv (.c (.one (.int .i64 0))), none⟩])
 (.ret))))))))⟩
noncomputable def nand_Chip_Erase.s1 (a4 : (Nat × Nat)) (v10 : Int) (v12 : Int) (s13 : (Int × Unit)) (H14 : Heap) : Option (((Int × Unit) ⊕ (Unit)) × Heap) :=
 cond (decide (s13.1 < (if v12 < (if 0 > v10 then 0 else v10) then v12 else (if 0 > v10 then 0 else v10)))) (
 (rdSl 1 H14 a4.1 a4.2).bind fun (v15 : Sl) =>
 (Sl.at 1 v15 s13.1).bind fun (a16 : (Nat × Nat)) =>
 (wr H14 a16.1 a16.2 [.str []]).bind fun (H17 : Heap) =>
 some (Sum.inl ((IntKind.wrap .i64 (s13.1 + 1)), ()), H17)) (
 some (Sum.inr (()), H14))
noncomputable def nand_Chip_Erase (x0 : Ptr) (x1 : Int) (H : Heap) : Option ((Int × Unit) × Heap) :=
 (nand_Chip_in x0 x1 0 H).bind fun (r1 : ((Int × Unit) × Heap)) =>
 cond (!decide (r1.1.1 = 0)) (
 some ((r1.1.1, ()), r1.2)) (
 (x0).bind fun (a2 : Nat × Nat) =>
 (rdSl 4 r1.2 a2.1 (a2.2 + 3)).bind fun (v3 : Sl) =>
 (Sl.at 4 v3 x1).bind fun (a4 : (Nat × Nat)) =>
 (nand_Chip_act x0 r1.2).bind fun (r5 : (((Int × Int × Int × Unit) × Bool × Unit) × Heap)) =>
 let H6 : Heap := r5.2 ++ [Blk.cells [.int .i64 0, .int .i64 0, .int .u8 0] .exact]
 (wr H6 r5.2.length 0 [.int .i64 r5.1.1.1, .int .i64 r5.1.1.2.1, .int .u8 r5.1.1.2.2.1]).bind fun (H7 : Heap) =>
 (rdI .i64 H7 a4.1 (a4.2 + 1)).bind fun (v8 : Int) =>
 (wr H7 a4.1 (a4.2 + 1) [.int .i64 (IntKind.wrap .i64 (v8 + 1))]).bind fun (H9 : Heap) =>
 cond r5.1.2.1 (
 (rdI .i64 H9 r5.2.length 1).bind fun (v10 : Int) =>
 (x0).bind fun (a11 : Nat × Nat) =>
 (rdI .i64 H9 a11.1 (a11.2 + 1)).bind fun (v12 : Int) =>
 (loopW (nand_Chip_Erase.s1 a4 v10 v12) (0, ()) H9).bind fun (p18 : (Unit) × Heap) =>
 (rdI .i64 p18.2 r5.2.length 1).bind fun (v19 : Int) =>
 (cond (decide (0 ≤ v19)) (
 (x0).bind fun (a20 : Nat × Nat) =>
 (rdI .i64 p18.2 a20.1 (a20.2 + 1)).bind fun (v21 : Int) =>
 some (((decide (v19 < v21)), ()), p18.2)) (
 some ((false, ()), p18.2)) : Option ((Bool × Unit) × Heap)).bind fun (p22 : (Bool × Unit) × Heap) =>
 cond p22.1.1 (
 (rdI .u8 p22.2 r5.2.length 2).bind fun (v23 : Int) =>
 (nand_Chip_full x0 p22.2).bind fun (r24 : ((Bytes × Unit) × Heap)) =>
 (nand_torn (0, 0, v23, ()) r24.1.1).bind fun (r25 : (Bytes × Unit)) =>
 (rdI .u8 r24.2 r5.2.length 2).bind fun (v26 : Int) =>
 if V.w (.one (.int .u8 v26)) = V.w (.one (.int .u8 v23)) then
 (nand_Chip_lay x0 x1 v19 r25.1 r24.2).bind fun (r27 : ((Unit) × Heap)) =>
 some ((51, ()), r27.2)
 else none) (
 some ((51, ()), p22.2))) (
 ((rdB H9 a4.1 (a4.2 + 2)).bind fun (v28 : Bool) =>
 cond v28 (
 some ((true, ()), H9)) (
 (nand_Chip_fail x0 H9).bind fun (r29 : ((Bool × Unit) × Heap)) =>
 some ((r29.1.1, ()), r29.2)) : Option ((Bool × Unit) × Heap)).bind fun (p30 : (Bool × Unit) × Heap) =>
 cond p30.1.1 (
 (wr p30.2 a4.1 (a4.2 + 2) [.bool true]).bind fun (H31 : Heap) =>
 some ((54, ()), H31)) (
 (rdSl 1 p30.2 a4.1 a4.2).bind fun (v32 : Sl) =>
 (clrS p30.2 [.str []] v32).bind fun (H33 : Heap) =>
 some ((0, ()), H33))))
noncomputable def nand_Chip_Erase.c : Callee := .full [.one .ptr, .one (.int .i64)] [.one (.int .i64)] (fun x H => nand_Chip_Erase x.1 x.2.1 H)
noncomputable def nand_Chip_Erase.calls : Nat → Option Callee
  | 0 => some nand_Chip_in.c
  | 1 => some nand_Chip_act.c
  | 2 => some nand_Chip_full.c
  | 3 => some nand_torn.c
  | 4 => some nand_Chip_lay.c
  | 5 => some nand_Chip_fail.c
  | _ => none
theorem nand_Chip_Erase.eq : evFull nand_Chip_Erase.calls nand_Chip_Erase.af = (fun x H => nand_Chip_Erase x.1 x.2.1 H) := by kernel_rfl

/-! ### (*tinderbox/nand.Chip).Dead -/
def nand_Chip_Dead.af : AFun := ⟨[.one .ptr], [.one (.sl 1)], [.t 2],
 .seq (.reg [.op ⟨0, some 2, .mv (.c (.one (.sl 1 (⟨none, 0, 0⟩)))), none⟩])
 (.seq (.seq (.reg [.op ⟨0, some 6, .mv (.t 0), none⟩,
  .op ⟨1, some 7, .isnil false (.t 6), none⟩])
 (.cond (.t 7) (.seq (.reg [.op ⟨0, some 2, .mv (.c (.one (.sl 1 (⟨none, 0, 0⟩)))), none⟩])
 (.ret)) (.skip)))
 (.seq (.reg [.op ⟨0, some 3, .mv (.c (.one (.sl 1 (⟨none, 0, 0⟩)))), none⟩])
 (.seq (.seq (.reg [.op ⟨0, some 8, .mv (.t 0), none⟩,
  .op ⟨1, some 9, .nilc (.t 8), none⟩,
  .op ⟨2, some 10, .addr 3 (.t 9), none⟩,
  .op ⟨3, some 11, .load (.one (.sl 4)) (.t 10), none⟩,
  .op ⟨4, some 12, .len (.t 11), none⟩,
  .op ⟨5, some 13, .mv (.c (.one (.int .i64 0))), none⟩])
 (.block 0 (.loop [(3, .one (.sl 1)), (13, .one (.int .i64))] [(.exit 0, [(3, .one (.sl 1))])] (.seq (.reg [.op ⟨0, some 14, .bin .lss (.t 13) (.t 12), none⟩])
 (.seq (.cond (.t 14) (.skip) (.exit 0))
 (.seq (.block 1 (.seq (.reg [.op ⟨0, some 15, .idxa 4 (.t 11) (.t 13), none⟩,
  .op ⟨1, some 16, .load (.agg [.sl 1, .int .i64, .bool, .bool]) (.t 15), none⟩,
  .op ⟨2, some 5, .new [.sl 1 Sl.nil, .int .i64 0, .bool false, .bool false], none⟩,
  .op ⟨3, none, .store 4 (.t 5) (.t 16), none⟩])
 (.reg [.op ⟨0, some 17, .mv (.t 3), none⟩,
  .op ⟨1, some 18, .addr 2 (.t 5), none⟩,
  .op ⟨2, some 19, .load (.one .bool) (.t 18), none⟩,
  .op ⟨3, some 20, .bslice 1 1 [.bool false] [(0, 1, (.t 19))], none⟩,
  .op ⟨4, some 21, .app 1 1 (.t 17) (.t 20), none⟩,
  .op ⟨5, some 3, .mv (.t 21), none⟩])))
 (.reg [.op ⟨0, some 22, .bin .add (.t 13) (.c (.one (.int .i64 1))), none⟩,
  .op ⟨1, some 13, .mv (.t 22), none⟩])))))))
 (.seq (.reg [.op ⟨0, some 23, .mv (.t 3), none⟩,
  .op ⟨1, some 2, .mv (.t 23), none⟩])
 (.ret)))))⟩
noncomputable def nand_Chip_Dead.s1 (v2 : Sl) (s3 : (Sl × Int × Unit)) (H4 : Heap) : Option (((Sl × Int × Unit) ⊕ (Sl × Unit)) × Heap) :=
 cond (decide (s3.2.1 < (v2.len : Int))) (
 (Sl.at 4 v2 s3.2.1).bind fun (a5 : (Nat × Nat)) =>
 Option.bind (α := (Sl × Int × Bool × Bool × Unit)) (rd H4 (.agg [.sl 1, .int .i64, .bool, .bool]) a5.1 a5.2) fun (v6 : (Sl × Int × Bool × Bool × Unit)) =>
 let H7 : Heap := H4 ++ [Blk.cells [.sl 1 Sl.nil, .int .i64 0, .bool false, .bool false] .exact]
 (wr H7 H4.length 0 [.sl 1 v6.1, .int .i64 v6.2.1, .bool v6.2.2.1, .bool v6.2.2.2.1]).bind fun (H8 : Heap) =>
 (rdB H8 H4.length 2).bind fun (v9 : Bool) =>
 let H10 : Heap := H8 ++ [Blk.cells [.bool v9] .exact]
 (slRow H10 1 (⟨some (H8.length, 0), 1, 1⟩)).bind fun (cs11 : (List C)) =>
 (appS H10 1 1 s3.1 1 cs11).bind fun (p12 : (Sl × Heap)) =>
 some (Sum.inl (p12.1, (IntKind.wrap .i64 (s3.2.1 + 1)), ()), p12.2)) (
 some (Sum.inr (s3.1, ()), H4))
noncomputable def nand_Chip_Dead (x0 : Ptr) (H : Heap) : Option ((Sl × Unit) × Heap) :=
 cond (Option.isNone x0) (
 some ((⟨none, 0, 0⟩, ()), H)) (
 (x0).bind fun (a1 : Nat × Nat) =>
 (rdSl 4 H a1.1 (a1.2 + 3)).bind fun (v2 : Sl) =>
 (loopW (nand_Chip_Dead.s1 v2) (⟨none, 0, 0⟩, 0, ()) H).bind fun (p13 : (Sl × Unit) × Heap) =>
 some ((p13.1.1, ()), p13.2))
noncomputable def nand_Chip_Dead.c : Callee := .full [.one .ptr] [.one (.sl 1)] (fun x H => nand_Chip_Dead x.1 H)
noncomputable def nand_Chip_Dead.calls : Nat → Option Callee
  | _ => none
theorem nand_Chip_Dead.eq : evFull nand_Chip_Dead.calls nand_Chip_Dead.af = (fun x H => nand_Chip_Dead x.1 H) := by kernel_rfl
end Ev
