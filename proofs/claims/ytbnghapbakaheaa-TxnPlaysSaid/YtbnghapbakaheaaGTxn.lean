/- What the functions of the package Txn compute: abstract code, and a function of plain Lean for each; the kernel checks that they are the same. Written by gen2.py. -/
import Derived.Test.YtbnghapbakaheaaEvCore
import Derived.Test.YtbnghapbakaheaaGRec
import Derived.Test.YtbnghapbakaheaaGSlices
import Derived.Test.YtbnghapbakaheaaGState
import Derived.KernelRfl
set_option linter.unusedVariables false
set_option maxRecDepth 100000
namespace Ev
open Go (IntKind BinOp UnOp)

/-! ### tinderbox/txn.New -/
def txn_New.af : AFun := ⟨[.one .ptr, .agg [.int .i64, .int .i64, .int .i64, .int .i64], .one (.int .i64)], [.one .ptr], [.t 6],
 .seq (.reg [.op ⟨0, some 4, .box (.t 1), none⟩,
  .op ⟨1, some 6, .mv (.c (.one (.ptr none))), none⟩])
 (.seq (.reg [.op ⟨0, some 7, .mv (.t 0), none⟩,
  .op ⟨2, some 9, .load (.agg [.int .i64, .int .i64, .int .i64, .int .i64]) (.t 4), none⟩,
  .op ⟨3, some 10, .mv (.t 2), none⟩,
  .op ⟨4, some 11, .mkm, none⟩,
  .op ⟨1, some 8, .call 0 [(.t 7)], none⟩,
  .op ⟨5, some 12, .build [.ptr none, .sl 7 Sl.nil, .int .i64 0, .int .i64 0, .int .i64 0, .int .i64 0, .int .i64 0, .mp none, .int .i64 0] [(0, 1, (.t 8)), (2, 4, (.t 9)), (6, 1, (.t 10)), (7, 1, (.t 11)), (8, 1, (.c (.one (.int .i64 512))))], none⟩,
  .op ⟨6, some 13, .box (.t 12), none⟩,
  .op ⟨7, some 6, .mv (.t 13), none⟩,
  .again ⟨2, some 9, .load (.agg [.int .i64, .int .i64, .int .i64, .int .i64]) (.t 4), none⟩,
  .still ⟨4, some 11, .mkm, none⟩])
 (.ret))⟩
noncomputable def txn_New (x0 : Ptr) (x1 : (Int × Int × Int × Int × Unit)) (x2 : Int) (H : Heap) : Option ((Ptr × Unit) × Heap) :=
 let H1 : Heap := H ++ [Blk.cells [.int .i64 x1.1, .int .i64 x1.2.1, .int .i64 x1.2.2.1, .int .i64 x1.2.2.2.1] .exact]
 Option.bind (α := (Int × Int × Int × Int × Unit)) (rd H1 (.agg [.int .i64, .int .i64, .int .i64, .int .i64]) H.length 0) fun (v2 : (Int × Int × Int × Int × Unit)) =>
 let H3 : Heap := H1 ++ [Blk.mp [] 0]
 (state_State_Copy x0 H3).bind fun (r4 : ((Ptr × Unit) × Heap)) =>
 let H5 : Heap := r4.2 ++ [Blk.cells [.ptr r4.1.1, .sl 7 (⟨none, 0, 0⟩), .int .i64 v2.1, .int .i64 v2.2.1, .int .i64 v2.2.2.1, .int .i64 v2.2.2.2.1, .int .i64 x2, .mp (some (H1.length)), .int .i64 512] .exact]
 Option.bind (α := (Int × Int × Int × Int × Unit)) (rd H5 (.agg [.int .i64, .int .i64, .int .i64, .int .i64]) H.length 0) fun (v6 : (Int × Int × Int × Int × Unit)) =>
 if V.w (.agg [.int .i64 v6.1, .int .i64 v6.2.1, .int .i64 v6.2.2.1, .int .i64 v6.2.2.2.1]) = V.w (.agg [.int .i64 v2.1, .int .i64 v2.2.1, .int .i64 v2.2.2.1, .int .i64 v2.2.2.2.1]) then
 if H5[(H1.length)]? = some (Blk.mp [] 0) then
 some ((some (r4.2.length, 0), ()), H5)
 else none
 else none
noncomputable def txn_New.c : Callee := .full [.one .ptr, .agg [.int .i64, .int .i64, .int .i64, .int .i64], .one (.int .i64)] [.one .ptr] (fun x H => txn_New x.1 x.2.1 x.2.2.1 H)
noncomputable def txn_New.calls : Nat → Option Callee
  | 0 => some state_State_Copy.c
  | _ => none
theorem txn_New.eq : evFull txn_New.calls txn_New.af = (fun x H => txn_New x.1 x.2.1 x.2.2.1 H) := by kernel_rfl

/-! ### (*tinderbox/txn.Txn).sealed -/
def txn_Txn_sealed.af : AFun := ⟨[.one .ptr, .one (.int .i64)], [.one (.int .i64)], [.t 4],
 .seq (.reg [.op ⟨0, some 4, .mv (.c (.one (.int .i64 0))), none⟩])
 (.seq (.reg [.op ⟨0, some 8, .mv (.t 0), none⟩,
  .op ⟨1, some 9, .nilc (.t 8), none⟩,
  .op ⟨2, some 10, .addr 0 (.t 9), none⟩,
  .op ⟨3, some 11, .load (.one .ptr) (.t 10), none⟩,
  .op ⟨4, some 12, .mv (.t 1), none⟩,
  .op ⟨5, some 13, .call 0 [(.t 11), (.t 12)], none⟩,
  .op ⟨6, some 7, .mv (.t 13), none⟩,
  .op ⟨7, some 14, .ext (.t 7) 0, none⟩,
  .op ⟨8, some 15, .ext (.t 7) 1, none⟩,
  .op ⟨9, some 5, .new [.int .i64 0, .int .i64 0, .int .i64 0, .bool false], none⟩,
  .op ⟨10, none, .store 4 (.t 5) (.t 14), none⟩,
  .op ⟨11, some 6, .mv (.t 15), none⟩])
 (.seq (.block 0 (.seq (.reg [.op ⟨0, some 17, .mv (.t 6), none⟩,
  .op ⟨1, some 18, .un .not (.t 17), none⟩,
  .op ⟨2, some 16, .mv (.t 18), none⟩])
 (.cond (.t 16) (.seq (.reg [.op ⟨0, some 4, .mv (.c (.one (.int .i64 80))), none⟩])
 (.ret)) (.seq (.reg [.op ⟨0, some 20, .addr 3 (.t 5), none⟩,
  .op ⟨1, some 21, .load (.one .bool) (.t 20), none⟩,
  .op ⟨2, some 19, .mv (.t 21), none⟩])
 (.cond (.t 19) (.seq (.reg [.op ⟨0, some 4, .mv (.c (.one (.int .i64 170))), none⟩])
 (.ret)) (.skip))))))
 (.seq (.reg [.op ⟨0, some 4, .mv (.c (.one (.int .i64 0))), none⟩])
 (.ret))))⟩
noncomputable def txn_Txn_sealed (x0 : Ptr) (x1 : Int) (H : Heap) : Option ((Int × Unit) × Heap) :=
 (x0).bind fun (a1 : Nat × Nat) =>
 (rdP H a1.1 a1.2).bind fun (v2 : Ptr) =>
 (state_State_Space v2 x1 H).bind fun (r3 : (((Int × Int × Int × Bool × Unit) × Bool × Unit) × Heap)) =>
 let H4 : Heap := r3.2 ++ [Blk.cells [.int .i64 0, .int .i64 0, .int .i64 0, .bool false] .exact]
 (wr H4 r3.2.length 0 [.int .i64 r3.1.1.1, .int .i64 r3.1.1.2.1, .int .i64 r3.1.1.2.2.1, .bool r3.1.1.2.2.2.1]).bind fun (H5 : Heap) =>
 cond (!r3.1.2.1) (
 some ((80, ()), H5)) (
 (rdB H5 r3.2.length 3).bind fun (v6 : Bool) =>
 cond v6 (
 some ((170, ()), H5)) (
 some ((0, ()), H5)))
noncomputable def txn_Txn_sealed.c : Callee := .full [.one .ptr, .one (.int .i64)] [.one (.int .i64)] (fun x H => txn_Txn_sealed x.1 x.2.1 H)
noncomputable def txn_Txn_sealed.calls : Nat → Option Callee
  | 0 => some state_State_Space.c
  | _ => none
theorem txn_Txn_sealed.eq : evFull txn_Txn_sealed.calls txn_Txn_sealed.af = (fun x H => txn_Txn_sealed x.1 x.2.1 H) := by kernel_rfl

/-! ### (*tinderbox/txn.Txn).Do$1 -/
def txn_Txn_Do_1.af : AFun := ⟨[.one .ptr, .one .ptr], [.one (.int .i64)], [.t 3],
 .seq (.reg [.op ⟨0, some 3, .mv (.c (.one (.int .i64 0))), none⟩])
 (.seq (.reg [.op ⟨0, some 4, .mv (.t 0), none⟩,
  .op ⟨1, some 5, .load (.agg [.int .i64, .int .i64, .int .i64, .int .i64, .int .i64, .int .i64]) (.t 1), none⟩,
  .op ⟨2, some 6, .call 0 [(.t 4), (.t 5)], none⟩,
  .op ⟨3, some 3, .mv (.t 6), none⟩])
 (.ret))⟩
noncomputable def txn_Txn_Do_1 (x0 : Ptr) (x1 : Ptr) (H : Heap) : Option ((Int × Unit) × Heap) :=
 (x1).bind fun (a1 : Nat × Nat) =>
 Option.bind (α := (Int × Int × Int × Int × Int × Int × Unit)) (rd H (.agg [.int .i64, .int .i64, .int .i64, .int .i64, .int .i64, .int .i64]) a1.1 a1.2) fun (v2 : (Int × Int × Int × Int × Int × Int × Unit)) =>
 (state_State_Apply x0 (v2.1, v2.2.1, v2.2.2.1, v2.2.2.2.1, v2.2.2.2.2.1, v2.2.2.2.2.2.1, ()) H).bind fun (r3 : ((Int × Unit) × Heap)) =>
 some ((r3.1.1, ()), r3.2)
noncomputable def txn_Txn_Do_1.c : Callee := .full [.one .ptr, .one .ptr] [.one (.int .i64)] (fun x H => txn_Txn_Do_1 x.1 x.2.1 H)
noncomputable def txn_Txn_Do_1.calls : Nat → Option Callee
  | 0 => some state_State_Apply.c
  | _ => none
theorem txn_Txn_Do_1.eq : evFull txn_Txn_Do_1.calls txn_Txn_Do_1.af = (fun x H => txn_Txn_Do_1 x.1 x.2.1 H) := by kernel_rfl

/-! ### (*tinderbox/txn.Txn).do.of.txn_Txn_Do_1 -/
def txn_Txn_do_of_txn_Txn_Do_1.af : AFun := ⟨[.one .ptr, .agg [.int .i64, .int .i64, .int .i64, .int .i64, .int .i64, .int .i64, .str], .one (.clo 32 1)], [.one (.int .i64)], [.t 6],
 .seq (.reg [.op ⟨0, some 4, .box (.t 1), none⟩,
  .op ⟨1, some 6, .mv (.c (.one (.int .i64 0))), none⟩])
 (.seq (.seq (.reg [.op ⟨0, some 9, .mv (.t 0), none⟩,
  .op ⟨1, some 10, .nilc (.t 9), none⟩,
  .op ⟨2, some 11, .addr 1 (.t 10), none⟩,
  .op ⟨3, some 12, .load (.one (.sl 7)) (.t 11), none⟩,
  .op ⟨4, some 13, .len (.t 12), none⟩,
  .op ⟨5, some 14, .bin .geq (.t 13) (.c (.one (.int .i64 8))), none⟩])
 (.cond (.t 14) (.seq (.reg [.op ⟨0, some 6, .mv (.c (.one (.int .i64 171))), none⟩])
 (.ret)) (.skip)))
 (.seq (.reg [.op ⟨0, some 15, .mv (.t 0), none⟩,
  .op ⟨1, some 16, .nilc (.t 15), none⟩,
  .op ⟨2, some 17, .addr 0 (.t 16), none⟩,
  .op ⟨3, some 18, .load (.one .ptr) (.t 17), none⟩,
  .op ⟨4, some 19, .call 0 [(.t 18)], none⟩,
  .op ⟨5, some 7, .mv (.t 19), none⟩])
 (.seq (.seq (.reg [.op ⟨0, some 20, .mv (.t 2), none⟩,
  .op ⟨1, some 21, .mv (.t 7), none⟩,
  .op ⟨2, some 22, .callc 32 1 (.t 20) 1 [(.t 21)], none⟩,
  .op ⟨3, some 8, .mv (.t 22), none⟩])
 (.seq (.reg [.op ⟨0, some 23, .mv (.t 8), none⟩,
  .op ⟨1, some 24, .bin .neq (.t 23) (.c (.one (.int .i64 0))), none⟩])
 (.cond (.t 24) (.seq (.reg [.op ⟨0, some 25, .mv (.t 8), none⟩,
  .op ⟨1, some 6, .mv (.t 25), none⟩])
 (.ret)) (.skip))))
 (.seq (.seq (.reg [.op ⟨0, some 26, .mv (.t 7), none⟩,
  .op ⟨2, some 28, .mv (.t 0), none⟩,
  .op ⟨3, some 29, .nilc (.t 28), none⟩,
  .op ⟨4, some 30, .addr 2 (.t 29), none⟩,
  .op ⟨5, some 31, .addr 0 (.t 30), none⟩,
  .op ⟨6, some 32, .load (.one (.int .i64)) (.t 31), none⟩,
  .op ⟨1, some 27, .call 2 [(.t 26)], none⟩,
  .op ⟨7, some 33, .bin .gtr (.t 27) (.t 32), none⟩,
  .op ⟨8, some 34, .mv (.t 33), none⟩,
  .op ⟨9, some 35, .mv (.t 7), some (34, false)⟩,
  .op ⟨11, some 37, .mv (.t 0), some (34, false)⟩,
  .op ⟨12, some 38, .nilc (.t 37), some (34, false)⟩,
  .op ⟨13, some 39, .addr 2 (.t 38), some (34, false)⟩,
  .op ⟨14, some 40, .addr 1 (.t 39), some (34, false)⟩,
  .op ⟨15, some 41, .load (.one (.int .i64)) (.t 40), some (34, false)⟩,
  .again ⟨6, some 32, .load (.one (.int .i64)) (.t 31), none⟩,
  .op ⟨10, some 36, .call 3 [(.t 35)], some (34, false)⟩,
  .op ⟨16, some 42, .bin .gtr (.t 36) (.t 41), some (34, false)⟩,
  .op ⟨17, some 43, .pick (.t 34) (.c (.one (.bool true))) (.t 42), none⟩,
  .again ⟨15, some 41, .load (.one (.int .i64)) (.t 40), some (34, false)⟩])
 (.cond (.t 43) (.seq (.reg [.op ⟨0, some 6, .mv (.c (.one (.int .i64 172))), none⟩])
 (.ret)) (.skip)))
 (.seq (.reg [.op ⟨0, some 44, .mv (.t 0), none⟩,
  .op ⟨1, some 45, .mv (.t 0), none⟩,
  .op ⟨2, some 46, .mv (.t 7), none⟩,
  .op ⟨3, some 47, .mv (.t 0), none⟩,
  .op ⟨4, some 48, .nilc (.t 47), none⟩,
  .op ⟨5, some 49, .addr 1 (.t 48), none⟩,
  .op ⟨6, some 50, .load (.one (.sl 7)) (.t 49), none⟩,
  .op ⟨7, some 51, .load (.agg [.int .i64, .int .i64, .int .i64, .int .i64, .int .i64, .int .i64, .str]) (.t 4), none⟩,
  .op ⟨8, some 52, .bslice 7 1 [.int .i64 0, .int .i64 0, .int .i64 0, .int .i64 0, .int .i64 0, .int .i64 0, .str []] [(0, 7, (.t 51))], none⟩,
  .op ⟨9, some 53, .app 7 64 (.t 50) (.t 52), none⟩,
  .op ⟨10, some 54, .nilc (.t 44), none⟩,
  .op ⟨11, some 55, .addr 0 (.t 54), none⟩,
  .op ⟨12, none, .store 1 (.t 55) (.t 46), none⟩,
  .op ⟨13, some 56, .nilc (.t 45), none⟩,
  .op ⟨14, some 57, .addr 1 (.t 56), none⟩,
  .op ⟨15, none, .store 1 (.t 57) (.t 53), none⟩])
 (.seq (.reg [.op ⟨0, some 6, .mv (.c (.one (.int .i64 0))), none⟩])
 (.ret)))))))⟩
noncomputable def txn_Txn_do_of_txn_Txn_Do_1 (x0 : Ptr) (x1 : (Int × Int × Int × Int × Int × Int × Bytes × Unit)) (x2 : (Ptr × Unit)) (H : Heap) : Option ((Int × Unit) × Heap) :=
 let H1 : Heap := H ++ [Blk.cells [.int .i64 x1.1, .int .i64 x1.2.1, .int .i64 x1.2.2.1, .int .i64 x1.2.2.2.1, .int .i64 x1.2.2.2.2.1, .int .i64 x1.2.2.2.2.2.1, .str x1.2.2.2.2.2.2.1] .exact]
 (x0).bind fun (a2 : Nat × Nat) =>
 (rdSl 7 H1 a2.1 (a2.2 + 1)).bind fun (v3 : Sl) =>
 cond (decide (8 ≤ (v3.len : Int))) (
 some ((171, ()), H1)) (
 (x0).bind fun (a4 : Nat × Nat) =>
 (rdP H1 a4.1 a4.2).bind fun (v5 : Ptr) =>
 (state_State_Copy v5 H1).bind fun (r6 : ((Ptr × Unit) × Heap)) =>
 (txn_Txn_Do_1 r6.1.1 x2.1 r6.2).bind fun (r7 : ((Int × Unit) × Heap)) =>
 cond (!decide (r7.1.1 = 0)) (
 some ((r7.1.1, ()), r7.2)) (
 (x0).bind fun (a8 : Nat × Nat) =>
 (rdI .i64 r7.2 a8.1 (a8.2 + 2)).bind fun (v9 : Int) =>
 (state_State_Live r6.1.1 r7.2).bind fun (r10 : ((Int × Unit) × Heap)) =>
 cond (decide (v9 < r10.1.1)) (
 (rdI .i64 r10.2 a8.1 (a8.2 + 2)).bind fun (v11 : Int) =>
 if V.w (.one (.int .i64 v11)) = V.w (.one (.int .i64 v9)) then
 some ((172, ()), r10.2)
 else none) (
 (x0).bind fun (a12 : Nat × Nat) =>
 (rdI .i64 r10.2 a12.1 (a12.2 + 3)).bind fun (v13 : Int) =>
 (rdI .i64 r10.2 a8.1 (a8.2 + 2)).bind fun (v14 : Int) =>
 if V.w (.one (.int .i64 v14)) = V.w (.one (.int .i64 v9)) then
 (state_State_Keys r6.1.1 r10.2).bind fun (r15 : ((Int × Unit) × Heap)) =>
 (rdI .i64 r15.2 a12.1 (a12.2 + 3)).bind fun (v16 : Int) =>
 if V.w (.one (.int .i64 v16)) = V.w (.one (.int .i64 v13)) then
 cond (decide (v13 < r15.1.1)) (
 some ((172, ()), r15.2)) (
 (x0).bind fun (a17 : Nat × Nat) =>
 (rdSl 7 r15.2 a17.1 (a17.2 + 1)).bind fun (v18 : Sl) =>
 Option.bind (α := (Int × Int × Int × Int × Int × Int × Bytes × Unit)) (rd r15.2 (.agg [.int .i64, .int .i64, .int .i64, .int .i64, .int .i64, .int .i64, .str]) H.length 0) fun (v19 : (Int × Int × Int × Int × Int × Int × Bytes × Unit)) =>
 let H20 : Heap := r15.2 ++ [Blk.cells [.int .i64 v19.1, .int .i64 v19.2.1, .int .i64 v19.2.2.1, .int .i64 v19.2.2.2.1, .int .i64 v19.2.2.2.2.1, .int .i64 v19.2.2.2.2.2.1, .str v19.2.2.2.2.2.2.1] .exact]
 (slRow H20 7 (⟨some (r15.2.length, 0), 1, 1⟩)).bind fun (cs21 : (List C)) =>
 (appS H20 7 64 v18 1 cs21).bind fun (p22 : (Sl × Heap)) =>
 (x0).bind fun (a23 : Nat × Nat) =>
 (wr p22.2 a23.1 a23.2 [.ptr r6.1.1]).bind fun (H24 : Heap) =>
 (x0).bind fun (a25 : Nat × Nat) =>
 (wr H24 a25.1 (a25.2 + 1) [.sl 7 p22.1]).bind fun (H26 : Heap) =>
 some ((0, ()), H26))
 else none
 else none)))
noncomputable def txn_Txn_do_of_txn_Txn_Do_1.c : Callee := .full [.one .ptr, .agg [.int .i64, .int .i64, .int .i64, .int .i64, .int .i64, .int .i64, .str], .one (.clo 32 1)] [.one (.int .i64)] (fun x H => txn_Txn_do_of_txn_Txn_Do_1 x.1 x.2.1 x.2.2.1 H)
noncomputable def txn_Txn_do_of_txn_Txn_Do_1.calls : Nat → Option Callee
  | 0 => some state_State_Copy.c
  | 1 => some txn_Txn_Do_1.c
  | 2 => some state_State_Live.c
  | 3 => some state_State_Keys.c
  | _ => none
theorem txn_Txn_do_of_txn_Txn_Do_1.eq : evFull txn_Txn_do_of_txn_Txn_Do_1.calls txn_Txn_do_of_txn_Txn_Do_1.af = (fun x H => txn_Txn_do_of_txn_Txn_Do_1 x.1 x.2.1 x.2.2.1 H) := by kernel_rfl

/-! ### (*tinderbox/txn.Txn).Do -/
def txn_Txn_Do.af : AFun := ⟨[.one .ptr, .agg [.int .i64, .int .i64, .int .i64, .int .i64, .int .i64, .int .i64]], [.one (.int .i64)], [.t 4],
 .seq (.reg [.op ⟨0, some 3, .box (.t 1), none⟩,
  .op ⟨1, some 4, .mv (.c (.one (.int .i64 0))), none⟩])
 (.seq (.scope [(.normal, [(5, .one .bool)])] (.reg [.op ⟨0, some 7, .addr 0 (.t 3), none⟩,
  .op ⟨1, some 8, .load (.one (.int .i64)) (.t 7), none⟩,
  .op ⟨2, some 9, .bin .eql (.t 8) (.c (.one (.int .i64 2))), none⟩,
  .op ⟨3, some 10, .mv (.t 9), none⟩,
  .op ⟨4, some 11, .addr 0 (.t 3), some (10, false)⟩,
  .op ⟨5, some 12, .load (.one (.int .i64)) (.t 11), some (10, false)⟩,
  .op ⟨6, some 13, .bin .geq (.t 12) (.c (.one (.int .i64 4))), some (10, false)⟩,
  .op ⟨7, some 14, .mv (.t 13), some (10, false)⟩,
  .op ⟨8, some 15, .addr 0 (.t 3), some (14, true)⟩,
  .op ⟨9, some 16, .load (.one (.int .i64)) (.t 15), some (14, true)⟩,
  .op ⟨10, some 17, .bin .leq (.t 16) (.c (.one (.int .i64 7))), some (14, true)⟩,
  .op ⟨11, some 18, .pick (.t 14) (.t 17) (.c (.one (.bool false))), some (10, false)⟩,
  .op ⟨12, some 19, .pick (.t 10) (.c (.one (.bool true))) (.t 18), none⟩,
  .op ⟨13, some 5, .mv (.t 19), none⟩]))
 (.seq (.seq (.reg [.op ⟨0, some 20, .mv (.t 0), none⟩,
  .op ⟨1, some 21, .isnil false (.t 20), none⟩,
  .op ⟨2, some 22, .mv (.t 21), none⟩,
  .op ⟨3, some 23, .mv (.t 5), some (22, false)⟩,
  .op ⟨4, some 24, .un .not (.t 23), some (22, false)⟩,
  .op ⟨5, some 25, .pick (.t 22) (.c (.one (.bool true))) (.t 24), none⟩,
  .op ⟨6, some 26, .mv (.t 25), none⟩,
  .op ⟨7, some 27, .load (.agg [.int .i64, .int .i64, .int .i64, .int .i64, .int .i64, .int .i64]) (.t 3), some (26, false)⟩,
  .op ⟨8, some 28, .call 0 [(.t 27)], some (26, false)⟩,
  .op ⟨9, some 29, .un .not (.t 28), some (26, false)⟩,
  .op ⟨10, some 30, .pick (.t 26) (.c (.one (.bool true))) (.t 29), none⟩])
 (.cond (.t 30) (.seq (.reg [.op ⟨0, some 4, .mv (.c (.one (.int .i64 1))), none⟩])
 (.ret)) (.skip)))
 (.seq (.scope [(.normal, []), (.ret, [(4, .one (.int .i64))])] (.seq (.reg [.op ⟨0, some 31, .addr 0 (.t 3), none⟩,
  .op ⟨1, some 32, .load (.one (.int .i64)) (.t 31), none⟩,
  .op ⟨2, some 33, .bin .eql (.t 32) (.c (.one (.int .i64 2))), none⟩])
 (.cond (.t 33) (.seq (.reg [.op ⟨0, some 34, .mv (.t 0), none⟩,
  .op ⟨1, some 35, .addr 1 (.t 3), none⟩,
  .op ⟨2, some 36, .load (.one (.int .i64)) (.t 35), none⟩,
  .op ⟨3, some 37, .call 1 [(.t 34), (.t 36)], none⟩,
  .op ⟨4, some 6, .mv (.t 37), none⟩])
 (.seq (.reg [.op ⟨0, some 38, .mv (.t 6), none⟩,
  .op ⟨1, some 39, .bin .neq (.t 38) (.c (.one (.int .i64 0))), none⟩])
 (.cond (.t 39) (.seq (.reg [.op ⟨0, some 40, .mv (.t 6), none⟩,
  .op ⟨1, some 4, .mv (.t 40), none⟩])
 (.ret)) (.skip)))) (.skip))))
 (.seq (.reg [.op ⟨0, some 41, .mv (.t 0), none⟩,
  .op ⟨1, some 42, .load (.agg [.int .i64, .int .i64, .int .i64, .int .i64, .int .i64, .int .i64]) (.t 3), none⟩,
  .op ⟨2, some 43, .build [.int .i64 0, .int .i64 0, .int .i64 0, .int .i64 0, .int .i64 0, .int .i64 0, .str []] [(0, 6, (.t 42))], none⟩,
  .op ⟨3, some 44, .mkf 32 [(.t 3)], none⟩,
  .op ⟨4, some 45, .call 2 [(.t 41), (.t 43), (.t 44)], none⟩,
  .op ⟨5, some 4, .mv (.t 45), none⟩])
 (.ret)))))⟩
noncomputable def txn_Txn_Do (x0 : Ptr) (x1 : (Int × Int × Int × Int × Int × Int × Unit)) (H : Heap) : Option ((Int × Unit) × Heap) :=
 let H1 : Heap := H ++ [Blk.cells [.int .i64 x1.1, .int .i64 x1.2.1, .int .i64 x1.2.2.1, .int .i64 x1.2.2.2.1, .int .i64 x1.2.2.2.2.1, .int .i64 x1.2.2.2.2.2.1] .exact]
 ((rdI .i64 H1 H.length 0).bind fun (v2 : Int) =>
 cond (decide (v2 = 2)) (
 some ((true, ()), H1)) (
 (rdI .i64 H1 H.length 0).bind fun (v3 : Int) =>
 cond (decide (4 ≤ v3)) (
 (rdI .i64 H1 H.length 0).bind fun (v4 : Int) =>
 some (((decide (v4 ≤ 7)), ()), H1)) (
 some ((false, ()), H1))) : Option ((Bool × Unit) × Heap)).bind fun (p5 : (Bool × Unit) × Heap) =>
 cond (Option.isNone x0) (
 some ((1, ()), p5.2)) (
 cond (!p5.1.1) (
 some ((1, ()), p5.2)) (
 Option.bind (α := (Int × Int × Int × Int × Int × Int × Unit)) (rd p5.2 (.agg [.int .i64, .int .i64, .int .i64, .int .i64, .int .i64, .int .i64]) H.length 0) fun (v6 : (Int × Int × Int × Int × Int × Int × Unit)) =>
 (rec_Check (v6.1, v6.2.1, v6.2.2.1, v6.2.2.2.1, v6.2.2.2.2.1, v6.2.2.2.2.2.1, ())).bind fun (r7 : (Bool × Unit)) =>
 cond (!r7.1) (
 some ((1, ()), p5.2)) (
 ((rdI .i64 p5.2 H.length 0).bind fun (v8 : Int) =>
 cond (decide (v8 = 2)) (
 (rdI .i64 p5.2 H.length 1).bind fun (v9 : Int) =>
 (txn_Txn_sealed x0 v9 p5.2).bind fun (r10 : ((Int × Unit) × Heap)) =>
 cond (!decide (r10.1.1 = 0)) (
 some (Sum.inr (r10.1.1, ()), r10.2)) (
 some (Sum.inl (()), r10.2))) (
 some (Sum.inl (()), p5.2)) : Option (((Unit) ⊕ (Int × Unit)) × Heap)).bind fun (p11 : ((Unit) ⊕ (Int × Unit)) × Heap) =>
 Sum.elim (fun (y12 : (Unit)) =>
 Option.bind (α := (Int × Int × Int × Int × Int × Int × Unit)) (rd p11.2 (.agg [.int .i64, .int .i64, .int .i64, .int .i64, .int .i64, .int .i64]) H.length 0) fun (v13 : (Int × Int × Int × Int × Int × Int × Unit)) =>
 (txn_Txn_do_of_txn_Txn_Do_1 x0 (v13.1, v13.2.1, v13.2.2.1, v13.2.2.2.1, v13.2.2.2.2.1, v13.2.2.2.2.2.1, [], ()) (some (H.length, 0), ()) p11.2).bind fun (r14 : ((Int × Unit) × Heap)) =>
 some ((r14.1.1, ()), r14.2)) (fun (z15 : (Int × Unit)) =>
 some ((z15.1, ()), p11.2)) p11.1)))
noncomputable def txn_Txn_Do.c : Callee := .full [.one .ptr, .agg [.int .i64, .int .i64, .int .i64, .int .i64, .int .i64, .int .i64]] [.one (.int .i64)] (fun x H => txn_Txn_Do x.1 x.2.1 H)
noncomputable def txn_Txn_Do.calls : Nat → Option Callee
  | 0 => some rec_Check.c
  | 1 => some txn_Txn_sealed.c
  | 2 => some txn_Txn_do_of_txn_Txn_Do_1.c
  | _ => none
theorem txn_Txn_Do.eq : evFull txn_Txn_Do.calls txn_Txn_Do.af = (fun x H => txn_Txn_Do x.1 x.2.1 H) := by kernel_rfl

/-! ### (*tinderbox/txn.Txn).Put$1 -/
def txn_Txn_Put_1.af : AFun := ⟨[.one .ptr, .one .ptr, .one .ptr, .one .ptr], [.one (.int .i64)], [.t 5],
 .seq (.reg [.op ⟨0, some 5, .mv (.c (.one (.int .i64 0))), none⟩])
 (.seq (.reg [.op ⟨0, some 6, .mv (.t 0), none⟩,
  .op ⟨1, some 7, .load (.one (.int .i64)) (.t 1), none⟩,
  .op ⟨2, some 8, .load (.one (.int .i64)) (.t 2), none⟩,
  .op ⟨3, some 9, .load (.one .ptr) (.t 3), none⟩,
  .op ⟨4, some 10, .nilc (.t 9), none⟩,
  .op ⟨5, some 11, .addr 8 (.t 10), none⟩,
  .op ⟨6, some 12, .load (.one (.int .i64)) (.t 11), none⟩,
  .op ⟨7, some 13, .call 0 [(.t 6), (.t 7), (.t 8), (.t 12)], none⟩,
  .op ⟨8, some 5, .mv (.t 13), none⟩])
 (.ret))⟩
noncomputable def txn_Txn_Put_1 (x0 : Ptr) (x1 : Ptr) (x2 : Ptr) (x3 : Ptr) (H : Heap) : Option ((Int × Unit) × Heap) :=
 (x1).bind fun (a1 : Nat × Nat) =>
 (rdI .i64 H a1.1 a1.2).bind fun (v2 : Int) =>
 (x2).bind fun (a3 : Nat × Nat) =>
 (rdI .i64 H a3.1 a3.2).bind fun (v4 : Int) =>
 (x3).bind fun (a5 : Nat × Nat) =>
 (rdP H a5.1 a5.2).bind fun (v6 : Ptr) =>
 (v6).bind fun (a7 : Nat × Nat) =>
 (rdI .i64 H a7.1 (a7.2 + 8)).bind fun (v8 : Int) =>
 (state_State_Lay x0 v2 v4 v8 H).bind fun (r9 : ((Int × Unit) × Heap)) =>
 some ((r9.1.1, ()), r9.2)
noncomputable def txn_Txn_Put_1.c : Callee := .full [.one .ptr, .one .ptr, .one .ptr, .one .ptr] [.one (.int .i64)] (fun x H => txn_Txn_Put_1 x.1 x.2.1 x.2.2.1 x.2.2.2.1 H)
noncomputable def txn_Txn_Put_1.calls : Nat → Option Callee
  | 0 => some state_State_Lay.c
  | _ => none
theorem txn_Txn_Put_1.eq : evFull txn_Txn_Put_1.calls txn_Txn_Put_1.af = (fun x H => txn_Txn_Put_1 x.1 x.2.1 x.2.2.1 x.2.2.2.1 H) := by kernel_rfl

/-! ### (*tinderbox/txn.Txn).do.of.txn_Txn_Put_1 -/
def txn_Txn_do_of_txn_Txn_Put_1.af : AFun := ⟨[.one .ptr, .agg [.int .i64, .int .i64, .int .i64, .int .i64, .int .i64, .int .i64, .str], .one (.clo 30 3)], [.one (.int .i64)], [.t 6],
 .seq (.reg [.op ⟨0, some 4, .box (.t 1), none⟩,
  .op ⟨1, some 6, .mv (.c (.one (.int .i64 0))), none⟩])
 (.seq (.seq (.reg [.op ⟨0, some 9, .mv (.t 0), none⟩,
  .op ⟨1, some 10, .nilc (.t 9), none⟩,
  .op ⟨2, some 11, .addr 1 (.t 10), none⟩,
  .op ⟨3, some 12, .load (.one (.sl 7)) (.t 11), none⟩,
  .op ⟨4, some 13, .len (.t 12), none⟩,
  .op ⟨5, some 14, .bin .geq (.t 13) (.c (.one (.int .i64 8))), none⟩])
 (.cond (.t 14) (.seq (.reg [.op ⟨0, some 6, .mv (.c (.one (.int .i64 171))), none⟩])
 (.ret)) (.skip)))
 (.seq (.reg [.op ⟨0, some 15, .mv (.t 0), none⟩,
  .op ⟨1, some 16, .nilc (.t 15), none⟩,
  .op ⟨2, some 17, .addr 0 (.t 16), none⟩,
  .op ⟨3, some 18, .load (.one .ptr) (.t 17), none⟩,
  .op ⟨4, some 19, .call 0 [(.t 18)], none⟩,
  .op ⟨5, some 7, .mv (.t 19), none⟩])
 (.seq (.seq (.reg [.op ⟨0, some 20, .mv (.t 2), none⟩,
  .op ⟨1, some 21, .mv (.t 7), none⟩,
  .op ⟨2, some 22, .callc 30 3 (.t 20) 1 [(.t 21)], none⟩,
  .op ⟨3, some 8, .mv (.t 22), none⟩])
 (.seq (.reg [.op ⟨0, some 23, .mv (.t 8), none⟩,
  .op ⟨1, some 24, .bin .neq (.t 23) (.c (.one (.int .i64 0))), none⟩])
 (.cond (.t 24) (.seq (.reg [.op ⟨0, some 25, .mv (.t 8), none⟩,
  .op ⟨1, some 6, .mv (.t 25), none⟩])
 (.ret)) (.skip))))
 (.seq (.seq (.reg [.op ⟨0, some 26, .mv (.t 7), none⟩,
  .op ⟨2, some 28, .mv (.t 0), none⟩,
  .op ⟨3, some 29, .nilc (.t 28), none⟩,
  .op ⟨4, some 30, .addr 2 (.t 29), none⟩,
  .op ⟨5, some 31, .addr 0 (.t 30), none⟩,
  .op ⟨6, some 32, .load (.one (.int .i64)) (.t 31), none⟩,
  .op ⟨1, some 27, .call 2 [(.t 26)], none⟩,
  .op ⟨7, some 33, .bin .gtr (.t 27) (.t 32), none⟩,
  .op ⟨8, some 34, .mv (.t 33), none⟩,
  .op ⟨9, some 35, .mv (.t 7), some (34, false)⟩,
  .op ⟨11, some 37, .mv (.t 0), some (34, false)⟩,
  .op ⟨12, some 38, .nilc (.t 37), some (34, false)⟩,
  .op ⟨13, some 39, .addr 2 (.t 38), some (34, false)⟩,
  .op ⟨14, some 40, .addr 1 (.t 39), some (34, false)⟩,
  .op ⟨15, some 41, .load (.one (.int .i64)) (.t 40), some (34, false)⟩,
  .again ⟨6, some 32, .load (.one (.int .i64)) (.t 31), none⟩,
  .op ⟨10, some 36, .call 3 [(.t 35)], some (34, false)⟩,
  .op ⟨16, some 42, .bin .gtr (.t 36) (.t 41), some (34, false)⟩,
  .op ⟨17, some 43, .pick (.t 34) (.c (.one (.bool true))) (.t 42), none⟩,
  .again ⟨15, some 41, .load (.one (.int .i64)) (.t 40), some (34, false)⟩])
 (.cond (.t 43) (.seq (.reg [.op ⟨0, some 6, .mv (.c (.one (.int .i64 172))), none⟩])
 (.ret)) (.skip)))
 (.seq (.reg [.op ⟨0, some 44, .mv (.t 0), none⟩,
  .op ⟨1, some 45, .mv (.t 0), none⟩,
  .op ⟨2, some 46, .mv (.t 7), none⟩,
  .op ⟨3, some 47, .mv (.t 0), none⟩,
  .op ⟨4, some 48, .nilc (.t 47), none⟩,
  .op ⟨5, some 49, .addr 1 (.t 48), none⟩,
  .op ⟨6, some 50, .load (.one (.sl 7)) (.t 49), none⟩,
  .op ⟨7, some 51, .load (.agg [.int .i64, .int .i64, .int .i64, .int .i64, .int .i64, .int .i64, .str]) (.t 4), none⟩,
  .op ⟨8, some 52, .bslice 7 1 [.int .i64 0, .int .i64 0, .int .i64 0, .int .i64 0, .int .i64 0, .int .i64 0, .str []] [(0, 7, (.t 51))], none⟩,
  .op ⟨9, some 53, .app 7 64 (.t 50) (.t 52), none⟩,
  .op ⟨10, some 54, .nilc (.t 44), none⟩,
  .op ⟨11, some 55, .addr 0 (.t 54), none⟩,
  .op ⟨12, none, .store 1 (.t 55) (.t 46), none⟩,
  .op ⟨13, some 56, .nilc (.t 45), none⟩,
  .op ⟨14, some 57, .addr 1 (.t 56), none⟩,
  .op ⟨15, none, .store 1 (.t 57) (.t 53), none⟩])
 (.seq (.reg [.op ⟨0, some 6, .mv (.c (.one (.int .i64 0))), none⟩])
 (.ret)))))))⟩
noncomputable def txn_Txn_do_of_txn_Txn_Put_1 (x0 : Ptr) (x1 : (Int × Int × Int × Int × Int × Int × Bytes × Unit)) (x2 : (Ptr × Ptr × Ptr × Unit)) (H : Heap) : Option ((Int × Unit) × Heap) :=
 let H1 : Heap := H ++ [Blk.cells [.int .i64 x1.1, .int .i64 x1.2.1, .int .i64 x1.2.2.1, .int .i64 x1.2.2.2.1, .int .i64 x1.2.2.2.2.1, .int .i64 x1.2.2.2.2.2.1, .str x1.2.2.2.2.2.2.1] .exact]
 (x0).bind fun (a2 : Nat × Nat) =>
 (rdSl 7 H1 a2.1 (a2.2 + 1)).bind fun (v3 : Sl) =>
 cond (decide (8 ≤ (v3.len : Int))) (
 some ((171, ()), H1)) (
 (x0).bind fun (a4 : Nat × Nat) =>
 (rdP H1 a4.1 a4.2).bind fun (v5 : Ptr) =>
 (state_State_Copy v5 H1).bind fun (r6 : ((Ptr × Unit) × Heap)) =>
 (txn_Txn_Put_1 r6.1.1 x2.1 x2.2.1 x2.2.2.1 r6.2).bind fun (r7 : ((Int × Unit) × Heap)) =>
 cond (!decide (r7.1.1 = 0)) (
 some ((r7.1.1, ()), r7.2)) (
 (x0).bind fun (a8 : Nat × Nat) =>
 (rdI .i64 r7.2 a8.1 (a8.2 + 2)).bind fun (v9 : Int) =>
 (state_State_Live r6.1.1 r7.2).bind fun (r10 : ((Int × Unit) × Heap)) =>
 cond (decide (v9 < r10.1.1)) (
 (rdI .i64 r10.2 a8.1 (a8.2 + 2)).bind fun (v11 : Int) =>
 if V.w (.one (.int .i64 v11)) = V.w (.one (.int .i64 v9)) then
 some ((172, ()), r10.2)
 else none) (
 (x0).bind fun (a12 : Nat × Nat) =>
 (rdI .i64 r10.2 a12.1 (a12.2 + 3)).bind fun (v13 : Int) =>
 (rdI .i64 r10.2 a8.1 (a8.2 + 2)).bind fun (v14 : Int) =>
 if V.w (.one (.int .i64 v14)) = V.w (.one (.int .i64 v9)) then
 (state_State_Keys r6.1.1 r10.2).bind fun (r15 : ((Int × Unit) × Heap)) =>
 (rdI .i64 r15.2 a12.1 (a12.2 + 3)).bind fun (v16 : Int) =>
 if V.w (.one (.int .i64 v16)) = V.w (.one (.int .i64 v13)) then
 cond (decide (v13 < r15.1.1)) (
 some ((172, ()), r15.2)) (
 (x0).bind fun (a17 : Nat × Nat) =>
 (rdSl 7 r15.2 a17.1 (a17.2 + 1)).bind fun (v18 : Sl) =>
 Option.bind (α := (Int × Int × Int × Int × Int × Int × Bytes × Unit)) (rd r15.2 (.agg [.int .i64, .int .i64, .int .i64, .int .i64, .int .i64, .int .i64, .str]) H.length 0) fun (v19 : (Int × Int × Int × Int × Int × Int × Bytes × Unit)) =>
 let H20 : Heap := r15.2 ++ [Blk.cells [.int .i64 v19.1, .int .i64 v19.2.1, .int .i64 v19.2.2.1, .int .i64 v19.2.2.2.1, .int .i64 v19.2.2.2.2.1, .int .i64 v19.2.2.2.2.2.1, .str v19.2.2.2.2.2.2.1] .exact]
 (slRow H20 7 (⟨some (r15.2.length, 0), 1, 1⟩)).bind fun (cs21 : (List C)) =>
 (appS H20 7 64 v18 1 cs21).bind fun (p22 : (Sl × Heap)) =>
 (x0).bind fun (a23 : Nat × Nat) =>
 (wr p22.2 a23.1 a23.2 [.ptr r6.1.1]).bind fun (H24 : Heap) =>
 (x0).bind fun (a25 : Nat × Nat) =>
 (wr H24 a25.1 (a25.2 + 1) [.sl 7 p22.1]).bind fun (H26 : Heap) =>
 some ((0, ()), H26))
 else none
 else none)))
noncomputable def txn_Txn_do_of_txn_Txn_Put_1.c : Callee := .full [.one .ptr, .agg [.int .i64, .int .i64, .int .i64, .int .i64, .int .i64, .int .i64, .str], .one (.clo 30 3)] [.one (.int .i64)] (fun x H => txn_Txn_do_of_txn_Txn_Put_1 x.1 x.2.1 x.2.2.1 H)
noncomputable def txn_Txn_do_of_txn_Txn_Put_1.calls : Nat → Option Callee
  | 0 => some state_State_Copy.c
  | 1 => some txn_Txn_Put_1.c
  | 2 => some state_State_Live.c
  | 3 => some state_State_Keys.c
  | _ => none
theorem txn_Txn_do_of_txn_Txn_Put_1.eq : evFull txn_Txn_do_of_txn_Txn_Put_1.calls txn_Txn_do_of_txn_Txn_Put_1.af = (fun x H => txn_Txn_do_of_txn_Txn_Put_1 x.1 x.2.1 x.2.2.1 H) := by kernel_rfl

/-! ### (*tinderbox/txn.Txn).Put -/
def txn_Txn_Put.af : AFun := ⟨[.one .ptr, .one (.int .i64), .one (.int .i64), .one .str], [.one (.int .i64)], [.t 8],
 .seq (.reg [.op ⟨0, some 4, .box (.t 0), none⟩,
  .op ⟨1, some 5, .box (.t 1), none⟩,
  .op ⟨2, some 6, .box (.t 2), none⟩,
  .op ⟨3, some 8, .mv (.c (.one (.int .i64 0))), none⟩])
 (.seq (.reg [.op ⟨0, some 12, .load (.one (.int .i64)) (.t 5), none⟩,
  .op ⟨1, some 13, .load (.one (.int .i64)) (.t 6), none⟩,
  .op ⟨2, some 14, .build [.int .i64 0, .int .i64 0, .int .i64 0, .int .i64 0, .int .i64 0, .int .i64 0] [(0, 1, (.c (.one (.int .i64 1)))), (1, 1, (.t 12)), (2, 1, (.t 13))], none⟩,
  .op ⟨3, some 9, .new [.int .i64 0, .int .i64 0, .int .i64 0, .int .i64 0, .int .i64 0, .int .i64 0], none⟩,
  .op ⟨4, none, .store 6 (.t 9) (.t 14), none⟩])
 (.seq (.block 0 (.seq (.reg [.op ⟨0, some 16, .load (.one .ptr) (.t 4), none⟩,
  .op ⟨1, some 17, .isnil false (.t 16), none⟩,
  .op ⟨2, some 15, .mv (.t 17), none⟩])
 (.cond (.t 15) (.seq (.reg [.op ⟨0, some 8, .mv (.c (.one (.int .i64 1))), none⟩])
 (.ret)) (.seq (.reg [.op ⟨0, some 19, .mv (.t 3), none⟩,
  .op ⟨1, some 20, .lens (.t 19), none⟩,
  .op ⟨2, some 21, .load (.one .ptr) (.t 4), none⟩,
  .op ⟨3, some 22, .nilc (.t 21), none⟩,
  .op ⟨4, some 23, .addr 6 (.t 22), none⟩,
  .op ⟨5, some 24, .load (.one (.int .i64)) (.t 23), none⟩,
  .op ⟨6, some 25, .bin .gtr (.t 20) (.t 24), none⟩,
  .op ⟨7, some 18, .mv (.t 25), none⟩])
 (.cond (.t 18) (.seq (.reg [.op ⟨0, some 8, .mv (.c (.one (.int .i64 173))), none⟩])
 (.ret)) (.skip))))))
 (.seq (.seq (.reg [.op ⟨0, some 26, .load (.one .ptr) (.t 4), none⟩,
  .op ⟨1, some 27, .load (.one (.int .i64)) (.t 5), none⟩,
  .op ⟨2, some 28, .call 0 [(.t 26), (.t 27)], none⟩,
  .op ⟨3, some 10, .mv (.t 28), none⟩])
 (.seq (.reg [.op ⟨0, some 29, .mv (.t 10), none⟩,
  .op ⟨1, some 30, .bin .neq (.t 29) (.c (.one (.int .i64 0))), none⟩])
 (.cond (.t 30) (.seq (.reg [.op ⟨0, some 31, .mv (.t 10), none⟩,
  .op ⟨1, some 8, .mv (.t 31), none⟩])
 (.ret)) (.skip))))
 (.seq (.reg [.op ⟨0, some 32, .load (.one .ptr) (.t 4), none⟩,
  .op ⟨1, some 33, .load (.agg [.int .i64, .int .i64, .int .i64, .int .i64, .int .i64, .int .i64]) (.t 9), none⟩,
  .op ⟨2, some 34, .mv (.t 3), none⟩,
  .op ⟨3, some 35, .build [.int .i64 0, .int .i64 0, .int .i64 0, .int .i64 0, .int .i64 0, .int .i64 0, .str []] [(0, 6, (.t 33)), (6, 1, (.t 34))], none⟩,
  .op ⟨4, some 36, .mkf 30 [(.t 5), (.t 6), (.t 4)], none⟩,
  .op ⟨5, some 37, .call 1 [(.t 32), (.t 35), (.t 36)], none⟩,
  .op ⟨6, some 11, .mv (.t 37), none⟩])
 (.seq (.seq (.reg [.op ⟨0, some 38, .mv (.t 11), none⟩,
  .op ⟨1, some 39, .bin .eql (.t 38) (.c (.one (.int .i64 0))), none⟩])
 (.cond (.t 39) (.seq (.reg [.op ⟨0, some 40, .load (.one .ptr) (.t 4), none⟩,
  .op ⟨1, some 41, .nilc (.t 40), none⟩,
  .op ⟨2, some 42, .addr 7 (.t 41), none⟩,
  .op ⟨3, some 43, .load (.one .mp) (.t 42), none⟩,
  .op ⟨4, some 44, .load (.one .ptr) (.t 4), none⟩,
  .op ⟨5, some 45, .nilc (.t 44), none⟩,
  .op ⟨6, some 46, .addr 8 (.t 45), none⟩,
  .op ⟨7, some 47, .load (.one (.int .i64)) (.t 46), none⟩,
  .op ⟨8, some 48, .mv (.t 3), none⟩,
  .op ⟨9, none, .mset (.t 43) (.t 47) (.t 48), none⟩])
 (.reg [.op ⟨0, some 49, .load (.one .ptr) (.t 4), none⟩,
  .op ⟨1, some 50, .nilc (.t 49), none⟩,
  .op ⟨2, some 51, .addr 8 (.t 50), none⟩,
  .op ⟨3, some 52, .load (.one (.int .i64)) (.t 51), none⟩,
  .op ⟨4, some 53, .bin .add (.t 52) (.c (.one (.int .i64 1))), none⟩,
  .op ⟨5, some 54, .nilc (.t 49), none⟩,
  .op ⟨6, some 55, .addr 8 (.t 54), none⟩,
  .op ⟨7, none, .store 1 (.t 55) (.t 53), none⟩])) (.skip)))
 (.seq (.reg [.op ⟨0, some 56, .mv (.t 11), none⟩,
  .op ⟨1, some 8, .mv (.t 56), none⟩])
 (.ret)))))))⟩
noncomputable def txn_Txn_Put (x0 : Ptr) (x1 : Int) (x2 : Int) (x3 : Bytes) (H : Heap) : Option ((Int × Unit) × Heap) :=
 let H1 : Heap := H ++ [Blk.cells [.ptr x0] .exact]
 let H2 : Heap := H1 ++ [Blk.cells [.int .i64 x1] .exact]
 let H3 : Heap := H2 ++ [Blk.cells [.int .i64 x2] .exact]
 (rdI .i64 H3 H1.length 0).bind fun (v4 : Int) =>
 (rdI .i64 H3 H2.length 0).bind fun (v5 : Int) =>
 let H6 : Heap := H3 ++ [Blk.cells [.int .i64 0, .int .i64 0, .int .i64 0, .int .i64 0, .int .i64 0, .int .i64 0] .exact]
 (wr H6 H3.length 0 [.int .i64 1, .int .i64 v4, .int .i64 v5, .int .i64 0, .int .i64 0, .int .i64 0]).bind fun (H7 : Heap) =>
 (rdP H7 H.length 0).bind fun (v8 : Ptr) =>
 cond (Option.isNone v8) (
 some ((1, ()), H7)) (
 (rdP H7 H.length 0).bind fun (v9 : Ptr) =>
 (v9).bind fun (a10 : Nat × Nat) =>
 (rdI .i64 H7 a10.1 (a10.2 + 6)).bind fun (v11 : Int) =>
 cond (decide (v11 < (List.length (x3 : Bytes) : Int))) (
 some ((173, ()), H7)) (
 (rdP H7 H.length 0).bind fun (v12 : Ptr) =>
 (rdI .i64 H7 H1.length 0).bind fun (v13 : Int) =>
 (txn_Txn_sealed v12 v13 H7).bind fun (r14 : ((Int × Unit) × Heap)) =>
 cond (!decide (r14.1.1 = 0)) (
 some ((r14.1.1, ()), r14.2)) (
 (rdP r14.2 H.length 0).bind fun (v15 : Ptr) =>
 Option.bind (α := (Int × Int × Int × Int × Int × Int × Unit)) (rd r14.2 (.agg [.int .i64, .int .i64, .int .i64, .int .i64, .int .i64, .int .i64]) H3.length 0) fun (v16 : (Int × Int × Int × Int × Int × Int × Unit)) =>
 (txn_Txn_do_of_txn_Txn_Put_1 v15 (v16.1, v16.2.1, v16.2.2.1, v16.2.2.2.1, v16.2.2.2.2.1, v16.2.2.2.2.2.1, x3, ()) (some (H1.length, 0), some (H2.length, 0), some (H.length, 0), ()) r14.2).bind fun (r17 : ((Int × Unit) × Heap)) =>
 cond (decide (r17.1.1 = 0)) (
 (rdP r17.2 H.length 0).bind fun (v18 : Ptr) =>
 (v18).bind fun (a19 : Nat × Nat) =>
 (rdM r17.2 a19.1 (a19.2 + 7)).bind fun (v20 : Option Nat) =>
 (rdP r17.2 H.length 0).bind fun (v21 : Ptr) =>
 (v21).bind fun (a22 : Nat × Nat) =>
 (rdI .i64 r17.2 a22.1 (a22.2 + 8)).bind fun (v23 : Int) =>
 (mset r17.2 v20 v23 (.one (.str x3))).bind fun (H24 : Heap) =>
 (rdP H24 H.length 0).bind fun (v25 : Ptr) =>
 (v25).bind fun (a26 : Nat × Nat) =>
 (rdI .i64 H24 a26.1 (a26.2 + 8)).bind fun (v27 : Int) =>
 (v25).bind fun (a28 : Nat × Nat) =>
 (wr H24 a28.1 (a28.2 + 8) [.int .i64 (IntKind.wrap .i64 (v27 + 1))]).bind fun (H29 : Heap) =>
 some ((r17.1.1, ()), H29)) (
 some ((r17.1.1, ()), r17.2)))))
noncomputable def txn_Txn_Put.c : Callee := .full [.one .ptr, .one (.int .i64), .one (.int .i64), .one .str] [.one (.int .i64)] (fun x H => txn_Txn_Put x.1 x.2.1 x.2.2.1 x.2.2.2.1 H)
noncomputable def txn_Txn_Put.calls : Nat → Option Callee
  | 0 => some txn_Txn_sealed.c
  | 1 => some txn_Txn_do_of_txn_Txn_Put_1.c
  | _ => none
theorem txn_Txn_Put.eq : evFull txn_Txn_Put.calls txn_Txn_Put.af = (fun x H => txn_Txn_Put x.1 x.2.1 x.2.2.1 x.2.2.2.1 H) := by kernel_rfl

/-! ### (*tinderbox/txn.Txn).Get -/
def txn_Txn_Get.af : AFun := ⟨[.one .ptr, .one (.int .i64), .one (.int .i64)], [.one .str, .one (.int .i64), .one .bool], [.t 6, .t 7, .t 8],
 .seq (.reg [.op ⟨0, some 6, .mv (.c (.one (.str []))), none⟩,
  .op ⟨1, some 7, .mv (.c (.one (.int .i64 0))), none⟩,
  .op ⟨2, some 8, .mv (.c (.one (.bool false))), none⟩])
 (.seq (.seq (.reg [.op ⟨0, some 12, .mv (.t 0), none⟩,
  .op ⟨1, some 13, .isnil false (.t 12), none⟩])
 (.cond (.t 13) (.seq (.reg [.op ⟨0, some 6, .mv (.c (.one (.str []))), none⟩,
  .op ⟨1, some 7, .mv (.c (.one (.int .i64 0))), none⟩,
  .op ⟨2, some 8, .mv (.c (.one (.bool false))), none⟩])
 (.ret)) (.skip)))
 (.seq (.reg [.op ⟨0, some 15, .mv (.t 0), none⟩,
  .op ⟨1, some 16, .nilc (.t 15), none⟩,
  .op ⟨2, some 17, .addr 0 (.t 16), none⟩,
  .op ⟨3, some 18, .load (.one .ptr) (.t 17), none⟩,
  .op ⟨4, some 19, .mv (.t 1), none⟩,
  .op ⟨5, some 20, .mv (.t 2), none⟩,
  .op ⟨6, some 21, .call 0 [(.t 18), (.t 19), (.t 20)], none⟩,
  .op ⟨7, some 14, .mv (.t 21), none⟩,
  .op ⟨8, some 22, .ext (.t 14) 0, none⟩,
  .op ⟨9, some 23, .ext (.t 14) 1, none⟩,
  .op ⟨10, some 9, .mv (.t 22), none⟩,
  .op ⟨11, some 10, .mv (.t 23), none⟩])
 (.seq (.reg [.op ⟨0, some 24, .mv (.t 0), none⟩,
  .op ⟨1, some 25, .nilc (.t 24), none⟩,
  .op ⟨2, some 26, .addr 7 (.t 25), none⟩,
  .op ⟨3, some 27, .load (.one .mp) (.t 26), none⟩,
  .op ⟨4, some 28, .mv (.t 9), none⟩,
  .op ⟨5, some 29, .mget (.one .str) (.one (.str [])) false (.t 27) (.t 28), none⟩,
  .op ⟨6, some 11, .mv (.t 29), none⟩])
 (.seq (.reg [.op ⟨0, some 30, .mv (.t 11), none⟩,
  .op ⟨1, some 31, .mv (.t 9), none⟩,
  .op ⟨2, some 32, .mv (.t 10), none⟩,
  .op ⟨3, some 6, .mv (.t 30), none⟩,
  .op ⟨4, some 7, .mv (.t 31), none⟩,
  .op ⟨5, some 8, .mv (.t 32), none⟩])
 (.ret)))))⟩
noncomputable def txn_Txn_Get (x0 : Ptr) (x1 : Int) (x2 : Int) (H : Heap) : Option ((Bytes × Int × Bool × Unit) × Heap) :=
 cond (Option.isNone x0) (
 some (([], 0, false, ()), H)) (
 (x0).bind fun (a1 : Nat × Nat) =>
 (rdP H a1.1 a1.2).bind fun (v2 : Ptr) =>
 (state_State_Get v2 x1 x2 H).bind fun (r3 : ((Int × Bool × Unit) × Heap)) =>
 (x0).bind fun (a4 : Nat × Nat) =>
 (rdM r3.2 a4.1 (a4.2 + 7)).bind fun (v5 : Option Nat) =>
 Option.bind (α := (Bytes × Bool)) (mget r3.2 (.one .str) (.one (.str [])) v5 r3.1.1) fun (v6 : (Bytes × Bool)) =>
 some ((v6.1, r3.1.1, r3.1.2.1, ()), r3.2))
noncomputable def txn_Txn_Get.c : Callee := .full [.one .ptr, .one (.int .i64), .one (.int .i64)] [.one .str, .one (.int .i64), .one .bool] (fun x H => txn_Txn_Get x.1 x.2.1 x.2.2.1 H)
noncomputable def txn_Txn_Get.calls : Nat → Option Callee
  | 0 => some state_State_Get.c
  | _ => none
theorem txn_Txn_Get.eq : evFull txn_Txn_Get.calls txn_Txn_Get.af = (fun x H => txn_Txn_Get x.1 x.2.1 x.2.2.1 H) := by kernel_rfl

/-! ### (*tinderbox/txn.Txn).Changes -/
def txn_Txn_Changes.af : AFun := ⟨[.one .ptr], [.one (.sl 7)], [.t 2],
 .seq (.reg [.op ⟨0, some 2, .mv (.c (.one (.sl 7 (⟨none, 0, 0⟩)))), none⟩])
 (.seq (.seq (.reg [.op ⟨0, some 3, .mv (.t 0), none⟩,
  .op ⟨1, some 4, .isnil false (.t 3), none⟩])
 (.cond (.t 4) (.seq (.reg [.op ⟨0, some 2, .mv (.c (.one (.sl 7 (⟨none, 0, 0⟩)))), none⟩])
 (.ret)) (.skip)))
 (.seq (.reg [.op ⟨0, some 5, .mv (.t 0), none⟩,
  .op ⟨1, some 6, .nilc (.t 5), none⟩,
  .op ⟨2, some 7, .addr 1 (.t 6), none⟩,
  .op ⟨3, some 8, .load (.one (.sl 7)) (.t 7), none⟩,
  .op ⟨4, some 9, .call 0 [(.t 8)], none⟩,
  .op ⟨5, some 2, .mv (.t 9), none⟩])
 (.ret)))⟩
noncomputable def txn_Txn_Changes (x0 : Ptr) (H : Heap) : Option ((Sl × Unit) × Heap) :=
 cond (Option.isNone x0) (
 some ((⟨none, 0, 0⟩, ()), H)) (
 (x0).bind fun (a1 : Nat × Nat) =>
 (rdSl 7 H a1.1 (a1.2 + 1)).bind fun (v2 : Sl) =>
 (slices_Clone_api_Change_api_Change v2 H).bind fun (r3 : ((Sl × Unit) × Heap)) =>
 some ((r3.1.1, ()), r3.2))
noncomputable def txn_Txn_Changes.c : Callee := .full [.one .ptr] [.one (.sl 7)] (fun x H => txn_Txn_Changes x.1 H)
noncomputable def txn_Txn_Changes.calls : Nat → Option Callee
  | 0 => some slices_Clone_api_Change_api_Change.c
  | _ => none
theorem txn_Txn_Changes.eq : evFull txn_Txn_Changes.calls txn_Txn_Changes.af = (fun x H => txn_Txn_Changes x.1 H) := by kernel_rfl

/-! ### (*tinderbox/txn.Txn).Spaces -/
def txn_Txn_Spaces.af : AFun := ⟨[.one .ptr], [.one (.sl 4)], [.t 2],
 .seq (.reg [.op ⟨0, some 2, .mv (.c (.one (.sl 4 (⟨none, 0, 0⟩)))), none⟩])
 (.seq (.seq (.reg [.op ⟨0, some 3, .mv (.t 0), none⟩,
  .op ⟨1, some 4, .isnil false (.t 3), none⟩])
 (.cond (.t 4) (.seq (.reg [.op ⟨0, some 2, .mv (.c (.one (.sl 4 (⟨none, 0, 0⟩)))), none⟩])
 (.ret)) (.skip)))
 (.seq (.reg [.op ⟨0, some 5, .mv (.t 0), none⟩,
  .op ⟨1, some 6, .nilc (.t 5), none⟩,
  .op ⟨2, some 7, .addr 0 (.t 6), none⟩,
  .op ⟨3, some 8, .load (.one .ptr) (.t 7), none⟩,
  .op ⟨4, some 9, .call 0 [(.t 8)], none⟩,
  .op ⟨5, some 2, .mv (.t 9), none⟩])
 (.ret)))⟩
noncomputable def txn_Txn_Spaces (x0 : Ptr) (H : Heap) : Option ((Sl × Unit) × Heap) :=
 cond (Option.isNone x0) (
 some ((⟨none, 0, 0⟩, ()), H)) (
 (x0).bind fun (a1 : Nat × Nat) =>
 (rdP H a1.1 a1.2).bind fun (v2 : Ptr) =>
 (state_State_Spaces v2 H).bind fun (r3 : ((Sl × Unit) × Heap)) =>
 some ((r3.1.1, ()), r3.2))
noncomputable def txn_Txn_Spaces.c : Callee := .full [.one .ptr] [.one (.sl 4)] (fun x H => txn_Txn_Spaces x.1 H)
noncomputable def txn_Txn_Spaces.calls : Nat → Option Callee
  | 0 => some state_State_Spaces.c
  | _ => none
theorem txn_Txn_Spaces.eq : evFull txn_Txn_Spaces.calls txn_Txn_Spaces.af = (fun x H => txn_Txn_Spaces x.1 H) := by kernel_rfl
end Ev
