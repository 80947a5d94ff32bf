/- What the functions of the package Law17 compute: abstract code, and a function of plain Lean for each; the kernel checks that they are the same. Written by gen2.py. -/
import Derived.Test.YtbnghapbakaheaaEvCore
import Derived.Test.YtbnghapbakaheaaGRef07
import Derived.Test.YtbnghapbakaheaaGRef08
import Derived.Test.YtbnghapbakaheaaGRef16
import Derived.Test.YtbnghapbakaheaaGState
import Derived.Test.YtbnghapbakaheaaGTxn
import Derived.KernelRfl
set_option linter.unusedVariables false
set_option maxRecDepth 100000
namespace Ev
open Go (IntKind BinOp UnOp)

/-! ### tinderbox/tinderboxlaw17.awake -/
def law17_awake.af : AFun := ⟨[], [.one .bool], [.t 0],
 .seq (.reg [.op ⟨0, some 0, .mv (.c (.one (.bool false))), none⟩])
 (.seq (.reg [.op ⟨0, some 7, .call 0 [], none⟩,
  .op ⟨1, some 8, .build [.int .i64 0, .int .i64 0, .int .i64 0, .int .i64 0] [(0, 1, (.c (.one (.int .i64 3)))), (1, 1, (.c (.one (.int .i64 6))))], none⟩,
  .op ⟨2, some 9, .call 1 [(.t 7), (.t 8), (.c (.one (.int .i64 64)))], none⟩,
  .op ⟨3, some 1, .mv (.t 9), none⟩])
 (.seq (.reg [.op ⟨0, some 10, .mv (.t 1), none⟩,
  .op ⟨1, some 11, .build [.int .i64 0, .int .i64 0, .int .i64 0, .int .i64 0, .int .i64 0, .int .i64 0] [(0, 1, (.c (.one (.int .i64 4)))), (1, 1, (.c (.one (.int .i64 1)))), (5, 1, (.c (.one (.int .i64 4))))], none⟩,
  .op ⟨2, some 12, .call 2 [(.t 10), (.t 11)], none⟩,
  .op ⟨3, some 2, .mv (.t 12), none⟩])
 (.seq (.reg [.op ⟨0, some 13, .mv (.t 1), none⟩,
  .op ⟨1, some 14, .call 3 [(.t 13), (.c (.one (.int .i64 1))), (.c (.one (.int .i64 2))), (.c (.one (.str [116, 101, 120, 116])))], none⟩,
  .op ⟨2, some 3, .mv (.t 14), none⟩])
 (.seq (.reg [.op ⟨0, some 16, .mv (.t 1), none⟩,
  .op ⟨1, some 17, .call 4 [(.t 16), (.c (.one (.int .i64 1))), (.c (.one (.int .i64 2)))], none⟩,
  .op ⟨2, some 15, .mv (.t 17), none⟩,
  .op ⟨3, some 18, .ext (.t 15) 0, none⟩,
  .op ⟨4, some 19, .ext (.t 15) 1, none⟩,
  .op ⟨5, some 20, .ext (.t 15) 2, none⟩,
  .op ⟨6, some 4, .mv (.t 18), none⟩,
  .op ⟨7, some 5, .mv (.t 19), none⟩,
  .op ⟨8, some 6, .mv (.t 20), none⟩])
 (.seq (.reg [.op ⟨0, some 21, .mv (.t 2), none⟩,
  .op ⟨1, some 22, .bin .eql (.t 21) (.c (.one (.int .i64 0))), none⟩,
  .op ⟨2, some 23, .mv (.t 22), none⟩,
  .op ⟨3, some 24, .mv (.t 3), some (23, true)⟩,
  .op ⟨4, some 25, .bin .eql (.t 24) (.c (.one (.int .i64 0))), some (23, true)⟩,
  .op ⟨5, some 26, .pick (.t 23) (.t 25) (.c (.one (.bool false))), none⟩,
  .op ⟨6, some 27, .mv (.t 26), none⟩,
  .op ⟨7, some 28, .mv (.t 6), some (27, true)⟩,
  .op ⟨8, some 29, .pick (.t 27) (.t 28) (.c (.one (.bool false))), none⟩,
  .op ⟨9, some 30, .mv (.t 29), none⟩,
  .op ⟨10, some 31, .mv (.t 4), some (30, true)⟩,
  .op ⟨11, some 32, .bin .eql (.t 31) (.c (.one (.str [116, 101, 120, 116]))), some (30, true)⟩,
  .op ⟨12, some 33, .pick (.t 30) (.t 32) (.c (.one (.bool false))), none⟩,
  .op ⟨13, some 34, .mv (.t 33), none⟩,
  .op ⟨14, some 35, .mv (.t 5), some (34, true)⟩,
  .op ⟨15, some 36, .bin .geq (.t 35) (.c (.one (.int .i64 512))), some (34, true)⟩,
  .op ⟨16, some 37, .pick (.t 34) (.t 36) (.c (.one (.bool false))), none⟩,
  .op ⟨17, some 38, .mv (.t 37), none⟩,
  .op ⟨18, some 39, .mv (.t 1), some (38, true)⟩,
  .op ⟨19, some 40, .call 5 [(.t 39)], some (38, true)⟩,
  .op ⟨20, some 41, .len (.t 40), some (38, true)⟩,
  .op ⟨21, some 42, .bin .eql (.t 41) (.c (.one (.int .i64 2))), some (38, true)⟩,
  .op ⟨22, some 43, .pick (.t 38) (.t 42) (.c (.one (.bool false))), none⟩,
  .op ⟨23, some 44, .mv (.t 43), none⟩,
  .op ⟨24, some 45, .mv (.t 1), some (44, true)⟩,
  .op ⟨25, some 46, .call 6 [(.t 45)], some (44, true)⟩,
  .op ⟨26, some 47, .len (.t 46), some (44, true)⟩,
  .op ⟨27, some 48, .bin .eql (.t 47) (.c (.one (.int .i64 1))), some (44, true)⟩,
  .op ⟨28, some 49, .pick (.t 44) (.t 48) (.c (.one (.bool false))), none⟩,
  .op ⟨29, some 0, .mv (.t 49), none⟩])
 (.ret))))))⟩
noncomputable def law17_awake.on (H : Heap) : Option (Bool × Unit) :=
 (state_New H).bind fun (r1 : ((Ptr × Unit) × Heap)) =>
 (txn_New r1.1.1 (3, 6, 0, 0, ()) 64 r1.2).bind fun (r2 : ((Ptr × Unit) × Heap)) =>
 (txn_Txn_Do r2.1.1 (4, 1, 0, 0, 0, 4, ()) r2.2).bind fun (r3 : ((Int × Unit) × Heap)) =>
 (txn_Txn_Put r2.1.1 1 2 [116, 101, 120, 116] r3.2).bind fun (r4 : ((Int × Unit) × Heap)) =>
 (txn_Txn_Get r2.1.1 1 2 r4.2).bind fun (r5 : ((Bytes × Int × Bool × Unit) × Heap)) =>
 cond (decide (r3.1.1 = 0)) (
 cond (decide (r4.1.1 = 0)) (
 cond r5.1.2.2.1 (
 cond (decide ((r5.1.1 : Bytes) = [116, 101, 120, 116])) (
 cond (decide (512 ≤ r5.1.2.1)) (
 (txn_Txn_Changes r2.1.1 r5.2).bind fun (r6 : ((Sl × Unit) × Heap)) =>
 cond (decide ((r6.1.1.len : Int) = 2)) (
 (txn_Txn_Spaces r2.1.1 r6.2).bind fun (r7 : ((Sl × Unit) × Heap)) =>
 some ((decide ((r7.1.1.len : Int) = 1)), ())) (
 some (false, ()))) (
 some (false, ()))) (
 some (false, ()))) (
 some (false, ()))) (
 some (false, ()))) (
 some (false, ()))
noncomputable def law17_awake  : Option (Bool × Unit) := law17_awake.on []
noncomputable def law17_awake.c : Callee := .pure [] [.one .bool] (fun _ => law17_awake)
noncomputable def law17_awake.calls : Nat → Option Callee
  | 0 => some state_New.c
  | 1 => some txn_New.c
  | 2 => some txn_Txn_Do.c
  | 3 => some txn_Txn_Put.c
  | 4 => some txn_Txn_Get.c
  | 5 => some txn_Txn_Changes.c
  | 6 => some txn_Txn_Spaces.c
  | _ => none
theorem law17_awake.eq : evPure law17_awake.calls law17_awake.af = (fun _ H => law17_awake.on H) := by kernel_rfl

/-! ### tinderbox/tinderboxlaw17.sealed -/
def law17_sealed.af : AFun := ⟨[.agg [.sl 3, .sl 3, .sl 1, .sl 2], .one (.int .i64)], [.one (.int .i64)], [.t 4],
 .seq (.reg [.op ⟨0, some 2, .box (.t 0), none⟩,
  .op ⟨1, some 4, .mv (.c (.one (.int .i64 0))), none⟩])
 (.seq (.seq (.reg [.op ⟨0, some 5, .mv (.c (.one (.int .i64 0))), none⟩])
 (.block 0 (.loop [(5, .one (.int .i64))] [(.exit 0, []), (.ret, [(4, .one (.int .i64))])] (.seq (.seq (.reg [.op ⟨0, some 6, .mv (.t 5), none⟩,
  .op ⟨1, some 7, .addr 0 (.t 2), none⟩,
  .op ⟨2, some 8, .load (.one (.sl 3)) (.t 7), none⟩,
  .op ⟨3, some 9, .len (.t 8), none⟩,
  .op ⟨4, some 10, .bin .lss (.t 6) (.t 9), none⟩])
 (.cond (.t 10) (.skip) (.exit 0)))
 (.seq (.block 1 (.seq (.reg [.op ⟨0, some 13, .addr 0 (.t 2), none⟩,
  .op ⟨1, some 14, .load (.one (.sl 3)) (.t 13), none⟩,
  .op ⟨2, some 15, .mv (.t 5), none⟩,
  .op ⟨3, some 16, .idxa 3 (.t 14) (.t 15), none⟩,
  .op ⟨4, some 17, .addr 0 (.t 16), none⟩,
  .op ⟨5, some 18, .load (.one (.int .i64)) (.t 17), none⟩,
  .op ⟨6, some 19, .mv (.t 1), none⟩,
  .op ⟨7, some 20, .bin .eql (.t 18) (.t 19), none⟩])
 (.cond (.t 20) (.seq (.seq (.reg [.op ⟨0, some 21, .addr 0 (.t 2), none⟩,
  .op ⟨1, some 22, .load (.one (.sl 3)) (.t 21), none⟩,
  .op ⟨2, some 23, .mv (.t 5), none⟩,
  .op ⟨3, some 24, .idxa 3 (.t 22) (.t 23), none⟩,
  .op ⟨4, some 25, .addr 2 (.t 24), none⟩,
  .op ⟨5, some 26, .load (.one .bool) (.t 25), none⟩])
 (.cond (.t 26) (.seq (.reg [.op ⟨0, some 4, .mv (.c (.one (.int .i64 170))), none⟩])
 (.ret)) (.skip)))
 (.seq (.reg [.op ⟨0, some 4, .mv (.c (.one (.int .i64 0))), none⟩])
 (.ret))) (.skip))))
 (.reg [.op ⟨0, some 11, .mv (.t 5), none⟩,
  .op ⟨1, some 12, .bin .add (.t 11) (.c (.one (.int .i64 1))), none⟩,
  .op ⟨2, some 5, .mv (.t 12), none⟩]))))))
 (.seq (.reg [.op ⟨0, some 4, .mv (.c (.one (.int .i64 80))), none⟩])
 (.ret)))⟩
noncomputable def law17_sealed.s1 (x1 : Int) (H : Heap) (s2 : (Int × Unit)) (H3 : Heap) : Option (((Int × Unit) ⊕ ((Unit) ⊕ (Int × Unit))) × Heap) :=
 (rdSl 3 H3 H.length 0).bind fun (v4 : Sl) =>
 cond (decide (s2.1 < (v4.len : Int))) (
 (rdSl 3 H3 H.length 0).bind fun (v5 : Sl) =>
 (Sl.at 3 v5 s2.1).bind fun (a6 : (Nat × Nat)) =>
 (rdI .i64 H3 a6.1 a6.2).bind fun (v7 : Int) =>
 cond (decide (v7 = x1)) (
 (rdSl 3 H3 H.length 0).bind fun (v8 : Sl) =>
 (Sl.at 3 v8 s2.1).bind fun (a9 : (Nat × Nat)) =>
 (rdB H3 a9.1 (a9.2 + 2)).bind fun (v10 : Bool) =>
 cond v10 (
 some (Sum.inr (Sum.inr (170, ())), H3)) (
 some (Sum.inr (Sum.inr (0, ())), H3))) (
 some (Sum.inl ((IntKind.wrap .i64 (s2.1 + 1)), ()), H3))) (
 some (Sum.inr (Sum.inl (())), H3))
noncomputable def law17_sealed (x0 : (Sl × Sl × Sl × Sl × Unit)) (x1 : Int) (H : Heap) : Option ((Int × Unit) × Heap) :=
 let H1 : Heap := H ++ [Blk.cells [.sl 3 x0.1, .sl 3 x0.2.1, .sl 1 x0.2.2.1, .sl 2 x0.2.2.2.1] .exact]
 (loopW (law17_sealed.s1 x1 H) (0, ()) H1).bind fun (p11 : ((Unit) ⊕ (Int × Unit)) × Heap) =>
 Sum.elim (fun (y12 : (Unit)) =>
 some ((80, ()), p11.2)) (fun (z13 : (Int × Unit)) =>
 some ((z13.1, ()), p11.2)) p11.1
noncomputable def law17_sealed.c : Callee := .full [.agg [.sl 3, .sl 3, .sl 1, .sl 2], .one (.int .i64)] [.one (.int .i64)] (fun x H => law17_sealed x.1 x.2.1 H)
noncomputable def law17_sealed.calls : Nat → Option Callee
  | _ => none
theorem law17_sealed.eq : evFull law17_sealed.calls law17_sealed.af = (fun x H => law17_sealed x.1 x.2.1 H) := by kernel_rfl

/-! ### (tinderbox/tinderboxlaw17.Plain).Put -/
def law17_Plain_Put.af : AFun := ⟨[.agg [.sl 3, .sl 3, .sl 1, .sl 2, .sl 1, .int .i64], .one (.int .i64), .one (.int .i64), .one .str, .agg [.int .i64, .int .i64, .int .i64, .int .i64], .one (.int .i64)], [.agg [.sl 3, .sl 3, .sl 1, .sl 2, .sl 1, .int .i64], .one (.int .i64)], [.cell 12, .t 13],
 .seq (.reg [.op ⟨0, some 6, .box (.t 0), none⟩,
  .op ⟨1, some 10, .box (.t 4), none⟩,
  .op ⟨2, some 12, .new [.sl 3 Sl.nil, .sl 3 Sl.nil, .sl 1 Sl.nil, .sl 2 Sl.nil, .sl 1 Sl.nil, .int .i64 0], none⟩,
  .op ⟨3, some 13, .mv (.c (.one (.int .i64 0))), none⟩])
 (.seq (.seq (.reg [.op ⟨0, some 16, .mv (.t 3), none⟩,
  .op ⟨1, some 17, .lens (.t 16), none⟩,
  .op ⟨2, some 18, .mv (.t 5), none⟩,
  .op ⟨3, some 19, .bin .gtr (.t 17) (.t 18), none⟩])
 (.cond (.t 19) (.seq (.reg [.op ⟨0, some 20, .load (.agg [.sl 3, .sl 3, .sl 1, .sl 2, .sl 1, .int .i64]) (.t 6), none⟩,
  .op ⟨1, none, .store 6 (.t 12) (.t 20), none⟩,
  .op ⟨2, some 13, .mv (.c (.one (.int .i64 173))), none⟩])
 (.ret)) (.skip)))
 (.seq (.seq (.reg [.op ⟨0, some 21, .addr 0 (.t 6), none⟩,
  .op ⟨1, some 22, .addr 0 (.t 21), none⟩,
  .op ⟨2, some 23, .load (.agg [.sl 3, .sl 3, .sl 1, .sl 2]) (.t 22), none⟩,
  .op ⟨3, some 24, .mv (.t 1), none⟩,
  .op ⟨4, some 25, .call 0 [(.t 23), (.t 24)], none⟩,
  .op ⟨5, some 14, .mv (.t 25), none⟩])
 (.seq (.reg [.op ⟨0, some 26, .mv (.t 14), none⟩,
  .op ⟨1, some 27, .bin .neq (.t 26) (.c (.one (.int .i64 0))), none⟩])
 (.cond (.t 27) (.seq (.reg [.op ⟨0, some 28, .load (.agg [.sl 3, .sl 3, .sl 1, .sl 2, .sl 1, .int .i64]) (.t 6), none⟩,
  .op ⟨1, some 29, .mv (.t 14), none⟩,
  .op ⟨2, none, .store 6 (.t 12) (.t 28), none⟩,
  .op ⟨3, some 13, .mv (.t 29), none⟩])
 (.ret)) (.skip))))
 (.seq (.seq (.reg [.op ⟨0, some 30, .addr 5 (.t 6), none⟩,
  .op ⟨1, some 31, .load (.one (.int .i64)) (.t 30), none⟩,
  .op ⟨2, some 32, .bin .geq (.t 31) (.c (.one (.int .i64 8))), none⟩])
 (.cond (.t 32) (.seq (.reg [.op ⟨0, some 33, .load (.agg [.sl 3, .sl 3, .sl 1, .sl 2, .sl 1, .int .i64]) (.t 6), none⟩,
  .op ⟨1, none, .store 6 (.t 12) (.t 33), none⟩,
  .op ⟨2, some 13, .mv (.c (.one (.int .i64 171))), none⟩])
 (.ret)) (.skip)))
 (.seq (.reg [.op ⟨0, some 35, .addr 0 (.t 6), none⟩,
  .op ⟨1, some 36, .load (.agg [.sl 3, .sl 3, .sl 1, .sl 2, .sl 1]) (.t 35), none⟩,
  .op ⟨2, some 37, .mv (.t 1), none⟩,
  .op ⟨3, some 38, .mv (.t 2), none⟩,
  .op ⟨4, some 39, .mv (.t 3), none⟩,
  .op ⟨5, some 40, .call 1 [(.t 36), (.t 37), (.t 38), (.t 39)], none⟩,
  .op ⟨6, some 34, .mv (.t 40), none⟩,
  .op ⟨7, some 41, .ext (.t 34) 0, none⟩,
  .op ⟨8, some 42, .ext (.t 34) 1, none⟩,
  .op ⟨9, some 15, .new [.sl 3 Sl.nil, .sl 3 Sl.nil, .sl 1 Sl.nil, .sl 2 Sl.nil, .sl 1 Sl.nil], none⟩,
  .op ⟨10, none, .store 5 (.t 15) (.t 41), none⟩,
  .op ⟨11, some 13, .mv (.t 42), none⟩])
 (.seq (.seq (.reg [.op ⟨0, some 43, .mv (.t 13), none⟩,
  .op ⟨1, some 44, .bin .neq (.t 43) (.c (.one (.int .i64 0))), none⟩])
 (.cond (.t 44) (.seq (.reg [.op ⟨0, some 45, .load (.agg [.sl 3, .sl 3, .sl 1, .sl 2, .sl 1, .int .i64]) (.t 6), none⟩,
  .op ⟨1, some 46, .mv (.t 13), none⟩,
  .op ⟨2, none, .store 6 (.t 12) (.t 45), none⟩,
  .op ⟨3, some 13, .mv (.t 46), none⟩])
 (.ret)) (.skip)))
 (.seq (.seq (.reg [.op ⟨0, some 47, .load (.agg [.sl 3, .sl 3, .sl 1, .sl 2, .sl 1]) (.t 15), none⟩,
  .op ⟨1, some 48, .load (.agg [.int .i64, .int .i64, .int .i64, .int .i64]) (.t 10), none⟩,
  .op ⟨2, some 49, .call 2 [(.t 47), (.t 48)], none⟩,
  .op ⟨3, some 50, .un .not (.t 49), none⟩])
 (.cond (.t 50) (.seq (.reg [.op ⟨0, some 51, .load (.agg [.sl 3, .sl 3, .sl 1, .sl 2, .sl 1, .int .i64]) (.t 6), none⟩,
  .op ⟨1, none, .store 6 (.t 12) (.t 51), none⟩,
  .op ⟨2, some 13, .mv (.c (.one (.int .i64 172))), none⟩])
 (.ret)) (.skip)))
 (.seq (.reg [.op ⟨0, some 52, .load (.agg [.sl 3, .sl 3, .sl 1, .sl 2, .sl 1]) (.t 15), none⟩,
  .op ⟨1, some 53, .addr 5 (.t 6), none⟩,
  .op ⟨2, some 54, .load (.one (.int .i64)) (.t 53), none⟩,
  .op ⟨3, some 55, .bin .add (.t 54) (.c (.one (.int .i64 1))), none⟩,
  .op ⟨4, some 56, .build [.sl 3 Sl.nil, .sl 3 Sl.nil, .sl 1 Sl.nil, .sl 2 Sl.nil, .sl 1 Sl.nil, .int .i64 0] [(0, 5, (.t 52)), (5, 1, (.t 55))], none⟩,
  .op ⟨5, none, .store 6 (.t 12) (.t 56), none⟩,
  .op ⟨6, some 13, .mv (.c (.one (.int .i64 0))), none⟩])
 (.ret))))))))⟩
noncomputable def law17_Plain_Put (x0 : (Sl × Sl × Sl × Sl × Sl × Int × Unit)) (x1 : Int) (x2 : Int) (x3 : Bytes) (x4 : (Int × Int × Int × Int × Unit)) (x5 : Int) (H : Heap) : Option (((Sl × Sl × Sl × Sl × Sl × Int × Unit) × Int × Unit) × Heap) :=
 let H1 : Heap := H ++ [Blk.cells [.sl 3 x0.1, .sl 3 x0.2.1, .sl 1 x0.2.2.1, .sl 2 x0.2.2.2.1, .sl 1 x0.2.2.2.2.1, .int .i64 x0.2.2.2.2.2.1] .exact]
 let H2 : Heap := H1 ++ [Blk.cells [.int .i64 x4.1, .int .i64 x4.2.1, .int .i64 x4.2.2.1, .int .i64 x4.2.2.2.1] .exact]
 let H3 : Heap := H2 ++ [Blk.cells [.sl 3 Sl.nil, .sl 3 Sl.nil, .sl 1 Sl.nil, .sl 2 Sl.nil, .sl 1 Sl.nil, .int .i64 0] .exact]
 cond (decide (x5 < (List.length (x3 : Bytes) : Int))) (
 Option.bind (α := (Sl × Sl × Sl × Sl × Sl × Int × Unit)) (rd H3 (.agg [.sl 3, .sl 3, .sl 1, .sl 2, .sl 1, .int .i64]) H.length 0) fun (v4 : (Sl × Sl × Sl × Sl × Sl × Int × Unit)) =>
 (wr H3 H2.length 0 [.sl 3 v4.1, .sl 3 v4.2.1, .sl 1 v4.2.2.1, .sl 2 v4.2.2.2.1, .sl 1 v4.2.2.2.2.1, .int .i64 v4.2.2.2.2.2.1]).bind fun (H5 : Heap) =>
 Option.bind (α := (Sl × Sl × Sl × Sl × Sl × Int × Unit)) (rd H5 (.agg [.sl 3, .sl 3, .sl 1, .sl 2, .sl 1, .int .i64]) H2.length 0) fun (v6 : (Sl × Sl × Sl × Sl × Sl × Int × Unit)) =>
 some ((v6, 173, ()), H5)) (
 Option.bind (α := (Sl × Sl × Sl × Sl × Unit)) (rd H3 (.agg [.sl 3, .sl 3, .sl 1, .sl 2]) H.length 0) fun (v7 : (Sl × Sl × Sl × Sl × Unit)) =>
 (law17_sealed (v7.1, v7.2.1, v7.2.2.1, v7.2.2.2.1, ()) x1 H3).bind fun (r8 : ((Int × Unit) × Heap)) =>
 cond (!decide (r8.1.1 = 0)) (
 Option.bind (α := (Sl × Sl × Sl × Sl × Sl × Int × Unit)) (rd r8.2 (.agg [.sl 3, .sl 3, .sl 1, .sl 2, .sl 1, .int .i64]) H.length 0) fun (v9 : (Sl × Sl × Sl × Sl × Sl × Int × Unit)) =>
 (wr r8.2 H2.length 0 [.sl 3 v9.1, .sl 3 v9.2.1, .sl 1 v9.2.2.1, .sl 2 v9.2.2.2.1, .sl 1 v9.2.2.2.2.1, .int .i64 v9.2.2.2.2.2.1]).bind fun (H10 : Heap) =>
 Option.bind (α := (Sl × Sl × Sl × Sl × Sl × Int × Unit)) (rd H10 (.agg [.sl 3, .sl 3, .sl 1, .sl 2, .sl 1, .int .i64]) H2.length 0) fun (v11 : (Sl × Sl × Sl × Sl × Sl × Int × Unit)) =>
 some ((v11, r8.1.1, ()), H10)) (
 (rdI .i64 r8.2 H.length 5).bind fun (v12 : Int) =>
 cond (decide (8 ≤ v12)) (
 Option.bind (α := (Sl × Sl × Sl × Sl × Sl × Int × Unit)) (rd r8.2 (.agg [.sl 3, .sl 3, .sl 1, .sl 2, .sl 1, .int .i64]) H.length 0) fun (v13 : (Sl × Sl × Sl × Sl × Sl × Int × Unit)) =>
 (wr r8.2 H2.length 0 [.sl 3 v13.1, .sl 3 v13.2.1, .sl 1 v13.2.2.1, .sl 2 v13.2.2.2.1, .sl 1 v13.2.2.2.2.1, .int .i64 v13.2.2.2.2.2.1]).bind fun (H14 : Heap) =>
 Option.bind (α := (Sl × Sl × Sl × Sl × Sl × Int × Unit)) (rd H14 (.agg [.sl 3, .sl 3, .sl 1, .sl 2, .sl 1, .int .i64]) H2.length 0) fun (v15 : (Sl × Sl × Sl × Sl × Sl × Int × Unit)) =>
 some ((v15, 171, ()), H14)) (
 Option.bind (α := (Sl × Sl × Sl × Sl × Sl × Unit)) (rd r8.2 (.agg [.sl 3, .sl 3, .sl 1, .sl 2, .sl 1]) H.length 0) fun (v16 : (Sl × Sl × Sl × Sl × Sl × Unit)) =>
 (ref16_Plain_Put (v16.1, v16.2.1, v16.2.2.1, v16.2.2.2.1, v16.2.2.2.2.1, ()) x1 x2 x3 r8.2).bind fun (r17 : (((Sl × Sl × Sl × Sl × Sl × Unit) × Int × Unit) × Heap)) =>
 let H18 : Heap := r17.2 ++ [Blk.cells [.sl 3 Sl.nil, .sl 3 Sl.nil, .sl 1 Sl.nil, .sl 2 Sl.nil, .sl 1 Sl.nil] .exact]
 (wr H18 r17.2.length 0 [.sl 3 r17.1.1.1, .sl 3 r17.1.1.2.1, .sl 1 r17.1.1.2.2.1, .sl 2 r17.1.1.2.2.2.1, .sl 1 r17.1.1.2.2.2.2.1]).bind fun (H19 : Heap) =>
 cond (!decide (r17.1.2.1 = 0)) (
 Option.bind (α := (Sl × Sl × Sl × Sl × Sl × Int × Unit)) (rd H19 (.agg [.sl 3, .sl 3, .sl 1, .sl 2, .sl 1, .int .i64]) H.length 0) fun (v20 : (Sl × Sl × Sl × Sl × Sl × Int × Unit)) =>
 (wr H19 H2.length 0 [.sl 3 v20.1, .sl 3 v20.2.1, .sl 1 v20.2.2.1, .sl 2 v20.2.2.2.1, .sl 1 v20.2.2.2.2.1, .int .i64 v20.2.2.2.2.2.1]).bind fun (H21 : Heap) =>
 Option.bind (α := (Sl × Sl × Sl × Sl × Sl × Int × Unit)) (rd H21 (.agg [.sl 3, .sl 3, .sl 1, .sl 2, .sl 1, .int .i64]) H2.length 0) fun (v22 : (Sl × Sl × Sl × Sl × Sl × Int × Unit)) =>
 some ((v22, r17.1.2.1, ()), H21)) (
 Option.bind (α := (Sl × Sl × Sl × Sl × Sl × Unit)) (rd H19 (.agg [.sl 3, .sl 3, .sl 1, .sl 2, .sl 1]) r17.2.length 0) fun (v23 : (Sl × Sl × Sl × Sl × Sl × Unit)) =>
 Option.bind (α := (Int × Int × Int × Int × Unit)) (rd H19 (.agg [.int .i64, .int .i64, .int .i64, .int .i64]) H1.length 0) fun (v24 : (Int × Int × Int × Int × Unit)) =>
 (ref16_Plain_Fits (v23.1, v23.2.1, v23.2.2.1, v23.2.2.2.1, v23.2.2.2.2.1, ()) (v24.1, v24.2.1, v24.2.2.1, v24.2.2.2.1, ()) H19).bind fun (r25 : ((Bool × Unit) × Heap)) =>
 cond (!r25.1.1) (
 Option.bind (α := (Sl × Sl × Sl × Sl × Sl × Int × Unit)) (rd r25.2 (.agg [.sl 3, .sl 3, .sl 1, .sl 2, .sl 1, .int .i64]) H.length 0) fun (v26 : (Sl × Sl × Sl × Sl × Sl × Int × Unit)) =>
 (wr r25.2 H2.length 0 [.sl 3 v26.1, .sl 3 v26.2.1, .sl 1 v26.2.2.1, .sl 2 v26.2.2.2.1, .sl 1 v26.2.2.2.2.1, .int .i64 v26.2.2.2.2.2.1]).bind fun (H27 : Heap) =>
 Option.bind (α := (Sl × Sl × Sl × Sl × Sl × Int × Unit)) (rd H27 (.agg [.sl 3, .sl 3, .sl 1, .sl 2, .sl 1, .int .i64]) H2.length 0) fun (v28 : (Sl × Sl × Sl × Sl × Sl × Int × Unit)) =>
 some ((v28, 172, ()), H27)) (
 Option.bind (α := (Sl × Sl × Sl × Sl × Sl × Unit)) (rd r25.2 (.agg [.sl 3, .sl 3, .sl 1, .sl 2, .sl 1]) r17.2.length 0) fun (v29 : (Sl × Sl × Sl × Sl × Sl × Unit)) =>
 (rdI .i64 r25.2 H.length 5).bind fun (v30 : Int) =>
 (wr r25.2 H2.length 0 [.sl 3 v29.1, .sl 3 v29.2.1, .sl 1 v29.2.2.1, .sl 2 v29.2.2.2.1, .sl 1 v29.2.2.2.2.1, .int .i64 (IntKind.wrap .i64 (v30 + 1))]).bind fun (H31 : Heap) =>
 Option.bind (α := (Sl × Sl × Sl × Sl × Sl × Int × Unit)) (rd H31 (.agg [.sl 3, .sl 3, .sl 1, .sl 2, .sl 1, .int .i64]) H2.length 0) fun (v32 : (Sl × Sl × Sl × Sl × Sl × Int × Unit)) =>
 some ((v32, 0, ()), H31))))))
noncomputable def law17_Plain_Put.c : Callee := .full [.agg [.sl 3, .sl 3, .sl 1, .sl 2, .sl 1, .int .i64], .one (.int .i64), .one (.int .i64), .one .str, .agg [.int .i64, .int .i64, .int .i64, .int .i64], .one (.int .i64)] [.agg [.sl 3, .sl 3, .sl 1, .sl 2, .sl 1, .int .i64], .one (.int .i64)] (fun x H => law17_Plain_Put x.1 x.2.1 x.2.2.1 x.2.2.2.1 x.2.2.2.2.1 x.2.2.2.2.2.1 H)
noncomputable def law17_Plain_Put.calls : Nat → Option Callee
  | 0 => some law17_sealed.c
  | 1 => some ref16_Plain_Put.c
  | 2 => some ref16_Plain_Fits.c
  | _ => none
theorem law17_Plain_Put.eq : evFull law17_Plain_Put.calls law17_Plain_Put.af = (fun x H => law17_Plain_Put x.1 x.2.1 x.2.2.1 x.2.2.2.1 x.2.2.2.2.1 x.2.2.2.2.2.1 H) := by kernel_rfl

/-! ### (tinderbox/tinderboxlaw17.Plain).Do -/
def law17_Plain_Do.af : AFun := ⟨[.agg [.sl 3, .sl 3, .sl 1, .sl 2, .sl 1, .int .i64], .agg [.int .i64, .int .i64, .int .i64, .int .i64, .int .i64, .int .i64], .agg [.int .i64, .int .i64, .int .i64, .int .i64]], [.agg [.sl 3, .sl 3, .sl 1, .sl 2, .sl 1, .int .i64], .one (.int .i64)], [.cell 6, .t 7],
 .seq (.reg [.op ⟨0, some 3, .box (.t 0), none⟩,
  .op ⟨1, some 4, .box (.t 1), none⟩,
  .op ⟨2, some 5, .box (.t 2), none⟩,
  .op ⟨3, some 6, .new [.sl 3 Sl.nil, .sl 3 Sl.nil, .sl 1 Sl.nil, .sl 2 Sl.nil, .sl 1 Sl.nil, .int .i64 0], none⟩,
  .op ⟨4, some 7, .mv (.c (.one (.int .i64 0))), none⟩])
 (.seq (.scope [(.normal, []), (.ret, [(7, .one (.int .i64))])] (.seq (.reg [.op ⟨0, some 11, .addr 0 (.t 4), none⟩,
  .op ⟨1, some 12, .load (.one (.int .i64)) (.t 11), none⟩,
  .op ⟨2, some 13, .bin .eql (.t 12) (.c (.one (.int .i64 2))), none⟩,
  .op ⟨3, some 14, .mv (.t 13), none⟩,
  .op ⟨4, some 15, .addr 0 (.t 4), some (14, false)⟩,
  .op ⟨5, some 16, .load (.one (.int .i64)) (.t 15), some (14, false)⟩,
  .op ⟨6, some 17, .bin .geq (.t 16) (.c (.one (.int .i64 4))), some (14, false)⟩,
  .op ⟨7, some 18, .mv (.t 17), some (14, false)⟩,
  .op ⟨8, some 19, .addr 0 (.t 4), some (18, true)⟩,
  .op ⟨9, some 20, .load (.one (.int .i64)) (.t 19), some (18, true)⟩,
  .op ⟨10, some 21, .bin .leq (.t 20) (.c (.one (.int .i64 7))), some (18, true)⟩,
  .op ⟨11, some 22, .pick (.t 18) (.t 21) (.c (.one (.bool false))), some (14, false)⟩,
  .op ⟨12, some 23, .pick (.t 14) (.c (.one (.bool true))) (.t 22), none⟩,
  .op ⟨13, some 24, .un .not (.t 23), none⟩,
  .op ⟨14, some 25, .mv (.t 24), none⟩,
  .op ⟨15, some 26, .load (.agg [.int .i64, .int .i64, .int .i64, .int .i64, .int .i64, .int .i64]) (.t 4), some (25, false)⟩,
  .op ⟨16, some 27, .call 0 [(.t 26)], some (25, false)⟩,
  .op ⟨17, some 28, .un .not (.t 27), some (25, false)⟩,
  .op ⟨18, some 29, .pick (.t 25) (.c (.one (.bool true))) (.t 28), none⟩])
 (.cond (.t 29) (.seq (.reg [.op ⟨0, some 30, .load (.agg [.sl 3, .sl 3, .sl 1, .sl 2, .sl 1, .int .i64]) (.t 3), none⟩,
  .op ⟨1, none, .store 6 (.t 6) (.t 30), none⟩,
  .op ⟨2, some 7, .mv (.c (.one (.int .i64 1))), none⟩])
 (.ret)) (.skip))))
 (.seq (.scope [(.normal, []), (.ret, [(7, .one (.int .i64))])] (.seq (.reg [.op ⟨0, some 31, .addr 0 (.t 4), none⟩,
  .op ⟨1, some 32, .load (.one (.int .i64)) (.t 31), none⟩,
  .op ⟨2, some 33, .bin .eql (.t 32) (.c (.one (.int .i64 2))), none⟩])
 (.cond (.t 33) (.seq (.reg [.op ⟨0, some 34, .addr 0 (.t 3), none⟩,
  .op ⟨1, some 35, .addr 0 (.t 34), none⟩,
  .op ⟨2, some 36, .load (.agg [.sl 3, .sl 3, .sl 1, .sl 2]) (.t 35), none⟩,
  .op ⟨3, some 37, .addr 1 (.t 4), none⟩,
  .op ⟨4, some 38, .load (.one (.int .i64)) (.t 37), none⟩,
  .op ⟨5, some 39, .call 1 [(.t 36), (.t 38)], none⟩,
  .op ⟨6, some 8, .mv (.t 39), none⟩])
 (.seq (.reg [.op ⟨0, some 40, .mv (.t 8), none⟩,
  .op ⟨1, some 41, .bin .neq (.t 40) (.c (.one (.int .i64 0))), none⟩])
 (.cond (.t 41) (.seq (.reg [.op ⟨0, some 42, .load (.agg [.sl 3, .sl 3, .sl 1, .sl 2, .sl 1, .int .i64]) (.t 3), none⟩,
  .op ⟨1, some 43, .mv (.t 8), none⟩,
  .op ⟨2, none, .store 6 (.t 6) (.t 42), none⟩,
  .op ⟨3, some 7, .mv (.t 43), none⟩])
 (.ret)) (.skip)))) (.skip))))
 (.seq (.seq (.reg [.op ⟨0, some 44, .addr 5 (.t 3), none⟩,
  .op ⟨1, some 45, .load (.one (.int .i64)) (.t 44), none⟩,
  .op ⟨2, some 46, .bin .geq (.t 45) (.c (.one (.int .i64 8))), none⟩])
 (.cond (.t 46) (.seq (.reg [.op ⟨0, some 47, .load (.agg [.sl 3, .sl 3, .sl 1, .sl 2, .sl 1, .int .i64]) (.t 3), none⟩,
  .op ⟨1, none, .store 6 (.t 6) (.t 47), none⟩,
  .op ⟨2, some 7, .mv (.c (.one (.int .i64 171))), none⟩])
 (.ret)) (.skip)))
 (.seq (.reg [.op ⟨0, some 49, .addr 0 (.t 3), none⟩,
  .op ⟨1, some 50, .addr 0 (.t 49), none⟩,
  .op ⟨2, some 51, .load (.agg [.sl 3, .sl 3, .sl 1, .sl 2]) (.t 50), none⟩,
  .op ⟨3, some 52, .load (.agg [.int .i64, .int .i64, .int .i64, .int .i64, .int .i64, .int .i64]) (.t 4), none⟩,
  .op ⟨4, some 53, .call 2 [(.t 51), (.t 52)], none⟩,
  .op ⟨5, some 48, .mv (.t 53), none⟩,
  .op ⟨6, some 54, .ext (.t 48) 0, none⟩,
  .op ⟨7, some 55, .ext (.t 48) 1, none⟩,
  .op ⟨8, some 9, .new [.sl 3 Sl.nil, .sl 3 Sl.nil, .sl 1 Sl.nil, .sl 2 Sl.nil], none⟩,
  .op ⟨9, none, .store 4 (.t 9) (.t 54), none⟩,
  .op ⟨10, some 7, .mv (.t 55), none⟩])
 (.seq (.seq (.reg [.op ⟨0, some 56, .mv (.t 7), none⟩,
  .op ⟨1, some 57, .bin .neq (.t 56) (.c (.one (.int .i64 0))), none⟩])
 (.cond (.t 57) (.seq (.reg [.op ⟨0, some 58, .load (.agg [.sl 3, .sl 3, .sl 1, .sl 2, .sl 1, .int .i64]) (.t 3), none⟩,
  .op ⟨1, some 59, .mv (.t 7), none⟩,
  .op ⟨2, none, .store 6 (.t 6) (.t 58), none⟩,
  .op ⟨3, some 7, .mv (.t 59), none⟩])
 (.ret)) (.skip)))
 (.seq (.reg [.op ⟨0, some 60, .load (.agg [.sl 3, .sl 3, .sl 1, .sl 2]) (.t 9), none⟩,
  .op ⟨1, some 61, .addr 0 (.t 3), none⟩,
  .op ⟨2, some 62, .addr 4 (.t 61), none⟩,
  .op ⟨3, some 63, .load (.one (.sl 1)) (.t 62), none⟩,
  .op ⟨4, some 64, .build [.sl 3 Sl.nil, .sl 3 Sl.nil, .sl 1 Sl.nil, .sl 2 Sl.nil, .sl 1 Sl.nil] [(0, 4, (.t 60)), (4, 1, (.t 63))], none⟩,
  .op ⟨5, some 10, .new [.sl 3 Sl.nil, .sl 3 Sl.nil, .sl 1 Sl.nil, .sl 2 Sl.nil, .sl 1 Sl.nil], none⟩,
  .op ⟨6, none, .store 5 (.t 10) (.t 64), none⟩])
 (.seq (.seq (.reg [.op ⟨0, some 65, .load (.agg [.sl 3, .sl 3, .sl 1, .sl 2, .sl 1]) (.t 10), none⟩,
  .op ⟨1, some 66, .load (.agg [.int .i64, .int .i64, .int .i64, .int .i64]) (.t 5), none⟩,
  .op ⟨2, some 67, .call 3 [(.t 65), (.t 66)], none⟩,
  .op ⟨3, some 68, .un .not (.t 67), none⟩])
 (.cond (.t 68) (.seq (.reg [.op ⟨0, some 69, .load (.agg [.sl 3, .sl 3, .sl 1, .sl 2, .sl 1, .int .i64]) (.t 3), none⟩,
  .op ⟨1, none, .store 6 (.t 6) (.t 69), none⟩,
  .op ⟨2, some 7, .mv (.c (.one (.int .i64 172))), none⟩])
 (.ret)) (.skip)))
 (.seq (.reg [.op ⟨0, some 70, .load (.agg [.sl 3, .sl 3, .sl 1, .sl 2, .sl 1]) (.t 10), none⟩,
  .op ⟨1, some 71, .addr 5 (.t 3), none⟩,
  .op ⟨2, some 72, .load (.one (.int .i64)) (.t 71), none⟩,
  .op ⟨3, some 73, .bin .add (.t 72) (.c (.one (.int .i64 1))), none⟩,
  .op ⟨4, some 74, .build [.sl 3 Sl.nil, .sl 3 Sl.nil, .sl 1 Sl.nil, .sl 2 Sl.nil, .sl 1 Sl.nil, .int .i64 0] [(0, 5, (.t 70)), (5, 1, (.t 73))], none⟩,
  .op ⟨5, none, .store 6 (.t 6) (.t 74), none⟩,
  .op ⟨6, some 7, .mv (.c (.one (.int .i64 0))), none⟩])
 (.ret)))))))))⟩
noncomputable def law17_Plain_Do (x0 : (Sl × Sl × Sl × Sl × Sl × Int × Unit)) (x1 : (Int × Int × Int × Int × Int × Int × Unit)) (x2 : (Int × Int × Int × Int × Unit)) (H : Heap) : Option (((Sl × Sl × Sl × Sl × Sl × Int × Unit) × Int × Unit) × Heap) :=
 let H1 : Heap := H ++ [Blk.cells [.sl 3 x0.1, .sl 3 x0.2.1, .sl 1 x0.2.2.1, .sl 2 x0.2.2.2.1, .sl 1 x0.2.2.2.2.1, .int .i64 x0.2.2.2.2.2.1] .exact]
 let H2 : Heap := H1 ++ [Blk.cells [.int .i64 x1.1, .int .i64 x1.2.1, .int .i64 x1.2.2.1, .int .i64 x1.2.2.2.1, .int .i64 x1.2.2.2.2.1, .int .i64 x1.2.2.2.2.2.1] .exact]
 let H3 : Heap := H2 ++ [Blk.cells [.int .i64 x2.1, .int .i64 x2.2.1, .int .i64 x2.2.2.1, .int .i64 x2.2.2.2.1] .exact]
 let H4 : Heap := H3 ++ [Blk.cells [.sl 3 Sl.nil, .sl 3 Sl.nil, .sl 1 Sl.nil, .sl 2 Sl.nil, .sl 1 Sl.nil, .int .i64 0] .exact]
 ((rdI .i64 H4 H1.length 0).bind fun (v5 : Int) =>
 cond (decide (v5 = 2)) (
 Option.bind (α := (Int × Int × Int × Int × Int × Int × Unit)) (rd H4 (.agg [.int .i64, .int .i64, .int .i64, .int .i64, .int .i64, .int .i64]) H1.length 0) fun (v6 : (Int × Int × Int × Int × Int × Int × Unit)) =>
 (ref07_Check (v6.1, v6.2.1, v6.2.2.1, v6.2.2.2.1, v6.2.2.2.2.1, v6.2.2.2.2.2.1, ())).bind fun (r7 : (Bool × Unit)) =>
 cond (!r7.1) (
 Option.bind (α := (Sl × Sl × Sl × Sl × Sl × Int × Unit)) (rd H4 (.agg [.sl 3, .sl 3, .sl 1, .sl 2, .sl 1, .int .i64]) H.length 0) fun (v8 : (Sl × Sl × Sl × Sl × Sl × Int × Unit)) =>
 (wr H4 H3.length 0 [.sl 3 v8.1, .sl 3 v8.2.1, .sl 1 v8.2.2.1, .sl 2 v8.2.2.2.1, .sl 1 v8.2.2.2.2.1, .int .i64 v8.2.2.2.2.2.1]).bind fun (H9 : Heap) =>
 some (Sum.inr (1, ()), H9)) (
 some (Sum.inl (()), H4))) (
 (rdI .i64 H4 H1.length 0).bind fun (v10 : Int) =>
 cond (decide (4 ≤ v10)) (
 (rdI .i64 H4 H1.length 0).bind fun (v11 : Int) =>
 cond (!(decide (v11 ≤ 7))) (
 Option.bind (α := (Sl × Sl × Sl × Sl × Sl × Int × Unit)) (rd H4 (.agg [.sl 3, .sl 3, .sl 1, .sl 2, .sl 1, .int .i64]) H.length 0) fun (v12 : (Sl × Sl × Sl × Sl × Sl × Int × Unit)) =>
 (wr H4 H3.length 0 [.sl 3 v12.1, .sl 3 v12.2.1, .sl 1 v12.2.2.1, .sl 2 v12.2.2.2.1, .sl 1 v12.2.2.2.2.1, .int .i64 v12.2.2.2.2.2.1]).bind fun (H13 : Heap) =>
 some (Sum.inr (1, ()), H13)) (
 Option.bind (α := (Int × Int × Int × Int × Int × Int × Unit)) (rd H4 (.agg [.int .i64, .int .i64, .int .i64, .int .i64, .int .i64, .int .i64]) H1.length 0) fun (v14 : (Int × Int × Int × Int × Int × Int × Unit)) =>
 (ref07_Check (v14.1, v14.2.1, v14.2.2.1, v14.2.2.2.1, v14.2.2.2.2.1, v14.2.2.2.2.2.1, ())).bind fun (r15 : (Bool × Unit)) =>
 cond (!r15.1) (
 Option.bind (α := (Sl × Sl × Sl × Sl × Sl × Int × Unit)) (rd H4 (.agg [.sl 3, .sl 3, .sl 1, .sl 2, .sl 1, .int .i64]) H.length 0) fun (v16 : (Sl × Sl × Sl × Sl × Sl × Int × Unit)) =>
 (wr H4 H3.length 0 [.sl 3 v16.1, .sl 3 v16.2.1, .sl 1 v16.2.2.1, .sl 2 v16.2.2.2.1, .sl 1 v16.2.2.2.2.1, .int .i64 v16.2.2.2.2.2.1]).bind fun (H17 : Heap) =>
 some (Sum.inr (1, ()), H17)) (
 some (Sum.inl (()), H4)))) (
 Option.bind (α := (Sl × Sl × Sl × Sl × Sl × Int × Unit)) (rd H4 (.agg [.sl 3, .sl 3, .sl 1, .sl 2, .sl 1, .int .i64]) H.length 0) fun (v18 : (Sl × Sl × Sl × Sl × Sl × Int × Unit)) =>
 (wr H4 H3.length 0 [.sl 3 v18.1, .sl 3 v18.2.1, .sl 1 v18.2.2.1, .sl 2 v18.2.2.2.1, .sl 1 v18.2.2.2.2.1, .int .i64 v18.2.2.2.2.2.1]).bind fun (H19 : Heap) =>
 some (Sum.inr (1, ()), H19))) : Option (((Unit) ⊕ (Int × Unit)) × Heap)).bind fun (p20 : ((Unit) ⊕ (Int × Unit)) × Heap) =>
 Sum.elim (fun (y21 : (Unit)) =>
 ((rdI .i64 p20.2 H1.length 0).bind fun (v22 : Int) =>
 cond (decide (v22 = 2)) (
 Option.bind (α := (Sl × Sl × Sl × Sl × Unit)) (rd p20.2 (.agg [.sl 3, .sl 3, .sl 1, .sl 2]) H.length 0) fun (v23 : (Sl × Sl × Sl × Sl × Unit)) =>
 (rdI .i64 p20.2 H1.length 1).bind fun (v24 : Int) =>
 (law17_sealed (v23.1, v23.2.1, v23.2.2.1, v23.2.2.2.1, ()) v24 p20.2).bind fun (r25 : ((Int × Unit) × Heap)) =>
 cond (!decide (r25.1.1 = 0)) (
 Option.bind (α := (Sl × Sl × Sl × Sl × Sl × Int × Unit)) (rd r25.2 (.agg [.sl 3, .sl 3, .sl 1, .sl 2, .sl 1, .int .i64]) H.length 0) fun (v26 : (Sl × Sl × Sl × Sl × Sl × Int × Unit)) =>
 (wr r25.2 H3.length 0 [.sl 3 v26.1, .sl 3 v26.2.1, .sl 1 v26.2.2.1, .sl 2 v26.2.2.2.1, .sl 1 v26.2.2.2.2.1, .int .i64 v26.2.2.2.2.2.1]).bind fun (H27 : Heap) =>
 some (Sum.inr (r25.1.1, ()), H27)) (
 some (Sum.inl (()), r25.2))) (
 some (Sum.inl (()), p20.2)) : Option (((Unit) ⊕ (Int × Unit)) × Heap)).bind fun (p28 : ((Unit) ⊕ (Int × Unit)) × Heap) =>
 Sum.elim (fun (y29 : (Unit)) =>
 (rdI .i64 p28.2 H.length 5).bind fun (v30 : Int) =>
 cond (decide (8 ≤ v30)) (
 Option.bind (α := (Sl × Sl × Sl × Sl × Sl × Int × Unit)) (rd p28.2 (.agg [.sl 3, .sl 3, .sl 1, .sl 2, .sl 1, .int .i64]) H.length 0) fun (v31 : (Sl × Sl × Sl × Sl × Sl × Int × Unit)) =>
 (wr p28.2 H3.length 0 [.sl 3 v31.1, .sl 3 v31.2.1, .sl 1 v31.2.2.1, .sl 2 v31.2.2.2.1, .sl 1 v31.2.2.2.2.1, .int .i64 v31.2.2.2.2.2.1]).bind fun (H32 : Heap) =>
 Option.bind (α := (Sl × Sl × Sl × Sl × Sl × Int × Unit)) (rd H32 (.agg [.sl 3, .sl 3, .sl 1, .sl 2, .sl 1, .int .i64]) H3.length 0) fun (v33 : (Sl × Sl × Sl × Sl × Sl × Int × Unit)) =>
 some ((v33, 171, ()), H32)) (
 Option.bind (α := (Sl × Sl × Sl × Sl × Unit)) (rd p28.2 (.agg [.sl 3, .sl 3, .sl 1, .sl 2]) H.length 0) fun (v34 : (Sl × Sl × Sl × Sl × Unit)) =>
 Option.bind (α := (Int × Int × Int × Int × Int × Int × Unit)) (rd p28.2 (.agg [.int .i64, .int .i64, .int .i64, .int .i64, .int .i64, .int .i64]) H1.length 0) fun (v35 : (Int × Int × Int × Int × Int × Int × Unit)) =>
 (ref08_State_Do (v34.1, v34.2.1, v34.2.2.1, v34.2.2.2.1, ()) (v35.1, v35.2.1, v35.2.2.1, v35.2.2.2.1, v35.2.2.2.2.1, v35.2.2.2.2.2.1, ()) p28.2).bind fun (r36 : (((Sl × Sl × Sl × Sl × Unit) × Int × Unit) × Heap)) =>
 let H37 : Heap := r36.2 ++ [Blk.cells [.sl 3 Sl.nil, .sl 3 Sl.nil, .sl 1 Sl.nil, .sl 2 Sl.nil] .exact]
 (wr H37 r36.2.length 0 [.sl 3 r36.1.1.1, .sl 3 r36.1.1.2.1, .sl 1 r36.1.1.2.2.1, .sl 2 r36.1.1.2.2.2.1]).bind fun (H38 : Heap) =>
 cond (!decide (r36.1.2.1 = 0)) (
 Option.bind (α := (Sl × Sl × Sl × Sl × Sl × Int × Unit)) (rd H38 (.agg [.sl 3, .sl 3, .sl 1, .sl 2, .sl 1, .int .i64]) H.length 0) fun (v39 : (Sl × Sl × Sl × Sl × Sl × Int × Unit)) =>
 (wr H38 H3.length 0 [.sl 3 v39.1, .sl 3 v39.2.1, .sl 1 v39.2.2.1, .sl 2 v39.2.2.2.1, .sl 1 v39.2.2.2.2.1, .int .i64 v39.2.2.2.2.2.1]).bind fun (H40 : Heap) =>
 Option.bind (α := (Sl × Sl × Sl × Sl × Sl × Int × Unit)) (rd H40 (.agg [.sl 3, .sl 3, .sl 1, .sl 2, .sl 1, .int .i64]) H3.length 0) fun (v41 : (Sl × Sl × Sl × Sl × Sl × Int × Unit)) =>
 some ((v41, r36.1.2.1, ()), H40)) (
 Option.bind (α := (Sl × Sl × Sl × Sl × Unit)) (rd H38 (.agg [.sl 3, .sl 3, .sl 1, .sl 2]) r36.2.length 0) fun (v42 : (Sl × Sl × Sl × Sl × Unit)) =>
 (rdSl 1 H38 H.length 4).bind fun (v43 : Sl) =>
 let H44 : Heap := H38 ++ [Blk.cells [.sl 3 Sl.nil, .sl 3 Sl.nil, .sl 1 Sl.nil, .sl 2 Sl.nil, .sl 1 Sl.nil] .exact]
 (wr H44 H38.length 0 [.sl 3 v42.1, .sl 3 v42.2.1, .sl 1 v42.2.2.1, .sl 2 v42.2.2.2.1, .sl 1 v43]).bind fun (H45 : Heap) =>
 Option.bind (α := (Sl × Sl × Sl × Sl × Sl × Unit)) (rd H45 (.agg [.sl 3, .sl 3, .sl 1, .sl 2, .sl 1]) H38.length 0) fun (v46 : (Sl × Sl × Sl × Sl × Sl × Unit)) =>
 Option.bind (α := (Int × Int × Int × Int × Unit)) (rd H45 (.agg [.int .i64, .int .i64, .int .i64, .int .i64]) H2.length 0) fun (v47 : (Int × Int × Int × Int × Unit)) =>
 (ref16_Plain_Fits (v46.1, v46.2.1, v46.2.2.1, v46.2.2.2.1, v46.2.2.2.2.1, ()) (v47.1, v47.2.1, v47.2.2.1, v47.2.2.2.1, ()) H45).bind fun (r48 : ((Bool × Unit) × Heap)) =>
 cond (!r48.1.1) (
 Option.bind (α := (Sl × Sl × Sl × Sl × Sl × Int × Unit)) (rd r48.2 (.agg [.sl 3, .sl 3, .sl 1, .sl 2, .sl 1, .int .i64]) H.length 0) fun (v49 : (Sl × Sl × Sl × Sl × Sl × Int × Unit)) =>
 (wr r48.2 H3.length 0 [.sl 3 v49.1, .sl 3 v49.2.1, .sl 1 v49.2.2.1, .sl 2 v49.2.2.2.1, .sl 1 v49.2.2.2.2.1, .int .i64 v49.2.2.2.2.2.1]).bind fun (H50 : Heap) =>
 Option.bind (α := (Sl × Sl × Sl × Sl × Sl × Int × Unit)) (rd H50 (.agg [.sl 3, .sl 3, .sl 1, .sl 2, .sl 1, .int .i64]) H3.length 0) fun (v51 : (Sl × Sl × Sl × Sl × Sl × Int × Unit)) =>
 some ((v51, 172, ()), H50)) (
 Option.bind (α := (Sl × Sl × Sl × Sl × Sl × Unit)) (rd r48.2 (.agg [.sl 3, .sl 3, .sl 1, .sl 2, .sl 1]) H38.length 0) fun (v52 : (Sl × Sl × Sl × Sl × Sl × Unit)) =>
 (rdI .i64 r48.2 H.length 5).bind fun (v53 : Int) =>
 (wr r48.2 H3.length 0 [.sl 3 v52.1, .sl 3 v52.2.1, .sl 1 v52.2.2.1, .sl 2 v52.2.2.2.1, .sl 1 v52.2.2.2.2.1, .int .i64 (IntKind.wrap .i64 (v53 + 1))]).bind fun (H54 : Heap) =>
 Option.bind (α := (Sl × Sl × Sl × Sl × Sl × Int × Unit)) (rd H54 (.agg [.sl 3, .sl 3, .sl 1, .sl 2, .sl 1, .int .i64]) H3.length 0) fun (v55 : (Sl × Sl × Sl × Sl × Sl × Int × Unit)) =>
 some ((v55, 0, ()), H54))))) (fun (z56 : (Int × Unit)) =>
 Option.bind (α := (Sl × Sl × Sl × Sl × Sl × Int × Unit)) (rd p28.2 (.agg [.sl 3, .sl 3, .sl 1, .sl 2, .sl 1, .int .i64]) H3.length 0) fun (v57 : (Sl × Sl × Sl × Sl × Sl × Int × Unit)) =>
 some ((v57, z56.1, ()), p28.2)) p28.1) (fun (z58 : (Int × Unit)) =>
 Option.bind (α := (Sl × Sl × Sl × Sl × Sl × Int × Unit)) (rd p20.2 (.agg [.sl 3, .sl 3, .sl 1, .sl 2, .sl 1, .int .i64]) H3.length 0) fun (v59 : (Sl × Sl × Sl × Sl × Sl × Int × Unit)) =>
 some ((v59, z58.1, ()), p20.2)) p20.1
noncomputable def law17_Plain_Do.c : Callee := .full [.agg [.sl 3, .sl 3, .sl 1, .sl 2, .sl 1, .int .i64], .agg [.int .i64, .int .i64, .int .i64, .int .i64, .int .i64, .int .i64], .agg [.int .i64, .int .i64, .int .i64, .int .i64]] [.agg [.sl 3, .sl 3, .sl 1, .sl 2, .sl 1, .int .i64], .one (.int .i64)] (fun x H => law17_Plain_Do x.1 x.2.1 x.2.2.1 H)
noncomputable def law17_Plain_Do.calls : Nat → Option Callee
  | 0 => some ref07_Check.c
  | 1 => some law17_sealed.c
  | 2 => some ref08_State_Do.c
  | 3 => some ref16_Plain_Fits.c
  | _ => none
theorem law17_Plain_Do.eq : evFull law17_Plain_Do.calls law17_Plain_Do.af = (fun x H => law17_Plain_Do x.1 x.2.1 x.2.2.1 H) := by kernel_rfl

/-! ### tinderbox/tinderboxlaw17.seen -/
def law17_seen.af : AFun := ⟨[.one .ptr, .agg [.sl 3, .sl 3, .sl 1, .sl 2, .sl 1, .int .i64]], [.one .bool], [.t 4],
 .seq (.reg [.op ⟨0, some 3, .box (.t 1), none⟩,
  .op ⟨1, some 4, .mv (.c (.one (.bool false))), none⟩])
 (.seq (.reg [.op ⟨0, some 20, .mv (.t 0), none⟩,
  .op ⟨1, some 21, .call 0 [(.t 20)], none⟩,
  .op ⟨2, some 5, .mv (.t 21), none⟩])
 (.seq (.seq (.reg [.op ⟨0, some 22, .mv (.t 5), none⟩,
  .op ⟨1, some 23, .len (.t 22), none⟩,
  .op ⟨2, some 24, .addr 0 (.t 3), none⟩,
  .op ⟨3, some 25, .addr 0 (.t 24), none⟩,
  .op ⟨4, some 26, .addr 0 (.t 25), none⟩,
  .op ⟨5, some 27, .load (.one (.sl 3)) (.t 26), none⟩,
  .op ⟨6, some 28, .len (.t 27), none⟩,
  .op ⟨7, some 29, .bin .neq (.t 23) (.t 28), none⟩])
 (.cond (.t 29) (.seq (.reg [.op ⟨0, some 4, .mv (.c (.one (.bool false))), none⟩])
 (.ret)) (.skip)))
 (.seq (.seq (.reg [.op ⟨0, some 6, .mv (.c (.one (.int .i64 0))), none⟩])
 (.block 0 (.loop [(6, .one (.int .i64))] [(.exit 0, []), (.ret, [(4, .one .bool)])] (.seq (.seq (.reg [.op ⟨0, some 30, .mv (.t 6), none⟩,
  .op ⟨1, some 31, .mv (.t 5), none⟩,
  .op ⟨2, some 32, .len (.t 31), none⟩,
  .op ⟨3, some 33, .bin .lss (.t 30) (.t 32), none⟩])
 (.cond (.t 33) (.skip) (.exit 0)))
 (.seq (.block 1 (.seq (.reg [.op ⟨0, some 36, .addr 0 (.t 3), none⟩,
  .op ⟨1, some 37, .addr 0 (.t 36), none⟩,
  .op ⟨2, some 38, .addr 0 (.t 37), none⟩,
  .op ⟨3, some 39, .load (.one (.sl 3)) (.t 38), none⟩,
  .op ⟨4, some 40, .mv (.t 6), none⟩,
  .op ⟨5, some 41, .idxa 3 (.t 39) (.t 40), none⟩,
  .op ⟨6, some 42, .load (.agg [.int .i64, .int .i64, .bool]) (.t 41), none⟩,
  .op ⟨7, some 7, .new [.int .i64 0, .int .i64 0, .bool false], none⟩,
  .op ⟨8, none, .store 3 (.t 7) (.t 42), none⟩])
 (.seq (.reg [.op ⟨0, some 43, .mv (.t 5), none⟩,
  .op ⟨1, some 44, .mv (.t 6), none⟩,
  .op ⟨2, some 45, .idxa 4 (.t 43) (.t 44), none⟩,
  .op ⟨3, some 46, .load (.agg [.int .i64, .int .i64, .int .i64, .bool]) (.t 45), none⟩,
  .op ⟨4, some 47, .addr 0 (.t 7), none⟩,
  .op ⟨5, some 48, .load (.one (.int .i64)) (.t 47), none⟩,
  .op ⟨6, some 49, .addr 1 (.t 7), none⟩,
  .op ⟨7, some 50, .load (.one (.int .i64)) (.t 49), none⟩,
  .op ⟨8, some 51, .addr 0 (.t 3), none⟩,
  .op ⟨9, some 52, .addr 0 (.t 51), none⟩,
  .op ⟨10, some 53, .load (.agg [.sl 3, .sl 3, .sl 1, .sl 2]) (.t 52), none⟩,
  .op ⟨11, some 54, .addr 0 (.t 7), none⟩,
  .op ⟨12, some 55, .load (.one (.int .i64)) (.t 54), none⟩,
  .op ⟨14, some 57, .addr 2 (.t 7), none⟩,
  .op ⟨15, some 58, .load (.one .bool) (.t 57), none⟩,
  .op ⟨13, some 56, .call 1 [(.t 53), (.t 55)], none⟩,
  .op ⟨16, some 59, .build [.int .i64 0, .int .i64 0, .int .i64 0, .bool false] [(0, 1, (.t 48)), (1, 1, (.t 50)), (2, 1, (.t 56)), (3, 1, (.t 58))], none⟩,
  .op ⟨17, some 60, .eqagg true [.int .i64, .int .i64, .int .i64, .bool] (.t 46) (.t 59), none⟩,
  .again ⟨3, some 46, .load (.agg [.int .i64, .int .i64, .int .i64, .bool]) (.t 45), none⟩,
  .again ⟨5, some 48, .load (.one (.int .i64)) (.t 47), none⟩,
  .again ⟨7, some 50, .load (.one (.int .i64)) (.t 49), none⟩,
  .again ⟨15, some 58, .load (.one .bool) (.t 57), none⟩])
 (.cond (.t 60) (.seq (.reg [.op ⟨0, some 4, .mv (.c (.one (.bool false))), none⟩])
 (.ret)) (.skip)))))
 (.reg [.op ⟨0, some 34, .mv (.t 6), none⟩,
  .op ⟨1, some 35, .bin .add (.t 34) (.c (.one (.int .i64 1))), none⟩,
  .op ⟨2, some 6, .mv (.t 35), none⟩]))))))
 (.seq (.seq (.reg [.op ⟨0, some 8, .mv (.c (.one (.int .i64 0))), none⟩])
 (.block 2 (.loop [(8, .one (.int .i64))] [(.exit 2, []), (.ret, [(4, .one .bool)])] (.seq (.seq (.reg [.op ⟨0, some 61, .mv (.t 8), none⟩,
  .op ⟨1, some 62, .addr 0 (.t 3), none⟩,
  .op ⟨2, some 63, .addr 0 (.t 62), none⟩,
  .op ⟨3, some 64, .addr 1 (.t 63), none⟩,
  .op ⟨4, some 65, .load (.one (.sl 3)) (.t 64), none⟩,
  .op ⟨5, some 66, .len (.t 65), none⟩,
  .op ⟨6, some 67, .bin .lss (.t 61) (.t 66), none⟩])
 (.cond (.t 67) (.skip) (.exit 2)))
 (.seq (.block 3 (.seq (.reg [.op ⟨0, some 70, .addr 0 (.t 3), none⟩,
  .op ⟨1, some 71, .addr 0 (.t 70), none⟩,
  .op ⟨2, some 72, .addr 1 (.t 71), none⟩,
  .op ⟨3, some 73, .load (.one (.sl 3)) (.t 72), none⟩,
  .op ⟨4, some 74, .mv (.t 8), none⟩,
  .op ⟨5, some 75, .idxa 3 (.t 73) (.t 74), none⟩,
  .op ⟨6, some 76, .load (.agg [.int .i64, .int .i64, .int .i64]) (.t 75), none⟩,
  .op ⟨7, some 9, .new [.int .i64 0, .int .i64 0, .int .i64 0], none⟩,
  .op ⟨8, none, .store 3 (.t 9) (.t 76), none⟩])
 (.seq (.reg [.op ⟨0, some 78, .mv (.t 0), none⟩,
  .op ⟨1, some 79, .addr 0 (.t 9), none⟩,
  .op ⟨2, some 80, .load (.one (.int .i64)) (.t 79), none⟩,
  .op ⟨3, some 81, .addr 1 (.t 9), none⟩,
  .op ⟨4, some 82, .load (.one (.int .i64)) (.t 81), none⟩,
  .op ⟨5, some 83, .call 2 [(.t 78), (.t 80), (.t 82)], none⟩,
  .op ⟨6, some 77, .mv (.t 83), none⟩,
  .op ⟨7, some 84, .ext (.t 77) 0, none⟩,
  .op ⟨8, some 85, .ext (.t 77) 1, none⟩,
  .op ⟨9, some 86, .ext (.t 77) 2, none⟩,
  .op ⟨10, some 10, .mv (.t 84), none⟩,
  .op ⟨11, some 11, .mv (.t 85), none⟩,
  .op ⟨12, some 12, .mv (.t 86), none⟩])
 (.seq (.reg [.op ⟨0, some 88, .addr 0 (.t 3), none⟩,
  .op ⟨1, some 89, .load (.agg [.sl 3, .sl 3, .sl 1, .sl 2, .sl 1]) (.t 88), none⟩,
  .op ⟨2, some 90, .addr 0 (.t 9), none⟩,
  .op ⟨3, some 91, .load (.one (.int .i64)) (.t 90), none⟩,
  .op ⟨4, some 92, .addr 1 (.t 9), none⟩,
  .op ⟨5, some 93, .load (.one (.int .i64)) (.t 92), none⟩,
  .op ⟨6, some 94, .call 3 [(.t 89), (.t 91), (.t 93)], none⟩,
  .op ⟨7, some 87, .mv (.t 94), none⟩,
  .op ⟨8, some 95, .ext (.t 87) 0, none⟩,
  .op ⟨9, some 96, .ext (.t 87) 1, none⟩,
  .op ⟨10, some 13, .mv (.t 95), none⟩,
  .op ⟨11, some 14, .mv (.t 96), none⟩])
 (.seq (.reg [.op ⟨0, some 97, .mv (.t 12), none⟩,
  .op ⟨1, some 98, .un .not (.t 97), none⟩,
  .op ⟨2, some 99, .mv (.t 98), none⟩,
  .op ⟨3, some 100, .mv (.t 14), some (99, false)⟩,
  .op ⟨4, some 101, .mv (.t 11), some (99, false)⟩,
  .op ⟨5, some 102, .bin .geq (.t 101) (.c (.one (.int .i64 512))), some (99, false)⟩,
  .op ⟨6, some 103, .eqb true (.t 100) (.t 102), some (99, false)⟩,
  .op ⟨7, some 104, .pick (.t 99) (.c (.one (.bool true))) (.t 103), none⟩,
  .op ⟨8, some 105, .mv (.t 104), none⟩,
  .op ⟨9, some 106, .mv (.t 10), some (105, false)⟩,
  .op ⟨10, some 107, .mv (.t 13), some (105, false)⟩,
  .op ⟨11, some 108, .bin .neq (.t 106) (.t 107), some (105, false)⟩,
  .op ⟨12, some 109, .pick (.t 105) (.c (.one (.bool true))) (.t 108), none⟩,
  .op ⟨13, some 110, .mv (.t 109), none⟩,
  .op ⟨14, some 111, .mv (.t 14), some (110, false)⟩,
  .op ⟨15, some 112, .un .not (.t 111), some (110, false)⟩,
  .op ⟨16, some 113, .mv (.t 112), some (110, false)⟩,
  .op ⟨17, some 114, .mv (.t 11), some (113, true)⟩,
  .op ⟨18, some 115, .addr 2 (.t 9), some (113, true)⟩,
  .op ⟨19, some 116, .load (.one (.int .i64)) (.t 115), some (113, true)⟩,
  .op ⟨20, some 117, .bin .neq (.t 114) (.t 116), some (113, true)⟩,
  .op ⟨21, some 118, .pick (.t 113) (.t 117) (.c (.one (.bool false))), some (110, false)⟩,
  .op ⟨22, some 119, .pick (.t 110) (.c (.one (.bool true))) (.t 118), none⟩])
 (.cond (.t 119) (.seq (.reg [.op ⟨0, some 4, .mv (.c (.one (.bool false))), none⟩])
 (.ret)) (.skip)))))))
 (.reg [.op ⟨0, some 68, .mv (.t 8), none⟩,
  .op ⟨1, some 69, .bin .add (.t 68) (.c (.one (.int .i64 1))), none⟩,
  .op ⟨2, some 8, .mv (.t 69), none⟩]))))))
 (.seq (.reg [.op ⟨0, some 121, .mv (.t 0), none⟩,
  .op ⟨1, some 122, .call 2 [(.t 121), (.c (.one (.int .i64 9))), (.c (.one (.int .i64 9)))], none⟩,
  .op ⟨2, some 120, .mv (.t 122), none⟩,
  .op ⟨3, some 123, .ext (.t 120) 0, none⟩,
  .op ⟨4, some 124, .ext (.t 120) 1, none⟩,
  .op ⟨5, some 125, .ext (.t 120) 2, none⟩,
  .op ⟨6, some 15, .mv (.t 123), none⟩,
  .op ⟨7, some 16, .mv (.t 124), none⟩,
  .op ⟨8, some 17, .mv (.t 125), none⟩])
 (.seq (.reg [.op ⟨0, some 127, .addr 0 (.t 3), none⟩,
  .op ⟨1, some 128, .addr 0 (.t 127), none⟩,
  .op ⟨2, some 129, .load (.agg [.sl 3, .sl 3, .sl 1, .sl 2]) (.t 128), none⟩,
  .op ⟨3, some 130, .call 4 [(.t 129), (.c (.one (.int .i64 9))), (.c (.one (.int .i64 9)))], none⟩,
  .op ⟨4, some 126, .mv (.t 130), none⟩,
  .op ⟨5, some 131, .ext (.t 126) 0, none⟩,
  .op ⟨6, some 132, .ext (.t 126) 1, none⟩,
  .op ⟨7, some 18, .mv (.t 131), none⟩,
  .op ⟨8, some 19, .mv (.t 132), none⟩])
 (.seq (.reg [.op ⟨0, some 133, .mv (.t 17), none⟩,
  .op ⟨1, some 134, .mv (.t 19), none⟩,
  .op ⟨2, some 135, .eqb false (.t 133) (.t 134), none⟩,
  .op ⟨3, some 4, .mv (.t 135), none⟩])
 (.ret))))))))⟩
noncomputable def law17_seen.s1 (H : Heap) (r2 : ((Sl × Unit) × Heap)) (s4 : (Int × Unit)) (H5 : Heap) : Option (((Int × Unit) ⊕ ((Unit) ⊕ (Bool × Unit))) × Heap) :=
 cond (decide (s4.1 < (r2.1.1.len : Int))) (
 (rdSl 3 H5 H.length 0).bind fun (v6 : Sl) =>
 (Sl.at 3 v6 s4.1).bind fun (a7 : (Nat × Nat)) =>
 Option.bind (α := (Int × Int × Bool × Unit)) (rd H5 (.agg [.int .i64, .int .i64, .bool]) a7.1 a7.2) fun (v8 : (Int × Int × Bool × Unit)) =>
 let H9 : Heap := H5 ++ [Blk.cells [.int .i64 0, .int .i64 0, .bool false] .exact]
 (wr H9 H5.length 0 [.int .i64 v8.1, .int .i64 v8.2.1, .bool v8.2.2.1]).bind fun (H10 : Heap) =>
 (Sl.at 4 r2.1.1 s4.1).bind fun (a11 : (Nat × Nat)) =>
 Option.bind (α := (Int × Int × Int × Bool × Unit)) (rd H10 (.agg [.int .i64, .int .i64, .int .i64, .bool]) a11.1 a11.2) fun (v12 : (Int × Int × Int × Bool × Unit)) =>
 (rdI .i64 H10 H5.length 0).bind fun (v13 : Int) =>
 (rdI .i64 H10 H5.length 1).bind fun (v14 : Int) =>
 Option.bind (α := (Sl × Sl × Sl × Sl × Unit)) (rd H10 (.agg [.sl 3, .sl 3, .sl 1, .sl 2]) H.length 0) fun (v15 : (Sl × Sl × Sl × Sl × Unit)) =>
 (rdI .i64 H10 H5.length 0).bind fun (v16 : Int) =>
 (rdB H10 H5.length 2).bind fun (v17 : Bool) =>
 (ref08_State_Pages (v15.1, v15.2.1, v15.2.2.1, v15.2.2.2.1, ()) v16 H10).bind fun (r18 : ((Int × Unit) × Heap)) =>
 Option.bind (α := (Int × Int × Int × Bool × Unit)) (rd r18.2 (.agg [.int .i64, .int .i64, .int .i64, .bool]) a11.1 a11.2) fun (v19 : (Int × Int × Int × Bool × Unit)) =>
 if V.w (.agg [.int .i64 v19.1, .int .i64 v19.2.1, .int .i64 v19.2.2.1, .bool v19.2.2.2.1]) = V.w (.agg [.int .i64 v12.1, .int .i64 v12.2.1, .int .i64 v12.2.2.1, .bool v12.2.2.2.1]) then
 (rdI .i64 r18.2 H5.length 0).bind fun (v20 : Int) =>
 if V.w (.one (.int .i64 v20)) = V.w (.one (.int .i64 v13)) then
 (rdI .i64 r18.2 H5.length 1).bind fun (v21 : Int) =>
 if V.w (.one (.int .i64 v21)) = V.w (.one (.int .i64 v14)) then
 (rdB r18.2 H5.length 2).bind fun (v22 : Bool) =>
 if V.w (.one (.bool v22)) = V.w (.one (.bool v17)) then
 cond (!((decide (v12.1 = v13)) && ((decide (v12.2.1 = v14)) && ((decide (v12.2.2.1 = r18.1.1)) && ((v12.2.2.2.1 == v17) && true))))) (
 some (Sum.inr (Sum.inr (false, ())), r18.2)) (
 some (Sum.inl ((IntKind.wrap .i64 (s4.1 + 1)), ()), r18.2))
 else none
 else none
 else none
 else none) (
 some (Sum.inr (Sum.inl (())), H5))
noncomputable def law17_seen.s2 (x0 : Ptr) (H : Heap) (s25 : (Int × Unit)) (H26 : Heap) : Option (((Int × Unit) ⊕ ((Unit) ⊕ (Bool × Unit))) × Heap) :=
 (rdSl 3 H26 H.length 1).bind fun (v27 : Sl) =>
 cond (decide (s25.1 < (v27.len : Int))) (
 (rdSl 3 H26 H.length 1).bind fun (v28 : Sl) =>
 (Sl.at 3 v28 s25.1).bind fun (a29 : (Nat × Nat)) =>
 Option.bind (α := (Int × Int × Int × Unit)) (rd H26 (.agg [.int .i64, .int .i64, .int .i64]) a29.1 a29.2) fun (v30 : (Int × Int × Int × Unit)) =>
 let H31 : Heap := H26 ++ [Blk.cells [.int .i64 0, .int .i64 0, .int .i64 0] .exact]
 (wr H31 H26.length 0 [.int .i64 v30.1, .int .i64 v30.2.1, .int .i64 v30.2.2.1]).bind fun (H32 : Heap) =>
 (rdI .i64 H32 H26.length 0).bind fun (v33 : Int) =>
 (rdI .i64 H32 H26.length 1).bind fun (v34 : Int) =>
 (txn_Txn_Get x0 v33 v34 H32).bind fun (r35 : ((Bytes × Int × Bool × Unit) × Heap)) =>
 Option.bind (α := (Sl × Sl × Sl × Sl × Sl × Unit)) (rd r35.2 (.agg [.sl 3, .sl 3, .sl 1, .sl 2, .sl 1]) H.length 0) fun (v36 : (Sl × Sl × Sl × Sl × Sl × Unit)) =>
 (rdI .i64 r35.2 H26.length 0).bind fun (v37 : Int) =>
 (rdI .i64 r35.2 H26.length 1).bind fun (v38 : Int) =>
 (ref16_Plain_Get (v36.1, v36.2.1, v36.2.2.1, v36.2.2.2.1, v36.2.2.2.2.1, ()) v37 v38 r35.2).bind fun (r39 : ((Bytes × Bool × Unit) × Heap)) =>
 cond (!r35.1.2.2.1) (
 some (Sum.inr (Sum.inr (false, ())), r39.2)) (
 cond (!(r39.1.2.1 == (decide (512 ≤ r35.1.2.1)))) (
 some (Sum.inr (Sum.inr (false, ())), r39.2)) (
 cond (!decide ((r35.1.1 : Bytes) = r39.1.1)) (
 some (Sum.inr (Sum.inr (false, ())), r39.2)) (
 cond (!r39.1.2.1) (
 (rdI .i64 r39.2 H26.length 2).bind fun (v40 : Int) =>
 cond (!decide (r35.1.2.1 = v40)) (
 some (Sum.inr (Sum.inr (false, ())), r39.2)) (
 some (Sum.inl ((IntKind.wrap .i64 (s25.1 + 1)), ()), r39.2))) (
 some (Sum.inl ((IntKind.wrap .i64 (s25.1 + 1)), ()), r39.2)))))) (
 some (Sum.inr (Sum.inl (())), H26))
noncomputable def law17_seen (x0 : Ptr) (x1 : (Sl × Sl × Sl × Sl × Sl × Int × Unit)) (H : Heap) : Option ((Bool × Unit) × Heap) :=
 let H1 : Heap := H ++ [Blk.cells [.sl 3 x1.1, .sl 3 x1.2.1, .sl 1 x1.2.2.1, .sl 2 x1.2.2.2.1, .sl 1 x1.2.2.2.2.1, .int .i64 x1.2.2.2.2.2.1] .exact]
 (txn_Txn_Spaces x0 H1).bind fun (r2 : ((Sl × Unit) × Heap)) =>
 (rdSl 3 r2.2 H.length 0).bind fun (v3 : Sl) =>
 cond (!decide ((r2.1.1.len : Int) = (v3.len : Int))) (
 some ((false, ()), r2.2)) (
 (loopW (law17_seen.s1 H r2) (0, ()) r2.2).bind fun (p23 : ((Unit) ⊕ (Bool × Unit)) × Heap) =>
 Sum.elim (fun (y24 : (Unit)) =>
 (loopW (law17_seen.s2 x0 H) (0, ()) p23.2).bind fun (p41 : ((Unit) ⊕ (Bool × Unit)) × Heap) =>
 Sum.elim (fun (y42 : (Unit)) =>
 (txn_Txn_Get x0 9 9 p41.2).bind fun (r43 : ((Bytes × Int × Bool × Unit) × Heap)) =>
 Option.bind (α := (Sl × Sl × Sl × Sl × Unit)) (rd r43.2 (.agg [.sl 3, .sl 3, .sl 1, .sl 2]) H.length 0) fun (v44 : (Sl × Sl × Sl × Sl × Unit)) =>
 (ref08_State_Get (v44.1, v44.2.1, v44.2.2.1, v44.2.2.2.1, ()) 9 9 r43.2).bind fun (r45 : ((Int × Bool × Unit) × Heap)) =>
 some (((r43.1.2.2.1 == r45.1.2.1), ()), r45.2)) (fun (z46 : (Bool × Unit)) =>
 some ((z46.1, ()), p41.2)) p41.1) (fun (z47 : (Bool × Unit)) =>
 some ((z47.1, ()), p23.2)) p23.1)
noncomputable def law17_seen.c : Callee := .full [.one .ptr, .agg [.sl 3, .sl 3, .sl 1, .sl 2, .sl 1, .int .i64]] [.one .bool] (fun x H => law17_seen x.1 x.2.1 H)
noncomputable def law17_seen.calls : Nat → Option Callee
  | 0 => some txn_Txn_Spaces.c
  | 1 => some ref08_State_Pages.c
  | 2 => some txn_Txn_Get.c
  | 3 => some ref16_Plain_Get.c
  | 4 => some ref08_State_Get.c
  | _ => none
theorem law17_seen.eq : evFull law17_seen.calls law17_seen.af = (fun x H => law17_seen x.1 x.2.1 H) := by kernel_rfl

/-! ### tinderbox/tinderboxlaw17.TxnPlays -/
def law17_TxnPlays.af : AFun := ⟨[.one (.sl 6), .one (.sl 7), .one (.int .i64)], [.one .bool], [.t 6],
 .seq (.reg [.op ⟨0, some 6, .mv (.c (.one (.bool false))), none⟩])
 (.seq (.reg [.op ⟨0, some 19, .call 0 [], none⟩,
  .op ⟨1, some 20, .build [.sl 3 Sl.nil, .sl 3 Sl.nil, .sl 1 Sl.nil, .sl 2 Sl.nil] [], none⟩,
  .op ⟨2, some 8, .new [.sl 3 Sl.nil, .sl 3 Sl.nil, .sl 1 Sl.nil, .sl 2 Sl.nil], none⟩,
  .op ⟨3, some 7, .mv (.t 19), none⟩,
  .op ⟨4, none, .store 4 (.t 8) (.t 20), none⟩])
 (.seq (.seq (.reg [.op ⟨0, some 9, .mv (.c (.one (.int .i64 0))), none⟩])
 (.block 0 (.loop [(9, .one (.int .i64))] [(.exit 0, [])] (.seq (.seq (.reg [.op ⟨0, some 21, .mv (.t 9), none⟩,
  .op ⟨1, some 22, .mv (.t 0), none⟩,
  .op ⟨2, some 23, .len (.t 22), none⟩,
  .op ⟨3, some 24, .bin .lss (.t 21) (.t 23), none⟩,
  .op ⟨4, some 25, .mv (.t 24), none⟩,
  .op ⟨5, some 26, .mv (.t 9), some (25, true)⟩,
  .op ⟨6, some 27, .bin .lss (.t 26) (.c (.one (.int .i64 30))), some (25, true)⟩,
  .op ⟨7, some 28, .pick (.t 25) (.t 27) (.c (.one (.bool false))), none⟩])
 (.cond (.t 28) (.skip) (.exit 0)))
 (.seq (.block 1 (.seq (.reg [.op ⟨0, some 31, .mv (.t 7), none⟩,
  .op ⟨1, some 32, .mv (.t 0), none⟩,
  .op ⟨2, some 33, .mv (.t 9), none⟩,
  .op ⟨3, some 34, .idxa 6 (.t 32) (.t 33), none⟩,
  .op ⟨4, some 35, .load (.agg [.int .i64, .int .i64, .int .i64, .int .i64, .int .i64, .int .i64]) (.t 34), none⟩,
  .op ⟨5, some 36, .call 1 [(.t 31), (.t 35)], none⟩])
 (.reg [.op ⟨0, some 38, .load (.agg [.sl 3, .sl 3, .sl 1, .sl 2]) (.t 8), none⟩,
  .op ⟨1, some 39, .mv (.t 0), none⟩,
  .op ⟨2, some 40, .mv (.t 9), none⟩,
  .op ⟨3, some 41, .idxa 6 (.t 39) (.t 40), none⟩,
  .op ⟨4, some 42, .load (.agg [.int .i64, .int .i64, .int .i64, .int .i64, .int .i64, .int .i64]) (.t 41), none⟩,
  .op ⟨5, some 43, .call 2 [(.t 38), (.t 42)], none⟩,
  .op ⟨6, some 37, .mv (.t 43), none⟩,
  .op ⟨7, some 44, .ext (.t 37) 0, none⟩,
  .op ⟨8, some 45, .ext (.t 37) 1, none⟩,
  .op ⟨9, none, .store 4 (.t 8) (.t 44), none⟩])))
 (.reg [.op ⟨0, some 29, .mv (.t 9), none⟩,
  .op ⟨1, some 30, .bin .add (.t 29) (.c (.one (.int .i64 1))), none⟩,
  .op ⟨2, some 9, .mv (.t 30), none⟩]))))))
 (.seq (.reg [.op ⟨0, some 46, .mv (.t 2), none⟩,
  .op ⟨1, some 47, .bin .and (.t 46) (.c (.one (.int .i64 15))), none⟩,
  .op ⟨2, some 48, .bin .add (.c (.one (.int .i64 1))) (.t 47), none⟩,
  .op ⟨3, some 49, .mv (.t 2), none⟩,
  .op ⟨4, some 50, .bin .mul (.c (.one (.int .i64 2))) (.t 49), none⟩,
  .op ⟨5, some 51, .bin .and (.t 50) (.c (.one (.int .i64 31))), none⟩,
  .op ⟨6, some 52, .bin .add (.c (.one (.int .i64 2))) (.t 51), none⟩,
  .op ⟨7, some 53, .build [.int .i64 0, .int .i64 0, .int .i64 0, .int .i64 0] [(0, 1, (.t 48)), (1, 1, (.t 52))], none⟩,
  .op ⟨8, some 10, .new [.int .i64 0, .int .i64 0, .int .i64 0, .int .i64 0], none⟩,
  .op ⟨9, none, .store 4 (.t 10) (.t 53), none⟩])
 (.seq (.reg [.op ⟨0, some 54, .mv (.t 7), none⟩,
  .op ⟨1, some 55, .load (.agg [.int .i64, .int .i64, .int .i64, .int .i64]) (.t 10), none⟩,
  .op ⟨3, some 57, .load (.agg [.sl 3, .sl 3, .sl 1, .sl 2]) (.t 8), none⟩,
  .op ⟨4, some 58, .build [.sl 3 Sl.nil, .sl 3 Sl.nil, .sl 1 Sl.nil, .sl 2 Sl.nil, .sl 1 Sl.nil] [(0, 4, (.t 57))], none⟩,
  .op ⟨5, some 59, .build [.sl 3 Sl.nil, .sl 3 Sl.nil, .sl 1 Sl.nil, .sl 2 Sl.nil, .sl 1 Sl.nil, .int .i64 0] [(0, 5, (.t 58))], none⟩,
  .op ⟨6, some 12, .new [.sl 3 Sl.nil, .sl 3 Sl.nil, .sl 1 Sl.nil, .sl 2 Sl.nil, .sl 1 Sl.nil, .int .i64 0], none⟩,
  .op ⟨2, some 56, .call 3 [(.t 54), (.t 55), (.c (.one (.int .i64 64)))], none⟩,
  .op ⟨7, some 11, .mv (.t 56), none⟩,
  .again ⟨3, some 57, .load (.agg [.sl 3, .sl 3, .sl 1, .sl 2]) (.t 8), none⟩,
  .still ⟨6, some 12, .new [.sl 3 Sl.nil, .sl 3 Sl.nil, .sl 1 Sl.nil, .sl 2 Sl.nil, .sl 1 Sl.nil, .int .i64 0], none⟩,
  .op ⟨8, none, .store 6 (.t 12) (.t 59), none⟩])
 (.seq (.seq (.reg [.op ⟨0, some 60, .call 4 [], none⟩,
  .op ⟨1, some 61, .un .not (.t 60), none⟩])
 (.cond (.t 61) (.seq (.reg [.op ⟨0, some 6, .mv (.c (.one (.bool false))), none⟩])
 (.ret)) (.skip)))
 (.seq (.reg [.op ⟨0, some 13, .mv (.c (.one (.int .i64 0))), none⟩])
 (.seq (.seq (.reg [.op ⟨0, some 14, .mv (.c (.one (.int .i64 0))), none⟩])
 (.block 2 (.loop [(13, .one (.int .i64)), (14, .one (.int .i64))] [(.exit 2, []), (.ret, [(6, .one .bool)])] (.seq (.seq (.reg [.op ⟨0, some 62, .mv (.t 14), none⟩,
  .op ⟨1, some 63, .mv (.t 1), none⟩,
  .op ⟨2, some 64, .len (.t 63), none⟩,
  .op ⟨3, some 65, .bin .lss (.t 62) (.t 64), none⟩,
  .op ⟨4, some 66, .mv (.t 65), none⟩,
  .op ⟨5, some 67, .mv (.t 14), some (66, true)⟩,
  .op ⟨6, some 68, .bin .lss (.t 67) (.c (.one (.int .i64 30))), some (66, true)⟩,
  .op ⟨7, some 69, .pick (.t 66) (.t 68) (.c (.one (.bool false))), none⟩])
 (.cond (.t 69) (.skip) (.exit 2)))
 (.seq (.block 3 (.seq (.reg [.op ⟨0, some 72, .mv (.t 1), none⟩,
  .op ⟨1, some 73, .mv (.t 14), none⟩,
  .op ⟨2, some 74, .idxa 7 (.t 72) (.t 73), none⟩,
  .op ⟨3, some 75, .load (.agg [.int .i64, .int .i64, .int .i64, .int .i64, .int .i64, .int .i64, .str]) (.t 74), none⟩,
  .op ⟨4, some 15, .new [.int .i64 0, .int .i64 0, .int .i64 0, .int .i64 0, .int .i64 0, .int .i64 0, .str []], none⟩,
  .op ⟨5, none, .store 7 (.t 15) (.t 75), none⟩])
 (.seq (.reg [.op ⟨0, some 76, .load (.agg [.sl 3, .sl 3, .sl 1, .sl 2, .sl 1, .int .i64]) (.t 12), none⟩,
  .op ⟨1, some 16, .new [.sl 3 Sl.nil, .sl 3 Sl.nil, .sl 1 Sl.nil, .sl 2 Sl.nil, .sl 1 Sl.nil, .int .i64 0], none⟩,
  .op ⟨2, none, .store 6 (.t 16) (.t 76), none⟩,
  .op ⟨3, some 17, .mv (.c (.one (.int .i64 0))), none⟩])
 (.seq (.reg [.op ⟨0, some 18, .mv (.c (.one (.int .i64 0))), none⟩])
 (.seq (.scope [(.normal, [(17, .one (.int .i64)), (18, .one (.int .i64))])] (.seq (.reg [.op ⟨0, some 77, .addr 0 (.t 15), none⟩,
  .op ⟨1, some 78, .addr 0 (.t 77), none⟩,
  .op ⟨2, some 79, .load (.one (.int .i64)) (.t 78), none⟩,
  .op ⟨3, some 80, .bin .eql (.t 79) (.c (.one (.int .i64 1))), none⟩])
 (.cond (.t 80) (.seq (.reg [.op ⟨0, some 82, .load (.agg [.sl 3, .sl 3, .sl 1, .sl 2, .sl 1, .int .i64]) (.t 12), none⟩,
  .op ⟨1, some 83, .addr 0 (.t 15), none⟩,
  .op ⟨2, some 84, .addr 1 (.t 83), none⟩,
  .op ⟨3, some 85, .load (.one (.int .i64)) (.t 84), none⟩,
  .op ⟨4, some 86, .addr 0 (.t 15), none⟩,
  .op ⟨5, some 87, .addr 2 (.t 86), none⟩,
  .op ⟨6, some 88, .load (.one (.int .i64)) (.t 87), none⟩,
  .op ⟨7, some 89, .addr 6 (.t 15), none⟩,
  .op ⟨8, some 90, .load (.one .str) (.t 89), none⟩,
  .op ⟨9, some 91, .load (.agg [.int .i64, .int .i64, .int .i64, .int .i64]) (.t 10), none⟩,
  .op ⟨10, some 92, .call 5 [(.t 82), (.t 85), (.t 88), (.t 90), (.t 91), (.c (.one (.int .i64 64)))], none⟩,
  .op ⟨11, some 81, .mv (.t 92), none⟩,
  .op ⟨12, some 93, .ext (.t 81) 0, none⟩,
  .op ⟨13, some 94, .ext (.t 81) 1, none⟩,
  .op ⟨14, none, .store 6 (.t 16) (.t 93), none⟩,
  .op ⟨15, some 17, .mv (.t 94), none⟩])
 (.reg [.op ⟨0, some 95, .mv (.t 11), none⟩,
  .op ⟨1, some 96, .addr 0 (.t 15), none⟩,
  .op ⟨2, some 97, .addr 1 (.t 96), none⟩,
  .op ⟨3, some 98, .load (.one (.int .i64)) (.t 97), none⟩,
  .op ⟨4, some 99, .addr 0 (.t 15), none⟩,
  .op ⟨5, some 100, .addr 2 (.t 99), none⟩,
  .op ⟨6, some 101, .load (.one (.int .i64)) (.t 100), none⟩,
  .op ⟨7, some 102, .addr 6 (.t 15), none⟩,
  .op ⟨8, some 103, .load (.one .str) (.t 102), none⟩,
  .op ⟨9, some 104, .call 6 [(.t 95), (.t 98), (.t 101), (.t 103)], none⟩,
  .op ⟨10, some 18, .mv (.t 104), none⟩])) (.seq (.reg [.op ⟨0, some 106, .load (.agg [.sl 3, .sl 3, .sl 1, .sl 2, .sl 1, .int .i64]) (.t 12), none⟩,
  .op ⟨1, some 107, .addr 0 (.t 15), none⟩,
  .op ⟨2, some 108, .load (.agg [.int .i64, .int .i64, .int .i64, .int .i64, .int .i64, .int .i64]) (.t 107), none⟩,
  .op ⟨3, some 109, .load (.agg [.int .i64, .int .i64, .int .i64, .int .i64]) (.t 10), none⟩,
  .op ⟨4, some 110, .call 7 [(.t 106), (.t 108), (.t 109)], none⟩,
  .op ⟨5, some 105, .mv (.t 110), none⟩,
  .op ⟨6, some 111, .ext (.t 105) 0, none⟩,
  .op ⟨7, some 112, .ext (.t 105) 1, none⟩,
  .op ⟨8, none, .store 6 (.t 16) (.t 111), none⟩,
  .op ⟨9, some 17, .mv (.t 112), none⟩])
 (.reg [.op ⟨0, some 113, .mv (.t 11), none⟩,
  .op ⟨1, some 114, .addr 0 (.t 15), none⟩,
  .op ⟨2, some 115, .load (.agg [.int .i64, .int .i64, .int .i64, .int .i64, .int .i64, .int .i64]) (.t 114), none⟩,
  .op ⟨3, some 116, .call 8 [(.t 113), (.t 115)], none⟩,
  .op ⟨4, some 18, .mv (.t 116), none⟩])))))
 (.seq (.reg [.op ⟨0, some 117, .load (.agg [.sl 3, .sl 3, .sl 1, .sl 2, .sl 1, .int .i64]) (.t 16), none⟩,
  .op ⟨1, none, .store 6 (.t 12) (.t 117), none⟩])
 (.seq (.scope [(.normal, [(13, .one (.int .i64))])] (.seq (.reg [.op ⟨0, some 118, .mv (.t 17), none⟩,
  .op ⟨1, some 119, .bin .eql (.t 118) (.c (.one (.int .i64 0))), none⟩])
 (.cond (.t 119) (.reg [.op ⟨0, some 120, .mv (.t 13), none⟩,
  .op ⟨1, some 121, .bin .add (.t 120) (.c (.one (.int .i64 1))), none⟩,
  .op ⟨2, some 13, .mv (.t 121), none⟩]) (.skip))))
 (.seq (.reg [.op ⟨0, some 122, .mv (.t 18), none⟩,
  .op ⟨1, some 123, .mv (.t 17), none⟩,
  .op ⟨2, some 124, .bin .neq (.t 122) (.t 123), none⟩,
  .op ⟨3, some 125, .mv (.t 124), none⟩,
  .op ⟨4, some 126, .mv (.t 11), some (125, false)⟩,
  .op ⟨5, some 127, .call 9 [(.t 126)], some (125, false)⟩,
  .op ⟨6, some 128, .len (.t 127), some (125, false)⟩,
  .op ⟨7, some 129, .mv (.t 13), some (125, false)⟩,
  .op ⟨8, some 130, .bin .neq (.t 128) (.t 129), some (125, false)⟩,
  .op ⟨9, some 131, .pick (.t 125) (.c (.one (.bool true))) (.t 130), none⟩,
  .op ⟨10, some 132, .mv (.t 131), none⟩,
  .op ⟨11, some 133, .mv (.t 11), some (132, false)⟩,
  .op ⟨12, some 134, .load (.agg [.sl 3, .sl 3, .sl 1, .sl 2, .sl 1, .int .i64]) (.t 12), some (132, false)⟩,
  .op ⟨13, some 135, .call 10 [(.t 133), (.t 134)], some (132, false)⟩,
  .op ⟨14, some 136, .un .not (.t 135), some (132, false)⟩,
  .op ⟨15, some 137, .pick (.t 132) (.c (.one (.bool true))) (.t 136), none⟩])
 (.cond (.t 137) (.seq (.reg [.op ⟨0, some 6, .mv (.c (.one (.bool false))), none⟩])
 (.ret)) (.skip))))))))))
 (.reg [.op ⟨0, some 70, .mv (.t 14), none⟩,
  .op ⟨1, some 71, .bin .add (.t 70) (.c (.one (.int .i64 1))), none⟩,
  .op ⟨2, some 14, .mv (.t 71), none⟩]))))))
 (.seq (.reg [.op ⟨0, some 138, .mv (.t 7), none⟩,
  .op ⟨2, some 140, .addr 1 (.t 8), none⟩,
  .op ⟨3, some 141, .load (.one (.sl 3)) (.t 140), none⟩,
  .op ⟨4, some 142, .len (.t 141), none⟩,
  .op ⟨1, some 139, .call 11 [(.t 138)], none⟩,
  .op ⟨5, some 143, .bin .eql (.t 139) (.t 142), none⟩,
  .op ⟨6, some 6, .mv (.t 143), none⟩,
  .again ⟨3, some 141, .load (.one (.sl 3)) (.t 140), none⟩])
 (.ret)))))))))⟩
noncomputable def law17_TxnPlays.s1 (x0 : Sl) (r1 : ((Ptr × Unit) × Heap)) (s4 : (Int × Unit)) (H5 : Heap) : Option (((Int × Unit) ⊕ (Unit)) × Heap) :=
 cond (decide (s4.1 < (x0.len : Int))) (
 cond (decide (s4.1 < 30)) (
 (Sl.at 6 x0 s4.1).bind fun (a6 : (Nat × Nat)) =>
 Option.bind (α := (Int × Int × Int × Int × Int × Int × Unit)) (rd H5 (.agg [.int .i64, .int .i64, .int .i64, .int .i64, .int .i64, .int .i64]) a6.1 a6.2) fun (v7 : (Int × Int × Int × Int × Int × Int × Unit)) =>
 (state_State_Apply r1.1.1 (v7.1, v7.2.1, v7.2.2.1, v7.2.2.2.1, v7.2.2.2.2.1, v7.2.2.2.2.2.1, ()) H5).bind fun (r8 : ((Int × Unit) × Heap)) =>
 Option.bind (α := (Sl × Sl × Sl × Sl × Unit)) (rd r8.2 (.agg [.sl 3, .sl 3, .sl 1, .sl 2]) r1.2.length 0) fun (v9 : (Sl × Sl × Sl × Sl × Unit)) =>
 (Sl.at 6 x0 s4.1).bind fun (a10 : (Nat × Nat)) =>
 Option.bind (α := (Int × Int × Int × Int × Int × Int × Unit)) (rd r8.2 (.agg [.int .i64, .int .i64, .int .i64, .int .i64, .int .i64, .int .i64]) a10.1 a10.2) fun (v11 : (Int × Int × Int × Int × Int × Int × Unit)) =>
 (ref08_State_Apply (v9.1, v9.2.1, v9.2.2.1, v9.2.2.2.1, ()) (v11.1, v11.2.1, v11.2.2.1, v11.2.2.2.1, v11.2.2.2.2.1, v11.2.2.2.2.2.1, ()) r8.2).bind fun (r12 : (((Sl × Sl × Sl × Sl × Unit) × Int × Unit) × Heap)) =>
 (wr r12.2 r1.2.length 0 [.sl 3 r12.1.1.1, .sl 3 r12.1.1.2.1, .sl 1 r12.1.1.2.2.1, .sl 2 r12.1.1.2.2.2.1]).bind fun (H13 : Heap) =>
 some (Sum.inl ((IntKind.wrap .i64 (s4.1 + 1)), ()), H13)) (
 some (Sum.inr (()), H5))) (
 some (Sum.inr (()), H5))
noncomputable def law17_TxnPlays.s2 (x1 : Sl) (p14 : ((Unit) × Heap)) (H16 : Heap) (r20 : ((Ptr × Unit) × Heap)) (s24 : (Int × Int × Unit)) (H25 : Heap) : Option (((Int × Int × Unit) ⊕ ((Unit) ⊕ (Bool × Unit))) × Heap) :=
 cond (decide (s24.2.1 < (x1.len : Int))) (
 cond (decide (s24.2.1 < 30)) (
 (Sl.at 7 x1 s24.2.1).bind fun (a26 : (Nat × Nat)) =>
 Option.bind (α := (Int × Int × Int × Int × Int × Int × Bytes × Unit)) (rd H25 (.agg [.int .i64, .int .i64, .int .i64, .int .i64, .int .i64, .int .i64, .str]) a26.1 a26.2) fun (v27 : (Int × Int × Int × Int × Int × Int × Bytes × Unit)) =>
 let H28 : Heap := H25 ++ [Blk.cells [.int .i64 0, .int .i64 0, .int .i64 0, .int .i64 0, .int .i64 0, .int .i64 0, .str []] .exact]
 (wr H28 H25.length 0 [.int .i64 v27.1, .int .i64 v27.2.1, .int .i64 v27.2.2.1, .int .i64 v27.2.2.2.1, .int .i64 v27.2.2.2.2.1, .int .i64 v27.2.2.2.2.2.1, .str v27.2.2.2.2.2.2.1]).bind fun (H29 : Heap) =>
 Option.bind (α := (Sl × Sl × Sl × Sl × Sl × Int × Unit)) (rd H29 (.agg [.sl 3, .sl 3, .sl 1, .sl 2, .sl 1, .int .i64]) H16.length 0) fun (v30 : (Sl × Sl × Sl × Sl × Sl × Int × Unit)) =>
 let H31 : Heap := H29 ++ [Blk.cells [.sl 3 Sl.nil, .sl 3 Sl.nil, .sl 1 Sl.nil, .sl 2 Sl.nil, .sl 1 Sl.nil, .int .i64 0] .exact]
 (wr H31 H29.length 0 [.sl 3 v30.1, .sl 3 v30.2.1, .sl 1 v30.2.2.1, .sl 2 v30.2.2.2.1, .sl 1 v30.2.2.2.2.1, .int .i64 v30.2.2.2.2.2.1]).bind fun (H32 : Heap) =>
 ((rdI .i64 H32 H25.length 0).bind fun (v33 : Int) =>
 cond (decide (v33 = 1)) (
 Option.bind (α := (Sl × Sl × Sl × Sl × Sl × Int × Unit)) (rd H32 (.agg [.sl 3, .sl 3, .sl 1, .sl 2, .sl 1, .int .i64]) H16.length 0) fun (v34 : (Sl × Sl × Sl × Sl × Sl × Int × Unit)) =>
 (rdI .i64 H32 H25.length 1).bind fun (v35 : Int) =>
 (rdI .i64 H32 H25.length 2).bind fun (v36 : Int) =>
 (rdS H32 H25.length 6).bind fun (v37 : Bytes) =>
 Option.bind (α := (Int × Int × Int × Int × Unit)) (rd H32 (.agg [.int .i64, .int .i64, .int .i64, .int .i64]) p14.2.length 0) fun (v38 : (Int × Int × Int × Int × Unit)) =>
 (law17_Plain_Put (v34.1, v34.2.1, v34.2.2.1, v34.2.2.2.1, v34.2.2.2.2.1, v34.2.2.2.2.2.1, ()) v35 v36 v37 (v38.1, v38.2.1, v38.2.2.1, v38.2.2.2.1, ()) 64 H32).bind fun (r39 : (((Sl × Sl × Sl × Sl × Sl × Int × Unit) × Int × Unit) × Heap)) =>
 (wr r39.2 H29.length 0 [.sl 3 r39.1.1.1, .sl 3 r39.1.1.2.1, .sl 1 r39.1.1.2.2.1, .sl 2 r39.1.1.2.2.2.1, .sl 1 r39.1.1.2.2.2.2.1, .int .i64 r39.1.1.2.2.2.2.2.1]).bind fun (H40 : Heap) =>
 (rdI .i64 H40 H25.length 1).bind fun (v41 : Int) =>
 (rdI .i64 H40 H25.length 2).bind fun (v42 : Int) =>
 (rdS H40 H25.length 6).bind fun (v43 : Bytes) =>
 (txn_Txn_Put r20.1.1 v41 v42 v43 H40).bind fun (r44 : ((Int × Unit) × Heap)) =>
 some ((r39.1.2.1, r44.1.1, ()), r44.2)) (
 Option.bind (α := (Sl × Sl × Sl × Sl × Sl × Int × Unit)) (rd H32 (.agg [.sl 3, .sl 3, .sl 1, .sl 2, .sl 1, .int .i64]) H16.length 0) fun (v45 : (Sl × Sl × Sl × Sl × Sl × Int × Unit)) =>
 Option.bind (α := (Int × Int × Int × Int × Int × Int × Unit)) (rd H32 (.agg [.int .i64, .int .i64, .int .i64, .int .i64, .int .i64, .int .i64]) H25.length 0) fun (v46 : (Int × Int × Int × Int × Int × Int × Unit)) =>
 Option.bind (α := (Int × Int × Int × Int × Unit)) (rd H32 (.agg [.int .i64, .int .i64, .int .i64, .int .i64]) p14.2.length 0) fun (v47 : (Int × Int × Int × Int × Unit)) =>
 (law17_Plain_Do (v45.1, v45.2.1, v45.2.2.1, v45.2.2.2.1, v45.2.2.2.2.1, v45.2.2.2.2.2.1, ()) (v46.1, v46.2.1, v46.2.2.1, v46.2.2.2.1, v46.2.2.2.2.1, v46.2.2.2.2.2.1, ()) (v47.1, v47.2.1, v47.2.2.1, v47.2.2.2.1, ()) H32).bind fun (r48 : (((Sl × Sl × Sl × Sl × Sl × Int × Unit) × Int × Unit) × Heap)) =>
 (wr r48.2 H29.length 0 [.sl 3 r48.1.1.1, .sl 3 r48.1.1.2.1, .sl 1 r48.1.1.2.2.1, .sl 2 r48.1.1.2.2.2.1, .sl 1 r48.1.1.2.2.2.2.1, .int .i64 r48.1.1.2.2.2.2.2.1]).bind fun (H49 : Heap) =>
 Option.bind (α := (Int × Int × Int × Int × Int × Int × Unit)) (rd H49 (.agg [.int .i64, .int .i64, .int .i64, .int .i64, .int .i64, .int .i64]) H25.length 0) fun (v50 : (Int × Int × Int × Int × Int × Int × Unit)) =>
 (txn_Txn_Do r20.1.1 (v50.1, v50.2.1, v50.2.2.1, v50.2.2.2.1, v50.2.2.2.2.1, v50.2.2.2.2.2.1, ()) H49).bind fun (r51 : ((Int × Unit) × Heap)) =>
 some ((r48.1.2.1, r51.1.1, ()), r51.2)) : Option ((Int × Int × Unit) × Heap)).bind fun (p52 : (Int × Int × Unit) × Heap) =>
 Option.bind (α := (Sl × Sl × Sl × Sl × Sl × Int × Unit)) (rd p52.2 (.agg [.sl 3, .sl 3, .sl 1, .sl 2, .sl 1, .int .i64]) H29.length 0) fun (v53 : (Sl × Sl × Sl × Sl × Sl × Int × Unit)) =>
 (wr p52.2 H16.length 0 [.sl 3 v53.1, .sl 3 v53.2.1, .sl 1 v53.2.2.1, .sl 2 v53.2.2.2.1, .sl 1 v53.2.2.2.2.1, .int .i64 v53.2.2.2.2.2.1]).bind fun (H54 : Heap) =>
 (cond (decide (p52.1.1 = 0)) (
 some (((IntKind.wrap .i64 (s24.1 + 1)), ()), H54)) (
 some ((s24.1, ()), H54)) : Option ((Int × Unit) × Heap)).bind fun (p55 : (Int × Unit) × Heap) =>
 cond (!decide (p52.1.2.1 = p52.1.1)) (
 some (Sum.inr (Sum.inr (false, ())), p55.2)) (
 (txn_Txn_Changes r20.1.1 p55.2).bind fun (r56 : ((Sl × Unit) × Heap)) =>
 cond (!decide ((r56.1.1.len : Int) = p55.1.1)) (
 some (Sum.inr (Sum.inr (false, ())), r56.2)) (
 Option.bind (α := (Sl × Sl × Sl × Sl × Sl × Int × Unit)) (rd r56.2 (.agg [.sl 3, .sl 3, .sl 1, .sl 2, .sl 1, .int .i64]) H16.length 0) fun (v57 : (Sl × Sl × Sl × Sl × Sl × Int × Unit)) =>
 (law17_seen r20.1.1 (v57.1, v57.2.1, v57.2.2.1, v57.2.2.2.1, v57.2.2.2.2.1, v57.2.2.2.2.2.1, ()) r56.2).bind fun (r58 : ((Bool × Unit) × Heap)) =>
 cond (!r58.1.1) (
 some (Sum.inr (Sum.inr (false, ())), r58.2)) (
 some (Sum.inl (p55.1.1, (IntKind.wrap .i64 (s24.2.1 + 1)), ()), r58.2))))) (
 some (Sum.inr (Sum.inl (())), H25))) (
 some (Sum.inr (Sum.inl (())), H25))
noncomputable def law17_TxnPlays (x0 : Sl) (x1 : Sl) (x2 : Int) (H : Heap) : Option ((Bool × Unit) × Heap) :=
 (state_New H).bind fun (r1 : ((Ptr × Unit) × Heap)) =>
 let H2 : Heap := r1.2 ++ [Blk.cells [.sl 3 Sl.nil, .sl 3 Sl.nil, .sl 1 Sl.nil, .sl 2 Sl.nil] .exact]
 (wr H2 r1.2.length 0 [.sl 3 (⟨none, 0, 0⟩), .sl 3 (⟨none, 0, 0⟩), .sl 1 (⟨none, 0, 0⟩), .sl 2 (⟨none, 0, 0⟩)]).bind fun (H3 : Heap) =>
 (loopW (law17_TxnPlays.s1 x0 r1) (0, ()) H3).bind fun (p14 : (Unit) × Heap) =>
 let H15 : Heap := p14.2 ++ [Blk.cells [.int .i64 0, .int .i64 0, .int .i64 0, .int .i64 0] .exact]
 (wr H15 p14.2.length 0 [.int .i64 (IntKind.wrap .i64 (1 + (bitsI .and .i64 x2 15))), .int .i64 (IntKind.wrap .i64 (2 + (bitsI .and .i64 (IntKind.wrap .i64 (2 * x2)) 31))), .int .i64 0, .int .i64 0]).bind fun (H16 : Heap) =>
 Option.bind (α := (Int × Int × Int × Int × Unit)) (rd H16 (.agg [.int .i64, .int .i64, .int .i64, .int .i64]) p14.2.length 0) fun (v17 : (Int × Int × Int × Int × Unit)) =>
 Option.bind (α := (Sl × Sl × Sl × Sl × Unit)) (rd H16 (.agg [.sl 3, .sl 3, .sl 1, .sl 2]) r1.2.length 0) fun (v18 : (Sl × Sl × Sl × Sl × Unit)) =>
 let H19 : Heap := H16 ++ [Blk.cells [.sl 3 Sl.nil, .sl 3 Sl.nil, .sl 1 Sl.nil, .sl 2 Sl.nil, .sl 1 Sl.nil, .int .i64 0] .exact]
 (txn_New r1.1.1 (v17.1, v17.2.1, v17.2.2.1, v17.2.2.2.1, ()) 64 H19).bind fun (r20 : ((Ptr × Unit) × Heap)) =>
 Option.bind (α := (Sl × Sl × Sl × Sl × Unit)) (rd r20.2 (.agg [.sl 3, .sl 3, .sl 1, .sl 2]) r1.2.length 0) fun (v21 : (Sl × Sl × Sl × Sl × Unit)) =>
 if V.w (.agg [.sl 3 v21.1, .sl 3 v21.2.1, .sl 1 v21.2.2.1, .sl 2 v21.2.2.2.1]) = V.w (.agg [.sl 3 v18.1, .sl 3 v18.2.1, .sl 1 v18.2.2.1, .sl 2 v18.2.2.2.1]) then
 if r20.2[H16.length]? = some (Blk.cells [.sl 3 Sl.nil, .sl 3 Sl.nil, .sl 1 Sl.nil, .sl 2 Sl.nil, .sl 1 Sl.nil, .int .i64 0] .exact) then
 (wr r20.2 H16.length 0 [.sl 3 v18.1, .sl 3 v18.2.1, .sl 1 v18.2.2.1, .sl 2 v18.2.2.2.1, .sl 1 (⟨none, 0, 0⟩), .int .i64 0]).bind fun (H22 : Heap) =>
 (law17_awake).bind fun (r23 : (Bool × Unit)) =>
 cond (!r23.1) (
 some ((false, ()), H22)) (
 (loopW (law17_TxnPlays.s2 x1 p14 H16 r20) (0, 0, ()) H22).bind fun (p59 : ((Unit) ⊕ (Bool × Unit)) × Heap) =>
 Sum.elim (fun (y60 : (Unit)) =>
 (rdSl 3 p59.2 r1.2.length 1).bind fun (v61 : Sl) =>
 (state_State_Keys r1.1.1 p59.2).bind fun (r62 : ((Int × Unit) × Heap)) =>
 (rdSl 3 r62.2 r1.2.length 1).bind fun (v63 : Sl) =>
 if V.w (.one (.sl 3 v63)) = V.w (.one (.sl 3 v61)) then
 some (((decide (r62.1.1 = (v61.len : Int))), ()), r62.2)
 else none) (fun (z64 : (Bool × Unit)) =>
 some ((z64.1, ()), p59.2)) p59.1)
 else none
 else none
noncomputable def law17_TxnPlays.c : Callee := .full [.one (.sl 6), .one (.sl 7), .one (.int .i64)] [.one .bool] (fun x H => law17_TxnPlays x.1 x.2.1 x.2.2.1 H)
noncomputable def law17_TxnPlays.calls : Nat → Option Callee
  | 0 => some state_New.c
  | 1 => some state_State_Apply.c
  | 2 => some ref08_State_Apply.c
  | 3 => some txn_New.c
  | 4 => some law17_awake.c
  | 5 => some law17_Plain_Put.c
  | 6 => some txn_Txn_Put.c
  | 7 => some law17_Plain_Do.c
  | 8 => some txn_Txn_Do.c
  | 9 => some txn_Txn_Changes.c
  | 10 => some law17_seen.c
  | 11 => some state_State_Keys.c
  | _ => none
theorem law17_TxnPlays.eq : evFull law17_TxnPlays.calls law17_TxnPlays.af = (fun x H => law17_TxnPlays x.1 x.2.1 x.2.2.1 H) := by kernel_rfl

/-! ### tinderbox/tinderboxlaw17.TxnLists -/
def law17_TxnLists.af : AFun := ⟨[.one (.sl 7)], [.one .bool], [.t 2],
 .seq (.reg [.op ⟨0, some 2, .mv (.c (.one (.bool false))), none⟩])
 (.seq (.reg [.op ⟨0, some 9, .call 0 [], none⟩,
  .op ⟨1, some 10, .build [.int .i64 0, .int .i64 0, .int .i64 0, .int .i64 0] [(0, 1, (.c (.one (.int .i64 9)))), (1, 1, (.c (.one (.int .i64 18))))], none⟩,
  .op ⟨2, some 11, .call 1 [(.t 9), (.t 10), (.c (.one (.int .i64 64)))], none⟩,
  .op ⟨3, some 12, .bslice 7 0 [] [], none⟩,
  .op ⟨4, some 3, .mv (.t 11), none⟩,
  .op ⟨5, some 4, .mv (.t 12), none⟩])
 (.seq (.seq (.reg [.op ⟨0, some 5, .mv (.c (.one (.int .i64 0))), none⟩])
 (.block 0 (.loop [(4, .one (.sl 7)), (5, .one (.int .i64))] [(.exit 0, [(4, .one (.sl 7))])] (.seq (.seq (.reg [.op ⟨0, some 13, .mv (.t 5), none⟩,
  .op ⟨1, some 14, .mv (.t 0), none⟩,
  .op ⟨2, some 15, .len (.t 14), none⟩,
  .op ⟨3, some 16, .bin .lss (.t 13) (.t 15), none⟩,
  .op ⟨4, some 17, .mv (.t 16), none⟩,
  .op ⟨5, some 18, .mv (.t 5), some (17, true)⟩,
  .op ⟨6, some 19, .bin .lss (.t 18) (.c (.one (.int .i64 30))), some (17, true)⟩,
  .op ⟨7, some 20, .pick (.t 17) (.t 19) (.c (.one (.bool false))), none⟩])
 (.cond (.t 20) (.skip) (.exit 0)))
 (.seq (.block 1 (.seq (.reg [.op ⟨0, some 23, .mv (.t 0), none⟩,
  .op ⟨1, some 24, .mv (.t 5), none⟩,
  .op ⟨2, some 25, .idxa 7 (.t 23) (.t 24), none⟩,
  .op ⟨3, some 26, .load (.agg [.int .i64, .int .i64, .int .i64, .int .i64, .int .i64, .int .i64, .str]) (.t 25), none⟩,
  .op ⟨4, some 6, .new [.int .i64 0, .int .i64 0, .int .i64 0, .int .i64 0, .int .i64 0, .int .i64 0, .str []], none⟩,
  .op ⟨5, none, .store 7 (.t 6) (.t 26), none⟩])
 (.seq (.reg [.op ⟨0, some 27, .addr 0 (.t 6), none⟩,
  .op ⟨1, some 28, .addr 0 (.t 27), none⟩,
  .op ⟨2, some 29, .load (.one (.int .i64)) (.t 28), none⟩,
  .op ⟨3, some 30, .bin .eql (.t 29) (.c (.one (.int .i64 1))), none⟩])
 (.cond (.t 30) (.seq (.reg [.op ⟨0, some 31, .addr 0 (.t 6), none⟩,
  .op ⟨1, some 32, .addr 1 (.t 31), none⟩,
  .op ⟨2, some 33, .load (.one (.int .i64)) (.t 32), none⟩,
  .op ⟨3, some 34, .addr 0 (.t 6), none⟩,
  .op ⟨4, some 35, .addr 2 (.t 34), none⟩,
  .op ⟨5, some 36, .load (.one (.int .i64)) (.t 35), none⟩,
  .op ⟨6, some 37, .build [.int .i64 0, .int .i64 0, .int .i64 0, .int .i64 0, .int .i64 0, .int .i64 0] [(0, 1, (.c (.one (.int .i64 1)))), (1, 1, (.t 33)), (2, 1, (.t 36))], none⟩,
  .op ⟨7, some 38, .addr 0 (.t 6), none⟩,
  .op ⟨8, none, .store 6 (.t 38) (.t 37), none⟩])
 (.seq (.reg [.op ⟨0, some 39, .mv (.t 3), none⟩,
  .op ⟨1, some 40, .addr 0 (.t 6), none⟩,
  .op ⟨2, some 41, .addr 1 (.t 40), none⟩,
  .op ⟨3, some 42, .load (.one (.int .i64)) (.t 41), none⟩,
  .op ⟨4, some 43, .addr 0 (.t 6), none⟩,
  .op ⟨5, some 44, .addr 2 (.t 43), none⟩,
  .op ⟨6, some 45, .load (.one (.int .i64)) (.t 44), none⟩,
  .op ⟨7, some 46, .addr 6 (.t 6), none⟩,
  .op ⟨8, some 47, .load (.one .str) (.t 46), none⟩,
  .op ⟨9, some 48, .call 2 [(.t 39), (.t 42), (.t 45), (.t 47)], none⟩,
  .op ⟨10, some 49, .bin .eql (.t 48) (.c (.one (.int .i64 0))), none⟩])
 (.cond (.t 49) (.reg [.op ⟨0, some 50, .mv (.t 4), none⟩,
  .op ⟨1, some 51, .load (.agg [.int .i64, .int .i64, .int .i64, .int .i64, .int .i64, .int .i64, .str]) (.t 6), none⟩,
  .op ⟨2, some 52, .bslice 7 1 [.int .i64 0, .int .i64 0, .int .i64 0, .int .i64 0, .int .i64 0, .int .i64 0, .str []] [(0, 7, (.t 51))], none⟩,
  .op ⟨3, some 53, .app 7 64 (.t 50) (.t 52), none⟩,
  .op ⟨4, some 4, .mv (.t 53), none⟩]) (.skip)))) (.seq (.reg [.op ⟨0, some 54, .addr 6 (.t 6), none⟩,
  .op ⟨1, none, .store 1 (.t 54) (.c (.one (.str []))), none⟩])
 (.seq (.reg [.op ⟨0, some 55, .mv (.t 3), none⟩,
  .op ⟨1, some 56, .addr 0 (.t 6), none⟩,
  .op ⟨2, some 57, .load (.agg [.int .i64, .int .i64, .int .i64, .int .i64, .int .i64, .int .i64]) (.t 56), none⟩,
  .op ⟨3, some 58, .call 3 [(.t 55), (.t 57)], none⟩,
  .op ⟨4, some 59, .bin .eql (.t 58) (.c (.one (.int .i64 0))), none⟩])
 (.cond (.t 59) (.reg [.op ⟨0, some 60, .mv (.t 4), none⟩,
  .op ⟨1, some 61, .load (.agg [.int .i64, .int .i64, .int .i64, .int .i64, .int .i64, .int .i64, .str]) (.t 6), none⟩,
  .op ⟨2, some 62, .bslice 7 1 [.int .i64 0, .int .i64 0, .int .i64 0, .int .i64 0, .int .i64 0, .int .i64 0, .str []] [(0, 7, (.t 61))], none⟩,
  .op ⟨3, some 63, .app 7 64 (.t 60) (.t 62), none⟩,
  .op ⟨4, some 4, .mv (.t 63), none⟩]) (.skip))))))))
 (.reg [.op ⟨0, some 21, .mv (.t 5), none⟩,
  .op ⟨1, some 22, .bin .add (.t 21) (.c (.one (.int .i64 1))), none⟩,
  .op ⟨2, some 5, .mv (.t 22), none⟩]))))))
 (.seq (.reg [.op ⟨0, some 64, .mv (.t 3), none⟩,
  .op ⟨1, some 65, .call 4 [(.t 64)], none⟩,
  .op ⟨2, some 7, .mv (.t 65), none⟩])
 (.seq (.seq (.reg [.op ⟨0, some 66, .call 5 [], none⟩,
  .op ⟨1, some 67, .un .not (.t 66), none⟩,
  .op ⟨2, some 68, .mv (.t 67), none⟩,
  .op ⟨3, some 69, .mv (.t 7), some (68, false)⟩,
  .op ⟨4, some 70, .len (.t 69), some (68, false)⟩,
  .op ⟨5, some 71, .mv (.t 4), some (68, false)⟩,
  .op ⟨6, some 72, .len (.t 71), some (68, false)⟩,
  .op ⟨7, some 73, .bin .neq (.t 70) (.t 72), some (68, false)⟩,
  .op ⟨8, some 74, .pick (.t 68) (.c (.one (.bool true))) (.t 73), none⟩,
  .op ⟨9, some 75, .mv (.t 74), none⟩,
  .op ⟨10, some 76, .mv (.t 7), some (75, false)⟩,
  .op ⟨11, some 77, .len (.t 76), some (75, false)⟩,
  .op ⟨12, some 78, .bin .gtr (.t 77) (.c (.one (.int .i64 8))), some (75, false)⟩,
  .op ⟨13, some 79, .pick (.t 75) (.c (.one (.bool true))) (.t 78), none⟩])
 (.cond (.t 79) (.seq (.reg [.op ⟨0, some 2, .mv (.c (.one (.bool false))), none⟩])
 (.ret)) (.skip)))
 (.seq (.seq (.reg [.op ⟨0, some 8, .mv (.c (.one (.int .i64 0))), none⟩])
 (.block 2 (.loop [(8, .one (.int .i64))] [(.exit 2, []), (.ret, [(2, .one .bool)])] (.seq (.seq (.reg [.op ⟨0, some 80, .mv (.t 8), none⟩,
  .op ⟨1, some 81, .mv (.t 4), none⟩,
  .op ⟨2, some 82, .len (.t 81), none⟩,
  .op ⟨3, some 83, .bin .lss (.t 80) (.t 82), none⟩])
 (.cond (.t 83) (.skip) (.exit 2)))
 (.seq (.block 3 (.seq (.reg [.op ⟨0, some 86, .mv (.t 7), none⟩,
  .op ⟨1, some 87, .mv (.t 8), none⟩,
  .op ⟨2, some 88, .idxa 7 (.t 86) (.t 87), none⟩,
  .op ⟨3, some 89, .load (.agg [.int .i64, .int .i64, .int .i64, .int .i64, .int .i64, .int .i64, .str]) (.t 88), none⟩,
  .op ⟨4, some 90, .mv (.t 4), none⟩,
  .op ⟨5, some 91, .mv (.t 8), none⟩,
  .op ⟨6, some 92, .idxa 7 (.t 90) (.t 91), none⟩,
  .op ⟨7, some 93, .load (.agg [.int .i64, .int .i64, .int .i64, .int .i64, .int .i64, .int .i64, .str]) (.t 92), none⟩,
  .op ⟨8, some 94, .eqagg true [.int .i64, .int .i64, .int .i64, .int .i64, .int .i64, .int .i64, .str] (.t 89) (.t 93), none⟩])
 (.cond (.t 94) (.seq (.reg [.op ⟨0, some 2, .mv (.c (.one (.bool false))), none⟩])
 (.ret)) (.skip))))
 (.reg [.op ⟨0, some 84, .mv (.t 8), none⟩,
  .op ⟨1, some 85, .bin .add (.t 84) (.c (.one (.int .i64 1))), none⟩,
  .op ⟨2, some 8, .mv (.t 85), none⟩]))))))
 (.seq (.reg [.op ⟨0, some 2, .mv (.c (.one (.bool true))), none⟩])
 (.ret)))))))⟩
noncomputable def law17_TxnLists.s1 (x0 : Sl) (r2 : ((Ptr × Unit) × Heap)) (s4 : (Sl × Int × Unit)) (H5 : Heap) : Option (((Sl × Int × Unit) ⊕ (Sl × Unit)) × Heap) :=
 cond (decide (s4.2.1 < (x0.len : Int))) (
 cond (decide (s4.2.1 < 30)) (
 (Sl.at 7 x0 s4.2.1).bind fun (a6 : (Nat × Nat)) =>
 Option.bind (α := (Int × Int × Int × Int × Int × Int × Bytes × Unit)) (rd H5 (.agg [.int .i64, .int .i64, .int .i64, .int .i64, .int .i64, .int .i64, .str]) a6.1 a6.2) fun (v7 : (Int × Int × Int × Int × Int × Int × Bytes × Unit)) =>
 let H8 : Heap := H5 ++ [Blk.cells [.int .i64 0, .int .i64 0, .int .i64 0, .int .i64 0, .int .i64 0, .int .i64 0, .str []] .exact]
 (wr H8 H5.length 0 [.int .i64 v7.1, .int .i64 v7.2.1, .int .i64 v7.2.2.1, .int .i64 v7.2.2.2.1, .int .i64 v7.2.2.2.2.1, .int .i64 v7.2.2.2.2.2.1, .str v7.2.2.2.2.2.2.1]).bind fun (H9 : Heap) =>
 (rdI .i64 H9 H5.length 0).bind fun (v10 : Int) =>
 cond (decide (v10 = 1)) (
 (rdI .i64 H9 H5.length 1).bind fun (v11 : Int) =>
 (rdI .i64 H9 H5.length 2).bind fun (v12 : Int) =>
 (wr H9 H5.length 0 [.int .i64 1, .int .i64 v11, .int .i64 v12, .int .i64 0, .int .i64 0, .int .i64 0]).bind fun (H13 : Heap) =>
 (rdI .i64 H13 H5.length 1).bind fun (v14 : Int) =>
 (rdI .i64 H13 H5.length 2).bind fun (v15 : Int) =>
 (rdS H13 H5.length 6).bind fun (v16 : Bytes) =>
 (txn_Txn_Put r2.1.1 v14 v15 v16 H13).bind fun (r17 : ((Int × Unit) × Heap)) =>
 cond (decide (r17.1.1 = 0)) (
 Option.bind (α := (Int × Int × Int × Int × Int × Int × Bytes × Unit)) (rd r17.2 (.agg [.int .i64, .int .i64, .int .i64, .int .i64, .int .i64, .int .i64, .str]) H5.length 0) fun (v18 : (Int × Int × Int × Int × Int × Int × Bytes × Unit)) =>
 let H19 : Heap := r17.2 ++ [Blk.cells [.int .i64 v18.1, .int .i64 v18.2.1, .int .i64 v18.2.2.1, .int .i64 v18.2.2.2.1, .int .i64 v18.2.2.2.2.1, .int .i64 v18.2.2.2.2.2.1, .str v18.2.2.2.2.2.2.1] .exact]
 (slRow H19 7 (⟨some (r17.2.length, 0), 1, 1⟩)).bind fun (cs20 : (List C)) =>
 (appS H19 7 64 s4.1 1 cs20).bind fun (p21 : (Sl × Heap)) =>
 some (Sum.inl (p21.1, (IntKind.wrap .i64 (s4.2.1 + 1)), ()), p21.2)) (
 some (Sum.inl (s4.1, (IntKind.wrap .i64 (s4.2.1 + 1)), ()), r17.2))) (
 (wr H9 H5.length 6 [.str []]).bind fun (H22 : Heap) =>
 Option.bind (α := (Int × Int × Int × Int × Int × Int × Unit)) (rd H22 (.agg [.int .i64, .int .i64, .int .i64, .int .i64, .int .i64, .int .i64]) H5.length 0) fun (v23 : (Int × Int × Int × Int × Int × Int × Unit)) =>
 (txn_Txn_Do r2.1.1 (v23.1, v23.2.1, v23.2.2.1, v23.2.2.2.1, v23.2.2.2.2.1, v23.2.2.2.2.2.1, ()) H22).bind fun (r24 : ((Int × Unit) × Heap)) =>
 cond (decide (r24.1.1 = 0)) (
 Option.bind (α := (Int × Int × Int × Int × Int × Int × Bytes × Unit)) (rd r24.2 (.agg [.int .i64, .int .i64, .int .i64, .int .i64, .int .i64, .int .i64, .str]) H5.length 0) fun (v25 : (Int × Int × Int × Int × Int × Int × Bytes × Unit)) =>
 let H26 : Heap := r24.2 ++ [Blk.cells [.int .i64 v25.1, .int .i64 v25.2.1, .int .i64 v25.2.2.1, .int .i64 v25.2.2.2.1, .int .i64 v25.2.2.2.2.1, .int .i64 v25.2.2.2.2.2.1, .str v25.2.2.2.2.2.2.1] .exact]
 (slRow H26 7 (⟨some (r24.2.length, 0), 1, 1⟩)).bind fun (cs27 : (List C)) =>
 (appS H26 7 64 s4.1 1 cs27).bind fun (p28 : (Sl × Heap)) =>
 some (Sum.inl (p28.1, (IntKind.wrap .i64 (s4.2.1 + 1)), ()), p28.2)) (
 some (Sum.inl (s4.1, (IntKind.wrap .i64 (s4.2.1 + 1)), ()), r24.2)))) (
 some (Sum.inr (s4.1, ()), H5))) (
 some (Sum.inr (s4.1, ()), H5))
noncomputable def law17_TxnLists.s2 (p29 : ((Sl × Unit) × Heap)) (r30 : ((Sl × Unit) × Heap)) (s32 : (Int × Unit)) (H33 : Heap) : Option (((Int × Unit) ⊕ ((Unit) ⊕ (Bool × Unit))) × Heap) :=
 cond (decide (s32.1 < (p29.1.1.len : Int))) (
 (Sl.at 7 r30.1.1 s32.1).bind fun (a34 : (Nat × Nat)) =>
 Option.bind (α := (Int × Int × Int × Int × Int × Int × Bytes × Unit)) (rd H33 (.agg [.int .i64, .int .i64, .int .i64, .int .i64, .int .i64, .int .i64, .str]) a34.1 a34.2) fun (v35 : (Int × Int × Int × Int × Int × Int × Bytes × Unit)) =>
 (Sl.at 7 p29.1.1 s32.1).bind fun (a36 : (Nat × Nat)) =>
 Option.bind (α := (Int × Int × Int × Int × Int × Int × Bytes × Unit)) (rd H33 (.agg [.int .i64, .int .i64, .int .i64, .int .i64, .int .i64, .int .i64, .str]) a36.1 a36.2) fun (v37 : (Int × Int × Int × Int × Int × Int × Bytes × Unit)) =>
 cond (!((decide (v35.1 = v37.1)) && ((decide (v35.2.1 = v37.2.1)) && ((decide (v35.2.2.1 = v37.2.2.1)) && ((decide (v35.2.2.2.1 = v37.2.2.2.1)) && ((decide (v35.2.2.2.2.1 = v37.2.2.2.2.1)) && ((decide (v35.2.2.2.2.2.1 = v37.2.2.2.2.2.1)) && ((decide ((v35.2.2.2.2.2.2.1 : Bytes) = v37.2.2.2.2.2.2.1)) && true)))))))) (
 some (Sum.inr (Sum.inr (false, ())), H33)) (
 some (Sum.inl ((IntKind.wrap .i64 (s32.1 + 1)), ()), H33))) (
 some (Sum.inr (Sum.inl (())), H33))
noncomputable def law17_TxnLists (x0 : Sl) (H : Heap) : Option ((Bool × Unit) × Heap) :=
 (state_New H).bind fun (r1 : ((Ptr × Unit) × Heap)) =>
 (txn_New r1.1.1 (9, 18, 0, 0, ()) 64 r1.2).bind fun (r2 : ((Ptr × Unit) × Heap)) =>
 let H3 : Heap := r2.2 ++ [Blk.cells [] .exact]
 (loopW (law17_TxnLists.s1 x0 r2) (⟨some (r2.2.length, 0), 0, 0⟩, 0, ()) H3).bind fun (p29 : (Sl × Unit) × Heap) =>
 (txn_Txn_Changes r2.1.1 p29.2).bind fun (r30 : ((Sl × Unit) × Heap)) =>
 (law17_awake).bind fun (r31 : (Bool × Unit)) =>
 cond (!r31.1) (
 some ((false, ()), r30.2)) (
 cond (!decide ((r30.1.1.len : Int) = (p29.1.1.len : Int))) (
 some ((false, ()), r30.2)) (
 cond (decide (8 < (r30.1.1.len : Int))) (
 some ((false, ()), r30.2)) (
 (loopW (law17_TxnLists.s2 p29 r30) (0, ()) r30.2).bind fun (p38 : ((Unit) ⊕ (Bool × Unit)) × Heap) =>
 Sum.elim (fun (y39 : (Unit)) =>
 some ((true, ()), p38.2)) (fun (z40 : (Bool × Unit)) =>
 some ((z40.1, ()), p38.2)) p38.1)))
noncomputable def law17_TxnLists.c : Callee := .full [.one (.sl 7)] [.one .bool] (fun x H => law17_TxnLists x.1 H)
noncomputable def law17_TxnLists.calls : Nat → Option Callee
  | 0 => some state_New.c
  | 1 => some txn_New.c
  | 2 => some txn_Txn_Put.c
  | 3 => some txn_Txn_Do.c
  | 4 => some txn_Txn_Changes.c
  | 5 => some law17_awake.c
  | _ => none
theorem law17_TxnLists.eq : evFull law17_TxnLists.calls law17_TxnLists.af = (fun x H => law17_TxnLists x.1 H) := by kernel_rfl

/-! ### tinderbox/tinderboxlaw17.TxnNone -/
def law17_TxnNone.af : AFun := ⟨[.one (.int .i64), .one (.int .i64), .one .str], [.one .bool], [.t 6],
 .seq (.reg [.op ⟨0, some 6, .mv (.c (.one (.bool false))), none⟩])
 (.seq (.reg [.op ⟨0, some 7, .mv (.c (.one (.ptr none))), none⟩])
 (.seq (.reg [.op ⟨0, some 12, .mv (.t 7), none⟩,
  .op ⟨1, some 13, .mv (.t 0), none⟩,
  .op ⟨2, some 14, .mv (.t 1), none⟩,
  .op ⟨3, some 15, .call 0 [(.t 12), (.t 13), (.t 14)], none⟩,
  .op ⟨4, some 11, .mv (.t 15), none⟩,
  .op ⟨5, some 16, .ext (.t 11) 0, none⟩,
  .op ⟨6, some 17, .ext (.t 11) 1, none⟩,
  .op ⟨7, some 18, .ext (.t 11) 2, none⟩,
  .op ⟨8, some 8, .mv (.t 16), none⟩,
  .op ⟨9, some 9, .mv (.t 17), none⟩,
  .op ⟨10, some 10, .mv (.t 18), none⟩])
 (.seq (.reg [.op ⟨0, some 19, .call 1 [], none⟩,
  .op ⟨1, some 20, .mv (.t 19), none⟩,
  .op ⟨2, some 21, .mv (.t 7), some (20, true)⟩,
  .op ⟨3, some 22, .mv (.t 0), some (20, true)⟩,
  .op ⟨4, some 23, .mv (.t 1), some (20, true)⟩,
  .op ⟨5, some 24, .mv (.t 2), some (20, true)⟩,
  .op ⟨6, some 25, .mv (.t 2), some (20, true)⟩,
  .op ⟨7, some 26, .lens (.t 25), some (20, true)⟩,
  .op ⟨8, some 27, .min [(.t 26), (.c (.one (.int .i64 50)))], some (20, true)⟩,
  .op ⟨9, some 28, .slstr (.t 24) none (some (.t 27)), some (20, true)⟩,
  .op ⟨10, some 29, .call 2 [(.t 21), (.t 22), (.t 23), (.t 28)], some (20, true)⟩,
  .op ⟨11, some 30, .bin .eql (.t 29) (.c (.one (.int .i64 1))), some (20, true)⟩,
  .op ⟨12, some 31, .pick (.t 20) (.t 30) (.c (.one (.bool false))), none⟩,
  .op ⟨13, some 32, .mv (.t 31), none⟩,
  .op ⟨14, some 33, .mv (.t 7), some (32, true)⟩,
  .op ⟨15, some 34, .build [.int .i64 0, .int .i64 0, .int .i64 0, .int .i64 0, .int .i64 0, .int .i64 0] [(0, 1, (.c (.one (.int .i64 4)))), (1, 1, (.c (.one (.int .i64 1)))), (5, 1, (.c (.one (.int .i64 1))))], some (32, true)⟩,
  .op ⟨16, some 35, .call 3 [(.t 33), (.t 34)], some (32, true)⟩,
  .op ⟨17, some 36, .bin .eql (.t 35) (.c (.one (.int .i64 1))), some (32, true)⟩,
  .op ⟨18, some 37, .pick (.t 32) (.t 36) (.c (.one (.bool false))), none⟩,
  .op ⟨19, some 38, .mv (.t 37), none⟩,
  .op ⟨20, some 39, .mv (.t 10), some (38, true)⟩,
  .op ⟨21, some 40, .un .not (.t 39), some (38, true)⟩,
  .op ⟨22, some 41, .pick (.t 38) (.t 40) (.c (.one (.bool false))), none⟩,
  .op ⟨23, some 42, .mv (.t 41), none⟩,
  .op ⟨24, some 43, .mv (.t 7), some (42, true)⟩,
  .op ⟨25, some 44, .call 4 [(.t 43)], some (42, true)⟩,
  .op ⟨26, some 45, .len (.t 44), some (42, true)⟩,
  .op ⟨27, some 46, .bin .eql (.t 45) (.c (.one (.int .i64 0))), some (42, true)⟩,
  .op ⟨28, some 47, .pick (.t 42) (.t 46) (.c (.one (.bool false))), none⟩,
  .op ⟨29, some 48, .mv (.t 47), none⟩,
  .op ⟨30, some 49, .mv (.t 7), some (48, true)⟩,
  .op ⟨31, some 50, .call 5 [(.t 49)], some (48, true)⟩,
  .op ⟨32, some 51, .len (.t 50), some (48, true)⟩,
  .op ⟨33, some 52, .bin .eql (.t 51) (.c (.one (.int .i64 0))), some (48, true)⟩,
  .op ⟨34, some 53, .pick (.t 48) (.t 52) (.c (.one (.bool false))), none⟩,
  .op ⟨35, some 6, .mv (.t 53), none⟩])
 (.ret))))⟩
noncomputable def law17_TxnNone.on (x0 : Int) (x1 : Int) (x2 : Bytes) (H : Heap) : Option (Bool × Unit) :=
 (txn_Txn_Get none x0 x1 H).bind fun (r1 : ((Bytes × Int × Bool × Unit) × Heap)) =>
 (law17_awake).bind fun (r2 : (Bool × Unit)) =>
 cond r2.1 (
 (subS x2 0 (if 50 < (List.length (x2 : Bytes) : Int) then 50 else (List.length (x2 : Bytes) : Int))).bind fun (s3 : Bytes) =>
 (txn_Txn_Put none x0 x1 s3 r1.2).bind fun (r4 : ((Int × Unit) × Heap)) =>
 cond (decide (r4.1.1 = 1)) (
 (txn_Txn_Do none (4, 1, 0, 0, 0, 1, ()) r4.2).bind fun (r5 : ((Int × Unit) × Heap)) =>
 cond (decide (r5.1.1 = 1)) (
 cond (!r1.1.2.2.1) (
 (txn_Txn_Changes none r5.2).bind fun (r6 : ((Sl × Unit) × Heap)) =>
 cond (decide ((r6.1.1.len : Int) = 0)) (
 (txn_Txn_Spaces none r6.2).bind fun (r7 : ((Sl × Unit) × Heap)) =>
 some ((decide ((r7.1.1.len : Int) = 0)), ())) (
 some (false, ()))) (
 some (false, ()))) (
 some (false, ()))) (
 some (false, ()))) (
 some (false, ()))
noncomputable def law17_TxnNone (x0 : Int) (x1 : Int) (x2 : Bytes) : Option (Bool × Unit) := law17_TxnNone.on x0 x1 x2 []
noncomputable def law17_TxnNone.c : Callee := .pure [.one (.int .i64), .one (.int .i64), .one .str] [.one .bool] (fun x => law17_TxnNone x.1 x.2.1 x.2.2.1)
noncomputable def law17_TxnNone.calls : Nat → Option Callee
  | 0 => some txn_Txn_Get.c
  | 1 => some law17_awake.c
  | 2 => some txn_Txn_Put.c
  | 3 => some txn_Txn_Do.c
  | 4 => some txn_Txn_Changes.c
  | 5 => some txn_Txn_Spaces.c
  | _ => none
theorem law17_TxnNone.eq : evPure law17_TxnNone.calls law17_TxnNone.af = (fun x H => law17_TxnNone.on x.1 x.2.1 x.2.2.1 H) := by kernel_rfl
end Ev
