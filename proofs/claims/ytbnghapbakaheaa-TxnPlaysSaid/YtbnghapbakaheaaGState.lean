/- What the functions of the package State compute: abstract code, and a function of plain Lean for each; the kernel checks that they are the same. Written by gen2.py. -/
import Derived.Test.YtbnghapbakaheaaEvCore
import Derived.Test.YtbnghapbakaheaaGMaps
import Derived.Test.YtbnghapbakaheaaGRec
import Derived.KernelRfl
set_option linter.unusedVariables false
set_option maxRecDepth 100000
namespace Ev
open Go (IntKind BinOp UnOp)

/-! ### tinderbox/state.New -/
def state_New.af : AFun := ⟨[], [.one .ptr], [.t 0],
 .seq (.reg [.op ⟨0, some 0, .mv (.c (.one (.ptr none))), none⟩])
 (.seq (.reg [.op ⟨0, some 1, .mkm, none⟩,
  .op ⟨1, some 2, .mkm, none⟩,
  .op ⟨2, some 3, .mkm, none⟩,
  .op ⟨3, some 4, .mkm, none⟩,
  .op ⟨4, some 5, .build [.mp none, .mp none, .mp none, .mp none] [(0, 1, (.t 1)), (1, 1, (.t 2)), (2, 1, (.t 3)), (3, 1, (.t 4))], none⟩,
  .op ⟨5, some 6, .box (.t 5), none⟩,
  .op ⟨6, some 0, .mv (.t 6), none⟩])
 (.ret))⟩
noncomputable def state_New (H : Heap) : Option ((Ptr × Unit) × Heap) :=
 let H1 : Heap := H ++ [Blk.mp [] 0]
 let H2 : Heap := H1 ++ [Blk.mp [] 0]
 let H3 : Heap := H2 ++ [Blk.mp [] 0]
 let H4 : Heap := H3 ++ [Blk.mp [] 0]
 let H5 : Heap := H4 ++ [Blk.cells [.mp (some (H.length)), .mp (some (H1.length)), .mp (some (H2.length)), .mp (some (H3.length))] .exact]
 some ((some (H4.length, 0), ()), H5)
noncomputable def state_New.c : Callee := .full [] [.one .ptr] (fun _ H => state_New H)
noncomputable def state_New.calls : Nat → Option Callee
  | _ => none
theorem state_New.eq : evFull state_New.calls state_New.af = (fun _ H => state_New H) := by kernel_rfl

/-! ### (*tinderbox/state.State).open -/
def state_State_open.af : AFun := ⟨[.one .ptr, .one (.int .i64), .agg [.int .i64, .bool, .mp]], [.one (.int .i64)], [.t 6],
 .seq (.reg [.op ⟨0, some 5, .box (.t 2), none⟩,
  .op ⟨1, some 6, .mv (.c (.one (.int .i64 0))), none⟩])
 (.seq (.seq (.reg [.op ⟨0, some 12, .mv (.t 0), none⟩,
  .op ⟨1, some 13, .nilc (.t 12), none⟩,
  .op ⟨2, some 14, .addr 0 (.t 13), none⟩,
  .op ⟨3, some 15, .load (.one .mp) (.t 14), none⟩,
  .op ⟨4, some 16, .mv (.t 1), none⟩,
  .op ⟨5, some 17, .mget (.agg [.int .i64, .bool, .mp]) (.agg [.int .i64 0, .bool false, .mp none]) true (.t 15) (.t 16), none⟩,
  .op ⟨6, some 11, .mv (.t 17), none⟩,
  .op ⟨7, some 18, .ext (.t 11) 0, none⟩,
  .op ⟨8, some 19, .ext (.t 11) 1, none⟩,
  .op ⟨9, some 7, .new [.int .i64 0, .bool false, .mp none], none⟩,
  .op ⟨10, none, .store 3 (.t 7) (.t 18), none⟩,
  .op ⟨11, some 8, .mv (.t 19), none⟩])
 (.seq (.reg [.op ⟨0, some 20, .mv (.t 8), none⟩])
 (.cond (.t 20) (.seq (.reg [.op ⟨0, some 6, .mv (.c (.one (.int .i64 80))), none⟩])
 (.ret)) (.skip))))
 (.seq (.reg [.op ⟨0, some 21, .addr 2 (.t 5), none⟩,
  .op ⟨1, some 22, .load (.one .mp) (.t 21), none⟩,
  .op ⟨2, some 23, .call 0 [(.t 22)], none⟩,
  .op ⟨3, some 24, .addr 2 (.t 5), none⟩,
  .op ⟨4, none, .store 1 (.t 24) (.t 23), none⟩])
 (.seq (.each [.op ⟨0, some 25, .addr 2 (.t 5), none⟩, .op ⟨1, some 26, .load (.one .mp) (.t 25), none⟩] (.t 26) 27 28 29 30 (.one (.int .i64)) [] [.op ⟨1, some 31, .ext (.t 30) 1, none⟩, .op ⟨2, some 10, .mv (.t 31), none⟩] (.reg [.op ⟨0, some 32, .mv (.t 0), none⟩,
  .op ⟨1, some 33, .nilc (.t 32), none⟩,
  .op ⟨2, some 34, .addr 1 (.t 33), none⟩,
  .op ⟨3, some 35, .load (.one .mp) (.t 34), none⟩,
  .op ⟨4, some 36, .mv (.t 10), none⟩,
  .op ⟨5, some 37, .mget (.one (.int .i64)) (.one (.int .i64 0)) false (.t 35) (.t 36), none⟩,
  .op ⟨6, some 38, .bin .add (.t 37) (.c (.one (.int .i64 1))), none⟩,
  .op ⟨7, none, .mset (.t 35) (.t 36) (.t 38), none⟩]))
 (.seq (.reg [.op ⟨0, some 39, .mv (.t 0), none⟩,
  .op ⟨1, some 40, .nilc (.t 39), none⟩,
  .op ⟨2, some 41, .addr 0 (.t 40), none⟩,
  .op ⟨3, some 42, .load (.one .mp) (.t 41), none⟩,
  .op ⟨4, some 43, .mv (.t 1), none⟩,
  .op ⟨5, some 44, .load (.agg [.int .i64, .bool, .mp]) (.t 5), none⟩,
  .op ⟨6, none, .mset (.t 42) (.t 43) (.t 44), none⟩])
 (.seq (.reg [.op ⟨0, some 6, .mv (.c (.one (.int .i64 0))), none⟩])
 (.ret))))))⟩
noncomputable def state_State_open.s1 (x0 : Ptr) (v10 : Option Nat) (k11 : Int) (s12 : (Unit)) (H13 : Heap) : Option ((Unit) × Heap) :=
 Option.bind (α := Int) (mat H13 (.one (.int .i64)) v10 k11) fun (v14 : Int) =>
 (x0).bind fun (a15 : Nat × Nat) =>
 (rdM H13 a15.1 (a15.2 + 1)).bind fun (v16 : Option Nat) =>
 Option.bind (α := (Int × Bool)) (mget H13 (.one (.int .i64)) (.one (.int .i64 0)) v16 v14) fun (v17 : (Int × Bool)) =>
 (mset H13 v16 v14 (.one (.int .i64 (IntKind.wrap .i64 (v17.1 + 1))))).bind fun (H18 : Heap) =>
 some ((()), H18)
noncomputable def state_State_open (x0 : Ptr) (x1 : Int) (x2 : (Int × Bool × Option Nat × Unit)) (H : Heap) : Option ((Int × Unit) × Heap) :=
 let H1 : Heap := H ++ [Blk.cells [.int .i64 x2.1, .bool x2.2.1, .mp x2.2.2.1] .exact]
 (x0).bind fun (a2 : Nat × Nat) =>
 (rdM H1 a2.1 a2.2).bind fun (v3 : Option Nat) =>
 Option.bind (α := ((Int × Bool × Option Nat × Unit) × Bool)) (mget H1 (.agg [.int .i64, .bool, .mp]) (.agg [.int .i64 0, .bool false, .mp none]) v3 x1) fun (v4 : ((Int × Bool × Option Nat × Unit) × Bool)) =>
 let H5 : Heap := H1 ++ [Blk.cells [.int .i64 0, .bool false, .mp none] .exact]
 (wr H5 H1.length 0 [.int .i64 v4.1.1, .bool v4.1.2.1, .mp v4.1.2.2.1]).bind fun (H6 : Heap) =>
 cond v4.2 (
 some ((80, ()), H6)) (
 (rdM H6 H.length 2).bind fun (v7 : Option Nat) =>
 (mclone v7 H6).bind fun (r8 : ((Option Nat × Unit) × Heap)) =>
 (wr r8.2 H.length 2 [.mp r8.1.1]).bind fun (H9 : Heap) =>
 (rdM H9 H.length 2).bind fun (v10 : Option Nat) =>
 (eachW (state_State_open.s1 x0 v10) v10 (()) (H9 ++ [Blk.dead])).bind fun (p19 : (Unit) × Heap) =>
 (x0).bind fun (a20 : Nat × Nat) =>
 (rdM p19.2 a20.1 a20.2).bind fun (v21 : Option Nat) =>
 Option.bind (α := (Int × Bool × Option Nat × Unit)) (rd p19.2 (.agg [.int .i64, .bool, .mp]) H.length 0) fun (v22 : (Int × Bool × Option Nat × Unit)) =>
 (mset p19.2 v21 x1 (.agg [.int .i64 v22.1, .bool v22.2.1, .mp v22.2.2.1])).bind fun (H23 : Heap) =>
 some ((0, ()), H23))
noncomputable def state_State_open.c : Callee := .full [.one .ptr, .one (.int .i64), .agg [.int .i64, .bool, .mp]] [.one (.int .i64)] (fun x H => state_State_open x.1 x.2.1 x.2.2.1 H)
noncomputable def state_State_open.calls : Nat → Option Callee
  | 0 => some mclone.c
  | _ => none
theorem state_State_open.eq : evFull state_State_open.calls state_State_open.af = (fun x H => state_State_open x.1 x.2.1 x.2.2.1 H) := by kernel_rfl

/-! ### (*tinderbox/state.State).move -/
def state_State_move.af : AFun := ⟨[.one .ptr, .one (.int .i64), .one (.int .i64)], [.one (.int .i64)], [.t 6],
 .seq (.reg [.op ⟨0, some 6, .mv (.c (.one (.int .i64 0))), none⟩])
 (.seq (.seq (.reg [.op ⟨0, some 11, .mv (.t 0), none⟩,
  .op ⟨1, some 12, .nilc (.t 11), none⟩,
  .op ⟨2, some 13, .addr 1 (.t 12), none⟩,
  .op ⟨3, some 14, .load (.one .mp) (.t 13), none⟩,
  .op ⟨4, some 15, .mv (.t 1), none⟩,
  .op ⟨5, some 16, .mget (.one (.int .i64)) (.one (.int .i64 0)) false (.t 14) (.t 15), none⟩,
  .op ⟨6, some 17, .bin .eql (.t 16) (.c (.one (.int .i64 0))), none⟩,
  .op ⟨7, some 18, .mv (.t 17), none⟩,
  .op ⟨8, some 19, .mv (.t 0), some (18, false)⟩,
  .op ⟨9, some 20, .nilc (.t 19), some (18, false)⟩,
  .op ⟨10, some 21, .addr 1 (.t 20), some (18, false)⟩,
  .op ⟨11, some 22, .load (.one .mp) (.t 21), some (18, false)⟩,
  .op ⟨12, some 23, .mv (.t 2), some (18, false)⟩,
  .op ⟨13, some 24, .mget (.one (.int .i64)) (.one (.int .i64 0)) false (.t 22) (.t 23), some (18, false)⟩,
  .op ⟨14, some 25, .bin .gtr (.t 24) (.c (.one (.int .i64 0))), some (18, false)⟩,
  .op ⟨15, some 26, .pick (.t 18) (.c (.one (.bool true))) (.t 25), none⟩])
 (.cond (.t 26) (.seq (.reg [.op ⟨0, some 6, .mv (.c (.one (.int .i64 82))), none⟩])
 (.ret)) (.skip)))
 (.seq (.each [.op ⟨0, some 27, .mv (.t 0), none⟩, .op ⟨1, some 28, .nilc (.t 27), none⟩, .op ⟨2, some 29, .addr 0 (.t 28), none⟩, .op ⟨3, some 30, .load (.one .mp) (.t 29), none⟩] (.t 30) 31 32 33 34 (.agg [.int .i64, .bool, .mp]) [] [.op ⟨1, some 35, .ext (.t 34) 1, none⟩, .op ⟨2, some 8, .new [.int .i64 0, .bool false, .mp none], none⟩, .op ⟨3, none, .store 3 (.t 8) (.t 35), none⟩] (.each [.op ⟨0, some 36, .addr 2 (.t 8), none⟩, .op ⟨1, some 37, .load (.one .mp) (.t 36), none⟩] (.t 37) 38 39 40 41 (.one (.int .i64)) [] [.op ⟨1, some 42, .ext (.t 41) 0, none⟩, .op ⟨2, some 43, .ext (.t 41) 1, none⟩, .op ⟨3, some 9, .mv (.t 42), none⟩, .op ⟨4, some 10, .mv (.t 43), none⟩] (.seq (.reg [.op ⟨0, some 44, .mv (.t 10), none⟩,
  .op ⟨1, some 45, .mv (.t 1), none⟩,
  .op ⟨2, some 46, .bin .eql (.t 44) (.t 45), none⟩])
 (.cond (.t 46) (.reg [.op ⟨0, some 47, .addr 2 (.t 8), none⟩,
  .op ⟨1, some 48, .load (.one .mp) (.t 47), none⟩,
  .op ⟨2, some 49, .mv (.t 9), none⟩,
  .op ⟨3, some 50, .mv (.t 2), none⟩,
  .op ⟨4, none, .mset (.t 48) (.t 49) (.t 50), none⟩]) (.skip)))))
 (.seq (.reg [.op ⟨0, some 51, .mv (.t 0), none⟩,
  .op ⟨1, some 52, .nilc (.t 51), none⟩,
  .op ⟨2, some 53, .addr 1 (.t 52), none⟩,
  .op ⟨3, some 54, .load (.one .mp) (.t 53), none⟩,
  .op ⟨4, some 55, .mv (.t 2), none⟩,
  .op ⟨5, some 56, .mv (.t 0), none⟩,
  .op ⟨6, some 57, .nilc (.t 56), none⟩,
  .op ⟨7, some 58, .addr 1 (.t 57), none⟩,
  .op ⟨8, some 59, .load (.one .mp) (.t 58), none⟩,
  .op ⟨9, some 60, .mv (.t 1), none⟩,
  .op ⟨10, some 61, .mget (.one (.int .i64)) (.one (.int .i64 0)) false (.t 59) (.t 60), none⟩,
  .op ⟨11, none, .mset (.t 54) (.t 55) (.t 61), none⟩])
 (.seq (.reg [.op ⟨0, some 62, .mv (.t 0), none⟩,
  .op ⟨1, some 63, .nilc (.t 62), none⟩,
  .op ⟨2, some 64, .addr 1 (.t 63), none⟩,
  .op ⟨3, some 65, .load (.one .mp) (.t 64), none⟩,
  .op ⟨4, some 66, .mv (.t 1), none⟩,
  .op ⟨5, none, .mdel (.t 65) (.t 66), none⟩])
 (.seq (.reg [.op ⟨0, some 6, .mv (.c (.one (.int .i64 0))), none⟩])
 (.ret))))))⟩
noncomputable def state_State_move.s1 (x1 : Int) (x2 : Int) (H11 : Heap) (v15 : Option Nat) (k16 : Int) (s17 : (Unit)) (H18 : Heap) : Option ((Unit) × Heap) :=
 Option.bind (α := Int) (mat H18 (.one (.int .i64)) v15 k16) fun (v19 : Int) =>
 cond (decide (v19 = x1)) (
 (rdM H18 H11.length 2).bind fun (v20 : Option Nat) =>
 (mset H18 v20 k16 (.one (.int .i64 x2))).bind fun (H21 : Heap) =>
 some ((()), H21)) (
 some ((()), H18))
noncomputable def state_State_move.s2 (x1 : Int) (x2 : Int) (v8 : Option Nat) (k9 : Int) (s10 : (Unit)) (H11 : Heap) : Option ((Unit) × Heap) :=
 Option.bind (α := (Int × Bool × Option Nat × Unit)) (mat H11 (.agg [.int .i64, .bool, .mp]) v8 k9) fun (v12 : (Int × Bool × Option Nat × Unit)) =>
 let H13 : Heap := H11 ++ [Blk.cells [.int .i64 0, .bool false, .mp none] .exact]
 (wr H13 H11.length 0 [.int .i64 v12.1, .bool v12.2.1, .mp v12.2.2.1]).bind fun (H14 : Heap) =>
 (rdM H14 H11.length 2).bind fun (v15 : Option Nat) =>
 (eachW (state_State_move.s1 x1 x2 H11 v15) v15 (()) (H14 ++ [Blk.dead])).bind fun (p22 : (Unit) × Heap) =>
 some ((()), p22.2)
noncomputable def state_State_move (x0 : Ptr) (x1 : Int) (x2 : Int) (H : Heap) : Option ((Int × Unit) × Heap) :=
 (x0).bind fun (a1 : Nat × Nat) =>
 (rdM H a1.1 (a1.2 + 1)).bind fun (v2 : Option Nat) =>
 Option.bind (α := (Int × Bool)) (mget H (.one (.int .i64)) (.one (.int .i64 0)) v2 x1) fun (v3 : (Int × Bool)) =>
 cond (decide (v3.1 = 0)) (
 some ((82, ()), H)) (
 (x0).bind fun (a4 : Nat × Nat) =>
 (rdM H a4.1 (a4.2 + 1)).bind fun (v5 : Option Nat) =>
 Option.bind (α := (Int × Bool)) (mget H (.one (.int .i64)) (.one (.int .i64 0)) v5 x2) fun (v6 : (Int × Bool)) =>
 cond (decide (0 < v6.1)) (
 some ((82, ()), H)) (
 (x0).bind fun (a7 : Nat × Nat) =>
 (rdM H a7.1 a7.2).bind fun (v8 : Option Nat) =>
 (eachW (state_State_move.s2 x1 x2 v8) v8 (()) (H ++ [Blk.dead])).bind fun (p23 : (Unit) × Heap) =>
 (x0).bind fun (a24 : Nat × Nat) =>
 (rdM p23.2 a24.1 (a24.2 + 1)).bind fun (v25 : Option Nat) =>
 (x0).bind fun (a26 : Nat × Nat) =>
 (rdM p23.2 a26.1 (a26.2 + 1)).bind fun (v27 : Option Nat) =>
 Option.bind (α := (Int × Bool)) (mget p23.2 (.one (.int .i64)) (.one (.int .i64 0)) v27 x1) fun (v28 : (Int × Bool)) =>
 (mset p23.2 v25 x2 (.one (.int .i64 v28.1))).bind fun (H29 : Heap) =>
 (x0).bind fun (a30 : Nat × Nat) =>
 (rdM H29 a30.1 (a30.2 + 1)).bind fun (v31 : Option Nat) =>
 (mdel H29 v31 x1).bind fun (H32 : Heap) =>
 some ((0, ()), H32)))
noncomputable def state_State_move.c : Callee := .full [.one .ptr, .one (.int .i64), .one (.int .i64)] [.one (.int .i64)] (fun x H => state_State_move x.1 x.2.1 x.2.2.1 H)
noncomputable def state_State_move.calls : Nat → Option Callee
  | _ => none
theorem state_State_move.eq : evFull state_State_move.calls state_State_move.af = (fun x H => state_State_move x.1 x.2.1 x.2.2.1 H) := by kernel_rfl

/-! ### (*tinderbox/state.State).point -/
def state_State_point.af : AFun := ⟨[.one .ptr, .agg [.int .i64, .bool, .mp], .one (.int .i64), .one (.int .i64)], [], [],
 .seq (.reg [.op ⟨0, some 5, .box (.t 1), none⟩])
 (.seq (.scope [(.normal, [])] (.seq (.reg [.op ⟨0, some 11, .addr 2 (.t 5), none⟩,
  .op ⟨1, some 12, .load (.one .mp) (.t 11), none⟩,
  .op ⟨2, some 13, .mv (.t 2), none⟩,
  .op ⟨3, some 14, .mget (.one (.int .i64)) (.one (.int .i64 0)) true (.t 12) (.t 13), none⟩,
  .op ⟨4, some 10, .mv (.t 14), none⟩,
  .op ⟨5, some 15, .ext (.t 10) 0, none⟩,
  .op ⟨6, some 16, .ext (.t 10) 1, none⟩,
  .op ⟨7, some 8, .mv (.t 15), none⟩,
  .op ⟨8, some 9, .mv (.t 16), none⟩])
 (.seq (.reg [.op ⟨0, some 17, .mv (.t 9), none⟩])
 (.cond (.t 17) (.seq (.seq (.reg [.op ⟨0, some 18, .mv (.t 0), none⟩,
  .op ⟨1, some 19, .nilc (.t 18), none⟩,
  .op ⟨2, some 20, .addr 1 (.t 19), none⟩,
  .op ⟨3, some 21, .load (.one .mp) (.t 20), none⟩,
  .op ⟨4, some 22, .mv (.t 8), none⟩,
  .op ⟨5, some 23, .mget (.one (.int .i64)) (.one (.int .i64 0)) false (.t 21) (.t 22), none⟩,
  .op ⟨6, some 24, .bin .sub (.t 23) (.c (.one (.int .i64 1))), none⟩,
  .op ⟨7, none, .mset (.t 21) (.t 22) (.t 24), none⟩])
 (.seq (.reg [.op ⟨0, some 25, .mv (.t 0), none⟩,
  .op ⟨1, some 26, .nilc (.t 25), none⟩,
  .op ⟨2, some 27, .addr 1 (.t 26), none⟩,
  .op ⟨3, some 28, .load (.one .mp) (.t 27), none⟩,
  .op ⟨4, some 29, .mv (.t 8), none⟩,
  .op ⟨5, some 30, .mget (.one (.int .i64)) (.one (.int .i64 0)) false (.t 28) (.t 29), none⟩,
  .op ⟨6, some 31, .bin .eql (.t 30) (.c (.one (.int .i64 0))), none⟩])
 (.cond (.t 31) (.reg [.op ⟨0, some 32, .mv (.t 0), none⟩,
  .op ⟨1, some 33, .nilc (.t 32), none⟩,
  .op ⟨2, some 34, .addr 1 (.t 33), none⟩,
  .op ⟨3, some 35, .load (.one .mp) (.t 34), none⟩,
  .op ⟨4, some 36, .mv (.t 8), none⟩,
  .op ⟨5, none, .mdel (.t 35) (.t 36), none⟩]) (.skip))))
 (.reg [.op ⟨0, some 37, .addr 2 (.t 5), none⟩,
  .op ⟨1, some 38, .load (.one .mp) (.t 37), none⟩,
  .op ⟨2, some 39, .mv (.t 2), none⟩,
  .op ⟨3, none, .mdel (.t 38) (.t 39), none⟩])) (.skip)))))
 (.seq (.reg [.op ⟨0, some 40, .mv (.t 3), none⟩,
  .op ⟨1, some 41, .bin .geq (.t 40) (.c (.one (.int .i64 0))), none⟩])
 (.cond (.t 41) (.seq (.reg [.op ⟨0, some 42, .addr 2 (.t 5), none⟩,
  .op ⟨1, some 43, .load (.one .mp) (.t 42), none⟩,
  .op ⟨2, some 44, .mv (.t 2), none⟩,
  .op ⟨3, some 45, .mv (.t 3), none⟩,
  .op ⟨4, none, .mset (.t 43) (.t 44) (.t 45), none⟩])
 (.reg [.op ⟨0, some 46, .mv (.t 0), none⟩,
  .op ⟨1, some 47, .nilc (.t 46), none⟩,
  .op ⟨2, some 48, .addr 1 (.t 47), none⟩,
  .op ⟨3, some 49, .load (.one .mp) (.t 48), none⟩,
  .op ⟨4, some 50, .mv (.t 3), none⟩,
  .op ⟨5, some 51, .mget (.one (.int .i64)) (.one (.int .i64 0)) false (.t 49) (.t 50), none⟩,
  .op ⟨6, some 52, .bin .add (.t 51) (.c (.one (.int .i64 1))), none⟩,
  .op ⟨7, none, .mset (.t 49) (.t 50) (.t 52), none⟩])) (.skip))))⟩
noncomputable def state_State_point (x0 : Ptr) (x1 : (Int × Bool × Option Nat × Unit)) (x2 : Int) (x3 : Int) (H : Heap) : Option ((Unit) × Heap) :=
 let H1 : Heap := H ++ [Blk.cells [.int .i64 x1.1, .bool x1.2.1, .mp x1.2.2.1] .exact]
 ((rdM H1 H.length 2).bind fun (v2 : Option Nat) =>
 Option.bind (α := (Int × Bool)) (mget H1 (.one (.int .i64)) (.one (.int .i64 0)) v2 x2) fun (v3 : (Int × Bool)) =>
 cond v3.2 (
 (x0).bind fun (a4 : Nat × Nat) =>
 (rdM H1 a4.1 (a4.2 + 1)).bind fun (v5 : Option Nat) =>
 Option.bind (α := (Int × Bool)) (mget H1 (.one (.int .i64)) (.one (.int .i64 0)) v5 v3.1) fun (v6 : (Int × Bool)) =>
 (mset H1 v5 v3.1 (.one (.int .i64 (IntKind.wrap .i64 (v6.1 - 1))))).bind fun (H7 : Heap) =>
 (x0).bind fun (a8 : Nat × Nat) =>
 (rdM H7 a8.1 (a8.2 + 1)).bind fun (v9 : Option Nat) =>
 Option.bind (α := (Int × Bool)) (mget H7 (.one (.int .i64)) (.one (.int .i64 0)) v9 v3.1) fun (v10 : (Int × Bool)) =>
 cond (decide (v10.1 = 0)) (
 (x0).bind fun (a11 : Nat × Nat) =>
 (rdM H7 a11.1 (a11.2 + 1)).bind fun (v12 : Option Nat) =>
 (mdel H7 v12 v3.1).bind fun (H13 : Heap) =>
 (rdM H13 H.length 2).bind fun (v14 : Option Nat) =>
 (mdel H13 v14 x2).bind fun (H15 : Heap) =>
 some ((()), H15)) (
 (rdM H7 H.length 2).bind fun (v16 : Option Nat) =>
 (mdel H7 v16 x2).bind fun (H17 : Heap) =>
 some ((()), H17))) (
 some ((()), H1)) : Option ((Unit) × Heap)).bind fun (p18 : (Unit) × Heap) =>
 cond (decide (0 ≤ x3)) (
 (rdM p18.2 H.length 2).bind fun (v19 : Option Nat) =>
 (mset p18.2 v19 x2 (.one (.int .i64 x3))).bind fun (H20 : Heap) =>
 (x0).bind fun (a21 : Nat × Nat) =>
 (rdM H20 a21.1 (a21.2 + 1)).bind fun (v22 : Option Nat) =>
 Option.bind (α := (Int × Bool)) (mget H20 (.one (.int .i64)) (.one (.int .i64 0)) v22 x3) fun (v23 : (Int × Bool)) =>
 (mset H20 v22 x3 (.one (.int .i64 (IntKind.wrap .i64 (v23.1 + 1))))).bind fun (H24 : Heap) =>
 some ((()), H24)) (
 some ((()), p18.2))
noncomputable def state_State_point.c : Callee := .full [.one .ptr, .agg [.int .i64, .bool, .mp], .one (.int .i64), .one (.int .i64)] [] (fun x H => state_State_point x.1 x.2.1 x.2.2.1 x.2.2.2.1 H)
noncomputable def state_State_point.calls : Nat → Option Callee
  | _ => none
theorem state_State_point.eq : evFull state_State_point.calls state_State_point.af = (fun x H => state_State_point x.1 x.2.1 x.2.2.1 x.2.2.2.1 H) := by kernel_rfl

/-! ### (*tinderbox/state.State).apply -/
def state_State_apply.af : AFun := ⟨[.one .ptr, .agg [.int .i64, .int .i64, .int .i64, .int .i64, .int .i64, .int .i64]], [.one (.int .i64)], [.t 4],
 .seq (.reg [.op ⟨0, some 3, .box (.t 1), none⟩,
  .op ⟨1, some 4, .mv (.c (.one (.int .i64 0))), none⟩])
 (.seq (.reg [.op ⟨0, some 11, .mv (.t 0), none⟩,
  .op ⟨1, some 12, .nilc (.t 11), none⟩,
  .op ⟨2, some 13, .addr 0 (.t 12), none⟩,
  .op ⟨3, some 14, .load (.one .mp) (.t 13), none⟩,
  .op ⟨4, some 15, .addr 1 (.t 3), none⟩,
  .op ⟨5, some 16, .load (.one (.int .i64)) (.t 15), none⟩,
  .op ⟨6, some 17, .mget (.agg [.int .i64, .bool, .mp]) (.agg [.int .i64 0, .bool false, .mp none]) true (.t 14) (.t 16), none⟩,
  .op ⟨7, some 10, .mv (.t 17), none⟩,
  .op ⟨8, some 18, .ext (.t 10) 0, none⟩,
  .op ⟨9, some 19, .ext (.t 10) 1, none⟩,
  .op ⟨10, some 5, .new [.int .i64 0, .bool false, .mp none], none⟩,
  .op ⟨11, none, .store 3 (.t 5) (.t 18), none⟩,
  .op ⟨12, some 6, .mv (.t 19), none⟩])
 (.seq (.seq (.reg [.op ⟨0, some 20, .addr 0 (.t 3), none⟩,
  .op ⟨1, some 21, .load (.one (.int .i64)) (.t 20), none⟩])
 (.block 0 (.seq (.reg [.op ⟨0, some 23, .bin .eql (.t 21) (.c (.one (.int .i64 4))), none⟩,
  .op ⟨1, some 22, .mv (.t 23), none⟩])
 (.cond (.t 22) (.seq (.reg [.op ⟨0, some 24, .mv (.t 0), none⟩,
  .op ⟨1, some 25, .addr 1 (.t 3), none⟩,
  .op ⟨2, some 26, .load (.one (.int .i64)) (.t 25), none⟩,
  .op ⟨3, some 27, .addr 5 (.t 3), none⟩,
  .op ⟨4, some 28, .load (.one (.int .i64)) (.t 27), none⟩,
  .op ⟨5, some 29, .mkm, none⟩,
  .op ⟨6, some 30, .build [.int .i64 0, .bool false, .mp none] [(0, 1, (.t 28)), (2, 1, (.t 29))], none⟩,
  .op ⟨7, some 31, .call 0 [(.t 24), (.t 26), (.t 30)], none⟩,
  .op ⟨8, some 4, .mv (.t 31), none⟩])
 (.ret)) (.seq (.reg [.op ⟨0, some 33, .bin .eql (.t 21) (.c (.one (.int .i64 3))), none⟩,
  .op ⟨1, some 32, .mv (.t 33), none⟩])
 (.cond (.t 32) (.seq (.reg [.op ⟨0, some 34, .mv (.t 0), none⟩,
  .op ⟨1, some 35, .addr 3 (.t 3), none⟩,
  .op ⟨2, some 36, .load (.one (.int .i64)) (.t 35), none⟩,
  .op ⟨3, some 37, .addr 4 (.t 3), none⟩,
  .op ⟨4, some 38, .load (.one (.int .i64)) (.t 37), none⟩,
  .op ⟨5, some 39, .call 1 [(.t 34), (.t 36), (.t 38)], none⟩,
  .op ⟨6, some 4, .mv (.t 39), none⟩])
 (.ret)) (.seq (.reg [.op ⟨0, some 41, .bin .eql (.t 21) (.c (.one (.int .i64 8))), none⟩,
  .op ⟨1, some 40, .mv (.t 41), none⟩])
 (.cond (.t 40) (.seq (.reg [.op ⟨0, some 42, .mv (.t 0), none⟩,
  .op ⟨1, some 43, .nilc (.t 42), none⟩,
  .op ⟨2, some 44, .addr 2 (.t 43), none⟩,
  .op ⟨3, some 45, .load (.one .mp) (.t 44), none⟩,
  .op ⟨4, some 46, .addr 3 (.t 3), none⟩,
  .op ⟨5, some 47, .load (.one (.int .i64)) (.t 46), none⟩,
  .op ⟨6, none, .mset (.t 45) (.t 47) (.c (.one (.bool true))), none⟩])
 (.seq (.reg [.op ⟨0, some 4, .mv (.c (.one (.int .i64 0))), none⟩])
 (.ret))) (.seq (.reg [.op ⟨0, some 49, .bin .eql (.t 21) (.c (.one (.int .i64 9))), none⟩,
  .op ⟨1, some 48, .mv (.t 49), none⟩])
 (.cond (.t 48) (.seq (.reg [.op ⟨0, some 50, .mv (.t 0), none⟩,
  .op ⟨1, some 51, .nilc (.t 50), none⟩,
  .op ⟨2, some 52, .addr 3 (.t 51), none⟩,
  .op ⟨3, some 53, .load (.one .mp) (.t 52), none⟩,
  .op ⟨4, some 54, .addr 3 (.t 3), none⟩,
  .op ⟨5, some 55, .load (.one (.int .i64)) (.t 54), none⟩,
  .op ⟨6, some 56, .mv (.t 0), none⟩,
  .op ⟨7, some 57, .nilc (.t 56), none⟩,
  .op ⟨8, some 58, .addr 3 (.t 57), none⟩,
  .op ⟨9, some 59, .load (.one .mp) (.t 58), none⟩,
  .op ⟨10, some 60, .addr 3 (.t 3), none⟩,
  .op ⟨11, some 61, .load (.one (.int .i64)) (.t 60), none⟩,
  .op ⟨12, some 62, .mget (.one (.int .i64)) (.one (.int .i64 0)) false (.t 59) (.t 61), none⟩,
  .op ⟨13, some 63, .addr 5 (.t 3), none⟩,
  .op ⟨14, some 64, .load (.one (.int .i64)) (.t 63), none⟩,
  .op ⟨15, some 65, .max [(.t 62), (.t 64)], none⟩,
  .op ⟨16, none, .mset (.t 53) (.t 55) (.t 65), none⟩])
 (.seq (.reg [.op ⟨0, some 4, .mv (.c (.one (.int .i64 0))), none⟩])
 (.ret))) (.skip)))))))))))
 (.seq (.seq (.reg [.op ⟨0, some 66, .mv (.t 6), none⟩,
  .op ⟨1, some 67, .un .not (.t 66), none⟩])
 (.cond (.t 67) (.seq (.reg [.op ⟨0, some 4, .mv (.c (.one (.int .i64 80))), none⟩])
 (.ret)) (.skip)))
 (.seq (.seq (.reg [.op ⟨0, some 68, .addr 0 (.t 3), none⟩,
  .op ⟨1, some 69, .load (.one (.int .i64)) (.t 68), none⟩])
 (.block 1 (.seq (.reg [.op ⟨0, some 79, .bin .eql (.t 69) (.c (.one (.int .i64 1))), none⟩,
  .op ⟨1, some 78, .mv (.t 79), none⟩])
 (.cond (.t 78) (.seq (.seq (.reg [.op ⟨0, some 80, .addr 2 (.t 3), none⟩,
  .op ⟨1, some 81, .load (.one (.int .i64)) (.t 80), none⟩,
  .op ⟨2, some 82, .bin .lss (.t 81) (.c (.one (.int .i64 0))), none⟩,
  .op ⟨3, some 83, .mv (.t 82), none⟩,
  .op ⟨4, some 84, .addr 2 (.t 3), some (83, false)⟩,
  .op ⟨5, some 85, .load (.one (.int .i64)) (.t 84), some (83, false)⟩,
  .op ⟨6, some 86, .addr 0 (.t 5), some (83, false)⟩,
  .op ⟨7, some 87, .load (.one (.int .i64)) (.t 86), some (83, false)⟩,
  .op ⟨8, some 88, .bin .geq (.t 85) (.t 87), some (83, false)⟩,
  .op ⟨9, some 89, .pick (.t 83) (.c (.one (.bool true))) (.t 88), none⟩])
 (.cond (.t 89) (.seq (.reg [.op ⟨0, some 4, .mv (.c (.one (.int .i64 81))), none⟩])
 (.ret)) (.skip)))
 (.reg [.op ⟨0, some 90, .mv (.t 0), none⟩,
  .op ⟨1, some 91, .load (.agg [.int .i64, .bool, .mp]) (.t 5), none⟩,
  .op ⟨2, some 92, .addr 2 (.t 3), none⟩,
  .op ⟨3, some 93, .load (.one (.int .i64)) (.t 92), none⟩,
  .op ⟨4, some 94, .addr 3 (.t 3), none⟩,
  .op ⟨5, some 95, .load (.one (.int .i64)) (.t 94), none⟩,
  .op ⟨6, some 96, .call 2 [(.t 90), (.t 91), (.t 93), (.t 95)], none⟩])) (.seq (.reg [.op ⟨0, some 98, .bin .eql (.t 69) (.c (.one (.int .i64 2))), none⟩,
  .op ⟨1, some 97, .mv (.t 98), none⟩])
 (.cond (.t 97) (.seq (.seq (.reg [.op ⟨0, some 100, .addr 2 (.t 5), none⟩,
  .op ⟨1, some 101, .load (.one .mp) (.t 100), none⟩,
  .op ⟨2, some 102, .addr 2 (.t 3), none⟩,
  .op ⟨3, some 103, .load (.one (.int .i64)) (.t 102), none⟩,
  .op ⟨4, some 104, .mget (.one (.int .i64)) (.one (.int .i64 0)) true (.t 101) (.t 103), none⟩,
  .op ⟨5, some 99, .mv (.t 104), none⟩,
  .op ⟨6, some 105, .ext (.t 99) 0, none⟩,
  .op ⟨7, some 106, .ext (.t 99) 1, none⟩,
  .op ⟨8, some 7, .mv (.t 105), none⟩,
  .op ⟨9, some 8, .mv (.t 106), none⟩])
 (.seq (.reg [.op ⟨0, some 107, .mv (.t 8), none⟩,
  .op ⟨1, some 108, .un .not (.t 107), none⟩])
 (.cond (.t 108) (.seq (.reg [.op ⟨0, some 4, .mv (.c (.one (.int .i64 81))), none⟩])
 (.ret)) (.skip))))
 (.reg [.op ⟨0, some 109, .mv (.t 0), none⟩,
  .op ⟨1, some 110, .load (.agg [.int .i64, .bool, .mp]) (.t 5), none⟩,
  .op ⟨2, some 111, .addr 2 (.t 3), none⟩,
  .op ⟨3, some 112, .load (.one (.int .i64)) (.t 111), none⟩,
  .op ⟨4, some 113, .call 2 [(.t 109), (.t 110), (.t 112), (.c (.one (.int .i64 (-1))))], none⟩])) (.seq (.reg [.op ⟨0, some 115, .bin .eql (.t 69) (.c (.one (.int .i64 5))), none⟩,
  .op ⟨1, some 114, .mv (.t 115), none⟩])
 (.cond (.t 114) (.seq (.each [.op ⟨0, some 116, .addr 2 (.t 5), none⟩, .op ⟨1, some 117, .load (.one .mp) (.t 116), none⟩, .op ⟨2, some 118, .call 3 [(.t 117)], none⟩] (.t 118) 119 120 121 122 (.one (.int .i64)) [] [.op ⟨1, some 123, .ext (.t 122) 0, none⟩, .op ⟨2, some 9, .mv (.t 123), none⟩] (.reg [.op ⟨0, some 124, .mv (.t 0), none⟩,
  .op ⟨1, some 125, .load (.agg [.int .i64, .bool, .mp]) (.t 5), none⟩,
  .op ⟨2, some 126, .mv (.t 9), none⟩,
  .op ⟨3, some 127, .call 2 [(.t 124), (.t 125), (.t 126), (.c (.one (.int .i64 (-1))))], none⟩]))
 (.reg [.op ⟨0, some 128, .mv (.t 0), none⟩,
  .op ⟨1, some 129, .nilc (.t 128), none⟩,
  .op ⟨2, some 130, .addr 0 (.t 129), none⟩,
  .op ⟨3, some 131, .load (.one .mp) (.t 130), none⟩,
  .op ⟨4, some 132, .addr 1 (.t 3), none⟩,
  .op ⟨5, some 133, .load (.one (.int .i64)) (.t 132), none⟩,
  .op ⟨6, none, .mdel (.t 131) (.t 133), none⟩])) (.seq (.reg [.op ⟨0, some 135, .bin .eql (.t 69) (.c (.one (.int .i64 6))), none⟩,
  .op ⟨1, some 134, .mv (.t 135), none⟩])
 (.cond (.t 134) (.seq (.reg [.op ⟨0, some 136, .mv (.t 0), none⟩,
  .op ⟨1, some 137, .addr 4 (.t 3), none⟩,
  .op ⟨2, some 138, .load (.one (.int .i64)) (.t 137), none⟩,
  .op ⟨3, some 139, .addr 0 (.t 5), none⟩,
  .op ⟨4, some 140, .load (.one (.int .i64)) (.t 139), none⟩,
  .op ⟨5, some 141, .addr 2 (.t 5), none⟩,
  .op ⟨6, some 142, .load (.one .mp) (.t 141), none⟩,
  .op ⟨7, some 143, .build [.int .i64 0, .bool false, .mp none] [(0, 1, (.t 140)), (2, 1, (.t 142))], none⟩,
  .op ⟨8, some 144, .call 0 [(.t 136), (.t 138), (.t 143)], none⟩,
  .op ⟨9, some 4, .mv (.t 144), none⟩])
 (.ret)) (.seq (.reg [.op ⟨0, some 70, .addr 1 (.t 5), none⟩,
  .op ⟨1, none, .store 1 (.t 70) (.c (.one (.bool true))), none⟩])
 (.reg [.op ⟨0, some 71, .mv (.t 0), none⟩,
  .op ⟨1, some 72, .nilc (.t 71), none⟩,
  .op ⟨2, some 73, .addr 0 (.t 72), none⟩,
  .op ⟨3, some 74, .load (.one .mp) (.t 73), none⟩,
  .op ⟨4, some 75, .addr 1 (.t 3), none⟩,
  .op ⟨5, some 76, .load (.one (.int .i64)) (.t 75), none⟩,
  .op ⟨6, some 77, .load (.agg [.int .i64, .bool, .mp]) (.t 5), none⟩,
  .op ⟨7, none, .mset (.t 74) (.t 76) (.t 77), none⟩]))))))))))))
 (.seq (.reg [.op ⟨0, some 4, .mv (.c (.one (.int .i64 0))), none⟩])
 (.ret))))))⟩
noncomputable def state_State_apply.s1 (x0 : Ptr) (H1 : Heap) (r44 : ((Option Nat × Unit) × Heap)) (k45 : Int) (s46 : (Unit)) (H47 : Heap) : Option ((Unit) × Heap) :=
 Option.bind (α := Int) (mat H47 (.one (.int .i64)) r44.1.1 k45) fun (v48 : Int) =>
 Option.bind (α := (Int × Bool × Option Nat × Unit)) (rd H47 (.agg [.int .i64, .bool, .mp]) H1.length 0) fun (v49 : (Int × Bool × Option Nat × Unit)) =>
 (state_State_point x0 (v49.1, v49.2.1, v49.2.2.1, ()) k45 (-1) H47).bind fun (r50 : ((Unit) × Heap)) =>
 some ((()), r50.2)
noncomputable def state_State_apply (x0 : Ptr) (x1 : (Int × Int × Int × Int × Int × Int × Unit)) (H : Heap) : Option ((Int × Unit) × Heap) :=
 let H1 : Heap := H ++ [Blk.cells [.int .i64 x1.1, .int .i64 x1.2.1, .int .i64 x1.2.2.1, .int .i64 x1.2.2.2.1, .int .i64 x1.2.2.2.2.1, .int .i64 x1.2.2.2.2.2.1] .exact]
 (x0).bind fun (a2 : Nat × Nat) =>
 (rdM H1 a2.1 a2.2).bind fun (v3 : Option Nat) =>
 (rdI .i64 H1 H.length 1).bind fun (v4 : Int) =>
 Option.bind (α := ((Int × Bool × Option Nat × Unit) × Bool)) (mget H1 (.agg [.int .i64, .bool, .mp]) (.agg [.int .i64 0, .bool false, .mp none]) v3 v4) fun (v5 : ((Int × Bool × Option Nat × Unit) × Bool)) =>
 let H6 : Heap := H1 ++ [Blk.cells [.int .i64 0, .bool false, .mp none] .exact]
 (wr H6 H1.length 0 [.int .i64 v5.1.1, .bool v5.1.2.1, .mp v5.1.2.2.1]).bind fun (H7 : Heap) =>
 (rdI .i64 H7 H.length 0).bind fun (v8 : Int) =>
 cond (decide (v8 = 4)) (
 (rdI .i64 H7 H.length 1).bind fun (v9 : Int) =>
 (rdI .i64 H7 H.length 5).bind fun (v10 : Int) =>
 let H11 : Heap := H7 ++ [Blk.mp [] 0]
 (state_State_open x0 v9 (v10, false, some (H7.length), ()) H11).bind fun (r12 : ((Int × Unit) × Heap)) =>
 some ((r12.1.1, ()), r12.2)) (
 cond (decide (v8 = 3)) (
 (rdI .i64 H7 H.length 3).bind fun (v13 : Int) =>
 (rdI .i64 H7 H.length 4).bind fun (v14 : Int) =>
 (state_State_move x0 v13 v14 H7).bind fun (r15 : ((Int × Unit) × Heap)) =>
 some ((r15.1.1, ()), r15.2)) (
 cond (decide (v8 = 8)) (
 (x0).bind fun (a16 : Nat × Nat) =>
 (rdM H7 a16.1 (a16.2 + 2)).bind fun (v17 : Option Nat) =>
 (rdI .i64 H7 H.length 3).bind fun (v18 : Int) =>
 (mset H7 v17 v18 (.one (.bool true))).bind fun (H19 : Heap) =>
 some ((0, ()), H19)) (
 cond (decide (v8 = 9)) (
 (x0).bind fun (a20 : Nat × Nat) =>
 (rdM H7 a20.1 (a20.2 + 3)).bind fun (v21 : Option Nat) =>
 (rdI .i64 H7 H.length 3).bind fun (v22 : Int) =>
 (x0).bind fun (a23 : Nat × Nat) =>
 (rdM H7 a23.1 (a23.2 + 3)).bind fun (v24 : Option Nat) =>
 (rdI .i64 H7 H.length 3).bind fun (v25 : Int) =>
 Option.bind (α := (Int × Bool)) (mget H7 (.one (.int .i64)) (.one (.int .i64 0)) v24 v25) fun (v26 : (Int × Bool)) =>
 (rdI .i64 H7 H.length 5).bind fun (v27 : Int) =>
 (mset H7 v21 v22 (.one (.int .i64 (if v27 > v26.1 then v27 else v26.1)))).bind fun (H28 : Heap) =>
 some ((0, ()), H28)) (
 cond (!v5.2) (
 some ((80, ()), H7)) (
 (rdI .i64 H7 H.length 0).bind fun (v29 : Int) =>
 cond (decide (v29 = 1)) (
 (rdI .i64 H7 H.length 2).bind fun (v30 : Int) =>
 cond (decide (v30 < 0)) (
 some ((81, ()), H7)) (
 (rdI .i64 H7 H.length 2).bind fun (v31 : Int) =>
 (rdI .i64 H7 H1.length 0).bind fun (v32 : Int) =>
 cond (decide (v32 ≤ v31)) (
 some ((81, ()), H7)) (
 Option.bind (α := (Int × Bool × Option Nat × Unit)) (rd H7 (.agg [.int .i64, .bool, .mp]) H1.length 0) fun (v33 : (Int × Bool × Option Nat × Unit)) =>
 (rdI .i64 H7 H.length 2).bind fun (v34 : Int) =>
 (rdI .i64 H7 H.length 3).bind fun (v35 : Int) =>
 (state_State_point x0 (v33.1, v33.2.1, v33.2.2.1, ()) v34 v35 H7).bind fun (r36 : ((Unit) × Heap)) =>
 some ((0, ()), r36.2)))) (
 cond (decide (v29 = 2)) (
 (rdM H7 H1.length 2).bind fun (v37 : Option Nat) =>
 (rdI .i64 H7 H.length 2).bind fun (v38 : Int) =>
 Option.bind (α := (Int × Bool)) (mget H7 (.one (.int .i64)) (.one (.int .i64 0)) v37 v38) fun (v39 : (Int × Bool)) =>
 cond (!v39.2) (
 some ((81, ()), H7)) (
 Option.bind (α := (Int × Bool × Option Nat × Unit)) (rd H7 (.agg [.int .i64, .bool, .mp]) H1.length 0) fun (v40 : (Int × Bool × Option Nat × Unit)) =>
 (rdI .i64 H7 H.length 2).bind fun (v41 : Int) =>
 (state_State_point x0 (v40.1, v40.2.1, v40.2.2.1, ()) v41 (-1) H7).bind fun (r42 : ((Unit) × Heap)) =>
 some ((0, ()), r42.2))) (
 cond (decide (v29 = 5)) (
 (rdM H7 H1.length 2).bind fun (v43 : Option Nat) =>
 (mclone v43 H7).bind fun (r44 : ((Option Nat × Unit) × Heap)) =>
 (eachW (state_State_apply.s1 x0 H1 r44) r44.1.1 (()) (r44.2 ++ [Blk.dead])).bind fun (p51 : (Unit) × Heap) =>
 (x0).bind fun (a52 : Nat × Nat) =>
 (rdM p51.2 a52.1 a52.2).bind fun (v53 : Option Nat) =>
 (rdI .i64 p51.2 H.length 1).bind fun (v54 : Int) =>
 (mdel p51.2 v53 v54).bind fun (H55 : Heap) =>
 some ((0, ()), H55)) (
 cond (decide (v29 = 6)) (
 (rdI .i64 H7 H.length 4).bind fun (v56 : Int) =>
 (rdI .i64 H7 H1.length 0).bind fun (v57 : Int) =>
 (rdM H7 H1.length 2).bind fun (v58 : Option Nat) =>
 (state_State_open x0 v56 (v57, false, v58, ()) H7).bind fun (r59 : ((Int × Unit) × Heap)) =>
 some ((r59.1.1, ()), r59.2)) (
 (wr H7 H1.length 1 [.bool true]).bind fun (H60 : Heap) =>
 (x0).bind fun (a61 : Nat × Nat) =>
 (rdM H60 a61.1 a61.2).bind fun (v62 : Option Nat) =>
 (rdI .i64 H60 H.length 1).bind fun (v63 : Int) =>
 Option.bind (α := (Int × Bool × Option Nat × Unit)) (rd H60 (.agg [.int .i64, .bool, .mp]) H1.length 0) fun (v64 : (Int × Bool × Option Nat × Unit)) =>
 (mset H60 v62 v63 (.agg [.int .i64 v64.1, .bool v64.2.1, .mp v64.2.2.1])).bind fun (H65 : Heap) =>
 some ((0, ()), H65))))))))))
noncomputable def state_State_apply.c : Callee := .full [.one .ptr, .agg [.int .i64, .int .i64, .int .i64, .int .i64, .int .i64, .int .i64]] [.one (.int .i64)] (fun x H => state_State_apply x.1 x.2.1 H)
noncomputable def state_State_apply.calls : Nat → Option Callee
  | 0 => some state_State_open.c
  | 1 => some state_State_move.c
  | 2 => some state_State_point.c
  | 3 => some mclone.c
  | _ => none
theorem state_State_apply.eq : evFull state_State_apply.calls state_State_apply.af = (fun x H => state_State_apply x.1 x.2.1 H) := by kernel_rfl

/-! ### (*tinderbox/state.State).Apply -/
def state_State_Apply.af : AFun := ⟨[.one .ptr, .agg [.int .i64, .int .i64, .int .i64, .int .i64, .int .i64, .int .i64]], [.one (.int .i64)], [.t 4],
 .seq (.reg [.op ⟨0, some 3, .box (.t 1), none⟩,
  .op ⟨1, some 4, .mv (.c (.one (.int .i64 0))), none⟩])
 (.seq (.seq (.reg [.op ⟨0, some 5, .mv (.t 0), none⟩,
  .op ⟨1, some 6, .isnil false (.t 5), none⟩,
  .op ⟨2, some 7, .mv (.t 6), none⟩,
  .op ⟨3, some 8, .load (.agg [.int .i64, .int .i64, .int .i64, .int .i64, .int .i64, .int .i64]) (.t 3), some (7, false)⟩,
  .op ⟨4, some 9, .call 0 [(.t 8)], some (7, false)⟩,
  .op ⟨5, some 10, .un .not (.t 9), some (7, false)⟩,
  .op ⟨6, some 11, .pick (.t 7) (.c (.one (.bool true))) (.t 10), none⟩])
 (.cond (.t 11) (.seq (.reg [.op ⟨0, some 4, .mv (.c (.one (.int .i64 1))), none⟩])
 (.ret)) (.skip)))
 (.seq (.reg [.op ⟨0, some 12, .mv (.t 0), none⟩,
  .op ⟨1, some 13, .load (.agg [.int .i64, .int .i64, .int .i64, .int .i64, .int .i64, .int .i64]) (.t 3), none⟩,
  .op ⟨2, some 14, .call 1 [(.t 12), (.t 13)], none⟩,
  .op ⟨3, some 4, .mv (.t 14), none⟩])
 (.ret)))⟩
noncomputable def state_State_Apply (x0 : Ptr) (x1 : (Int × Int × Int × Int × Int × Int × Unit)) (H : Heap) : Option ((Int × Unit) × Heap) :=
 let H1 : Heap := H ++ [Blk.cells [.int .i64 x1.1, .int .i64 x1.2.1, .int .i64 x1.2.2.1, .int .i64 x1.2.2.2.1, .int .i64 x1.2.2.2.2.1, .int .i64 x1.2.2.2.2.2.1] .exact]
 cond (Option.isNone x0) (
 some ((1, ()), H1)) (
 Option.bind (α := (Int × Int × Int × Int × Int × Int × Unit)) (rd H1 (.agg [.int .i64, .int .i64, .int .i64, .int .i64, .int .i64, .int .i64]) H.length 0) fun (v2 : (Int × Int × Int × Int × Int × Int × Unit)) =>
 (rec_Check (v2.1, v2.2.1, v2.2.2.1, v2.2.2.2.1, v2.2.2.2.2.1, v2.2.2.2.2.2.1, ())).bind fun (r3 : (Bool × Unit)) =>
 cond (!r3.1) (
 some ((1, ()), H1)) (
 Option.bind (α := (Int × Int × Int × Int × Int × Int × Unit)) (rd H1 (.agg [.int .i64, .int .i64, .int .i64, .int .i64, .int .i64, .int .i64]) H.length 0) fun (v4 : (Int × Int × Int × Int × Int × Int × Unit)) =>
 (state_State_apply x0 (v4.1, v4.2.1, v4.2.2.1, v4.2.2.2.1, v4.2.2.2.2.1, v4.2.2.2.2.2.1, ()) H1).bind fun (r5 : ((Int × Unit) × Heap)) =>
 some ((r5.1.1, ()), r5.2)))
noncomputable def state_State_Apply.c : Callee := .full [.one .ptr, .agg [.int .i64, .int .i64, .int .i64, .int .i64, .int .i64, .int .i64]] [.one (.int .i64)] (fun x H => state_State_Apply x.1 x.2.1 H)
noncomputable def state_State_Apply.calls : Nat → Option Callee
  | 0 => some rec_Check.c
  | 1 => some state_State_apply.c
  | _ => none
theorem state_State_Apply.eq : evFull state_State_Apply.calls state_State_Apply.af = (fun x H => state_State_Apply x.1 x.2.1 H) := by kernel_rfl

/-! ### (*tinderbox/state.State).Copy -/
def state_State_Copy.af : AFun := ⟨[.one .ptr], [.one .ptr], [.t 2],
 .seq (.reg [.op ⟨0, some 2, .mv (.c (.one (.ptr none))), none⟩])
 (.seq (.seq (.reg [.op ⟨0, some 6, .mv (.t 0), none⟩,
  .op ⟨1, some 7, .isnil false (.t 6), none⟩])
 (.cond (.t 7) (.seq (.reg [.op ⟨0, some 2, .mv (.c (.one (.ptr none))), none⟩])
 (.ret)) (.skip)))
 (.seq (.reg [.op ⟨0, some 8, .mkm, none⟩,
  .op ⟨1, some 9, .mv (.t 0), none⟩,
  .op ⟨2, some 10, .nilc (.t 9), none⟩,
  .op ⟨3, some 11, .addr 1 (.t 10), none⟩,
  .op ⟨4, some 12, .load (.one .mp) (.t 11), none⟩,
  .op ⟨6, some 14, .mv (.t 0), none⟩,
  .op ⟨7, some 15, .nilc (.t 14), none⟩,
  .op ⟨8, some 16, .addr 2 (.t 15), none⟩,
  .op ⟨9, some 17, .load (.one .mp) (.t 16), none⟩,
  .op ⟨11, some 19, .mv (.t 0), none⟩,
  .op ⟨12, some 20, .nilc (.t 19), none⟩,
  .op ⟨13, some 21, .addr 3 (.t 20), none⟩,
  .op ⟨14, some 22, .load (.one .mp) (.t 21), none⟩,
  .op ⟨5, some 13, .call 0 [(.t 12)], none⟩,
  .still ⟨0, some 8, .mkm, none⟩,
  .again ⟨9, some 17, .load (.one .mp) (.t 16), none⟩,
  .again ⟨14, some 22, .load (.one .mp) (.t 21), none⟩,
  .op ⟨10, some 18, .call 1 [(.t 17)], none⟩,
  .still ⟨0, some 8, .mkm, none⟩,
  .again ⟨14, some 22, .load (.one .mp) (.t 21), none⟩,
  .op ⟨15, some 23, .call 0 [(.t 22)], none⟩,
  .op ⟨16, some 24, .build [.mp none, .mp none, .mp none, .mp none] [(0, 1, (.t 8)), (1, 1, (.t 13)), (2, 1, (.t 18)), (3, 1, (.t 23))], none⟩,
  .op ⟨17, some 25, .box (.t 24), none⟩,
  .op ⟨18, some 3, .mv (.t 25), none⟩,
  .still ⟨0, some 8, .mkm, none⟩])
 (.seq (.each [.op ⟨0, some 26, .mv (.t 0), none⟩, .op ⟨1, some 27, .nilc (.t 26), none⟩, .op ⟨2, some 28, .addr 0 (.t 27), none⟩, .op ⟨3, some 29, .load (.one .mp) (.t 28), none⟩] (.t 29) 30 31 32 33 (.agg [.int .i64, .bool, .mp]) [] [.op ⟨1, some 34, .ext (.t 33) 0, none⟩, .op ⟨2, some 35, .ext (.t 33) 1, none⟩, .op ⟨3, some 5, .new [.int .i64 0, .bool false, .mp none], none⟩, .op ⟨4, some 4, .mv (.t 34), none⟩, .op ⟨5, none, .store 3 (.t 5) (.t 35), none⟩] (.seq (.reg [.op ⟨0, some 36, .addr 2 (.t 5), none⟩,
  .op ⟨1, some 37, .load (.one .mp) (.t 36), none⟩,
  .op ⟨2, some 38, .call 0 [(.t 37)], none⟩,
  .op ⟨3, some 39, .addr 2 (.t 5), none⟩,
  .op ⟨4, none, .store 1 (.t 39) (.t 38), none⟩])
 (.reg [.op ⟨0, some 40, .mv (.t 3), none⟩,
  .op ⟨1, some 41, .nilc (.t 40), none⟩,
  .op ⟨2, some 42, .addr 0 (.t 41), none⟩,
  .op ⟨3, some 43, .load (.one .mp) (.t 42), none⟩,
  .op ⟨4, some 44, .mv (.t 4), none⟩,
  .op ⟨5, some 45, .load (.agg [.int .i64, .bool, .mp]) (.t 5), none⟩,
  .op ⟨6, none, .mset (.t 43) (.t 44) (.t 45), none⟩])))
 (.seq (.reg [.op ⟨0, some 46, .mv (.t 3), none⟩,
  .op ⟨1, some 2, .mv (.t 46), none⟩])
 (.ret)))))⟩
noncomputable def state_State_Copy.s1 (r13 : ((Option Nat × Unit) × Heap)) (v16 : Option Nat) (k17 : Int) (s18 : (Unit)) (H19 : Heap) : Option ((Unit) × Heap) :=
 Option.bind (α := (Int × Bool × Option Nat × Unit)) (mat H19 (.agg [.int .i64, .bool, .mp]) v16 k17) fun (v20 : (Int × Bool × Option Nat × Unit)) =>
 let H21 : Heap := H19 ++ [Blk.cells [.int .i64 0, .bool false, .mp none] .exact]
 (wr H21 H19.length 0 [.int .i64 v20.1, .bool v20.2.1, .mp v20.2.2.1]).bind fun (H22 : Heap) =>
 (rdM H22 H19.length 2).bind fun (v23 : Option Nat) =>
 (mclone v23 H22).bind fun (r24 : ((Option Nat × Unit) × Heap)) =>
 (wr r24.2 H19.length 2 [.mp r24.1.1]).bind fun (H25 : Heap) =>
 (rdM H25 r13.2.length 0).bind fun (v26 : Option Nat) =>
 Option.bind (α := (Int × Bool × Option Nat × Unit)) (rd H25 (.agg [.int .i64, .bool, .mp]) H19.length 0) fun (v27 : (Int × Bool × Option Nat × Unit)) =>
 (mset H25 v26 k17 (.agg [.int .i64 v27.1, .bool v27.2.1, .mp v27.2.2.1])).bind fun (H28 : Heap) =>
 some ((()), H28)
noncomputable def state_State_Copy (x0 : Ptr) (H : Heap) : Option ((Ptr × Unit) × Heap) :=
 cond (Option.isNone x0) (
 some ((none, ()), H)) (
 let H1 : Heap := H ++ [Blk.mp [] 0]
 (x0).bind fun (a2 : Nat × Nat) =>
 (rdM H1 a2.1 (a2.2 + 1)).bind fun (v3 : Option Nat) =>
 (x0).bind fun (a4 : Nat × Nat) =>
 (rdM H1 a4.1 (a4.2 + 2)).bind fun (v5 : Option Nat) =>
 (x0).bind fun (a6 : Nat × Nat) =>
 (rdM H1 a6.1 (a6.2 + 3)).bind fun (v7 : Option Nat) =>
 (mclone v3 H1).bind fun (r8 : ((Option Nat × Unit) × Heap)) =>
 if r8.2[(H.length)]? = some (Blk.mp [] 0) then
 (rdM r8.2 a4.1 (a4.2 + 2)).bind fun (v9 : Option Nat) =>
 if V.w (.one (.mp v9)) = V.w (.one (.mp v5)) then
 (rdM r8.2 a6.1 (a6.2 + 3)).bind fun (v10 : Option Nat) =>
 if V.w (.one (.mp v10)) = V.w (.one (.mp v7)) then
 (mclone v5 r8.2).bind fun (r11 : ((Option Nat × Unit) × Heap)) =>
 if r11.2[(H.length)]? = some (Blk.mp [] 0) then
 (rdM r11.2 a6.1 (a6.2 + 3)).bind fun (v12 : Option Nat) =>
 if V.w (.one (.mp v12)) = V.w (.one (.mp v7)) then
 (mclone v7 r11.2).bind fun (r13 : ((Option Nat × Unit) × Heap)) =>
 let H14 : Heap := r13.2 ++ [Blk.cells [.mp (some (H.length)), .mp r8.1.1, .mp r11.1.1, .mp r13.1.1] .exact]
 if H14[(H.length)]? = some (Blk.mp [] 0) then
 (x0).bind fun (a15 : Nat × Nat) =>
 (rdM H14 a15.1 a15.2).bind fun (v16 : Option Nat) =>
 (eachW (state_State_Copy.s1 r13 v16) v16 (()) (H14 ++ [Blk.dead])).bind fun (p29 : (Unit) × Heap) =>
 some ((some (r13.2.length, 0), ()), p29.2)
 else none
 else none
 else none
 else none
 else none
 else none)
noncomputable def state_State_Copy.c : Callee := .full [.one .ptr] [.one .ptr] (fun x H => state_State_Copy x.1 H)
noncomputable def state_State_Copy.calls : Nat → Option Callee
  | 0 => some mclone.c
  | 1 => some mclone.c
  | _ => none
theorem state_State_Copy.eq : evFull state_State_Copy.calls state_State_Copy.af = (fun x H => state_State_Copy x.1 H) := by kernel_rfl

/-! ### (*tinderbox/state.State).Space -/
def state_State_Space.af : AFun := ⟨[.one .ptr, .one (.int .i64)], [.agg [.int .i64, .int .i64, .int .i64, .bool], .one .bool], [.cell 4, .t 5],
 .seq (.reg [.op ⟨0, some 4, .new [.int .i64 0, .int .i64 0, .int .i64 0, .bool false], none⟩,
  .op ⟨1, some 5, .mv (.c (.one (.bool false))), none⟩])
 (.seq (.seq (.reg [.op ⟨0, some 8, .mv (.t 0), none⟩,
  .op ⟨1, some 9, .isnil false (.t 8), none⟩])
 (.cond (.t 9) (.seq (.reg [.op ⟨0, some 10, .build [.int .i64 0, .int .i64 0, .int .i64 0, .bool false] [], none⟩,
  .op ⟨1, none, .store 4 (.t 4) (.t 10), none⟩,
  .op ⟨2, some 5, .mv (.c (.one (.bool false))), none⟩])
 (.ret)) (.skip)))
 (.seq (.reg [.op ⟨0, some 12, .mv (.t 0), none⟩,
  .op ⟨1, some 13, .nilc (.t 12), none⟩,
  .op ⟨2, some 14, .addr 0 (.t 13), none⟩,
  .op ⟨3, some 15, .load (.one .mp) (.t 14), none⟩,
  .op ⟨4, some 16, .mv (.t 1), none⟩,
  .op ⟨5, some 17, .mget (.agg [.int .i64, .bool, .mp]) (.agg [.int .i64 0, .bool false, .mp none]) true (.t 15) (.t 16), none⟩,
  .op ⟨6, some 11, .mv (.t 17), none⟩,
  .op ⟨7, some 18, .ext (.t 11) 0, none⟩,
  .op ⟨8, some 19, .ext (.t 11) 1, none⟩,
  .op ⟨9, some 6, .new [.int .i64 0, .bool false, .mp none], none⟩,
  .op ⟨10, none, .store 3 (.t 6) (.t 18), none⟩,
  .op ⟨11, some 7, .mv (.t 19), none⟩])
 (.seq (.seq (.reg [.op ⟨0, some 20, .mv (.t 7), none⟩,
  .op ⟨1, some 21, .un .not (.t 20), none⟩])
 (.cond (.t 21) (.seq (.reg [.op ⟨0, some 22, .build [.int .i64 0, .int .i64 0, .int .i64 0, .bool false] [], none⟩,
  .op ⟨1, none, .store 4 (.t 4) (.t 22), none⟩,
  .op ⟨2, some 5, .mv (.c (.one (.bool false))), none⟩])
 (.ret)) (.skip)))
 (.seq (.reg [.op ⟨0, some 23, .mv (.t 1), none⟩,
  .op ⟨1, some 24, .addr 0 (.t 6), none⟩,
  .op ⟨2, some 25, .load (.one (.int .i64)) (.t 24), none⟩,
  .op ⟨3, some 26, .addr 2 (.t 6), none⟩,
  .op ⟨4, some 27, .load (.one .mp) (.t 26), none⟩,
  .op ⟨5, some 28, .mlen (.t 27), none⟩,
  .op ⟨6, some 29, .addr 1 (.t 6), none⟩,
  .op ⟨7, some 30, .load (.one .bool) (.t 29), none⟩,
  .op ⟨8, some 31, .build [.int .i64 0, .int .i64 0, .int .i64 0, .bool false] [(0, 1, (.t 23)), (1, 1, (.t 25)), (2, 1, (.t 28)), (3, 1, (.t 30))], none⟩,
  .op ⟨9, none, .store 4 (.t 4) (.t 31), none⟩,
  .op ⟨10, some 5, .mv (.c (.one (.bool true))), none⟩])
 (.ret)))))⟩
noncomputable def state_State_Space (x0 : Ptr) (x1 : Int) (H : Heap) : Option (((Int × Int × Int × Bool × Unit) × Bool × Unit) × Heap) :=
 let H1 : Heap := H ++ [Blk.cells [.int .i64 0, .int .i64 0, .int .i64 0, .bool false] .exact]
 cond (Option.isNone x0) (
 (wr H1 H.length 0 [.int .i64 0, .int .i64 0, .int .i64 0, .bool false]).bind fun (H2 : Heap) =>
 Option.bind (α := (Int × Int × Int × Bool × Unit)) (rd H2 (.agg [.int .i64, .int .i64, .int .i64, .bool]) H.length 0) fun (v3 : (Int × Int × Int × Bool × Unit)) =>
 some ((v3, false, ()), H2)) (
 (x0).bind fun (a4 : Nat × Nat) =>
 (rdM H1 a4.1 a4.2).bind fun (v5 : Option Nat) =>
 Option.bind (α := ((Int × Bool × Option Nat × Unit) × Bool)) (mget H1 (.agg [.int .i64, .bool, .mp]) (.agg [.int .i64 0, .bool false, .mp none]) v5 x1) fun (v6 : ((Int × Bool × Option Nat × Unit) × Bool)) =>
 let H7 : Heap := H1 ++ [Blk.cells [.int .i64 0, .bool false, .mp none] .exact]
 (wr H7 H1.length 0 [.int .i64 v6.1.1, .bool v6.1.2.1, .mp v6.1.2.2.1]).bind fun (H8 : Heap) =>
 cond (!v6.2) (
 (wr H8 H.length 0 [.int .i64 0, .int .i64 0, .int .i64 0, .bool false]).bind fun (H9 : Heap) =>
 Option.bind (α := (Int × Int × Int × Bool × Unit)) (rd H9 (.agg [.int .i64, .int .i64, .int .i64, .bool]) H.length 0) fun (v10 : (Int × Int × Int × Bool × Unit)) =>
 some ((v10, false, ()), H9)) (
 (rdI .i64 H8 H1.length 0).bind fun (v11 : Int) =>
 (rdM H8 H1.length 2).bind fun (v12 : Option Nat) =>
 (mlen H8 v12).bind fun (n13 : Int) =>
 (rdB H8 H1.length 1).bind fun (v14 : Bool) =>
 (wr H8 H.length 0 [.int .i64 x1, .int .i64 v11, .int .i64 n13, .bool v14]).bind fun (H15 : Heap) =>
 Option.bind (α := (Int × Int × Int × Bool × Unit)) (rd H15 (.agg [.int .i64, .int .i64, .int .i64, .bool]) H.length 0) fun (v16 : (Int × Int × Int × Bool × Unit)) =>
 some ((v16, true, ()), H15)))
noncomputable def state_State_Space.c : Callee := .full [.one .ptr, .one (.int .i64)] [.agg [.int .i64, .int .i64, .int .i64, .bool], .one .bool] (fun x H => state_State_Space x.1 x.2.1 H)
noncomputable def state_State_Space.calls : Nat → Option Callee
  | _ => none
theorem state_State_Space.eq : evFull state_State_Space.calls state_State_Space.af = (fun x H => state_State_Space x.1 x.2.1 H) := by kernel_rfl

/-! ### (*tinderbox/state.State).Live -/
def state_State_Live.af : AFun := ⟨[.one .ptr], [.one (.int .i64)], [.t 2],
 .seq (.reg [.op ⟨0, some 2, .mv (.c (.one (.int .i64 0))), none⟩])
 (.seq (.seq (.reg [.op ⟨0, some 3, .mv (.t 0), none⟩,
  .op ⟨1, some 4, .isnil false (.t 3), none⟩])
 (.cond (.t 4) (.seq (.reg [.op ⟨0, some 2, .mv (.c (.one (.int .i64 0))), none⟩])
 (.ret)) (.skip)))
 (.seq (.reg [.op ⟨0, some 5, .mv (.t 0), none⟩,
  .op ⟨1, some 6, .nilc (.t 5), none⟩,
  .op ⟨2, some 7, .addr 1 (.t 6), none⟩,
  .op ⟨3, some 8, .load (.one .mp) (.t 7), none⟩,
  .op ⟨4, some 9, .mlen (.t 8), none⟩,
  .op ⟨5, some 2, .mv (.t 9), none⟩])
 (.ret)))⟩
noncomputable def state_State_Live (x0 : Ptr) (H : Heap) : Option ((Int × Unit) × Heap) :=
 cond (Option.isNone x0) (
 some ((0, ()), H)) (
 (x0).bind fun (a1 : Nat × Nat) =>
 (rdM H a1.1 (a1.2 + 1)).bind fun (v2 : Option Nat) =>
 (mlen H v2).bind fun (n3 : Int) =>
 some ((n3, ()), H))
noncomputable def state_State_Live.c : Callee := .full [.one .ptr] [.one (.int .i64)] (fun x H => state_State_Live x.1 H)
noncomputable def state_State_Live.calls : Nat → Option Callee
  | _ => none
theorem state_State_Live.eq : evFull state_State_Live.calls state_State_Live.af = (fun x H => state_State_Live x.1 H) := by kernel_rfl

/-! ### (*tinderbox/state.State).Spaces -/
def state_State_Spaces.af : AFun := ⟨[.one .ptr], [.one (.sl 4)], [.t 2],
 .seq (.reg [.op ⟨0, some 2, .mv (.c (.one (.sl 4 (⟨none, 0, 0⟩)))), none⟩])
 (.seq (.seq (.reg [.op ⟨0, some 8, .mv (.t 0), none⟩,
  .op ⟨1, some 9, .isnil false (.t 8), none⟩])
 (.cond (.t 9) (.seq (.reg [.op ⟨0, some 2, .mv (.c (.one (.sl 4 (⟨none, 0, 0⟩)))), none⟩])
 (.ret)) (.skip)))
 (.seq (.reg [.op ⟨0, some 3, .mv (.c (.one (.sl 4 (⟨none, 0, 0⟩)))), none⟩])
 (.seq (.seq (.reg [.op ⟨0, some 10, .mv (.t 0), none⟩,
  .op ⟨1, some 11, .nilc (.t 10), none⟩,
  .op ⟨2, some 12, .addr 0 (.t 11), none⟩,
  .op ⟨3, some 13, .load (.one .mp) (.t 12), none⟩,
  .op ⟨4, some 14, .call 0 [(.t 13)], none⟩,
  .op ⟨5, some 15, .call 1 [(.t 14)], none⟩,
  .op ⟨6, some 16, .len (.t 15), none⟩,
  .op ⟨7, some 17, .mv (.c (.one (.int .i64 0))), none⟩])
 (.block 0 (.loop [(3, .one (.sl 4)), (17, .one (.int .i64))] [(.exit 0, [(3, .one (.sl 4))])] (.seq (.reg [.op ⟨0, some 18, .bin .lss (.t 17) (.t 16), none⟩])
 (.seq (.cond (.t 18) (.skip) (.exit 0))
 (.seq (.block 1 (.seq (.reg [.op ⟨0, some 19, .idxa 1 (.t 15) (.t 17), none⟩,
  .op ⟨1, some 20, .load (.one (.int .i64)) (.t 19), none⟩,
  .op ⟨2, some 5, .mv (.t 20), none⟩])
 (.seq (.reg [.op ⟨0, some 22, .mv (.t 0), none⟩,
  .op ⟨1, some 23, .mv (.t 5), none⟩,
  .op ⟨2, some 24, .call 2 [(.t 22), (.t 23)], none⟩,
  .op ⟨3, some 21, .mv (.t 24), none⟩,
  .op ⟨4, some 25, .ext (.t 21) 0, none⟩,
  .op ⟨5, some 26, .ext (.t 21) 1, none⟩,
  .op ⟨6, some 6, .new [.int .i64 0, .int .i64 0, .int .i64 0, .bool false], none⟩,
  .op ⟨7, none, .store 4 (.t 6) (.t 25), none⟩,
  .op ⟨8, some 7, .mv (.t 26), none⟩])
 (.reg [.op ⟨0, some 27, .mv (.t 3), none⟩,
  .op ⟨1, some 28, .load (.agg [.int .i64, .int .i64, .int .i64, .bool]) (.t 6), none⟩,
  .op ⟨2, some 29, .bslice 4 1 [.int .i64 0, .int .i64 0, .int .i64 0, .bool false] [(0, 4, (.t 28))], none⟩,
  .op ⟨3, some 30, .app 4 32 (.t 27) (.t 29), none⟩,
  .op ⟨4, some 3, .mv (.t 30), none⟩]))))
 (.reg [.op ⟨0, some 31, .bin .add (.t 17) (.c (.one (.int .i64 1))), none⟩,
  .op ⟨1, some 17, .mv (.t 31), none⟩])))))))
 (.seq (.reg [.op ⟨0, some 32, .mv (.t 3), none⟩,
  .op ⟨1, some 2, .mv (.t 32), none⟩])
 (.ret)))))⟩
noncomputable def state_State_Spaces.s1 (x0 : Ptr) (r4 : ((Sl × Unit) × Heap)) (s5 : (Sl × Int × Unit)) (H6 : Heap) : Option (((Sl × Int × Unit) ⊕ (Sl × Unit)) × Heap) :=
 cond (decide (s5.2.1 < (r4.1.1.len : Int))) (
 (Sl.at 1 r4.1.1 s5.2.1).bind fun (a7 : (Nat × Nat)) =>
 (rdI .i64 H6 a7.1 a7.2).bind fun (v8 : Int) =>
 (state_State_Space x0 v8 H6).bind fun (r9 : (((Int × Int × Int × Bool × Unit) × Bool × Unit) × Heap)) =>
 let H10 : Heap := r9.2 ++ [Blk.cells [.int .i64 0, .int .i64 0, .int .i64 0, .bool false] .exact]
 (wr H10 r9.2.length 0 [.int .i64 r9.1.1.1, .int .i64 r9.1.1.2.1, .int .i64 r9.1.1.2.2.1, .bool r9.1.1.2.2.2.1]).bind fun (H11 : Heap) =>
 Option.bind (α := (Int × Int × Int × Bool × Unit)) (rd H11 (.agg [.int .i64, .int .i64, .int .i64, .bool]) r9.2.length 0) fun (v12 : (Int × Int × Int × Bool × Unit)) =>
 let H13 : Heap := H11 ++ [Blk.cells [.int .i64 v12.1, .int .i64 v12.2.1, .int .i64 v12.2.2.1, .bool v12.2.2.2.1] .exact]
 (slRow H13 4 (⟨some (H11.length, 0), 1, 1⟩)).bind fun (cs14 : (List C)) =>
 (appS H13 4 32 s5.1 1 cs14).bind fun (p15 : (Sl × Heap)) =>
 some (Sum.inl (p15.1, (IntKind.wrap .i64 (s5.2.1 + 1)), ()), p15.2)) (
 some (Sum.inr (s5.1, ()), H6))
noncomputable def state_State_Spaces (x0 : Ptr) (H : Heap) : Option ((Sl × Unit) × Heap) :=
 cond (Option.isNone x0) (
 some ((⟨none, 0, 0⟩, ()), H)) (
 (x0).bind fun (a1 : Nat × Nat) =>
 (rdM H a1.1 a1.2).bind fun (v2 : Option Nat) =>
 (maps_Keys_map_int_state_space_int_state_space v2 H).bind fun (r3 : (((Ptr × Unit) × Unit) × Heap)) =>
 (sortedKeys (r3.1.1.1, ()) r3.2).bind fun (r4 : ((Sl × Unit) × Heap)) =>
 (loopW (state_State_Spaces.s1 x0 r4) (⟨none, 0, 0⟩, 0, ()) r4.2).bind fun (p16 : (Sl × Unit) × Heap) =>
 some ((p16.1.1, ()), p16.2))
noncomputable def state_State_Spaces.c : Callee := .full [.one .ptr] [.one (.sl 4)] (fun x H => state_State_Spaces x.1 H)
noncomputable def state_State_Spaces.calls : Nat → Option Callee
  | 0 => some maps_Keys_map_int_state_space_int_state_space.c
  | 1 => some (sortedKeys.c 64)
  | 2 => some state_State_Space.c
  | _ => none
theorem state_State_Spaces.eq : evFull state_State_Spaces.calls state_State_Spaces.af = (fun x H => state_State_Spaces x.1 H) := by kernel_rfl

/-! ### (*tinderbox/state.State).Keys -/
def state_State_Keys.af : AFun := ⟨[.one .ptr], [.one (.int .i64)], [.t 2],
 .seq (.reg [.op ⟨0, some 2, .mv (.c (.one (.int .i64 0))), none⟩])
 (.seq (.reg [.op ⟨0, some 3, .mv (.c (.one (.int .i64 0))), none⟩])
 (.seq (.seq (.reg [.op ⟨0, some 6, .mv (.t 0), none⟩,
  .op ⟨1, some 7, .call 0 [(.t 6)], none⟩,
  .op ⟨2, some 8, .len (.t 7), none⟩,
  .op ⟨3, some 9, .mv (.c (.one (.int .i64 0))), none⟩])
 (.block 0 (.loop [(3, .one (.int .i64)), (9, .one (.int .i64))] [(.exit 0, [(3, .one (.int .i64))])] (.seq (.reg [.op ⟨0, some 10, .bin .lss (.t 9) (.t 8), none⟩])
 (.seq (.cond (.t 10) (.skip) (.exit 0))
 (.seq (.block 1 (.seq (.reg [.op ⟨0, some 11, .idxa 4 (.t 7) (.t 9), none⟩,
  .op ⟨1, some 12, .load (.agg [.int .i64, .int .i64, .int .i64, .bool]) (.t 11), none⟩,
  .op ⟨2, some 5, .new [.int .i64 0, .int .i64 0, .int .i64 0, .bool false], none⟩,
  .op ⟨3, none, .store 4 (.t 5) (.t 12), none⟩])
 (.reg [.op ⟨0, some 13, .mv (.t 3), none⟩,
  .op ⟨1, some 14, .addr 2 (.t 5), none⟩,
  .op ⟨2, some 15, .load (.one (.int .i64)) (.t 14), none⟩,
  .op ⟨3, some 16, .bin .add (.t 13) (.t 15), none⟩,
  .op ⟨4, some 3, .mv (.t 16), none⟩])))
 (.reg [.op ⟨0, some 17, .bin .add (.t 9) (.c (.one (.int .i64 1))), none⟩,
  .op ⟨1, some 9, .mv (.t 17), none⟩])))))))
 (.seq (.reg [.op ⟨0, some 18, .mv (.t 3), none⟩,
  .op ⟨1, some 2, .mv (.t 18), none⟩])
 (.ret))))⟩
noncomputable def state_State_Keys.s1 (r1 : ((Sl × Unit) × Heap)) (s2 : (Int × Int × Unit)) (H3 : Heap) : Option (((Int × Int × Unit) ⊕ (Int × Unit)) × Heap) :=
 cond (decide (s2.2.1 < (r1.1.1.len : Int))) (
 (Sl.at 4 r1.1.1 s2.2.1).bind fun (a4 : (Nat × Nat)) =>
 Option.bind (α := (Int × Int × Int × Bool × Unit)) (rd H3 (.agg [.int .i64, .int .i64, .int .i64, .bool]) a4.1 a4.2) fun (v5 : (Int × Int × Int × Bool × Unit)) =>
 let H6 : Heap := H3 ++ [Blk.cells [.int .i64 0, .int .i64 0, .int .i64 0, .bool false] .exact]
 (wr H6 H3.length 0 [.int .i64 v5.1, .int .i64 v5.2.1, .int .i64 v5.2.2.1, .bool v5.2.2.2.1]).bind fun (H7 : Heap) =>
 (rdI .i64 H7 H3.length 2).bind fun (v8 : Int) =>
 some (Sum.inl ((IntKind.wrap .i64 (s2.1 + v8)), (IntKind.wrap .i64 (s2.2.1 + 1)), ()), H7)) (
 some (Sum.inr (s2.1, ()), H3))
noncomputable def state_State_Keys (x0 : Ptr) (H : Heap) : Option ((Int × Unit) × Heap) :=
 (state_State_Spaces x0 H).bind fun (r1 : ((Sl × Unit) × Heap)) =>
 (loopW (state_State_Keys.s1 r1) (0, 0, ()) r1.2).bind fun (p9 : (Int × Unit) × Heap) =>
 some ((p9.1.1, ()), p9.2)
noncomputable def state_State_Keys.c : Callee := .full [.one .ptr] [.one (.int .i64)] (fun x H => state_State_Keys x.1 H)
noncomputable def state_State_Keys.calls : Nat → Option Callee
  | 0 => some state_State_Spaces.c
  | _ => none
theorem state_State_Keys.eq : evFull state_State_Keys.calls state_State_Keys.af = (fun x H => state_State_Keys x.1 H) := by kernel_rfl

/-! ### (*tinderbox/state.State).Lay -/
def state_State_Lay.af : AFun := ⟨[.one .ptr, .one (.int .i64), .one (.int .i64), .one (.int .i64)], [.one (.int .i64)], [.t 8],
 .seq (.reg [.op ⟨0, some 8, .mv (.c (.one (.int .i64 0))), none⟩])
 (.seq (.seq (.reg [.op ⟨0, some 9, .mv (.t 0), none⟩,
  .op ⟨1, some 10, .isnil false (.t 9), none⟩,
  .op ⟨2, some 11, .mv (.t 10), none⟩,
  .op ⟨3, some 12, .mv (.t 3), some (11, false)⟩,
  .op ⟨4, some 13, .bin .lss (.t 12) (.c (.one (.int .i64 0))), some (11, false)⟩,
  .op ⟨5, some 14, .pick (.t 11) (.c (.one (.bool true))) (.t 13), none⟩])
 (.cond (.t 14) (.seq (.reg [.op ⟨0, some 8, .mv (.c (.one (.int .i64 1))), none⟩])
 (.ret)) (.skip)))
 (.seq (.reg [.op ⟨0, some 15, .mv (.t 0), none⟩,
  .op ⟨1, some 16, .mv (.t 1), none⟩,
  .op ⟨2, some 17, .mv (.t 2), none⟩,
  .op ⟨3, some 18, .mv (.t 3), none⟩,
  .op ⟨4, some 19, .build [.int .i64 0, .int .i64 0, .int .i64 0, .int .i64 0, .int .i64 0, .int .i64 0] [(0, 1, (.c (.one (.int .i64 1)))), (1, 1, (.t 16)), (2, 1, (.t 17)), (3, 1, (.t 18))], none⟩,
  .op ⟨5, some 20, .call 0 [(.t 15), (.t 19)], none⟩,
  .op ⟨6, some 8, .mv (.t 20), none⟩])
 (.ret)))⟩
noncomputable def state_State_Lay (x0 : Ptr) (x1 : Int) (x2 : Int) (x3 : Int) (H : Heap) : Option ((Int × Unit) × Heap) :=
 cond (Option.isNone x0) (
 some ((1, ()), H)) (
 cond (decide (x3 < 0)) (
 some ((1, ()), H)) (
 (state_State_apply x0 (1, x1, x2, x3, 0, 0, ()) H).bind fun (r1 : ((Int × Unit) × Heap)) =>
 some ((r1.1.1, ()), r1.2)))
noncomputable def state_State_Lay.c : Callee := .full [.one .ptr, .one (.int .i64), .one (.int .i64), .one (.int .i64)] [.one (.int .i64)] (fun x H => state_State_Lay x.1 x.2.1 x.2.2.1 x.2.2.2.1 H)
noncomputable def state_State_Lay.calls : Nat → Option Callee
  | 0 => some state_State_apply.c
  | _ => none
theorem state_State_Lay.eq : evFull state_State_Lay.calls state_State_Lay.af = (fun x H => state_State_Lay x.1 x.2.1 x.2.2.1 x.2.2.2.1 H) := by kernel_rfl

/-! ### (*tinderbox/state.State).Get -/
def state_State_Get.af : AFun := ⟨[.one .ptr, .one (.int .i64), .one (.int .i64)], [.one (.int .i64), .one .bool], [.t 6, .t 7],
 .seq (.reg [.op ⟨0, some 6, .mv (.c (.one (.int .i64 0))), none⟩,
  .op ⟨1, some 7, .mv (.c (.one (.bool false))), none⟩])
 (.seq (.seq (.reg [.op ⟨0, some 10, .mv (.t 0), none⟩,
  .op ⟨1, some 11, .isnil false (.t 10), none⟩])
 (.cond (.t 11) (.seq (.reg [.op ⟨0, some 6, .mv (.c (.one (.int .i64 0))), none⟩,
  .op ⟨1, some 7, .mv (.c (.one (.bool false))), none⟩])
 (.ret)) (.skip)))
 (.seq (.reg [.op ⟨0, some 13, .mv (.t 0), none⟩,
  .op ⟨1, some 14, .nilc (.t 13), none⟩,
  .op ⟨2, some 15, .addr 0 (.t 14), none⟩,
  .op ⟨3, some 16, .load (.one .mp) (.t 15), none⟩,
  .op ⟨4, some 17, .mv (.t 1), none⟩,
  .op ⟨5, some 18, .mget (.agg [.int .i64, .bool, .mp]) (.agg [.int .i64 0, .bool false, .mp none]) false (.t 16) (.t 17), none⟩,
  .op ⟨6, some 19, .field (.one .mp) 2 (.t 18), none⟩,
  .op ⟨7, some 20, .mv (.t 2), none⟩,
  .op ⟨8, some 21, .mget (.one (.int .i64)) (.one (.int .i64 0)) true (.t 19) (.t 20), none⟩,
  .op ⟨9, some 12, .mv (.t 21), none⟩,
  .op ⟨10, some 22, .ext (.t 12) 0, none⟩,
  .op ⟨11, some 23, .ext (.t 12) 1, none⟩,
  .op ⟨12, some 8, .mv (.t 22), none⟩,
  .op ⟨13, some 9, .mv (.t 23), none⟩])
 (.seq (.reg [.op ⟨0, some 24, .mv (.t 8), none⟩,
  .op ⟨1, some 25, .mv (.t 9), none⟩,
  .op ⟨2, some 6, .mv (.t 24), none⟩,
  .op ⟨3, some 7, .mv (.t 25), none⟩])
 (.ret))))⟩
noncomputable def state_State_Get (x0 : Ptr) (x1 : Int) (x2 : Int) (H : Heap) : Option ((Int × Bool × Unit) × Heap) :=
 cond (Option.isNone x0) (
 some ((0, false, ()), H)) (
 (x0).bind fun (a1 : Nat × Nat) =>
 (rdM H a1.1 a1.2).bind fun (v2 : Option Nat) =>
 Option.bind (α := ((Int × Bool × Option Nat × Unit) × Bool)) (mget H (.agg [.int .i64, .bool, .mp]) (.agg [.int .i64 0, .bool false, .mp none]) v2 x1) fun (v3 : ((Int × Bool × Option Nat × Unit) × Bool)) =>
 Option.bind (α := (Int × Bool)) (mget H (.one (.int .i64)) (.one (.int .i64 0)) v3.1.2.2.1 x2) fun (v4 : (Int × Bool)) =>
 some ((v4.1, v4.2, ()), H))
noncomputable def state_State_Get.c : Callee := .full [.one .ptr, .one (.int .i64), .one (.int .i64)] [.one (.int .i64), .one .bool] (fun x H => state_State_Get x.1 x.2.1 x.2.2.1 H)
noncomputable def state_State_Get.calls : Nat → Option Callee
  | _ => none
theorem state_State_Get.eq : evFull state_State_Get.calls state_State_Get.af = (fun x H => state_State_Get x.1 x.2.1 x.2.2.1 H) := by kernel_rfl
end Ev
