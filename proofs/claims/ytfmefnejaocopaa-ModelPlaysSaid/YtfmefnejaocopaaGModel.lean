/- What the functions of the package Model compute: abstract code, and a function of plain Lean for each; the kernel checks that they are the same. Written by gen2.py. -/
import Derived.Test.YtfmefnejaocopaaEvCore
import Derived.Test.YtfmefnejaocopaaGMaps
import Derived.Test.YtfmefnejaocopaaGRec
import Derived.KernelRfl
set_option linter.unusedVariables false
set_option maxRecDepth 100000
namespace Ev
open Go (IntKind BinOp UnOp)

/-! ### tinderbox/model.New -/
def model_New.af : AFun := ⟨[.agg [.int .i64, .int .i64, .int .i64, .int .i64], .one (.int .i64)], [.one .ptr], [.t 4],
 .seq (.reg [.op ⟨0, some 2, .box (.t 0), none⟩,
  .op ⟨1, some 4, .mv (.c (.one (.ptr none))), none⟩])
 (.seq (.reg [.op ⟨0, some 5, .mkm, none⟩,
  .op ⟨1, some 6, .load (.agg [.int .i64, .int .i64, .int .i64, .int .i64]) (.t 2), none⟩,
  .op ⟨2, some 7, .mv (.t 1), none⟩,
  .op ⟨3, some 8, .build [.mp none, .mp none, .int .i64 0, .int .i64 0, .int .i64 0, .int .i64 0, .int .i64 0, .int .i64 0, .int .i64 0] [(0, 1, (.t 5)), (2, 4, (.t 6)), (6, 1, (.t 7))], none⟩,
  .op ⟨4, some 9, .box (.t 8), none⟩,
  .op ⟨5, some 4, .mv (.t 9), none⟩])
 (.ret))⟩
noncomputable def model_New (x0 : (Int × Int × Int × Int × Unit)) (x1 : Int) (H : Heap) : Option ((Ptr × Unit) × Heap) :=
 let H1 : Heap := H ++ [Blk.cells [.int .i64 x0.1, .int .i64 x0.2.1, .int .i64 x0.2.2.1, .int .i64 x0.2.2.2.1] .exact]
 let H2 : Heap := H1 ++ [Blk.mp [] 0]
 Option.bind (α := (Int × Int × Int × Int × Unit)) (rd H2 (.agg [.int .i64, .int .i64, .int .i64, .int .i64]) H.length 0) fun (v3 : (Int × Int × Int × Int × Unit)) =>
 let H4 : Heap := H2 ++ [Blk.cells [.mp (some (H1.length)), .mp none, .int .i64 v3.1, .int .i64 v3.2.1, .int .i64 v3.2.2.1, .int .i64 v3.2.2.2.1, .int .i64 x1, .int .i64 0, .int .i64 0] .exact]
 some ((some (H2.length, 0), ()), H4)
noncomputable def model_New.c : Callee := .full [.agg [.int .i64, .int .i64, .int .i64, .int .i64], .one (.int .i64)] [.one .ptr] (fun x H => model_New x.1 x.2.1 H)
noncomputable def model_New.calls : Nat → Option Callee
  | _ => none
theorem model_New.eq : evFull model_New.calls model_New.af = (fun x H => model_New x.1 x.2.1 H) := by kernel_rfl

/-! ### (tinderbox/model.tree).clone -/
def model_tree_clone.af : AFun := ⟨[.one .mp], [.one .mp], [.t 2],
 .seq (.reg [.op ⟨0, some 2, .mv (.c (.one (.mp none))), none⟩])
 (.seq (.reg [.op ⟨0, some 6, .mkm, none⟩,
  .op ⟨1, some 3, .mv (.t 6), none⟩])
 (.seq (.each [.op ⟨0, some 7, .mv (.t 0), none⟩] (.t 7) 8 9 10 11 (.agg [.int .i64, .bool, .mp]) [] [.op ⟨1, some 12, .ext (.t 11) 0, none⟩, .op ⟨2, some 13, .ext (.t 11) 1, none⟩, .op ⟨3, some 5, .new [.int .i64 0, .bool false, .mp none], none⟩, .op ⟨4, some 4, .mv (.t 12), none⟩, .op ⟨5, none, .store 3 (.t 5) (.t 13), none⟩] (.seq (.reg [.op ⟨0, some 14, .addr 2 (.t 5), none⟩,
  .op ⟨1, some 15, .load (.one .mp) (.t 14), none⟩,
  .op ⟨2, some 16, .call 0 [(.t 15)], none⟩,
  .op ⟨3, some 17, .addr 2 (.t 5), none⟩,
  .op ⟨4, none, .store 1 (.t 17) (.t 16), none⟩])
 (.reg [.op ⟨0, some 18, .mv (.t 3), none⟩,
  .op ⟨1, some 19, .mv (.t 4), none⟩,
  .op ⟨2, some 20, .load (.agg [.int .i64, .bool, .mp]) (.t 5), none⟩,
  .op ⟨3, none, .mset (.t 18) (.t 19) (.t 20), none⟩])))
 (.seq (.reg [.op ⟨0, some 21, .mv (.t 3), none⟩,
  .op ⟨1, some 2, .mv (.t 21), none⟩])
 (.ret))))⟩
noncomputable def model_tree_clone.s1 (x0 : Option Nat) (H : Heap) (k2 : Int) (s3 : (Unit)) (H4 : Heap) : Option ((Unit) × Heap) :=
 Option.bind (α := (Int × Bool × Option Nat × Unit)) (mat H4 (.agg [.int .i64, .bool, .mp]) x0 k2) fun (v5 : (Int × Bool × Option Nat × Unit)) =>
 let H6 : Heap := H4 ++ [Blk.cells [.int .i64 0, .bool false, .mp none] .exact]
 (wr H6 H4.length 0 [.int .i64 v5.1, .bool v5.2.1, .mp v5.2.2.1]).bind fun (H7 : Heap) =>
 (rdM H7 H4.length 2).bind fun (v8 : Option Nat) =>
 (mclone v8 H7).bind fun (r9 : ((Option Nat × Unit) × Heap)) =>
 (wr r9.2 H4.length 2 [.mp r9.1.1]).bind fun (H10 : Heap) =>
 Option.bind (α := (Int × Bool × Option Nat × Unit)) (rd H10 (.agg [.int .i64, .bool, .mp]) H4.length 0) fun (v11 : (Int × Bool × Option Nat × Unit)) =>
 (mset H10 (some (H.length)) k2 (.agg [.int .i64 v11.1, .bool v11.2.1, .mp v11.2.2.1])).bind fun (H12 : Heap) =>
 some ((()), H12)
noncomputable def model_tree_clone (x0 : Option Nat) (H : Heap) : Option ((Option Nat × Unit) × Heap) :=
 let H1 : Heap := H ++ [Blk.mp [] 0]
 (eachW (model_tree_clone.s1 x0 H) x0 (()) (H1 ++ [Blk.dead])).bind fun (p13 : (Unit) × Heap) =>
 some ((some (H.length), ()), p13.2)
noncomputable def model_tree_clone.c : Callee := .full [.one .mp] [.one .mp] (fun x H => model_tree_clone x.1 H)
noncomputable def model_tree_clone.calls : Nat → Option Callee
  | 0 => some mclone.c
  | _ => none
theorem model_tree_clone.eq : evFull model_tree_clone.calls model_tree_clone.af = (fun x H => model_tree_clone x.1 H) := by kernel_rfl

/-! ### (*tinderbox/model.Model).Begin -/
def model_Model_Begin.af : AFun := ⟨[.one .ptr], [.one (.int .i64)], [.t 2],
 .seq (.reg [.op ⟨0, some 2, .mv (.c (.one (.int .i64 0))), none⟩])
 (.seq (.seq (.reg [.op ⟨0, some 3, .mv (.t 0), none⟩,
  .op ⟨1, some 4, .isnil false (.t 3), none⟩])
 (.cond (.t 4) (.seq (.reg [.op ⟨0, some 2, .mv (.c (.one (.int .i64 1))), none⟩])
 (.ret)) (.skip)))
 (.seq (.seq (.reg [.op ⟨0, some 5, .mv (.t 0), none⟩,
  .op ⟨1, some 6, .nilc (.t 5), none⟩,
  .op ⟨2, some 7, .addr 1 (.t 6), none⟩,
  .op ⟨3, some 8, .load (.one .mp) (.t 7), none⟩,
  .op ⟨4, some 9, .isnilm true (.t 8), none⟩])
 (.cond (.t 9) (.seq (.reg [.op ⟨0, some 2, .mv (.c (.one (.int .i64 180))), none⟩])
 (.ret)) (.skip)))
 (.seq (.reg [.op ⟨0, some 10, .mv (.t 0), none⟩,
  .op ⟨1, some 11, .mv (.t 0), none⟩,
  .op ⟨2, some 12, .mv (.t 0), none⟩,
  .op ⟨3, some 13, .nilc (.t 12), none⟩,
  .op ⟨4, some 14, .addr 0 (.t 13), none⟩,
  .op ⟨5, some 15, .load (.one .mp) (.t 14), none⟩,
  .op ⟨6, some 16, .call 0 [(.t 15)], none⟩,
  .op ⟨7, some 17, .nilc (.t 10), none⟩,
  .op ⟨8, some 18, .addr 1 (.t 17), none⟩,
  .op ⟨9, none, .store 1 (.t 18) (.t 16), none⟩,
  .op ⟨10, some 19, .nilc (.t 11), none⟩,
  .op ⟨11, some 20, .addr 7 (.t 19), none⟩,
  .op ⟨12, none, .store 1 (.t 20) (.c (.one (.int .i64 0))), none⟩])
 (.seq (.reg [.op ⟨0, some 2, .mv (.c (.one (.int .i64 0))), none⟩])
 (.ret)))))⟩
noncomputable def model_Model_Begin (x0 : Ptr) (H : Heap) : Option ((Int × Unit) × Heap) :=
 cond (Option.isNone x0) (
 some ((1, ()), H)) (
 (x0).bind fun (a1 : Nat × Nat) =>
 (rdM H a1.1 (a1.2 + 1)).bind fun (v2 : Option Nat) =>
 cond (!(Option.isNone v2)) (
 some ((180, ()), H)) (
 (x0).bind fun (a3 : Nat × Nat) =>
 (rdM H a3.1 a3.2).bind fun (v4 : Option Nat) =>
 (model_tree_clone v4 H).bind fun (r5 : ((Option Nat × Unit) × Heap)) =>
 (x0).bind fun (a6 : Nat × Nat) =>
 (wr r5.2 a6.1 (a6.2 + 1) [.mp r5.1.1]).bind fun (H7 : Heap) =>
 (x0).bind fun (a8 : Nat × Nat) =>
 (wr H7 a8.1 (a8.2 + 7) [.int .i64 0]).bind fun (H9 : Heap) =>
 some ((0, ()), H9)))
noncomputable def model_Model_Begin.c : Callee := .full [.one .ptr] [.one (.int .i64)] (fun x H => model_Model_Begin x.1 H)
noncomputable def model_Model_Begin.calls : Nat → Option Callee
  | 0 => some model_tree_clone.c
  | _ => none
theorem model_Model_Begin.eq : evFull model_Model_Begin.calls model_Model_Begin.af = (fun x H => model_Model_Begin x.1 H) := by kernel_rfl

/-! ### (tinderbox/model.tree).may -/
def model_tree_may.af : AFun := ⟨[.one .mp, .one (.int .i64)], [.one (.int .i64)], [.t 4],
 .seq (.reg [.op ⟨0, some 4, .mv (.c (.one (.int .i64 0))), none⟩])
 (.seq (.reg [.op ⟨0, some 8, .mv (.t 0), none⟩,
  .op ⟨1, some 9, .mv (.t 1), none⟩,
  .op ⟨2, some 10, .mget (.agg [.int .i64, .bool, .mp]) (.agg [.int .i64 0, .bool false, .mp none]) true (.t 8) (.t 9), none⟩,
  .op ⟨3, some 7, .mv (.t 10), none⟩,
  .op ⟨4, some 11, .ext (.t 7) 0, none⟩,
  .op ⟨5, some 12, .ext (.t 7) 1, none⟩,
  .op ⟨6, some 5, .new [.int .i64 0, .bool false, .mp none], none⟩,
  .op ⟨7, none, .store 3 (.t 5) (.t 11), none⟩,
  .op ⟨8, some 6, .mv (.t 12), none⟩])
 (.seq (.block 0 (.seq (.reg [.op ⟨0, some 14, .mv (.t 6), none⟩,
  .op ⟨1, some 15, .un .not (.t 14), none⟩,
  .op ⟨2, some 13, .mv (.t 15), none⟩])
 (.cond (.t 13) (.seq (.reg [.op ⟨0, some 4, .mv (.c (.one (.int .i64 80))), none⟩])
 (.ret)) (.seq (.reg [.op ⟨0, some 17, .addr 1 (.t 5), none⟩,
  .op ⟨1, some 18, .load (.one .bool) (.t 17), none⟩,
  .op ⟨2, some 16, .mv (.t 18), none⟩])
 (.cond (.t 16) (.seq (.reg [.op ⟨0, some 4, .mv (.c (.one (.int .i64 170))), none⟩])
 (.ret)) (.skip))))))
 (.seq (.reg [.op ⟨0, some 4, .mv (.c (.one (.int .i64 0))), none⟩])
 (.ret))))⟩
noncomputable def model_tree_may (x0 : Option Nat) (x1 : Int) (H : Heap) : Option ((Int × Unit) × Heap) :=
 Option.bind (α := ((Int × Bool × Option Nat × Unit) × Bool)) (mget H (.agg [.int .i64, .bool, .mp]) (.agg [.int .i64 0, .bool false, .mp none]) x0 x1) fun (v1 : ((Int × Bool × Option Nat × Unit) × Bool)) =>
 let H2 : Heap := H ++ [Blk.cells [.int .i64 0, .bool false, .mp none] .exact]
 (wr H2 H.length 0 [.int .i64 v1.1.1, .bool v1.1.2.1, .mp v1.1.2.2.1]).bind fun (H3 : Heap) =>
 cond (!v1.2) (
 some ((80, ()), H3)) (
 (rdB H3 H.length 1).bind fun (v4 : Bool) =>
 cond v4 (
 some ((170, ()), H3)) (
 some ((0, ()), H3)))
noncomputable def model_tree_may.c : Callee := .full [.one .mp, .one (.int .i64)] [.one (.int .i64)] (fun x H => model_tree_may x.1 x.2.1 H)
noncomputable def model_tree_may.calls : Nat → Option Callee
  | _ => none
theorem model_tree_may.eq : evFull model_tree_may.calls model_tree_may.af = (fun x H => model_tree_may x.1 x.2.1 H) := by kernel_rfl

/-! ### (tinderbox/model.tree).do -/
def model_tree_do.af : AFun := ⟨[.one .mp, .agg [.int .i64, .int .i64, .int .i64, .int .i64, .int .i64, .int .i64]], [.one (.int .i64)], [.t 4],
 .seq (.reg [.op ⟨0, some 3, .box (.t 1), none⟩,
  .op ⟨1, some 4, .mv (.c (.one (.int .i64 0))), none⟩])
 (.seq (.reg [.op ⟨0, some 12, .mv (.t 0), none⟩,
  .op ⟨1, some 13, .addr 1 (.t 3), none⟩,
  .op ⟨2, some 14, .load (.one (.int .i64)) (.t 13), none⟩,
  .op ⟨3, some 15, .mget (.agg [.int .i64, .bool, .mp]) (.agg [.int .i64 0, .bool false, .mp none]) true (.t 12) (.t 14), none⟩,
  .op ⟨4, some 11, .mv (.t 15), none⟩,
  .op ⟨5, some 16, .ext (.t 11) 0, none⟩,
  .op ⟨6, some 17, .ext (.t 11) 1, none⟩,
  .op ⟨7, some 5, .new [.int .i64 0, .bool false, .mp none], none⟩,
  .op ⟨8, none, .store 3 (.t 5) (.t 16), none⟩,
  .op ⟨9, some 6, .mv (.t 17), none⟩])
 (.seq (.seq (.reg [.op ⟨0, some 18, .mv (.t 6), none⟩,
  .op ⟨1, some 19, .addr 0 (.t 3), none⟩,
  .op ⟨2, some 20, .load (.one (.int .i64)) (.t 19), none⟩,
  .op ⟨3, some 21, .bin .eql (.t 20) (.c (.one (.int .i64 4))), none⟩,
  .op ⟨4, some 22, .eqb false (.t 18) (.t 21), none⟩])
 (.cond (.t 22) (.seq (.reg [.op ⟨0, some 4, .mv (.c (.one (.int .i64 80))), none⟩])
 (.ret)) (.skip)))
 (.seq (.seq (.reg [.op ⟨0, some 23, .addr 0 (.t 3), none⟩,
  .op ⟨1, some 24, .load (.one (.int .i64)) (.t 23), none⟩])
 (.block 0 (.seq (.reg [.op ⟨0, some 40, .bin .eql (.t 24) (.c (.one (.int .i64 4))), none⟩,
  .op ⟨1, some 39, .mv (.t 40), none⟩])
 (.cond (.t 39) (.reg [.op ⟨0, some 41, .mv (.t 0), none⟩,
  .op ⟨1, some 42, .addr 1 (.t 3), none⟩,
  .op ⟨2, some 43, .load (.one (.int .i64)) (.t 42), none⟩,
  .op ⟨3, some 44, .addr 5 (.t 3), none⟩,
  .op ⟨4, some 45, .load (.one (.int .i64)) (.t 44), none⟩,
  .op ⟨5, some 46, .mkm, none⟩,
  .op ⟨6, some 47, .build [.int .i64 0, .bool false, .mp none] [(0, 1, (.t 45)), (2, 1, (.t 46))], none⟩,
  .op ⟨7, none, .mset (.t 41) (.t 43) (.t 47), none⟩]) (.seq (.reg [.op ⟨0, some 49, .bin .eql (.t 24) (.c (.one (.int .i64 5))), none⟩,
  .op ⟨1, some 48, .mv (.t 49), none⟩])
 (.cond (.t 48) (.reg [.op ⟨0, some 50, .mv (.t 0), none⟩,
  .op ⟨1, some 51, .addr 1 (.t 3), none⟩,
  .op ⟨2, some 52, .load (.one (.int .i64)) (.t 51), none⟩,
  .op ⟨3, none, .mdel (.t 50) (.t 52), none⟩]) (.seq (.reg [.op ⟨0, some 54, .bin .eql (.t 24) (.c (.one (.int .i64 6))), none⟩,
  .op ⟨1, some 53, .mv (.t 54), none⟩])
 (.cond (.t 53) (.seq (.seq (.reg [.op ⟨0, some 56, .mv (.t 0), none⟩,
  .op ⟨1, some 57, .addr 4 (.t 3), none⟩,
  .op ⟨2, some 58, .load (.one (.int .i64)) (.t 57), none⟩,
  .op ⟨3, some 59, .mget (.agg [.int .i64, .bool, .mp]) (.agg [.int .i64 0, .bool false, .mp none]) true (.t 56) (.t 58), none⟩,
  .op ⟨4, some 55, .mv (.t 59), none⟩,
  .op ⟨5, some 60, .ext (.t 55) 0, none⟩,
  .op ⟨6, some 61, .ext (.t 55) 1, none⟩,
  .op ⟨7, some 7, .new [.int .i64 0, .bool false, .mp none], none⟩,
  .op ⟨8, none, .store 3 (.t 7) (.t 60), none⟩,
  .op ⟨9, some 8, .mv (.t 61), none⟩])
 (.seq (.reg [.op ⟨0, some 62, .mv (.t 8), none⟩])
 (.cond (.t 62) (.seq (.reg [.op ⟨0, some 4, .mv (.c (.one (.int .i64 80))), none⟩])
 (.ret)) (.skip))))
 (.reg [.op ⟨0, some 63, .mv (.t 0), none⟩,
  .op ⟨1, some 64, .addr 4 (.t 3), none⟩,
  .op ⟨2, some 65, .load (.one (.int .i64)) (.t 64), none⟩,
  .op ⟨3, some 66, .addr 0 (.t 5), none⟩,
  .op ⟨4, some 67, .load (.one (.int .i64)) (.t 66), none⟩,
  .op ⟨5, some 68, .addr 2 (.t 5), none⟩,
  .op ⟨6, some 69, .load (.one .mp) (.t 68), none⟩,
  .op ⟨7, some 70, .call 0 [(.t 69)], none⟩,
  .op ⟨8, some 71, .build [.int .i64 0, .bool false, .mp none] [(0, 1, (.t 67)), (2, 1, (.t 70))], none⟩,
  .again ⟨2, some 65, .load (.one (.int .i64)) (.t 64), none⟩,
  .again ⟨4, some 67, .load (.one (.int .i64)) (.t 66), none⟩,
  .op ⟨9, none, .mset (.t 63) (.t 65) (.t 71), none⟩])) (.seq (.reg [.op ⟨0, some 73, .bin .eql (.t 24) (.c (.one (.int .i64 7))), none⟩,
  .op ⟨1, some 72, .mv (.t 73), none⟩])
 (.cond (.t 72) (.seq (.reg [.op ⟨0, some 74, .addr 1 (.t 5), none⟩,
  .op ⟨1, none, .store 1 (.t 74) (.c (.one (.bool true))), none⟩])
 (.reg [.op ⟨0, some 75, .mv (.t 0), none⟩,
  .op ⟨1, some 76, .addr 1 (.t 3), none⟩,
  .op ⟨2, some 77, .load (.one (.int .i64)) (.t 76), none⟩,
  .op ⟨3, some 78, .load (.agg [.int .i64, .bool, .mp]) (.t 5), none⟩,
  .op ⟨4, none, .mset (.t 75) (.t 77) (.t 78), none⟩])) (.seq (.seq (.reg [.op ⟨0, some 26, .addr 2 (.t 5), none⟩,
  .op ⟨1, some 27, .load (.one .mp) (.t 26), none⟩,
  .op ⟨2, some 28, .addr 2 (.t 3), none⟩,
  .op ⟨3, some 29, .load (.one (.int .i64)) (.t 28), none⟩,
  .op ⟨4, some 30, .mget (.agg [.str, .int .i64]) (.agg [.str [], .int .i64 0]) true (.t 27) (.t 29), none⟩,
  .op ⟨5, some 25, .mv (.t 30), none⟩,
  .op ⟨6, some 31, .ext (.t 25) 0, none⟩,
  .op ⟨7, some 32, .ext (.t 25) 1, none⟩,
  .op ⟨8, some 9, .new [.str [], .int .i64 0], none⟩,
  .op ⟨9, none, .store 2 (.t 9) (.t 31), none⟩,
  .op ⟨10, some 10, .mv (.t 32), none⟩])
 (.seq (.reg [.op ⟨0, some 33, .mv (.t 10), none⟩,
  .op ⟨1, some 34, .un .not (.t 33), none⟩])
 (.cond (.t 34) (.seq (.reg [.op ⟨0, some 4, .mv (.c (.one (.int .i64 81))), none⟩])
 (.ret)) (.skip))))
 (.reg [.op ⟨0, some 35, .addr 2 (.t 5), none⟩,
  .op ⟨1, some 36, .load (.one .mp) (.t 35), none⟩,
  .op ⟨2, some 37, .addr 2 (.t 3), none⟩,
  .op ⟨3, some 38, .load (.one (.int .i64)) (.t 37), none⟩,
  .op ⟨4, none, .mdel (.t 36) (.t 38), none⟩]))))))))))))
 (.seq (.reg [.op ⟨0, some 4, .mv (.c (.one (.int .i64 0))), none⟩])
 (.ret)))))⟩
noncomputable def model_tree_do (x0 : Option Nat) (x1 : (Int × Int × Int × Int × Int × Int × Unit)) (H : Heap) : Option ((Int × Unit) × Heap) :=
 let H1 : Heap := H ++ [Blk.cells [.int .i64 x1.1, .int .i64 x1.2.1, .int .i64 x1.2.2.1, .int .i64 x1.2.2.2.1, .int .i64 x1.2.2.2.2.1, .int .i64 x1.2.2.2.2.2.1] .exact]
 (rdI .i64 H1 H.length 1).bind fun (v2 : Int) =>
 Option.bind (α := ((Int × Bool × Option Nat × Unit) × Bool)) (mget H1 (.agg [.int .i64, .bool, .mp]) (.agg [.int .i64 0, .bool false, .mp none]) x0 v2) fun (v3 : ((Int × Bool × Option Nat × Unit) × Bool)) =>
 let H4 : Heap := H1 ++ [Blk.cells [.int .i64 0, .bool false, .mp none] .exact]
 (wr H4 H1.length 0 [.int .i64 v3.1.1, .bool v3.1.2.1, .mp v3.1.2.2.1]).bind fun (H5 : Heap) =>
 (rdI .i64 H5 H.length 0).bind fun (v6 : Int) =>
 cond (v3.2 == (decide (v6 = 4))) (
 some ((80, ()), H5)) (
 (rdI .i64 H5 H.length 0).bind fun (v7 : Int) =>
 cond (decide (v7 = 4)) (
 (rdI .i64 H5 H.length 1).bind fun (v8 : Int) =>
 (rdI .i64 H5 H.length 5).bind fun (v9 : Int) =>
 let H10 : Heap := H5 ++ [Blk.mp [] 0]
 (mset H10 x0 v8 (.agg [.int .i64 v9, .bool false, .mp (some (H5.length))])).bind fun (H11 : Heap) =>
 some ((0, ()), H11)) (
 cond (decide (v7 = 5)) (
 (rdI .i64 H5 H.length 1).bind fun (v12 : Int) =>
 (mdel H5 x0 v12).bind fun (H13 : Heap) =>
 some ((0, ()), H13)) (
 cond (decide (v7 = 6)) (
 (rdI .i64 H5 H.length 4).bind fun (v14 : Int) =>
 Option.bind (α := ((Int × Bool × Option Nat × Unit) × Bool)) (mget H5 (.agg [.int .i64, .bool, .mp]) (.agg [.int .i64 0, .bool false, .mp none]) x0 v14) fun (v15 : ((Int × Bool × Option Nat × Unit) × Bool)) =>
 let H16 : Heap := H5 ++ [Blk.cells [.int .i64 0, .bool false, .mp none] .exact]
 (wr H16 H5.length 0 [.int .i64 v15.1.1, .bool v15.1.2.1, .mp v15.1.2.2.1]).bind fun (H17 : Heap) =>
 cond v15.2 (
 some ((80, ()), H17)) (
 (rdI .i64 H17 H.length 4).bind fun (v18 : Int) =>
 (rdI .i64 H17 H1.length 0).bind fun (v19 : Int) =>
 (rdM H17 H1.length 2).bind fun (v20 : Option Nat) =>
 (mclone v20 H17).bind fun (r21 : ((Option Nat × Unit) × Heap)) =>
 (rdI .i64 r21.2 H.length 4).bind fun (v22 : Int) =>
 if V.w (.one (.int .i64 v22)) = V.w (.one (.int .i64 v18)) then
 (rdI .i64 r21.2 H1.length 0).bind fun (v23 : Int) =>
 if V.w (.one (.int .i64 v23)) = V.w (.one (.int .i64 v19)) then
 (mset r21.2 x0 v18 (.agg [.int .i64 v19, .bool false, .mp r21.1.1])).bind fun (H24 : Heap) =>
 some ((0, ()), H24)
 else none
 else none)) (
 cond (decide (v7 = 7)) (
 (wr H5 H1.length 1 [.bool true]).bind fun (H25 : Heap) =>
 (rdI .i64 H25 H.length 1).bind fun (v26 : Int) =>
 Option.bind (α := (Int × Bool × Option Nat × Unit)) (rd H25 (.agg [.int .i64, .bool, .mp]) H1.length 0) fun (v27 : (Int × Bool × Option Nat × Unit)) =>
 (mset H25 x0 v26 (.agg [.int .i64 v27.1, .bool v27.2.1, .mp v27.2.2.1])).bind fun (H28 : Heap) =>
 some ((0, ()), H28)) (
 (rdM H5 H1.length 2).bind fun (v29 : Option Nat) =>
 (rdI .i64 H5 H.length 2).bind fun (v30 : Int) =>
 Option.bind (α := ((Bytes × Int × Unit) × Bool)) (mget H5 (.agg [.str, .int .i64]) (.agg [.str [], .int .i64 0]) v29 v30) fun (v31 : ((Bytes × Int × Unit) × Bool)) =>
 let H32 : Heap := H5 ++ [Blk.cells [.str [], .int .i64 0] .exact]
 (wr H32 H5.length 0 [.str v31.1.1, .int .i64 v31.1.2.1]).bind fun (H33 : Heap) =>
 cond (!v31.2) (
 some ((81, ()), H33)) (
 (rdM H33 H1.length 2).bind fun (v34 : Option Nat) =>
 (rdI .i64 H33 H.length 2).bind fun (v35 : Int) =>
 (mdel H33 v34 v35).bind fun (H36 : Heap) =>
 some ((0, ()), H36)))))))
noncomputable def model_tree_do.c : Callee := .full [.one .mp, .agg [.int .i64, .int .i64, .int .i64, .int .i64, .int .i64, .int .i64]] [.one (.int .i64)] (fun x H => model_tree_do x.1 x.2.1 H)
noncomputable def model_tree_do.calls : Nat → Option Callee
  | 0 => some mclone.c
  | _ => none
theorem model_tree_do.eq : evFull model_tree_do.calls model_tree_do.af = (fun x H => model_tree_do x.1 x.2.1 H) := by kernel_rfl

/-! ### (*tinderbox/model.Model).Do$1 -/
def model_Model_Do_1.af : AFun := ⟨[.one .mp, .one .ptr], [.one (.int .i64)], [.t 3],
 .seq (.reg [.op ⟨0, some 3, .mv (.c (.one (.int .i64 0))), none⟩])
 (.seq (.reg [.op ⟨0, some 4, .mv (.t 0), none⟩,
  .op ⟨1, some 5, .load (.agg [.int .i64, .int .i64, .int .i64, .int .i64, .int .i64, .int .i64]) (.t 1), none⟩,
  .op ⟨2, some 6, .call 0 [(.t 4), (.t 5)], none⟩,
  .op ⟨3, some 3, .mv (.t 6), none⟩])
 (.ret))⟩
noncomputable def model_Model_Do_1 (x0 : Option Nat) (x1 : Ptr) (H : Heap) : Option ((Int × Unit) × Heap) :=
 (x1).bind fun (a1 : Nat × Nat) =>
 Option.bind (α := (Int × Int × Int × Int × Int × Int × Unit)) (rd H (.agg [.int .i64, .int .i64, .int .i64, .int .i64, .int .i64, .int .i64]) a1.1 a1.2) fun (v2 : (Int × Int × Int × Int × Int × Int × Unit)) =>
 (model_tree_do x0 (v2.1, v2.2.1, v2.2.2.1, v2.2.2.2.1, v2.2.2.2.2.1, v2.2.2.2.2.2.1, ()) H).bind fun (r3 : ((Int × Unit) × Heap)) =>
 some ((r3.1.1, ()), r3.2)
noncomputable def model_Model_Do_1.c : Callee := .full [.one .mp, .one .ptr] [.one (.int .i64)] (fun x H => model_Model_Do_1 x.1 x.2.1 H)
noncomputable def model_Model_Do_1.calls : Nat → Option Callee
  | 0 => some model_tree_do.c
  | _ => none
theorem model_Model_Do_1.eq : evFull model_Model_Do_1.calls model_Model_Do_1.af = (fun x H => model_Model_Do_1 x.1 x.2.1 H) := by kernel_rfl

/-! ### (tinderbox/model.tree).fits -/
def model_tree_fits.af : AFun := ⟨[.one .mp, .agg [.int .i64, .int .i64, .int .i64, .int .i64]], [.one .bool], [.t 4],
 .seq (.reg [.op ⟨0, some 3, .box (.t 1), none⟩,
  .op ⟨1, some 4, .mv (.c (.one (.bool false))), none⟩])
 (.seq (.reg [.op ⟨0, some 11, .mkm, none⟩,
  .op ⟨1, some 5, .mv (.c (.one (.int .i64 0))), none⟩,
  .op ⟨2, some 6, .mv (.t 11), none⟩])
 (.seq (.each [.op ⟨0, some 12, .mv (.t 0), none⟩] (.t 12) 13 14 15 16 (.agg [.int .i64, .bool, .mp]) [(5, .one (.int .i64))] [.op ⟨1, some 17, .ext (.t 16) 1, none⟩, .op ⟨2, some 8, .new [.int .i64 0, .bool false, .mp none], none⟩, .op ⟨3, none, .store 3 (.t 8) (.t 17), none⟩] (.seq (.reg [.op ⟨0, some 18, .mv (.t 5), none⟩,
  .op ⟨1, some 19, .addr 2 (.t 8), none⟩,
  .op ⟨2, some 20, .load (.one .mp) (.t 19), none⟩,
  .op ⟨3, some 21, .mlen (.t 20), none⟩,
  .op ⟨4, some 22, .bin .add (.t 18) (.t 21), none⟩,
  .op ⟨5, some 5, .mv (.t 22), none⟩])
 (.each [.op ⟨0, some 23, .addr 2 (.t 8), none⟩, .op ⟨1, some 24, .load (.one .mp) (.t 23), none⟩] (.t 24) 25 26 27 28 (.agg [.str, .int .i64]) [] [.op ⟨1, some 29, .ext (.t 28) 1, none⟩, .op ⟨2, some 10, .new [.str [], .int .i64 0], none⟩, .op ⟨3, none, .store 2 (.t 10) (.t 29), none⟩] (.reg [.op ⟨0, some 30, .mv (.t 6), none⟩,
  .op ⟨1, some 31, .addr 1 (.t 10), none⟩,
  .op ⟨2, some 32, .load (.one (.int .i64)) (.t 31), none⟩,
  .op ⟨3, none, .mset (.t 30) (.t 32) (.c (.one (.bool true))), none⟩]))))
 (.seq (.reg [.op ⟨0, some 33, .mv (.t 5), none⟩,
  .op ⟨1, some 34, .addr 1 (.t 3), none⟩,
  .op ⟨2, some 35, .load (.one (.int .i64)) (.t 34), none⟩,
  .op ⟨3, some 36, .bin .leq (.t 33) (.t 35), none⟩,
  .op ⟨4, some 37, .mv (.t 36), none⟩,
  .op ⟨5, some 38, .mv (.t 6), some (37, true)⟩,
  .op ⟨6, some 39, .mlen (.t 38), some (37, true)⟩,
  .op ⟨7, some 40, .addr 0 (.t 3), some (37, true)⟩,
  .op ⟨8, some 41, .load (.one (.int .i64)) (.t 40), some (37, true)⟩,
  .op ⟨9, some 42, .bin .leq (.t 39) (.t 41), some (37, true)⟩,
  .op ⟨10, some 43, .pick (.t 37) (.t 42) (.c (.one (.bool false))), none⟩,
  .op ⟨11, some 4, .mv (.t 43), none⟩])
 (.ret))))⟩
noncomputable def model_tree_fits.s1 (H1 : Heap) (v11 : Option Nat) (k12 : Int) (s13 : (Unit)) (H14 : Heap) : Option ((Unit) × Heap) :=
 Option.bind (α := (Bytes × Int × Unit)) (mat H14 (.agg [.str, .int .i64]) v11 k12) fun (v15 : (Bytes × Int × Unit)) =>
 let H16 : Heap := H14 ++ [Blk.cells [.str [], .int .i64 0] .exact]
 (wr H16 H14.length 0 [.str v15.1, .int .i64 v15.2.1]).bind fun (H17 : Heap) =>
 (rdI .i64 H17 H14.length 1).bind fun (v18 : Int) =>
 (mset H17 (some (H1.length)) v18 (.one (.bool true))).bind fun (H19 : Heap) =>
 some ((()), H19)
noncomputable def model_tree_fits.s2 (x0 : Option Nat) (H1 : Heap) (k3 : Int) (s4 : (Int × Unit)) (H5 : Heap) : Option ((Int × Unit) × Heap) :=
 Option.bind (α := (Int × Bool × Option Nat × Unit)) (mat H5 (.agg [.int .i64, .bool, .mp]) x0 k3) fun (v6 : (Int × Bool × Option Nat × Unit)) =>
 let H7 : Heap := H5 ++ [Blk.cells [.int .i64 0, .bool false, .mp none] .exact]
 (wr H7 H5.length 0 [.int .i64 v6.1, .bool v6.2.1, .mp v6.2.2.1]).bind fun (H8 : Heap) =>
 (rdM H8 H5.length 2).bind fun (v9 : Option Nat) =>
 (mlen H8 v9).bind fun (n10 : Int) =>
 (rdM H8 H5.length 2).bind fun (v11 : Option Nat) =>
 (eachW (model_tree_fits.s1 H1 v11) v11 (()) (H8 ++ [Blk.dead])).bind fun (p20 : (Unit) × Heap) =>
 some (((IntKind.wrap .i64 (s4.1 + n10)), ()), p20.2)
noncomputable def model_tree_fits (x0 : Option Nat) (x1 : (Int × Int × Int × Int × Unit)) (H : Heap) : Option ((Bool × Unit) × Heap) :=
 let H1 : Heap := H ++ [Blk.cells [.int .i64 x1.1, .int .i64 x1.2.1, .int .i64 x1.2.2.1, .int .i64 x1.2.2.2.1] .exact]
 let H2 : Heap := H1 ++ [Blk.mp [] 0]
 (eachW (model_tree_fits.s2 x0 H1) x0 (0, ()) (H2 ++ [Blk.dead])).bind fun (p21 : (Int × Unit) × Heap) =>
 (rdI .i64 p21.2 H.length 1).bind fun (v22 : Int) =>
 cond (decide (p21.1.1 ≤ v22)) (
 (mlen p21.2 (some (H1.length))).bind fun (n23 : Int) =>
 (rdI .i64 p21.2 H.length 0).bind fun (v24 : Int) =>
 some (((decide (n23 ≤ v24)), ()), p21.2)) (
 some ((false, ()), p21.2))
noncomputable def model_tree_fits.c : Callee := .full [.one .mp, .agg [.int .i64, .int .i64, .int .i64, .int .i64]] [.one .bool] (fun x H => model_tree_fits x.1 x.2.1 H)
noncomputable def model_tree_fits.calls : Nat → Option Callee
  | _ => none
theorem model_tree_fits.eq : evFull model_tree_fits.calls model_tree_fits.af = (fun x H => model_tree_fits x.1 x.2.1 H) := by kernel_rfl

/-! ### (*tinderbox/model.Model).step.of.model_Model_Do_1 -/
def model_Model_step_of_model_Model_Do_1.af : AFun := ⟨[.one .ptr, .one (.clo 64 1)], [.one (.int .i64)], [.t 4],
 .seq (.reg [.op ⟨0, some 4, .mv (.c (.one (.int .i64 0))), none⟩])
 (.seq (.seq (.reg [.op ⟨0, some 7, .mv (.t 0), none⟩,
  .op ⟨1, some 8, .nilc (.t 7), none⟩,
  .op ⟨2, some 9, .addr 7 (.t 8), none⟩,
  .op ⟨3, some 10, .load (.one (.int .i64)) (.t 9), none⟩,
  .op ⟨4, some 11, .bin .geq (.t 10) (.c (.one (.int .i64 8))), none⟩])
 (.cond (.t 11) (.seq (.reg [.op ⟨0, some 4, .mv (.c (.one (.int .i64 171))), none⟩])
 (.ret)) (.skip)))
 (.seq (.reg [.op ⟨0, some 12, .mv (.t 0), none⟩,
  .op ⟨1, some 13, .nilc (.t 12), none⟩,
  .op ⟨2, some 14, .addr 1 (.t 13), none⟩,
  .op ⟨3, some 15, .load (.one .mp) (.t 14), none⟩,
  .op ⟨4, some 16, .call 0 [(.t 15)], none⟩,
  .op ⟨5, some 5, .mv (.t 16), none⟩])
 (.seq (.seq (.reg [.op ⟨0, some 17, .mv (.t 1), none⟩,
  .op ⟨1, some 18, .mv (.t 5), none⟩,
  .op ⟨2, some 19, .callc 64 1 (.t 17) 1 [(.t 18)], none⟩,
  .op ⟨3, some 6, .mv (.t 19), none⟩])
 (.seq (.reg [.op ⟨0, some 20, .mv (.t 6), none⟩,
  .op ⟨1, some 21, .bin .neq (.t 20) (.c (.one (.int .i64 0))), none⟩])
 (.cond (.t 21) (.seq (.reg [.op ⟨0, some 22, .mv (.t 6), none⟩,
  .op ⟨1, some 4, .mv (.t 22), none⟩])
 (.ret)) (.skip))))
 (.seq (.seq (.reg [.op ⟨0, some 23, .mv (.t 5), none⟩,
  .op ⟨1, some 24, .mv (.t 0), none⟩,
  .op ⟨2, some 25, .nilc (.t 24), none⟩,
  .op ⟨3, some 26, .addr 2 (.t 25), none⟩,
  .op ⟨4, some 27, .load (.agg [.int .i64, .int .i64, .int .i64, .int .i64]) (.t 26), none⟩,
  .op ⟨5, some 28, .call 2 [(.t 23), (.t 27)], none⟩,
  .op ⟨6, some 29, .un .not (.t 28), none⟩])
 (.cond (.t 29) (.seq (.reg [.op ⟨0, some 4, .mv (.c (.one (.int .i64 172))), none⟩])
 (.ret)) (.skip)))
 (.seq (.reg [.op ⟨0, some 30, .mv (.t 0), none⟩,
  .op ⟨1, some 31, .mv (.t 5), none⟩,
  .op ⟨2, some 32, .nilc (.t 30), none⟩,
  .op ⟨3, some 33, .addr 1 (.t 32), none⟩,
  .op ⟨4, none, .store 1 (.t 33) (.t 31), none⟩])
 (.seq (.reg [.op ⟨0, some 34, .mv (.t 0), none⟩,
  .op ⟨1, some 35, .nilc (.t 34), none⟩,
  .op ⟨2, some 36, .addr 7 (.t 35), none⟩,
  .op ⟨3, some 37, .load (.one (.int .i64)) (.t 36), none⟩,
  .op ⟨4, some 38, .bin .add (.t 37) (.c (.one (.int .i64 1))), none⟩,
  .op ⟨5, some 39, .nilc (.t 34), none⟩,
  .op ⟨6, some 40, .addr 7 (.t 39), none⟩,
  .op ⟨7, none, .store 1 (.t 40) (.t 38), none⟩])
 (.seq (.reg [.op ⟨0, some 4, .mv (.c (.one (.int .i64 0))), none⟩])
 (.ret))))))))⟩
noncomputable def model_Model_step_of_model_Model_Do_1 (x0 : Ptr) (x1 : (Ptr × Unit)) (H : Heap) : Option ((Int × Unit) × Heap) :=
 (x0).bind fun (a1 : Nat × Nat) =>
 (rdI .i64 H a1.1 (a1.2 + 7)).bind fun (v2 : Int) =>
 cond (decide (8 ≤ v2)) (
 some ((171, ()), H)) (
 (x0).bind fun (a3 : Nat × Nat) =>
 (rdM H a3.1 (a3.2 + 1)).bind fun (v4 : Option Nat) =>
 (model_tree_clone v4 H).bind fun (r5 : ((Option Nat × Unit) × Heap)) =>
 (model_Model_Do_1 r5.1.1 x1.1 r5.2).bind fun (r6 : ((Int × Unit) × Heap)) =>
 cond (!decide (r6.1.1 = 0)) (
 some ((r6.1.1, ()), r6.2)) (
 (x0).bind fun (a7 : Nat × Nat) =>
 Option.bind (α := (Int × Int × Int × Int × Unit)) (rd r6.2 (.agg [.int .i64, .int .i64, .int .i64, .int .i64]) a7.1 (a7.2 + 2)) fun (v8 : (Int × Int × Int × Int × Unit)) =>
 (model_tree_fits r5.1.1 (v8.1, v8.2.1, v8.2.2.1, v8.2.2.2.1, ()) r6.2).bind fun (r9 : ((Bool × Unit) × Heap)) =>
 cond (!r9.1.1) (
 some ((172, ()), r9.2)) (
 (x0).bind fun (a10 : Nat × Nat) =>
 (wr r9.2 a10.1 (a10.2 + 1) [.mp r5.1.1]).bind fun (H11 : Heap) =>
 (x0).bind fun (a12 : Nat × Nat) =>
 (rdI .i64 H11 a12.1 (a12.2 + 7)).bind fun (v13 : Int) =>
 (x0).bind fun (a14 : Nat × Nat) =>
 (wr H11 a14.1 (a14.2 + 7) [.int .i64 (IntKind.wrap .i64 (v13 + 1))]).bind fun (H15 : Heap) =>
 some ((0, ()), H15))))
noncomputable def model_Model_step_of_model_Model_Do_1.c : Callee := .full [.one .ptr, .one (.clo 64 1)] [.one (.int .i64)] (fun x H => model_Model_step_of_model_Model_Do_1 x.1 x.2.1 H)
noncomputable def model_Model_step_of_model_Model_Do_1.calls : Nat → Option Callee
  | 0 => some model_tree_clone.c
  | 1 => some model_Model_Do_1.c
  | 2 => some model_tree_fits.c
  | _ => none
theorem model_Model_step_of_model_Model_Do_1.eq : evFull model_Model_step_of_model_Model_Do_1.calls model_Model_step_of_model_Model_Do_1.af = (fun x H => model_Model_step_of_model_Model_Do_1 x.1 x.2.1 H) := by kernel_rfl

/-! ### (*tinderbox/model.Model).Do -/
def model_Model_Do.af : AFun := ⟨[.one .ptr, .agg [.int .i64, .int .i64, .int .i64, .int .i64, .int .i64, .int .i64]], [.one (.int .i64)], [.t 4],
 .seq (.reg [.op ⟨0, some 3, .box (.t 1), none⟩,
  .op ⟨1, some 4, .mv (.c (.one (.int .i64 0))), none⟩])
 (.seq (.scope [(.normal, [(5, .one .bool)])] (.reg [.op ⟨0, some 7, .addr 0 (.t 3), none⟩,
  .op ⟨1, some 8, .load (.one (.int .i64)) (.t 7), none⟩,
  .op ⟨2, some 9, .bin .eql (.t 8) (.c (.one (.int .i64 2))), none⟩,
  .op ⟨3, some 10, .mv (.t 9), none⟩,
  .op ⟨4, some 11, .addr 0 (.t 3), some (10, false)⟩,
  .op ⟨5, some 12, .load (.one (.int .i64)) (.t 11), some (10, false)⟩,
  .op ⟨6, some 13, .bin .geq (.t 12) (.c (.one (.int .i64 4))), some (10, false)⟩,
  .op ⟨7, some 14, .mv (.t 13), some (10, false)⟩,
  .op ⟨8, some 15, .addr 0 (.t 3), some (14, true)⟩,
  .op ⟨9, some 16, .load (.one (.int .i64)) (.t 15), some (14, true)⟩,
  .op ⟨10, some 17, .bin .leq (.t 16) (.c (.one (.int .i64 7))), some (14, true)⟩,
  .op ⟨11, some 18, .pick (.t 14) (.t 17) (.c (.one (.bool false))), some (10, false)⟩,
  .op ⟨12, some 19, .pick (.t 10) (.c (.one (.bool true))) (.t 18), none⟩,
  .op ⟨13, some 5, .mv (.t 19), none⟩]))
 (.seq (.block 0 (.seq (.reg [.op ⟨0, some 21, .mv (.t 0), none⟩,
  .op ⟨1, some 22, .isnil false (.t 21), none⟩,
  .op ⟨2, some 20, .mv (.t 22), none⟩])
 (.cond (.t 20) (.seq (.reg [.op ⟨0, some 4, .mv (.c (.one (.int .i64 1))), none⟩])
 (.ret)) (.seq (.reg [.op ⟨0, some 24, .mv (.t 0), none⟩,
  .op ⟨1, some 25, .nilc (.t 24), none⟩,
  .op ⟨2, some 26, .addr 1 (.t 25), none⟩,
  .op ⟨3, some 27, .load (.one .mp) (.t 26), none⟩,
  .op ⟨4, some 28, .isnilm false (.t 27), none⟩,
  .op ⟨5, some 23, .mv (.t 28), none⟩])
 (.cond (.t 23) (.seq (.reg [.op ⟨0, some 4, .mv (.c (.one (.int .i64 180))), none⟩])
 (.ret)) (.seq (.reg [.op ⟨0, some 30, .mv (.t 5), none⟩,
  .op ⟨1, some 31, .un .not (.t 30), none⟩,
  .op ⟨2, some 32, .mv (.t 31), none⟩,
  .op ⟨3, some 33, .load (.agg [.int .i64, .int .i64, .int .i64, .int .i64, .int .i64, .int .i64]) (.t 3), some (32, false)⟩,
  .op ⟨4, some 34, .call 0 [(.t 33)], some (32, false)⟩,
  .op ⟨5, some 35, .un .not (.t 34), some (32, false)⟩,
  .op ⟨6, some 36, .pick (.t 32) (.c (.one (.bool true))) (.t 35), none⟩,
  .op ⟨7, some 29, .mv (.t 36), none⟩])
 (.cond (.t 29) (.seq (.reg [.op ⟨0, some 4, .mv (.c (.one (.int .i64 1))), none⟩])
 (.ret)) (.skip))))))))
 (.seq (.scope [(.normal, []), (.ret, [(4, .one (.int .i64))])] (.seq (.reg [.op ⟨0, some 37, .addr 0 (.t 3), none⟩,
  .op ⟨1, some 38, .load (.one (.int .i64)) (.t 37), none⟩,
  .op ⟨2, some 39, .bin .eql (.t 38) (.c (.one (.int .i64 2))), none⟩])
 (.cond (.t 39) (.seq (.reg [.op ⟨0, some 40, .mv (.t 0), none⟩,
  .op ⟨1, some 41, .nilc (.t 40), none⟩,
  .op ⟨2, some 42, .addr 1 (.t 41), none⟩,
  .op ⟨3, some 43, .load (.one .mp) (.t 42), none⟩,
  .op ⟨4, some 44, .addr 1 (.t 3), none⟩,
  .op ⟨5, some 45, .load (.one (.int .i64)) (.t 44), none⟩,
  .op ⟨6, some 46, .call 1 [(.t 43), (.t 45)], none⟩,
  .op ⟨7, some 6, .mv (.t 46), none⟩])
 (.seq (.reg [.op ⟨0, some 47, .mv (.t 6), none⟩,
  .op ⟨1, some 48, .bin .neq (.t 47) (.c (.one (.int .i64 0))), none⟩])
 (.cond (.t 48) (.seq (.reg [.op ⟨0, some 49, .mv (.t 6), none⟩,
  .op ⟨1, some 4, .mv (.t 49), none⟩])
 (.ret)) (.skip)))) (.skip))))
 (.seq (.reg [.op ⟨0, some 50, .mv (.t 0), none⟩,
  .op ⟨1, some 51, .mkf 64 [(.t 3)], none⟩,
  .op ⟨2, some 52, .call 2 [(.t 50), (.t 51)], none⟩,
  .op ⟨3, some 4, .mv (.t 52), none⟩])
 (.ret)))))⟩
noncomputable def model_Model_Do (x0 : Ptr) (x1 : (Int × Int × Int × Int × Int × Int × Unit)) (H : Heap) : Option ((Int × Unit) × Heap) :=
 let H1 : Heap := H ++ [Blk.cells [.int .i64 x1.1, .int .i64 x1.2.1, .int .i64 x1.2.2.1, .int .i64 x1.2.2.2.1, .int .i64 x1.2.2.2.2.1, .int .i64 x1.2.2.2.2.2.1] .exact]
 ((rdI .i64 H1 H.length 0).bind fun (v2 : Int) =>
 cond (decide (v2 = 2)) (
 some ((true, ()), H1)) (
 (rdI .i64 H1 H.length 0).bind fun (v3 : Int) =>
 cond (decide (4 ≤ v3)) (
 (rdI .i64 H1 H.length 0).bind fun (v4 : Int) =>
 some (((decide (v4 ≤ 7)), ()), H1)) (
 some ((false, ()), H1))) : Option ((Bool × Unit) × Heap)).bind fun (p5 : (Bool × Unit) × Heap) =>
 cond (Option.isNone x0) (
 some ((1, ()), p5.2)) (
 (x0).bind fun (a6 : Nat × Nat) =>
 (rdM p5.2 a6.1 (a6.2 + 1)).bind fun (v7 : Option Nat) =>
 cond (Option.isNone v7) (
 some ((180, ()), p5.2)) (
 cond (!p5.1.1) (
 some ((1, ()), p5.2)) (
 Option.bind (α := (Int × Int × Int × Int × Int × Int × Unit)) (rd p5.2 (.agg [.int .i64, .int .i64, .int .i64, .int .i64, .int .i64, .int .i64]) H.length 0) fun (v8 : (Int × Int × Int × Int × Int × Int × Unit)) =>
 (rec_Check (v8.1, v8.2.1, v8.2.2.1, v8.2.2.2.1, v8.2.2.2.2.1, v8.2.2.2.2.2.1, ())).bind fun (r9 : (Bool × Unit)) =>
 cond (!r9.1) (
 some ((1, ()), p5.2)) (
 ((rdI .i64 p5.2 H.length 0).bind fun (v10 : Int) =>
 cond (decide (v10 = 2)) (
 (x0).bind fun (a11 : Nat × Nat) =>
 (rdM p5.2 a11.1 (a11.2 + 1)).bind fun (v12 : Option Nat) =>
 (rdI .i64 p5.2 H.length 1).bind fun (v13 : Int) =>
 (model_tree_may v12 v13 p5.2).bind fun (r14 : ((Int × Unit) × Heap)) =>
 cond (!decide (r14.1.1 = 0)) (
 some (Sum.inr (r14.1.1, ()), r14.2)) (
 some (Sum.inl (()), r14.2))) (
 some (Sum.inl (()), p5.2)) : Option (((Unit) ⊕ (Int × Unit)) × Heap)).bind fun (p15 : ((Unit) ⊕ (Int × Unit)) × Heap) =>
 Sum.elim (fun (y16 : (Unit)) =>
 (model_Model_step_of_model_Model_Do_1 x0 (some (H.length, 0), ()) p15.2).bind fun (r17 : ((Int × Unit) × Heap)) =>
 some ((r17.1.1, ()), r17.2)) (fun (z18 : (Int × Unit)) =>
 some ((z18.1, ()), p15.2)) p15.1))))
noncomputable def model_Model_Do.c : Callee := .full [.one .ptr, .agg [.int .i64, .int .i64, .int .i64, .int .i64, .int .i64, .int .i64]] [.one (.int .i64)] (fun x H => model_Model_Do x.1 x.2.1 H)
noncomputable def model_Model_Do.calls : Nat → Option Callee
  | 0 => some rec_Check.c
  | 1 => some model_tree_may.c
  | 2 => some model_Model_step_of_model_Model_Do_1.c
  | _ => none
theorem model_Model_Do.eq : evFull model_Model_Do.calls model_Model_Do.af = (fun x H => model_Model_Do x.1 x.2.1 H) := by kernel_rfl

/-! ### (*tinderbox/model.Model).Put$1 -/
def model_Model_Put_1.af : AFun := ⟨[.one .mp, .one .ptr, .one .ptr, .one .ptr, .one .ptr], [.one (.int .i64)], [.t 6],
 .seq (.reg [.op ⟨0, some 6, .mv (.c (.one (.int .i64 0))), none⟩])
 (.seq (.seq (.reg [.op ⟨0, some 7, .load (.one (.int .i64)) (.t 1), none⟩,
  .op ⟨1, some 8, .bin .lss (.t 7) (.c (.one (.int .i64 0))), none⟩,
  .op ⟨2, some 9, .mv (.t 8), none⟩,
  .op ⟨3, some 10, .load (.one (.int .i64)) (.t 1), some (9, false)⟩,
  .op ⟨4, some 11, .mv (.t 0), some (9, false)⟩,
  .op ⟨5, some 12, .load (.one (.int .i64)) (.t 2), some (9, false)⟩,
  .op ⟨6, some 13, .mget (.agg [.int .i64, .bool, .mp]) (.agg [.int .i64 0, .bool false, .mp none]) false (.t 11) (.t 12), some (9, false)⟩,
  .op ⟨7, some 14, .field (.one (.int .i64)) 0 (.t 13), some (9, false)⟩,
  .op ⟨8, some 15, .bin .geq (.t 10) (.t 14), some (9, false)⟩,
  .op ⟨9, some 16, .pick (.t 9) (.c (.one (.bool true))) (.t 15), none⟩])
 (.cond (.t 16) (.seq (.reg [.op ⟨0, some 6, .mv (.c (.one (.int .i64 81))), none⟩])
 (.ret)) (.skip)))
 (.seq (.reg [.op ⟨0, some 17, .load (.one .ptr) (.t 3), none⟩,
  .op ⟨1, some 18, .nilc (.t 17), none⟩,
  .op ⟨2, some 19, .addr 8 (.t 18), none⟩,
  .op ⟨3, some 20, .load (.one (.int .i64)) (.t 19), none⟩,
  .op ⟨4, some 21, .bin .add (.t 20) (.c (.one (.int .i64 1))), none⟩,
  .op ⟨5, some 22, .nilc (.t 17), none⟩,
  .op ⟨6, some 23, .addr 8 (.t 22), none⟩,
  .op ⟨7, none, .store 1 (.t 23) (.t 21), none⟩])
 (.seq (.reg [.op ⟨0, some 24, .mv (.t 0), none⟩,
  .op ⟨1, some 25, .load (.one (.int .i64)) (.t 2), none⟩,
  .op ⟨2, some 26, .mget (.agg [.int .i64, .bool, .mp]) (.agg [.int .i64 0, .bool false, .mp none]) false (.t 24) (.t 25), none⟩,
  .op ⟨3, some 27, .field (.one .mp) 2 (.t 26), none⟩,
  .op ⟨4, some 28, .load (.one (.int .i64)) (.t 1), none⟩,
  .op ⟨5, some 29, .load (.one .str) (.t 4), none⟩,
  .op ⟨6, some 30, .load (.one .ptr) (.t 3), none⟩,
  .op ⟨7, some 31, .nilc (.t 30), none⟩,
  .op ⟨8, some 32, .addr 8 (.t 31), none⟩,
  .op ⟨9, some 33, .load (.one (.int .i64)) (.t 32), none⟩,
  .op ⟨10, some 34, .build [.str [], .int .i64 0] [(0, 1, (.t 29)), (1, 1, (.t 33))], none⟩,
  .op ⟨11, none, .mset (.t 27) (.t 28) (.t 34), none⟩])
 (.seq (.reg [.op ⟨0, some 6, .mv (.c (.one (.int .i64 0))), none⟩])
 (.ret)))))⟩
noncomputable def model_Model_Put_1 (x0 : Option Nat) (x1 : Ptr) (x2 : Ptr) (x3 : Ptr) (x4 : Ptr) (H : Heap) : Option ((Int × Unit) × Heap) :=
 (x1).bind fun (a1 : Nat × Nat) =>
 (rdI .i64 H a1.1 a1.2).bind fun (v2 : Int) =>
 cond (decide (v2 < 0)) (
 some ((81, ()), H)) (
 (x1).bind fun (a3 : Nat × Nat) =>
 (rdI .i64 H a3.1 a3.2).bind fun (v4 : Int) =>
 (x2).bind fun (a5 : Nat × Nat) =>
 (rdI .i64 H a5.1 a5.2).bind fun (v6 : Int) =>
 Option.bind (α := ((Int × Bool × Option Nat × Unit) × Bool)) (mget H (.agg [.int .i64, .bool, .mp]) (.agg [.int .i64 0, .bool false, .mp none]) x0 v6) fun (v7 : ((Int × Bool × Option Nat × Unit) × Bool)) =>
 cond (decide (v7.1.1 ≤ v4)) (
 some ((81, ()), H)) (
 (x3).bind fun (a8 : Nat × Nat) =>
 (rdP H a8.1 a8.2).bind fun (v9 : Ptr) =>
 (v9).bind fun (a10 : Nat × Nat) =>
 (rdI .i64 H a10.1 (a10.2 + 8)).bind fun (v11 : Int) =>
 (v9).bind fun (a12 : Nat × Nat) =>
 (wr H a12.1 (a12.2 + 8) [.int .i64 (IntKind.wrap .i64 (v11 + 1))]).bind fun (H13 : Heap) =>
 (x2).bind fun (a14 : Nat × Nat) =>
 (rdI .i64 H13 a14.1 a14.2).bind fun (v15 : Int) =>
 Option.bind (α := ((Int × Bool × Option Nat × Unit) × Bool)) (mget H13 (.agg [.int .i64, .bool, .mp]) (.agg [.int .i64 0, .bool false, .mp none]) x0 v15) fun (v16 : ((Int × Bool × Option Nat × Unit) × Bool)) =>
 (x1).bind fun (a17 : Nat × Nat) =>
 (rdI .i64 H13 a17.1 a17.2).bind fun (v18 : Int) =>
 (x4).bind fun (a19 : Nat × Nat) =>
 (rdS H13 a19.1 a19.2).bind fun (v20 : Bytes) =>
 (x3).bind fun (a21 : Nat × Nat) =>
 (rdP H13 a21.1 a21.2).bind fun (v22 : Ptr) =>
 (v22).bind fun (a23 : Nat × Nat) =>
 (rdI .i64 H13 a23.1 (a23.2 + 8)).bind fun (v24 : Int) =>
 (mset H13 v16.1.2.2.1 v18 (.agg [.str v20, .int .i64 v24])).bind fun (H25 : Heap) =>
 some ((0, ()), H25)))
noncomputable def model_Model_Put_1.c : Callee := .full [.one .mp, .one .ptr, .one .ptr, .one .ptr, .one .ptr] [.one (.int .i64)] (fun x H => model_Model_Put_1 x.1 x.2.1 x.2.2.1 x.2.2.2.1 x.2.2.2.2.1 H)
noncomputable def model_Model_Put_1.calls : Nat → Option Callee
  | _ => none
theorem model_Model_Put_1.eq : evFull model_Model_Put_1.calls model_Model_Put_1.af = (fun x H => model_Model_Put_1 x.1 x.2.1 x.2.2.1 x.2.2.2.1 x.2.2.2.2.1 H) := by kernel_rfl

/-! ### (*tinderbox/model.Model).step.of.model_Model_Put_1 -/
def model_Model_step_of_model_Model_Put_1.af : AFun := ⟨[.one .ptr, .one (.clo 63 4)], [.one (.int .i64)], [.t 4],
 .seq (.reg [.op ⟨0, some 4, .mv (.c (.one (.int .i64 0))), none⟩])
 (.seq (.seq (.reg [.op ⟨0, some 7, .mv (.t 0), none⟩,
  .op ⟨1, some 8, .nilc (.t 7), none⟩,
  .op ⟨2, some 9, .addr 7 (.t 8), none⟩,
  .op ⟨3, some 10, .load (.one (.int .i64)) (.t 9), none⟩,
  .op ⟨4, some 11, .bin .geq (.t 10) (.c (.one (.int .i64 8))), none⟩])
 (.cond (.t 11) (.seq (.reg [.op ⟨0, some 4, .mv (.c (.one (.int .i64 171))), none⟩])
 (.ret)) (.skip)))
 (.seq (.reg [.op ⟨0, some 12, .mv (.t 0), none⟩,
  .op ⟨1, some 13, .nilc (.t 12), none⟩,
  .op ⟨2, some 14, .addr 1 (.t 13), none⟩,
  .op ⟨3, some 15, .load (.one .mp) (.t 14), none⟩,
  .op ⟨4, some 16, .call 0 [(.t 15)], none⟩,
  .op ⟨5, some 5, .mv (.t 16), none⟩])
 (.seq (.seq (.reg [.op ⟨0, some 17, .mv (.t 1), none⟩,
  .op ⟨1, some 18, .mv (.t 5), none⟩,
  .op ⟨2, some 19, .callc 63 4 (.t 17) 1 [(.t 18)], none⟩,
  .op ⟨3, some 6, .mv (.t 19), none⟩])
 (.seq (.reg [.op ⟨0, some 20, .mv (.t 6), none⟩,
  .op ⟨1, some 21, .bin .neq (.t 20) (.c (.one (.int .i64 0))), none⟩])
 (.cond (.t 21) (.seq (.reg [.op ⟨0, some 22, .mv (.t 6), none⟩,
  .op ⟨1, some 4, .mv (.t 22), none⟩])
 (.ret)) (.skip))))
 (.seq (.seq (.reg [.op ⟨0, some 23, .mv (.t 5), none⟩,
  .op ⟨1, some 24, .mv (.t 0), none⟩,
  .op ⟨2, some 25, .nilc (.t 24), none⟩,
  .op ⟨3, some 26, .addr 2 (.t 25), none⟩,
  .op ⟨4, some 27, .load (.agg [.int .i64, .int .i64, .int .i64, .int .i64]) (.t 26), none⟩,
  .op ⟨5, some 28, .call 2 [(.t 23), (.t 27)], none⟩,
  .op ⟨6, some 29, .un .not (.t 28), none⟩])
 (.cond (.t 29) (.seq (.reg [.op ⟨0, some 4, .mv (.c (.one (.int .i64 172))), none⟩])
 (.ret)) (.skip)))
 (.seq (.reg [.op ⟨0, some 30, .mv (.t 0), none⟩,
  .op ⟨1, some 31, .mv (.t 5), none⟩,
  .op ⟨2, some 32, .nilc (.t 30), none⟩,
  .op ⟨3, some 33, .addr 1 (.t 32), none⟩,
  .op ⟨4, none, .store 1 (.t 33) (.t 31), none⟩])
 (.seq (.reg [.op ⟨0, some 34, .mv (.t 0), none⟩,
  .op ⟨1, some 35, .nilc (.t 34), none⟩,
  .op ⟨2, some 36, .addr 7 (.t 35), none⟩,
  .op ⟨3, some 37, .load (.one (.int .i64)) (.t 36), none⟩,
  .op ⟨4, some 38, .bin .add (.t 37) (.c (.one (.int .i64 1))), none⟩,
  .op ⟨5, some 39, .nilc (.t 34), none⟩,
  .op ⟨6, some 40, .addr 7 (.t 39), none⟩,
  .op ⟨7, none, .store 1 (.t 40) (.t 38), none⟩])
 (.seq (.reg [.op ⟨0, some 4, .mv (.c (.one (.int .i64 0))), none⟩])
 (.ret))))))))⟩
noncomputable def model_Model_step_of_model_Model_Put_1 (x0 : Ptr) (x1 : (Ptr × Ptr × Ptr × Ptr × Unit)) (H : Heap) : Option ((Int × Unit) × Heap) :=
 (x0).bind fun (a1 : Nat × Nat) =>
 (rdI .i64 H a1.1 (a1.2 + 7)).bind fun (v2 : Int) =>
 cond (decide (8 ≤ v2)) (
 some ((171, ()), H)) (
 (x0).bind fun (a3 : Nat × Nat) =>
 (rdM H a3.1 (a3.2 + 1)).bind fun (v4 : Option Nat) =>
 (model_tree_clone v4 H).bind fun (r5 : ((Option Nat × Unit) × Heap)) =>
 (model_Model_Put_1 r5.1.1 x1.1 x1.2.1 x1.2.2.1 x1.2.2.2.1 r5.2).bind fun (r6 : ((Int × Unit) × Heap)) =>
 cond (!decide (r6.1.1 = 0)) (
 some ((r6.1.1, ()), r6.2)) (
 (x0).bind fun (a7 : Nat × Nat) =>
 Option.bind (α := (Int × Int × Int × Int × Unit)) (rd r6.2 (.agg [.int .i64, .int .i64, .int .i64, .int .i64]) a7.1 (a7.2 + 2)) fun (v8 : (Int × Int × Int × Int × Unit)) =>
 (model_tree_fits r5.1.1 (v8.1, v8.2.1, v8.2.2.1, v8.2.2.2.1, ()) r6.2).bind fun (r9 : ((Bool × Unit) × Heap)) =>
 cond (!r9.1.1) (
 some ((172, ()), r9.2)) (
 (x0).bind fun (a10 : Nat × Nat) =>
 (wr r9.2 a10.1 (a10.2 + 1) [.mp r5.1.1]).bind fun (H11 : Heap) =>
 (x0).bind fun (a12 : Nat × Nat) =>
 (rdI .i64 H11 a12.1 (a12.2 + 7)).bind fun (v13 : Int) =>
 (x0).bind fun (a14 : Nat × Nat) =>
 (wr H11 a14.1 (a14.2 + 7) [.int .i64 (IntKind.wrap .i64 (v13 + 1))]).bind fun (H15 : Heap) =>
 some ((0, ()), H15))))
noncomputable def model_Model_step_of_model_Model_Put_1.c : Callee := .full [.one .ptr, .one (.clo 63 4)] [.one (.int .i64)] (fun x H => model_Model_step_of_model_Model_Put_1 x.1 x.2.1 H)
noncomputable def model_Model_step_of_model_Model_Put_1.calls : Nat → Option Callee
  | 0 => some model_tree_clone.c
  | 1 => some model_Model_Put_1.c
  | 2 => some model_tree_fits.c
  | _ => none
theorem model_Model_step_of_model_Model_Put_1.eq : evFull model_Model_step_of_model_Model_Put_1.calls model_Model_step_of_model_Model_Put_1.af = (fun x H => model_Model_step_of_model_Model_Put_1 x.1 x.2.1 H) := by kernel_rfl

/-! ### (*tinderbox/model.Model).Put -/
def model_Model_Put.af : AFun := ⟨[.one .ptr, .one (.int .i64), .one (.int .i64), .one .str], [.one (.int .i64)], [.t 8],
 .seq (.reg [.op ⟨0, some 4, .box (.t 0), none⟩,
  .op ⟨1, some 5, .box (.t 1), none⟩,
  .op ⟨2, some 6, .box (.t 2), none⟩,
  .op ⟨3, some 7, .box (.t 3), none⟩,
  .op ⟨4, some 8, .mv (.c (.one (.int .i64 0))), none⟩])
 (.seq (.block 0 (.seq (.reg [.op ⟨0, some 11, .load (.one .ptr) (.t 4), none⟩,
  .op ⟨1, some 12, .isnil false (.t 11), none⟩,
  .op ⟨2, some 10, .mv (.t 12), none⟩])
 (.cond (.t 10) (.seq (.reg [.op ⟨0, some 8, .mv (.c (.one (.int .i64 1))), none⟩])
 (.ret)) (.seq (.reg [.op ⟨0, some 14, .load (.one .ptr) (.t 4), none⟩,
  .op ⟨1, some 15, .nilc (.t 14), none⟩,
  .op ⟨2, some 16, .addr 1 (.t 15), none⟩,
  .op ⟨3, some 17, .load (.one .mp) (.t 16), none⟩,
  .op ⟨4, some 18, .isnilm false (.t 17), none⟩,
  .op ⟨5, some 13, .mv (.t 18), none⟩])
 (.cond (.t 13) (.seq (.reg [.op ⟨0, some 8, .mv (.c (.one (.int .i64 180))), none⟩])
 (.ret)) (.seq (.reg [.op ⟨0, some 20, .load (.one .str) (.t 7), none⟩,
  .op ⟨1, some 21, .lens (.t 20), none⟩,
  .op ⟨2, some 22, .load (.one .ptr) (.t 4), none⟩,
  .op ⟨3, some 23, .nilc (.t 22), none⟩,
  .op ⟨4, some 24, .addr 6 (.t 23), none⟩,
  .op ⟨5, some 25, .load (.one (.int .i64)) (.t 24), none⟩,
  .op ⟨6, some 26, .bin .gtr (.t 21) (.t 25), none⟩,
  .op ⟨7, some 19, .mv (.t 26), none⟩])
 (.cond (.t 19) (.seq (.reg [.op ⟨0, some 8, .mv (.c (.one (.int .i64 173))), none⟩])
 (.ret)) (.skip))))))))
 (.seq (.seq (.reg [.op ⟨0, some 27, .load (.one .ptr) (.t 4), none⟩,
  .op ⟨1, some 28, .nilc (.t 27), none⟩,
  .op ⟨2, some 29, .addr 1 (.t 28), none⟩,
  .op ⟨3, some 30, .load (.one .mp) (.t 29), none⟩,
  .op ⟨4, some 31, .load (.one (.int .i64)) (.t 5), none⟩,
  .op ⟨5, some 32, .call 0 [(.t 30), (.t 31)], none⟩,
  .op ⟨6, some 9, .mv (.t 32), none⟩])
 (.seq (.reg [.op ⟨0, some 33, .mv (.t 9), none⟩,
  .op ⟨1, some 34, .bin .neq (.t 33) (.c (.one (.int .i64 0))), none⟩])
 (.cond (.t 34) (.seq (.reg [.op ⟨0, some 35, .mv (.t 9), none⟩,
  .op ⟨1, some 8, .mv (.t 35), none⟩])
 (.ret)) (.skip))))
 (.seq (.reg [.op ⟨0, some 36, .load (.one .ptr) (.t 4), none⟩,
  .op ⟨1, some 37, .mkf 63 [(.t 6), (.t 5), (.t 4), (.t 7)], none⟩,
  .op ⟨2, some 38, .call 1 [(.t 36), (.t 37)], none⟩,
  .op ⟨3, some 8, .mv (.t 38), none⟩])
 (.ret))))⟩
noncomputable def model_Model_Put (x0 : Ptr) (x1 : Int) (x2 : Int) (x3 : Bytes) (H : Heap) : Option ((Int × Unit) × Heap) :=
 let H1 : Heap := H ++ [Blk.cells [.ptr x0] .exact]
 let H2 : Heap := H1 ++ [Blk.cells [.int .i64 x1] .exact]
 let H3 : Heap := H2 ++ [Blk.cells [.int .i64 x2] .exact]
 let H4 : Heap := H3 ++ [Blk.cells [.str x3] .exact]
 (rdP H4 H.length 0).bind fun (v5 : Ptr) =>
 cond (Option.isNone v5) (
 some ((1, ()), H4)) (
 (rdP H4 H.length 0).bind fun (v6 : Ptr) =>
 (v6).bind fun (a7 : Nat × Nat) =>
 (rdM H4 a7.1 (a7.2 + 1)).bind fun (v8 : Option Nat) =>
 cond (Option.isNone v8) (
 some ((180, ()), H4)) (
 (rdS H4 H3.length 0).bind fun (v9 : Bytes) =>
 (rdP H4 H.length 0).bind fun (v10 : Ptr) =>
 (v10).bind fun (a11 : Nat × Nat) =>
 (rdI .i64 H4 a11.1 (a11.2 + 6)).bind fun (v12 : Int) =>
 cond (decide (v12 < (List.length (v9 : Bytes) : Int))) (
 some ((173, ()), H4)) (
 (rdP H4 H.length 0).bind fun (v13 : Ptr) =>
 (v13).bind fun (a14 : Nat × Nat) =>
 (rdM H4 a14.1 (a14.2 + 1)).bind fun (v15 : Option Nat) =>
 (rdI .i64 H4 H1.length 0).bind fun (v16 : Int) =>
 (model_tree_may v15 v16 H4).bind fun (r17 : ((Int × Unit) × Heap)) =>
 cond (!decide (r17.1.1 = 0)) (
 some ((r17.1.1, ()), r17.2)) (
 (rdP r17.2 H.length 0).bind fun (v18 : Ptr) =>
 (model_Model_step_of_model_Model_Put_1 v18 (some (H2.length, 0), some (H1.length, 0), some (H.length, 0), some (H3.length, 0), ()) r17.2).bind fun (r19 : ((Int × Unit) × Heap)) =>
 some ((r19.1.1, ()), r19.2)))))
noncomputable def model_Model_Put.c : Callee := .full [.one .ptr, .one (.int .i64), .one (.int .i64), .one .str] [.one (.int .i64)] (fun x H => model_Model_Put x.1 x.2.1 x.2.2.1 x.2.2.2.1 H)
noncomputable def model_Model_Put.calls : Nat → Option Callee
  | 0 => some model_tree_may.c
  | 1 => some model_Model_step_of_model_Model_Put_1.c
  | _ => none
theorem model_Model_Put.eq : evFull model_Model_Put.calls model_Model_Put.af = (fun x H => model_Model_Put x.1 x.2.1 x.2.2.1 x.2.2.2.1 H) := by kernel_rfl

/-! ### (*tinderbox/model.Model).end -/
def model_Model_end.af : AFun := ⟨[.one .ptr, .one .bool], [.one (.int .i64)], [.t 4],
 .seq (.reg [.op ⟨0, some 4, .mv (.c (.one (.int .i64 0))), none⟩])
 (.seq (.block 0 (.seq (.reg [.op ⟨0, some 6, .mv (.t 0), none⟩,
  .op ⟨1, some 7, .isnil false (.t 6), none⟩,
  .op ⟨2, some 5, .mv (.t 7), none⟩])
 (.cond (.t 5) (.seq (.reg [.op ⟨0, some 4, .mv (.c (.one (.int .i64 1))), none⟩])
 (.ret)) (.seq (.reg [.op ⟨0, some 9, .mv (.t 0), none⟩,
  .op ⟨1, some 10, .nilc (.t 9), none⟩,
  .op ⟨2, some 11, .addr 1 (.t 10), none⟩,
  .op ⟨3, some 12, .load (.one .mp) (.t 11), none⟩,
  .op ⟨4, some 13, .isnilm false (.t 12), none⟩,
  .op ⟨5, some 8, .mv (.t 13), none⟩])
 (.cond (.t 8) (.seq (.reg [.op ⟨0, some 4, .mv (.c (.one (.int .i64 180))), none⟩])
 (.ret)) (.seq (.reg [.op ⟨0, some 15, .mv (.t 1), none⟩,
  .op ⟨1, some 14, .mv (.t 15), none⟩])
 (.cond (.t 14) (.reg [.op ⟨0, some 16, .mv (.t 0), none⟩,
  .op ⟨1, some 17, .mv (.t 0), none⟩,
  .op ⟨2, some 18, .nilc (.t 17), none⟩,
  .op ⟨3, some 19, .addr 1 (.t 18), none⟩,
  .op ⟨4, some 20, .load (.one .mp) (.t 19), none⟩,
  .op ⟨5, some 21, .nilc (.t 16), none⟩,
  .op ⟨6, some 22, .addr 0 (.t 21), none⟩,
  .op ⟨7, none, .store 1 (.t 22) (.t 20), none⟩]) (.skip))))))))
 (.seq (.reg [.op ⟨0, some 23, .mv (.t 0), none⟩,
  .op ⟨1, some 24, .nilc (.t 23), none⟩,
  .op ⟨2, some 25, .addr 1 (.t 24), none⟩,
  .op ⟨3, none, .store 1 (.t 25) (.c (.one (.mp none))), none⟩])
 (.seq (.reg [.op ⟨0, some 4, .mv (.c (.one (.int .i64 0))), none⟩])
 (.ret))))⟩
noncomputable def model_Model_end (x0 : Ptr) (x1 : Bool) (H : Heap) : Option ((Int × Unit) × Heap) :=
 cond (Option.isNone x0) (
 some ((1, ()), H)) (
 (x0).bind fun (a1 : Nat × Nat) =>
 (rdM H a1.1 (a1.2 + 1)).bind fun (v2 : Option Nat) =>
 cond (Option.isNone v2) (
 some ((180, ()), H)) (
 cond x1 (
 (x0).bind fun (a3 : Nat × Nat) =>
 (rdM H a3.1 (a3.2 + 1)).bind fun (v4 : Option Nat) =>
 (x0).bind fun (a5 : Nat × Nat) =>
 (wr H a5.1 a5.2 [.mp v4]).bind fun (H6 : Heap) =>
 (x0).bind fun (a7 : Nat × Nat) =>
 (wr H6 a7.1 (a7.2 + 1) [.mp none]).bind fun (H8 : Heap) =>
 some ((0, ()), H8)) (
 (x0).bind fun (a9 : Nat × Nat) =>
 (wr H a9.1 (a9.2 + 1) [.mp none]).bind fun (H10 : Heap) =>
 some ((0, ()), H10))))
noncomputable def model_Model_end.c : Callee := .full [.one .ptr, .one .bool] [.one (.int .i64)] (fun x H => model_Model_end x.1 x.2.1 H)
noncomputable def model_Model_end.calls : Nat → Option Callee
  | _ => none
theorem model_Model_end.eq : evFull model_Model_end.calls model_Model_end.af = (fun x H => model_Model_end x.1 x.2.1 H) := by kernel_rfl

/-! ### (*tinderbox/model.Model).Commit -/
def model_Model_Commit.af : AFun := ⟨[.one .ptr], [.one (.int .i64)], [.t 2],
 .seq (.reg [.op ⟨0, some 2, .mv (.c (.one (.int .i64 0))), none⟩])
 (.seq (.reg [.op ⟨0, some 3, .mv (.t 0), none⟩,
  .op ⟨1, some 4, .call 0 [(.t 3), (.c (.one (.bool true)))], none⟩,
  .op ⟨2, some 2, .mv (.t 4), none⟩])
 (.ret))⟩
noncomputable def model_Model_Commit (x0 : Ptr) (H : Heap) : Option ((Int × Unit) × Heap) :=
 (model_Model_end x0 true H).bind fun (r1 : ((Int × Unit) × Heap)) =>
 some ((r1.1.1, ()), r1.2)
noncomputable def model_Model_Commit.c : Callee := .full [.one .ptr] [.one (.int .i64)] (fun x H => model_Model_Commit x.1 H)
noncomputable def model_Model_Commit.calls : Nat → Option Callee
  | 0 => some model_Model_end.c
  | _ => none
theorem model_Model_Commit.eq : evFull model_Model_Commit.calls model_Model_Commit.af = (fun x H => model_Model_Commit x.1 H) := by kernel_rfl

/-! ### (*tinderbox/model.Model).see -/
def model_Model_see.af : AFun := ⟨[.one .ptr], [.one .mp], [.t 2],
 .seq (.reg [.op ⟨0, some 2, .mv (.c (.one (.mp none))), none⟩])
 (.seq (.block 0 (.seq (.reg [.op ⟨0, some 4, .mv (.t 0), none⟩,
  .op ⟨1, some 5, .isnil false (.t 4), none⟩,
  .op ⟨2, some 3, .mv (.t 5), none⟩])
 (.cond (.t 3) (.seq (.reg [.op ⟨0, some 2, .mv (.c (.one (.mp none))), none⟩])
 (.ret)) (.seq (.reg [.op ⟨0, some 7, .mv (.t 0), none⟩,
  .op ⟨1, some 8, .nilc (.t 7), none⟩,
  .op ⟨2, some 9, .addr 1 (.t 8), none⟩,
  .op ⟨3, some 10, .load (.one .mp) (.t 9), none⟩,
  .op ⟨4, some 11, .isnilm true (.t 10), none⟩,
  .op ⟨5, some 6, .mv (.t 11), none⟩])
 (.cond (.t 6) (.seq (.reg [.op ⟨0, some 12, .mv (.t 0), none⟩,
  .op ⟨1, some 13, .nilc (.t 12), none⟩,
  .op ⟨2, some 14, .addr 1 (.t 13), none⟩,
  .op ⟨3, some 15, .load (.one .mp) (.t 14), none⟩,
  .op ⟨4, some 2, .mv (.t 15), none⟩])
 (.ret)) (.skip))))))
 (.seq (.reg [.op ⟨0, some 16, .mv (.t 0), none⟩,
  .op ⟨1, some 17, .nilc (.t 16), none⟩,
  .op ⟨2, some 18, .addr 0 (.t 17), none⟩,
  .op ⟨3, some 19, .load (.one .mp) (.t 18), none⟩,
  .op ⟨4, some 2, .mv (.t 19), none⟩])
 (.ret)))⟩
noncomputable def model_Model_see (x0 : Ptr) (H : Heap) : Option ((Option Nat × Unit) × Heap) :=
 cond (Option.isNone x0) (
 some ((none, ()), H)) (
 (x0).bind fun (a1 : Nat × Nat) =>
 (rdM H a1.1 (a1.2 + 1)).bind fun (v2 : Option Nat) =>
 cond (!(Option.isNone v2)) (
 (x0).bind fun (a3 : Nat × Nat) =>
 (rdM H a3.1 (a3.2 + 1)).bind fun (v4 : Option Nat) =>
 some ((v4, ()), H)) (
 (x0).bind fun (a5 : Nat × Nat) =>
 (rdM H a5.1 a5.2).bind fun (v6 : Option Nat) =>
 some ((v6, ()), H)))
noncomputable def model_Model_see.c : Callee := .full [.one .ptr] [.one .mp] (fun x H => model_Model_see x.1 H)
noncomputable def model_Model_see.calls : Nat → Option Callee
  | _ => none
theorem model_Model_see.eq : evFull model_Model_see.calls model_Model_see.af = (fun x H => model_Model_see x.1 H) := by kernel_rfl

/-! ### (*tinderbox/model.Model).Get -/
def model_Model_Get.af : AFun := ⟨[.one .ptr, .one (.int .i64), .one (.int .i64)], [.one .str, .one (.int .i64)], [.t 6, .t 7],
 .seq (.reg [.op ⟨0, some 6, .mv (.c (.one (.str []))), none⟩,
  .op ⟨1, some 7, .mv (.c (.one (.int .i64 0))), none⟩])
 (.seq (.seq (.reg [.op ⟨0, some 10, .mv (.t 0), none⟩,
  .op ⟨1, some 11, .isnil false (.t 10), none⟩])
 (.cond (.t 11) (.seq (.reg [.op ⟨0, some 6, .mv (.c (.one (.str []))), none⟩,
  .op ⟨1, some 7, .mv (.c (.one (.int .i64 1))), none⟩])
 (.ret)) (.skip)))
 (.seq (.reg [.op ⟨0, some 13, .mv (.t 0), none⟩,
  .op ⟨1, some 14, .call 0 [(.t 13)], none⟩,
  .op ⟨2, some 15, .mv (.t 1), none⟩,
  .op ⟨3, some 16, .mget (.agg [.int .i64, .bool, .mp]) (.agg [.int .i64 0, .bool false, .mp none]) false (.t 14) (.t 15), none⟩,
  .op ⟨4, some 17, .field (.one .mp) 2 (.t 16), none⟩,
  .op ⟨5, some 18, .mv (.t 2), none⟩,
  .op ⟨6, some 19, .mget (.agg [.str, .int .i64]) (.agg [.str [], .int .i64 0]) true (.t 17) (.t 18), none⟩,
  .op ⟨7, some 12, .mv (.t 19), none⟩,
  .op ⟨8, some 20, .ext (.t 12) 0, none⟩,
  .op ⟨9, some 21, .ext (.t 12) 1, none⟩,
  .op ⟨10, some 8, .new [.str [], .int .i64 0], none⟩,
  .op ⟨11, none, .store 2 (.t 8) (.t 20), none⟩,
  .op ⟨12, some 9, .mv (.t 21), none⟩])
 (.seq (.seq (.reg [.op ⟨0, some 22, .mv (.t 9), none⟩,
  .op ⟨1, some 23, .un .not (.t 22), none⟩])
 (.cond (.t 23) (.seq (.reg [.op ⟨0, some 6, .mv (.c (.one (.str []))), none⟩,
  .op ⟨1, some 7, .mv (.c (.one (.int .i64 181))), none⟩])
 (.ret)) (.skip)))
 (.seq (.reg [.op ⟨0, some 24, .addr 0 (.t 8), none⟩,
  .op ⟨1, some 25, .load (.one .str) (.t 24), none⟩,
  .op ⟨2, some 6, .mv (.t 25), none⟩,
  .op ⟨3, some 7, .mv (.c (.one (.int .i64 0))), none⟩])
 (.ret)))))⟩
noncomputable def model_Model_Get (x0 : Ptr) (x1 : Int) (x2 : Int) (H : Heap) : Option ((Bytes × Int × Unit) × Heap) :=
 cond (Option.isNone x0) (
 some (([], 1, ()), H)) (
 (model_Model_see x0 H).bind fun (r1 : ((Option Nat × Unit) × Heap)) =>
 Option.bind (α := ((Int × Bool × Option Nat × Unit) × Bool)) (mget r1.2 (.agg [.int .i64, .bool, .mp]) (.agg [.int .i64 0, .bool false, .mp none]) r1.1.1 x1) fun (v2 : ((Int × Bool × Option Nat × Unit) × Bool)) =>
 Option.bind (α := ((Bytes × Int × Unit) × Bool)) (mget r1.2 (.agg [.str, .int .i64]) (.agg [.str [], .int .i64 0]) v2.1.2.2.1 x2) fun (v3 : ((Bytes × Int × Unit) × Bool)) =>
 let H4 : Heap := r1.2 ++ [Blk.cells [.str [], .int .i64 0] .exact]
 (wr H4 r1.2.length 0 [.str v3.1.1, .int .i64 v3.1.2.1]).bind fun (H5 : Heap) =>
 cond (!v3.2) (
 some (([], 181, ()), H5)) (
 (rdS H5 r1.2.length 0).bind fun (v6 : Bytes) =>
 some ((v6, 0, ()), H5)))
noncomputable def model_Model_Get.c : Callee := .full [.one .ptr, .one (.int .i64), .one (.int .i64)] [.one .str, .one (.int .i64)] (fun x H => model_Model_Get x.1 x.2.1 x.2.2.1 H)
noncomputable def model_Model_Get.calls : Nat → Option Callee
  | 0 => some model_Model_see.c
  | _ => none
theorem model_Model_Get.eq : evFull model_Model_Get.calls model_Model_Get.af = (fun x H => model_Model_Get x.1 x.2.1 x.2.2.1 H) := by kernel_rfl

/-! ### (*tinderbox/model.Model).Leaves -/
def model_Model_Leaves.af : AFun := ⟨[.one .ptr], [.one (.sl 3)], [.t 2],
 .seq (.reg [.op ⟨0, some 2, .mv (.c (.one (.sl 3 (⟨none, 0, 0⟩)))), none⟩])
 (.seq (.reg [.op ⟨0, some 9, .mv (.t 0), none⟩,
  .op ⟨1, some 10, .call 0 [(.t 9)], none⟩,
  .op ⟨2, some 3, .mv (.t 10), none⟩])
 (.seq (.reg [.op ⟨0, some 4, .mv (.c (.one (.sl 3 (⟨none, 0, 0⟩)))), none⟩])
 (.seq (.seq (.reg [.op ⟨0, some 11, .mv (.t 3), none⟩,
  .op ⟨1, some 12, .call 1 [(.t 11)], none⟩,
  .op ⟨2, some 13, .call 2 [(.t 12)], none⟩,
  .op ⟨3, some 14, .len (.t 13), none⟩,
  .op ⟨4, some 15, .mv (.c (.one (.int .i64 0))), none⟩])
 (.block 0 (.loop [(4, .one (.sl 3)), (15, .one (.int .i64))] [(.exit 0, [(4, .one (.sl 3))])] (.seq (.reg [.op ⟨0, some 16, .bin .lss (.t 15) (.t 14), none⟩])
 (.seq (.cond (.t 16) (.skip) (.exit 0))
 (.seq (.block 1 (.seq (.reg [.op ⟨0, some 17, .idxa 1 (.t 13) (.t 15), none⟩,
  .op ⟨1, some 18, .load (.one (.int .i64)) (.t 17), none⟩,
  .op ⟨2, some 6, .mv (.t 18), none⟩])
 (.seq (.reg [.op ⟨0, some 19, .mv (.t 3), none⟩,
  .op ⟨1, some 20, .mv (.t 6), none⟩,
  .op ⟨2, some 21, .mget (.agg [.int .i64, .bool, .mp]) (.agg [.int .i64 0, .bool false, .mp none]) false (.t 19) (.t 20), none⟩,
  .op ⟨3, some 22, .field (.one .mp) 2 (.t 21), none⟩,
  .op ⟨4, some 23, .call 3 [(.t 22)], none⟩,
  .op ⟨5, some 24, .call 4 [(.t 23)], none⟩,
  .op ⟨6, some 25, .len (.t 24), none⟩,
  .op ⟨7, some 26, .mv (.c (.one (.int .i64 0))), none⟩])
 (.block 2 (.loop [(4, .one (.sl 3)), (26, .one (.int .i64))] [(.exit 2, [(4, .one (.sl 3))])] (.seq (.reg [.op ⟨0, some 27, .bin .lss (.t 26) (.t 25), none⟩])
 (.seq (.cond (.t 27) (.skip) (.exit 2))
 (.seq (.block 3 (.seq (.reg [.op ⟨0, some 28, .idxa 1 (.t 24) (.t 26), none⟩,
  .op ⟨1, some 29, .load (.one (.int .i64)) (.t 28), none⟩,
  .op ⟨2, some 8, .mv (.t 29), none⟩])
 (.reg [.op ⟨0, some 30, .mv (.t 4), none⟩,
  .op ⟨1, some 31, .mv (.t 6), none⟩,
  .op ⟨2, some 32, .mv (.t 8), none⟩,
  .op ⟨3, some 33, .mv (.t 3), none⟩,
  .op ⟨4, some 34, .mv (.t 6), none⟩,
  .op ⟨5, some 35, .mget (.agg [.int .i64, .bool, .mp]) (.agg [.int .i64 0, .bool false, .mp none]) false (.t 33) (.t 34), none⟩,
  .op ⟨6, some 36, .field (.one .mp) 2 (.t 35), none⟩,
  .op ⟨7, some 37, .mv (.t 8), none⟩,
  .op ⟨8, some 38, .mget (.agg [.str, .int .i64]) (.agg [.str [], .int .i64 0]) false (.t 36) (.t 37), none⟩,
  .op ⟨9, some 39, .field (.one .str) 0 (.t 38), none⟩,
  .op ⟨10, some 40, .build [.int .i64 0, .int .i64 0, .str []] [(0, 1, (.t 31)), (1, 1, (.t 32)), (2, 1, (.t 39))], none⟩,
  .op ⟨11, some 41, .bslice 3 1 [.int .i64 0, .int .i64 0, .str []] [(0, 3, (.t 40))], none⟩,
  .op ⟨12, some 42, .app 3 32 (.t 30) (.t 41), none⟩,
  .op ⟨13, some 4, .mv (.t 42), none⟩])))
 (.reg [.op ⟨0, some 43, .bin .add (.t 26) (.c (.one (.int .i64 1))), none⟩,
  .op ⟨1, some 26, .mv (.t 43), none⟩])))))))))
 (.reg [.op ⟨0, some 44, .bin .add (.t 15) (.c (.one (.int .i64 1))), none⟩,
  .op ⟨1, some 15, .mv (.t 44), none⟩])))))))
 (.seq (.reg [.op ⟨0, some 45, .mv (.t 4), none⟩,
  .op ⟨1, some 2, .mv (.t 45), none⟩])
 (.ret)))))⟩
noncomputable def model_Model_Leaves.s1 (r1 : ((Option Nat × Unit) × Heap)) (v7 : Int) (r10 : ((Sl × Unit) × Heap)) (s11 : (Sl × Int × Unit)) (H12 : Heap) : Option (((Sl × Int × Unit) ⊕ (Sl × Unit)) × Heap) :=
 cond (decide (s11.2.1 < (r10.1.1.len : Int))) (
 (Sl.at 1 r10.1.1 s11.2.1).bind fun (a13 : (Nat × Nat)) =>
 (rdI .i64 H12 a13.1 a13.2).bind fun (v14 : Int) =>
 Option.bind (α := ((Int × Bool × Option Nat × Unit) × Bool)) (mget H12 (.agg [.int .i64, .bool, .mp]) (.agg [.int .i64 0, .bool false, .mp none]) r1.1.1 v7) fun (v15 : ((Int × Bool × Option Nat × Unit) × Bool)) =>
 Option.bind (α := ((Bytes × Int × Unit) × Bool)) (mget H12 (.agg [.str, .int .i64]) (.agg [.str [], .int .i64 0]) v15.1.2.2.1 v14) fun (v16 : ((Bytes × Int × Unit) × Bool)) =>
 let H17 : Heap := H12 ++ [Blk.cells [.int .i64 v7, .int .i64 v14, .str v16.1.1] .exact]
 (slRow H17 3 (⟨some (H12.length, 0), 1, 1⟩)).bind fun (cs18 : (List C)) =>
 (appS H17 3 32 s11.1 1 cs18).bind fun (p19 : (Sl × Heap)) =>
 some (Sum.inl (p19.1, (IntKind.wrap .i64 (s11.2.1 + 1)), ()), p19.2)) (
 some (Sum.inr (s11.1, ()), H12))
noncomputable def model_Model_Leaves.s2 (r1 : ((Option Nat × Unit) × Heap)) (r3 : ((Sl × Unit) × Heap)) (s4 : (Sl × Int × Unit)) (H5 : Heap) : Option (((Sl × Int × Unit) ⊕ (Sl × Unit)) × Heap) :=
 cond (decide (s4.2.1 < (r3.1.1.len : Int))) (
 (Sl.at 1 r3.1.1 s4.2.1).bind fun (a6 : (Nat × Nat)) =>
 (rdI .i64 H5 a6.1 a6.2).bind fun (v7 : Int) =>
 Option.bind (α := ((Int × Bool × Option Nat × Unit) × Bool)) (mget H5 (.agg [.int .i64, .bool, .mp]) (.agg [.int .i64 0, .bool false, .mp none]) r1.1.1 v7) fun (v8 : ((Int × Bool × Option Nat × Unit) × Bool)) =>
 (maps_Keys_map_int_model_leaf_int_model_leaf v8.1.2.2.1 H5).bind fun (r9 : (((Ptr × Unit) × Unit) × Heap)) =>
 (sortedKeys (r9.1.1.1, ()) r9.2).bind fun (r10 : ((Sl × Unit) × Heap)) =>
 (loopW (model_Model_Leaves.s1 r1 v7 r10) (s4.1, 0, ()) r10.2).bind fun (p20 : (Sl × Unit) × Heap) =>
 some (Sum.inl (p20.1.1, (IntKind.wrap .i64 (s4.2.1 + 1)), ()), p20.2)) (
 some (Sum.inr (s4.1, ()), H5))
noncomputable def model_Model_Leaves (x0 : Ptr) (H : Heap) : Option ((Sl × Unit) × Heap) :=
 (model_Model_see x0 H).bind fun (r1 : ((Option Nat × Unit) × Heap)) =>
 (maps_Keys_model_tree_int_model_space r1.1.1 r1.2).bind fun (r2 : (((Ptr × Unit) × Unit) × Heap)) =>
 (sortedKeys (r2.1.1.1, ()) r2.2).bind fun (r3 : ((Sl × Unit) × Heap)) =>
 (loopW (model_Model_Leaves.s2 r1 r3) (⟨none, 0, 0⟩, 0, ()) r3.2).bind fun (p21 : (Sl × Unit) × Heap) =>
 some ((p21.1.1, ()), p21.2)
noncomputable def model_Model_Leaves.c : Callee := .full [.one .ptr] [.one (.sl 3)] (fun x H => model_Model_Leaves x.1 H)
noncomputable def model_Model_Leaves.calls : Nat → Option Callee
  | 0 => some model_Model_see.c
  | 1 => some maps_Keys_model_tree_int_model_space.c
  | 2 => some (sortedKeys.c 97)
  | 3 => some maps_Keys_map_int_model_leaf_int_model_leaf.c
  | 4 => some (sortedKeys.c 98)
  | _ => none
theorem model_Model_Leaves.eq : evFull model_Model_Leaves.calls model_Model_Leaves.af = (fun x H => model_Model_Leaves x.1 H) := by kernel_rfl

/-! ### (*tinderbox/model.Model).Spaces -/
def model_Model_Spaces.af : AFun := ⟨[.one .ptr], [.one (.sl 4)], [.t 2],
 .seq (.reg [.op ⟨0, some 2, .mv (.c (.one (.sl 4 (⟨none, 0, 0⟩)))), none⟩])
 (.seq (.reg [.op ⟨0, some 8, .mv (.t 0), none⟩,
  .op ⟨1, some 9, .call 0 [(.t 8)], none⟩,
  .op ⟨2, some 3, .mv (.t 9), none⟩])
 (.seq (.reg [.op ⟨0, some 4, .mv (.c (.one (.sl 4 (⟨none, 0, 0⟩)))), none⟩])
 (.seq (.seq (.reg [.op ⟨0, some 10, .mv (.t 3), none⟩,
  .op ⟨1, some 11, .call 1 [(.t 10)], none⟩,
  .op ⟨2, some 12, .call 2 [(.t 11)], none⟩,
  .op ⟨3, some 13, .len (.t 12), none⟩,
  .op ⟨4, some 14, .mv (.c (.one (.int .i64 0))), none⟩])
 (.block 0 (.loop [(4, .one (.sl 4)), (14, .one (.int .i64))] [(.exit 0, [(4, .one (.sl 4))])] (.seq (.reg [.op ⟨0, some 15, .bin .lss (.t 14) (.t 13), none⟩])
 (.seq (.cond (.t 15) (.skip) (.exit 0))
 (.seq (.block 1 (.seq (.reg [.op ⟨0, some 16, .idxa 1 (.t 12) (.t 14), none⟩,
  .op ⟨1, some 17, .load (.one (.int .i64)) (.t 16), none⟩,
  .op ⟨2, some 6, .mv (.t 17), none⟩])
 (.seq (.reg [.op ⟨0, some 18, .mv (.t 3), none⟩,
  .op ⟨1, some 19, .mv (.t 6), none⟩,
  .op ⟨2, some 20, .mget (.agg [.int .i64, .bool, .mp]) (.agg [.int .i64 0, .bool false, .mp none]) false (.t 18) (.t 19), none⟩,
  .op ⟨3, some 7, .new [.int .i64 0, .bool false, .mp none], none⟩,
  .op ⟨4, none, .store 3 (.t 7) (.t 20), none⟩])
 (.reg [.op ⟨0, some 21, .mv (.t 4), none⟩,
  .op ⟨1, some 22, .mv (.t 6), none⟩,
  .op ⟨2, some 23, .addr 0 (.t 7), none⟩,
  .op ⟨3, some 24, .load (.one (.int .i64)) (.t 23), none⟩,
  .op ⟨4, some 25, .addr 2 (.t 7), none⟩,
  .op ⟨5, some 26, .load (.one .mp) (.t 25), none⟩,
  .op ⟨6, some 27, .mlen (.t 26), none⟩,
  .op ⟨7, some 28, .addr 1 (.t 7), none⟩,
  .op ⟨8, some 29, .load (.one .bool) (.t 28), none⟩,
  .op ⟨9, some 30, .build [.int .i64 0, .int .i64 0, .int .i64 0, .bool false] [(0, 1, (.t 22)), (1, 1, (.t 24)), (2, 1, (.t 27)), (3, 1, (.t 29))], none⟩,
  .op ⟨10, some 31, .bslice 4 1 [.int .i64 0, .int .i64 0, .int .i64 0, .bool false] [(0, 4, (.t 30))], none⟩,
  .op ⟨11, some 32, .app 4 32 (.t 21) (.t 31), none⟩,
  .op ⟨12, some 4, .mv (.t 32), none⟩]))))
 (.reg [.op ⟨0, some 33, .bin .add (.t 14) (.c (.one (.int .i64 1))), none⟩,
  .op ⟨1, some 14, .mv (.t 33), none⟩])))))))
 (.seq (.reg [.op ⟨0, some 34, .mv (.t 4), none⟩,
  .op ⟨1, some 2, .mv (.t 34), none⟩])
 (.ret)))))⟩
noncomputable def model_Model_Spaces.s1 (r1 : ((Option Nat × Unit) × Heap)) (r3 : ((Sl × Unit) × Heap)) (s4 : (Sl × Int × Unit)) (H5 : Heap) : Option (((Sl × Int × Unit) ⊕ (Sl × Unit)) × Heap) :=
 cond (decide (s4.2.1 < (r3.1.1.len : Int))) (
 (Sl.at 1 r3.1.1 s4.2.1).bind fun (a6 : (Nat × Nat)) =>
 (rdI .i64 H5 a6.1 a6.2).bind fun (v7 : Int) =>
 Option.bind (α := ((Int × Bool × Option Nat × Unit) × Bool)) (mget H5 (.agg [.int .i64, .bool, .mp]) (.agg [.int .i64 0, .bool false, .mp none]) r1.1.1 v7) fun (v8 : ((Int × Bool × Option Nat × Unit) × Bool)) =>
 let H9 : Heap := H5 ++ [Blk.cells [.int .i64 0, .bool false, .mp none] .exact]
 (wr H9 H5.length 0 [.int .i64 v8.1.1, .bool v8.1.2.1, .mp v8.1.2.2.1]).bind fun (H10 : Heap) =>
 (rdI .i64 H10 H5.length 0).bind fun (v11 : Int) =>
 (rdM H10 H5.length 2).bind fun (v12 : Option Nat) =>
 (mlen H10 v12).bind fun (n13 : Int) =>
 (rdB H10 H5.length 1).bind fun (v14 : Bool) =>
 let H15 : Heap := H10 ++ [Blk.cells [.int .i64 v7, .int .i64 v11, .int .i64 n13, .bool v14] .exact]
 (slRow H15 4 (⟨some (H10.length, 0), 1, 1⟩)).bind fun (cs16 : (List C)) =>
 (appS H15 4 32 s4.1 1 cs16).bind fun (p17 : (Sl × Heap)) =>
 some (Sum.inl (p17.1, (IntKind.wrap .i64 (s4.2.1 + 1)), ()), p17.2)) (
 some (Sum.inr (s4.1, ()), H5))
noncomputable def model_Model_Spaces (x0 : Ptr) (H : Heap) : Option ((Sl × Unit) × Heap) :=
 (model_Model_see x0 H).bind fun (r1 : ((Option Nat × Unit) × Heap)) =>
 (maps_Keys_model_tree_int_model_space r1.1.1 r1.2).bind fun (r2 : (((Ptr × Unit) × Unit) × Heap)) =>
 (sortedKeys (r2.1.1.1, ()) r2.2).bind fun (r3 : ((Sl × Unit) × Heap)) =>
 (loopW (model_Model_Spaces.s1 r1 r3) (⟨none, 0, 0⟩, 0, ()) r3.2).bind fun (p18 : (Sl × Unit) × Heap) =>
 some ((p18.1.1, ()), p18.2)
noncomputable def model_Model_Spaces.c : Callee := .full [.one .ptr] [.one (.sl 4)] (fun x H => model_Model_Spaces x.1 H)
noncomputable def model_Model_Spaces.calls : Nat → Option Callee
  | 0 => some model_Model_see.c
  | 1 => some maps_Keys_model_tree_int_model_space.c
  | 2 => some (sortedKeys.c 97)
  | _ => none
theorem model_Model_Spaces.eq : evFull model_Model_Spaces.calls model_Model_Spaces.af = (fun x H => model_Model_Spaces x.1 H) := by kernel_rfl

/-! ### (*tinderbox/model.Model).Abort -/
def model_Model_Abort.af : AFun := ⟨[.one .ptr], [.one (.int .i64)], [.t 2],
 .seq (.reg [.op ⟨0, some 2, .mv (.c (.one (.int .i64 0))), none⟩])
 (.seq (.reg [.op ⟨0, some 3, .mv (.t 0), none⟩,
  .op ⟨1, some 4, .call 0 [(.t 3), (.c (.one (.bool false)))], none⟩,
  .op ⟨2, some 2, .mv (.t 4), none⟩])
 (.ret))⟩
noncomputable def model_Model_Abort (x0 : Ptr) (H : Heap) : Option ((Int × Unit) × Heap) :=
 (model_Model_end x0 false H).bind fun (r1 : ((Int × Unit) × Heap)) =>
 some ((r1.1.1, ()), r1.2)
noncomputable def model_Model_Abort.c : Callee := .full [.one .ptr] [.one (.int .i64)] (fun x H => model_Model_Abort x.1 H)
noncomputable def model_Model_Abort.calls : Nat → Option Callee
  | 0 => some model_Model_end.c
  | _ => none
theorem model_Model_Abort.eq : evFull model_Model_Abort.calls model_Model_Abort.af = (fun x H => model_Model_Abort x.1 H) := by kernel_rfl

/-! ### (*tinderbox/model.Model).Copy -/
def model_Model_Copy.af : AFun := ⟨[.one .ptr], [.one .ptr], [.t 2],
 .seq (.reg [.op ⟨0, some 2, .mv (.c (.one (.ptr none))), none⟩])
 (.seq (.seq (.reg [.op ⟨0, some 4, .mv (.t 0), none⟩,
  .op ⟨1, some 5, .isnil false (.t 4), none⟩])
 (.cond (.t 5) (.seq (.reg [.op ⟨0, some 2, .mv (.c (.one (.ptr none))), none⟩])
 (.ret)) (.skip)))
 (.seq (.reg [.op ⟨0, some 6, .mv (.t 0), none⟩,
  .op ⟨1, some 7, .nilc (.t 6), none⟩,
  .op ⟨2, some 8, .load (.agg [.mp, .mp, .int .i64, .int .i64, .int .i64, .int .i64, .int .i64, .int .i64, .int .i64]) (.t 7), none⟩,
  .op ⟨3, some 3, .new [.mp none, .mp none, .int .i64 0, .int .i64 0, .int .i64 0, .int .i64 0, .int .i64 0, .int .i64 0, .int .i64 0], none⟩,
  .op ⟨4, none, .store 9 (.t 3) (.t 8), none⟩])
 (.seq (.reg [.op ⟨0, some 9, .mv (.t 0), none⟩,
  .op ⟨1, some 10, .nilc (.t 9), none⟩,
  .op ⟨2, some 11, .addr 0 (.t 10), none⟩,
  .op ⟨3, some 12, .load (.one .mp) (.t 11), none⟩,
  .op ⟨4, some 13, .call 0 [(.t 12)], none⟩,
  .op ⟨5, some 14, .addr 0 (.t 3), none⟩,
  .op ⟨6, none, .store 1 (.t 14) (.t 13), none⟩])
 (.seq (.seq (.reg [.op ⟨0, some 15, .mv (.t 0), none⟩,
  .op ⟨1, some 16, .nilc (.t 15), none⟩,
  .op ⟨2, some 17, .addr 1 (.t 16), none⟩,
  .op ⟨3, some 18, .load (.one .mp) (.t 17), none⟩,
  .op ⟨4, some 19, .isnilm true (.t 18), none⟩])
 (.cond (.t 19) (.reg [.op ⟨0, some 20, .mv (.t 0), none⟩,
  .op ⟨1, some 21, .nilc (.t 20), none⟩,
  .op ⟨2, some 22, .addr 1 (.t 21), none⟩,
  .op ⟨3, some 23, .load (.one .mp) (.t 22), none⟩,
  .op ⟨4, some 24, .call 0 [(.t 23)], none⟩,
  .op ⟨5, some 25, .addr 1 (.t 3), none⟩,
  .op ⟨6, none, .store 1 (.t 25) (.t 24), none⟩]) (.skip)))
 (.seq (.reg [.op ⟨0, some 2, .mv (.t 3), none⟩])
 (.ret))))))⟩
noncomputable def model_Model_Copy (x0 : Ptr) (H : Heap) : Option ((Ptr × Unit) × Heap) :=
 cond (Option.isNone x0) (
 some ((none, ()), H)) (
 (x0).bind fun (a1 : Nat × Nat) =>
 Option.bind (α := (Option Nat × Option Nat × Int × Int × Int × Int × Int × Int × Int × Unit)) (rd H (.agg [.mp, .mp, .int .i64, .int .i64, .int .i64, .int .i64, .int .i64, .int .i64, .int .i64]) a1.1 a1.2) fun (v2 : (Option Nat × Option Nat × Int × Int × Int × Int × Int × Int × Int × Unit)) =>
 let H3 : Heap := H ++ [Blk.cells [.mp none, .mp none, .int .i64 0, .int .i64 0, .int .i64 0, .int .i64 0, .int .i64 0, .int .i64 0, .int .i64 0] .exact]
 (wr H3 H.length 0 [.mp v2.1, .mp v2.2.1, .int .i64 v2.2.2.1, .int .i64 v2.2.2.2.1, .int .i64 v2.2.2.2.2.1, .int .i64 v2.2.2.2.2.2.1, .int .i64 v2.2.2.2.2.2.2.1, .int .i64 v2.2.2.2.2.2.2.2.1, .int .i64 v2.2.2.2.2.2.2.2.2.1]).bind fun (H4 : Heap) =>
 (x0).bind fun (a5 : Nat × Nat) =>
 (rdM H4 a5.1 a5.2).bind fun (v6 : Option Nat) =>
 (model_tree_clone v6 H4).bind fun (r7 : ((Option Nat × Unit) × Heap)) =>
 (wr r7.2 H.length 0 [.mp r7.1.1]).bind fun (H8 : Heap) =>
 (x0).bind fun (a9 : Nat × Nat) =>
 (rdM H8 a9.1 (a9.2 + 1)).bind fun (v10 : Option Nat) =>
 cond (!(Option.isNone v10)) (
 (x0).bind fun (a11 : Nat × Nat) =>
 (rdM H8 a11.1 (a11.2 + 1)).bind fun (v12 : Option Nat) =>
 (model_tree_clone v12 H8).bind fun (r13 : ((Option Nat × Unit) × Heap)) =>
 (wr r13.2 H.length 1 [.mp r13.1.1]).bind fun (H14 : Heap) =>
 some ((some (H.length, 0), ()), H14)) (
 some ((some (H.length, 0), ()), H8)))
noncomputable def model_Model_Copy.c : Callee := .full [.one .ptr] [.one .ptr] (fun x H => model_Model_Copy x.1 H)
noncomputable def model_Model_Copy.calls : Nat → Option Callee
  | 0 => some model_tree_clone.c
  | _ => none
theorem model_Model_Copy.eq : evFull model_Model_Copy.calls model_Model_Copy.af = (fun x H => model_Model_Copy x.1 H) := by kernel_rfl
end Ev
