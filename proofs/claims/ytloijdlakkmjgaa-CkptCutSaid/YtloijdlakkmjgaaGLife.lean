/- What the functions of the package Life compute: abstract code, and a function of plain Lean for each; the kernel checks that they are the same. Written by gen2.py. -/
import Derived.Test.YtloijdlakkmjgaaEvCore
import Derived.KernelRfl
set_option linter.unusedVariables false
set_option maxRecDepth 100000
namespace Ev
open Go (IntKind BinOp UnOp)

/-! ### tinderbox/life.New -/
def life_New.af : AFun := ⟨[.one (.int .i64), .one (.int .i64)], [.one .ptr, .one (.int .i64)], [.t 4, .t 5],
 .seq (.reg [.op ⟨0, some 4, .mv (.c (.one (.ptr none))), none⟩,
  .op ⟨1, some 5, .mv (.c (.one (.int .i64 0))), none⟩])
 (.seq (.seq (.reg [.op ⟨0, some 6, .mv (.t 0), none⟩,
  .op ⟨1, some 7, .bin .lss (.t 6) (.c (.one (.int .i64 1))), none⟩,
  .op ⟨2, some 8, .mv (.t 7), none⟩,
  .op ⟨3, some 9, .mv (.t 0), some (8, false)⟩,
  .op ⟨4, some 10, .bin .gtr (.t 9) (.c (.one (.int .i64 32))), some (8, false)⟩,
  .op ⟨5, some 11, .pick (.t 8) (.c (.one (.bool true))) (.t 10), none⟩,
  .op ⟨6, some 12, .mv (.t 11), none⟩,
  .op ⟨7, some 13, .mv (.t 1), some (12, false)⟩,
  .op ⟨8, some 14, .bin .lss (.t 13) (.c (.one (.int .i64 1))), some (12, false)⟩,
  .op ⟨9, some 15, .pick (.t 12) (.c (.one (.bool true))) (.t 14), none⟩,
  .op ⟨10, some 16, .mv (.t 15), none⟩,
  .op ⟨11, some 17, .mv (.t 1), some (16, false)⟩,
  .op ⟨12, some 18, .bin .gtr (.t 17) (.c (.one (.int .i64 16))), some (16, false)⟩,
  .op ⟨13, some 19, .pick (.t 16) (.c (.one (.bool true))) (.t 18), none⟩])
 (.cond (.t 19) (.seq (.reg [.op ⟨0, some 4, .mv (.c (.one (.ptr none))), none⟩,
  .op ⟨1, some 5, .mv (.c (.one (.int .i64 1))), none⟩])
 (.ret)) (.skip)))
 (.seq (.reg [.op ⟨0, some 20, .mv (.t 0), none⟩,
  .op ⟨1, some 21, .mk 1 8 [.int .i64 0] (.t 20) (.t 20), none⟩,
  .op ⟨2, some 22, .mv (.t 1), none⟩,
  .op ⟨3, some 23, .build [.sl 1 Sl.nil, .int .i64 0, .int .i64 0, .int .i64 0] [(0, 1, (.t 21)), (1, 1, (.t 22)), (2, 1, (.c (.one (.int .i64 (-1)))))], none⟩,
  .op ⟨4, some 24, .box (.t 23), none⟩,
  .op ⟨5, some 4, .mv (.t 24), none⟩,
  .op ⟨6, some 5, .mv (.c (.one (.int .i64 0))), none⟩])
 (.ret)))⟩
noncomputable def life_New (x0 : Int) (x1 : Int) (H : Heap) : Option ((Ptr × Int × Unit) × Heap) :=
 cond (decide (x0 < 1)) (
 some ((none, 1, ()), H)) (
 cond (decide (32 < x0)) (
 some ((none, 1, ()), H)) (
 cond (decide (x1 < 1)) (
 some ((none, 1, ()), H)) (
 cond (decide (16 < x1)) (
 some ((none, 1, ()), H)) (
 (mkS H 8 [.int .i64 0] x0 x0).bind fun (p1 : (Sl × Heap)) =>
 let H2 : Heap := p1.2 ++ [Blk.cells [.sl 1 p1.1, .int .i64 x1, .int .i64 (-1), .int .i64 0] .exact]
 some ((some (p1.2.length, 0), 0, ()), H2)))))
noncomputable def life_New.c : Callee := .full [.one (.int .i64), .one (.int .i64)] [.one .ptr, .one (.int .i64)] (fun x H => life_New x.1 x.2.1 H)
noncomputable def life_New.calls : Nat → Option Callee
  | _ => none
theorem life_New.eq : evFull life_New.calls life_New.af = (fun x H => life_New x.1 x.2.1 H) := by kernel_rfl

/-! ### (*tinderbox/life.Life).At -/
def life_Life_At.af : AFun := ⟨[.one .ptr], [.one (.int .i64), .one (.int .i64), .one .bool], [.t 2, .t 3, .t 4],
 .seq (.reg [.op ⟨0, some 2, .mv (.c (.one (.int .i64 0))), none⟩,
  .op ⟨1, some 3, .mv (.c (.one (.int .i64 0))), none⟩,
  .op ⟨2, some 4, .mv (.c (.one (.bool false))), none⟩])
 (.seq (.seq (.reg [.op ⟨0, some 5, .mv (.t 0), none⟩,
  .op ⟨1, some 6, .isnil false (.t 5), none⟩,
  .op ⟨2, some 7, .mv (.t 6), none⟩,
  .op ⟨3, some 8, .mv (.t 0), some (7, false)⟩,
  .op ⟨4, some 9, .nilc (.t 8), some (7, false)⟩,
  .op ⟨5, some 10, .addr 2 (.t 9), some (7, false)⟩,
  .op ⟨6, some 11, .load (.one (.int .i64)) (.t 10), some (7, false)⟩,
  .op ⟨7, some 12, .bin .lss (.t 11) (.c (.one (.int .i64 0))), some (7, false)⟩,
  .op ⟨8, some 13, .pick (.t 7) (.c (.one (.bool true))) (.t 12), none⟩])
 (.cond (.t 13) (.seq (.reg [.op ⟨0, some 2, .mv (.c (.one (.int .i64 0))), none⟩,
  .op ⟨1, some 3, .mv (.c (.one (.int .i64 0))), none⟩,
  .op ⟨2, some 4, .mv (.c (.one (.bool false))), none⟩])
 (.ret)) (.skip)))
 (.seq (.reg [.op ⟨0, some 14, .mv (.t 0), none⟩,
  .op ⟨1, some 15, .nilc (.t 14), none⟩,
  .op ⟨2, some 16, .addr 2 (.t 15), none⟩,
  .op ⟨3, some 17, .load (.one (.int .i64)) (.t 16), none⟩,
  .op ⟨4, some 18, .mv (.t 0), none⟩,
  .op ⟨5, some 19, .nilc (.t 18), none⟩,
  .op ⟨6, some 20, .addr 3 (.t 19), none⟩,
  .op ⟨7, some 21, .load (.one (.int .i64)) (.t 20), none⟩,
  .op ⟨8, some 2, .mv (.t 17), none⟩,
  .op ⟨9, some 3, .mv (.t 21), none⟩,
  .op ⟨10, some 4, .mv (.c (.one (.bool true))), none⟩])
 (.ret)))⟩
noncomputable def life_Life_At (x0 : Ptr) (H : Heap) : Option ((Int × Int × Bool × Unit) × Heap) :=
 cond (Option.isNone x0) (
 some ((0, 0, false, ()), H)) (
 (x0).bind fun (a1 : Nat × Nat) =>
 (rdI .i64 H a1.1 (a1.2 + 2)).bind fun (v2 : Int) =>
 cond (decide (v2 < 0)) (
 some ((0, 0, false, ()), H)) (
 (x0).bind fun (a3 : Nat × Nat) =>
 (rdI .i64 H a3.1 (a3.2 + 2)).bind fun (v4 : Int) =>
 (x0).bind fun (a5 : Nat × Nat) =>
 (rdI .i64 H a5.1 (a5.2 + 3)).bind fun (v6 : Int) =>
 some ((v4, v6, true, ()), H)))
noncomputable def life_Life_At.c : Callee := .full [.one .ptr] [.one (.int .i64), .one (.int .i64), .one .bool] (fun x H => life_Life_At x.1 H)
noncomputable def life_Life_At.calls : Nat → Option Callee
  | _ => none
theorem life_Life_At.eq : evFull life_Life_At.calls life_Life_At.af = (fun x H => life_Life_At x.1 H) := by kernel_rfl

/-! ### (*tinderbox/life.Life).in -/
def life_Life_in.af : AFun := ⟨[.one .ptr, .one (.int .i64)], [.one .bool], [.t 4],
 .seq (.reg [.op ⟨0, some 4, .mv (.c (.one (.bool false))), none⟩])
 (.seq (.reg [.op ⟨0, some 5, .mv (.t 0), none⟩,
  .op ⟨1, some 6, .isnil true (.t 5), none⟩,
  .op ⟨2, some 7, .mv (.t 6), none⟩,
  .op ⟨3, some 8, .mv (.t 1), some (7, true)⟩,
  .op ⟨4, some 9, .bin .geq (.t 8) (.c (.one (.int .i64 0))), some (7, true)⟩,
  .op ⟨5, some 10, .pick (.t 7) (.t 9) (.c (.one (.bool false))), none⟩,
  .op ⟨6, some 11, .mv (.t 10), none⟩,
  .op ⟨7, some 12, .mv (.t 1), some (11, true)⟩,
  .op ⟨8, some 13, .mv (.t 0), some (11, true)⟩,
  .op ⟨9, some 14, .nilc (.t 13), some (11, true)⟩,
  .op ⟨10, some 15, .addr 0 (.t 14), some (11, true)⟩,
  .op ⟨11, some 16, .load (.one (.sl 1)) (.t 15), some (11, true)⟩,
  .op ⟨12, some 17, .len (.t 16), some (11, true)⟩,
  .op ⟨13, some 18, .bin .lss (.t 12) (.t 17), some (11, true)⟩,
  .op ⟨14, some 19, .pick (.t 11) (.t 18) (.c (.one (.bool false))), none⟩,
  .op ⟨15, some 4, .mv (.t 19), none⟩])
 (.ret))⟩
noncomputable def life_Life_in (x0 : Ptr) (x1 : Int) (H : Heap) : Option ((Bool × Unit) × Heap) :=
 cond (!(Option.isNone x0)) (
 cond (decide (0 ≤ x1)) (
 (x0).bind fun (a1 : Nat × Nat) =>
 (rdSl 1 H a1.1 a1.2).bind fun (v2 : Sl) =>
 some (((decide (x1 < (v2.len : Int))), ()), H)) (
 some ((false, ()), H))) (
 some ((false, ()), H))
noncomputable def life_Life_in.c : Callee := .full [.one .ptr, .one (.int .i64)] [.one .bool] (fun x H => life_Life_in x.1 x.2.1 H)
noncomputable def life_Life_in.calls : Nat → Option Callee
  | _ => none
theorem life_Life_in.eq : evFull life_Life_in.calls life_Life_in.af = (fun x H => life_Life_in x.1 x.2.1 H) := by kernel_rfl

/-! ### (*tinderbox/life.Life).Is -/
def life_Life_Is.af : AFun := ⟨[.one .ptr, .one (.int .i64)], [.one (.int .i64)], [.t 4],
 .seq (.reg [.op ⟨0, some 4, .mv (.c (.one (.int .i64 0))), none⟩])
 (.seq (.seq (.reg [.op ⟨0, some 5, .mv (.t 0), none⟩,
  .op ⟨1, some 6, .mv (.t 1), none⟩,
  .op ⟨2, some 7, .call 0 [(.t 5), (.t 6)], none⟩,
  .op ⟨3, some 8, .un .not (.t 7), none⟩])
 (.cond (.t 8) (.seq (.reg [.op ⟨0, some 4, .mv (.c (.one (.int .i64 (-1)))), none⟩])
 (.ret)) (.skip)))
 (.seq (.reg [.op ⟨0, some 9, .mv (.t 0), none⟩,
  .op ⟨1, some 10, .nilc (.t 9), none⟩,
  .op ⟨2, some 11, .addr 0 (.t 10), none⟩,
  .op ⟨3, some 12, .load (.one (.sl 1)) (.t 11), none⟩,
  .op ⟨4, some 13, .mv (.t 1), none⟩,
  .op ⟨5, some 14, .idxa 1 (.t 12) (.t 13), none⟩,
  .op ⟨6, some 15, .load (.one (.int .i64)) (.t 14), none⟩,
  .op ⟨7, some 4, .mv (.t 15), none⟩])
 (.ret)))⟩
noncomputable def life_Life_Is (x0 : Ptr) (x1 : Int) (H : Heap) : Option ((Int × Unit) × Heap) :=
 (life_Life_in x0 x1 H).bind fun (r1 : ((Bool × Unit) × Heap)) =>
 cond (!r1.1.1) (
 some (((-1), ()), r1.2)) (
 (x0).bind fun (a2 : Nat × Nat) =>
 (rdSl 1 r1.2 a2.1 a2.2).bind fun (v3 : Sl) =>
 (Sl.at 1 v3 x1).bind fun (a4 : (Nat × Nat)) =>
 (rdI .i64 r1.2 a4.1 a4.2).bind fun (v5 : Int) =>
 some ((v5, ()), r1.2))
noncomputable def life_Life_Is.c : Callee := .full [.one .ptr, .one (.int .i64)] [.one (.int .i64)] (fun x H => life_Life_Is x.1 x.2.1 H)
noncomputable def life_Life_Is.calls : Nat → Option Callee
  | 0 => some life_Life_in.c
  | _ => none
theorem life_Life_Is.eq : evFull life_Life_Is.calls life_Life_Is.af = (fun x H => life_Life_Is x.1 x.2.1 H) := by kernel_rfl

/-! ### (*tinderbox/life.Life).Open -/
def life_Life_Open.af : AFun := ⟨[.one .ptr, .one (.int .i64)], [.one .bool], [.t 4],
 .seq (.reg [.op ⟨0, some 4, .mv (.c (.one (.bool false))), none⟩])
 (.seq (.seq (.reg [.op ⟨0, some 5, .mv (.t 0), none⟩,
  .op ⟨1, some 6, .mv (.t 1), none⟩,
  .op ⟨2, some 7, .call 0 [(.t 5), (.t 6)], none⟩,
  .op ⟨3, some 8, .un .not (.t 7), none⟩,
  .op ⟨4, some 9, .mv (.t 8), none⟩,
  .op ⟨5, some 10, .mv (.t 0), some (9, false)⟩,
  .op ⟨6, some 11, .nilc (.t 10), some (9, false)⟩,
  .op ⟨7, some 12, .addr 0 (.t 11), some (9, false)⟩,
  .op ⟨8, some 13, .load (.one (.sl 1)) (.t 12), some (9, false)⟩,
  .op ⟨9, some 14, .mv (.t 1), some (9, false)⟩,
  .op ⟨10, some 15, .idxa 1 (.t 13) (.t 14), some (9, false)⟩,
  .op ⟨11, some 16, .load (.one (.int .i64)) (.t 15), some (9, false)⟩,
  .op ⟨12, some 17, .bin .neq (.t 16) (.c (.one (.int .i64 0))), some (9, false)⟩,
  .op ⟨13, some 18, .pick (.t 9) (.c (.one (.bool true))) (.t 17), none⟩,
  .op ⟨14, some 19, .mv (.t 18), none⟩,
  .op ⟨15, some 20, .mv (.t 0), some (19, false)⟩,
  .op ⟨16, some 21, .nilc (.t 20), some (19, false)⟩,
  .op ⟨17, some 22, .addr 2 (.t 21), some (19, false)⟩,
  .op ⟨18, some 23, .load (.one (.int .i64)) (.t 22), some (19, false)⟩,
  .op ⟨19, some 24, .bin .geq (.t 23) (.c (.one (.int .i64 0))), some (19, false)⟩,
  .op ⟨20, some 25, .pick (.t 19) (.c (.one (.bool true))) (.t 24), none⟩])
 (.cond (.t 25) (.seq (.reg [.op ⟨0, some 4, .mv (.c (.one (.bool false))), none⟩])
 (.ret)) (.skip)))
 (.seq (.reg [.op ⟨0, some 26, .mv (.t 0), none⟩,
  .op ⟨1, some 27, .nilc (.t 26), none⟩,
  .op ⟨2, some 28, .addr 0 (.t 27), none⟩,
  .op ⟨3, some 29, .load (.one (.sl 1)) (.t 28), none⟩,
  .op ⟨4, some 30, .mv (.t 1), none⟩,
  .op ⟨5, some 31, .mv (.t 0), none⟩,
  .op ⟨6, some 32, .mv (.t 0), none⟩,
  .op ⟨7, some 33, .mv (.t 1), none⟩,
  .op ⟨8, some 34, .idxa 1 (.t 29) (.t 30), none⟩,
  .op ⟨9, none, .store 1 (.t 34) (.c (.one (.int .i64 1))), none⟩,
  .op ⟨10, some 35, .nilc (.t 31), none⟩,
  .op ⟨11, some 36, .addr 2 (.t 35), none⟩,
  .op ⟨12, none, .store 1 (.t 36) (.t 33), none⟩,
  .op ⟨13, some 37, .nilc (.t 32), none⟩,
  .op ⟨14, some 38, .addr 3 (.t 37), none⟩,
  .op ⟨15, none, .store 1 (.t 38) (.c (.one (.int .i64 0))), none⟩])
 (.seq (.reg [.op ⟨0, some 4, .mv (.c (.one (.bool true))), none⟩])
 (.ret))))⟩
noncomputable def life_Life_Open (x0 : Ptr) (x1 : Int) (H : Heap) : Option ((Bool × Unit) × Heap) :=
 (life_Life_in x0 x1 H).bind fun (r1 : ((Bool × Unit) × Heap)) =>
 cond (!r1.1.1) (
 some ((false, ()), r1.2)) (
 (x0).bind fun (a2 : Nat × Nat) =>
 (rdSl 1 r1.2 a2.1 a2.2).bind fun (v3 : Sl) =>
 (Sl.at 1 v3 x1).bind fun (a4 : (Nat × Nat)) =>
 (rdI .i64 r1.2 a4.1 a4.2).bind fun (v5 : Int) =>
 cond (!decide (v5 = 0)) (
 some ((false, ()), r1.2)) (
 (x0).bind fun (a6 : Nat × Nat) =>
 (rdI .i64 r1.2 a6.1 (a6.2 + 2)).bind fun (v7 : Int) =>
 cond (decide (0 ≤ v7)) (
 some ((false, ()), r1.2)) (
 (x0).bind fun (a8 : Nat × Nat) =>
 (rdSl 1 r1.2 a8.1 a8.2).bind fun (v9 : Sl) =>
 (Sl.at 1 v9 x1).bind fun (a10 : (Nat × Nat)) =>
 (wr r1.2 a10.1 a10.2 [.int .i64 1]).bind fun (H11 : Heap) =>
 (x0).bind fun (a12 : Nat × Nat) =>
 (wr H11 a12.1 (a12.2 + 2) [.int .i64 x1]).bind fun (H13 : Heap) =>
 (x0).bind fun (a14 : Nat × Nat) =>
 (wr H13 a14.1 (a14.2 + 3) [.int .i64 0]).bind fun (H15 : Heap) =>
 some ((true, ()), H15))))
noncomputable def life_Life_Open.c : Callee := .full [.one .ptr, .one (.int .i64)] [.one .bool] (fun x H => life_Life_Open x.1 x.2.1 H)
noncomputable def life_Life_Open.calls : Nat → Option Callee
  | 0 => some life_Life_in.c
  | _ => none
theorem life_Life_Open.eq : evFull life_Life_Open.calls life_Life_Open.af = (fun x H => life_Life_Open x.1 x.2.1 H) := by kernel_rfl

/-! ### (*tinderbox/life.Life).Take -/
def life_Life_Take.af : AFun := ⟨[.one .ptr], [.one (.int .i64), .one (.int .i64), .one .bool], [.t 2, .t 3, .t 4],
 .seq (.reg [.op ⟨0, some 2, .mv (.c (.one (.int .i64 0))), none⟩,
  .op ⟨1, some 3, .mv (.c (.one (.int .i64 0))), none⟩,
  .op ⟨2, some 4, .mv (.c (.one (.bool false))), none⟩])
 (.seq (.seq (.reg [.op ⟨0, some 7, .mv (.t 0), none⟩,
  .op ⟨1, some 8, .isnil false (.t 7), none⟩,
  .op ⟨2, some 9, .mv (.t 8), none⟩,
  .op ⟨3, some 10, .mv (.t 0), some (9, false)⟩,
  .op ⟨4, some 11, .nilc (.t 10), some (9, false)⟩,
  .op ⟨5, some 12, .addr 2 (.t 11), some (9, false)⟩,
  .op ⟨6, some 13, .load (.one (.int .i64)) (.t 12), some (9, false)⟩,
  .op ⟨7, some 14, .bin .lss (.t 13) (.c (.one (.int .i64 0))), some (9, false)⟩,
  .op ⟨8, some 15, .pick (.t 9) (.c (.one (.bool true))) (.t 14), none⟩])
 (.cond (.t 15) (.seq (.reg [.op ⟨0, some 2, .mv (.c (.one (.int .i64 0))), none⟩,
  .op ⟨1, some 3, .mv (.c (.one (.int .i64 0))), none⟩,
  .op ⟨2, some 4, .mv (.c (.one (.bool false))), none⟩])
 (.ret)) (.skip)))
 (.seq (.reg [.op ⟨0, some 16, .mv (.t 0), none⟩,
  .op ⟨1, some 17, .nilc (.t 16), none⟩,
  .op ⟨2, some 18, .addr 2 (.t 17), none⟩,
  .op ⟨3, some 19, .load (.one (.int .i64)) (.t 18), none⟩,
  .op ⟨4, some 20, .mv (.t 0), none⟩,
  .op ⟨5, some 21, .nilc (.t 20), none⟩,
  .op ⟨6, some 22, .addr 3 (.t 21), none⟩,
  .op ⟨7, some 23, .load (.one (.int .i64)) (.t 22), none⟩,
  .op ⟨8, some 5, .mv (.t 19), none⟩,
  .op ⟨9, some 6, .mv (.t 23), none⟩])
 (.seq (.seq (.reg [.op ⟨0, some 24, .mv (.t 0), none⟩,
  .op ⟨1, some 25, .nilc (.t 24), none⟩,
  .op ⟨2, some 26, .addr 3 (.t 25), none⟩,
  .op ⟨3, some 27, .load (.one (.int .i64)) (.t 26), none⟩,
  .op ⟨4, some 28, .bin .add (.t 27) (.c (.one (.int .i64 1))), none⟩,
  .op ⟨5, some 29, .nilc (.t 24), none⟩,
  .op ⟨6, some 30, .addr 3 (.t 29), none⟩,
  .op ⟨7, none, .store 1 (.t 30) (.t 28), none⟩])
 (.seq (.reg [.op ⟨0, some 31, .mv (.t 0), none⟩,
  .op ⟨1, some 32, .nilc (.t 31), none⟩,
  .op ⟨2, some 33, .addr 3 (.t 32), none⟩,
  .op ⟨3, some 34, .load (.one (.int .i64)) (.t 33), none⟩,
  .op ⟨4, some 35, .mv (.t 0), none⟩,
  .op ⟨5, some 36, .nilc (.t 35), none⟩,
  .op ⟨6, some 37, .addr 1 (.t 36), none⟩,
  .op ⟨7, some 38, .load (.one (.int .i64)) (.t 37), none⟩,
  .op ⟨8, some 39, .bin .eql (.t 34) (.t 38), none⟩])
 (.cond (.t 39) (.reg [.op ⟨0, some 40, .mv (.t 0), none⟩,
  .op ⟨1, some 41, .nilc (.t 40), none⟩,
  .op ⟨2, some 42, .addr 0 (.t 41), none⟩,
  .op ⟨3, some 43, .load (.one (.sl 1)) (.t 42), none⟩,
  .op ⟨4, some 44, .mv (.t 5), none⟩,
  .op ⟨5, some 45, .mv (.t 0), none⟩,
  .op ⟨6, some 46, .idxa 1 (.t 43) (.t 44), none⟩,
  .op ⟨7, none, .store 1 (.t 46) (.c (.one (.int .i64 2))), none⟩,
  .op ⟨8, some 47, .nilc (.t 45), none⟩,
  .op ⟨9, some 48, .addr 2 (.t 47), none⟩,
  .op ⟨10, none, .store 1 (.t 48) (.c (.one (.int .i64 (-1)))), none⟩]) (.skip))))
 (.seq (.reg [.op ⟨0, some 49, .mv (.t 5), none⟩,
  .op ⟨1, some 50, .mv (.t 6), none⟩,
  .op ⟨2, some 2, .mv (.t 49), none⟩,
  .op ⟨3, some 3, .mv (.t 50), none⟩,
  .op ⟨4, some 4, .mv (.c (.one (.bool true))), none⟩])
 (.ret)))))⟩
noncomputable def life_Life_Take (x0 : Ptr) (H : Heap) : Option ((Int × Int × Bool × Unit) × Heap) :=
 cond (Option.isNone x0) (
 some ((0, 0, false, ()), H)) (
 (x0).bind fun (a1 : Nat × Nat) =>
 (rdI .i64 H a1.1 (a1.2 + 2)).bind fun (v2 : Int) =>
 cond (decide (v2 < 0)) (
 some ((0, 0, false, ()), H)) (
 (x0).bind fun (a3 : Nat × Nat) =>
 (rdI .i64 H a3.1 (a3.2 + 2)).bind fun (v4 : Int) =>
 (x0).bind fun (a5 : Nat × Nat) =>
 (rdI .i64 H a5.1 (a5.2 + 3)).bind fun (v6 : Int) =>
 (x0).bind fun (a7 : Nat × Nat) =>
 (rdI .i64 H a7.1 (a7.2 + 3)).bind fun (v8 : Int) =>
 (x0).bind fun (a9 : Nat × Nat) =>
 (wr H a9.1 (a9.2 + 3) [.int .i64 (IntKind.wrap .i64 (v8 + 1))]).bind fun (H10 : Heap) =>
 (x0).bind fun (a11 : Nat × Nat) =>
 (rdI .i64 H10 a11.1 (a11.2 + 3)).bind fun (v12 : Int) =>
 (x0).bind fun (a13 : Nat × Nat) =>
 (rdI .i64 H10 a13.1 (a13.2 + 1)).bind fun (v14 : Int) =>
 cond (decide (v12 = v14)) (
 (x0).bind fun (a15 : Nat × Nat) =>
 (rdSl 1 H10 a15.1 a15.2).bind fun (v16 : Sl) =>
 (Sl.at 1 v16 v4).bind fun (a17 : (Nat × Nat)) =>
 (wr H10 a17.1 a17.2 [.int .i64 2]).bind fun (H18 : Heap) =>
 (x0).bind fun (a19 : Nat × Nat) =>
 (wr H18 a19.1 (a19.2 + 2) [.int .i64 (-1)]).bind fun (H20 : Heap) =>
 some ((v4, v6, true, ()), H20)) (
 some ((v4, v6, true, ()), H10))))
noncomputable def life_Life_Take.c : Callee := .full [.one .ptr] [.one (.int .i64), .one (.int .i64), .one .bool] (fun x H => life_Life_Take x.1 H)
noncomputable def life_Life_Take.calls : Nat → Option Callee
  | _ => none
theorem life_Life_Take.eq : evFull life_Life_Take.calls life_Life_Take.af = (fun x H => life_Life_Take x.1 H) := by kernel_rfl

/-! ### (*tinderbox/life.Life).set -/
def life_Life_set.af : AFun := ⟨[.one .ptr, .one (.int .i64), .one (.int .i64)], [.one .bool], [.t 6],
 .seq (.reg [.op ⟨0, some 6, .mv (.c (.one (.bool false))), none⟩])
 (.seq (.seq (.reg [.op ⟨0, some 7, .mv (.t 0), none⟩,
  .op ⟨1, some 8, .mv (.t 1), none⟩,
  .op ⟨2, some 9, .call 0 [(.t 7), (.t 8)], none⟩,
  .op ⟨3, some 10, .un .not (.t 9), none⟩,
  .op ⟨4, some 11, .mv (.t 10), none⟩,
  .op ⟨5, some 12, .mv (.t 0), some (11, false)⟩,
  .op ⟨6, some 13, .nilc (.t 12), some (11, false)⟩,
  .op ⟨7, some 14, .addr 0 (.t 13), some (11, false)⟩,
  .op ⟨8, some 15, .load (.one (.sl 1)) (.t 14), some (11, false)⟩,
  .op ⟨9, some 16, .mv (.t 1), some (11, false)⟩,
  .op ⟨10, some 17, .idxa 1 (.t 15) (.t 16), some (11, false)⟩,
  .op ⟨11, some 18, .load (.one (.int .i64)) (.t 17), some (11, false)⟩,
  .op ⟨12, some 19, .bin .eql (.t 18) (.c (.one (.int .i64 3))), some (11, false)⟩,
  .op ⟨13, some 20, .pick (.t 11) (.c (.one (.bool true))) (.t 19), none⟩])
 (.cond (.t 20) (.seq (.reg [.op ⟨0, some 6, .mv (.c (.one (.bool false))), none⟩])
 (.ret)) (.skip)))
 (.seq (.scope [(.normal, [])] (.seq (.reg [.op ⟨0, some 21, .mv (.t 0), none⟩,
  .op ⟨1, some 22, .nilc (.t 21), none⟩,
  .op ⟨2, some 23, .addr 2 (.t 22), none⟩,
  .op ⟨3, some 24, .load (.one (.int .i64)) (.t 23), none⟩,
  .op ⟨4, some 25, .mv (.t 1), none⟩,
  .op ⟨5, some 26, .bin .eql (.t 24) (.t 25), none⟩])
 (.cond (.t 26) (.reg [.op ⟨0, some 27, .mv (.t 0), none⟩,
  .op ⟨1, some 28, .nilc (.t 27), none⟩,
  .op ⟨2, some 29, .addr 2 (.t 28), none⟩,
  .op ⟨3, none, .store 1 (.t 29) (.c (.one (.int .i64 (-1)))), none⟩]) (.skip))))
 (.seq (.reg [.op ⟨0, some 30, .mv (.t 0), none⟩,
  .op ⟨1, some 31, .nilc (.t 30), none⟩,
  .op ⟨2, some 32, .addr 0 (.t 31), none⟩,
  .op ⟨3, some 33, .load (.one (.sl 1)) (.t 32), none⟩,
  .op ⟨4, some 34, .mv (.t 1), none⟩,
  .op ⟨5, some 35, .mv (.t 2), none⟩,
  .op ⟨6, some 36, .idxa 1 (.t 33) (.t 34), none⟩,
  .op ⟨7, none, .store 1 (.t 36) (.t 35), none⟩])
 (.seq (.reg [.op ⟨0, some 6, .mv (.c (.one (.bool true))), none⟩])
 (.ret)))))⟩
noncomputable def life_Life_set (x0 : Ptr) (x1 : Int) (x2 : Int) (H : Heap) : Option ((Bool × Unit) × Heap) :=
 (life_Life_in x0 x1 H).bind fun (r1 : ((Bool × Unit) × Heap)) =>
 cond (!r1.1.1) (
 some ((false, ()), r1.2)) (
 (x0).bind fun (a2 : Nat × Nat) =>
 (rdSl 1 r1.2 a2.1 a2.2).bind fun (v3 : Sl) =>
 (Sl.at 1 v3 x1).bind fun (a4 : (Nat × Nat)) =>
 (rdI .i64 r1.2 a4.1 a4.2).bind fun (v5 : Int) =>
 cond (decide (v5 = 3)) (
 some ((false, ()), r1.2)) (
 ((x0).bind fun (a6 : Nat × Nat) =>
 (rdI .i64 r1.2 a6.1 (a6.2 + 2)).bind fun (v7 : Int) =>
 cond (decide (v7 = x1)) (
 (x0).bind fun (a8 : Nat × Nat) =>
 (wr r1.2 a8.1 (a8.2 + 2) [.int .i64 (-1)]).bind fun (H9 : Heap) =>
 some ((()), H9)) (
 some ((()), r1.2)) : Option ((Unit) × Heap)).bind fun (p10 : (Unit) × Heap) =>
 (x0).bind fun (a11 : Nat × Nat) =>
 (rdSl 1 p10.2 a11.1 a11.2).bind fun (v12 : Sl) =>
 (Sl.at 1 v12 x1).bind fun (a13 : (Nat × Nat)) =>
 (wr p10.2 a13.1 a13.2 [.int .i64 x2]).bind fun (H14 : Heap) =>
 some ((true, ()), H14)))
noncomputable def life_Life_set.c : Callee := .full [.one .ptr, .one (.int .i64), .one (.int .i64)] [.one .bool] (fun x H => life_Life_set x.1 x.2.1 x.2.2.1 H)
noncomputable def life_Life_set.calls : Nat → Option Callee
  | 0 => some life_Life_in.c
  | _ => none
theorem life_Life_set.eq : evFull life_Life_set.calls life_Life_set.af = (fun x H => life_Life_set x.1 x.2.1 x.2.2.1 H) := by kernel_rfl

/-! ### (*tinderbox/life.Life).Bad -/
def life_Life_Bad.af : AFun := ⟨[.one .ptr, .one (.int .i64)], [.one .bool], [.t 4],
 .seq (.reg [.op ⟨0, some 4, .mv (.c (.one (.bool false))), none⟩])
 (.seq (.reg [.op ⟨0, some 5, .mv (.t 0), none⟩,
  .op ⟨1, some 6, .mv (.t 1), none⟩,
  .op ⟨2, some 7, .call 0 [(.t 5), (.t 6), (.c (.one (.int .i64 3)))], none⟩,
  .op ⟨3, some 4, .mv (.t 7), none⟩])
 (.ret))⟩
noncomputable def life_Life_Bad (x0 : Ptr) (x1 : Int) (H : Heap) : Option ((Bool × Unit) × Heap) :=
 (life_Life_set x0 x1 3 H).bind fun (r1 : ((Bool × Unit) × Heap)) =>
 some ((r1.1.1, ()), r1.2)
noncomputable def life_Life_Bad.c : Callee := .full [.one .ptr, .one (.int .i64)] [.one .bool] (fun x H => life_Life_Bad x.1 x.2.1 H)
noncomputable def life_Life_Bad.calls : Nat → Option Callee
  | 0 => some life_Life_set.c
  | _ => none
theorem life_Life_Bad.eq : evFull life_Life_Bad.calls life_Life_Bad.af = (fun x H => life_Life_Bad x.1 x.2.1 H) := by kernel_rfl

/-! ### (*tinderbox/life.Life).Full -/
def life_Life_Full.af : AFun := ⟨[.one .ptr, .one (.int .i64)], [.one .bool], [.t 4],
 .seq (.reg [.op ⟨0, some 4, .mv (.c (.one (.bool false))), none⟩])
 (.seq (.reg [.op ⟨0, some 5, .mv (.t 0), none⟩,
  .op ⟨1, some 6, .mv (.t 1), none⟩,
  .op ⟨2, some 7, .call 0 [(.t 5), (.t 6), (.c (.one (.int .i64 2)))], none⟩,
  .op ⟨3, some 4, .mv (.t 7), none⟩])
 (.ret))⟩
noncomputable def life_Life_Full (x0 : Ptr) (x1 : Int) (H : Heap) : Option ((Bool × Unit) × Heap) :=
 (life_Life_set x0 x1 2 H).bind fun (r1 : ((Bool × Unit) × Heap)) =>
 some ((r1.1.1, ()), r1.2)
noncomputable def life_Life_Full.c : Callee := .full [.one .ptr, .one (.int .i64)] [.one .bool] (fun x H => life_Life_Full x.1 x.2.1 H)
noncomputable def life_Life_Full.calls : Nat → Option Callee
  | 0 => some life_Life_set.c
  | _ => none
theorem life_Life_Full.eq : evFull life_Life_Full.calls life_Life_Full.af = (fun x H => life_Life_Full x.1 x.2.1 H) := by kernel_rfl

/-! ### (*tinderbox/life.Life).Free -/
def life_Life_Free.af : AFun := ⟨[.one .ptr, .one (.int .i64)], [.one .bool], [.t 4],
 .seq (.reg [.op ⟨0, some 4, .mv (.c (.one (.bool false))), none⟩])
 (.seq (.reg [.op ⟨0, some 5, .mv (.t 0), none⟩,
  .op ⟨1, some 6, .mv (.t 1), none⟩,
  .op ⟨2, some 7, .call 0 [(.t 5), (.t 6), (.c (.one (.int .i64 0)))], none⟩,
  .op ⟨3, some 4, .mv (.t 7), none⟩])
 (.ret))⟩
noncomputable def life_Life_Free (x0 : Ptr) (x1 : Int) (H : Heap) : Option ((Bool × Unit) × Heap) :=
 (life_Life_set x0 x1 0 H).bind fun (r1 : ((Bool × Unit) × Heap)) =>
 some ((r1.1.1, ()), r1.2)
noncomputable def life_Life_Free.c : Callee := .full [.one .ptr, .one (.int .i64)] [.one .bool] (fun x H => life_Life_Free x.1 x.2.1 H)
noncomputable def life_Life_Free.calls : Nat → Option Callee
  | 0 => some life_Life_set.c
  | _ => none
theorem life_Life_Free.eq : evFull life_Life_Free.calls life_Life_Free.af = (fun x H => life_Life_Free x.1 x.2.1 H) := by kernel_rfl
end Ev
