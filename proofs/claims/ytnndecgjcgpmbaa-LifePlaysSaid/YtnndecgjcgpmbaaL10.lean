/- What the functions of the chapter compute: abstract code, and a function of plain Lean for each; the kernel checks that they are the same. Written by gen.py. -/
import Derived.Test.YtnndecgjcgpmbaaEvCore
import Derived.KernelRfl
set_option linter.unusedVariables false
set_option maxRecDepth 100000
namespace Ev
open Go (IntKind BinOp UnOp)

/-! ### tinderbox/life.New -/
def life_New.af : AFun := ⟨[.one (.int .i64), .one (.int .i64)], [.one .ptr, .one (.int .i64)], [.t 4, .t 5],
 .seq (.reg [.op ⟨0, some 4, .mv (.c (.one (.ptr none))), none⟩,
  .op ⟨1, some 5, .mv (.c (.one (.int .i64 0))), none⟩])
 (.seq (.seq (.reg [.op ⟨0, some 6, .mv (.t 0), none⟩,
  .op ⟨1, some 7, .bin .lss (.t 6) (.c (.one (.int .i64 1))), none⟩,
  .op ⟨2, some 8, .mv (.t 7), none⟩,
  .op ⟨3, some 9, .mv (.t 0), some (8, false)⟩,
  .op ⟨4, some 10, .bin .gtr (.t 9) (.c (.one (.int .i64 32))), some (8, false)⟩,
  .op ⟨5, some 11, .pick (.t 8) (.c (.one (.bool true))) (.t 10), none⟩,
  .op ⟨6, some 12, .mv (.t 11), none⟩,
  .op ⟨7, some 13, .mv (.t 1), some (12, false)⟩,
  .op ⟨8, some 14, .bin .lss (.t 13) (.c (.one (.int .i64 1))), some (12, false)⟩,
  .op ⟨9, some 15, .pick (.t 12) (.c (.one (.bool true))) (.t 14), none⟩,
  .op ⟨10, some 16, .mv (.t 15), none⟩,
  .op ⟨11, some 17, .mv (.t 1), some (16, false)⟩,
  .op ⟨12, some 18, .bin .gtr (.t 17) (.c (.one (.int .i64 16))), some (16, false)⟩,
  .op ⟨13, some 19, .pick (.t 16) (.c (.one (.bool true))) (.t 18), none⟩])
 (.cond (.t 19) (.seq (.reg [.op ⟨0, some 4, .mv (.c (.one (.ptr none))), none⟩,
  .op ⟨1, some 5, .mv (.c (.one (.int .i64 1))), none⟩])
 (.ret)) (.skip)))
 (.seq (.reg [.op ⟨0, some 20, .mv (.t 0), none⟩,
  .op ⟨1, some 21, .mk 1 8 [.int .i64 0] (.t 20) (.t 20), none⟩,
  .op ⟨2, some 22, .mv (.t 1), none⟩,
  .op ⟨3, some 23, .build [.sl 1 Sl.nil, .int .i64 0, .int .i64 0, .int .i64 0] [(0, 1, (.t 21)), (1, 1, (.t 22)), (2, 1, (.c (.one (.int .i64 (-1)))))], none⟩,
  .op ⟨4, some 24, .box (.t 23), none⟩,
  .op ⟨5, some 4, .mv (.t 24), none⟩,
  .op ⟨6, some 5, .mv (.c (.one (.int .i64 0))), none⟩])
 (.ret)))⟩
noncomputable def life_New (x0 : Int) (x1 : Int) (H : Heap) : Option ((Ptr × Int × Unit) × Heap) :=
 cond (decide (x0 < 1)) (
 some ((none, 1, ()), H)) (
 cond (decide (32 < x0)) (
 some ((none, 1, ()), H)) (
 cond (decide (x1 < 1)) (
 some ((none, 1, ()), H)) (
 cond (decide (16 < x1)) (
 some ((none, 1, ()), H)) (
 (mkS H 8 [.int .i64 0] x0 x0).bind fun (p1 : (Sl × Heap)) =>
 let H2 : Heap := p1.2 ++ [Blk.cells [.sl 1 p1.1, .int .i64 x1, .int .i64 (-1), .int .i64 0] .exact]
 some ((some (p1.2.length, 0), 0, ()), H2)))))
noncomputable def life_New.c : Callee := .full [.one (.int .i64), .one (.int .i64)] [.one .ptr, .one (.int .i64)] (fun x H => life_New x.1 x.2.1 H)
noncomputable def life_New.calls : Nat → Option Callee
  | _ => none
theorem life_New.eq : evFull life_New.calls life_New.af = (fun x H => life_New x.1 x.2.1 H) := by kernel_rfl

/-! ### (*tinderbox/life.Life).in -/
def life_Life_in.af : AFun := ⟨[.one .ptr, .one (.int .i64)], [.one .bool], [.t 4],
 .seq (.reg [.op ⟨0, some 4, .mv (.c (.one (.bool false))), none⟩])
 (.seq (.reg [.op ⟨0, some 5, .mv (.t 0), none⟩,
  .op ⟨1, some 6, .isnil true (.t 5), none⟩,
  .op ⟨2, some 7, .mv (.t 6), none⟩,
  .op ⟨3, some 8, .mv (.t 1), some (7, true)⟩,
  .op ⟨4, some 9, .bin .geq (.t 8) (.c (.one (.int .i64 0))), some (7, true)⟩,
  .op ⟨5, some 10, .pick (.t 7) (.t 9) (.c (.one (.bool false))), none⟩,
  .op ⟨6, some 11, .mv (.t 10), none⟩,
  .op ⟨7, some 12, .mv (.t 1), some (11, true)⟩,
  .op ⟨8, some 13, .mv (.t 0), some (11, true)⟩,
  .op ⟨9, some 14, .nilc (.t 13), some (11, true)⟩,
  .op ⟨10, some 15, .addr 0 (.t 14), some (11, true)⟩,
  .op ⟨11, some 16, .load (.one (.sl 1)) (.t 15), some (11, true)⟩,
  .op ⟨12, some 17, .len (.t 16), some (11, true)⟩,
  .op ⟨13, some 18, .bin .lss (.t 12) (.t 17), some (11, true)⟩,
  .op ⟨14, some 19, .pick (.t 11) (.t 18) (.c (.one (.bool false))), none⟩,
  .op ⟨15, some 4, .mv (.t 19), none⟩])
 (.ret))⟩
noncomputable def life_Life_in (x0 : Ptr) (x1 : Int) (H : Heap) : Option ((Bool × Unit) × Heap) :=
 cond (!(Option.isNone x0)) (
 cond (decide (0 ≤ x1)) (
 (x0).bind fun (a1 : Nat × Nat) =>
 (rdSl 1 H a1.1 a1.2).bind fun (v2 : Sl) =>
 some (((decide (x1 < (v2.len : Int))), ()), H)) (
 some ((false, ()), H))) (
 some ((false, ()), H))
noncomputable def life_Life_in.c : Callee := .full [.one .ptr, .one (.int .i64)] [.one .bool] (fun x H => life_Life_in x.1 x.2.1 H)
noncomputable def life_Life_in.calls : Nat → Option Callee
  | _ => none
theorem life_Life_in.eq : evFull life_Life_in.calls life_Life_in.af = (fun x H => life_Life_in x.1 x.2.1 H) := by kernel_rfl

/-! ### (*tinderbox/life.Life).Open -/
def life_Life_Open.af : AFun := ⟨[.one .ptr, .one (.int .i64)], [.one .bool], [.t 4],
 .seq (.reg [.op ⟨0, some 4, .mv (.c (.one (.bool false))), none⟩])
 (.seq (.seq (.reg [.op ⟨0, some 5, .mv (.t 0), none⟩,
  .op ⟨1, some 6, .mv (.t 1), none⟩,
  .op ⟨2, some 7, .call 0 [(.t 5), (.t 6)], none⟩,
  .op ⟨3, some 8, .un .not (.t 7), none⟩,
  .op ⟨4, some 9, .mv (.t 8), none⟩,
  .op ⟨5, some 10, .mv (.t 0), some (9, false)⟩,
  .op ⟨6, some 11, .nilc (.t 10), some (9, false)⟩,
  .op ⟨7, some 12, .addr 0 (.t 11), some (9, false)⟩,
  .op ⟨8, some 13, .load (.one (.sl 1)) (.t 12), some (9, false)⟩,
  .op ⟨9, some 14, .mv (.t 1), some (9, false)⟩,
  .op ⟨10, some 15, .idxa 1 (.t 13) (.t 14), some (9, false)⟩,
  .op ⟨11, some 16, .load (.one (.int .i64)) (.t 15), some (9, false)⟩,
  .op ⟨12, some 17, .bin .neq (.t 16) (.c (.one (.int .i64 0))), some (9, false)⟩,
  .op ⟨13, some 18, .pick (.t 9) (.c (.one (.bool true))) (.t 17), none⟩,
  .op ⟨14, some 19, .mv (.t 18), none⟩,
  .op ⟨15, some 20, .mv (.t 0), some (19, false)⟩,
  .op ⟨16, some 21, .nilc (.t 20), some (19, false)⟩,
  .op ⟨17, some 22, .addr 2 (.t 21), some (19, false)⟩,
  .op ⟨18, some 23, .load (.one (.int .i64)) (.t 22), some (19, false)⟩,
  .op ⟨19, some 24, .bin .geq (.t 23) (.c (.one (.int .i64 0))), some (19, false)⟩,
  .op ⟨20, some 25, .pick (.t 19) (.c (.one (.bool true))) (.t 24), none⟩])
 (.cond (.t 25) (.seq (.reg [.op ⟨0, some 4, .mv (.c (.one (.bool false))), none⟩])
 (.ret)) (.skip)))
 (.seq (.reg [.op ⟨0, some 26, .mv (.t 0), none⟩,
  .op ⟨1, some 27, .nilc (.t 26), none⟩,
  .op ⟨2, some 28, .addr 0 (.t 27), none⟩,
  .op ⟨3, some 29, .load (.one (.sl 1)) (.t 28), none⟩,
  .op ⟨4, some 30, .mv (.t 1), none⟩,
  .op ⟨5, some 31, .mv (.t 0), none⟩,
  .op ⟨6, some 32, .mv (.t 0), none⟩,
  .op ⟨7, some 33, .mv (.t 1), none⟩,
  .op ⟨8, some 34, .idxa 1 (.t 29) (.t 30), none⟩,
  .op ⟨9, none, .store 1 (.t 34) (.c (.one (.int .i64 1))), none⟩,
  .op ⟨10, some 35, .nilc (.t 31), none⟩,
  .op ⟨11, some 36, .addr 2 (.t 35), none⟩,
  .op ⟨12, none, .store 1 (.t 36) (.t 33), none⟩,
  .op ⟨13, some 37, .nilc (.t 32), none⟩,
  .op ⟨14, some 38, .addr 3 (.t 37), none⟩,
  .op ⟨15, none, .store 1 (.t 38) (.c (.one (.int .i64 0))), none⟩])
 (.seq (.reg [.op ⟨0, some 4, .mv (.c (.one (.bool true))), none⟩])
 (.ret))))⟩
noncomputable def life_Life_Open (x0 : Ptr) (x1 : Int) (H : Heap) : Option ((Bool × Unit) × Heap) :=
 (life_Life_in x0 x1 H).bind fun (r1 : ((Bool × Unit) × Heap)) =>
 cond (!r1.1.1) (
 some ((false, ()), r1.2)) (
 (x0).bind fun (a2 : Nat × Nat) =>
 (rdSl 1 r1.2 a2.1 a2.2).bind fun (v3 : Sl) =>
 (Sl.at 1 v3 x1).bind fun (a4 : (Nat × Nat)) =>
 (rdI .i64 r1.2 a4.1 a4.2).bind fun (v5 : Int) =>
 cond (!decide (v5 = 0)) (
 some ((false, ()), r1.2)) (
 (x0).bind fun (a6 : Nat × Nat) =>
 (rdI .i64 r1.2 a6.1 (a6.2 + 2)).bind fun (v7 : Int) =>
 cond (decide (0 ≤ v7)) (
 some ((false, ()), r1.2)) (
 (x0).bind fun (a8 : Nat × Nat) =>
 (rdSl 1 r1.2 a8.1 a8.2).bind fun (v9 : Sl) =>
 (Sl.at 1 v9 x1).bind fun (a10 : (Nat × Nat)) =>
 (wr r1.2 a10.1 a10.2 [.int .i64 1]).bind fun (H11 : Heap) =>
 (x0).bind fun (a12 : Nat × Nat) =>
 (wr H11 a12.1 (a12.2 + 2) [.int .i64 x1]).bind fun (H13 : Heap) =>
 (x0).bind fun (a14 : Nat × Nat) =>
 (wr H13 a14.1 (a14.2 + 3) [.int .i64 0]).bind fun (H15 : Heap) =>
 some ((true, ()), H15))))
noncomputable def life_Life_Open.c : Callee := .full [.one .ptr, .one (.int .i64)] [.one .bool] (fun x H => life_Life_Open x.1 x.2.1 H)
noncomputable def life_Life_Open.calls : Nat → Option Callee
  | 0 => some life_Life_in.c
  | _ => none
theorem life_Life_Open.eq : evFull life_Life_Open.calls life_Life_Open.af = (fun x H => life_Life_Open x.1 x.2.1 H) := by kernel_rfl

/-! ### (*tinderbox/life.Life).Take -/
def life_Life_Take.af : AFun := ⟨[.one .ptr], [.one (.int .i64), .one (.int .i64), .one .bool], [.t 2, .t 3, .t 4],
 .seq (.reg [.op ⟨0, some 2, .mv (.c (.one (.int .i64 0))), none⟩,
  .op ⟨1, some 3, .mv (.c (.one (.int .i64 0))), none⟩,
  .op ⟨2, some 4, .mv (.c (.one (.bool false))), none⟩])
 (.seq (.seq (.reg [.op ⟨0, some 7, .mv (.t 0), none⟩,
  .op ⟨1, some 8, .isnil false (.t 7), none⟩,
  .op ⟨2, some 9, .mv (.t 8), none⟩,
  .op ⟨3, some 10, .mv (.t 0), some (9, false)⟩,
  .op ⟨4, some 11, .nilc (.t 10), some (9, false)⟩,
  .op ⟨5, some 12, .addr 2 (.t 11), some (9, false)⟩,
  .op ⟨6, some 13, .load (.one (.int .i64)) (.t 12), some (9, false)⟩,
  .op ⟨7, some 14, .bin .lss (.t 13) (.c (.one (.int .i64 0))), some (9, false)⟩,
  .op ⟨8, some 15, .pick (.t 9) (.c (.one (.bool true))) (.t 14), none⟩])
 (.cond (.t 15) (.seq (.reg [.op ⟨0, some 2, .mv (.c (.one (.int .i64 0))), none⟩,
  .op ⟨1, some 3, .mv (.c (.one (.int .i64 0))), none⟩,
  .op ⟨2, some 4, .mv (.c (.one (.bool false))), none⟩])
 (.ret)) (.skip)))
 (.seq (.reg [.op ⟨0, some 16, .mv (.t 0), none⟩,
  .op ⟨1, some 17, .nilc (.t 16), none⟩,
  .op ⟨2, some 18, .addr 2 (.t 17), none⟩,
  .op ⟨3, some 19, .load (.one (.int .i64)) (.t 18), none⟩,
  .op ⟨4, some 20, .mv (.t 0), none⟩,
  .op ⟨5, some 21, .nilc (.t 20), none⟩,
  .op ⟨6, some 22, .addr 3 (.t 21), none⟩,
  .op ⟨7, some 23, .load (.one (.int .i64)) (.t 22), none⟩,
  .op ⟨8, some 5, .mv (.t 19), none⟩,
  .op ⟨9, some 6, .mv (.t 23), none⟩])
 (.seq (.seq (.reg [.op ⟨0, some 24, .mv (.t 0), none⟩,
  .op ⟨1, some 25, .nilc (.t 24), none⟩,
  .op ⟨2, some 26, .addr 3 (.t 25), none⟩,
  .op ⟨3, some 27, .load (.one (.int .i64)) (.t 26), none⟩,
  .op ⟨4, some 28, .bin .add (.t 27) (.c (.one (.int .i64 1))), none⟩,
  .op ⟨5, some 29, .nilc (.t 24), none⟩,
  .op ⟨6, some 30, .addr 3 (.t 29), none⟩,
  .op ⟨7, none, .store 1 (.t 30) (.t 28), none⟩])
 (.seq (.reg [.op ⟨0, some 31, .mv (.t 0), none⟩,
  .op ⟨1, some 32, .nilc (.t 31), none⟩,
  .op ⟨2, some 33, .addr 3 (.t 32), none⟩,
  .op ⟨3, some 34, .load (.one (.int .i64)) (.t 33), none⟩,
  .op ⟨4, some 35, .mv (.t 0), none⟩,
  .op ⟨5, some 36, .nilc (.t 35), none⟩,
  .op ⟨6, some 37, .addr 1 (.t 36), none⟩,
  .op ⟨7, some 38, .load (.one (.int .i64)) (.t 37), none⟩,
  .op ⟨8, some 39, .bin .eql (.t 34) (.t 38), none⟩])
 (.cond (.t 39) (.reg [.op ⟨0, some 40, .mv (.t 0), none⟩,
  .op ⟨1, some 41, .nilc (.t 40), none⟩,
  .op ⟨2, some 42, .addr 0 (.t 41), none⟩,
  .op ⟨3, some 43, .load (.one (.sl 1)) (.t 42), none⟩,
  .op ⟨4, some 44, .mv (.t 5), none⟩,
  .op ⟨5, some 45, .mv (.t 0), none⟩,
  .op ⟨6, some 46, .idxa 1 (.t 43) (.t 44), none⟩,
  .op ⟨7, none, .store 1 (.t 46) (.c (.one (.int .i64 2))), none⟩,
  .op ⟨8, some 47, .nilc (.t 45), none⟩,
  .op ⟨9, some 48, .addr 2 (.t 47), none⟩,
  .op ⟨10, none, .store 1 (.t 48) (.c (.one (.int .i64 (-1)))), none⟩]) (.skip))))
 (.seq (.reg [.op ⟨0, some 49, .mv (.t 5), none⟩,
  .op ⟨1, some 50, .mv (.t 6), none⟩,
  .op ⟨2, some 2, .mv (.t 49), none⟩,
  .op ⟨3, some 3, .mv (.t 50), none⟩,
  .op ⟨4, some 4, .mv (.c (.one (.bool true))), none⟩])
 (.ret)))))⟩
noncomputable def life_Life_Take (x0 : Ptr) (H : Heap) : Option ((Int × Int × Bool × Unit) × Heap) :=
 cond (Option.isNone x0) (
 some ((0, 0, false, ()), H)) (
 (x0).bind fun (a1 : Nat × Nat) =>
 (rdI .i64 H a1.1 (a1.2 + 2)).bind fun (v2 : Int) =>
 cond (decide (v2 < 0)) (
 some ((0, 0, false, ()), H)) (
 (x0).bind fun (a3 : Nat × Nat) =>
 (rdI .i64 H a3.1 (a3.2 + 2)).bind fun (v4 : Int) =>
 (x0).bind fun (a5 : Nat × Nat) =>
 (rdI .i64 H a5.1 (a5.2 + 3)).bind fun (v6 : Int) =>
 (x0).bind fun (a7 : Nat × Nat) =>
 (rdI .i64 H a7.1 (a7.2 + 3)).bind fun (v8 : Int) =>
 (x0).bind fun (a9 : Nat × Nat) =>
 (wr H a9.1 (a9.2 + 3) [.int .i64 (IntKind.wrap .i64 (v8 + 1))]).bind fun (H10 : Heap) =>
 (x0).bind fun (a11 : Nat × Nat) =>
 (rdI .i64 H10 a11.1 (a11.2 + 3)).bind fun (v12 : Int) =>
 (x0).bind fun (a13 : Nat × Nat) =>
 (rdI .i64 H10 a13.1 (a13.2 + 1)).bind fun (v14 : Int) =>
 cond (decide (v12 = v14)) (
 (x0).bind fun (a15 : Nat × Nat) =>
 (rdSl 1 H10 a15.1 a15.2).bind fun (v16 : Sl) =>
 (Sl.at 1 v16 v4).bind fun (a17 : (Nat × Nat)) =>
 (wr H10 a17.1 a17.2 [.int .i64 2]).bind fun (H18 : Heap) =>
 (x0).bind fun (a19 : Nat × Nat) =>
 (wr H18 a19.1 (a19.2 + 2) [.int .i64 (-1)]).bind fun (H20 : Heap) =>
 some ((v4, v6, true, ()), H20)) (
 some ((v4, v6, true, ()), H10))))
noncomputable def life_Life_Take.c : Callee := .full [.one .ptr] [.one (.int .i64), .one (.int .i64), .one .bool] (fun x H => life_Life_Take x.1 H)
noncomputable def life_Life_Take.calls : Nat → Option Callee
  | _ => none
theorem life_Life_Take.eq : evFull life_Life_Take.calls life_Life_Take.af = (fun x H => life_Life_Take x.1 H) := by kernel_rfl

/-! ### (*tinderbox/life.Life).Is -/
def life_Life_Is.af : AFun := ⟨[.one .ptr, .one (.int .i64)], [.one (.int .i64)], [.t 4],
 .seq (.reg [.op ⟨0, some 4, .mv (.c (.one (.int .i64 0))), none⟩])
 (.seq (.seq (.reg [.op ⟨0, some 5, .mv (.t 0), none⟩,
  .op ⟨1, some 6, .mv (.t 1), none⟩,
  .op ⟨2, some 7, .call 0 [(.t 5), (.t 6)], none⟩,
  .op ⟨3, some 8, .un .not (.t 7), none⟩])
 (.cond (.t 8) (.seq (.reg [.op ⟨0, some 4, .mv (.c (.one (.int .i64 (-1)))), none⟩])
 (.ret)) (.skip)))
 (.seq (.reg [.op ⟨0, some 9, .mv (.t 0), none⟩,
  .op ⟨1, some 10, .nilc (.t 9), none⟩,
  .op ⟨2, some 11, .addr 0 (.t 10), none⟩,
  .op ⟨3, some 12, .load (.one (.sl 1)) (.t 11), none⟩,
  .op ⟨4, some 13, .mv (.t 1), none⟩,
  .op ⟨5, some 14, .idxa 1 (.t 12) (.t 13), none⟩,
  .op ⟨6, some 15, .load (.one (.int .i64)) (.t 14), none⟩,
  .op ⟨7, some 4, .mv (.t 15), none⟩])
 (.ret)))⟩
noncomputable def life_Life_Is (x0 : Ptr) (x1 : Int) (H : Heap) : Option ((Int × Unit) × Heap) :=
 (life_Life_in x0 x1 H).bind fun (r1 : ((Bool × Unit) × Heap)) =>
 cond (!r1.1.1) (
 some (((-1), ()), r1.2)) (
 (x0).bind fun (a2 : Nat × Nat) =>
 (rdSl 1 r1.2 a2.1 a2.2).bind fun (v3 : Sl) =>
 (Sl.at 1 v3 x1).bind fun (a4 : (Nat × Nat)) =>
 (rdI .i64 r1.2 a4.1 a4.2).bind fun (v5 : Int) =>
 some ((v5, ()), r1.2))
noncomputable def life_Life_Is.c : Callee := .full [.one .ptr, .one (.int .i64)] [.one (.int .i64)] (fun x H => life_Life_Is x.1 x.2.1 H)
noncomputable def life_Life_Is.calls : Nat → Option Callee
  | 0 => some life_Life_in.c
  | _ => none
theorem life_Life_Is.eq : evFull life_Life_Is.calls life_Life_Is.af = (fun x H => life_Life_Is x.1 x.2.1 H) := by kernel_rfl

/-! ### (*tinderbox/life.Life).Count -/
def life_Life_Count.af : AFun := ⟨[.one .ptr, .one (.int .i64)], [.one (.int .i64)], [.t 4],
 .seq (.reg [.op ⟨0, some 4, .mv (.c (.one (.int .i64 0))), none⟩])
 (.seq (.seq (.reg [.op ⟨0, some 8, .mv (.t 0), none⟩,
  .op ⟨1, some 9, .isnil false (.t 8), none⟩])
 (.cond (.t 9) (.seq (.reg [.op ⟨0, some 4, .mv (.c (.one (.int .i64 0))), none⟩])
 (.ret)) (.skip)))
 (.seq (.reg [.op ⟨0, some 5, .mv (.c (.one (.int .i64 0))), none⟩])
 (.seq (.seq (.reg [.op ⟨0, some 10, .mv (.t 0), none⟩,
  .op ⟨1, some 11, .nilc (.t 10), none⟩,
  .op ⟨2, some 12, .addr 0 (.t 11), none⟩,
  .op ⟨3, some 13, .load (.one (.sl 1)) (.t 12), none⟩,
  .op ⟨4, some 14, .len (.t 13), none⟩,
  .op ⟨5, some 15, .mv (.c (.one (.int .i64 0))), none⟩])
 (.block 0 (.loop [(5, .one (.int .i64)), (15, .one (.int .i64))] [(.exit 0, [(5, .one (.int .i64))])] (.seq (.reg [.op ⟨0, some 16, .bin .lss (.t 15) (.t 14), none⟩])
 (.seq (.cond (.t 16) (.skip) (.exit 0))
 (.seq (.block 1 (.seq (.reg [.op ⟨0, some 17, .idxa 1 (.t 13) (.t 15), none⟩,
  .op ⟨1, some 18, .load (.one (.int .i64)) (.t 17), none⟩,
  .op ⟨2, some 7, .mv (.t 18), none⟩])
 (.seq (.reg [.op ⟨0, some 19, .mv (.t 7), none⟩,
  .op ⟨1, some 20, .mv (.t 1), none⟩,
  .op ⟨2, some 21, .bin .eql (.t 19) (.t 20), none⟩])
 (.cond (.t 21) (.reg [.op ⟨0, some 22, .mv (.t 5), none⟩,
  .op ⟨1, some 23, .bin .add (.t 22) (.c (.one (.int .i64 1))), none⟩,
  .op ⟨2, some 5, .mv (.t 23), none⟩]) (.skip)))))
 (.reg [.op ⟨0, some 24, .bin .add (.t 15) (.c (.one (.int .i64 1))), none⟩,
  .op ⟨1, some 15, .mv (.t 24), none⟩])))))))
 (.seq (.reg [.op ⟨0, some 25, .mv (.t 5), none⟩,
  .op ⟨1, some 4, .mv (.t 25), none⟩])
 (.ret)))))⟩
noncomputable def life_Life_Count.s1 (x1 : Int) (v2 : Sl) (s3 : (Int × Int × Unit)) (H4 : Heap) : Option (((Int × Int × Unit) ⊕ (Int × Unit)) × Heap) :=
 cond (decide (s3.2.1 < (v2.len : Int))) (
 (Sl.at 1 v2 s3.2.1).bind fun (a5 : (Nat × Nat)) =>
 (rdI .i64 H4 a5.1 a5.2).bind fun (v6 : Int) =>
 cond (decide (v6 = x1)) (
 some (Sum.inl ((IntKind.wrap .i64 (s3.1 + 1)), (IntKind.wrap .i64 (s3.2.1 + 1)), ()), H4)) (
 some (Sum.inl (s3.1, (IntKind.wrap .i64 (s3.2.1 + 1)), ()), H4))) (
 some (Sum.inr (s3.1, ()), H4))
noncomputable def life_Life_Count (x0 : Ptr) (x1 : Int) (H : Heap) : Option ((Int × Unit) × Heap) :=
 cond (Option.isNone x0) (
 some ((0, ()), H)) (
 (x0).bind fun (a1 : Nat × Nat) =>
 (rdSl 1 H a1.1 a1.2).bind fun (v2 : Sl) =>
 (loopW (life_Life_Count.s1 x1 v2) (0, 0, ()) H).bind fun (p7 : (Int × Unit) × Heap) =>
 some ((p7.1.1, ()), p7.2))
noncomputable def life_Life_Count.c : Callee := .full [.one .ptr, .one (.int .i64)] [.one (.int .i64)] (fun x H => life_Life_Count x.1 x.2.1 H)
noncomputable def life_Life_Count.calls : Nat → Option Callee
  | _ => none
theorem life_Life_Count.eq : evFull life_Life_Count.calls life_Life_Count.af = (fun x H => life_Life_Count x.1 x.2.1 H) := by kernel_rfl

/-! ### (*tinderbox/life.Life).Room -/
def life_Life_Room.af : AFun := ⟨[.one .ptr], [.one (.int .i64)], [.t 2],
 .seq (.reg [.op ⟨0, some 2, .mv (.c (.one (.int .i64 0))), none⟩])
 (.seq (.seq (.reg [.op ⟨0, some 4, .mv (.t 0), none⟩,
  .op ⟨1, some 5, .isnil false (.t 4), none⟩])
 (.cond (.t 5) (.seq (.reg [.op ⟨0, some 2, .mv (.c (.one (.int .i64 0))), none⟩])
 (.ret)) (.skip)))
 (.seq (.reg [.op ⟨0, some 6, .mv (.t 0), none⟩,
  .op ⟨2, some 8, .mv (.t 0), none⟩,
  .op ⟨3, some 9, .nilc (.t 8), none⟩,
  .op ⟨4, some 10, .addr 1 (.t 9), none⟩,
  .op ⟨5, some 11, .load (.one (.int .i64)) (.t 10), none⟩,
  .op ⟨1, some 7, .call 0 [(.t 6), (.c (.one (.int .i64 0)))], none⟩,
  .op ⟨6, some 12, .bin .mul (.t 7) (.t 11), none⟩,
  .op ⟨7, some 3, .mv (.t 12), none⟩,
  .again ⟨5, some 11, .load (.one (.int .i64)) (.t 10), none⟩])
 (.seq (.seq (.reg [.op ⟨0, some 13, .mv (.t 0), none⟩,
  .op ⟨1, some 14, .nilc (.t 13), none⟩,
  .op ⟨2, some 15, .addr 2 (.t 14), none⟩,
  .op ⟨3, some 16, .load (.one (.int .i64)) (.t 15), none⟩,
  .op ⟨4, some 17, .bin .geq (.t 16) (.c (.one (.int .i64 0))), none⟩])
 (.cond (.t 17) (.reg [.op ⟨0, some 18, .mv (.t 3), none⟩,
  .op ⟨1, some 19, .mv (.t 0), none⟩,
  .op ⟨2, some 20, .nilc (.t 19), none⟩,
  .op ⟨3, some 21, .addr 1 (.t 20), none⟩,
  .op ⟨4, some 22, .load (.one (.int .i64)) (.t 21), none⟩,
  .op ⟨5, some 23, .mv (.t 0), none⟩,
  .op ⟨6, some 24, .nilc (.t 23), none⟩,
  .op ⟨7, some 25, .addr 3 (.t 24), none⟩,
  .op ⟨8, some 26, .load (.one (.int .i64)) (.t 25), none⟩,
  .op ⟨9, some 27, .bin .sub (.t 22) (.t 26), none⟩,
  .op ⟨10, some 28, .bin .add (.t 18) (.t 27), none⟩,
  .op ⟨11, some 3, .mv (.t 28), none⟩]) (.skip)))
 (.seq (.reg [.op ⟨0, some 29, .mv (.t 3), none⟩,
  .op ⟨1, some 2, .mv (.t 29), none⟩])
 (.ret)))))⟩
noncomputable def life_Life_Room (x0 : Ptr) (H : Heap) : Option ((Int × Unit) × Heap) :=
 cond (Option.isNone x0) (
 some ((0, ()), H)) (
 (x0).bind fun (a1 : Nat × Nat) =>
 (rdI .i64 H a1.1 (a1.2 + 1)).bind fun (v2 : Int) =>
 (life_Life_Count x0 0 H).bind fun (r3 : ((Int × Unit) × Heap)) =>
 (rdI .i64 r3.2 a1.1 (a1.2 + 1)).bind fun (v4 : Int) =>
 if V.w (.one (.int .i64 v4)) = V.w (.one (.int .i64 v2)) then
 (x0).bind fun (a5 : Nat × Nat) =>
 (rdI .i64 r3.2 a5.1 (a5.2 + 2)).bind fun (v6 : Int) =>
 cond (decide (0 ≤ v6)) (
 (x0).bind fun (a7 : Nat × Nat) =>
 (rdI .i64 r3.2 a7.1 (a7.2 + 1)).bind fun (v8 : Int) =>
 (x0).bind fun (a9 : Nat × Nat) =>
 (rdI .i64 r3.2 a9.1 (a9.2 + 3)).bind fun (v10 : Int) =>
 some (((IntKind.wrap .i64 ((IntKind.wrap .i64 (r3.1.1 * v2)) + (IntKind.wrap .i64 (v8 - v10)))), ()), r3.2)) (
 some (((IntKind.wrap .i64 (r3.1.1 * v2)), ()), r3.2))
 else none)
noncomputable def life_Life_Room.c : Callee := .full [.one .ptr] [.one (.int .i64)] (fun x H => life_Life_Room x.1 H)
noncomputable def life_Life_Room.calls : Nat → Option Callee
  | 0 => some life_Life_Count.c
  | _ => none
theorem life_Life_Room.eq : evFull life_Life_Room.calls life_Life_Room.af = (fun x H => life_Life_Room x.1 H) := by kernel_rfl

/-! ### tinderbox/tinderboxlaw10.awake -/
def law10_awake.af : AFun := ⟨[], [.one .bool], [.t 0],
 .seq (.reg [.op ⟨0, some 0, .mv (.c (.one (.bool false))), none⟩])
 (.seq (.reg [.op ⟨0, some 8, .call 0 [(.c (.one (.int .i64 3))), (.c (.one (.int .i64 4)))], none⟩,
  .op ⟨1, some 7, .mv (.t 8), none⟩,
  .op ⟨2, some 9, .ext (.t 7) 0, none⟩,
  .op ⟨3, some 10, .ext (.t 7) 1, none⟩,
  .op ⟨4, some 1, .mv (.t 9), none⟩,
  .op ⟨5, some 2, .mv (.t 10), none⟩])
 (.seq (.reg [.op ⟨0, some 11, .mv (.t 1), none⟩,
  .op ⟨1, some 12, .call 1 [(.t 11), (.c (.one (.int .i64 1)))], none⟩,
  .op ⟨2, some 3, .mv (.t 12), none⟩])
 (.seq (.reg [.op ⟨0, some 14, .mv (.t 1), none⟩,
  .op ⟨1, some 15, .call 2 [(.t 14)], none⟩,
  .op ⟨2, some 13, .mv (.t 15), none⟩,
  .op ⟨3, some 16, .ext (.t 13) 0, none⟩,
  .op ⟨4, some 17, .ext (.t 13) 1, none⟩,
  .op ⟨5, some 18, .ext (.t 13) 2, none⟩,
  .op ⟨6, some 4, .mv (.t 16), none⟩,
  .op ⟨7, some 5, .mv (.t 17), none⟩,
  .op ⟨8, some 6, .mv (.t 18), none⟩])
 (.seq (.reg [.op ⟨0, some 19, .mv (.t 2), none⟩,
  .op ⟨1, some 20, .bin .eql (.t 19) (.c (.one (.int .i64 0))), none⟩,
  .op ⟨2, some 21, .mv (.t 20), none⟩,
  .op ⟨3, some 22, .mv (.t 3), some (21, true)⟩,
  .op ⟨4, some 23, .pick (.t 21) (.t 22) (.c (.one (.bool false))), none⟩,
  .op ⟨5, some 24, .mv (.t 23), none⟩,
  .op ⟨6, some 25, .mv (.t 6), some (24, true)⟩,
  .op ⟨7, some 26, .pick (.t 24) (.t 25) (.c (.one (.bool false))), none⟩,
  .op ⟨8, some 27, .mv (.t 26), none⟩,
  .op ⟨9, some 28, .mv (.t 4), some (27, true)⟩,
  .op ⟨10, some 29, .bin .eql (.t 28) (.c (.one (.int .i64 1))), some (27, true)⟩,
  .op ⟨11, some 30, .pick (.t 27) (.t 29) (.c (.one (.bool false))), none⟩,
  .op ⟨12, some 31, .mv (.t 30), none⟩,
  .op ⟨13, some 32, .mv (.t 5), some (31, true)⟩,
  .op ⟨14, some 33, .bin .eql (.t 32) (.c (.one (.int .i64 0))), some (31, true)⟩,
  .op ⟨15, some 34, .pick (.t 31) (.t 33) (.c (.one (.bool false))), none⟩,
  .op ⟨16, some 35, .mv (.t 34), none⟩,
  .op ⟨17, some 36, .mv (.t 1), some (35, true)⟩,
  .op ⟨18, some 37, .call 3 [(.t 36), (.c (.one (.int .i64 1)))], some (35, true)⟩,
  .op ⟨19, some 38, .bin .eql (.t 37) (.c (.one (.int .i64 1))), some (35, true)⟩,
  .op ⟨20, some 39, .pick (.t 35) (.t 38) (.c (.one (.bool false))), none⟩,
  .op ⟨21, some 40, .mv (.t 39), none⟩,
  .op ⟨22, some 41, .mv (.t 1), some (40, true)⟩,
  .op ⟨23, some 42, .call 4 [(.t 41)], some (40, true)⟩,
  .op ⟨24, some 43, .bin .eql (.t 42) (.c (.one (.int .i64 11))), some (40, true)⟩,
  .op ⟨25, some 44, .pick (.t 40) (.t 43) (.c (.one (.bool false))), none⟩,
  .op ⟨26, some 45, .mv (.t 44), none⟩,
  .op ⟨27, some 46, .mv (.t 1), some (45, true)⟩,
  .op ⟨28, some 47, .call 5 [(.t 46), (.c (.one (.int .i64 0)))], some (45, true)⟩,
  .op ⟨29, some 48, .bin .eql (.t 47) (.c (.one (.int .i64 2))), some (45, true)⟩,
  .op ⟨30, some 49, .pick (.t 45) (.t 48) (.c (.one (.bool false))), none⟩,
  .op ⟨31, some 0, .mv (.t 49), none⟩])
 (.ret)))))⟩
noncomputable def law10_awake.on (H : Heap) : Option (Bool × Unit) :=
 (life_New 3 4 H).bind fun (r1 : ((Ptr × Int × Unit) × Heap)) =>
 (life_Life_Open r1.1.1 1 r1.2).bind fun (r2 : ((Bool × Unit) × Heap)) =>
 (life_Life_Take r1.1.1 r2.2).bind fun (r3 : ((Int × Int × Bool × Unit) × Heap)) =>
 cond (decide (r1.1.2.1 = 0)) (
 cond r2.1.1 (
 cond r3.1.2.2.1 (
 cond (decide (r3.1.1 = 1)) (
 cond (decide (r3.1.2.1 = 0)) (
 (life_Life_Is r1.1.1 1 r3.2).bind fun (r4 : ((Int × Unit) × Heap)) =>
 cond (decide (r4.1.1 = 1)) (
 (life_Life_Room r1.1.1 r4.2).bind fun (r5 : ((Int × Unit) × Heap)) =>
 cond (decide (r5.1.1 = 11)) (
 (life_Life_Count r1.1.1 0 r5.2).bind fun (r6 : ((Int × Unit) × Heap)) =>
 some ((decide (r6.1.1 = 2)), ())) (
 some (false, ()))) (
 some (false, ()))) (
 some (false, ()))) (
 some (false, ()))) (
 some (false, ()))) (
 some (false, ()))) (
 some (false, ()))
noncomputable def law10_awake  : Option (Bool × Unit) := law10_awake.on []
noncomputable def law10_awake.c : Callee := .pure [] [.one .bool] (fun _ => law10_awake)
noncomputable def law10_awake.calls : Nat → Option Callee
  | 0 => some life_New.c
  | 1 => some life_Life_Open.c
  | 2 => some life_Life_Take.c
  | 3 => some life_Life_Is.c
  | 4 => some life_Life_Room.c
  | 5 => some life_Life_Count.c
  | _ => none
theorem law10_awake.eq : evPure law10_awake.calls law10_awake.af = (fun _ H => law10_awake.on H) := by kernel_rfl

/-! ### (*tinderbox/life.Life).set -/
def life_Life_set.af : AFun := ⟨[.one .ptr, .one (.int .i64), .one (.int .i64)], [.one .bool], [.t 6],
 .seq (.reg [.op ⟨0, some 6, .mv (.c (.one (.bool false))), none⟩])
 (.seq (.seq (.reg [.op ⟨0, some 7, .mv (.t 0), none⟩,
  .op ⟨1, some 8, .mv (.t 1), none⟩,
  .op ⟨2, some 9, .call 0 [(.t 7), (.t 8)], none⟩,
  .op ⟨3, some 10, .un .not (.t 9), none⟩,
  .op ⟨4, some 11, .mv (.t 10), none⟩,
  .op ⟨5, some 12, .mv (.t 0), some (11, false)⟩,
  .op ⟨6, some 13, .nilc (.t 12), some (11, false)⟩,
  .op ⟨7, some 14, .addr 0 (.t 13), some (11, false)⟩,
  .op ⟨8, some 15, .load (.one (.sl 1)) (.t 14), some (11, false)⟩,
  .op ⟨9, some 16, .mv (.t 1), some (11, false)⟩,
  .op ⟨10, some 17, .idxa 1 (.t 15) (.t 16), some (11, false)⟩,
  .op ⟨11, some 18, .load (.one (.int .i64)) (.t 17), some (11, false)⟩,
  .op ⟨12, some 19, .bin .eql (.t 18) (.c (.one (.int .i64 3))), some (11, false)⟩,
  .op ⟨13, some 20, .pick (.t 11) (.c (.one (.bool true))) (.t 19), none⟩])
 (.cond (.t 20) (.seq (.reg [.op ⟨0, some 6, .mv (.c (.one (.bool false))), none⟩])
 (.ret)) (.skip)))
 (.seq (.scope [(.normal, [])] (.seq (.reg [.op ⟨0, some 21, .mv (.t 0), none⟩,
  .op ⟨1, some 22, .nilc (.t 21), none⟩,
  .op ⟨2, some 23, .addr 2 (.t 22), none⟩,
  .op ⟨3, some 24, .load (.one (.int .i64)) (.t 23), none⟩,
  .op ⟨4, some 25, .mv (.t 1), none⟩,
  .op ⟨5, some 26, .bin .eql (.t 24) (.t 25), none⟩])
 (.cond (.t 26) (.reg [.op ⟨0, some 27, .mv (.t 0), none⟩,
  .op ⟨1, some 28, .nilc (.t 27), none⟩,
  .op ⟨2, some 29, .addr 2 (.t 28), none⟩,
  .op ⟨3, none, .store 1 (.t 29) (.c (.one (.int .i64 (-1)))), none⟩]) (.skip))))
 (.seq (.reg [.op ⟨0, some 30, .mv (.t 0), none⟩,
  .op ⟨1, some 31, .nilc (.t 30), none⟩,
  .op ⟨2, some 32, .addr 0 (.t 31), none⟩,
  .op ⟨3, some 33, .load (.one (.sl 1)) (.t 32), none⟩,
  .op ⟨4, some 34, .mv (.t 1), none⟩,
  .op ⟨5, some 35, .mv (.t 2), none⟩,
  .op ⟨6, some 36, .idxa 1 (.t 33) (.t 34), none⟩,
  .op ⟨7, none, .store 1 (.t 36) (.t 35), none⟩])
 (.seq (.reg [.op ⟨0, some 6, .mv (.c (.one (.bool true))), none⟩])
 (.ret)))))⟩
noncomputable def life_Life_set (x0 : Ptr) (x1 : Int) (x2 : Int) (H : Heap) : Option ((Bool × Unit) × Heap) :=
 (life_Life_in x0 x1 H).bind fun (r1 : ((Bool × Unit) × Heap)) =>
 cond (!r1.1.1) (
 some ((false, ()), r1.2)) (
 (x0).bind fun (a2 : Nat × Nat) =>
 (rdSl 1 r1.2 a2.1 a2.2).bind fun (v3 : Sl) =>
 (Sl.at 1 v3 x1).bind fun (a4 : (Nat × Nat)) =>
 (rdI .i64 r1.2 a4.1 a4.2).bind fun (v5 : Int) =>
 cond (decide (v5 = 3)) (
 some ((false, ()), r1.2)) (
 ((x0).bind fun (a6 : Nat × Nat) =>
 (rdI .i64 r1.2 a6.1 (a6.2 + 2)).bind fun (v7 : Int) =>
 cond (decide (v7 = x1)) (
 (x0).bind fun (a8 : Nat × Nat) =>
 (wr r1.2 a8.1 (a8.2 + 2) [.int .i64 (-1)]).bind fun (H9 : Heap) =>
 some ((()), H9)) (
 some ((()), r1.2)) : Option ((Unit) × Heap)).bind fun (p10 : (Unit) × Heap) =>
 (x0).bind fun (a11 : Nat × Nat) =>
 (rdSl 1 p10.2 a11.1 a11.2).bind fun (v12 : Sl) =>
 (Sl.at 1 v12 x1).bind fun (a13 : (Nat × Nat)) =>
 (wr p10.2 a13.1 a13.2 [.int .i64 x2]).bind fun (H14 : Heap) =>
 some ((true, ()), H14)))
noncomputable def life_Life_set.c : Callee := .full [.one .ptr, .one (.int .i64), .one (.int .i64)] [.one .bool] (fun x H => life_Life_set x.1 x.2.1 x.2.2.1 H)
noncomputable def life_Life_set.calls : Nat → Option Callee
  | 0 => some life_Life_in.c
  | _ => none
theorem life_Life_set.eq : evFull life_Life_set.calls life_Life_set.af = (fun x H => life_Life_set x.1 x.2.1 x.2.2.1 H) := by kernel_rfl

/-! ### (*tinderbox/life.Life).Full -/
def life_Life_Full.af : AFun := ⟨[.one .ptr, .one (.int .i64)], [.one .bool], [.t 4],
 .seq (.reg [.op ⟨0, some 4, .mv (.c (.one (.bool false))), none⟩])
 (.seq (.reg [.op ⟨0, some 5, .mv (.t 0), none⟩,
  .op ⟨1, some 6, .mv (.t 1), none⟩,
  .op ⟨2, some 7, .call 0 [(.t 5), (.t 6), (.c (.one (.int .i64 2)))], none⟩,
  .op ⟨3, some 4, .mv (.t 7), none⟩])
 (.ret))⟩
noncomputable def life_Life_Full (x0 : Ptr) (x1 : Int) (H : Heap) : Option ((Bool × Unit) × Heap) :=
 (life_Life_set x0 x1 2 H).bind fun (r1 : ((Bool × Unit) × Heap)) =>
 some ((r1.1.1, ()), r1.2)
noncomputable def life_Life_Full.c : Callee := .full [.one .ptr, .one (.int .i64)] [.one .bool] (fun x H => life_Life_Full x.1 x.2.1 H)
noncomputable def life_Life_Full.calls : Nat → Option Callee
  | 0 => some life_Life_set.c
  | _ => none
theorem life_Life_Full.eq : evFull life_Life_Full.calls life_Life_Full.af = (fun x H => life_Life_Full x.1 x.2.1 H) := by kernel_rfl

/-! ### (*tinderbox/life.Life).Bad -/
def life_Life_Bad.af : AFun := ⟨[.one .ptr, .one (.int .i64)], [.one .bool], [.t 4],
 .seq (.reg [.op ⟨0, some 4, .mv (.c (.one (.bool false))), none⟩])
 (.seq (.reg [.op ⟨0, some 5, .mv (.t 0), none⟩,
  .op ⟨1, some 6, .mv (.t 1), none⟩,
  .op ⟨2, some 7, .call 0 [(.t 5), (.t 6), (.c (.one (.int .i64 3)))], none⟩,
  .op ⟨3, some 4, .mv (.t 7), none⟩])
 (.ret))⟩
noncomputable def life_Life_Bad (x0 : Ptr) (x1 : Int) (H : Heap) : Option ((Bool × Unit) × Heap) :=
 (life_Life_set x0 x1 3 H).bind fun (r1 : ((Bool × Unit) × Heap)) =>
 some ((r1.1.1, ()), r1.2)
noncomputable def life_Life_Bad.c : Callee := .full [.one .ptr, .one (.int .i64)] [.one .bool] (fun x H => life_Life_Bad x.1 x.2.1 H)
noncomputable def life_Life_Bad.calls : Nat → Option Callee
  | 0 => some life_Life_set.c
  | _ => none
theorem life_Life_Bad.eq : evFull life_Life_Bad.calls life_Life_Bad.af = (fun x H => life_Life_Bad x.1 x.2.1 H) := by kernel_rfl

/-! ### (*tinderbox/life.Life).At -/
def life_Life_At.af : AFun := ⟨[.one .ptr], [.one (.int .i64), .one (.int .i64), .one .bool], [.t 2, .t 3, .t 4],
 .seq (.reg [.op ⟨0, some 2, .mv (.c (.one (.int .i64 0))), none⟩,
  .op ⟨1, some 3, .mv (.c (.one (.int .i64 0))), none⟩,
  .op ⟨2, some 4, .mv (.c (.one (.bool false))), none⟩])
 (.seq (.seq (.reg [.op ⟨0, some 5, .mv (.t 0), none⟩,
  .op ⟨1, some 6, .isnil false (.t 5), none⟩,
  .op ⟨2, some 7, .mv (.t 6), none⟩,
  .op ⟨3, some 8, .mv (.t 0), some (7, false)⟩,
  .op ⟨4, some 9, .nilc (.t 8), some (7, false)⟩,
  .op ⟨5, some 10, .addr 2 (.t 9), some (7, false)⟩,
  .op ⟨6, some 11, .load (.one (.int .i64)) (.t 10), some (7, false)⟩,
  .op ⟨7, some 12, .bin .lss (.t 11) (.c (.one (.int .i64 0))), some (7, false)⟩,
  .op ⟨8, some 13, .pick (.t 7) (.c (.one (.bool true))) (.t 12), none⟩])
 (.cond (.t 13) (.seq (.reg [.op ⟨0, some 2, .mv (.c (.one (.int .i64 0))), none⟩,
  .op ⟨1, some 3, .mv (.c (.one (.int .i64 0))), none⟩,
  .op ⟨2, some 4, .mv (.c (.one (.bool false))), none⟩])
 (.ret)) (.skip)))
 (.seq (.reg [.op ⟨0, some 14, .mv (.t 0), none⟩,
  .op ⟨1, some 15, .nilc (.t 14), none⟩,
  .op ⟨2, some 16, .addr 2 (.t 15), none⟩,
  .op ⟨3, some 17, .load (.one (.int .i64)) (.t 16), none⟩,
  .op ⟨4, some 18, .mv (.t 0), none⟩,
  .op ⟨5, some 19, .nilc (.t 18), none⟩,
  .op ⟨6, some 20, .addr 3 (.t 19), none⟩,
  .op ⟨7, some 21, .load (.one (.int .i64)) (.t 20), none⟩,
  .op ⟨8, some 2, .mv (.t 17), none⟩,
  .op ⟨9, some 3, .mv (.t 21), none⟩,
  .op ⟨10, some 4, .mv (.c (.one (.bool true))), none⟩])
 (.ret)))⟩
noncomputable def life_Life_At (x0 : Ptr) (H : Heap) : Option ((Int × Int × Bool × Unit) × Heap) :=
 cond (Option.isNone x0) (
 some ((0, 0, false, ()), H)) (
 (x0).bind fun (a1 : Nat × Nat) =>
 (rdI .i64 H a1.1 (a1.2 + 2)).bind fun (v2 : Int) =>
 cond (decide (v2 < 0)) (
 some ((0, 0, false, ()), H)) (
 (x0).bind fun (a3 : Nat × Nat) =>
 (rdI .i64 H a3.1 (a3.2 + 2)).bind fun (v4 : Int) =>
 (x0).bind fun (a5 : Nat × Nat) =>
 (rdI .i64 H a5.1 (a5.2 + 3)).bind fun (v6 : Int) =>
 some ((v4, v6, true, ()), H)))
noncomputable def life_Life_At.c : Callee := .full [.one .ptr] [.one (.int .i64), .one (.int .i64), .one .bool] (fun x H => life_Life_At x.1 H)
noncomputable def life_Life_At.calls : Nat → Option Callee
  | _ => none
theorem life_Life_At.eq : evFull life_Life_At.calls life_Life_At.af = (fun x H => life_Life_At x.1 H) := by kernel_rfl

/-! ### tinderbox/tinderboxlaw10.LifeRoom -/
def law10_LifeRoom.af : AFun := ⟨[.one (.int .i64), .one (.int .i64), .one (.sl 2)], [.one .bool], [.t 6],
 .seq (.reg [.op ⟨0, some 6, .mv (.c (.one (.bool false))), none⟩])
 (.seq (.reg [.op ⟨0, some 22, .mv (.t 0), none⟩,
  .op ⟨1, some 23, .bin .and (.t 22) (.c (.one (.int .i64 15))), none⟩,
  .op ⟨2, some 24, .bin .add (.c (.one (.int .i64 1))) (.t 23), none⟩,
  .op ⟨3, some 25, .mv (.t 1), none⟩,
  .op ⟨4, some 26, .bin .and (.t 25) (.c (.one (.int .i64 7))), none⟩,
  .op ⟨5, some 27, .bin .add (.c (.one (.int .i64 1))) (.t 26), none⟩,
  .op ⟨6, some 7, .mv (.t 24), none⟩,
  .op ⟨7, some 8, .mv (.t 27), none⟩])
 (.seq (.reg [.op ⟨0, some 29, .mv (.t 7), none⟩,
  .op ⟨1, some 30, .mv (.t 8), none⟩,
  .op ⟨2, some 31, .call 0 [(.t 29), (.t 30)], none⟩,
  .op ⟨3, some 28, .mv (.t 31), none⟩,
  .op ⟨4, some 32, .ext (.t 28) 0, none⟩,
  .op ⟨5, some 33, .ext (.t 28) 1, none⟩,
  .op ⟨6, some 9, .mv (.t 32), none⟩,
  .op ⟨7, some 10, .mv (.t 33), none⟩])
 (.seq (.seq (.reg [.op ⟨0, some 34, .call 1 [], none⟩,
  .op ⟨1, some 35, .un .not (.t 34), none⟩,
  .op ⟨2, some 36, .mv (.t 35), none⟩,
  .op ⟨3, some 37, .mv (.t 10), some (36, false)⟩,
  .op ⟨4, some 38, .bin .neq (.t 37) (.c (.one (.int .i64 0))), some (36, false)⟩,
  .op ⟨5, some 39, .pick (.t 36) (.c (.one (.bool true))) (.t 38), none⟩])
 (.cond (.t 39) (.seq (.reg [.op ⟨0, some 6, .mv (.c (.one (.bool false))), none⟩])
 (.ret)) (.skip)))
 (.seq (.seq (.reg [.op ⟨0, some 11, .mv (.c (.one (.int .i64 0))), none⟩])
 (.block 0 (.loop [(11, .one (.int .i64))] [(.exit 0, [])] (.seq (.seq (.reg [.op ⟨0, some 40, .mv (.t 11), none⟩,
  .op ⟨1, some 41, .mv (.t 2), none⟩,
  .op ⟨2, some 42, .len (.t 41), none⟩,
  .op ⟨3, some 43, .bin .lss (.t 40) (.t 42), none⟩,
  .op ⟨4, some 44, .mv (.t 43), none⟩,
  .op ⟨5, some 45, .mv (.t 11), some (44, true)⟩,
  .op ⟨6, some 46, .bin .lss (.t 45) (.c (.one (.int .i64 40))), some (44, true)⟩,
  .op ⟨7, some 47, .pick (.t 44) (.t 46) (.c (.one (.bool false))), none⟩])
 (.cond (.t 47) (.skip) (.exit 0)))
 (.seq (.block 1 (.seq (.reg [.op ⟨0, some 50, .mv (.t 2), none⟩,
  .op ⟨1, some 51, .mv (.t 11), none⟩,
  .op ⟨2, some 52, .idxa 2 (.t 50) (.t 51), none⟩,
  .op ⟨3, some 53, .addr 0 (.t 52), none⟩,
  .op ⟨4, some 54, .load (.one (.int .i64)) (.t 53), none⟩])
 (.block 2 (.seq (.reg [.op ⟨0, some 58, .bin .eql (.t 54) (.c (.one (.int .i64 0))), none⟩,
  .op ⟨1, some 57, .mv (.t 58), none⟩])
 (.cond (.t 57) (.reg [.op ⟨0, some 59, .mv (.t 9), none⟩,
  .op ⟨1, some 60, .mv (.t 2), none⟩,
  .op ⟨2, some 61, .mv (.t 11), none⟩,
  .op ⟨3, some 62, .idxa 2 (.t 60) (.t 61), none⟩,
  .op ⟨4, some 63, .addr 1 (.t 62), none⟩,
  .op ⟨5, some 64, .load (.one (.int .i64)) (.t 63), none⟩,
  .op ⟨6, some 65, .call 2 [(.t 59), (.t 64)], none⟩]) (.seq (.reg [.op ⟨0, some 67, .bin .eql (.t 54) (.c (.one (.int .i64 4))), none⟩,
  .op ⟨1, some 66, .mv (.t 67), none⟩])
 (.cond (.t 66) (.reg [.op ⟨0, some 68, .mv (.t 9), none⟩,
  .op ⟨1, some 69, .mv (.t 2), none⟩,
  .op ⟨2, some 70, .mv (.t 11), none⟩,
  .op ⟨3, some 71, .idxa 2 (.t 69) (.t 70), none⟩,
  .op ⟨4, some 72, .addr 1 (.t 71), none⟩,
  .op ⟨5, some 73, .load (.one (.int .i64)) (.t 72), none⟩,
  .op ⟨6, some 74, .call 3 [(.t 68), (.t 73)], none⟩]) (.seq (.reg [.op ⟨0, some 76, .bin .eql (.t 54) (.c (.one (.int .i64 6))), none⟩,
  .op ⟨1, some 75, .mv (.t 76), none⟩])
 (.cond (.t 75) (.reg [.op ⟨0, some 77, .mv (.t 9), none⟩,
  .op ⟨1, some 78, .mv (.t 2), none⟩,
  .op ⟨2, some 79, .mv (.t 11), none⟩,
  .op ⟨3, some 80, .idxa 2 (.t 78) (.t 79), none⟩,
  .op ⟨4, some 81, .addr 1 (.t 80), none⟩,
  .op ⟨5, some 82, .load (.one (.int .i64)) (.t 81), none⟩,
  .op ⟨6, some 83, .call 4 [(.t 77), (.t 82)], none⟩]) (.reg [.op ⟨0, some 55, .mv (.t 9), none⟩,
  .op ⟨1, some 56, .call 5 [(.t 55)], none⟩]))))))))))
 (.reg [.op ⟨0, some 48, .mv (.t 11), none⟩,
  .op ⟨1, some 49, .bin .add (.t 48) (.c (.one (.int .i64 1))), none⟩,
  .op ⟨2, some 11, .mv (.t 49), none⟩]))))))
 (.seq (.reg [.op ⟨0, some 84, .mv (.t 9), none⟩,
  .op ⟨1, some 85, .call 6 [(.t 84)], none⟩,
  .op ⟨2, some 12, .mv (.t 85), none⟩,
  .op ⟨3, some 13, .mv (.c (.one (.int .i64 0))), none⟩])
 (.seq (.seq (.reg [.op ⟨0, some 14, .mv (.c (.one (.int .i64 0))), none⟩])
 (.block 3 (.loop [(13, .one (.int .i64)), (14, .one (.int .i64))] [(.exit 3, [(13, .one (.int .i64))])] (.seq (.seq (.reg [.op ⟨0, some 86, .mv (.t 14), none⟩,
  .op ⟨1, some 87, .bin .lss (.t 86) (.c (.one (.int .i64 200))), none⟩])
 (.cond (.t 87) (.skip) (.exit 3)))
 (.seq (.block 4 (.seq (.scope [(.normal, [])] (.seq (.reg [.op ⟨0, some 91, .mv (.t 9), none⟩,
  .op ⟨1, some 92, .call 7 [(.t 91)], none⟩,
  .op ⟨2, some 90, .mv (.t 92), none⟩,
  .op ⟨3, some 93, .ext (.t 90) 0, none⟩,
  .op ⟨4, some 94, .ext (.t 90) 1, none⟩,
  .op ⟨5, some 95, .ext (.t 90) 2, none⟩,
  .op ⟨6, some 15, .mv (.t 93), none⟩,
  .op ⟨7, some 16, .mv (.t 94), none⟩,
  .op ⟨8, some 17, .mv (.t 95), none⟩])
 (.seq (.reg [.op ⟨0, some 96, .mv (.t 17), none⟩,
  .op ⟨1, some 97, .un .not (.t 96), none⟩])
 (.cond (.t 97) (.seq (.reg [.op ⟨0, some 18, .mv (.c (.one (.int .i64 0))), none⟩])
 (.block 5 (.loop [(18, .one (.int .i64))] [(.exit 5, [])] (.seq (.seq (.reg [.op ⟨0, some 98, .mv (.t 18), none⟩,
  .op ⟨1, some 99, .mv (.t 7), none⟩,
  .op ⟨2, some 100, .bin .lss (.t 98) (.t 99), none⟩])
 (.cond (.t 100) (.skip) (.exit 5)))
 (.seq (.block 6 (.seq (.reg [.op ⟨0, some 103, .mv (.t 9), none⟩,
  .op ⟨1, some 104, .mv (.t 18), none⟩,
  .op ⟨2, some 105, .call 2 [(.t 103), (.t 104)], none⟩])
 (.cond (.t 105) (.exit 5) (.skip))))
 (.reg [.op ⟨0, some 101, .mv (.t 18), none⟩,
  .op ⟨1, some 102, .bin .add (.t 101) (.c (.one (.int .i64 1))), none⟩,
  .op ⟨2, some 18, .mv (.t 102), none⟩])))))) (.skip)))))
 (.seq (.seq (.reg [.op ⟨0, some 107, .mv (.t 9), none⟩,
  .op ⟨1, some 108, .call 5 [(.t 107)], none⟩,
  .op ⟨2, some 106, .mv (.t 108), none⟩,
  .op ⟨3, some 109, .ext (.t 106) 0, none⟩,
  .op ⟨4, some 110, .ext (.t 106) 1, none⟩,
  .op ⟨5, some 111, .ext (.t 106) 2, none⟩,
  .op ⟨6, some 19, .mv (.t 109), none⟩,
  .op ⟨7, some 20, .mv (.t 110), none⟩,
  .op ⟨8, some 21, .mv (.t 111), none⟩])
 (.seq (.reg [.op ⟨0, some 112, .mv (.t 21), none⟩,
  .op ⟨1, some 113, .un .not (.t 112), none⟩])
 (.cond (.t 113) (.exit 3) (.skip))))
 (.reg [.op ⟨0, some 114, .mv (.t 13), none⟩,
  .op ⟨1, some 115, .bin .add (.t 114) (.c (.one (.int .i64 1))), none⟩,
  .op ⟨2, some 13, .mv (.t 115), none⟩]))))
 (.reg [.op ⟨0, some 88, .mv (.t 14), none⟩,
  .op ⟨1, some 89, .bin .add (.t 88) (.c (.one (.int .i64 1))), none⟩,
  .op ⟨2, some 14, .mv (.t 89), none⟩]))))))
 (.seq (.reg [.op ⟨0, some 116, .mv (.t 13), none⟩,
  .op ⟨1, some 117, .mv (.t 12), none⟩,
  .op ⟨2, some 118, .bin .eql (.t 116) (.t 117), none⟩,
  .op ⟨3, some 119, .mv (.t 118), none⟩,
  .op ⟨4, some 120, .mv (.t 9), some (119, true)⟩,
  .op ⟨5, some 121, .call 6 [(.t 120)], some (119, true)⟩,
  .op ⟨6, some 122, .bin .eql (.t 121) (.c (.one (.int .i64 0))), some (119, true)⟩,
  .op ⟨7, some 123, .pick (.t 119) (.t 122) (.c (.one (.bool false))), none⟩,
  .op ⟨8, some 6, .mv (.t 123), none⟩])
 (.ret))))))))⟩
noncomputable def law10_LifeRoom.s1 (x2 : Sl) (r1 : ((Ptr × Int × Unit) × Heap)) (s3 : (Int × Unit)) (H4 : Heap) : Option (((Int × Unit) ⊕ (Unit)) × Heap) :=
 cond (decide (s3.1 < (x2.len : Int))) (
 cond (decide (s3.1 < 40)) (
 (Sl.at 2 x2 s3.1).bind fun (a5 : (Nat × Nat)) =>
 (rdI .i64 H4 a5.1 a5.2).bind fun (v6 : Int) =>
 cond (decide (v6 = 0)) (
 (Sl.at 2 x2 s3.1).bind fun (a7 : (Nat × Nat)) =>
 (rdI .i64 H4 a7.1 (a7.2 + 1)).bind fun (v8 : Int) =>
 (life_Life_Open r1.1.1 v8 H4).bind fun (r9 : ((Bool × Unit) × Heap)) =>
 some (Sum.inl ((IntKind.wrap .i64 (s3.1 + 1)), ()), r9.2)) (
 cond (decide (v6 = 4)) (
 (Sl.at 2 x2 s3.1).bind fun (a10 : (Nat × Nat)) =>
 (rdI .i64 H4 a10.1 (a10.2 + 1)).bind fun (v11 : Int) =>
 (life_Life_Full r1.1.1 v11 H4).bind fun (r12 : ((Bool × Unit) × Heap)) =>
 some (Sum.inl ((IntKind.wrap .i64 (s3.1 + 1)), ()), r12.2)) (
 cond (decide (v6 = 6)) (
 (Sl.at 2 x2 s3.1).bind fun (a13 : (Nat × Nat)) =>
 (rdI .i64 H4 a13.1 (a13.2 + 1)).bind fun (v14 : Int) =>
 (life_Life_Bad r1.1.1 v14 H4).bind fun (r15 : ((Bool × Unit) × Heap)) =>
 some (Sum.inl ((IntKind.wrap .i64 (s3.1 + 1)), ()), r15.2)) (
 (life_Life_Take r1.1.1 H4).bind fun (r16 : ((Int × Int × Bool × Unit) × Heap)) =>
 some (Sum.inl ((IntKind.wrap .i64 (s3.1 + 1)), ()), r16.2))))) (
 some (Sum.inr (()), H4))) (
 some (Sum.inr (()), H4))
noncomputable def law10_LifeRoom.s2 (x0 : Int) (r1 : ((Ptr × Int × Unit) × Heap)) (s22 : (Int × Unit)) (H23 : Heap) : Option (((Int × Unit) ⊕ (Unit)) × Heap) :=
 cond (decide (s22.1 < (IntKind.wrap .i64 (1 + (bitsI .and .i64 x0 15))))) (
 (life_Life_Open r1.1.1 s22.1 H23).bind fun (r24 : ((Bool × Unit) × Heap)) =>
 cond r24.1.1 (
 some (Sum.inr (()), r24.2)) (
 some (Sum.inl ((IntKind.wrap .i64 (s22.1 + 1)), ()), r24.2))) (
 some (Sum.inr (()), H23))
noncomputable def law10_LifeRoom.s3 (x0 : Int) (r1 : ((Ptr × Int × Unit) × Heap)) (s19 : (Int × Int × Unit)) (H20 : Heap) : Option (((Int × Int × Unit) ⊕ (Int × Unit)) × Heap) :=
 cond (decide (s19.2.1 < 200)) (
 ((life_Life_At r1.1.1 H20).bind fun (r21 : ((Int × Int × Bool × Unit) × Heap)) =>
 cond (!r21.1.2.2.1) (
 (loopW (law10_LifeRoom.s2 x0 r1) (0, ()) r21.2).bind fun (p25 : (Unit) × Heap) =>
 some ((()), p25.2)) (
 some ((()), r21.2)) : Option ((Unit) × Heap)).bind fun (p26 : (Unit) × Heap) =>
 (life_Life_Take r1.1.1 p26.2).bind fun (r27 : ((Int × Int × Bool × Unit) × Heap)) =>
 cond (!r27.1.2.2.1) (
 some (Sum.inr (s19.1, ()), r27.2)) (
 some (Sum.inl ((IntKind.wrap .i64 (s19.1 + 1)), (IntKind.wrap .i64 (s19.2.1 + 1)), ()), r27.2))) (
 some (Sum.inr (s19.1, ()), H20))
noncomputable def law10_LifeRoom (x0 : Int) (x1 : Int) (x2 : Sl) (H : Heap) : Option ((Bool × Unit) × Heap) :=
 (life_New (IntKind.wrap .i64 (1 + (bitsI .and .i64 x0 15))) (IntKind.wrap .i64 (1 + (bitsI .and .i64 x1 7))) H).bind fun (r1 : ((Ptr × Int × Unit) × Heap)) =>
 (law10_awake).bind fun (r2 : (Bool × Unit)) =>
 cond (!r2.1) (
 some ((false, ()), r1.2)) (
 cond (!decide (r1.1.2.1 = 0)) (
 some ((false, ()), r1.2)) (
 (loopW (law10_LifeRoom.s1 x2 r1) (0, ()) r1.2).bind fun (p17 : (Unit) × Heap) =>
 (life_Life_Room r1.1.1 p17.2).bind fun (r18 : ((Int × Unit) × Heap)) =>
 (loopW (law10_LifeRoom.s3 x0 r1) (0, 0, ()) r18.2).bind fun (p28 : (Int × Unit) × Heap) =>
 cond (decide (p28.1.1 = r18.1.1)) (
 (life_Life_Room r1.1.1 p28.2).bind fun (r29 : ((Int × Unit) × Heap)) =>
 some (((decide (r29.1.1 = 0)), ()), r29.2)) (
 some ((false, ()), p28.2))))
noncomputable def law10_LifeRoom.c : Callee := .full [.one (.int .i64), .one (.int .i64), .one (.sl 2)] [.one .bool] (fun x H => law10_LifeRoom x.1 x.2.1 x.2.2.1 H)
noncomputable def law10_LifeRoom.calls : Nat → Option Callee
  | 0 => some life_New.c
  | 1 => some law10_awake.c
  | 2 => some life_Life_Open.c
  | 3 => some life_Life_Full.c
  | 4 => some life_Life_Bad.c
  | 5 => some life_Life_Take.c
  | 6 => some life_Life_Room.c
  | 7 => some life_Life_At.c
  | _ => none
theorem law10_LifeRoom.eq : evFull law10_LifeRoom.calls law10_LifeRoom.af = (fun x H => law10_LifeRoom x.1 x.2.1 x.2.2.1 H) := by kernel_rfl

/-! ### (*tinderbox/life.Life).Free -/
def life_Life_Free.af : AFun := ⟨[.one .ptr, .one (.int .i64)], [.one .bool], [.t 4],
 .seq (.reg [.op ⟨0, some 4, .mv (.c (.one (.bool false))), none⟩])
 (.seq (.reg [.op ⟨0, some 5, .mv (.t 0), none⟩,
  .op ⟨1, some 6, .mv (.t 1), none⟩,
  .op ⟨2, some 7, .call 0 [(.t 5), (.t 6), (.c (.one (.int .i64 0)))], none⟩,
  .op ⟨3, some 4, .mv (.t 7), none⟩])
 (.ret))⟩
noncomputable def life_Life_Free (x0 : Ptr) (x1 : Int) (H : Heap) : Option ((Bool × Unit) × Heap) :=
 (life_Life_set x0 x1 0 H).bind fun (r1 : ((Bool × Unit) × Heap)) =>
 some ((r1.1.1, ()), r1.2)
noncomputable def life_Life_Free.c : Callee := .full [.one .ptr, .one (.int .i64)] [.one .bool] (fun x H => life_Life_Free x.1 x.2.1 H)
noncomputable def life_Life_Free.calls : Nat → Option Callee
  | 0 => some life_Life_set.c
  | _ => none
theorem life_Life_Free.eq : evFull life_Life_Free.calls life_Life_Free.af = (fun x H => life_Life_Free x.1 x.2.1 H) := by kernel_rfl

/-! ### tinderbox/tinderboxlaw10.same -/
def law10_same.af : AFun := ⟨[.one .ptr, .one (.sl 1), .one (.int .i64), .one (.int .i64), .one (.int .i64)], [.one .bool], [.t 10],
 .seq (.reg [.op ⟨0, some 10, .mv (.c (.one (.bool false))), none⟩])
 (.seq (.reg [.op ⟨0, some 18, .build [.int .i64 0, .int .i64 0, .int .i64 0, .int .i64 0] [], none⟩,
  .op ⟨1, some 12, .new [.int .i64 0, .int .i64 0, .int .i64 0, .int .i64 0], none⟩,
  .op ⟨2, some 11, .mv (.c (.one (.int .i64 0))), none⟩,
  .op ⟨3, none, .store 4 (.t 12) (.t 18), none⟩])
 (.seq (.seq (.reg [.op ⟨0, some 13, .mv (.c (.one (.int .i64 0))), none⟩])
 (.block 0 (.loop [(13, .one (.int .i64))] [(.exit 0, []), (.ret, [(10, .one .bool)])] (.seq (.seq (.reg [.op ⟨0, some 19, .mv (.t 13), none⟩,
  .op ⟨1, some 20, .mv (.t 1), none⟩,
  .op ⟨2, some 21, .len (.t 20), none⟩,
  .op ⟨3, some 22, .bin .lss (.t 19) (.t 21), none⟩])
 (.cond (.t 22) (.skip) (.exit 0)))
 (.seq (.block 1 (.seq (.reg [.op ⟨0, some 25, .mv (.t 1), none⟩,
  .op ⟨1, some 26, .mv (.t 13), none⟩,
  .op ⟨2, some 27, .idxa 1 (.t 25) (.t 26), none⟩,
  .op ⟨3, some 28, .load (.one (.int .i64)) (.t 27), none⟩,
  .op ⟨4, some 29, .idxarr 1 4 (.t 12) (.t 28), none⟩,
  .op ⟨5, some 30, .load (.one (.int .i64)) (.t 29), none⟩,
  .op ⟨6, some 31, .bin .add (.t 30) (.c (.one (.int .i64 1))), none⟩,
  .op ⟨7, some 32, .idxarr 1 4 (.t 12) (.t 28), none⟩,
  .op ⟨8, none, .store 1 (.t 32) (.t 31), none⟩])
 (.seq (.reg [.op ⟨0, some 33, .mv (.t 0), none⟩,
  .op ⟨1, some 34, .mv (.t 13), none⟩,
  .op ⟨3, some 36, .mv (.t 1), none⟩,
  .op ⟨4, some 37, .mv (.t 13), none⟩,
  .op ⟨5, some 38, .idxa 1 (.t 36) (.t 37), none⟩,
  .op ⟨6, some 39, .load (.one (.int .i64)) (.t 38), none⟩,
  .op ⟨2, some 35, .call 0 [(.t 33), (.t 34)], none⟩,
  .op ⟨7, some 40, .bin .neq (.t 35) (.t 39), none⟩,
  .again ⟨6, some 39, .load (.one (.int .i64)) (.t 38), none⟩])
 (.cond (.t 40) (.seq (.reg [.op ⟨0, some 10, .mv (.c (.one (.bool false))), none⟩])
 (.ret)) (.skip)))))
 (.reg [.op ⟨0, some 23, .mv (.t 13), none⟩,
  .op ⟨1, some 24, .bin .add (.t 23) (.c (.one (.int .i64 1))), none⟩,
  .op ⟨2, some 13, .mv (.t 24), none⟩]))))))
 (.seq (.reg [.op ⟨0, some 41, .idxarr 1 4 (.t 12) (.c (.one (.int .i64 0))), none⟩,
  .op ⟨1, some 42, .load (.one (.int .i64)) (.t 41), none⟩,
  .op ⟨2, some 43, .mv (.t 4), none⟩,
  .op ⟨3, some 44, .bin .mul (.t 42) (.t 43), none⟩,
  .op ⟨4, some 11, .mv (.t 44), none⟩])
 (.seq (.reg [.op ⟨0, some 46, .mv (.t 0), none⟩,
  .op ⟨1, some 47, .call 1 [(.t 46)], none⟩,
  .op ⟨2, some 45, .mv (.t 47), none⟩,
  .op ⟨3, some 48, .ext (.t 45) 0, none⟩,
  .op ⟨4, some 49, .ext (.t 45) 1, none⟩,
  .op ⟨5, some 50, .ext (.t 45) 2, none⟩,
  .op ⟨6, some 14, .mv (.t 48), none⟩,
  .op ⟨7, some 15, .mv (.t 49), none⟩,
  .op ⟨8, some 16, .mv (.t 50), none⟩])
 (.seq (.scope [(.normal, [(11, .one (.int .i64))])] (.seq (.reg [.op ⟨0, some 51, .mv (.t 2), none⟩,
  .op ⟨1, some 52, .bin .geq (.t 51) (.c (.one (.int .i64 0))), none⟩])
 (.cond (.t 52) (.reg [.op ⟨0, some 53, .mv (.t 11), none⟩,
  .op ⟨1, some 54, .mv (.t 4), none⟩,
  .op ⟨2, some 55, .mv (.t 3), none⟩,
  .op ⟨3, some 56, .bin .sub (.t 54) (.t 55), none⟩,
  .op ⟨4, some 57, .bin .add (.t 53) (.t 56), none⟩,
  .op ⟨5, some 11, .mv (.t 57), none⟩]) (.skip))))
 (.seq (.seq (.reg [.op ⟨0, some 17, .mv (.c (.one (.int .i64 0))), none⟩])
 (.block 2 (.loop [(17, .one (.int .i64))] [(.exit 2, []), (.ret, [(10, .one .bool)])] (.seq (.seq (.reg [.op ⟨0, some 58, .mv (.t 17), none⟩,
  .op ⟨1, some 59, .bin .lss (.t 58) (.c (.one (.int .i64 4))), none⟩])
 (.cond (.t 59) (.skip) (.exit 2)))
 (.seq (.block 3 (.seq (.reg [.op ⟨0, some 62, .mv (.t 0), none⟩,
  .op ⟨1, some 63, .mv (.t 17), none⟩,
  .op ⟨3, some 65, .mv (.t 17), none⟩,
  .op ⟨4, some 66, .idxarr 1 4 (.t 12) (.t 65), none⟩,
  .op ⟨5, some 67, .load (.one (.int .i64)) (.t 66), none⟩,
  .op ⟨2, some 64, .call 2 [(.t 62), (.t 63)], none⟩,
  .op ⟨6, some 68, .bin .neq (.t 64) (.t 67), none⟩,
  .again ⟨5, some 67, .load (.one (.int .i64)) (.t 66), none⟩])
 (.cond (.t 68) (.seq (.reg [.op ⟨0, some 10, .mv (.c (.one (.bool false))), none⟩])
 (.ret)) (.skip))))
 (.reg [.op ⟨0, some 60, .mv (.t 17), none⟩,
  .op ⟨1, some 61, .bin .add (.t 60) (.c (.one (.int .i64 1))), none⟩,
  .op ⟨2, some 17, .mv (.t 61), none⟩]))))))
 (.seq (.reg [.op ⟨0, some 69, .mv (.t 0), none⟩,
  .op ⟨1, some 70, .call 3 [(.t 69)], none⟩,
  .op ⟨2, some 71, .mv (.t 11), none⟩,
  .op ⟨3, some 72, .bin .eql (.t 70) (.t 71), none⟩,
  .op ⟨4, some 73, .mv (.t 72), none⟩,
  .op ⟨5, some 74, .mv (.t 16), some (73, true)⟩,
  .op ⟨6, some 75, .mv (.t 2), some (73, true)⟩,
  .op ⟨7, some 76, .bin .geq (.t 75) (.c (.one (.int .i64 0))), some (73, true)⟩,
  .op ⟨8, some 77, .eqb false (.t 74) (.t 76), some (73, true)⟩,
  .op ⟨9, some 78, .pick (.t 73) (.t 77) (.c (.one (.bool false))), none⟩,
  .op ⟨10, some 79, .mv (.t 78), none⟩,
  .op ⟨11, some 80, .mv (.t 16), some (79, true)⟩,
  .op ⟨12, some 81, .un .not (.t 80), some (79, true)⟩,
  .op ⟨13, some 82, .mv (.t 81), some (79, true)⟩,
  .op ⟨14, some 83, .mv (.t 14), some (82, false)⟩,
  .op ⟨15, some 84, .mv (.t 2), some (82, false)⟩,
  .op ⟨16, some 85, .bin .eql (.t 83) (.t 84), some (82, false)⟩,
  .op ⟨17, some 86, .mv (.t 85), some (82, false)⟩,
  .op ⟨18, some 87, .mv (.t 15), some (86, true)⟩,
  .op ⟨19, some 88, .mv (.t 3), some (86, true)⟩,
  .op ⟨20, some 89, .bin .eql (.t 87) (.t 88), some (86, true)⟩,
  .op ⟨21, some 90, .pick (.t 86) (.t 89) (.c (.one (.bool false))), some (82, false)⟩,
  .op ⟨22, some 91, .pick (.t 82) (.c (.one (.bool true))) (.t 90), some (79, true)⟩,
  .op ⟨23, some 92, .pick (.t 79) (.t 91) (.c (.one (.bool false))), none⟩,
  .op ⟨24, some 10, .mv (.t 92), none⟩])
 (.ret))))))))⟩
noncomputable def law10_same.s1 (x0 : Ptr) (x1 : Sl) (H : Heap) (s3 : (Int × Unit)) (H4 : Heap) : Option (((Int × Unit) ⊕ ((Unit) ⊕ (Bool × Unit))) × Heap) :=
 cond (decide (s3.1 < (x1.len : Int))) (
 (Sl.at 1 x1 s3.1).bind fun (a5 : (Nat × Nat)) =>
 (rdI .i64 H4 a5.1 a5.2).bind fun (v6 : Int) =>
 (arrAt 1 4 (H.length, 0) v6).bind fun (a7 : (Nat × Nat)) =>
 (rdI .i64 H4 a7.1 a7.2).bind fun (v8 : Int) =>
 (arrAt 1 4 (H.length, 0) v6).bind fun (a9 : (Nat × Nat)) =>
 (wr H4 a9.1 a9.2 [.int .i64 (IntKind.wrap .i64 (v8 + 1))]).bind fun (H10 : Heap) =>
 (Sl.at 1 x1 s3.1).bind fun (a11 : (Nat × Nat)) =>
 (rdI .i64 H10 a11.1 a11.2).bind fun (v12 : Int) =>
 (life_Life_Is x0 s3.1 H10).bind fun (r13 : ((Int × Unit) × Heap)) =>
 (rdI .i64 r13.2 a11.1 a11.2).bind fun (v14 : Int) =>
 if V.w (.one (.int .i64 v14)) = V.w (.one (.int .i64 v12)) then
 cond (!decide (r13.1.1 = v12)) (
 some (Sum.inr (Sum.inr (false, ())), r13.2)) (
 some (Sum.inl ((IntKind.wrap .i64 (s3.1 + 1)), ()), r13.2))
 else none) (
 some (Sum.inr (Sum.inl (())), H4))
noncomputable def law10_same.s2 (x0 : Ptr) (H : Heap) (s21 : (Int × Unit)) (H22 : Heap) : Option (((Int × Unit) ⊕ ((Unit) ⊕ (Bool × Unit))) × Heap) :=
 cond (decide (s21.1 < 4)) (
 (arrAt 1 4 (H.length, 0) s21.1).bind fun (a23 : (Nat × Nat)) =>
 (rdI .i64 H22 a23.1 a23.2).bind fun (v24 : Int) =>
 (life_Life_Count x0 s21.1 H22).bind fun (r25 : ((Int × Unit) × Heap)) =>
 (rdI .i64 r25.2 a23.1 a23.2).bind fun (v26 : Int) =>
 if V.w (.one (.int .i64 v26)) = V.w (.one (.int .i64 v24)) then
 cond (!decide (r25.1.1 = v24)) (
 some (Sum.inr (Sum.inr (false, ())), r25.2)) (
 some (Sum.inl ((IntKind.wrap .i64 (s21.1 + 1)), ()), r25.2))
 else none) (
 some (Sum.inr (Sum.inl (())), H22))
noncomputable def law10_same (x0 : Ptr) (x1 : Sl) (x2 : Int) (x3 : Int) (x4 : Int) (H : Heap) : Option ((Bool × Unit) × Heap) :=
 let H1 : Heap := H ++ [Blk.cells [.int .i64 0, .int .i64 0, .int .i64 0, .int .i64 0] .exact]
 (wr H1 H.length 0 [.int .i64 0, .int .i64 0, .int .i64 0, .int .i64 0]).bind fun (H2 : Heap) =>
 (loopW (law10_same.s1 x0 x1 H) (0, ()) H2).bind fun (p15 : ((Unit) ⊕ (Bool × Unit)) × Heap) =>
 Sum.elim (fun (y16 : (Unit)) =>
 (arrAt 1 4 (H.length, 0) 0).bind fun (a17 : (Nat × Nat)) =>
 (rdI .i64 p15.2 a17.1 a17.2).bind fun (v18 : Int) =>
 (life_Life_At x0 p15.2).bind fun (r19 : ((Int × Int × Bool × Unit) × Heap)) =>
 (cond (decide (0 ≤ x2)) (
 some (((IntKind.wrap .i64 ((IntKind.wrap .i64 (v18 * x4)) + (IntKind.wrap .i64 (x4 - x3)))), ()), r19.2)) (
 some (((IntKind.wrap .i64 (v18 * x4)), ()), r19.2)) : Option ((Int × Unit) × Heap)).bind fun (p20 : (Int × Unit) × Heap) =>
 (loopW (law10_same.s2 x0 H) (0, ()) p20.2).bind fun (p27 : ((Unit) ⊕ (Bool × Unit)) × Heap) =>
 Sum.elim (fun (y28 : (Unit)) =>
 (life_Life_Room x0 p27.2).bind fun (r29 : ((Int × Unit) × Heap)) =>
 cond (decide (r29.1.1 = p20.1.1)) (
 cond (r19.1.2.2.1 == (decide (0 ≤ x2))) (
 cond (!r19.1.2.2.1) (
 some ((true, ()), r29.2)) (
 cond (decide (r19.1.1 = x2)) (
 some (((decide (r19.1.2.1 = x3)), ()), r29.2)) (
 some ((false, ()), r29.2)))) (
 some ((false, ()), r29.2))) (
 some ((false, ()), r29.2))) (fun (z30 : (Bool × Unit)) =>
 some ((z30.1, ()), p27.2)) p27.1) (fun (z31 : (Bool × Unit)) =>
 some ((z31.1, ()), p15.2)) p15.1
noncomputable def law10_same.c : Callee := .full [.one .ptr, .one (.sl 1), .one (.int .i64), .one (.int .i64), .one (.int .i64)] [.one .bool] (fun x H => law10_same x.1 x.2.1 x.2.2.1 x.2.2.2.1 x.2.2.2.2.1 H)
noncomputable def law10_same.calls : Nat → Option Callee
  | 0 => some life_Life_Is.c
  | 1 => some life_Life_At.c
  | 2 => some life_Life_Count.c
  | 3 => some life_Life_Room.c
  | _ => none
theorem law10_same.eq : evFull law10_same.calls law10_same.af = (fun x H => law10_same x.1 x.2.1 x.2.2.1 x.2.2.2.1 x.2.2.2.2.1 H) := by kernel_rfl

/-! ### tinderbox/tinderboxlaw10.LifePlays -/
def law10_LifePlays.af : AFun := ⟨[.one (.int .i64), .one (.int .i64), .one (.sl 2)], [.one .bool], [.t 6],
 .seq (.reg [.op ⟨0, some 6, .mv (.c (.one (.bool false))), none⟩])
 (.seq (.reg [.op ⟨0, some 24, .mv (.t 0), none⟩,
  .op ⟨1, some 25, .bin .and (.t 24) (.c (.one (.int .i64 15))), none⟩,
  .op ⟨2, some 26, .bin .add (.c (.one (.int .i64 1))) (.t 25), none⟩,
  .op ⟨3, some 27, .mv (.t 1), none⟩,
  .op ⟨4, some 28, .bin .and (.t 27) (.c (.one (.int .i64 7))), none⟩,
  .op ⟨5, some 29, .bin .add (.c (.one (.int .i64 1))) (.t 28), none⟩,
  .op ⟨6, some 7, .mv (.t 26), none⟩,
  .op ⟨7, some 8, .mv (.t 29), none⟩])
 (.seq (.reg [.op ⟨0, some 31, .mv (.t 7), none⟩,
  .op ⟨1, some 32, .mv (.t 8), none⟩,
  .op ⟨2, some 33, .call 0 [(.t 31), (.t 32)], none⟩,
  .op ⟨3, some 30, .mv (.t 33), none⟩,
  .op ⟨4, some 34, .ext (.t 30) 0, none⟩,
  .op ⟨5, some 35, .ext (.t 30) 1, none⟩,
  .op ⟨6, some 9, .mv (.t 34), none⟩,
  .op ⟨7, some 10, .mv (.t 35), none⟩])
 (.seq (.reg [.op ⟨0, some 36, .mv (.t 7), none⟩,
  .op ⟨1, some 37, .mk 1 8 [.int .i64 0] (.t 36) (.t 36), none⟩,
  .op ⟨2, some 11, .mv (.t 37), none⟩,
  .op ⟨3, some 12, .mv (.c (.one (.int .i64 (-1)))), none⟩,
  .op ⟨4, some 13, .mv (.c (.one (.int .i64 0))), none⟩])
 (.seq (.seq (.reg [.op ⟨0, some 38, .call 1 [], none⟩,
  .op ⟨1, some 39, .un .not (.t 38), none⟩,
  .op ⟨2, some 40, .mv (.t 39), none⟩,
  .op ⟨3, some 41, .mv (.t 10), some (40, false)⟩,
  .op ⟨4, some 42, .bin .neq (.t 41) (.c (.one (.int .i64 0))), some (40, false)⟩,
  .op ⟨5, some 43, .pick (.t 40) (.c (.one (.bool true))) (.t 42), none⟩])
 (.cond (.t 43) (.seq (.reg [.op ⟨0, some 6, .mv (.c (.one (.bool false))), none⟩])
 (.ret)) (.skip)))
 (.seq (.seq (.reg [.op ⟨0, some 14, .mv (.c (.one (.int .i64 0))), none⟩])
 (.block 0 (.loop [(12, .one (.int .i64)), (13, .one (.int .i64)), (14, .one (.int .i64))] [(.exit 0, []), (.ret, [(6, .one .bool)])] (.seq (.seq (.reg [.op ⟨0, some 44, .mv (.t 14), none⟩,
  .op ⟨1, some 45, .mv (.t 2), none⟩,
  .op ⟨2, some 46, .len (.t 45), none⟩,
  .op ⟨3, some 47, .bin .lss (.t 44) (.t 46), none⟩,
  .op ⟨4, some 48, .mv (.t 47), none⟩,
  .op ⟨5, some 49, .mv (.t 14), some (48, true)⟩,
  .op ⟨6, some 50, .bin .lss (.t 49) (.c (.one (.int .i64 80))), some (48, true)⟩,
  .op ⟨7, some 51, .pick (.t 48) (.t 50) (.c (.one (.bool false))), none⟩])
 (.cond (.t 51) (.skip) (.exit 0)))
 (.seq (.block 1 (.seq (.reg [.op ⟨0, some 54, .mv (.t 2), none⟩,
  .op ⟨1, some 55, .mv (.t 14), none⟩,
  .op ⟨2, some 56, .idxa 2 (.t 54) (.t 55), none⟩,
  .op ⟨3, some 57, .addr 1 (.t 56), none⟩,
  .op ⟨4, some 58, .load (.one (.int .i64)) (.t 57), none⟩,
  .op ⟨5, some 15, .mv (.t 58), none⟩])
 (.seq (.scope [(.normal, [(16, .one .bool)])] (.reg [.op ⟨0, some 59, .mv (.t 15), none⟩,
  .op ⟨1, some 60, .bin .geq (.t 59) (.c (.one (.int .i64 0))), none⟩,
  .op ⟨2, some 61, .mv (.t 60), none⟩,
  .op ⟨3, some 62, .mv (.t 15), some (61, true)⟩,
  .op ⟨4, some 63, .mv (.t 7), some (61, true)⟩,
  .op ⟨5, some 64, .bin .lss (.t 62) (.t 63), some (61, true)⟩,
  .op ⟨6, some 65, .pick (.t 61) (.t 64) (.c (.one (.bool false))), none⟩,
  .op ⟨7, some 16, .mv (.t 65), none⟩]))
 (.seq (.scope [(.normal, [(12, .one (.int .i64)), (13, .one (.int .i64))]), (.ret, [(6, .one .bool)])] (.seq (.reg [.op ⟨0, some 66, .mv (.t 2), none⟩,
  .op ⟨1, some 67, .mv (.t 14), none⟩,
  .op ⟨2, some 68, .idxa 2 (.t 66) (.t 67), none⟩,
  .op ⟨3, some 69, .addr 0 (.t 68), none⟩,
  .op ⟨4, some 70, .load (.one (.int .i64)) (.t 69), none⟩])
 (.block 2 (.seq (.reg [.op ⟨0, some 104, .bin .eql (.t 70) (.c (.one (.int .i64 0))), none⟩,
  .op ⟨1, some 103, .mv (.t 104), none⟩])
 (.cond (.t 103) (.seq (.scope [(.normal, [(17, .one .bool)])] (.reg [.op ⟨0, some 105, .mv (.t 16), none⟩,
  .op ⟨1, some 106, .mv (.t 105), none⟩,
  .op ⟨2, some 107, .mv (.t 11), some (106, true)⟩,
  .op ⟨3, some 108, .mv (.t 15), some (106, true)⟩,
  .op ⟨4, some 109, .idxa 1 (.t 107) (.t 108), some (106, true)⟩,
  .op ⟨5, some 110, .load (.one (.int .i64)) (.t 109), some (106, true)⟩,
  .op ⟨6, some 111, .bin .eql (.t 110) (.c (.one (.int .i64 0))), some (106, true)⟩,
  .op ⟨7, some 112, .pick (.t 106) (.t 111) (.c (.one (.bool false))), none⟩,
  .op ⟨8, some 113, .mv (.t 112), none⟩,
  .op ⟨9, some 114, .mv (.t 12), some (113, true)⟩,
  .op ⟨10, some 115, .bin .lss (.t 114) (.c (.one (.int .i64 0))), some (113, true)⟩,
  .op ⟨11, some 116, .pick (.t 113) (.t 115) (.c (.one (.bool false))), none⟩,
  .op ⟨12, some 17, .mv (.t 116), none⟩]))
 (.seq (.seq (.reg [.op ⟨0, some 117, .mv (.t 9), none⟩,
  .op ⟨1, some 118, .mv (.t 15), none⟩,
  .op ⟨2, some 119, .call 2 [(.t 117), (.t 118)], none⟩,
  .op ⟨3, some 120, .mv (.t 17), none⟩,
  .op ⟨4, some 121, .eqb true (.t 119) (.t 120), none⟩])
 (.cond (.t 121) (.seq (.reg [.op ⟨0, some 6, .mv (.c (.one (.bool false))), none⟩])
 (.ret)) (.skip)))
 (.seq (.reg [.op ⟨0, some 122, .mv (.t 17), none⟩])
 (.cond (.t 122) (.reg [.op ⟨0, some 123, .mv (.t 11), none⟩,
  .op ⟨1, some 124, .mv (.t 15), none⟩,
  .op ⟨2, some 125, .mv (.t 15), none⟩,
  .op ⟨3, some 126, .idxa 1 (.t 123) (.t 124), none⟩,
  .op ⟨4, none, .store 1 (.t 126) (.c (.one (.int .i64 1))), none⟩,
  .op ⟨5, some 12, .mv (.t 125), none⟩,
  .op ⟨6, some 13, .mv (.c (.one (.int .i64 0))), none⟩]) (.skip))))) (.seq (.scope [(.normal, [(127, .one .bool)])] (.seq (.reg [.op ⟨0, some 128, .bin .eql (.t 70) (.c (.one (.int .i64 4))), none⟩,
  .op ⟨1, some 127, .mv (.t 128), none⟩])
 (.cond (.t 127) (.skip) (.seq (.reg [.op ⟨0, some 129, .bin .eql (.t 70) (.c (.one (.int .i64 5))), none⟩,
  .op ⟨1, some 127, .mv (.t 129), none⟩])
 (.cond (.t 127) (.skip) (.reg [.op ⟨0, some 130, .bin .eql (.t 70) (.c (.one (.int .i64 6))), none⟩,
  .op ⟨1, some 127, .mv (.t 130), none⟩]))))))
 (.cond (.t 127) (.seq (.scope [(.normal, [(18, .one .bool)])] (.reg [.op ⟨0, some 131, .mv (.t 16), none⟩,
  .op ⟨1, some 132, .mv (.t 131), none⟩,
  .op ⟨2, some 133, .mv (.t 11), some (132, true)⟩,
  .op ⟨3, some 134, .mv (.t 15), some (132, true)⟩,
  .op ⟨4, some 135, .idxa 1 (.t 133) (.t 134), some (132, true)⟩,
  .op ⟨5, some 136, .load (.one (.int .i64)) (.t 135), some (132, true)⟩,
  .op ⟨6, some 137, .bin .neq (.t 136) (.c (.one (.int .i64 3))), some (132, true)⟩,
  .op ⟨7, some 138, .pick (.t 132) (.t 137) (.c (.one (.bool false))), none⟩,
  .op ⟨8, some 18, .mv (.t 138), none⟩,
  .op ⟨9, some 19, .mv (.c (.one (.bool false))), none⟩]))
 (.seq (.reg [.op ⟨0, some 20, .mv (.c (.one (.int .i64 2))), none⟩])
 (.seq (.scope [(.normal, [(19, .one .bool), (20, .one (.int .i64))])] (.seq (.reg [.op ⟨0, some 139, .mv (.t 2), none⟩,
  .op ⟨1, some 140, .mv (.t 14), none⟩,
  .op ⟨2, some 141, .idxa 2 (.t 139) (.t 140), none⟩,
  .op ⟨3, some 142, .addr 0 (.t 141), none⟩,
  .op ⟨4, some 143, .load (.one (.int .i64)) (.t 142), none⟩])
 (.block 3 (.seq (.reg [.op ⟨0, some 148, .bin .eql (.t 143) (.c (.one (.int .i64 4))), none⟩,
  .op ⟨1, some 147, .mv (.t 148), none⟩])
 (.cond (.t 147) (.reg [.op ⟨0, some 149, .mv (.t 9), none⟩,
  .op ⟨1, some 150, .mv (.t 15), none⟩,
  .op ⟨2, some 151, .call 3 [(.t 149), (.t 150)], none⟩,
  .op ⟨3, some 19, .mv (.t 151), none⟩]) (.seq (.reg [.op ⟨0, some 153, .bin .eql (.t 143) (.c (.one (.int .i64 5))), none⟩,
  .op ⟨1, some 152, .mv (.t 153), none⟩])
 (.cond (.t 152) (.reg [.op ⟨0, some 154, .mv (.t 9), none⟩,
  .op ⟨1, some 155, .mv (.t 15), none⟩,
  .op ⟨2, some 156, .call 4 [(.t 154), (.t 155)], none⟩,
  .op ⟨3, some 19, .mv (.t 156), none⟩,
  .op ⟨4, some 20, .mv (.c (.one (.int .i64 0))), none⟩]) (.reg [.op ⟨0, some 144, .mv (.t 9), none⟩,
  .op ⟨1, some 145, .mv (.t 15), none⟩,
  .op ⟨2, some 146, .call 5 [(.t 144), (.t 145)], none⟩,
  .op ⟨3, some 19, .mv (.t 146), none⟩,
  .op ⟨4, some 20, .mv (.c (.one (.int .i64 3))), none⟩]))))))))
 (.seq (.seq (.reg [.op ⟨0, some 157, .mv (.t 19), none⟩,
  .op ⟨1, some 158, .mv (.t 18), none⟩,
  .op ⟨2, some 159, .eqb true (.t 157) (.t 158), none⟩])
 (.cond (.t 159) (.seq (.reg [.op ⟨0, some 6, .mv (.c (.one (.bool false))), none⟩])
 (.ret)) (.skip)))
 (.seq (.reg [.op ⟨0, some 160, .mv (.t 18), none⟩])
 (.cond (.t 160) (.seq (.reg [.op ⟨0, some 161, .mv (.t 11), none⟩,
  .op ⟨1, some 162, .mv (.t 15), none⟩,
  .op ⟨2, some 163, .mv (.t 20), none⟩,
  .op ⟨3, some 164, .idxa 1 (.t 161) (.t 162), none⟩,
  .op ⟨4, none, .store 1 (.t 164) (.t 163), none⟩])
 (.seq (.reg [.op ⟨0, some 165, .mv (.t 12), none⟩,
  .op ⟨1, some 166, .mv (.t 15), none⟩,
  .op ⟨2, some 167, .bin .eql (.t 165) (.t 166), none⟩])
 (.cond (.t 167) (.reg [.op ⟨0, some 12, .mv (.c (.one (.int .i64 (-1)))), none⟩]) (.skip)))) (.skip))))))) (.seq (.reg [.op ⟨0, some 72, .mv (.t 9), none⟩,
  .op ⟨1, some 73, .call 6 [(.t 72)], none⟩,
  .op ⟨2, some 71, .mv (.t 73), none⟩,
  .op ⟨3, some 74, .ext (.t 71) 0, none⟩,
  .op ⟨4, some 75, .ext (.t 71) 1, none⟩,
  .op ⟨5, some 76, .ext (.t 71) 2, none⟩,
  .op ⟨6, some 21, .mv (.t 74), none⟩,
  .op ⟨7, some 22, .mv (.t 75), none⟩,
  .op ⟨8, some 23, .mv (.t 76), none⟩])
 (.seq (.scope [(.normal, []), (.ret, [(6, .one .bool)])] (.seq (.reg [.op ⟨0, some 77, .mv (.t 23), none⟩,
  .op ⟨1, some 78, .mv (.t 12), none⟩,
  .op ⟨2, some 79, .bin .geq (.t 78) (.c (.one (.int .i64 0))), none⟩,
  .op ⟨3, some 80, .eqb true (.t 77) (.t 79), none⟩,
  .op ⟨4, some 81, .mv (.t 80), none⟩,
  .op ⟨5, some 82, .mv (.t 23), some (81, false)⟩,
  .op ⟨6, some 83, .mv (.t 82), some (81, false)⟩,
  .op ⟨7, some 84, .mv (.t 21), some (83, true)⟩,
  .op ⟨8, some 85, .mv (.t 12), some (83, true)⟩,
  .op ⟨9, some 86, .bin .neq (.t 84) (.t 85), some (83, true)⟩,
  .op ⟨10, some 87, .mv (.t 86), some (83, true)⟩,
  .op ⟨11, some 88, .mv (.t 22), some (87, false)⟩,
  .op ⟨12, some 89, .mv (.t 13), some (87, false)⟩,
  .op ⟨13, some 90, .bin .neq (.t 88) (.t 89), some (87, false)⟩,
  .op ⟨14, some 91, .pick (.t 87) (.c (.one (.bool true))) (.t 90), some (83, true)⟩,
  .op ⟨15, some 92, .pick (.t 83) (.t 91) (.c (.one (.bool false))), some (81, false)⟩,
  .op ⟨16, some 93, .pick (.t 81) (.c (.one (.bool true))) (.t 92), none⟩])
 (.cond (.t 93) (.seq (.reg [.op ⟨0, some 6, .mv (.c (.one (.bool false))), none⟩])
 (.ret)) (.skip))))
 (.seq (.reg [.op ⟨0, some 94, .mv (.t 23), none⟩])
 (.cond (.t 94) (.seq (.reg [.op ⟨0, some 95, .mv (.t 13), none⟩,
  .op ⟨1, some 96, .bin .add (.t 95) (.c (.one (.int .i64 1))), none⟩,
  .op ⟨2, some 13, .mv (.t 96), none⟩])
 (.seq (.reg [.op ⟨0, some 97, .mv (.t 13), none⟩,
  .op ⟨1, some 98, .mv (.t 8), none⟩,
  .op ⟨2, some 99, .bin .eql (.t 97) (.t 98), none⟩])
 (.cond (.t 99) (.reg [.op ⟨0, some 100, .mv (.t 11), none⟩,
  .op ⟨1, some 101, .mv (.t 12), none⟩,
  .op ⟨2, some 102, .idxa 1 (.t 100) (.t 101), none⟩,
  .op ⟨3, none, .store 1 (.t 102) (.c (.one (.int .i64 2))), none⟩,
  .op ⟨4, some 12, .mv (.c (.one (.int .i64 (-1)))), none⟩]) (.skip)))) (.skip))))))))))))
 (.seq (.reg [.op ⟨0, some 168, .mv (.t 9), none⟩,
  .op ⟨1, some 169, .mv (.t 11), none⟩,
  .op ⟨2, some 170, .mv (.t 12), none⟩,
  .op ⟨3, some 171, .mv (.t 13), none⟩,
  .op ⟨4, some 172, .mv (.t 8), none⟩,
  .op ⟨5, some 173, .call 7 [(.t 168), (.t 169), (.t 170), (.t 171), (.t 172)], none⟩,
  .op ⟨6, some 174, .un .not (.t 173), none⟩,
  .op ⟨7, some 175, .mv (.t 174), none⟩,
  .op ⟨8, some 176, .mv (.t 9), some (175, false)⟩,
  .op ⟨9, some 177, .mv (.t 15), some (175, false)⟩,
  .op ⟨10, some 178, .call 8 [(.t 176), (.t 177)], some (175, false)⟩,
  .op ⟨11, some 179, .bin .lss (.t 178) (.c (.one (.int .i64 0))), some (175, false)⟩,
  .op ⟨12, some 180, .mv (.t 16), some (175, false)⟩,
  .op ⟨13, some 181, .eqb false (.t 179) (.t 180), some (175, false)⟩,
  .op ⟨14, some 182, .pick (.t 175) (.c (.one (.bool true))) (.t 181), none⟩])
 (.cond (.t 182) (.seq (.reg [.op ⟨0, some 6, .mv (.c (.one (.bool false))), none⟩])
 (.ret)) (.skip)))))))
 (.reg [.op ⟨0, some 52, .mv (.t 14), none⟩,
  .op ⟨1, some 53, .bin .add (.t 52) (.c (.one (.int .i64 1))), none⟩,
  .op ⟨2, some 14, .mv (.t 53), none⟩]))))))
 (.seq (.reg [.op ⟨0, some 6, .mv (.c (.one (.bool true))), none⟩])
 (.ret)))))))⟩
noncomputable def law10_LifePlays.s1 (x0 : Int) (x1 : Int) (x2 : Sl) (r1 : ((Ptr × Int × Unit) × Heap)) (p2 : (Sl × Heap)) (s4 : (Int × Int × Int × Unit)) (H5 : Heap) : Option (((Int × Int × Int × Unit) ⊕ ((Unit) ⊕ (Bool × Unit))) × Heap) :=
 cond (decide (s4.2.2.1 < (x2.len : Int))) (
 cond (decide (s4.2.2.1 < 80)) (
 (Sl.at 2 x2 s4.2.2.1).bind fun (a6 : (Nat × Nat)) =>
 (rdI .i64 H5 a6.1 (a6.2 + 1)).bind fun (v7 : Int) =>
 (cond (decide (0 ≤ v7)) (
 some (((decide (v7 < (IntKind.wrap .i64 (1 + (bitsI .and .i64 x0 15))))), ()), H5)) (
 some ((false, ()), H5)) : Option ((Bool × Unit) × Heap)).bind fun (p8 : (Bool × Unit) × Heap) =>
 ((Sl.at 2 x2 s4.2.2.1).bind fun (a9 : (Nat × Nat)) =>
 (rdI .i64 p8.2 a9.1 a9.2).bind fun (v10 : Int) =>
 cond (decide (v10 = 0)) (
 (cond p8.1.1 (
 (Sl.at 1 p2.1 v7).bind fun (a11 : (Nat × Nat)) =>
 (rdI .i64 p8.2 a11.1 a11.2).bind fun (v12 : Int) =>
 cond (decide (v12 = 0)) (
 some (((decide (s4.1 < 0)), ()), p8.2)) (
 some ((false, ()), p8.2))) (
 some ((false, ()), p8.2)) : Option ((Bool × Unit) × Heap)).bind fun (p13 : (Bool × Unit) × Heap) =>
 (life_Life_Open r1.1.1 v7 p13.2).bind fun (r14 : ((Bool × Unit) × Heap)) =>
 cond (!(r14.1.1 == p13.1.1)) (
 some (Sum.inr (false, ()), r14.2)) (
 cond p13.1.1 (
 (Sl.at 1 p2.1 v7).bind fun (a15 : (Nat × Nat)) =>
 (wr r14.2 a15.1 a15.2 [.int .i64 1]).bind fun (H16 : Heap) =>
 some (Sum.inl (v7, 0, ()), H16)) (
 some (Sum.inl (s4.1, s4.2.1, ()), r14.2)))) (
 (cond (decide (v10 = 4)) (
 some (((decide (v10 = 4)), ()), p8.2)) (
 cond (decide (v10 = 5)) (
 some (((decide (v10 = 5)), ()), p8.2)) (
 some (((decide (v10 = 6)), ()), p8.2))) : Option ((Bool × Unit) × Heap)).bind fun (p17 : (Bool × Unit) × Heap) =>
 cond p17.1.1 (
 (cond p8.1.1 (
 (Sl.at 1 p2.1 v7).bind fun (a18 : (Nat × Nat)) =>
 (rdI .i64 p17.2 a18.1 a18.2).bind fun (v19 : Int) =>
 some (((!decide (v19 = 3)), ()), p17.2)) (
 some ((false, ()), p17.2)) : Option ((Bool × Unit) × Heap)).bind fun (p20 : (Bool × Unit) × Heap) =>
 ((Sl.at 2 x2 s4.2.2.1).bind fun (a21 : (Nat × Nat)) =>
 (rdI .i64 p20.2 a21.1 a21.2).bind fun (v22 : Int) =>
 cond (decide (v22 = 4)) (
 (life_Life_Full r1.1.1 v7 p20.2).bind fun (r23 : ((Bool × Unit) × Heap)) =>
 some ((r23.1.1, 2, ()), r23.2)) (
 cond (decide (v22 = 5)) (
 (life_Life_Free r1.1.1 v7 p20.2).bind fun (r24 : ((Bool × Unit) × Heap)) =>
 some ((r24.1.1, 0, ()), r24.2)) (
 (life_Life_Bad r1.1.1 v7 p20.2).bind fun (r25 : ((Bool × Unit) × Heap)) =>
 some ((r25.1.1, 3, ()), r25.2))) : Option ((Bool × Int × Unit) × Heap)).bind fun (p26 : (Bool × Int × Unit) × Heap) =>
 cond (!(p26.1.1 == p20.1.1)) (
 some (Sum.inr (false, ()), p26.2)) (
 cond p20.1.1 (
 (Sl.at 1 p2.1 v7).bind fun (a27 : (Nat × Nat)) =>
 (wr p26.2 a27.1 a27.2 [.int .i64 p26.1.2.1]).bind fun (H28 : Heap) =>
 cond (decide (s4.1 = v7)) (
 some (Sum.inl ((-1), s4.2.1, ()), H28)) (
 some (Sum.inl (s4.1, s4.2.1, ()), H28))) (
 some (Sum.inl (s4.1, s4.2.1, ()), p26.2)))) (
 (life_Life_Take r1.1.1 p17.2).bind fun (r29 : ((Int × Int × Bool × Unit) × Heap)) =>
 (cond (!(r29.1.2.2.1 == (decide (0 ≤ s4.1)))) (
 some (Sum.inr (false, ()), r29.2)) (
 cond r29.1.2.2.1 (
 cond (!decide (r29.1.1 = s4.1)) (
 some (Sum.inr (false, ()), r29.2)) (
 cond (!decide (r29.1.2.1 = s4.2.1)) (
 some (Sum.inr (false, ()), r29.2)) (
 some (Sum.inl (()), r29.2)))) (
 some (Sum.inl (()), r29.2))) : Option (((Unit) ⊕ (Bool × Unit)) × Heap)).bind fun (p30 : ((Unit) ⊕ (Bool × Unit)) × Heap) =>
 Sum.elim (fun (y31 : (Unit)) =>
 cond r29.1.2.2.1 (
 cond (decide ((IntKind.wrap .i64 (s4.2.1 + 1)) = (IntKind.wrap .i64 (1 + (bitsI .and .i64 x1 7))))) (
 (Sl.at 1 p2.1 s4.1).bind fun (a32 : (Nat × Nat)) =>
 (wr p30.2 a32.1 a32.2 [.int .i64 2]).bind fun (H33 : Heap) =>
 some (Sum.inl ((-1), (IntKind.wrap .i64 (s4.2.1 + 1)), ()), H33)) (
 some (Sum.inl (s4.1, (IntKind.wrap .i64 (s4.2.1 + 1)), ()), p30.2))) (
 some (Sum.inl (s4.1, s4.2.1, ()), p30.2))) (fun (z34 : (Bool × Unit)) =>
 some (Sum.inr (z34.1, ()), p30.2)) p30.1)) : Option (((Int × Int × Unit) ⊕ (Bool × Unit)) × Heap)).bind fun (p35 : ((Int × Int × Unit) ⊕ (Bool × Unit)) × Heap) =>
 Sum.elim (fun (y36 : (Int × Int × Unit)) =>
 (law10_same r1.1.1 p2.1 y36.1 y36.2.1 (IntKind.wrap .i64 (1 + (bitsI .and .i64 x1 7))) p35.2).bind fun (r37 : ((Bool × Unit) × Heap)) =>
 cond (!r37.1.1) (
 some (Sum.inr (Sum.inr (false, ())), r37.2)) (
 (life_Life_Is r1.1.1 v7 r37.2).bind fun (r38 : ((Int × Unit) × Heap)) =>
 cond ((decide (r38.1.1 < 0)) == p8.1.1) (
 some (Sum.inr (Sum.inr (false, ())), r38.2)) (
 some (Sum.inl (y36.1, y36.2.1, (IntKind.wrap .i64 (s4.2.2.1 + 1)), ()), r38.2)))) (fun (z39 : (Bool × Unit)) =>
 some (Sum.inr (Sum.inr (z39.1, ())), p35.2)) p35.1) (
 some (Sum.inr (Sum.inl (())), H5))) (
 some (Sum.inr (Sum.inl (())), H5))
noncomputable def law10_LifePlays (x0 : Int) (x1 : Int) (x2 : Sl) (H : Heap) : Option ((Bool × Unit) × Heap) :=
 (life_New (IntKind.wrap .i64 (1 + (bitsI .and .i64 x0 15))) (IntKind.wrap .i64 (1 + (bitsI .and .i64 x1 7))) H).bind fun (r1 : ((Ptr × Int × Unit) × Heap)) =>
 (mkS r1.2 8 [.int .i64 0] (IntKind.wrap .i64 (1 + (bitsI .and .i64 x0 15))) (IntKind.wrap .i64 (1 + (bitsI .and .i64 x0 15)))).bind fun (p2 : (Sl × Heap)) =>
 (law10_awake).bind fun (r3 : (Bool × Unit)) =>
 cond (!r3.1) (
 some ((false, ()), p2.2)) (
 cond (!decide (r1.1.2.1 = 0)) (
 some ((false, ()), p2.2)) (
 (loopW (law10_LifePlays.s1 x0 x1 x2 r1 p2) ((-1), 0, 0, ()) p2.2).bind fun (p40 : ((Unit) ⊕ (Bool × Unit)) × Heap) =>
 Sum.elim (fun (y41 : (Unit)) =>
 some ((true, ()), p40.2)) (fun (z42 : (Bool × Unit)) =>
 some ((z42.1, ()), p40.2)) p40.1))
noncomputable def law10_LifePlays.c : Callee := .full [.one (.int .i64), .one (.int .i64), .one (.sl 2)] [.one .bool] (fun x H => law10_LifePlays x.1 x.2.1 x.2.2.1 H)
noncomputable def law10_LifePlays.calls : Nat → Option Callee
  | 0 => some life_New.c
  | 1 => some law10_awake.c
  | 2 => some life_Life_Open.c
  | 3 => some life_Life_Full.c
  | 4 => some life_Life_Free.c
  | 5 => some life_Life_Bad.c
  | 6 => some life_Life_Take.c
  | 7 => some law10_same.c
  | 8 => some life_Life_Is.c
  | _ => none
theorem law10_LifePlays.eq : evFull law10_LifePlays.calls law10_LifePlays.af = (fun x H => law10_LifePlays x.1 x.2.1 x.2.2.1 H) := by kernel_rfl

/-! ### tinderbox/tinderboxlaw10.LifeNone -/
def law10_LifeNone.af : AFun := ⟨[.one (.int .i64), .one (.int .i64), .one (.int .i64)], [.one .bool], [.t 6],
 .seq (.reg [.op ⟨0, some 6, .mv (.c (.one (.bool false))), none⟩])
 (.seq (.reg [.op ⟨0, some 7, .mv (.c (.one (.ptr none))), none⟩])
 (.seq (.reg [.op ⟨0, some 18, .mv (.t 7), none⟩,
  .op ⟨1, some 19, .call 0 [(.t 18)], none⟩,
  .op ⟨2, some 17, .mv (.t 19), none⟩,
  .op ⟨3, some 20, .ext (.t 17) 0, none⟩,
  .op ⟨4, some 21, .ext (.t 17) 1, none⟩,
  .op ⟨5, some 22, .ext (.t 17) 2, none⟩,
  .op ⟨6, some 8, .mv (.t 20), none⟩,
  .op ⟨7, some 9, .mv (.t 21), none⟩,
  .op ⟨8, some 10, .mv (.t 22), none⟩])
 (.seq (.reg [.op ⟨0, some 24, .mv (.t 7), none⟩,
  .op ⟨1, some 25, .call 1 [(.t 24)], none⟩,
  .op ⟨2, some 23, .mv (.t 25), none⟩,
  .op ⟨3, some 26, .ext (.t 23) 0, none⟩,
  .op ⟨4, some 27, .ext (.t 23) 1, none⟩,
  .op ⟨5, some 28, .ext (.t 23) 2, none⟩,
  .op ⟨6, some 11, .mv (.t 26), none⟩,
  .op ⟨7, some 12, .mv (.t 27), none⟩,
  .op ⟨8, some 13, .mv (.t 28), none⟩])
 (.seq (.reg [.op ⟨0, some 30, .mv (.t 0), none⟩,
  .op ⟨1, some 31, .mv (.t 1), none⟩,
  .op ⟨2, some 32, .call 2 [(.t 30), (.t 31)], none⟩,
  .op ⟨3, some 29, .mv (.t 32), none⟩,
  .op ⟨4, some 33, .ext (.t 29) 0, none⟩,
  .op ⟨5, some 34, .ext (.t 29) 1, none⟩,
  .op ⟨6, some 14, .mv (.t 33), none⟩,
  .op ⟨7, some 15, .mv (.t 34), none⟩])
 (.seq (.scope [(.normal, [(16, .one .bool)])] (.reg [.op ⟨0, some 35, .mv (.t 0), none⟩,
  .op ⟨1, some 36, .bin .geq (.t 35) (.c (.one (.int .i64 1))), none⟩,
  .op ⟨2, some 37, .mv (.t 36), none⟩,
  .op ⟨3, some 38, .mv (.t 0), some (37, true)⟩,
  .op ⟨4, some 39, .bin .leq (.t 38) (.c (.one (.int .i64 32))), some (37, true)⟩,
  .op ⟨5, some 40, .pick (.t 37) (.t 39) (.c (.one (.bool false))), none⟩,
  .op ⟨6, some 41, .mv (.t 40), none⟩,
  .op ⟨7, some 42, .mv (.t 1), some (41, true)⟩,
  .op ⟨8, some 43, .bin .geq (.t 42) (.c (.one (.int .i64 1))), some (41, true)⟩,
  .op ⟨9, some 44, .pick (.t 41) (.t 43) (.c (.one (.bool false))), none⟩,
  .op ⟨10, some 45, .mv (.t 44), none⟩,
  .op ⟨11, some 46, .mv (.t 1), some (45, true)⟩,
  .op ⟨12, some 47, .bin .leq (.t 46) (.c (.one (.int .i64 16))), some (45, true)⟩,
  .op ⟨13, some 48, .pick (.t 45) (.t 47) (.c (.one (.bool false))), none⟩,
  .op ⟨14, some 16, .mv (.t 48), none⟩]))
 (.seq (.reg [.op ⟨0, some 49, .call 3 [], none⟩,
  .op ⟨1, some 50, .mv (.t 49), none⟩,
  .op ⟨2, some 51, .mv (.t 7), some (50, true)⟩,
  .op ⟨3, some 52, .mv (.t 2), some (50, true)⟩,
  .op ⟨4, some 53, .call 4 [(.t 51), (.t 52)], some (50, true)⟩,
  .op ⟨5, some 54, .bin .eql (.t 53) (.c (.one (.int .i64 (-1)))), some (50, true)⟩,
  .op ⟨6, some 55, .pick (.t 50) (.t 54) (.c (.one (.bool false))), none⟩,
  .op ⟨7, some 56, .mv (.t 55), none⟩,
  .op ⟨8, some 57, .mv (.t 7), some (56, true)⟩,
  .op ⟨9, some 58, .mv (.t 2), some (56, true)⟩,
  .op ⟨10, some 59, .call 5 [(.t 57), (.t 58)], some (56, true)⟩,
  .op ⟨11, some 60, .un .not (.t 59), some (56, true)⟩,
  .op ⟨12, some 61, .pick (.t 56) (.t 60) (.c (.one (.bool false))), none⟩,
  .op ⟨13, some 62, .mv (.t 61), none⟩,
  .op ⟨14, some 63, .mv (.t 10), some (62, true)⟩,
  .op ⟨15, some 64, .un .not (.t 63), some (62, true)⟩,
  .op ⟨16, some 65, .pick (.t 62) (.t 64) (.c (.one (.bool false))), none⟩,
  .op ⟨17, some 66, .mv (.t 65), none⟩,
  .op ⟨18, some 67, .mv (.t 13), some (66, true)⟩,
  .op ⟨19, some 68, .un .not (.t 67), some (66, true)⟩,
  .op ⟨20, some 69, .pick (.t 66) (.t 68) (.c (.one (.bool false))), none⟩,
  .op ⟨21, some 70, .mv (.t 69), none⟩,
  .op ⟨22, some 71, .mv (.t 7), some (70, true)⟩,
  .op ⟨23, some 72, .mv (.t 2), some (70, true)⟩,
  .op ⟨24, some 73, .call 6 [(.t 71), (.t 72)], some (70, true)⟩,
  .op ⟨25, some 74, .un .not (.t 73), some (70, true)⟩,
  .op ⟨26, some 75, .pick (.t 70) (.t 74) (.c (.one (.bool false))), none⟩,
  .op ⟨27, some 76, .mv (.t 75), none⟩,
  .op ⟨28, some 77, .mv (.t 7), some (76, true)⟩,
  .op ⟨29, some 78, .mv (.t 2), some (76, true)⟩,
  .op ⟨30, some 79, .call 7 [(.t 77), (.t 78)], some (76, true)⟩,
  .op ⟨31, some 80, .un .not (.t 79), some (76, true)⟩,
  .op ⟨32, some 81, .pick (.t 76) (.t 80) (.c (.one (.bool false))), none⟩,
  .op ⟨33, some 82, .mv (.t 81), none⟩,
  .op ⟨34, some 83, .mv (.t 7), some (82, true)⟩,
  .op ⟨35, some 84, .mv (.t 2), some (82, true)⟩,
  .op ⟨36, some 85, .call 8 [(.t 83), (.t 84)], some (82, true)⟩,
  .op ⟨37, some 86, .un .not (.t 85), some (82, true)⟩,
  .op ⟨38, some 87, .pick (.t 82) (.t 86) (.c (.one (.bool false))), none⟩,
  .op ⟨39, some 88, .mv (.t 87), none⟩,
  .op ⟨40, some 89, .mv (.t 7), some (88, true)⟩,
  .op ⟨41, some 90, .call 9 [(.t 89)], some (88, true)⟩,
  .op ⟨42, some 91, .bin .eql (.t 90) (.c (.one (.int .i64 0))), some (88, true)⟩,
  .op ⟨43, some 92, .pick (.t 88) (.t 91) (.c (.one (.bool false))), none⟩,
  .op ⟨44, some 93, .mv (.t 92), none⟩,
  .op ⟨45, some 94, .mv (.t 7), some (93, true)⟩,
  .op ⟨46, some 95, .call 10 [(.t 94), (.c (.one (.int .i64 0)))], some (93, true)⟩,
  .op ⟨47, some 96, .bin .eql (.t 95) (.c (.one (.int .i64 0))), some (93, true)⟩,
  .op ⟨48, some 97, .pick (.t 93) (.t 96) (.c (.one (.bool false))), none⟩,
  .op ⟨49, some 98, .mv (.t 97), none⟩,
  .op ⟨50, some 99, .mv (.t 15), some (98, true)⟩,
  .op ⟨51, some 100, .bin .eql (.t 99) (.c (.one (.int .i64 0))), some (98, true)⟩,
  .op ⟨52, some 101, .mv (.t 16), some (98, true)⟩,
  .op ⟨53, some 102, .eqb false (.t 100) (.t 101), some (98, true)⟩,
  .op ⟨54, some 103, .pick (.t 98) (.t 102) (.c (.one (.bool false))), none⟩,
  .op ⟨55, some 104, .mv (.t 103), none⟩,
  .op ⟨56, some 105, .mv (.t 14), some (104, true)⟩,
  .op ⟨57, some 106, .isnil true (.t 105), some (104, true)⟩,
  .op ⟨58, some 107, .mv (.t 16), some (104, true)⟩,
  .op ⟨59, some 108, .eqb false (.t 106) (.t 107), some (104, true)⟩,
  .op ⟨60, some 109, .pick (.t 104) (.t 108) (.c (.one (.bool false))), none⟩,
  .op ⟨61, some 6, .mv (.t 109), none⟩])
 (.ret)))))))⟩
noncomputable def law10_LifeNone.on (x0 : Int) (x1 : Int) (x2 : Int) (H : Heap) : Option (Bool × Unit) :=
 (life_Life_Take none H).bind fun (r1 : ((Int × Int × Bool × Unit) × Heap)) =>
 (life_Life_At none r1.2).bind fun (r2 : ((Int × Int × Bool × Unit) × Heap)) =>
 (life_New x0 x1 r2.2).bind fun (r3 : ((Ptr × Int × Unit) × Heap)) =>
 (cond (decide (1 ≤ x0)) (
 cond (decide (x0 ≤ 32)) (
 cond (decide (1 ≤ x1)) (
 some (((decide (x1 ≤ 16)), ()), r3.2)) (
 some ((false, ()), r3.2))) (
 some ((false, ()), r3.2))) (
 some ((false, ()), r3.2)) : Option ((Bool × Unit) × Heap)).bind fun (p4 : (Bool × Unit) × Heap) =>
 (law10_awake).bind fun (r5 : (Bool × Unit)) =>
 cond r5.1 (
 (life_Life_Is none x2 p4.2).bind fun (r6 : ((Int × Unit) × Heap)) =>
 cond (decide (r6.1.1 = (-1))) (
 (life_Life_Open none x2 r6.2).bind fun (r7 : ((Bool × Unit) × Heap)) =>
 cond (!r7.1.1) (
 cond (!r1.1.2.2.1) (
 cond (!r2.1.2.2.1) (
 (life_Life_Full none x2 r7.2).bind fun (r8 : ((Bool × Unit) × Heap)) =>
 cond (!r8.1.1) (
 (life_Life_Free none x2 r8.2).bind fun (r9 : ((Bool × Unit) × Heap)) =>
 cond (!r9.1.1) (
 (life_Life_Bad none x2 r9.2).bind fun (r10 : ((Bool × Unit) × Heap)) =>
 cond (!r10.1.1) (
 (life_Life_Room none r10.2).bind fun (r11 : ((Int × Unit) × Heap)) =>
 cond (decide (r11.1.1 = 0)) (
 (life_Life_Count none 0 r11.2).bind fun (r12 : ((Int × Unit) × Heap)) =>
 cond (decide (r12.1.1 = 0)) (
 cond ((decide (r3.1.2.1 = 0)) == p4.1.1) (
 some (((!(Option.isNone r3.1.1)) == p4.1.1), ())) (
 some (false, ()))) (
 some (false, ()))) (
 some (false, ()))) (
 some (false, ()))) (
 some (false, ()))) (
 some (false, ()))) (
 some (false, ()))) (
 some (false, ()))) (
 some (false, ()))) (
 some (false, ()))) (
 some (false, ()))
noncomputable def law10_LifeNone (x0 : Int) (x1 : Int) (x2 : Int) : Option (Bool × Unit) := law10_LifeNone.on x0 x1 x2 []
noncomputable def law10_LifeNone.c : Callee := .pure [.one (.int .i64), .one (.int .i64), .one (.int .i64)] [.one .bool] (fun x => law10_LifeNone x.1 x.2.1 x.2.2.1)
noncomputable def law10_LifeNone.calls : Nat → Option Callee
  | 0 => some life_Life_Take.c
  | 1 => some life_Life_At.c
  | 2 => some life_New.c
  | 3 => some law10_awake.c
  | 4 => some life_Life_Is.c
  | 5 => some life_Life_Open.c
  | 6 => some life_Life_Full.c
  | 7 => some life_Life_Free.c
  | 8 => some life_Life_Bad.c
  | 9 => some life_Life_Room.c
  | 10 => some life_Life_Count.c
  | _ => none
theorem law10_LifeNone.eq : evPure law10_LifeNone.calls law10_LifeNone.af = (fun x H => law10_LifeNone.on x.1 x.2.1 x.2.2.1 H) := by kernel_rfl
end Ev
