/- What the functions of the package Law28 compute: abstract code, and a function of plain Lean for each; the kernel checks that they are the same. Written by gen2.py. -/
import Derived.Test.YtboamjjdpmaikaaEvCore
import Derived.Test.YtboamjjdpmaikaaGRef27
import Derived.Test.YtboamjjdpmaikaaGRs
import Derived.KernelRfl
set_option linter.unusedVariables false
set_option maxRecDepth 100000
namespace Ev
open Go (IntKind BinOp UnOp)

/-! ### tinderbox/tinderboxlaw28.few -/
def law28_few.af : AFun := ⟨[.one .str], [.one .str], [.t 2],
 .seq (.reg [.op ⟨0, some 2, .mv (.c (.one (.str []))), none⟩])
 (.seq (.seq (.reg [.op ⟨0, some 3, .mv (.t 0), none⟩,
  .op ⟨1, some 4, .lens (.t 3), none⟩,
  .op ⟨2, some 5, .bin .gtr (.t 4) (.c (.one (.int .i64 60))), none⟩])
 (.cond (.t 5) (.seq (.reg [.op ⟨0, some 6, .mv (.t 0), none⟩,
  .op ⟨1, some 7, .slstr (.t 6) none (some (.c (.one (.int .i64 60)))), none⟩,
  .op ⟨2, some 2, .mv (.t 7), none⟩])
 (.ret)) (.skip)))
 (.seq (.seq (.reg [.op ⟨0, some 8, .mv (.t 0), none⟩,
  .op ⟨1, some 9, .bin .eql (.t 8) (.c (.one (.str []))), none⟩])
 (.cond (.t 9) (.seq (.reg [.op ⟨0, some 2, .mv (.c (.one (.str [120]))), none⟩])
 (.ret)) (.skip)))
 (.seq (.reg [.op ⟨0, some 10, .mv (.t 0), none⟩,
  .op ⟨1, some 2, .mv (.t 10), none⟩])
 (.ret))))⟩
noncomputable def law28_few.on (x0 : Bytes) (H : Heap) : Option (Bytes × Unit) :=
 cond (decide (60 < (List.length (x0 : Bytes) : Int))) (
 (subS x0 0 60).bind fun (s1 : Bytes) =>
 some (s1, ())) (
 cond (decide ((x0 : Bytes) = [])) (
 some ([120], ())) (
 some (x0, ())))
noncomputable def law28_few (x0 : Bytes) : Option (Bytes × Unit) := law28_few.on x0 []
noncomputable def law28_few.c : Callee := .pure [.one .str] [.one .str] (fun x => law28_few x.1)
noncomputable def law28_few.calls : Nat → Option Callee
  | _ => none
theorem law28_few.eq : evPure law28_few.calls law28_few.af = (fun x H => law28_few.on x.1 H) := by kernel_rfl

/-! ### tinderbox/tinderboxlaw28.awake -/
def law28_awake.af : AFun := ⟨[], [.one .bool], [.t 0],
 .seq (.reg [.op ⟨0, some 0, .mv (.c (.one (.bool false))), none⟩])
 (.seq (.reg [.op ⟨0, some 7, .call 0 [(.c (.one (.str [116, 101, 120, 116]))), (.c (.one (.int .i64 4)))], none⟩,
  .op ⟨1, some 6, .mv (.t 7), none⟩,
  .op ⟨2, some 8, .ext (.t 6) 0, none⟩,
  .op ⟨3, some 9, .ext (.t 6) 1, none⟩,
  .op ⟨4, some 1, .mv (.t 8), none⟩,
  .op ⟨5, some 2, .mv (.t 9), none⟩])
 (.seq (.seq (.reg [.op ⟨0, some 10, .mv (.t 2), none⟩,
  .op ⟨1, some 11, .bin .neq (.t 10) (.c (.one (.int .i64 0))), none⟩,
  .op ⟨2, some 12, .mv (.t 11), none⟩,
  .op ⟨3, some 13, .mv (.t 1), some (12, false)⟩,
  .op ⟨4, some 14, .lens (.t 13), some (12, false)⟩,
  .op ⟨5, some 15, .bin .neq (.t 14) (.c (.one (.int .i64 8))), some (12, false)⟩,
  .op ⟨6, some 16, .pick (.t 12) (.c (.one (.bool true))) (.t 15), none⟩])
 (.cond (.t 16) (.seq (.reg [.op ⟨0, some 0, .mv (.c (.one (.bool false))), none⟩])
 (.ret)) (.skip)))
 (.seq (.reg [.op ⟨0, some 18, .mv (.t 1), none⟩,
  .op ⟨1, some 19, .slstr (.t 18) (some (.c (.one (.int .i64 4)))) none, none⟩,
  .op ⟨2, some 20, .bin .add (.c (.one (.str [116, 105, 120, 116]))) (.t 19), none⟩,
  .op ⟨3, some 21, .call 1 [(.t 20), (.c (.one (.int .i64 4))), (.c (.one (.sl 1 (⟨none, 0, 0⟩))))], none⟩,
  .op ⟨4, some 17, .mv (.t 21), none⟩,
  .op ⟨5, some 22, .ext (.t 17) 0, none⟩,
  .op ⟨6, some 23, .ext (.t 17) 1, none⟩,
  .op ⟨7, some 24, .ext (.t 17) 2, none⟩,
  .op ⟨8, some 3, .mv (.t 22), none⟩,
  .op ⟨9, some 4, .mv (.t 23), none⟩,
  .op ⟨10, some 5, .mv (.t 24), none⟩])
 (.seq (.reg [.op ⟨0, some 25, .mv (.t 5), none⟩,
  .op ⟨1, some 26, .bin .eql (.t 25) (.c (.one (.int .i64 0))), none⟩,
  .op ⟨2, some 27, .mv (.t 26), none⟩,
  .op ⟨3, some 28, .mv (.t 3), some (27, true)⟩,
  .op ⟨4, some 29, .mv (.t 1), some (27, true)⟩,
  .op ⟨5, some 30, .bin .eql (.t 28) (.t 29), some (27, true)⟩,
  .op ⟨6, some 31, .pick (.t 27) (.t 30) (.c (.one (.bool false))), none⟩,
  .op ⟨7, some 32, .mv (.t 31), none⟩,
  .op ⟨8, some 33, .mv (.t 4), some (32, true)⟩,
  .op ⟨9, some 34, .bin .eql (.t 33) (.c (.one (.int .i64 1))), some (32, true)⟩,
  .op ⟨10, some 35, .pick (.t 32) (.t 34) (.c (.one (.bool false))), none⟩,
  .op ⟨11, some 36, .mv (.t 35), none⟩,
  .op ⟨12, some 37, .mv (.t 1), some (36, true)⟩,
  .op ⟨13, some 38, .call 2 [(.t 37), (.c (.one (.int .i64 4)))], some (36, true)⟩,
  .op ⟨14, some 39, .pick (.t 36) (.t 38) (.c (.one (.bool false))), none⟩,
  .op ⟨15, some 0, .mv (.t 39), none⟩])
 (.ret)))))⟩
noncomputable def law28_awake.on (H : Heap) : Option (Bool × Unit) :=
 (rs_Encode [116, 101, 120, 116] 4).bind fun (r1 : (Bytes × Int × Unit)) =>
 cond (!decide (r1.2.1 = 0)) (
 some (false, ())) (
 cond (!decide ((List.length (r1.1 : Bytes) : Int) = 8)) (
 some (false, ())) (
 (subS r1.1 4 (List.length (r1.1 : Bytes) : Int)).bind fun (s2 : Bytes) =>
 (catS [116, 105, 120, 116] s2).bind fun (s3 : Bytes) =>
 (rs_Decode s3 4 (⟨none, 0, 0⟩) H).bind fun (r4 : ((Bytes × Int × Int × Unit) × Heap)) =>
 cond (decide (r4.1.2.2.1 = 0)) (
 cond (decide ((r4.1.1 : Bytes) = r1.1)) (
 cond (decide (r4.1.2.1 = 1)) (
 (rs_Right r1.1 4).bind fun (r5 : (Bool × Unit)) =>
 some (r5.1, ())) (
 some (false, ()))) (
 some (false, ()))) (
 some (false, ()))))
noncomputable def law28_awake  : Option (Bool × Unit) := law28_awake.on []
noncomputable def law28_awake.c : Callee := .pure [] [.one .bool] (fun _ => law28_awake)
noncomputable def law28_awake.calls : Nat → Option Callee
  | 0 => some rs_Encode.c
  | 1 => some rs_Decode.c
  | 2 => some rs_Right.c
  | _ => none
theorem law28_awake.eq : evPure law28_awake.calls law28_awake.af = (fun _ H => law28_awake.on H) := by kernel_rfl

/-! ### tinderbox/tinderboxlaw28.sign -/
def law28_sign.af : AFun := ⟨[.one .str, .one (.int .i64)], [.one (.int .u8)], [.t 4],
 .seq (.reg [.op ⟨0, some 4, .mv (.c (.one (.int .u8 0))), none⟩])
 (.seq (.reg [.op ⟨0, some 8, .mv (.t 1), none⟩,
  .op ⟨1, some 9, .call 0 [(.c (.one (.int .u8 2))), (.t 8)], none⟩,
  .op ⟨2, some 5, .mv (.t 9), none⟩,
  .op ⟨3, some 6, .mv (.c (.one (.int .u8 0))), none⟩])
 (.seq (.seq (.reg [.op ⟨0, some 7, .mv (.c (.one (.int .i64 0))), none⟩])
 (.block 0 (.loop [(6, .one (.int .u8)), (7, .one (.int .i64))] [(.exit 0, [(6, .one (.int .u8))])] (.seq (.seq (.reg [.op ⟨0, some 10, .mv (.t 7), none⟩,
  .op ⟨1, some 11, .mv (.t 0), none⟩,
  .op ⟨2, some 12, .lens (.t 11), none⟩,
  .op ⟨3, some 13, .bin .lss (.t 10) (.t 12), none⟩])
 (.cond (.t 13) (.skip) (.exit 0)))
 (.seq (.block 1 (.reg [.op ⟨0, some 16, .mv (.t 6), none⟩,
  .op ⟨1, some 17, .mv (.t 5), none⟩,
  .op ⟨2, some 18, .call 1 [(.t 16), (.t 17)], none⟩,
  .op ⟨3, some 19, .mv (.t 0), none⟩,
  .op ⟨4, some 20, .mv (.t 7), none⟩,
  .op ⟨5, some 21, .index (.t 19) (.t 20), none⟩,
  .op ⟨6, some 22, .bin .xor (.t 18) (.t 21), none⟩,
  .op ⟨7, some 6, .mv (.t 22), none⟩]))
 (.reg [.op ⟨0, some 14, .mv (.t 7), none⟩,
  .op ⟨1, some 15, .bin .add (.t 14) (.c (.one (.int .i64 1))), none⟩,
  .op ⟨2, some 7, .mv (.t 15), none⟩]))))))
 (.seq (.reg [.op ⟨0, some 23, .mv (.t 6), none⟩,
  .op ⟨1, some 4, .mv (.t 23), none⟩])
 (.ret))))⟩
noncomputable def law28_sign.s1 (x0 : Bytes) (r1 : (Int × Unit)) (s2 : (Int × Int × Unit)) (H3 : Heap) : Option (((Int × Int × Unit) ⊕ (Int × Unit)) × Heap) :=
 cond (decide (s2.2.1 < (List.length (x0 : Bytes) : Int))) (
 (ref27_Mul s2.1 r1.1).bind fun (r4 : (Int × Unit)) =>
 (idxS x0 s2.2.1).bind fun (n5 : Int) =>
 some (Sum.inl ((bitsI .xor .u8 r4.1 n5), (IntKind.wrap .i64 (s2.2.1 + 1)), ()), H3)) (
 some (Sum.inr (s2.1, ()), H3))
noncomputable def law28_sign.on (x0 : Bytes) (x1 : Int) (H : Heap) : Option (Int × Unit) :=
 (ref27_Pow 2 x1).bind fun (r1 : (Int × Unit)) =>
 (loopW (law28_sign.s1 x0 r1) (0, 0, ()) H).bind fun (p6 : (Int × Unit) × Heap) =>
 some (p6.1.1, ())
noncomputable def law28_sign (x0 : Bytes) (x1 : Int) : Option (Int × Unit) := law28_sign.on x0 x1 []
noncomputable def law28_sign.c : Callee := .pure [.one .str, .one (.int .i64)] [.one (.int .u8)] (fun x => law28_sign x.1 x.2.1)
noncomputable def law28_sign.calls : Nat → Option Callee
  | 0 => some ref27_Pow.c
  | 1 => some ref27_Mul.c
  | _ => none
theorem law28_sign.eq : evPure law28_sign.calls law28_sign.af = (fun x H => law28_sign.on x.1 x.2.1 H) := by kernel_rfl

/-! ### tinderbox/tinderboxlaw28.right -/
def law28_right.af : AFun := ⟨[.one .str, .one (.int .i64)], [.one .bool], [.t 4],
 .seq (.reg [.op ⟨0, some 4, .mv (.c (.one (.bool false))), none⟩])
 (.seq (.seq (.reg [.op ⟨0, some 5, .mv (.c (.one (.int .i64 0))), none⟩])
 (.block 0 (.loop [(5, .one (.int .i64))] [(.exit 0, []), (.ret, [(4, .one .bool)])] (.seq (.seq (.reg [.op ⟨0, some 6, .mv (.t 5), none⟩,
  .op ⟨1, some 7, .mv (.t 1), none⟩,
  .op ⟨2, some 8, .bin .lss (.t 6) (.t 7), none⟩])
 (.cond (.t 8) (.skip) (.exit 0)))
 (.seq (.block 1 (.seq (.reg [.op ⟨0, some 11, .mv (.t 0), none⟩,
  .op ⟨1, some 12, .mv (.t 5), none⟩,
  .op ⟨2, some 13, .call 0 [(.t 11), (.t 12)], none⟩,
  .op ⟨3, some 14, .bin .neq (.t 13) (.c (.one (.int .u8 0))), none⟩])
 (.cond (.t 14) (.seq (.reg [.op ⟨0, some 4, .mv (.c (.one (.bool false))), none⟩])
 (.ret)) (.skip))))
 (.reg [.op ⟨0, some 9, .mv (.t 5), none⟩,
  .op ⟨1, some 10, .bin .add (.t 9) (.c (.one (.int .i64 1))), none⟩,
  .op ⟨2, some 5, .mv (.t 10), none⟩]))))))
 (.seq (.reg [.op ⟨0, some 4, .mv (.c (.one (.bool true))), none⟩])
 (.ret)))⟩
noncomputable def law28_right.s1 (x0 : Bytes) (x1 : Int) (s1 : (Int × Unit)) (H2 : Heap) : Option (((Int × Unit) ⊕ ((Unit) ⊕ (Bool × Unit))) × Heap) :=
 cond (decide (s1.1 < x1)) (
 (law28_sign x0 s1.1).bind fun (r3 : (Int × Unit)) =>
 cond (!decide (r3.1 = 0)) (
 some (Sum.inr (Sum.inr (false, ())), H2)) (
 some (Sum.inl ((IntKind.wrap .i64 (s1.1 + 1)), ()), H2))) (
 some (Sum.inr (Sum.inl (())), H2))
noncomputable def law28_right.on (x0 : Bytes) (x1 : Int) (H : Heap) : Option (Bool × Unit) :=
 (loopW (law28_right.s1 x0 x1) (0, ()) H).bind fun (p4 : ((Unit) ⊕ (Bool × Unit)) × Heap) =>
 Sum.elim (fun (y5 : (Unit)) =>
 some (true, ())) (fun (z6 : (Bool × Unit)) =>
 some (z6.1, ())) p4.1
noncomputable def law28_right (x0 : Bytes) (x1 : Int) : Option (Bool × Unit) := law28_right.on x0 x1 []
noncomputable def law28_right.c : Callee := .pure [.one .str, .one (.int .i64)] [.one .bool] (fun x => law28_right x.1 x.2.1)
noncomputable def law28_right.calls : Nat → Option Callee
  | 0 => some law28_sign.c
  | _ => none
theorem law28_right.eq : evPure law28_right.calls law28_right.af = (fun x H => law28_right.on x.1 x.2.1 H) := by kernel_rfl

/-! ### tinderbox/tinderboxlaw28.RsEncodes -/
def law28_RsEncodes.af : AFun := ⟨[.one .str, .one (.int .i64)], [.one .bool], [.t 4],
 .seq (.reg [.op ⟨0, some 4, .mv (.c (.one (.bool false))), none⟩])
 (.seq (.reg [.op ⟨0, some 9, .mv (.t 0), none⟩,
  .op ⟨1, some 10, .call 0 [(.t 9)], none⟩,
  .op ⟨2, some 11, .mv (.t 1), none⟩,
  .op ⟨3, some 12, .bin .and (.t 11) (.c (.one (.int .i64 31))), none⟩,
  .op ⟨4, some 13, .bin .add (.c (.one (.int .i64 1))) (.t 12), none⟩,
  .op ⟨5, some 5, .mv (.t 10), none⟩,
  .op ⟨6, some 6, .mv (.t 13), none⟩])
 (.seq (.reg [.op ⟨0, some 15, .mv (.t 5), none⟩,
  .op ⟨1, some 16, .mv (.t 6), none⟩,
  .op ⟨2, some 17, .call 1 [(.t 15), (.t 16)], none⟩,
  .op ⟨3, some 14, .mv (.t 17), none⟩,
  .op ⟨4, some 18, .ext (.t 14) 0, none⟩,
  .op ⟨5, some 19, .ext (.t 14) 1, none⟩,
  .op ⟨6, some 7, .mv (.t 18), none⟩,
  .op ⟨7, some 8, .mv (.t 19), none⟩])
 (.seq (.reg [.op ⟨0, some 20, .call 2 [], none⟩,
  .op ⟨1, some 21, .mv (.t 20), none⟩,
  .op ⟨2, some 22, .mv (.t 8), some (21, true)⟩,
  .op ⟨3, some 23, .bin .eql (.t 22) (.c (.one (.int .i64 0))), some (21, true)⟩,
  .op ⟨4, some 24, .pick (.t 21) (.t 23) (.c (.one (.bool false))), none⟩,
  .op ⟨5, some 25, .mv (.t 24), none⟩,
  .op ⟨6, some 26, .mv (.t 7), some (25, true)⟩,
  .op ⟨7, some 27, .lens (.t 26), some (25, true)⟩,
  .op ⟨8, some 28, .mv (.t 5), some (25, true)⟩,
  .op ⟨9, some 29, .lens (.t 28), some (25, true)⟩,
  .op ⟨10, some 30, .mv (.t 6), some (25, true)⟩,
  .op ⟨11, some 31, .bin .add (.t 29) (.t 30), some (25, true)⟩,
  .op ⟨12, some 32, .bin .eql (.t 27) (.t 31), some (25, true)⟩,
  .op ⟨13, some 33, .pick (.t 25) (.t 32) (.c (.one (.bool false))), none⟩,
  .op ⟨14, some 34, .mv (.t 33), none⟩,
  .op ⟨15, some 35, .mv (.t 7), some (34, true)⟩,
  .op ⟨16, some 36, .mv (.t 5), some (34, true)⟩,
  .op ⟨17, some 37, .lens (.t 36), some (34, true)⟩,
  .op ⟨18, some 38, .slstr (.t 35) none (some (.t 37)), some (34, true)⟩,
  .op ⟨19, some 39, .mv (.t 5), some (34, true)⟩,
  .op ⟨20, some 40, .bin .eql (.t 38) (.t 39), some (34, true)⟩,
  .op ⟨21, some 41, .pick (.t 34) (.t 40) (.c (.one (.bool false))), none⟩,
  .op ⟨22, some 42, .mv (.t 41), none⟩,
  .op ⟨23, some 43, .mv (.t 7), some (42, true)⟩,
  .op ⟨24, some 44, .mv (.t 6), some (42, true)⟩,
  .op ⟨25, some 45, .call 3 [(.t 43), (.t 44)], some (42, true)⟩,
  .op ⟨26, some 46, .pick (.t 42) (.t 45) (.c (.one (.bool false))), none⟩,
  .op ⟨27, some 47, .mv (.t 46), none⟩,
  .op ⟨28, some 48, .mv (.t 7), some (47, true)⟩,
  .op ⟨29, some 49, .mv (.t 6), some (47, true)⟩,
  .op ⟨30, some 50, .call 4 [(.t 48), (.t 49)], some (47, true)⟩,
  .op ⟨31, some 51, .pick (.t 47) (.t 50) (.c (.one (.bool false))), none⟩,
  .op ⟨32, some 4, .mv (.t 51), none⟩])
 (.ret))))⟩
noncomputable def law28_RsEncodes.on (x0 : Bytes) (x1 : Int) (H : Heap) : Option (Bool × Unit) :=
 (law28_few x0).bind fun (r1 : (Bytes × Unit)) =>
 (rs_Encode r1.1 (IntKind.wrap .i64 (1 + (bitsI .and .i64 x1 31)))).bind fun (r2 : (Bytes × Int × Unit)) =>
 (law28_awake).bind fun (r3 : (Bool × Unit)) =>
 cond r3.1 (
 cond (decide (r2.2.1 = 0)) (
 cond (decide ((List.length (r2.1 : Bytes) : Int) = (IntKind.wrap .i64 ((List.length (r1.1 : Bytes) : Int) + (IntKind.wrap .i64 (1 + (bitsI .and .i64 x1 31))))))) (
 (subS r2.1 0 (List.length (r1.1 : Bytes) : Int)).bind fun (s4 : Bytes) =>
 cond (decide ((s4 : Bytes) = r1.1)) (
 (law28_right r2.1 (IntKind.wrap .i64 (1 + (bitsI .and .i64 x1 31)))).bind fun (r5 : (Bool × Unit)) =>
 cond r5.1 (
 (rs_Right r2.1 (IntKind.wrap .i64 (1 + (bitsI .and .i64 x1 31)))).bind fun (r6 : (Bool × Unit)) =>
 some (r6.1, ())) (
 some (false, ()))) (
 some (false, ()))) (
 some (false, ()))) (
 some (false, ()))) (
 some (false, ()))
noncomputable def law28_RsEncodes (x0 : Bytes) (x1 : Int) : Option (Bool × Unit) := law28_RsEncodes.on x0 x1 []
noncomputable def law28_RsEncodes.c : Callee := .pure [.one .str, .one (.int .i64)] [.one .bool] (fun x => law28_RsEncodes x.1 x.2.1)
noncomputable def law28_RsEncodes.calls : Nat → Option Callee
  | 0 => some law28_few.c
  | 1 => some rs_Encode.c
  | 2 => some law28_awake.c
  | 3 => some law28_right.c
  | 4 => some rs_Right.c
  | _ => none
theorem law28_RsEncodes.eq : evPure law28_RsEncodes.calls law28_RsEncodes.af = (fun x H => law28_RsEncodes.on x.1 x.2.1 H) := by kernel_rfl

/-! ### tinderbox/tinderboxlaw28.RsSigns -/
def law28_RsSigns.af : AFun := ⟨[.one .str, .one (.int .i64)], [.one .bool], [.t 4],
 .seq (.reg [.op ⟨0, some 4, .mv (.c (.one (.bool false))), none⟩])
 (.seq (.reg [.op ⟨0, some 10, .mv (.t 0), none⟩,
  .op ⟨1, some 11, .call 0 [(.t 10)], none⟩,
  .op ⟨2, some 12, .mv (.t 1), none⟩,
  .op ⟨3, some 13, .bin .rem (.t 12) (.c (.one (.int .i64 40))), none⟩,
  .op ⟨4, some 5, .mv (.t 11), none⟩,
  .op ⟨5, some 6, .mv (.t 13), none⟩])
 (.seq (.reg [.op ⟨0, some 14, .mv (.t 5), none⟩,
  .op ⟨1, some 15, .mv (.t 6), none⟩,
  .op ⟨2, some 16, .call 1 [(.t 14), (.t 15)], none⟩,
  .op ⟨3, some 7, .mv (.t 16), none⟩])
 (.seq (.scope [(.normal, [(8, .one .bool)])] (.reg [.op ⟨0, some 17, .mv (.t 6), none⟩,
  .op ⟨1, some 18, .bin .geq (.t 17) (.c (.one (.int .i64 1))), none⟩,
  .op ⟨2, some 19, .mv (.t 18), none⟩,
  .op ⟨3, some 20, .mv (.t 6), some (19, true)⟩,
  .op ⟨4, some 21, .bin .leq (.t 20) (.c (.one (.int .i64 32))), some (19, true)⟩,
  .op ⟨5, some 22, .pick (.t 19) (.t 21) (.c (.one (.bool false))), none⟩,
  .op ⟨6, some 23, .mv (.t 22), none⟩,
  .op ⟨7, some 24, .mv (.t 5), some (23, true)⟩,
  .op ⟨8, some 25, .lens (.t 24), some (23, true)⟩,
  .op ⟨9, some 26, .mv (.t 6), some (23, true)⟩,
  .op ⟨10, some 27, .bin .gtr (.t 25) (.t 26), some (23, true)⟩,
  .op ⟨11, some 28, .pick (.t 23) (.t 27) (.c (.one (.bool false))), none⟩,
  .op ⟨12, some 29, .mv (.t 28), none⟩,
  .op ⟨13, some 30, .mv (.t 5), some (29, true)⟩,
  .op ⟨14, some 31, .lens (.t 30), some (29, true)⟩,
  .op ⟨15, some 32, .bin .leq (.t 31) (.c (.one (.int .i64 255))), some (29, true)⟩,
  .op ⟨16, some 33, .pick (.t 29) (.t 32) (.c (.one (.bool false))), none⟩,
  .op ⟨17, some 8, .mv (.t 33), none⟩]))
 (.seq (.scope [(.normal, []), (.ret, [(4, .one .bool)])] (.seq (.reg [.op ⟨0, some 34, .call 2 [], none⟩,
  .op ⟨1, some 35, .un .not (.t 34), none⟩,
  .op ⟨2, some 36, .mv (.t 35), none⟩,
  .op ⟨3, some 37, .mv (.t 5), some (36, false)⟩,
  .op ⟨4, some 38, .lens (.t 37), some (36, false)⟩,
  .op ⟨5, some 39, .mv (.t 6), some (36, false)⟩,
  .op ⟨6, some 40, .call 3 [(.t 38), (.t 39)], some (36, false)⟩,
  .op ⟨7, some 41, .mv (.t 8), some (36, false)⟩,
  .op ⟨8, some 42, .eqb true (.t 40) (.t 41), some (36, false)⟩,
  .op ⟨9, some 43, .pick (.t 36) (.c (.one (.bool true))) (.t 42), none⟩,
  .op ⟨10, some 44, .mv (.t 43), none⟩,
  .op ⟨11, some 45, .mv (.t 5), some (44, false)⟩,
  .op ⟨12, some 46, .mv (.t 6), some (44, false)⟩,
  .op ⟨13, some 47, .call 4 [(.t 45), (.t 46)], some (44, false)⟩,
  .op ⟨14, some 48, .mv (.t 8), some (44, false)⟩,
  .op ⟨15, some 49, .mv (.t 48), some (44, false)⟩,
  .op ⟨16, some 50, .mv (.t 5), some (49, true)⟩,
  .op ⟨17, some 51, .mv (.t 6), some (49, true)⟩,
  .op ⟨18, some 52, .call 5 [(.t 50), (.t 51)], some (49, true)⟩,
  .op ⟨19, some 53, .pick (.t 49) (.t 52) (.c (.one (.bool false))), some (44, false)⟩,
  .op ⟨20, some 54, .eqb true (.t 47) (.t 53), some (44, false)⟩,
  .op ⟨21, some 55, .pick (.t 44) (.c (.one (.bool true))) (.t 54), none⟩])
 (.cond (.t 55) (.seq (.reg [.op ⟨0, some 4, .mv (.c (.one (.bool false))), none⟩])
 (.ret)) (.skip))))
 (.seq (.seq (.reg [.op ⟨0, some 9, .mv (.c (.one (.int .i64 0))), none⟩])
 (.block 0 (.loop [(9, .one (.int .i64))] [(.exit 0, []), (.ret, [(4, .one .bool)])] (.seq (.seq (.reg [.op ⟨0, some 56, .mv (.t 9), none⟩,
  .op ⟨1, some 57, .mv (.t 6), none⟩,
  .op ⟨2, some 58, .bin .lss (.t 56) (.t 57), none⟩])
 (.cond (.t 58) (.skip) (.exit 0)))
 (.seq (.block 1 (.seq (.reg [.op ⟨0, some 61, .mv (.t 9), none⟩,
  .op ⟨1, some 62, .mv (.t 7), none⟩,
  .op ⟨2, some 63, .len (.t 62), none⟩,
  .op ⟨3, some 64, .bin .geq (.t 61) (.t 63), none⟩,
  .op ⟨4, some 65, .mv (.t 64), none⟩,
  .op ⟨5, some 66, .mv (.t 7), some (65, false)⟩,
  .op ⟨6, some 67, .mv (.t 9), some (65, false)⟩,
  .op ⟨7, some 68, .idxa 1 (.t 66) (.t 67), some (65, false)⟩,
  .op ⟨8, some 69, .load (.one (.int .u8)) (.t 68), some (65, false)⟩,
  .op ⟨9, some 70, .mv (.t 5), some (65, false)⟩,
  .op ⟨10, some 71, .mv (.t 9), some (65, false)⟩,
  .op ⟨11, some 72, .call 6 [(.t 70), (.t 71)], some (65, false)⟩,
  .op ⟨12, some 73, .bin .neq (.t 69) (.t 72), some (65, false)⟩,
  .op ⟨13, some 74, .pick (.t 65) (.c (.one (.bool true))) (.t 73), none⟩])
 (.cond (.t 74) (.seq (.reg [.op ⟨0, some 4, .mv (.c (.one (.bool false))), none⟩])
 (.ret)) (.skip))))
 (.reg [.op ⟨0, some 59, .mv (.t 9), none⟩,
  .op ⟨1, some 60, .bin .add (.t 59) (.c (.one (.int .i64 1))), none⟩,
  .op ⟨2, some 9, .mv (.t 60), none⟩]))))))
 (.seq (.reg [.op ⟨0, some 75, .mv (.t 7), none⟩,
  .op ⟨1, some 76, .len (.t 75), none⟩,
  .op ⟨2, some 77, .mv (.t 6), none⟩,
  .op ⟨3, some 78, .max [(.t 77), (.c (.one (.int .i64 0)))], none⟩,
  .op ⟨4, some 79, .bin .eql (.t 76) (.t 78), none⟩,
  .op ⟨5, some 4, .mv (.t 79), none⟩])
 (.ret)))))))⟩
noncomputable def law28_RsSigns.s1 (x1 : Int) (r1 : (Bytes × Unit)) (r2 : ((Sl × Unit) × Heap)) (s10 : (Int × Unit)) (H11 : Heap) : Option (((Int × Unit) ⊕ ((Unit) ⊕ (Bool × Unit))) × Heap) :=
 cond (decide (s10.1 < (Int.tmod x1 40))) (
 cond (decide ((r2.1.1.len : Int) ≤ s10.1)) (
 some (Sum.inr (Sum.inr (false, ())), H11)) (
 (Sl.at 1 r2.1.1 s10.1).bind fun (a12 : (Nat × Nat)) =>
 (rdI .u8 H11 a12.1 a12.2).bind fun (v13 : Int) =>
 (law28_sign r1.1 s10.1).bind fun (r14 : (Int × Unit)) =>
 cond (!decide (v13 = r14.1)) (
 some (Sum.inr (Sum.inr (false, ())), H11)) (
 some (Sum.inl ((IntKind.wrap .i64 (s10.1 + 1)), ()), H11)))) (
 some (Sum.inr (Sum.inl (())), H11))
noncomputable def law28_RsSigns.on (x0 : Bytes) (x1 : Int) (H : Heap) : Option (Bool × Unit) :=
 (law28_few x0).bind fun (r1 : (Bytes × Unit)) =>
 (rs_Signs r1.1 (Int.tmod x1 40) H).bind fun (r2 : ((Sl × Unit) × Heap)) =>
 (cond (decide (1 ≤ (Int.tmod x1 40))) (
 cond (decide ((Int.tmod x1 40) ≤ 32)) (
 cond (decide ((Int.tmod x1 40) < (List.length (r1.1 : Bytes) : Int))) (
 some (((decide ((List.length (r1.1 : Bytes) : Int) ≤ 255)), ()), r2.2)) (
 some ((false, ()), r2.2))) (
 some ((false, ()), r2.2))) (
 some ((false, ()), r2.2)) : Option ((Bool × Unit) × Heap)).bind fun (p3 : (Bool × Unit) × Heap) =>
 ((law28_awake).bind fun (r4 : (Bool × Unit)) =>
 cond (!r4.1) (
 some (Sum.inr (false, ()), p3.2)) (
 (rs_Check (List.length (r1.1 : Bytes) : Int) (Int.tmod x1 40)).bind fun (r5 : (Bool × Unit)) =>
 cond (!(r5.1 == p3.1.1)) (
 some (Sum.inr (false, ()), p3.2)) (
 (rs_Right r1.1 (Int.tmod x1 40)).bind fun (r6 : (Bool × Unit)) =>
 cond p3.1.1 (
 (law28_right r1.1 (Int.tmod x1 40)).bind fun (r7 : (Bool × Unit)) =>
 cond (!(r6.1 == r7.1)) (
 some (Sum.inr (false, ()), p3.2)) (
 some (Sum.inl (()), p3.2))) (
 cond (!(r6.1 == false)) (
 some (Sum.inr (false, ()), p3.2)) (
 some (Sum.inl (()), p3.2))))) : Option (((Unit) ⊕ (Bool × Unit)) × Heap)).bind fun (p8 : ((Unit) ⊕ (Bool × Unit)) × Heap) =>
 Sum.elim (fun (y9 : (Unit)) =>
 (loopW (law28_RsSigns.s1 x1 r1 r2) (0, ()) p8.2).bind fun (p15 : ((Unit) ⊕ (Bool × Unit)) × Heap) =>
 Sum.elim (fun (y16 : (Unit)) =>
 some ((decide ((r2.1.1.len : Int) = (if 0 > (Int.tmod x1 40) then 0 else (Int.tmod x1 40)))), ())) (fun (z17 : (Bool × Unit)) =>
 some (z17.1, ())) p15.1) (fun (z18 : (Bool × Unit)) =>
 some (z18.1, ())) p8.1
noncomputable def law28_RsSigns (x0 : Bytes) (x1 : Int) : Option (Bool × Unit) := law28_RsSigns.on x0 x1 []
noncomputable def law28_RsSigns.c : Callee := .pure [.one .str, .one (.int .i64)] [.one .bool] (fun x => law28_RsSigns x.1 x.2.1)
noncomputable def law28_RsSigns.calls : Nat → Option Callee
  | 0 => some law28_few.c
  | 1 => some rs_Signs.c
  | 2 => some law28_awake.c
  | 3 => some rs_Check.c
  | 4 => some rs_Right.c
  | 5 => some law28_right.c
  | 6 => some law28_sign.c
  | _ => none
theorem law28_RsSigns.eq : evPure law28_RsSigns.calls law28_RsSigns.af = (fun x H => law28_RsSigns.on x.1 x.2.1 H) := by kernel_rfl

/-! ### tinderbox/tinderboxlaw28.RsDecodes -/
def law28_RsDecodes.af : AFun := ⟨[.one .str, .one (.int .i64), .one (.sl 3)], [.one .bool], [.t 6],
 .seq (.reg [.op ⟨0, some 6, .mv (.c (.one (.bool false))), none⟩])
 (.seq (.reg [.op ⟨0, some 22, .mv (.t 0), none⟩,
  .op ⟨1, some 23, .call 0 [(.t 22)], none⟩,
  .op ⟨2, some 24, .mv (.t 1), none⟩,
  .op ⟨3, some 25, .bin .and (.t 24) (.c (.one (.int .i64 15))), none⟩,
  .op ⟨4, some 26, .bin .add (.c (.one (.int .i64 1))) (.t 25), none⟩,
  .op ⟨5, some 7, .mv (.t 23), none⟩,
  .op ⟨6, some 8, .mv (.t 26), none⟩])
 (.seq (.reg [.op ⟨0, some 28, .mv (.t 7), none⟩,
  .op ⟨1, some 29, .mv (.t 8), none⟩,
  .op ⟨2, some 30, .call 1 [(.t 28), (.t 29)], none⟩,
  .op ⟨3, some 27, .mv (.t 30), none⟩,
  .op ⟨4, some 31, .ext (.t 27) 0, none⟩,
  .op ⟨5, some 32, .ext (.t 27) 1, none⟩,
  .op ⟨6, some 9, .mv (.t 31), none⟩,
  .op ⟨7, some 10, .mv (.t 32), none⟩])
 (.seq (.seq (.reg [.op ⟨0, some 33, .call 2 [], none⟩,
  .op ⟨1, some 34, .un .not (.t 33), none⟩,
  .op ⟨2, some 35, .mv (.t 34), none⟩,
  .op ⟨3, some 36, .mv (.t 10), some (35, false)⟩,
  .op ⟨4, some 37, .bin .neq (.t 36) (.c (.one (.int .i64 0))), some (35, false)⟩,
  .op ⟨5, some 38, .pick (.t 35) (.c (.one (.bool true))) (.t 37), none⟩])
 (.cond (.t 38) (.seq (.reg [.op ⟨0, some 6, .mv (.c (.one (.bool false))), none⟩])
 (.ret)) (.skip)))
 (.seq (.reg [.op ⟨0, some 39, .mv (.t 9), none⟩,
  .op ⟨1, some 40, .s2b (.t 39), none⟩,
  .op ⟨2, some 41, .bslice 1 0 [] [], none⟩,
  .op ⟨3, some 11, .mv (.t 40), none⟩,
  .op ⟨4, some 12, .mv (.t 41), none⟩,
  .op ⟨5, some 13, .mv (.c (.one (.int .i64 0))), none⟩,
  .op ⟨6, some 14, .mv (.c (.one (.int .i64 0))), none⟩])
 (.seq (.reg [.op ⟨0, some 42, .mv (.t 11), none⟩,
  .op ⟨1, some 43, .len (.t 42), none⟩,
  .op ⟨2, some 44, .mk 1 1 [.bool false] (.t 43) (.t 43), none⟩,
  .op ⟨3, some 15, .mv (.t 44), none⟩])
 (.seq (.seq (.reg [.op ⟨0, some 16, .mv (.c (.one (.int .i64 0))), none⟩])
 (.block 0 (.loop [(12, .one (.sl 1)), (13, .one (.int .i64)), (14, .one (.int .i64)), (16, .one (.int .i64))] [(.exit 0, [(12, .one (.sl 1)), (14, .one (.int .i64))])] (.seq (.seq (.reg [.op ⟨0, some 45, .mv (.t 16), none⟩,
  .op ⟨1, some 46, .mv (.t 2), none⟩,
  .op ⟨2, some 47, .len (.t 46), none⟩,
  .op ⟨3, some 48, .bin .lss (.t 45) (.t 47), none⟩,
  .op ⟨4, some 49, .mv (.t 48), none⟩,
  .op ⟨5, some 50, .mv (.t 16), some (49, true)⟩,
  .op ⟨6, some 51, .bin .lss (.t 50) (.c (.one (.int .i64 40))), some (49, true)⟩,
  .op ⟨7, some 52, .pick (.t 49) (.t 51) (.c (.one (.bool false))), none⟩])
 (.cond (.t 52) (.skip) (.exit 0)))
 (.seq (.block 1 (.seq (.reg [.op ⟨0, some 55, .mv (.t 2), none⟩,
  .op ⟨1, some 56, .mv (.t 16), none⟩,
  .op ⟨2, some 57, .idxa 3 (.t 55) (.t 56), none⟩,
  .op ⟨3, some 58, .addr 0 (.t 57), none⟩,
  .op ⟨4, some 59, .load (.one (.int .i64)) (.t 58), none⟩,
  .op ⟨5, some 60, .mv (.t 11), none⟩,
  .op ⟨6, some 61, .len (.t 60), none⟩,
  .op ⟨7, some 62, .bin .rem (.t 59) (.t 61), none⟩,
  .op ⟨8, some 63, .mv (.t 11), none⟩,
  .op ⟨9, some 64, .len (.t 63), none⟩,
  .op ⟨10, some 65, .bin .add (.t 62) (.t 64), none⟩,
  .op ⟨11, some 66, .mv (.t 11), none⟩,
  .op ⟨12, some 67, .len (.t 66), none⟩,
  .op ⟨13, some 68, .bin .rem (.t 65) (.t 67), none⟩,
  .op ⟨14, some 17, .mv (.t 68), none⟩])
 (.seq (.reg [.op ⟨0, some 18, .mv (.c (.one (.int .i64 2))), none⟩])
 (.seq (.scope [(.normal, [(18, .one (.int .i64))])] (.seq (.reg [.op ⟨0, some 69, .mv (.t 2), none⟩,
  .op ⟨1, some 70, .mv (.t 16), none⟩,
  .op ⟨2, some 71, .idxa 3 (.t 69) (.t 70), none⟩,
  .op ⟨3, some 72, .addr 2 (.t 71), none⟩,
  .op ⟨4, some 73, .load (.one .bool) (.t 72), none⟩])
 (.cond (.t 73) (.reg [.op ⟨0, some 18, .mv (.c (.one (.int .i64 1))), none⟩]) (.skip))))
 (.seq (.scope [(.normal, []), (.exit 1, [])] (.seq (.reg [.op ⟨0, some 74, .mv (.t 15), none⟩,
  .op ⟨1, some 75, .mv (.t 17), none⟩,
  .op ⟨2, some 76, .idxa 1 (.t 74) (.t 75), none⟩,
  .op ⟨3, some 77, .load (.one .bool) (.t 76), none⟩,
  .op ⟨4, some 78, .mv (.t 77), none⟩,
  .op ⟨5, some 79, .mv (.t 13), some (78, false)⟩,
  .op ⟨6, some 80, .mv (.t 18), some (78, false)⟩,
  .op ⟨7, some 81, .bin .add (.t 79) (.t 80), some (78, false)⟩,
  .op ⟨8, some 82, .mv (.t 8), some (78, false)⟩,
  .op ⟨9, some 83, .bin .gtr (.t 81) (.t 82), some (78, false)⟩,
  .op ⟨10, some 84, .pick (.t 78) (.c (.one (.bool true))) (.t 83), none⟩,
  .op ⟨11, some 85, .mv (.t 84), none⟩,
  .op ⟨12, some 86, .mv (.t 2), some (85, false)⟩,
  .op ⟨13, some 87, .mv (.t 16), some (85, false)⟩,
  .op ⟨14, some 88, .idxa 3 (.t 86) (.t 87), some (85, false)⟩,
  .op ⟨15, some 89, .addr 2 (.t 88), some (85, false)⟩,
  .op ⟨16, some 90, .load (.one .bool) (.t 89), some (85, false)⟩,
  .op ⟨17, some 91, .un .not (.t 90), some (85, false)⟩,
  .op ⟨18, some 92, .mv (.t 91), some (85, false)⟩,
  .op ⟨19, some 93, .mv (.t 2), some (92, true)⟩,
  .op ⟨20, some 94, .mv (.t 16), some (92, true)⟩,
  .op ⟨21, some 95, .idxa 3 (.t 93) (.t 94), some (92, true)⟩,
  .op ⟨22, some 96, .addr 1 (.t 95), some (92, true)⟩,
  .op ⟨23, some 97, .load (.one (.int .u8)) (.t 96), some (92, true)⟩,
  .op ⟨24, some 98, .bin .eql (.t 97) (.c (.one (.int .u8 0))), some (92, true)⟩,
  .op ⟨25, some 99, .pick (.t 92) (.t 98) (.c (.one (.bool false))), some (85, false)⟩,
  .op ⟨26, some 100, .pick (.t 85) (.c (.one (.bool true))) (.t 99), none⟩])
 (.cond (.t 100) (.exit 1) (.skip))))
 (.seq (.reg [.op ⟨0, some 101, .mv (.t 13), none⟩,
  .op ⟨1, some 102, .mv (.t 18), none⟩,
  .op ⟨2, some 103, .bin .add (.t 101) (.t 102), none⟩,
  .op ⟨3, some 13, .mv (.t 103), none⟩])
 (.seq (.reg [.op ⟨0, some 104, .mv (.t 15), none⟩,
  .op ⟨1, some 105, .mv (.t 17), none⟩,
  .op ⟨2, some 106, .idxa 1 (.t 104) (.t 105), none⟩,
  .op ⟨3, none, .store 1 (.t 106) (.c (.one (.bool true))), none⟩])
 (.seq (.reg [.op ⟨0, some 107, .mv (.t 11), none⟩,
  .op ⟨1, some 108, .mv (.t 17), none⟩,
  .op ⟨2, some 109, .idxa 1 (.t 107) (.t 108), none⟩,
  .op ⟨3, some 110, .load (.one (.int .u8)) (.t 109), none⟩,
  .op ⟨4, some 111, .mv (.t 2), none⟩,
  .op ⟨5, some 112, .mv (.t 16), none⟩,
  .op ⟨6, some 113, .idxa 3 (.t 111) (.t 112), none⟩,
  .op ⟨7, some 114, .addr 1 (.t 113), none⟩,
  .op ⟨8, some 115, .load (.one (.int .u8)) (.t 114), none⟩,
  .op ⟨9, some 116, .bin .xor (.t 110) (.t 115), none⟩,
  .op ⟨10, some 117, .idxa 1 (.t 107) (.t 108), none⟩,
  .op ⟨11, none, .store 1 (.t 117) (.t 116), none⟩])
 (.seq (.scope [(.normal, [(14, .one (.int .i64))])] (.seq (.reg [.op ⟨0, some 118, .mv (.t 2), none⟩,
  .op ⟨1, some 119, .mv (.t 16), none⟩,
  .op ⟨2, some 120, .idxa 3 (.t 118) (.t 119), none⟩,
  .op ⟨3, some 121, .addr 1 (.t 120), none⟩,
  .op ⟨4, some 122, .load (.one (.int .u8)) (.t 121), none⟩,
  .op ⟨5, some 123, .bin .neq (.t 122) (.c (.one (.int .u8 0))), none⟩])
 (.cond (.t 123) (.reg [.op ⟨0, some 124, .mv (.t 14), none⟩,
  .op ⟨1, some 125, .bin .add (.t 124) (.c (.one (.int .i64 1))), none⟩,
  .op ⟨2, some 14, .mv (.t 125), none⟩]) (.skip))))
 (.seq (.reg [.op ⟨0, some 126, .mv (.t 2), none⟩,
  .op ⟨1, some 127, .mv (.t 16), none⟩,
  .op ⟨2, some 128, .idxa 3 (.t 126) (.t 127), none⟩,
  .op ⟨3, some 129, .addr 2 (.t 128), none⟩,
  .op ⟨4, some 130, .load (.one .bool) (.t 129), none⟩])
 (.cond (.t 130) (.reg [.op ⟨0, some 131, .mv (.t 12), none⟩,
  .op ⟨1, some 132, .mv (.t 17), none⟩,
  .op ⟨2, some 133, .bslice 1 1 [.int .i64 0] [(0, 1, (.t 132))], none⟩,
  .op ⟨3, some 134, .app 1 8 (.t 131) (.t 133), none⟩,
  .op ⟨4, some 12, .mv (.t 134), none⟩]) (.skip))))))))))))
 (.reg [.op ⟨0, some 53, .mv (.t 16), none⟩,
  .op ⟨1, some 54, .bin .add (.t 53) (.c (.one (.int .i64 1))), none⟩,
  .op ⟨2, some 16, .mv (.t 54), none⟩]))))))
 (.seq (.reg [.op ⟨0, some 136, .mv (.t 11), none⟩,
  .op ⟨1, some 137, .b2s (.t 136), none⟩,
  .op ⟨2, some 138, .mv (.t 8), none⟩,
  .op ⟨3, some 139, .mv (.t 12), none⟩,
  .op ⟨4, some 140, .call 3 [(.t 137), (.t 138), (.t 139)], none⟩,
  .op ⟨5, some 135, .mv (.t 140), none⟩,
  .op ⟨6, some 141, .ext (.t 135) 0, none⟩,
  .op ⟨7, some 142, .ext (.t 135) 1, none⟩,
  .op ⟨8, some 143, .ext (.t 135) 2, none⟩,
  .op ⟨9, some 19, .mv (.t 141), none⟩,
  .op ⟨10, some 20, .mv (.t 142), none⟩,
  .op ⟨11, some 21, .mv (.t 143), none⟩])
 (.seq (.reg [.op ⟨0, some 144, .mv (.t 21), none⟩,
  .op ⟨1, some 145, .bin .eql (.t 144) (.c (.one (.int .i64 0))), none⟩,
  .op ⟨2, some 146, .mv (.t 145), none⟩,
  .op ⟨3, some 147, .mv (.t 19), some (146, true)⟩,
  .op ⟨4, some 148, .mv (.t 9), some (146, true)⟩,
  .op ⟨5, some 149, .bin .eql (.t 147) (.t 148), some (146, true)⟩,
  .op ⟨6, some 150, .pick (.t 146) (.t 149) (.c (.one (.bool false))), none⟩,
  .op ⟨7, some 151, .mv (.t 150), none⟩,
  .op ⟨8, some 152, .mv (.t 20), some (151, true)⟩,
  .op ⟨9, some 153, .mv (.t 14), some (151, true)⟩,
  .op ⟨10, some 154, .bin .eql (.t 152) (.t 153), some (151, true)⟩,
  .op ⟨11, some 155, .pick (.t 151) (.t 154) (.c (.one (.bool false))), none⟩,
  .op ⟨12, some 6, .mv (.t 155), none⟩])
 (.ret)))))))))⟩
noncomputable def law28_RsDecodes.s1 (x1 : Int) (x2 : Sl) (H : Heap) (r2 : (Bytes × Int × Unit)) (p7 : (Sl × Heap)) (s8 : (Sl × Int × Int × Int × Unit)) (H9 : Heap) : Option (((Sl × Int × Int × Int × Unit) ⊕ (Sl × Int × Unit)) × Heap) :=
 cond (decide (s8.2.2.2.1 < (x2.len : Int))) (
 cond (decide (s8.2.2.2.1 < 40)) (
 (Sl.at 3 x2 s8.2.2.2.1).bind fun (a10 : (Nat × Nat)) =>
 (rdI .i64 H9 a10.1 a10.2).bind fun (v11 : Int) =>
 cond (decide (((List.length (r2.1 : Bytes)) : Int) = 0)) none (
 cond (decide (((List.length (r2.1 : Bytes)) : Int) = 0)) none (
 ((Sl.at 3 x2 s8.2.2.2.1).bind fun (a12 : (Nat × Nat)) =>
 (rdB H9 a12.1 (a12.2 + 2)).bind fun (v13 : Bool) =>
 cond v13 (
 some ((1, ()), H9)) (
 some ((2, ()), H9)) : Option ((Int × Unit) × Heap)).bind fun (p14 : (Int × Unit) × Heap) =>
 ((Sl.at 1 p7.1 (Int.tmod (IntKind.wrap .i64 ((Int.tmod v11 ((List.length (r2.1 : Bytes)) : Int)) + ((List.length (r2.1 : Bytes)) : Int))) ((List.length (r2.1 : Bytes)) : Int))).bind fun (a15 : (Nat × Nat)) =>
 (rdB p14.2 a15.1 a15.2).bind fun (v16 : Bool) =>
 cond v16 (
 some (Sum.inr (()), p14.2)) (
 cond (decide ((IntKind.wrap .i64 (1 + (bitsI .and .i64 x1 15))) < (IntKind.wrap .i64 (s8.2.1 + p14.1.1)))) (
 some (Sum.inr (()), p14.2)) (
 (Sl.at 3 x2 s8.2.2.2.1).bind fun (a17 : (Nat × Nat)) =>
 (rdB p14.2 a17.1 (a17.2 + 2)).bind fun (v18 : Bool) =>
 cond (!v18) (
 (Sl.at 3 x2 s8.2.2.2.1).bind fun (a19 : (Nat × Nat)) =>
 (rdI .u8 p14.2 a19.1 (a19.2 + 1)).bind fun (v20 : Int) =>
 cond (decide (v20 = 0)) (
 some (Sum.inr (()), p14.2)) (
 some (Sum.inl (()), p14.2))) (
 some (Sum.inl (()), p14.2)))) : Option (((Unit) ⊕ (Unit)) × Heap)).bind fun (p21 : ((Unit) ⊕ (Unit)) × Heap) =>
 Sum.elim (fun (y22 : (Unit)) =>
 (Sl.at 1 p7.1 (Int.tmod (IntKind.wrap .i64 ((Int.tmod v11 ((List.length (r2.1 : Bytes)) : Int)) + ((List.length (r2.1 : Bytes)) : Int))) ((List.length (r2.1 : Bytes)) : Int))).bind fun (a23 : (Nat × Nat)) =>
 (wr p21.2 a23.1 a23.2 [.bool true]).bind fun (H24 : Heap) =>
 (Sl.at 1 (⟨some (H.length, 0), (List.length (r2.1 : Bytes)), (List.length (r2.1 : Bytes))⟩) (Int.tmod (IntKind.wrap .i64 ((Int.tmod v11 ((List.length (r2.1 : Bytes)) : Int)) + ((List.length (r2.1 : Bytes)) : Int))) ((List.length (r2.1 : Bytes)) : Int))).bind fun (a25 : (Nat × Nat)) =>
 (rdI .u8 H24 a25.1 a25.2).bind fun (v26 : Int) =>
 (Sl.at 3 x2 s8.2.2.2.1).bind fun (a27 : (Nat × Nat)) =>
 (rdI .u8 H24 a27.1 (a27.2 + 1)).bind fun (v28 : Int) =>
 (Sl.at 1 (⟨some (H.length, 0), (List.length (r2.1 : Bytes)), (List.length (r2.1 : Bytes))⟩) (Int.tmod (IntKind.wrap .i64 ((Int.tmod v11 ((List.length (r2.1 : Bytes)) : Int)) + ((List.length (r2.1 : Bytes)) : Int))) ((List.length (r2.1 : Bytes)) : Int))).bind fun (a29 : (Nat × Nat)) =>
 (wr H24 a29.1 a29.2 [.int .u8 (bitsI .xor .u8 v26 v28)]).bind fun (H30 : Heap) =>
 ((Sl.at 3 x2 s8.2.2.2.1).bind fun (a31 : (Nat × Nat)) =>
 (rdI .u8 H30 a31.1 (a31.2 + 1)).bind fun (v32 : Int) =>
 cond (!decide (v32 = 0)) (
 some (((IntKind.wrap .i64 (s8.2.2.1 + 1)), ()), H30)) (
 some ((s8.2.2.1, ()), H30)) : Option ((Int × Unit) × Heap)).bind fun (p33 : (Int × Unit) × Heap) =>
 (Sl.at 3 x2 s8.2.2.2.1).bind fun (a34 : (Nat × Nat)) =>
 (rdB p33.2 a34.1 (a34.2 + 2)).bind fun (v35 : Bool) =>
 cond v35 (
 let H36 : Heap := p33.2 ++ [Blk.cells [.int .i64 (Int.tmod (IntKind.wrap .i64 ((Int.tmod v11 ((List.length (r2.1 : Bytes)) : Int)) + ((List.length (r2.1 : Bytes)) : Int))) ((List.length (r2.1 : Bytes)) : Int))] .exact]
 (slRow H36 1 (⟨some (p33.2.length, 0), 1, 1⟩)).bind fun (cs37 : (List C)) =>
 (appS H36 1 8 s8.1 1 cs37).bind fun (p38 : (Sl × Heap)) =>
 some (Sum.inl (p38.1, (IntKind.wrap .i64 (s8.2.1 + p14.1.1)), p33.1.1, (IntKind.wrap .i64 (s8.2.2.2.1 + 1)), ()), p38.2)) (
 some (Sum.inl (s8.1, (IntKind.wrap .i64 (s8.2.1 + p14.1.1)), p33.1.1, (IntKind.wrap .i64 (s8.2.2.2.1 + 1)), ()), p33.2))) (fun (z39 : (Unit)) =>
 some (Sum.inl (s8.1, s8.2.1, s8.2.2.1, (IntKind.wrap .i64 (s8.2.2.2.1 + 1)), ()), p21.2)) p21.1))) (
 some (Sum.inr (s8.1, s8.2.2.1, ()), H9))) (
 some (Sum.inr (s8.1, s8.2.2.1, ()), H9))
noncomputable def law28_RsDecodes (x0 : Bytes) (x1 : Int) (x2 : Sl) (H : Heap) : Option ((Bool × Unit) × Heap) :=
 (law28_few x0).bind fun (r1 : (Bytes × Unit)) =>
 (rs_Encode r1.1 (IntKind.wrap .i64 (1 + (bitsI .and .i64 x1 15)))).bind fun (r2 : (Bytes × Int × Unit)) =>
 (law28_awake).bind fun (r3 : (Bool × Unit)) =>
 cond (!r3.1) (
 some ((false, ()), H)) (
 cond (!decide (r2.2.1 = 0)) (
 some ((false, ()), H)) (
 let H4 : Heap := H ++ [Blk.cells (cellsOf r2.1) .loose]
 let H5 : Heap := H4 ++ [Blk.cells [] .exact]
 let n6 : Int := ((List.length (r2.1 : Bytes)) : Int)
 (mkS H5 1 [.bool false] n6 n6).bind fun (p7 : (Sl × Heap)) =>
 (loopW (law28_RsDecodes.s1 x1 x2 H r2 p7) (⟨some (H4.length, 0), 0, 0⟩, 0, 0, 0, ()) p7.2).bind fun (p40 : (Sl × Int × Unit) × Heap) =>
 (strOf p40.2 (⟨some (H.length, 0), (List.length (r2.1 : Bytes)), (List.length (r2.1 : Bytes))⟩)).bind fun (s41 : Bytes) =>
 (rs_Decode s41 (IntKind.wrap .i64 (1 + (bitsI .and .i64 x1 15))) p40.1.1 p40.2).bind fun (r42 : ((Bytes × Int × Int × Unit) × Heap)) =>
 cond (decide (r42.1.2.2.1 = 0)) (
 cond (decide ((r42.1.1 : Bytes) = r2.1)) (
 some (((decide (r42.1.2.1 = p40.1.2.1)), ()), r42.2)) (
 some ((false, ()), r42.2))) (
 some ((false, ()), r42.2))))
noncomputable def law28_RsDecodes.c : Callee := .full [.one .str, .one (.int .i64), .one (.sl 3)] [.one .bool] (fun x H => law28_RsDecodes x.1 x.2.1 x.2.2.1 H)
noncomputable def law28_RsDecodes.calls : Nat → Option Callee
  | 0 => some law28_few.c
  | 1 => some rs_Encode.c
  | 2 => some law28_awake.c
  | 3 => some rs_Decode.c
  | _ => none
theorem law28_RsDecodes.eq : evFull law28_RsDecodes.calls law28_RsDecodes.af = (fun x H => law28_RsDecodes x.1 x.2.1 x.2.2.1 H) := by kernel_rfl

/-! ### tinderbox/tinderboxlaw28.RsAny -/
def law28_RsAny.af : AFun := ⟨[.one .str, .one (.int .i64), .one (.sl 1)], [.one .bool], [.t 6],
 .seq (.reg [.op ⟨0, some 6, .mv (.c (.one (.bool false))), none⟩])
 (.seq (.reg [.op ⟨0, some 20, .mv (.t 0), none⟩,
  .op ⟨1, some 21, .call 0 [(.t 20)], none⟩,
  .op ⟨2, some 22, .mv (.t 1), none⟩,
  .op ⟨3, some 23, .bin .and (.t 22) (.c (.one (.int .i64 15))), none⟩,
  .op ⟨4, some 24, .bin .add (.c (.one (.int .i64 1))) (.t 23), none⟩,
  .op ⟨5, some 7, .mv (.t 21), none⟩,
  .op ⟨6, some 8, .mv (.t 24), none⟩])
 (.seq (.reg [.op ⟨0, some 25, .mv (.t 2), none⟩,
  .op ⟨1, some 26, .mv (.t 2), none⟩,
  .op ⟨2, some 27, .len (.t 26), none⟩,
  .op ⟨3, some 28, .min [(.t 27), (.c (.one (.int .i64 20)))], none⟩,
  .op ⟨4, some 29, .slc 1 (.t 25) none (some (.t 28)) none, none⟩,
  .op ⟨5, some 9, .mv (.t 29), none⟩])
 (.seq (.reg [.op ⟨0, some 31, .mv (.t 7), none⟩,
  .op ⟨1, some 32, .mv (.t 8), none⟩,
  .op ⟨2, some 33, .mv (.t 9), none⟩,
  .op ⟨3, some 34, .call 1 [(.t 31), (.t 32), (.t 33)], none⟩,
  .op ⟨4, some 30, .mv (.t 34), none⟩,
  .op ⟨5, some 35, .ext (.t 30) 0, none⟩,
  .op ⟨6, some 36, .ext (.t 30) 1, none⟩,
  .op ⟨7, some 37, .ext (.t 30) 2, none⟩,
  .op ⟨8, some 10, .mv (.t 35), none⟩,
  .op ⟨9, some 11, .mv (.t 36), none⟩,
  .op ⟨10, some 12, .mv (.t 37), none⟩])
 (.seq (.seq (.scope [(.normal, [(45, .one .bool)])] (.reg [.op ⟨0, some 38, .call 2 [], none⟩,
  .op ⟨1, some 39, .un .not (.t 38), none⟩,
  .op ⟨2, some 40, .mv (.t 39), none⟩,
  .op ⟨3, some 41, .mv (.t 7), some (40, false)⟩,
  .op ⟨4, some 42, .lens (.t 41), some (40, false)⟩,
  .op ⟨5, some 43, .mv (.t 8), some (40, false)⟩,
  .op ⟨6, some 44, .bin .leq (.t 42) (.t 43), some (40, false)⟩,
  .op ⟨7, some 45, .pick (.t 40) (.c (.one (.bool true))) (.t 44), none⟩]))
 (.cond (.t 45) (.seq (.reg [.op ⟨0, some 46, .call 2 [], none⟩,
  .op ⟨1, some 47, .mv (.t 46), none⟩,
  .op ⟨2, some 48, .mv (.t 12), some (47, true)⟩,
  .op ⟨3, some 49, .bin .eql (.t 48) (.c (.one (.int .i64 1))), some (47, true)⟩,
  .op ⟨4, some 50, .pick (.t 47) (.t 49) (.c (.one (.bool false))), none⟩,
  .op ⟨5, some 51, .mv (.t 50), none⟩,
  .op ⟨6, some 52, .mv (.t 10), some (51, true)⟩,
  .op ⟨7, some 53, .bin .eql (.t 52) (.c (.one (.str []))), some (51, true)⟩,
  .op ⟨8, some 54, .pick (.t 51) (.t 53) (.c (.one (.bool false))), none⟩,
  .op ⟨9, some 6, .mv (.t 54), none⟩])
 (.ret)) (.skip)))
 (.seq (.reg [.op ⟨0, some 55, .mv (.t 7), none⟩,
  .op ⟨1, some 56, .lens (.t 55), none⟩,
  .op ⟨2, some 57, .mk 1 1 [.bool false] (.t 56) (.t 56), none⟩,
  .op ⟨3, some 13, .mv (.t 57), none⟩,
  .op ⟨4, some 14, .mv (.c (.one (.bool false))), none⟩])
 (.seq (.reg [.op ⟨0, some 15, .mv (.c (.one (.int .i64 0))), none⟩])
 (.seq (.seq (.reg [.op ⟨0, some 16, .mv (.c (.one (.int .i64 0))), none⟩])
 (.block 0 (.loop [(14, .one .bool), (15, .one (.int .i64)), (16, .one (.int .i64))] [(.exit 0, [(14, .one .bool), (15, .one (.int .i64))])] (.seq (.seq (.reg [.op ⟨0, some 58, .mv (.t 16), none⟩,
  .op ⟨1, some 59, .mv (.t 9), none⟩,
  .op ⟨2, some 60, .len (.t 59), none⟩,
  .op ⟨3, some 61, .bin .lss (.t 58) (.t 60), none⟩])
 (.cond (.t 61) (.skip) (.exit 0)))
 (.seq (.block 1 (.seq (.seq (.reg [.op ⟨0, some 64, .mv (.t 9), none⟩,
  .op ⟨1, some 65, .mv (.t 16), none⟩,
  .op ⟨2, some 66, .idxa 1 (.t 64) (.t 65), none⟩,
  .op ⟨3, some 67, .load (.one (.int .i64)) (.t 66), none⟩,
  .op ⟨4, some 68, .bin .lss (.t 67) (.c (.one (.int .i64 0))), none⟩,
  .op ⟨5, some 69, .mv (.t 68), none⟩,
  .op ⟨6, some 70, .mv (.t 9), some (69, false)⟩,
  .op ⟨7, some 71, .mv (.t 16), some (69, false)⟩,
  .op ⟨8, some 72, .idxa 1 (.t 70) (.t 71), some (69, false)⟩,
  .op ⟨9, some 73, .load (.one (.int .i64)) (.t 72), some (69, false)⟩,
  .op ⟨10, some 74, .mv (.t 7), some (69, false)⟩,
  .op ⟨11, some 75, .lens (.t 74), some (69, false)⟩,
  .op ⟨12, some 76, .bin .geq (.t 73) (.t 75), some (69, false)⟩,
  .op ⟨13, some 77, .pick (.t 69) (.c (.one (.bool true))) (.t 76), none⟩])
 (.cond (.t 77) (.seq (.reg [.op ⟨0, some 14, .mv (.c (.one (.bool true))), none⟩])
 (.exit 1)) (.skip)))
 (.seq (.scope [(.normal, [(15, .one (.int .i64))])] (.seq (.reg [.op ⟨0, some 78, .mv (.t 13), none⟩,
  .op ⟨1, some 79, .mv (.t 9), none⟩,
  .op ⟨2, some 80, .mv (.t 16), none⟩,
  .op ⟨3, some 81, .idxa 1 (.t 79) (.t 80), none⟩,
  .op ⟨4, some 82, .load (.one (.int .i64)) (.t 81), none⟩,
  .op ⟨5, some 83, .idxa 1 (.t 78) (.t 82), none⟩,
  .op ⟨6, some 84, .load (.one .bool) (.t 83), none⟩,
  .op ⟨7, some 85, .un .not (.t 84), none⟩])
 (.cond (.t 85) (.reg [.op ⟨0, some 86, .mv (.t 15), none⟩,
  .op ⟨1, some 87, .bin .add (.t 86) (.c (.one (.int .i64 1))), none⟩,
  .op ⟨2, some 15, .mv (.t 87), none⟩]) (.skip))))
 (.reg [.op ⟨0, some 88, .mv (.t 13), none⟩,
  .op ⟨1, some 89, .mv (.t 9), none⟩,
  .op ⟨2, some 90, .mv (.t 16), none⟩,
  .op ⟨3, some 91, .idxa 1 (.t 89) (.t 90), none⟩,
  .op ⟨4, some 92, .load (.one (.int .i64)) (.t 91), none⟩,
  .op ⟨5, some 93, .idxa 1 (.t 88) (.t 92), none⟩,
  .op ⟨6, none, .store 1 (.t 93) (.c (.one (.bool true))), none⟩]))))
 (.reg [.op ⟨0, some 62, .mv (.t 16), none⟩,
  .op ⟨1, some 63, .bin .add (.t 62) (.c (.one (.int .i64 1))), none⟩,
  .op ⟨2, some 16, .mv (.t 63), none⟩]))))))
 (.seq (.seq (.scope [(.normal, [(99, .one .bool)])] (.reg [.op ⟨0, some 94, .mv (.t 14), none⟩,
  .op ⟨1, some 95, .mv (.t 94), none⟩,
  .op ⟨2, some 96, .mv (.t 15), some (95, false)⟩,
  .op ⟨3, some 97, .mv (.t 8), some (95, false)⟩,
  .op ⟨4, some 98, .bin .gtr (.t 96) (.t 97), some (95, false)⟩,
  .op ⟨5, some 99, .pick (.t 95) (.c (.one (.bool true))) (.t 98), none⟩]))
 (.cond (.t 99) (.seq (.reg [.op ⟨0, some 100, .mv (.t 12), none⟩,
  .op ⟨1, some 101, .bin .eql (.t 100) (.c (.one (.int .i64 280))), none⟩,
  .op ⟨2, some 102, .mv (.t 101), none⟩,
  .op ⟨3, some 103, .mv (.t 10), some (102, true)⟩,
  .op ⟨4, some 104, .bin .eql (.t 103) (.c (.one (.str []))), some (102, true)⟩,
  .op ⟨5, some 105, .pick (.t 102) (.t 104) (.c (.one (.bool false))), none⟩,
  .op ⟨6, some 6, .mv (.t 105), none⟩])
 (.ret)) (.skip)))
 (.seq (.seq (.reg [.op ⟨0, some 106, .mv (.t 12), none⟩,
  .op ⟨1, some 107, .bin .neq (.t 106) (.c (.one (.int .i64 0))), none⟩])
 (.cond (.t 107) (.seq (.reg [.op ⟨0, some 108, .mv (.t 12), none⟩,
  .op ⟨1, some 109, .bin .eql (.t 108) (.c (.one (.int .i64 280))), none⟩,
  .op ⟨2, some 110, .mv (.t 109), none⟩,
  .op ⟨3, some 111, .mv (.t 10), some (110, true)⟩,
  .op ⟨4, some 112, .bin .eql (.t 111) (.c (.one (.str []))), some (110, true)⟩,
  .op ⟨5, some 113, .pick (.t 110) (.t 112) (.c (.one (.bool false))), none⟩,
  .op ⟨6, some 114, .mv (.t 113), none⟩,
  .op ⟨7, some 115, .mv (.t 11), some (114, true)⟩,
  .op ⟨8, some 116, .bin .eql (.t 115) (.c (.one (.int .i64 0))), some (114, true)⟩,
  .op ⟨9, some 117, .pick (.t 114) (.t 116) (.c (.one (.bool false))), none⟩,
  .op ⟨10, some 118, .mv (.t 117), none⟩,
  .op ⟨11, some 119, .mv (.t 7), some (118, true)⟩,
  .op ⟨12, some 120, .mv (.t 8), some (118, true)⟩,
  .op ⟨13, some 121, .call 3 [(.t 119), (.t 120)], some (118, true)⟩,
  .op ⟨14, some 122, .un .not (.t 121), some (118, true)⟩,
  .op ⟨15, some 123, .pick (.t 118) (.t 122) (.c (.one (.bool false))), none⟩,
  .op ⟨16, some 6, .mv (.t 123), none⟩])
 (.ret)) (.skip)))
 (.seq (.reg [.op ⟨0, some 17, .mv (.c (.one (.int .i64 0))), none⟩,
  .op ⟨1, some 18, .mv (.c (.one (.int .i64 0))), none⟩])
 (.seq (.seq (.reg [.op ⟨0, some 19, .mv (.c (.one (.int .i64 0))), none⟩])
 (.block 2 (.loop [(17, .one (.int .i64)), (18, .one (.int .i64)), (19, .one (.int .i64))] [(.exit 2, [(17, .one (.int .i64)), (18, .one (.int .i64))])] (.seq (.seq (.reg [.op ⟨0, some 124, .mv (.t 19), none⟩,
  .op ⟨1, some 125, .mv (.t 7), none⟩,
  .op ⟨2, some 126, .lens (.t 125), none⟩,
  .op ⟨3, some 127, .bin .lss (.t 124) (.t 126), none⟩])
 (.cond (.t 127) (.skip) (.exit 2)))
 (.seq (.block 3 (.seq (.reg [.op ⟨0, some 130, .mv (.t 10), none⟩,
  .op ⟨1, some 131, .mv (.t 19), none⟩,
  .op ⟨2, some 132, .index (.t 130) (.t 131), none⟩,
  .op ⟨3, some 133, .mv (.t 7), none⟩,
  .op ⟨4, some 134, .mv (.t 19), none⟩,
  .op ⟨5, some 135, .index (.t 133) (.t 134), none⟩,
  .op ⟨6, some 136, .bin .neq (.t 132) (.t 135), none⟩])
 (.cond (.t 136) (.seq (.reg [.op ⟨0, some 137, .mv (.t 17), none⟩,
  .op ⟨1, some 138, .bin .add (.t 137) (.c (.one (.int .i64 1))), none⟩,
  .op ⟨2, some 17, .mv (.t 138), none⟩])
 (.seq (.reg [.op ⟨0, some 139, .mv (.t 13), none⟩,
  .op ⟨1, some 140, .mv (.t 19), none⟩,
  .op ⟨2, some 141, .idxa 1 (.t 139) (.t 140), none⟩,
  .op ⟨3, some 142, .load (.one .bool) (.t 141), none⟩,
  .op ⟨4, some 143, .un .not (.t 142), none⟩])
 (.cond (.t 143) (.reg [.op ⟨0, some 144, .mv (.t 18), none⟩,
  .op ⟨1, some 145, .bin .add (.t 144) (.c (.one (.int .i64 1))), none⟩,
  .op ⟨2, some 18, .mv (.t 145), none⟩]) (.skip)))) (.skip))))
 (.reg [.op ⟨0, some 128, .mv (.t 19), none⟩,
  .op ⟨1, some 129, .bin .add (.t 128) (.c (.one (.int .i64 1))), none⟩,
  .op ⟨2, some 19, .mv (.t 129), none⟩]))))))
 (.seq (.reg [.op ⟨0, some 146, .mv (.t 10), none⟩,
  .op ⟨1, some 147, .lens (.t 146), none⟩,
  .op ⟨2, some 148, .mv (.t 7), none⟩,
  .op ⟨3, some 149, .lens (.t 148), none⟩,
  .op ⟨4, some 150, .bin .eql (.t 147) (.t 149), none⟩,
  .op ⟨5, some 151, .mv (.t 150), none⟩,
  .op ⟨6, some 152, .mv (.t 10), some (151, true)⟩,
  .op ⟨7, some 153, .mv (.t 8), some (151, true)⟩,
  .op ⟨8, some 154, .call 3 [(.t 152), (.t 153)], some (151, true)⟩,
  .op ⟨9, some 155, .pick (.t 151) (.t 154) (.c (.one (.bool false))), none⟩,
  .op ⟨10, some 156, .mv (.t 155), none⟩,
  .op ⟨11, some 157, .mv (.t 11), some (156, true)⟩,
  .op ⟨12, some 158, .mv (.t 17), some (156, true)⟩,
  .op ⟨13, some 159, .bin .eql (.t 157) (.t 158), some (156, true)⟩,
  .op ⟨14, some 160, .pick (.t 156) (.t 159) (.c (.one (.bool false))), none⟩,
  .op ⟨15, some 161, .mv (.t 160), none⟩,
  .op ⟨16, some 162, .mv (.t 18), some (161, true)⟩,
  .op ⟨17, some 163, .bin .mul (.c (.one (.int .i64 2))) (.t 162), some (161, true)⟩,
  .op ⟨18, some 164, .mv (.t 15), some (161, true)⟩,
  .op ⟨19, some 165, .bin .add (.t 163) (.t 164), some (161, true)⟩,
  .op ⟨20, some 166, .mv (.t 8), some (161, true)⟩,
  .op ⟨21, some 167, .bin .leq (.t 165) (.t 166), some (161, true)⟩,
  .op ⟨22, some 168, .mv (.t 167), some (161, true)⟩,
  .op ⟨23, some 169, .mv (.t 17), some (168, false)⟩,
  .op ⟨24, some 170, .bin .eql (.t 169) (.c (.one (.int .i64 0))), some (168, false)⟩,
  .op ⟨25, some 171, .pick (.t 168) (.c (.one (.bool true))) (.t 170), some (161, true)⟩,
  .op ⟨26, some 172, .pick (.t 161) (.t 171) (.c (.one (.bool false))), none⟩,
  .op ⟨27, some 6, .mv (.t 172), none⟩])
 (.ret)))))))))))))⟩
noncomputable def law28_RsAny.s1 (r1 : (Bytes × Unit)) (t2 : Sl) (p8 : (Sl × Heap)) (s9 : (Bool × Int × Int × Unit)) (H10 : Heap) : Option (((Bool × Int × Int × Unit) ⊕ (Bool × Int × Unit)) × Heap) :=
 cond (decide (s9.2.2.1 < (t2.len : Int))) (
 (Sl.at 1 t2 s9.2.2.1).bind fun (a11 : (Nat × Nat)) =>
 (rdI .i64 H10 a11.1 a11.2).bind fun (v12 : Int) =>
 cond (decide (v12 < 0)) (
 some (Sum.inl (true, s9.2.1, (IntKind.wrap .i64 (s9.2.2.1 + 1)), ()), H10)) (
 (Sl.at 1 t2 s9.2.2.1).bind fun (a13 : (Nat × Nat)) =>
 (rdI .i64 H10 a13.1 a13.2).bind fun (v14 : Int) =>
 cond (decide ((List.length (r1.1 : Bytes) : Int) ≤ v14)) (
 some (Sum.inl (true, s9.2.1, (IntKind.wrap .i64 (s9.2.2.1 + 1)), ()), H10)) (
 ((Sl.at 1 t2 s9.2.2.1).bind fun (a15 : (Nat × Nat)) =>
 (rdI .i64 H10 a15.1 a15.2).bind fun (v16 : Int) =>
 (Sl.at 1 p8.1 v16).bind fun (a17 : (Nat × Nat)) =>
 (rdB H10 a17.1 a17.2).bind fun (v18 : Bool) =>
 cond (!v18) (
 some (((IntKind.wrap .i64 (s9.2.1 + 1)), ()), H10)) (
 some ((s9.2.1, ()), H10)) : Option ((Int × Unit) × Heap)).bind fun (p19 : (Int × Unit) × Heap) =>
 (Sl.at 1 t2 s9.2.2.1).bind fun (a20 : (Nat × Nat)) =>
 (rdI .i64 p19.2 a20.1 a20.2).bind fun (v21 : Int) =>
 (Sl.at 1 p8.1 v21).bind fun (a22 : (Nat × Nat)) =>
 (wr p19.2 a22.1 a22.2 [.bool true]).bind fun (H23 : Heap) =>
 some (Sum.inl (s9.1, p19.1.1, (IntKind.wrap .i64 (s9.2.2.1 + 1)), ()), H23)))) (
 some (Sum.inr (s9.1, s9.2.1, ()), H10))
noncomputable def law28_RsAny.s2 (r1 : (Bytes × Unit)) (r3 : ((Bytes × Int × Int × Unit) × Heap)) (p8 : (Sl × Heap)) (s27 : (Int × Int × Int × Unit)) (H28 : Heap) : Option (((Int × Int × Int × Unit) ⊕ (Int × Int × Unit)) × Heap) :=
 cond (decide (s27.2.2.1 < (List.length (r1.1 : Bytes) : Int))) (
 (idxS r3.1.1 s27.2.2.1).bind fun (n29 : Int) =>
 (idxS r1.1 s27.2.2.1).bind fun (n30 : Int) =>
 cond (!decide (n29 = n30)) (
 (Sl.at 1 p8.1 s27.2.2.1).bind fun (a31 : (Nat × Nat)) =>
 (rdB H28 a31.1 a31.2).bind fun (v32 : Bool) =>
 cond (!v32) (
 some (Sum.inl ((IntKind.wrap .i64 (s27.1 + 1)), (IntKind.wrap .i64 (s27.2.1 + 1)), (IntKind.wrap .i64 (s27.2.2.1 + 1)), ()), H28)) (
 some (Sum.inl ((IntKind.wrap .i64 (s27.1 + 1)), s27.2.1, (IntKind.wrap .i64 (s27.2.2.1 + 1)), ()), H28))) (
 some (Sum.inl (s27.1, s27.2.1, (IntKind.wrap .i64 (s27.2.2.1 + 1)), ()), H28))) (
 some (Sum.inr (s27.1, s27.2.1, ()), H28))
noncomputable def law28_RsAny (x0 : Bytes) (x1 : Int) (x2 : Sl) (H : Heap) : Option ((Bool × Unit) × Heap) :=
 (law28_few x0).bind fun (r1 : (Bytes × Unit)) =>
 (Sl.sub 1 x2 0 (if 20 < (x2.len : Int) then 20 else (x2.len : Int)) (x2.cap : Int)).bind fun (t2 : Sl) =>
 (rs_Decode r1.1 (IntKind.wrap .i64 (1 + (bitsI .and .i64 x1 15))) t2 H).bind fun (r3 : ((Bytes × Int × Int × Unit) × Heap)) =>
 ((law28_awake).bind fun (r4 : (Bool × Unit)) =>
 cond (!r4.1) (
 some ((true, ()), r3.2)) (
 some (((decide ((List.length (r1.1 : Bytes) : Int) ≤ (IntKind.wrap .i64 (1 + (bitsI .and .i64 x1 15))))), ()), r3.2)) : Option ((Bool × Unit) × Heap)).bind fun (p5 : (Bool × Unit) × Heap) =>
 cond p5.1.1 (
 (law28_awake).bind fun (r6 : (Bool × Unit)) =>
 cond r6.1 (
 cond (decide (r3.1.2.2.1 = 1)) (
 some (((decide ((r3.1.1 : Bytes) = [])), ()), p5.2)) (
 some ((false, ()), p5.2))) (
 some ((false, ()), p5.2))) (
 let n7 : Int := (List.length (r1.1 : Bytes) : Int)
 (mkS p5.2 1 [.bool false] n7 n7).bind fun (p8 : (Sl × Heap)) =>
 (loopW (law28_RsAny.s1 r1 t2 p8) (false, 0, 0, ()) p8.2).bind fun (p24 : (Bool × Int × Unit) × Heap) =>
 (cond p24.1.1 (
 some ((true, ()), p24.2)) (
 some (((decide ((IntKind.wrap .i64 (1 + (bitsI .and .i64 x1 15))) < p24.1.2.1)), ()), p24.2)) : Option ((Bool × Unit) × Heap)).bind fun (p25 : (Bool × Unit) × Heap) =>
 cond p25.1.1 (
 cond (decide (r3.1.2.2.1 = 280)) (
 some (((decide ((r3.1.1 : Bytes) = [])), ()), p25.2)) (
 some ((false, ()), p25.2))) (
 cond (!decide (r3.1.2.2.1 = 0)) (
 cond (decide (r3.1.2.2.1 = 280)) (
 cond (decide ((r3.1.1 : Bytes) = [])) (
 cond (decide (r3.1.2.1 = 0)) (
 (law28_right r1.1 (IntKind.wrap .i64 (1 + (bitsI .and .i64 x1 15)))).bind fun (r26 : (Bool × Unit)) =>
 some (((!r26.1), ()), p25.2)) (
 some ((false, ()), p25.2))) (
 some ((false, ()), p25.2))) (
 some ((false, ()), p25.2))) (
 (loopW (law28_RsAny.s2 r1 r3 p8) (0, 0, 0, ()) p25.2).bind fun (p33 : (Int × Int × Unit) × Heap) =>
 cond (decide ((List.length (r3.1.1 : Bytes) : Int) = (List.length (r1.1 : Bytes) : Int))) (
 (law28_right r3.1.1 (IntKind.wrap .i64 (1 + (bitsI .and .i64 x1 15)))).bind fun (r34 : (Bool × Unit)) =>
 cond r34.1 (
 cond (decide (r3.1.2.1 = p33.1.1)) (
 cond (decide ((IntKind.wrap .i64 ((IntKind.wrap .i64 (2 * p33.1.2.1)) + p24.1.2.1)) ≤ (IntKind.wrap .i64 (1 + (bitsI .and .i64 x1 15))))) (
 some ((true, ()), p33.2)) (
 some (((decide (p33.1.1 = 0)), ()), p33.2))) (
 some ((false, ()), p33.2))) (
 some ((false, ()), p33.2))) (
 some ((false, ()), p33.2)))))
noncomputable def law28_RsAny.c : Callee := .full [.one .str, .one (.int .i64), .one (.sl 1)] [.one .bool] (fun x H => law28_RsAny x.1 x.2.1 x.2.2.1 H)
noncomputable def law28_RsAny.calls : Nat → Option Callee
  | 0 => some law28_few.c
  | 1 => some rs_Decode.c
  | 2 => some law28_awake.c
  | 3 => some law28_right.c
  | _ => none
theorem law28_RsAny.eq : evFull law28_RsAny.calls law28_RsAny.af = (fun x H => law28_RsAny x.1 x.2.1 x.2.2.1 H) := by kernel_rfl

/-! ### tinderbox/tinderboxlaw28.RsOne -/
def law28_RsOne.af : AFun := ⟨[.one .str], [.one .bool], [.t 2],
 .seq (.reg [.op ⟨0, some 2, .mv (.c (.one (.bool false))), none⟩])
 (.seq (.reg [.op ⟨0, some 12, .mv (.t 0), none⟩,
  .op ⟨1, some 13, .call 0 [(.t 12)], none⟩,
  .op ⟨2, some 3, .mv (.t 13), none⟩])
 (.seq (.seq (.reg [.op ⟨0, some 14, .mv (.t 3), none⟩,
  .op ⟨1, some 15, .lens (.t 14), none⟩,
  .op ⟨2, some 16, .bin .lss (.t 15) (.c (.one (.int .i64 3))), none⟩])
 (.cond (.t 16) (.seq (.reg [.op ⟨0, some 17, .call 1 [], none⟩,
  .op ⟨1, some 2, .mv (.t 17), none⟩])
 (.ret)) (.skip)))
 (.seq (.reg [.op ⟨0, some 18, .mv (.t 3), none⟩,
  .op ⟨1, some 19, .mv (.t 3), none⟩,
  .op ⟨2, some 20, .lens (.t 19), none⟩,
  .op ⟨3, some 21, .min [(.t 20), (.c (.one (.int .i64 8)))], none⟩,
  .op ⟨4, some 22, .slstr (.t 18) none (some (.t 21)), none⟩,
  .op ⟨5, some 3, .mv (.t 22), none⟩])
 (.seq (.reg [.op ⟨0, some 24, .mv (.t 3), none⟩,
  .op ⟨1, some 25, .call 2 [(.t 24), (.c (.one (.int .i64 2))), (.c (.one (.sl 1 (⟨none, 0, 0⟩))))], none⟩,
  .op ⟨2, some 23, .mv (.t 25), none⟩,
  .op ⟨3, some 26, .ext (.t 23) 0, none⟩,
  .op ⟨4, some 27, .ext (.t 23) 1, none⟩,
  .op ⟨5, some 28, .ext (.t 23) 2, none⟩,
  .op ⟨6, some 4, .mv (.t 26), none⟩,
  .op ⟨7, some 5, .mv (.t 27), none⟩,
  .op ⟨8, some 6, .mv (.t 28), none⟩])
 (.seq (.reg [.op ⟨0, some 29, .mv (.t 3), none⟩,
  .op ⟨1, some 30, .mv (.t 3), none⟩,
  .op ⟨2, some 31, .call 3 [(.t 30), (.c (.one (.int .i64 2)))], none⟩,
  .op ⟨3, some 7, .mv (.t 29), none⟩,
  .op ⟨4, some 8, .mv (.t 31), none⟩])
 (.seq (.seq (.reg [.op ⟨0, some 9, .mv (.c (.one (.int .i64 0))), none⟩])
 (.block 0 (.loop [(7, .one .str), (8, .one .bool), (9, .one (.int .i64))] [(.exit 0, [(7, .one .str), (8, .one .bool)])] (.seq (.seq (.reg [.op ⟨0, some 32, .mv (.t 9), none⟩,
  .op ⟨1, some 33, .mv (.t 3), none⟩,
  .op ⟨2, some 34, .lens (.t 33), none⟩,
  .op ⟨3, some 35, .bin .lss (.t 32) (.t 34), none⟩,
  .op ⟨4, some 36, .mv (.t 35), none⟩,
  .op ⟨5, some 37, .mv (.t 8), some (36, true)⟩,
  .op ⟨6, some 38, .un .not (.t 37), some (36, true)⟩,
  .op ⟨7, some 39, .pick (.t 36) (.t 38) (.c (.one (.bool false))), none⟩])
 (.cond (.t 39) (.skip) (.exit 0)))
 (.seq (.block 1 (.seq (.reg [.op ⟨0, some 10, .mv (.c (.one (.int .i64 1))), none⟩])
 (.block 2 (.loop [(7, .one .str), (8, .one .bool), (10, .one (.int .i64))] [(.exit 2, [(7, .one .str), (8, .one .bool)])] (.seq (.seq (.reg [.op ⟨0, some 42, .mv (.t 10), none⟩,
  .op ⟨1, some 43, .bin .lss (.t 42) (.c (.one (.int .i64 256))), none⟩])
 (.cond (.t 43) (.skip) (.exit 2)))
 (.seq (.block 3 (.seq (.reg [.op ⟨0, some 46, .mv (.t 3), none⟩,
  .op ⟨1, some 47, .mv (.t 9), none⟩,
  .op ⟨2, some 48, .slstr (.t 46) none (some (.t 47)), none⟩,
  .op ⟨3, some 49, .mv (.t 3), none⟩,
  .op ⟨4, some 50, .mv (.t 9), none⟩,
  .op ⟨5, some 51, .index (.t 49) (.t 50), none⟩,
  .op ⟨6, some 52, .mv (.t 10), none⟩,
  .op ⟨7, some 53, .conv .u8 (.t 52), none⟩,
  .op ⟨8, some 54, .bin .xor (.t 51) (.t 53), none⟩,
  .op ⟨9, some 55, .bslice 1 1 [.int .u8 0] [(0, 1, (.t 54))], none⟩,
  .op ⟨10, some 56, .b2s (.t 55), none⟩,
  .op ⟨11, some 57, .bin .add (.t 48) (.t 56), none⟩,
  .op ⟨12, some 58, .mv (.t 3), none⟩,
  .op ⟨13, some 59, .mv (.t 9), none⟩,
  .op ⟨14, some 60, .bin .add (.t 59) (.c (.one (.int .i64 1))), none⟩,
  .op ⟨15, some 61, .slstr (.t 58) (some (.t 60)) none, none⟩,
  .op ⟨16, some 62, .bin .add (.t 57) (.t 61), none⟩,
  .op ⟨17, some 11, .mv (.t 62), none⟩])
 (.seq (.reg [.op ⟨0, some 63, .mv (.t 11), none⟩,
  .op ⟨1, some 64, .call 3 [(.t 63), (.c (.one (.int .i64 2)))], none⟩])
 (.cond (.t 64) (.seq (.reg [.op ⟨0, some 65, .mv (.t 11), none⟩,
  .op ⟨1, some 7, .mv (.t 65), none⟩,
  .op ⟨2, some 8, .mv (.c (.one (.bool true))), none⟩])
 (.exit 2)) (.skip)))))
 (.reg [.op ⟨0, some 44, .mv (.t 10), none⟩,
  .op ⟨1, some 45, .bin .add (.t 44) (.c (.one (.int .i64 1))), none⟩,
  .op ⟨2, some 10, .mv (.t 45), none⟩])))))))
 (.reg [.op ⟨0, some 40, .mv (.t 9), none⟩,
  .op ⟨1, some 41, .bin .add (.t 40) (.c (.one (.int .i64 1))), none⟩,
  .op ⟨2, some 9, .mv (.t 41), none⟩]))))))
 (.seq (.seq (.reg [.op ⟨0, some 66, .mv (.t 8), none⟩,
  .op ⟨1, some 67, .un .not (.t 66), none⟩])
 (.cond (.t 67) (.seq (.reg [.op ⟨0, some 68, .call 1 [], none⟩,
  .op ⟨1, some 69, .mv (.t 68), none⟩,
  .op ⟨2, some 70, .mv (.t 6), some (69, true)⟩,
  .op ⟨3, some 71, .bin .eql (.t 70) (.c (.one (.int .i64 280))), some (69, true)⟩,
  .op ⟨4, some 72, .pick (.t 69) (.t 71) (.c (.one (.bool false))), none⟩,
  .op ⟨5, some 2, .mv (.t 72), none⟩])
 (.ret)) (.skip)))
 (.seq (.reg [.op ⟨0, some 73, .call 1 [], none⟩,
  .op ⟨1, some 74, .mv (.t 73), none⟩,
  .op ⟨2, some 75, .mv (.t 6), some (74, true)⟩,
  .op ⟨3, some 76, .bin .eql (.t 75) (.c (.one (.int .i64 0))), some (74, true)⟩,
  .op ⟨4, some 77, .pick (.t 74) (.t 76) (.c (.one (.bool false))), none⟩,
  .op ⟨5, some 78, .mv (.t 77), none⟩,
  .op ⟨6, some 79, .mv (.t 4), some (78, true)⟩,
  .op ⟨7, some 80, .mv (.t 7), some (78, true)⟩,
  .op ⟨8, some 81, .bin .eql (.t 79) (.t 80), some (78, true)⟩,
  .op ⟨9, some 82, .pick (.t 78) (.t 81) (.c (.one (.bool false))), none⟩,
  .op ⟨10, some 2, .mv (.t 82), none⟩])
 (.ret)))))))))⟩
noncomputable def law28_RsOne.s1 (s3 : Bytes) (s6 : (Bytes × Bool × Int × Unit)) (s8 : (Bytes × Bool × Int × Unit)) (H9 : Heap) : Option (((Bytes × Bool × Int × Unit) ⊕ (Bytes × Bool × Unit)) × Heap) :=
 cond (decide (s8.2.2.1 < 256)) (
 (subS s3 0 s6.2.2.1).bind fun (s10 : Bytes) =>
 (idxS s3 s6.2.2.1).bind fun (n11 : Int) =>
 let H12 : Heap := H9 ++ [Blk.cells [.int .u8 (bitsI .xor .u8 n11 (IntKind.wrap .u8 s8.2.2.1))] .exact]
 (strOf H12 (⟨some (H9.length, 0), 1, 1⟩)).bind fun (s13 : Bytes) =>
 (catS s10 s13).bind fun (s14 : Bytes) =>
 (subS s3 (IntKind.wrap .i64 (s6.2.2.1 + 1)) (List.length (s3 : Bytes) : Int)).bind fun (s15 : Bytes) =>
 (catS s14 s15).bind fun (s16 : Bytes) =>
 (law28_right s16 2).bind fun (r17 : (Bool × Unit)) =>
 cond r17.1 (
 some (Sum.inr (s16, true, ()), H12)) (
 some (Sum.inl (s8.1, s8.2.1, (IntKind.wrap .i64 (s8.2.2.1 + 1)), ()), H12))) (
 some (Sum.inr (s8.1, s8.2.1, ()), H9))
noncomputable def law28_RsOne.s2 (s3 : Bytes) (s6 : (Bytes × Bool × Int × Unit)) (H7 : Heap) : Option (((Bytes × Bool × Int × Unit) ⊕ (Bytes × Bool × Unit)) × Heap) :=
 cond (decide (s6.2.2.1 < (List.length (s3 : Bytes) : Int))) (
 cond (!s6.2.1) (
 (loopW (law28_RsOne.s1 s3 s6) (s6.1, s6.2.1, 1, ()) H7).bind fun (p18 : (Bytes × Bool × Unit) × Heap) =>
 some (Sum.inl (p18.1.1, p18.1.2.1, (IntKind.wrap .i64 (s6.2.2.1 + 1)), ()), p18.2)) (
 some (Sum.inr (s6.1, s6.2.1, ()), H7))) (
 some (Sum.inr (s6.1, s6.2.1, ()), H7))
noncomputable def law28_RsOne.on (x0 : Bytes) (H : Heap) : Option (Bool × Unit) :=
 (law28_few x0).bind fun (r1 : (Bytes × Unit)) =>
 cond (decide ((List.length (r1.1 : Bytes) : Int) < 3)) (
 (law28_awake).bind fun (r2 : (Bool × Unit)) =>
 some (r2.1, ())) (
 (subS r1.1 0 (if 8 < (List.length (r1.1 : Bytes) : Int) then 8 else (List.length (r1.1 : Bytes) : Int))).bind fun (s3 : Bytes) =>
 (rs_Decode s3 2 (⟨none, 0, 0⟩) H).bind fun (r4 : ((Bytes × Int × Int × Unit) × Heap)) =>
 (law28_right s3 2).bind fun (r5 : (Bool × Unit)) =>
 (loopW (law28_RsOne.s2 s3) (s3, r5.1, 0, ()) r4.2).bind fun (p19 : (Bytes × Bool × Unit) × Heap) =>
 cond (!p19.1.2.1) (
 (law28_awake).bind fun (r20 : (Bool × Unit)) =>
 cond r20.1 (
 some ((decide (r4.1.2.2.1 = 280)), ())) (
 some (false, ()))) (
 (law28_awake).bind fun (r21 : (Bool × Unit)) =>
 cond r21.1 (
 cond (decide (r4.1.2.2.1 = 0)) (
 some ((decide ((r4.1.1 : Bytes) = p19.1.1)), ())) (
 some (false, ()))) (
 some (false, ()))))
noncomputable def law28_RsOne (x0 : Bytes) : Option (Bool × Unit) := law28_RsOne.on x0 []
noncomputable def law28_RsOne.c : Callee := .pure [.one .str] [.one .bool] (fun x => law28_RsOne x.1)
noncomputable def law28_RsOne.calls : Nat → Option Callee
  | 0 => some law28_few.c
  | 1 => some law28_awake.c
  | 2 => some rs_Decode.c
  | 3 => some law28_right.c
  | _ => none
theorem law28_RsOne.eq : evPure law28_RsOne.calls law28_RsOne.af = (fun x H => law28_RsOne.on x.1 H) := by kernel_rfl

/-! ### tinderbox/tinderboxlaw28.RsFar -/
def law28_RsFar.af : AFun := ⟨[.one .str, .one .str, .one (.int .i64)], [.one .bool], [.t 6],
 .seq (.reg [.op ⟨0, some 6, .mv (.c (.one (.bool false))), none⟩])
 (.seq (.reg [.op ⟨0, some 17, .mv (.t 0), none⟩,
  .op ⟨1, some 18, .call 0 [(.t 17)], none⟩,
  .op ⟨2, some 19, .mv (.t 1), none⟩,
  .op ⟨3, some 20, .call 0 [(.t 19)], none⟩,
  .op ⟨4, some 21, .mv (.t 2), none⟩,
  .op ⟨5, some 22, .bin .and (.t 21) (.c (.one (.int .i64 15))), none⟩,
  .op ⟨6, some 23, .bin .add (.c (.one (.int .i64 1))) (.t 22), none⟩,
  .op ⟨7, some 7, .mv (.t 18), none⟩,
  .op ⟨8, some 8, .mv (.t 20), none⟩,
  .op ⟨9, some 9, .mv (.t 23), none⟩])
 (.seq (.reg [.op ⟨0, some 24, .mv (.t 7), none⟩,
  .op ⟨1, some 25, .lens (.t 24), none⟩,
  .op ⟨2, some 26, .mv (.t 8), none⟩,
  .op ⟨3, some 27, .lens (.t 26), none⟩,
  .op ⟨4, some 28, .min [(.t 25), (.t 27)], none⟩,
  .op ⟨5, some 10, .mv (.t 28), none⟩])
 (.seq (.reg [.op ⟨0, some 30, .mv (.t 7), none⟩,
  .op ⟨1, some 31, .mv (.t 10), none⟩,
  .op ⟨2, some 32, .slstr (.t 30) none (some (.t 31)), none⟩,
  .op ⟨3, some 33, .mv (.t 9), none⟩,
  .op ⟨4, some 34, .call 1 [(.t 32), (.t 33)], none⟩,
  .op ⟨5, some 29, .mv (.t 34), none⟩,
  .op ⟨6, some 35, .ext (.t 29) 0, none⟩,
  .op ⟨7, some 36, .ext (.t 29) 1, none⟩,
  .op ⟨8, some 11, .mv (.t 35), none⟩,
  .op ⟨9, some 12, .mv (.t 36), none⟩])
 (.seq (.reg [.op ⟨0, some 38, .mv (.t 8), none⟩,
  .op ⟨1, some 39, .mv (.t 10), none⟩,
  .op ⟨2, some 40, .slstr (.t 38) none (some (.t 39)), none⟩,
  .op ⟨3, some 41, .mv (.t 9), none⟩,
  .op ⟨4, some 42, .call 1 [(.t 40), (.t 41)], none⟩,
  .op ⟨5, some 37, .mv (.t 42), none⟩,
  .op ⟨6, some 43, .ext (.t 37) 0, none⟩,
  .op ⟨7, some 44, .ext (.t 37) 1, none⟩,
  .op ⟨8, some 13, .mv (.t 43), none⟩,
  .op ⟨9, some 14, .mv (.t 44), none⟩])
 (.seq (.reg [.op ⟨0, some 15, .mv (.c (.one (.int .i64 0))), none⟩])
 (.seq (.seq (.reg [.op ⟨0, some 16, .mv (.c (.one (.int .i64 0))), none⟩])
 (.block 0 (.loop [(15, .one (.int .i64)), (16, .one (.int .i64))] [(.exit 0, [(15, .one (.int .i64))])] (.seq (.seq (.reg [.op ⟨0, some 45, .mv (.t 16), none⟩,
  .op ⟨1, some 46, .mv (.t 11), none⟩,
  .op ⟨2, some 47, .lens (.t 46), none⟩,
  .op ⟨3, some 48, .bin .lss (.t 45) (.t 47), none⟩,
  .op ⟨4, some 49, .mv (.t 48), none⟩,
  .op ⟨5, some 50, .mv (.t 16), some (49, true)⟩,
  .op ⟨6, some 51, .mv (.t 13), some (49, true)⟩,
  .op ⟨7, some 52, .lens (.t 51), some (49, true)⟩,
  .op ⟨8, some 53, .bin .lss (.t 50) (.t 52), some (49, true)⟩,
  .op ⟨9, some 54, .pick (.t 49) (.t 53) (.c (.one (.bool false))), none⟩])
 (.cond (.t 54) (.skip) (.exit 0)))
 (.seq (.block 1 (.seq (.reg [.op ⟨0, some 57, .mv (.t 11), none⟩,
  .op ⟨1, some 58, .mv (.t 16), none⟩,
  .op ⟨2, some 59, .index (.t 57) (.t 58), none⟩,
  .op ⟨3, some 60, .mv (.t 13), none⟩,
  .op ⟨4, some 61, .mv (.t 16), none⟩,
  .op ⟨5, some 62, .index (.t 60) (.t 61), none⟩,
  .op ⟨6, some 63, .bin .neq (.t 59) (.t 62), none⟩])
 (.cond (.t 63) (.reg [.op ⟨0, some 64, .mv (.t 15), none⟩,
  .op ⟨1, some 65, .bin .add (.t 64) (.c (.one (.int .i64 1))), none⟩,
  .op ⟨2, some 15, .mv (.t 65), none⟩]) (.skip))))
 (.reg [.op ⟨0, some 55, .mv (.t 16), none⟩,
  .op ⟨1, some 56, .bin .add (.t 55) (.c (.one (.int .i64 1))), none⟩,
  .op ⟨2, some 16, .mv (.t 56), none⟩]))))))
 (.seq (.reg [.op ⟨0, some 66, .call 2 [], none⟩,
  .op ⟨1, some 67, .mv (.t 66), none⟩,
  .op ⟨2, some 68, .mv (.t 12), some (67, true)⟩,
  .op ⟨3, some 69, .bin .eql (.t 68) (.c (.one (.int .i64 0))), some (67, true)⟩,
  .op ⟨4, some 70, .pick (.t 67) (.t 69) (.c (.one (.bool false))), none⟩,
  .op ⟨5, some 71, .mv (.t 70), none⟩,
  .op ⟨6, some 72, .mv (.t 14), some (71, true)⟩,
  .op ⟨7, some 73, .bin .eql (.t 72) (.c (.one (.int .i64 0))), some (71, true)⟩,
  .op ⟨8, some 74, .pick (.t 71) (.t 73) (.c (.one (.bool false))), none⟩,
  .op ⟨9, some 75, .mv (.t 74), none⟩,
  .op ⟨10, some 76, .mv (.t 15), some (75, true)⟩,
  .op ⟨11, some 77, .mv (.t 9), some (75, true)⟩,
  .op ⟨12, some 78, .bin .gtr (.t 76) (.t 77), some (75, true)⟩,
  .op ⟨13, some 79, .mv (.t 78), some (75, true)⟩,
  .op ⟨14, some 80, .mv (.t 11), some (79, false)⟩,
  .op ⟨15, some 81, .mv (.t 13), some (79, false)⟩,
  .op ⟨16, some 82, .bin .eql (.t 80) (.t 81), some (79, false)⟩,
  .op ⟨17, some 83, .pick (.t 79) (.c (.one (.bool true))) (.t 82), some (75, true)⟩,
  .op ⟨18, some 84, .pick (.t 75) (.t 83) (.c (.one (.bool false))), none⟩,
  .op ⟨19, some 6, .mv (.t 84), none⟩])
 (.ret))))))))⟩
noncomputable def law28_RsFar.s1 (r4 : (Bytes × Int × Unit)) (r6 : (Bytes × Int × Unit)) (s7 : (Int × Int × Unit)) (H8 : Heap) : Option (((Int × Int × Unit) ⊕ (Int × Unit)) × Heap) :=
 cond (decide (s7.2.1 < (List.length (r4.1 : Bytes) : Int))) (
 cond (decide (s7.2.1 < (List.length (r6.1 : Bytes) : Int))) (
 (idxS r4.1 s7.2.1).bind fun (n9 : Int) =>
 (idxS r6.1 s7.2.1).bind fun (n10 : Int) =>
 cond (!decide (n9 = n10)) (
 some (Sum.inl ((IntKind.wrap .i64 (s7.1 + 1)), (IntKind.wrap .i64 (s7.2.1 + 1)), ()), H8)) (
 some (Sum.inl (s7.1, (IntKind.wrap .i64 (s7.2.1 + 1)), ()), H8))) (
 some (Sum.inr (s7.1, ()), H8))) (
 some (Sum.inr (s7.1, ()), H8))
noncomputable def law28_RsFar.on (x0 : Bytes) (x1 : Bytes) (x2 : Int) (H : Heap) : Option (Bool × Unit) :=
 (law28_few x0).bind fun (r1 : (Bytes × Unit)) =>
 (law28_few x1).bind fun (r2 : (Bytes × Unit)) =>
 (subS r1.1 0 (if (List.length (r2.1 : Bytes) : Int) < (List.length (r1.1 : Bytes) : Int) then (List.length (r2.1 : Bytes) : Int) else (List.length (r1.1 : Bytes) : Int))).bind fun (s3 : Bytes) =>
 (rs_Encode s3 (IntKind.wrap .i64 (1 + (bitsI .and .i64 x2 15)))).bind fun (r4 : (Bytes × Int × Unit)) =>
 (subS r2.1 0 (if (List.length (r2.1 : Bytes) : Int) < (List.length (r1.1 : Bytes) : Int) then (List.length (r2.1 : Bytes) : Int) else (List.length (r1.1 : Bytes) : Int))).bind fun (s5 : Bytes) =>
 (rs_Encode s5 (IntKind.wrap .i64 (1 + (bitsI .and .i64 x2 15)))).bind fun (r6 : (Bytes × Int × Unit)) =>
 (loopW (law28_RsFar.s1 r4 r6) (0, 0, ()) H).bind fun (p11 : (Int × Unit) × Heap) =>
 (law28_awake).bind fun (r12 : (Bool × Unit)) =>
 cond r12.1 (
 cond (decide (r4.2.1 = 0)) (
 cond (decide (r6.2.1 = 0)) (
 cond (decide ((IntKind.wrap .i64 (1 + (bitsI .and .i64 x2 15))) < p11.1.1)) (
 some (true, ())) (
 some ((decide ((r4.1 : Bytes) = r6.1)), ()))) (
 some (false, ()))) (
 some (false, ()))) (
 some (false, ()))
noncomputable def law28_RsFar (x0 : Bytes) (x1 : Bytes) (x2 : Int) : Option (Bool × Unit) := law28_RsFar.on x0 x1 x2 []
noncomputable def law28_RsFar.c : Callee := .pure [.one .str, .one .str, .one (.int .i64)] [.one .bool] (fun x => law28_RsFar x.1 x.2.1 x.2.2.1)
noncomputable def law28_RsFar.calls : Nat → Option Callee
  | 0 => some law28_few.c
  | 1 => some rs_Encode.c
  | 2 => some law28_awake.c
  | _ => none
theorem law28_RsFar.eq : evPure law28_RsFar.calls law28_RsFar.af = (fun x H => law28_RsFar.on x.1 x.2.1 x.2.2.1 H) := by kernel_rfl
end Ev
