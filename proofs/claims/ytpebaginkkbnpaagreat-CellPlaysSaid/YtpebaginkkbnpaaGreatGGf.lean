/- What the functions of the package Gf compute: abstract code, and a function of plain Lean for each; the kernel checks that they are the same. Written by gen2.py. -/
import Derived.Test.YtpebaginkkbnpaaGreatEvCore
import Derived.KernelRfl
set_option linter.unusedVariables false
set_option maxRecDepth 100000
namespace Ev
open Go (IntKind BinOp UnOp)

/-! ### (tinderbox/gf.Poly).Trim -/
def gf_Poly_Trim.af : AFun := ⟨[.one (.sl 1)], [.one (.sl 1)], [.t 2],
 .seq (.reg [.op ⟨0, some 2, .mv (.c (.one (.sl 1 (⟨none, 0, 0⟩)))), none⟩])
 (.seq (.reg [.op ⟨0, some 4, .mv (.t 0), none⟩,
  .op ⟨1, some 5, .len (.t 4), none⟩,
  .op ⟨2, some 3, .mv (.t 5), none⟩])
 (.seq (.block 0 (.loop [(3, .one (.int .i64))] [(.exit 0, [(3, .one (.int .i64))])] (.seq (.seq (.reg [.op ⟨0, some 6, .mv (.t 3), none⟩,
  .op ⟨1, some 7, .bin .gtr (.t 6) (.c (.one (.int .i64 0))), none⟩,
  .op ⟨2, some 8, .mv (.t 7), none⟩,
  .op ⟨3, some 9, .mv (.t 0), some (8, true)⟩,
  .op ⟨4, some 10, .mv (.t 3), some (8, true)⟩,
  .op ⟨5, some 11, .bin .sub (.t 10) (.c (.one (.int .i64 1))), some (8, true)⟩,
  .op ⟨6, some 12, .idxa 1 (.t 9) (.t 11), some (8, true)⟩,
  .op ⟨7, some 13, .load (.one (.int .u8)) (.t 12), some (8, true)⟩,
  .op ⟨8, some 14, .bin .eql (.t 13) (.c (.one (.int .u8 0))), some (8, true)⟩,
  .op ⟨9, some 15, .pick (.t 8) (.t 14) (.c (.one (.bool false))), none⟩])
 (.cond (.t 15) (.skip) (.exit 0)))
 (.block 1 (.reg [.op ⟨0, some 16, .mv (.t 3), none⟩,
  .op ⟨1, some 17, .bin .sub (.t 16) (.c (.one (.int .i64 1))), none⟩,
  .op ⟨2, some 3, .mv (.t 17), none⟩])))))
 (.seq (.reg [.op ⟨0, some 18, .bslice 1 0 [] [], none⟩,
  .op ⟨1, some 19, .mv (.t 0), none⟩,
  .op ⟨2, some 20, .mv (.t 3), none⟩,
  .op ⟨3, some 21, .slc 1 (.t 19) none (some (.t 20)) none, none⟩,
  .op ⟨4, some 22, .app 1 1 (.t 18) (.t 21), none⟩,
  .op ⟨5, some 2, .mv (.t 22), none⟩])
 (.ret))))⟩
noncomputable def gf_Poly_Trim.s1 (x0 : Sl) (s1 : (Int × Unit)) (H2 : Heap) : Option (((Int × Unit) ⊕ (Int × Unit)) × Heap) :=
 cond (decide (0 < s1.1)) (
 (Sl.at 1 x0 (IntKind.wrap .i64 (s1.1 - 1))).bind fun (a3 : (Nat × Nat)) =>
 (rdI .u8 H2 a3.1 a3.2).bind fun (v4 : Int) =>
 cond (decide (v4 = 0)) (
 some (Sum.inl ((IntKind.wrap .i64 (s1.1 - 1)), ()), H2)) (
 some (Sum.inr (s1.1, ()), H2))) (
 some (Sum.inr (s1.1, ()), H2))
noncomputable def gf_Poly_Trim (x0 : Sl) (H : Heap) : Option ((Sl × Unit) × Heap) :=
 (loopW (gf_Poly_Trim.s1 x0) ((x0.len : Int), ()) H).bind fun (p5 : (Int × Unit) × Heap) =>
 let H6 : Heap := p5.2 ++ [Blk.cells [] .exact]
 (Sl.sub 1 x0 0 p5.1.1 (x0.cap : Int)).bind fun (t7 : Sl) =>
 (slRow H6 1 t7).bind fun (cs8 : (List C)) =>
 (appS H6 1 1 (⟨some (p5.2.length, 0), 0, 0⟩) t7.len cs8).bind fun (p9 : (Sl × Heap)) =>
 some ((p9.1, ()), p9.2)
noncomputable def gf_Poly_Trim.c : Callee := .full [.one (.sl 1)] [.one (.sl 1)] (fun x H => gf_Poly_Trim x.1 H)
noncomputable def gf_Poly_Trim.calls : Nat → Option Callee
  | _ => none
theorem gf_Poly_Trim.eq : evFull gf_Poly_Trim.calls gf_Poly_Trim.af = (fun x H => gf_Poly_Trim x.1 H) := by kernel_rfl

/-! ### (tinderbox/gf.Poly).Shift -/
def gf_Poly_Shift.af : AFun := ⟨[.one (.sl 1), .one (.int .i64)], [.one (.sl 1)], [.t 4],
 .seq (.reg [.op ⟨0, some 4, .mv (.c (.one (.sl 1 (⟨none, 0, 0⟩)))), none⟩])
 (.seq (.reg [.op ⟨0, some 5, .mv (.t 1), none⟩,
  .op ⟨1, some 6, .max [(.t 5), (.c (.one (.int .i64 0)))], none⟩,
  .op ⟨2, some 7, .mk 1 1 [.int .u8 0] (.t 6) (.t 6), none⟩,
  .op ⟨3, some 8, .mv (.t 0), none⟩,
  .op ⟨4, some 9, .app 1 1 (.t 7) (.t 8), none⟩,
  .op ⟨5, some 10, .call 0 [(.t 9)], none⟩,
  .op ⟨6, some 4, .mv (.t 10), none⟩])
 (.ret))⟩
noncomputable def gf_Poly_Shift (x0 : Sl) (x1 : Int) (H : Heap) : Option ((Sl × Unit) × Heap) :=
 let n1 : Int := (if 0 > x1 then 0 else x1)
 (mkS H 1 [.int .u8 0] n1 n1).bind fun (p2 : (Sl × Heap)) =>
 (slRow p2.2 1 x0).bind fun (cs3 : (List C)) =>
 (appS p2.2 1 1 p2.1 x0.len cs3).bind fun (p4 : (Sl × Heap)) =>
 (gf_Poly_Trim p4.1 p4.2).bind fun (r5 : ((Sl × Unit) × Heap)) =>
 some ((r5.1.1, ()), r5.2)
noncomputable def gf_Poly_Shift.c : Callee := .full [.one (.sl 1), .one (.int .i64)] [.one (.sl 1)] (fun x H => gf_Poly_Shift x.1 x.2.1 H)
noncomputable def gf_Poly_Shift.calls : Nat → Option Callee
  | 0 => some gf_Poly_Trim.c
  | _ => none
theorem gf_Poly_Shift.eq : evFull gf_Poly_Shift.calls gf_Poly_Shift.af = (fun x H => gf_Poly_Shift x.1 x.2.1 H) := by kernel_rfl

/-! ### tinderbox/gf.Mul -/
def gf_Mul.af : AFun := ⟨[.one (.int .u8), .one (.int .u8)], [.one (.int .u8)], [.t 4],
 .seq (.reg [.op ⟨0, some 4, .mv (.c (.one (.int .u8 0))), none⟩])
 (.seq (.reg [.op ⟨0, some 8, .mv (.t 0), none⟩,
  .op ⟨1, some 9, .conv .i64 (.t 8), none⟩,
  .op ⟨2, some 5, .mv (.c (.one (.int .i64 0))), none⟩,
  .op ⟨3, some 6, .mv (.t 9), none⟩])
 (.seq (.seq (.reg [.op ⟨0, some 10, .mv (.t 1), none⟩,
  .op ⟨1, some 7, .mv (.t 10), none⟩])
 (.block 0 (.loop [(5, .one (.int .i64)), (6, .one (.int .i64)), (7, .one (.int .u8))] [(.exit 0, [(5, .one (.int .i64))])] (.seq (.seq (.reg [.op ⟨0, some 11, .mv (.t 7), none⟩,
  .op ⟨1, some 12, .bin .gtr (.t 11) (.c (.one (.int .u8 0))), none⟩])
 (.cond (.t 12) (.skip) (.exit 0)))
 (.seq (.block 1 (.seq (.scope [(.normal, [(5, .one (.int .i64))])] (.seq (.reg [.op ⟨0, some 15, .mv (.t 7), none⟩,
  .op ⟨1, some 16, .bin .and (.t 15) (.c (.one (.int .u8 1))), none⟩,
  .op ⟨2, some 17, .bin .eql (.t 16) (.c (.one (.int .u8 1))), none⟩])
 (.cond (.t 17) (.reg [.op ⟨0, some 18, .mv (.t 5), none⟩,
  .op ⟨1, some 19, .mv (.t 6), none⟩,
  .op ⟨2, some 20, .bin .xor (.t 18) (.t 19), none⟩,
  .op ⟨3, some 5, .mv (.t 20), none⟩]) (.skip))))
 (.seq (.reg [.op ⟨0, some 21, .mv (.t 6), none⟩,
  .op ⟨1, some 22, .bin .shl (.t 21) (.c (.one (.int .u64 1))), none⟩,
  .op ⟨2, some 6, .mv (.t 22), none⟩])
 (.seq (.reg [.op ⟨0, some 23, .mv (.t 6), none⟩,
  .op ⟨1, some 24, .bin .gtr (.t 23) (.c (.one (.int .i64 255))), none⟩])
 (.cond (.t 24) (.reg [.op ⟨0, some 25, .mv (.t 6), none⟩,
  .op ⟨1, some 26, .bin .xor (.t 25) (.c (.one (.int .i64 285))), none⟩,
  .op ⟨2, some 6, .mv (.t 26), none⟩]) (.skip))))))
 (.reg [.op ⟨0, some 13, .mv (.t 7), none⟩,
  .op ⟨1, some 14, .bin .shr (.t 13) (.c (.one (.int .u64 1))), none⟩,
  .op ⟨2, some 7, .mv (.t 14), none⟩]))))))
 (.seq (.reg [.op ⟨0, some 27, .mv (.t 5), none⟩,
  .op ⟨1, some 28, .conv .u8 (.t 27), none⟩,
  .op ⟨2, some 4, .mv (.t 28), none⟩])
 (.ret))))⟩
noncomputable def gf_Mul.s1 (s1 : (Int × Int × Int × Unit)) (H2 : Heap) : Option (((Int × Int × Int × Unit) ⊕ (Int × Unit)) × Heap) :=
 cond (decide (0 < s1.2.2.1)) (
 (cond (decide ((bitsI .and .u8 s1.2.2.1 1) = 1)) (
 some (((bitsI .xor .i64 s1.1 s1.2.1), ()), H2)) (
 some ((s1.1, ()), H2)) : Option ((Int × Unit) × Heap)).bind fun (p3 : (Int × Unit) × Heap) =>
 cond (decide (255 < (IntKind.wrap .i64 (s1.2.1 * 2 ^ (min (Int.toNat 1) (IntKind.bits .i64)))))) (
 some (Sum.inl (p3.1.1, (bitsI .xor .i64 (IntKind.wrap .i64 (s1.2.1 * 2 ^ (min (Int.toNat 1) (IntKind.bits .i64)))) 285), (Int.fdiv s1.2.2.1 (2 ^ (min (Int.toNat 1) (IntKind.bits .u8)))), ()), p3.2)) (
 some (Sum.inl (p3.1.1, (IntKind.wrap .i64 (s1.2.1 * 2 ^ (min (Int.toNat 1) (IntKind.bits .i64)))), (Int.fdiv s1.2.2.1 (2 ^ (min (Int.toNat 1) (IntKind.bits .u8)))), ()), p3.2))) (
 some (Sum.inr (s1.1, ()), H2))
noncomputable def gf_Mul.on (x0 : Int) (x1 : Int) (H : Heap) : Option (Int × Unit) :=
 (loopW (gf_Mul.s1) (0, (IntKind.wrap .i64 x0), x1, ()) H).bind fun (p4 : (Int × Unit) × Heap) =>
 some ((IntKind.wrap .u8 p4.1.1), ())
noncomputable def gf_Mul (x0 : Int) (x1 : Int) : Option (Int × Unit) := gf_Mul.on x0 x1 []
noncomputable def gf_Mul.c : Callee := .pure [.one (.int .u8), .one (.int .u8)] [.one (.int .u8)] (fun x => gf_Mul x.1 x.2.1)
noncomputable def gf_Mul.calls : Nat → Option Callee
  | _ => none
theorem gf_Mul.eq : evPure gf_Mul.calls gf_Mul.af = (fun x H => gf_Mul.on x.1 x.2.1 H) := by kernel_rfl

/-! ### tinderbox/gf.Pow -/
def gf_Pow.af : AFun := ⟨[.one (.int .u8), .one (.int .i64)], [.one (.int .u8)], [.t 4],
 .seq (.reg [.op ⟨0, some 4, .mv (.c (.one (.int .u8 0))), none⟩])
 (.seq (.seq (.reg [.op ⟨0, some 7, .mv (.t 0), none⟩,
  .op ⟨1, some 8, .bin .eql (.t 7) (.c (.one (.int .u8 0))), none⟩])
 (.cond (.t 8) (.seq (.seq (.reg [.op ⟨0, some 9, .mv (.t 1), none⟩,
  .op ⟨1, some 10, .bin .eql (.t 9) (.c (.one (.int .i64 0))), none⟩])
 (.cond (.t 10) (.seq (.reg [.op ⟨0, some 4, .mv (.c (.one (.int .u8 1))), none⟩])
 (.ret)) (.skip)))
 (.seq (.reg [.op ⟨0, some 4, .mv (.c (.one (.int .u8 0))), none⟩])
 (.ret))) (.skip)))
 (.seq (.reg [.op ⟨0, some 5, .mv (.c (.one (.int .u8 1))), none⟩])
 (.seq (.seq (.reg [.op ⟨0, some 11, .mv (.t 1), none⟩,
  .op ⟨1, some 12, .bin .rem (.t 11) (.c (.one (.int .i64 255))), none⟩,
  .op ⟨2, some 13, .bin .add (.t 12) (.c (.one (.int .i64 255))), none⟩,
  .op ⟨3, some 14, .bin .rem (.t 13) (.c (.one (.int .i64 255))), none⟩,
  .op ⟨4, some 6, .mv (.t 14), none⟩])
 (.block 0 (.loop [(0, .one (.int .u8)), (5, .one (.int .u8)), (6, .one (.int .i64))] [(.exit 0, [(5, .one (.int .u8))])] (.seq (.seq (.reg [.op ⟨0, some 15, .mv (.t 6), none⟩,
  .op ⟨1, some 16, .bin .gtr (.t 15) (.c (.one (.int .i64 0))), none⟩])
 (.cond (.t 16) (.skip) (.exit 0)))
 (.seq (.block 1 (.seq (.scope [(.normal, [(5, .one (.int .u8))])] (.seq (.reg [.op ⟨0, some 19, .mv (.t 6), none⟩,
  .op ⟨1, some 20, .bin .and (.t 19) (.c (.one (.int .i64 1))), none⟩,
  .op ⟨2, some 21, .bin .eql (.t 20) (.c (.one (.int .i64 1))), none⟩])
 (.cond (.t 21) (.reg [.op ⟨0, some 22, .mv (.t 5), none⟩,
  .op ⟨1, some 23, .mv (.t 0), none⟩,
  .op ⟨2, some 24, .call 0 [(.t 22), (.t 23)], none⟩,
  .op ⟨3, some 5, .mv (.t 24), none⟩]) (.skip))))
 (.reg [.op ⟨0, some 25, .mv (.t 0), none⟩,
  .op ⟨1, some 26, .mv (.t 0), none⟩,
  .op ⟨2, some 27, .call 0 [(.t 25), (.t 26)], none⟩,
  .op ⟨3, some 0, .mv (.t 27), none⟩])))
 (.reg [.op ⟨0, some 17, .mv (.t 6), none⟩,
  .op ⟨1, some 18, .bin .shr (.t 17) (.c (.one (.int .u64 1))), none⟩,
  .op ⟨2, some 6, .mv (.t 18), none⟩]))))))
 (.seq (.reg [.op ⟨0, some 28, .mv (.t 5), none⟩,
  .op ⟨1, some 4, .mv (.t 28), none⟩])
 (.ret)))))⟩
noncomputable def gf_Pow.s1 (s1 : (Int × Int × Int × Unit)) (H2 : Heap) : Option (((Int × Int × Int × Unit) ⊕ (Int × Unit)) × Heap) :=
 cond (decide (0 < s1.2.2.1)) (
 (cond (decide ((bitsI .and .i64 s1.2.2.1 1) = 1)) (
 (gf_Mul s1.2.1 s1.1).bind fun (r3 : (Int × Unit)) =>
 some ((r3.1, ()), H2)) (
 some ((s1.2.1, ()), H2)) : Option ((Int × Unit) × Heap)).bind fun (p4 : (Int × Unit) × Heap) =>
 (gf_Mul s1.1 s1.1).bind fun (r5 : (Int × Unit)) =>
 some (Sum.inl (r5.1, p4.1.1, (Int.fdiv s1.2.2.1 (2 ^ (min (Int.toNat 1) (IntKind.bits .i64)))), ()), p4.2)) (
 some (Sum.inr (s1.2.1, ()), H2))
noncomputable def gf_Pow.on (x0 : Int) (x1 : Int) (H : Heap) : Option (Int × Unit) :=
 cond (decide (x0 = 0)) (
 cond (decide (x1 = 0)) (
 some (1, ())) (
 some (0, ()))) (
 (loopW (gf_Pow.s1) (x0, 1, (Int.tmod (IntKind.wrap .i64 ((Int.tmod x1 255) + 255)) 255), ()) H).bind fun (p6 : (Int × Unit) × Heap) =>
 some (p6.1.1, ()))
noncomputable def gf_Pow (x0 : Int) (x1 : Int) : Option (Int × Unit) := gf_Pow.on x0 x1 []
noncomputable def gf_Pow.c : Callee := .pure [.one (.int .u8), .one (.int .i64)] [.one (.int .u8)] (fun x => gf_Pow x.1 x.2.1)
noncomputable def gf_Pow.calls : Nat → Option Callee
  | 0 => some gf_Mul.c
  | _ => none
theorem gf_Pow.eq : evPure gf_Pow.calls gf_Pow.af = (fun x H => gf_Pow.on x.1 x.2.1 H) := by kernel_rfl

/-! ### tinderbox/gf.Root -/
def gf_Root.af : AFun := ⟨[.one (.int .i64)], [.one (.int .u8)], [.t 2],
 .seq (.reg [.op ⟨0, some 2, .mv (.c (.one (.int .u8 0))), none⟩])
 (.seq (.reg [.op ⟨0, some 3, .mv (.t 0), none⟩,
  .op ⟨1, some 4, .call 0 [(.c (.one (.int .u8 2))), (.t 3)], none⟩,
  .op ⟨2, some 2, .mv (.t 4), none⟩])
 (.ret))⟩
noncomputable def gf_Root.on (x0 : Int) (H : Heap) : Option (Int × Unit) :=
 (gf_Pow 2 x0).bind fun (r1 : (Int × Unit)) =>
 some (r1.1, ())
noncomputable def gf_Root (x0 : Int) : Option (Int × Unit) := gf_Root.on x0 []
noncomputable def gf_Root.c : Callee := .pure [.one (.int .i64)] [.one (.int .u8)] (fun x => gf_Root x.1)
noncomputable def gf_Root.calls : Nat → Option Callee
  | 0 => some gf_Pow.c
  | _ => none
theorem gf_Root.eq : evPure gf_Root.calls gf_Root.af = (fun x H => gf_Root.on x.1 H) := by kernel_rfl

/-! ### (tinderbox/gf.Poly).Mul -/
def gf_Poly_Mul.af : AFun := ⟨[.one (.sl 1), .one (.sl 1)], [.one (.sl 1)], [.t 4],
 .seq (.reg [.op ⟨0, some 4, .mv (.c (.one (.sl 1 (⟨none, 0, 0⟩)))), none⟩])
 (.seq (.reg [.op ⟨0, some 10, .mv (.t 0), none⟩,
  .op ⟨1, some 11, .len (.t 10), none⟩,
  .op ⟨2, some 12, .mv (.t 1), none⟩,
  .op ⟨3, some 13, .len (.t 12), none⟩,
  .op ⟨4, some 14, .bin .add (.t 11) (.t 13), none⟩,
  .op ⟨5, some 15, .mk 1 1 [.int .u8 0] (.t 14) (.t 14), none⟩,
  .op ⟨6, some 5, .mv (.t 15), none⟩])
 (.seq (.seq (.reg [.op ⟨0, some 16, .mv (.t 0), none⟩,
  .op ⟨1, some 17, .len (.t 16), none⟩,
  .op ⟨2, some 18, .mv (.c (.one (.int .i64 0))), none⟩])
 (.block 0 (.loop [(18, .one (.int .i64))] [(.exit 0, [])] (.seq (.reg [.op ⟨0, some 19, .bin .lss (.t 18) (.t 17), none⟩])
 (.seq (.cond (.t 19) (.skip) (.exit 0))
 (.seq (.block 1 (.seq (.reg [.op ⟨0, some 20, .mv (.t 18), none⟩,
  .op ⟨1, some 21, .idxa 1 (.t 16) (.t 18), none⟩,
  .op ⟨2, some 22, .load (.one (.int .u8)) (.t 21), none⟩,
  .op ⟨3, some 6, .mv (.t 20), none⟩,
  .op ⟨4, some 7, .mv (.t 22), none⟩])
 (.seq (.reg [.op ⟨0, some 23, .mv (.t 1), none⟩,
  .op ⟨1, some 24, .len (.t 23), none⟩,
  .op ⟨2, some 25, .mv (.c (.one (.int .i64 0))), none⟩])
 (.block 2 (.loop [(25, .one (.int .i64))] [(.exit 2, [])] (.seq (.reg [.op ⟨0, some 26, .bin .lss (.t 25) (.t 24), none⟩])
 (.seq (.cond (.t 26) (.skip) (.exit 2))
 (.seq (.block 3 (.seq (.reg [.op ⟨0, some 27, .mv (.t 25), none⟩,
  .op ⟨1, some 28, .idxa 1 (.t 23) (.t 25), none⟩,
  .op ⟨2, some 29, .load (.one (.int .u8)) (.t 28), none⟩,
  .op ⟨3, some 8, .mv (.t 27), none⟩,
  .op ⟨4, some 9, .mv (.t 29), none⟩])
 (.reg [.op ⟨0, some 30, .mv (.t 5), none⟩,
  .op ⟨1, some 31, .mv (.t 6), none⟩,
  .op ⟨2, some 32, .mv (.t 8), none⟩,
  .op ⟨3, some 33, .bin .add (.t 31) (.t 32), none⟩,
  .op ⟨4, some 34, .idxa 1 (.t 30) (.t 33), none⟩,
  .op ⟨5, some 35, .load (.one (.int .u8)) (.t 34), none⟩,
  .op ⟨6, some 36, .mv (.t 7), none⟩,
  .op ⟨7, some 37, .mv (.t 9), none⟩,
  .op ⟨8, some 38, .call 0 [(.t 36), (.t 37)], none⟩,
  .op ⟨9, some 39, .bin .xor (.t 35) (.t 38), none⟩,
  .op ⟨10, some 40, .idxa 1 (.t 30) (.t 33), none⟩,
  .op ⟨11, none, .store 1 (.t 40) (.t 39), none⟩])))
 (.reg [.op ⟨0, some 41, .bin .add (.t 25) (.c (.one (.int .i64 1))), none⟩,
  .op ⟨1, some 25, .mv (.t 41), none⟩])))))))))
 (.reg [.op ⟨0, some 42, .bin .add (.t 18) (.c (.one (.int .i64 1))), none⟩,
  .op ⟨1, some 18, .mv (.t 42), none⟩])))))))
 (.seq (.reg [.op ⟨0, some 43, .mv (.t 5), none⟩,
  .op ⟨1, some 44, .call 1 [(.t 43)], none⟩,
  .op ⟨2, some 4, .mv (.t 44), none⟩])
 (.ret))))⟩
noncomputable def gf_Poly_Mul.s1 (x1 : Sl) (p2 : (Sl × Heap)) (s3 : (Int × Unit)) (v6 : Int) (s7 : (Int × Unit)) (H8 : Heap) : Option (((Int × Unit) ⊕ (Unit)) × Heap) :=
 cond (decide (s7.1 < (x1.len : Int))) (
 (Sl.at 1 x1 s7.1).bind fun (a9 : (Nat × Nat)) =>
 (rdI .u8 H8 a9.1 a9.2).bind fun (v10 : Int) =>
 let n11 : Int := (IntKind.wrap .i64 (s3.1 + s7.1))
 (Sl.at 1 p2.1 n11).bind fun (a12 : (Nat × Nat)) =>
 (rdI .u8 H8 a12.1 a12.2).bind fun (v13 : Int) =>
 (gf_Mul v6 v10).bind fun (r14 : (Int × Unit)) =>
 (Sl.at 1 p2.1 n11).bind fun (a15 : (Nat × Nat)) =>
 (wr H8 a15.1 a15.2 [.int .u8 (bitsI .xor .u8 v13 r14.1)]).bind fun (H16 : Heap) =>
 some (Sum.inl ((IntKind.wrap .i64 (s7.1 + 1)), ()), H16)) (
 some (Sum.inr (()), H8))
noncomputable def gf_Poly_Mul.s2 (x0 : Sl) (x1 : Sl) (p2 : (Sl × Heap)) (s3 : (Int × Unit)) (H4 : Heap) : Option (((Int × Unit) ⊕ (Unit)) × Heap) :=
 cond (decide (s3.1 < (x0.len : Int))) (
 (Sl.at 1 x0 s3.1).bind fun (a5 : (Nat × Nat)) =>
 (rdI .u8 H4 a5.1 a5.2).bind fun (v6 : Int) =>
 (loopW (gf_Poly_Mul.s1 x1 p2 s3 v6) (0, ()) H4).bind fun (p17 : (Unit) × Heap) =>
 some (Sum.inl ((IntKind.wrap .i64 (s3.1 + 1)), ()), p17.2)) (
 some (Sum.inr (()), H4))
noncomputable def gf_Poly_Mul (x0 : Sl) (x1 : Sl) (H : Heap) : Option ((Sl × Unit) × Heap) :=
 let n1 : Int := (IntKind.wrap .i64 ((x0.len : Int) + (x1.len : Int)))
 (mkS H 1 [.int .u8 0] n1 n1).bind fun (p2 : (Sl × Heap)) =>
 (loopW (gf_Poly_Mul.s2 x0 x1 p2) (0, ()) p2.2).bind fun (p18 : (Unit) × Heap) =>
 (gf_Poly_Trim p2.1 p18.2).bind fun (r19 : ((Sl × Unit) × Heap)) =>
 some ((r19.1.1, ()), r19.2)
noncomputable def gf_Poly_Mul.c : Callee := .full [.one (.sl 1), .one (.sl 1)] [.one (.sl 1)] (fun x H => gf_Poly_Mul x.1 x.2.1 H)
noncomputable def gf_Poly_Mul.calls : Nat → Option Callee
  | 0 => some gf_Mul.c
  | 1 => some gf_Poly_Trim.c
  | _ => none
theorem gf_Poly_Mul.eq : evFull gf_Poly_Mul.calls gf_Poly_Mul.af = (fun x H => gf_Poly_Mul x.1 x.2.1 H) := by kernel_rfl

/-! ### tinderbox/gf.Inv -/
def gf_Inv.af : AFun := ⟨[.one (.int .u8)], [.one (.int .u8)], [.t 2],
 .seq (.reg [.op ⟨0, some 2, .mv (.c (.one (.int .u8 0))), none⟩])
 (.seq (.seq (.reg [.op ⟨0, some 3, .mv (.t 0), none⟩,
  .op ⟨1, some 4, .bin .eql (.t 3) (.c (.one (.int .u8 0))), none⟩])
 (.cond (.t 4) (.seq (.reg [.op ⟨0, some 2, .mv (.c (.one (.int .u8 0))), none⟩])
 (.ret)) (.skip)))
 (.seq (.reg [.op ⟨0, some 5, .mv (.t 0), none⟩,
  .op ⟨1, some 6, .call 0 [(.t 5), (.c (.one (.int .i64 (-1))))], none⟩,
  .op ⟨2, some 2, .mv (.t 6), none⟩])
 (.ret)))⟩
noncomputable def gf_Inv.on (x0 : Int) (H : Heap) : Option (Int × Unit) :=
 cond (decide (x0 = 0)) (
 some (0, ())) (
 (gf_Pow x0 (-1)).bind fun (r1 : (Int × Unit)) =>
 some (r1.1, ()))
noncomputable def gf_Inv (x0 : Int) : Option (Int × Unit) := gf_Inv.on x0 []
noncomputable def gf_Inv.c : Callee := .pure [.one (.int .u8)] [.one (.int .u8)] (fun x => gf_Inv x.1)
noncomputable def gf_Inv.calls : Nat → Option Callee
  | 0 => some gf_Pow.c
  | _ => none
theorem gf_Inv.eq : evPure gf_Inv.calls gf_Inv.af = (fun x H => gf_Inv.on x.1 H) := by kernel_rfl

/-! ### (tinderbox/gf.Poly).Times -/
def gf_Poly_Times.af : AFun := ⟨[.one (.sl 1), .one (.int .u8)], [.one (.sl 1)], [.t 4],
 .seq (.reg [.op ⟨0, some 4, .mv (.c (.one (.sl 1 (⟨none, 0, 0⟩)))), none⟩])
 (.seq (.reg [.op ⟨0, some 8, .mv (.t 0), none⟩,
  .op ⟨1, some 9, .len (.t 8), none⟩,
  .op ⟨2, some 10, .mk 1 1 [.int .u8 0] (.t 9) (.t 9), none⟩,
  .op ⟨3, some 5, .mv (.t 10), none⟩])
 (.seq (.seq (.reg [.op ⟨0, some 11, .mv (.t 0), none⟩,
  .op ⟨1, some 12, .len (.t 11), none⟩,
  .op ⟨2, some 13, .mv (.c (.one (.int .i64 0))), none⟩])
 (.block 0 (.loop [(13, .one (.int .i64))] [(.exit 0, [])] (.seq (.reg [.op ⟨0, some 14, .bin .lss (.t 13) (.t 12), none⟩])
 (.seq (.cond (.t 14) (.skip) (.exit 0))
 (.seq (.block 1 (.seq (.reg [.op ⟨0, some 15, .mv (.t 13), none⟩,
  .op ⟨1, some 16, .idxa 1 (.t 11) (.t 13), none⟩,
  .op ⟨2, some 17, .load (.one (.int .u8)) (.t 16), none⟩,
  .op ⟨3, some 6, .mv (.t 15), none⟩,
  .op ⟨4, some 7, .mv (.t 17), none⟩])
 (.reg [.op ⟨0, some 18, .mv (.t 5), none⟩,
  .op ⟨1, some 19, .mv (.t 6), none⟩,
  .op ⟨2, some 20, .mv (.t 1), none⟩,
  .op ⟨3, some 21, .mv (.t 7), none⟩,
  .op ⟨4, some 22, .call 0 [(.t 20), (.t 21)], none⟩,
  .op ⟨5, some 23, .idxa 1 (.t 18) (.t 19), none⟩,
  .op ⟨6, none, .store 1 (.t 23) (.t 22), none⟩])))
 (.reg [.op ⟨0, some 24, .bin .add (.t 13) (.c (.one (.int .i64 1))), none⟩,
  .op ⟨1, some 13, .mv (.t 24), none⟩])))))))
 (.seq (.reg [.op ⟨0, some 25, .mv (.t 5), none⟩,
  .op ⟨1, some 26, .call 1 [(.t 25)], none⟩,
  .op ⟨2, some 4, .mv (.t 26), none⟩])
 (.ret))))⟩
noncomputable def gf_Poly_Times.s1 (x0 : Sl) (x1 : Int) (p1 : (Sl × Heap)) (s2 : (Int × Unit)) (H3 : Heap) : Option (((Int × Unit) ⊕ (Unit)) × Heap) :=
 cond (decide (s2.1 < (x0.len : Int))) (
 (Sl.at 1 x0 s2.1).bind fun (a4 : (Nat × Nat)) =>
 (rdI .u8 H3 a4.1 a4.2).bind fun (v5 : Int) =>
 (gf_Mul x1 v5).bind fun (r6 : (Int × Unit)) =>
 (Sl.at 1 p1.1 s2.1).bind fun (a7 : (Nat × Nat)) =>
 (wr H3 a7.1 a7.2 [.int .u8 r6.1]).bind fun (H8 : Heap) =>
 some (Sum.inl ((IntKind.wrap .i64 (s2.1 + 1)), ()), H8)) (
 some (Sum.inr (()), H3))
noncomputable def gf_Poly_Times (x0 : Sl) (x1 : Int) (H : Heap) : Option ((Sl × Unit) × Heap) :=
 (mkS H 1 [.int .u8 0] (x0.len : Int) (x0.len : Int)).bind fun (p1 : (Sl × Heap)) =>
 (loopW (gf_Poly_Times.s1 x0 x1 p1) (0, ()) p1.2).bind fun (p9 : (Unit) × Heap) =>
 (gf_Poly_Trim p1.1 p9.2).bind fun (r10 : ((Sl × Unit) × Heap)) =>
 some ((r10.1.1, ()), r10.2)
noncomputable def gf_Poly_Times.c : Callee := .full [.one (.sl 1), .one (.int .u8)] [.one (.sl 1)] (fun x H => gf_Poly_Times x.1 x.2.1 H)
noncomputable def gf_Poly_Times.calls : Nat → Option Callee
  | 0 => some gf_Mul.c
  | 1 => some gf_Poly_Trim.c
  | _ => none
theorem gf_Poly_Times.eq : evFull gf_Poly_Times.calls gf_Poly_Times.af = (fun x H => gf_Poly_Times x.1 x.2.1 H) := by kernel_rfl

/-! ### (tinderbox/gf.Poly).Add -/
def gf_Poly_Add.af : AFun := ⟨[.one (.sl 1), .one (.sl 1)], [.one (.sl 1)], [.t 4],
 .seq (.reg [.op ⟨0, some 4, .mv (.c (.one (.sl 1 (⟨none, 0, 0⟩)))), none⟩])
 (.seq (.reg [.op ⟨0, some 8, .mv (.t 0), none⟩,
  .op ⟨1, some 9, .len (.t 8), none⟩,
  .op ⟨2, some 10, .mv (.t 1), none⟩,
  .op ⟨3, some 11, .len (.t 10), none⟩,
  .op ⟨4, some 12, .max [(.t 9), (.t 11)], none⟩,
  .op ⟨5, some 13, .mk 1 1 [.int .u8 0] (.t 12) (.t 12), none⟩,
  .op ⟨6, some 5, .mv (.t 13), none⟩])
 (.seq (.reg [.op ⟨0, some 14, .mv (.t 5), none⟩,
  .op ⟨1, some 15, .mv (.t 0), none⟩,
  .op ⟨2, some 16, .cpy 1 (.t 14) (.t 15), none⟩])
 (.seq (.seq (.reg [.op ⟨0, some 17, .mv (.t 1), none⟩,
  .op ⟨1, some 18, .len (.t 17), none⟩,
  .op ⟨2, some 19, .mv (.c (.one (.int .i64 0))), none⟩])
 (.block 0 (.loop [(19, .one (.int .i64))] [(.exit 0, [])] (.seq (.reg [.op ⟨0, some 20, .bin .lss (.t 19) (.t 18), none⟩])
 (.seq (.cond (.t 20) (.skip) (.exit 0))
 (.seq (.block 1 (.seq (.reg [.op ⟨0, some 21, .mv (.t 19), none⟩,
  .op ⟨1, some 22, .idxa 1 (.t 17) (.t 19), none⟩,
  .op ⟨2, some 23, .load (.one (.int .u8)) (.t 22), none⟩,
  .op ⟨3, some 6, .mv (.t 21), none⟩,
  .op ⟨4, some 7, .mv (.t 23), none⟩])
 (.reg [.op ⟨0, some 24, .mv (.t 5), none⟩,
  .op ⟨1, some 25, .mv (.t 6), none⟩,
  .op ⟨2, some 26, .idxa 1 (.t 24) (.t 25), none⟩,
  .op ⟨3, some 27, .load (.one (.int .u8)) (.t 26), none⟩,
  .op ⟨4, some 28, .mv (.t 7), none⟩,
  .op ⟨5, some 29, .bin .xor (.t 27) (.t 28), none⟩,
  .op ⟨6, some 30, .idxa 1 (.t 24) (.t 25), none⟩,
  .op ⟨7, none, .store 1 (.t 30) (.t 29), none⟩])))
 (.reg [.op ⟨0, some 31, .bin .add (.t 19) (.c (.one (.int .i64 1))), none⟩,
  .op ⟨1, some 19, .mv (.t 31), none⟩])))))))
 (.seq (.reg [.op ⟨0, some 32, .mv (.t 5), none⟩,
  .op ⟨1, some 33, .call 0 [(.t 32)], none⟩,
  .op ⟨2, some 4, .mv (.t 33), none⟩])
 (.ret)))))⟩
noncomputable def gf_Poly_Add.s1 (x1 : Sl) (p2 : (Sl × Heap)) (s5 : (Int × Unit)) (H6 : Heap) : Option (((Int × Unit) ⊕ (Unit)) × Heap) :=
 cond (decide (s5.1 < (x1.len : Int))) (
 (Sl.at 1 x1 s5.1).bind fun (a7 : (Nat × Nat)) =>
 (rdI .u8 H6 a7.1 a7.2).bind fun (v8 : Int) =>
 (Sl.at 1 p2.1 s5.1).bind fun (a9 : (Nat × Nat)) =>
 (rdI .u8 H6 a9.1 a9.2).bind fun (v10 : Int) =>
 (Sl.at 1 p2.1 s5.1).bind fun (a11 : (Nat × Nat)) =>
 (wr H6 a11.1 a11.2 [.int .u8 (bitsI .xor .u8 v10 v8)]).bind fun (H12 : Heap) =>
 some (Sum.inl ((IntKind.wrap .i64 (s5.1 + 1)), ()), H12)) (
 some (Sum.inr (()), H6))
noncomputable def gf_Poly_Add (x0 : Sl) (x1 : Sl) (H : Heap) : Option ((Sl × Unit) × Heap) :=
 let n1 : Int := (if (x1.len : Int) > (x0.len : Int) then (x1.len : Int) else (x0.len : Int))
 (mkS H 1 [.int .u8 0] n1 n1).bind fun (p2 : (Sl × Heap)) =>
 (slRow p2.2 1 ⟨x0.p, min x0.len p2.1.len, x0.cap⟩).bind fun (cs3 : (List C)) =>
 (cpyS p2.2 1 p2.1 (min x0.len p2.1.len) cs3).bind fun (p4 : (Int × Heap)) =>
 (loopW (gf_Poly_Add.s1 x1 p2) (0, ()) p4.2).bind fun (p13 : (Unit) × Heap) =>
 (gf_Poly_Trim p2.1 p13.2).bind fun (r14 : ((Sl × Unit) × Heap)) =>
 some ((r14.1.1, ()), r14.2)
noncomputable def gf_Poly_Add.c : Callee := .full [.one (.sl 1), .one (.sl 1)] [.one (.sl 1)] (fun x H => gf_Poly_Add x.1 x.2.1 H)
noncomputable def gf_Poly_Add.calls : Nat → Option Callee
  | 0 => some gf_Poly_Trim.c
  | _ => none
theorem gf_Poly_Add.eq : evFull gf_Poly_Add.calls gf_Poly_Add.af = (fun x H => gf_Poly_Add x.1 x.2.1 H) := by kernel_rfl

/-! ### (tinderbox/gf.Poly).Mod -/
def gf_Poly_Mod.af : AFun := ⟨[.one (.sl 1), .one (.sl 1)], [.one (.sl 1)], [.t 4],
 .seq (.reg [.op ⟨0, some 4, .mv (.c (.one (.sl 1 (⟨none, 0, 0⟩)))), none⟩])
 (.seq (.reg [.op ⟨0, some 8, .mv (.t 1), none⟩,
  .op ⟨1, some 9, .call 0 [(.t 8)], none⟩,
  .op ⟨2, some 1, .mv (.t 9), none⟩])
 (.seq (.reg [.op ⟨0, some 10, .bslice 1 0 [] [], none⟩,
  .op ⟨1, some 11, .mv (.t 0), none⟩,
  .op ⟨2, some 12, .app 1 1 (.t 10) (.t 11), none⟩,
  .op ⟨3, some 13, .call 0 [(.t 12)], none⟩,
  .op ⟨4, some 5, .mv (.t 13), none⟩])
 (.seq (.seq (.reg [.op ⟨0, some 14, .mv (.t 1), none⟩,
  .op ⟨1, some 15, .len (.t 14), none⟩,
  .op ⟨2, some 16, .bin .eql (.t 15) (.c (.one (.int .i64 0))), none⟩])
 (.cond (.t 16) (.seq (.reg [.op ⟨0, some 17, .mv (.t 5), none⟩,
  .op ⟨1, some 4, .mv (.t 17), none⟩])
 (.ret)) (.skip)))
 (.seq (.reg [.op ⟨0, some 18, .mv (.t 1), none⟩,
  .op ⟨1, some 19, .mv (.t 1), none⟩,
  .op ⟨2, some 20, .len (.t 19), none⟩,
  .op ⟨3, some 21, .bin .sub (.t 20) (.c (.one (.int .i64 1))), none⟩,
  .op ⟨4, some 22, .idxa 1 (.t 18) (.t 21), none⟩,
  .op ⟨5, some 23, .load (.one (.int .u8)) (.t 22), none⟩,
  .op ⟨6, some 24, .call 1 [(.t 23)], none⟩,
  .op ⟨7, some 6, .mv (.t 24), none⟩])
 (.seq (.block 0 (.loop [(5, .one (.sl 1))] [(.exit 0, [(5, .one (.sl 1))])] (.seq (.seq (.reg [.op ⟨0, some 25, .mv (.t 5), none⟩,
  .op ⟨1, some 26, .len (.t 25), none⟩,
  .op ⟨2, some 27, .mv (.t 1), none⟩,
  .op ⟨3, some 28, .len (.t 27), none⟩,
  .op ⟨4, some 29, .bin .geq (.t 26) (.t 28), none⟩])
 (.cond (.t 29) (.skip) (.exit 0)))
 (.block 1 (.seq (.reg [.op ⟨0, some 30, .mv (.t 5), none⟩,
  .op ⟨1, some 31, .mv (.t 5), none⟩,
  .op ⟨2, some 32, .len (.t 31), none⟩,
  .op ⟨3, some 33, .bin .sub (.t 32) (.c (.one (.int .i64 1))), none⟩,
  .op ⟨4, some 34, .idxa 1 (.t 30) (.t 33), none⟩,
  .op ⟨5, some 35, .load (.one (.int .u8)) (.t 34), none⟩,
  .op ⟨6, some 36, .mv (.t 6), none⟩,
  .op ⟨7, some 37, .call 2 [(.t 35), (.t 36)], none⟩,
  .op ⟨8, some 7, .mv (.t 37), none⟩])
 (.reg [.op ⟨0, some 38, .mv (.t 5), none⟩,
  .op ⟨1, some 39, .mv (.t 1), none⟩,
  .op ⟨2, some 40, .mv (.t 7), none⟩,
  .op ⟨3, some 41, .call 3 [(.t 39), (.t 40)], none⟩,
  .op ⟨4, some 42, .mv (.t 5), none⟩,
  .op ⟨5, some 43, .len (.t 42), none⟩,
  .op ⟨6, some 44, .mv (.t 1), none⟩,
  .op ⟨7, some 45, .len (.t 44), none⟩,
  .op ⟨8, some 46, .bin .sub (.t 43) (.t 45), none⟩,
  .op ⟨9, some 47, .call 4 [(.t 41), (.t 46)], none⟩,
  .op ⟨10, some 48, .call 5 [(.t 38), (.t 47)], none⟩,
  .op ⟨11, some 5, .mv (.t 48), none⟩]))))))
 (.seq (.reg [.op ⟨0, some 49, .mv (.t 5), none⟩,
  .op ⟨1, some 4, .mv (.t 49), none⟩])
 (.ret)))))))⟩
noncomputable def gf_Poly_Mod.s1 (r1 : ((Sl × Unit) × Heap)) (r8 : (Int × Unit)) (s9 : (Sl × Unit)) (H10 : Heap) : Option (((Sl × Unit) ⊕ (Sl × Unit)) × Heap) :=
 cond (decide ((r1.1.1.len : Int) ≤ (s9.1.len : Int))) (
 (Sl.at 1 s9.1 (IntKind.wrap .i64 ((s9.1.len : Int) - 1))).bind fun (a11 : (Nat × Nat)) =>
 (rdI .u8 H10 a11.1 a11.2).bind fun (v12 : Int) =>
 (gf_Mul v12 r8.1).bind fun (r13 : (Int × Unit)) =>
 (gf_Poly_Times r1.1.1 r13.1 H10).bind fun (r14 : ((Sl × Unit) × Heap)) =>
 (gf_Poly_Shift r14.1.1 (IntKind.wrap .i64 ((s9.1.len : Int) - (r1.1.1.len : Int))) r14.2).bind fun (r15 : ((Sl × Unit) × Heap)) =>
 (gf_Poly_Add s9.1 r15.1.1 r15.2).bind fun (r16 : ((Sl × Unit) × Heap)) =>
 some (Sum.inl (r16.1.1, ()), r16.2)) (
 some (Sum.inr (s9.1, ()), H10))
noncomputable def gf_Poly_Mod (x0 : Sl) (x1 : Sl) (H : Heap) : Option ((Sl × Unit) × Heap) :=
 (gf_Poly_Trim x1 H).bind fun (r1 : ((Sl × Unit) × Heap)) =>
 let H2 : Heap := r1.2 ++ [Blk.cells [] .exact]
 (slRow H2 1 x0).bind fun (cs3 : (List C)) =>
 (appS H2 1 1 (⟨some (r1.2.length, 0), 0, 0⟩) x0.len cs3).bind fun (p4 : (Sl × Heap)) =>
 (gf_Poly_Trim p4.1 p4.2).bind fun (r5 : ((Sl × Unit) × Heap)) =>
 cond (decide ((r1.1.1.len : Int) = 0)) (
 some ((r5.1.1, ()), r5.2)) (
 (Sl.at 1 r1.1.1 (IntKind.wrap .i64 ((r1.1.1.len : Int) - 1))).bind fun (a6 : (Nat × Nat)) =>
 (rdI .u8 r5.2 a6.1 a6.2).bind fun (v7 : Int) =>
 (gf_Inv v7).bind fun (r8 : (Int × Unit)) =>
 (loopW (gf_Poly_Mod.s1 r1 r8) (r5.1.1, ()) r5.2).bind fun (p17 : (Sl × Unit) × Heap) =>
 some ((p17.1.1, ()), p17.2))
noncomputable def gf_Poly_Mod.c : Callee := .full [.one (.sl 1), .one (.sl 1)] [.one (.sl 1)] (fun x H => gf_Poly_Mod x.1 x.2.1 H)
noncomputable def gf_Poly_Mod.calls : Nat → Option Callee
  | 0 => some gf_Poly_Trim.c
  | 1 => some gf_Inv.c
  | 2 => some gf_Mul.c
  | 3 => some gf_Poly_Times.c
  | 4 => some gf_Poly_Shift.c
  | 5 => some gf_Poly_Add.c
  | _ => none
theorem gf_Poly_Mod.eq : evFull gf_Poly_Mod.calls gf_Poly_Mod.af = (fun x H => gf_Poly_Mod x.1 x.2.1 H) := by kernel_rfl

/-! ### (tinderbox/gf.Poly).At -/
def gf_Poly_At.af : AFun := ⟨[.one (.sl 1), .one (.int .u8)], [.one (.int .u8)], [.t 4],
 .seq (.reg [.op ⟨0, some 4, .mv (.c (.one (.int .u8 0))), none⟩])
 (.seq (.reg [.op ⟨0, some 5, .mv (.c (.one (.int .u8 0))), none⟩])
 (.seq (.seq (.reg [.op ⟨0, some 7, .mv (.t 0), none⟩,
  .op ⟨1, some 8, .len (.t 7), none⟩,
  .op ⟨2, some 9, .bin .sub (.t 8) (.c (.one (.int .i64 1))), none⟩,
  .op ⟨3, some 6, .mv (.t 9), none⟩])
 (.block 0 (.loop [(5, .one (.int .u8)), (6, .one (.int .i64))] [(.exit 0, [(5, .one (.int .u8))])] (.seq (.seq (.reg [.op ⟨0, some 10, .mv (.t 6), none⟩,
  .op ⟨1, some 11, .bin .geq (.t 10) (.c (.one (.int .i64 0))), none⟩])
 (.cond (.t 11) (.skip) (.exit 0)))
 (.seq (.block 1 (.reg [.op ⟨0, some 14, .mv (.t 5), none⟩,
  .op ⟨1, some 15, .mv (.t 1), none⟩,
  .op ⟨2, some 16, .call 0 [(.t 14), (.t 15)], none⟩,
  .op ⟨3, some 17, .mv (.t 0), none⟩,
  .op ⟨4, some 18, .mv (.t 6), none⟩,
  .op ⟨5, some 19, .idxa 1 (.t 17) (.t 18), none⟩,
  .op ⟨6, some 20, .load (.one (.int .u8)) (.t 19), none⟩,
  .op ⟨7, some 21, .bin .xor (.t 16) (.t 20), none⟩,
  .op ⟨8, some 5, .mv (.t 21), none⟩]))
 (.reg [.op ⟨0, some 12, .mv (.t 6), none⟩,
  .op ⟨1, some 13, .bin .sub (.t 12) (.c (.one (.int .i64 1))), none⟩,
  .op ⟨2, some 6, .mv (.t 13), none⟩]))))))
 (.seq (.reg [.op ⟨0, some 22, .mv (.t 5), none⟩,
  .op ⟨1, some 4, .mv (.t 22), none⟩])
 (.ret))))⟩
noncomputable def gf_Poly_At.s1 (x0 : Sl) (x1 : Int) (s1 : (Int × Int × Unit)) (H2 : Heap) : Option (((Int × Int × Unit) ⊕ (Int × Unit)) × Heap) :=
 cond (decide (0 ≤ s1.2.1)) (
 (gf_Mul s1.1 x1).bind fun (r3 : (Int × Unit)) =>
 (Sl.at 1 x0 s1.2.1).bind fun (a4 : (Nat × Nat)) =>
 (rdI .u8 H2 a4.1 a4.2).bind fun (v5 : Int) =>
 some (Sum.inl ((bitsI .xor .u8 r3.1 v5), (IntKind.wrap .i64 (s1.2.1 - 1)), ()), H2)) (
 some (Sum.inr (s1.1, ()), H2))
noncomputable def gf_Poly_At (x0 : Sl) (x1 : Int) (H : Heap) : Option ((Int × Unit) × Heap) :=
 (loopW (gf_Poly_At.s1 x0 x1) (0, (IntKind.wrap .i64 ((x0.len : Int) - 1)), ()) H).bind fun (p6 : (Int × Unit) × Heap) =>
 some ((p6.1.1, ()), p6.2)
noncomputable def gf_Poly_At.c : Callee := .full [.one (.sl 1), .one (.int .u8)] [.one (.int .u8)] (fun x H => gf_Poly_At x.1 x.2.1 H)
noncomputable def gf_Poly_At.calls : Nat → Option Callee
  | 0 => some gf_Mul.c
  | _ => none
theorem gf_Poly_At.eq : evFull gf_Poly_At.calls gf_Poly_At.af = (fun x H => gf_Poly_At x.1 x.2.1 H) := by kernel_rfl

/-! ### (tinderbox/gf.Poly).Cut -/
def gf_Poly_Cut.af : AFun := ⟨[.one (.sl 1), .one (.int .i64)], [.one (.sl 1)], [.t 4],
 .seq (.reg [.op ⟨0, some 4, .mv (.c (.one (.sl 1 (⟨none, 0, 0⟩)))), none⟩])
 (.seq (.reg [.op ⟨0, some 5, .bslice 1 0 [] [], none⟩,
  .op ⟨1, some 6, .mv (.t 0), none⟩,
  .op ⟨2, some 7, .mv (.t 1), none⟩,
  .op ⟨3, some 8, .mv (.t 0), none⟩,
  .op ⟨4, some 9, .len (.t 8), none⟩,
  .op ⟨5, some 10, .min [(.t 7), (.t 9)], none⟩,
  .op ⟨6, some 11, .max [(.c (.one (.int .i64 0))), (.t 10)], none⟩,
  .op ⟨7, some 12, .slc 1 (.t 6) none (some (.t 11)) none, none⟩,
  .op ⟨8, some 13, .app 1 1 (.t 5) (.t 12), none⟩,
  .op ⟨9, some 14, .call 0 [(.t 13)], none⟩,
  .op ⟨10, some 4, .mv (.t 14), none⟩])
 (.ret))⟩
noncomputable def gf_Poly_Cut (x0 : Sl) (x1 : Int) (H : Heap) : Option ((Sl × Unit) × Heap) :=
 let H1 : Heap := H ++ [Blk.cells [] .exact]
 (Sl.sub 1 x0 0 (if (if (x0.len : Int) < x1 then (x0.len : Int) else x1) > 0 then (if (x0.len : Int) < x1 then (x0.len : Int) else x1) else 0) (x0.cap : Int)).bind fun (t2 : Sl) =>
 (slRow H1 1 t2).bind fun (cs3 : (List C)) =>
 (appS H1 1 1 (⟨some (H.length, 0), 0, 0⟩) t2.len cs3).bind fun (p4 : (Sl × Heap)) =>
 (gf_Poly_Trim p4.1 p4.2).bind fun (r5 : ((Sl × Unit) × Heap)) =>
 some ((r5.1.1, ()), r5.2)
noncomputable def gf_Poly_Cut.c : Callee := .full [.one (.sl 1), .one (.int .i64)] [.one (.sl 1)] (fun x H => gf_Poly_Cut x.1 x.2.1 H)
noncomputable def gf_Poly_Cut.calls : Nat → Option Callee
  | 0 => some gf_Poly_Trim.c
  | _ => none
theorem gf_Poly_Cut.eq : evFull gf_Poly_Cut.calls gf_Poly_Cut.af = (fun x H => gf_Poly_Cut x.1 x.2.1 H) := by kernel_rfl

/-! ### (tinderbox/gf.Poly).Degree -/
def gf_Poly_Degree.af : AFun := ⟨[.one (.sl 1)], [.one (.int .i64)], [.t 2],
 .seq (.reg [.op ⟨0, some 2, .mv (.c (.one (.int .i64 0))), none⟩])
 (.seq (.reg [.op ⟨0, some 4, .mv (.t 0), none⟩,
  .op ⟨1, some 5, .len (.t 4), none⟩,
  .op ⟨2, some 3, .mv (.t 5), none⟩])
 (.seq (.block 0 (.loop [(3, .one (.int .i64))] [(.exit 0, [(3, .one (.int .i64))])] (.seq (.seq (.reg [.op ⟨0, some 6, .mv (.t 3), none⟩,
  .op ⟨1, some 7, .bin .gtr (.t 6) (.c (.one (.int .i64 0))), none⟩,
  .op ⟨2, some 8, .mv (.t 7), none⟩,
  .op ⟨3, some 9, .mv (.t 0), some (8, true)⟩,
  .op ⟨4, some 10, .mv (.t 3), some (8, true)⟩,
  .op ⟨5, some 11, .bin .sub (.t 10) (.c (.one (.int .i64 1))), some (8, true)⟩,
  .op ⟨6, some 12, .idxa 1 (.t 9) (.t 11), some (8, true)⟩,
  .op ⟨7, some 13, .load (.one (.int .u8)) (.t 12), some (8, true)⟩,
  .op ⟨8, some 14, .bin .eql (.t 13) (.c (.one (.int .u8 0))), some (8, true)⟩,
  .op ⟨9, some 15, .pick (.t 8) (.t 14) (.c (.one (.bool false))), none⟩])
 (.cond (.t 15) (.skip) (.exit 0)))
 (.block 1 (.reg [.op ⟨0, some 16, .mv (.t 3), none⟩,
  .op ⟨1, some 17, .bin .sub (.t 16) (.c (.one (.int .i64 1))), none⟩,
  .op ⟨2, some 3, .mv (.t 17), none⟩])))))
 (.seq (.reg [.op ⟨0, some 18, .mv (.t 3), none⟩,
  .op ⟨1, some 19, .bin .sub (.t 18) (.c (.one (.int .i64 1))), none⟩,
  .op ⟨2, some 2, .mv (.t 19), none⟩])
 (.ret))))⟩
noncomputable def gf_Poly_Degree.s1 (x0 : Sl) (s1 : (Int × Unit)) (H2 : Heap) : Option (((Int × Unit) ⊕ (Int × Unit)) × Heap) :=
 cond (decide (0 < s1.1)) (
 (Sl.at 1 x0 (IntKind.wrap .i64 (s1.1 - 1))).bind fun (a3 : (Nat × Nat)) =>
 (rdI .u8 H2 a3.1 a3.2).bind fun (v4 : Int) =>
 cond (decide (v4 = 0)) (
 some (Sum.inl ((IntKind.wrap .i64 (s1.1 - 1)), ()), H2)) (
 some (Sum.inr (s1.1, ()), H2))) (
 some (Sum.inr (s1.1, ()), H2))
noncomputable def gf_Poly_Degree (x0 : Sl) (H : Heap) : Option ((Int × Unit) × Heap) :=
 (loopW (gf_Poly_Degree.s1 x0) ((x0.len : Int), ()) H).bind fun (p5 : (Int × Unit) × Heap) =>
 some (((IntKind.wrap .i64 (p5.1.1 - 1)), ()), p5.2)
noncomputable def gf_Poly_Degree.c : Callee := .full [.one (.sl 1)] [.one (.int .i64)] (fun x H => gf_Poly_Degree x.1 H)
noncomputable def gf_Poly_Degree.calls : Nat → Option Callee
  | _ => none
theorem gf_Poly_Degree.eq : evFull gf_Poly_Degree.calls gf_Poly_Degree.af = (fun x H => gf_Poly_Degree x.1 H) := by kernel_rfl

/-! ### (tinderbox/gf.Poly).Slope -/
def gf_Poly_Slope.af : AFun := ⟨[.one (.sl 1)], [.one (.sl 1)], [.t 2],
 .seq (.reg [.op ⟨0, some 2, .mv (.c (.one (.sl 1 (⟨none, 0, 0⟩)))), none⟩])
 (.seq (.reg [.op ⟨0, some 3, .mv (.c (.one (.sl 1 (⟨none, 0, 0⟩)))), none⟩])
 (.seq (.seq (.reg [.op ⟨0, some 4, .mv (.c (.one (.int .i64 1))), none⟩])
 (.block 0 (.loop [(3, .one (.sl 1)), (4, .one (.int .i64))] [(.exit 0, [(3, .one (.sl 1))])] (.seq (.seq (.reg [.op ⟨0, some 6, .mv (.t 4), none⟩,
  .op ⟨1, some 7, .mv (.t 0), none⟩,
  .op ⟨2, some 8, .len (.t 7), none⟩,
  .op ⟨3, some 9, .bin .lss (.t 6) (.t 8), none⟩])
 (.cond (.t 9) (.skip) (.exit 0)))
 (.seq (.block 1 (.seq (.reg [.op ⟨0, some 5, .mv (.c (.one (.int .u8 0))), none⟩])
 (.seq (.seq (.reg [.op ⟨0, some 12, .mv (.t 4), none⟩,
  .op ⟨1, some 13, .bin .rem (.t 12) (.c (.one (.int .i64 2))), none⟩,
  .op ⟨2, some 14, .bin .eql (.t 13) (.c (.one (.int .i64 1))), none⟩])
 (.cond (.t 14) (.reg [.op ⟨0, some 15, .mv (.t 0), none⟩,
  .op ⟨1, some 16, .mv (.t 4), none⟩,
  .op ⟨2, some 17, .idxa 1 (.t 15) (.t 16), none⟩,
  .op ⟨3, some 18, .load (.one (.int .u8)) (.t 17), none⟩,
  .op ⟨4, some 5, .mv (.t 18), none⟩]) (.skip)))
 (.reg [.op ⟨0, some 19, .mv (.t 3), none⟩,
  .op ⟨1, some 20, .mv (.t 5), none⟩,
  .op ⟨2, some 21, .bslice 1 1 [.int .u8 0] [(0, 1, (.t 20))], none⟩,
  .op ⟨3, some 22, .app 1 1 (.t 19) (.t 21), none⟩,
  .op ⟨4, some 3, .mv (.t 22), none⟩]))))
 (.reg [.op ⟨0, some 10, .mv (.t 4), none⟩,
  .op ⟨1, some 11, .bin .add (.t 10) (.c (.one (.int .i64 1))), none⟩,
  .op ⟨2, some 4, .mv (.t 11), none⟩]))))))
 (.seq (.reg [.op ⟨0, some 23, .mv (.t 3), none⟩,
  .op ⟨1, some 24, .call 0 [(.t 23)], none⟩,
  .op ⟨2, some 2, .mv (.t 24), none⟩])
 (.ret))))⟩
noncomputable def gf_Poly_Slope.s1 (x0 : Sl) (s1 : (Sl × Int × Unit)) (H2 : Heap) : Option (((Sl × Int × Unit) ⊕ (Sl × Unit)) × Heap) :=
 cond (decide (s1.2.1 < (x0.len : Int))) (
 cond (decide ((Int.tmod s1.2.1 2) = 1)) (
 (Sl.at 1 x0 s1.2.1).bind fun (a3 : (Nat × Nat)) =>
 (rdI .u8 H2 a3.1 a3.2).bind fun (v4 : Int) =>
 let H5 : Heap := H2 ++ [Blk.cells [.int .u8 v4] .exact]
 (slRow H5 1 (⟨some (H2.length, 0), 1, 1⟩)).bind fun (cs6 : (List C)) =>
 (appS H5 1 1 s1.1 1 cs6).bind fun (p7 : (Sl × Heap)) =>
 some (Sum.inl (p7.1, (IntKind.wrap .i64 (s1.2.1 + 1)), ()), p7.2)) (
 let H8 : Heap := H2 ++ [Blk.cells [.int .u8 0] .exact]
 (slRow H8 1 (⟨some (H2.length, 0), 1, 1⟩)).bind fun (cs9 : (List C)) =>
 (appS H8 1 1 s1.1 1 cs9).bind fun (p10 : (Sl × Heap)) =>
 some (Sum.inl (p10.1, (IntKind.wrap .i64 (s1.2.1 + 1)), ()), p10.2))) (
 some (Sum.inr (s1.1, ()), H2))
noncomputable def gf_Poly_Slope (x0 : Sl) (H : Heap) : Option ((Sl × Unit) × Heap) :=
 (loopW (gf_Poly_Slope.s1 x0) (⟨none, 0, 0⟩, 1, ()) H).bind fun (p11 : (Sl × Unit) × Heap) =>
 (gf_Poly_Trim p11.1.1 p11.2).bind fun (r12 : ((Sl × Unit) × Heap)) =>
 some ((r12.1.1, ()), r12.2)
noncomputable def gf_Poly_Slope.c : Callee := .full [.one (.sl 1)] [.one (.sl 1)] (fun x H => gf_Poly_Slope x.1 H)
noncomputable def gf_Poly_Slope.calls : Nat → Option Callee
  | 0 => some gf_Poly_Trim.c
  | _ => none
theorem gf_Poly_Slope.eq : evFull gf_Poly_Slope.calls gf_Poly_Slope.af = (fun x H => gf_Poly_Slope x.1 H) := by kernel_rfl
end Ev
