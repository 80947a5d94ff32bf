/- What the functions of the package Rs compute: abstract code, and a function of plain Lean for each; the kernel checks that they are the same. Written by gen2.py. -/
import Derived.Test.YtpebaginkkbnpaaGreatEvCore
import Derived.Test.YtpebaginkkbnpaaGreatGGf
import Derived.Test.YtpebaginkkbnpaaGreatGSlices
import Derived.KernelRfl
set_option linter.unusedVariables false
set_option maxRecDepth 100000
namespace Ev
open Go (IntKind BinOp UnOp)

/-! ### tinderbox/rs.Check -/
def rs_Check.af : AFun := ⟨[.one (.int .i64), .one (.int .i64)], [.one .bool], [.t 4],
 .seq (.reg [.op ⟨0, some 4, .mv (.c (.one (.bool false))), none⟩])
 (.seq (.reg [.op ⟨0, some 5, .mv (.t 1), none⟩,
  .op ⟨1, some 6, .bin .geq (.t 5) (.c (.one (.int .i64 1))), none⟩,
  .op ⟨2, some 7, .mv (.t 6), none⟩,
  .op ⟨3, some 8, .mv (.t 1), some (7, true)⟩,
  .op ⟨4, some 9, .bin .leq (.t 8) (.c (.one (.int .i64 32))), some (7, true)⟩,
  .op ⟨5, some 10, .pick (.t 7) (.t 9) (.c (.one (.bool false))), none⟩,
  .op ⟨6, some 11, .mv (.t 10), none⟩,
  .op ⟨7, some 12, .mv (.t 0), some (11, true)⟩,
  .op ⟨8, some 13, .mv (.t 1), some (11, true)⟩,
  .op ⟨9, some 14, .bin .gtr (.t 12) (.t 13), some (11, true)⟩,
  .op ⟨10, some 15, .pick (.t 11) (.t 14) (.c (.one (.bool false))), none⟩,
  .op ⟨11, some 16, .mv (.t 15), none⟩,
  .op ⟨12, some 17, .mv (.t 0), some (16, true)⟩,
  .op ⟨13, some 18, .bin .leq (.t 17) (.c (.one (.int .i64 255))), some (16, true)⟩,
  .op ⟨14, some 19, .pick (.t 16) (.t 18) (.c (.one (.bool false))), none⟩,
  .op ⟨15, some 4, .mv (.t 19), none⟩])
 (.ret))⟩
noncomputable def rs_Check.on (x0 : Int) (x1 : Int) (H : Heap) : Option (Bool × Unit) :=
 cond (decide (1 ≤ x1)) (
 cond (decide (x1 ≤ 32)) (
 cond (decide (x1 < x0)) (
 some ((decide (x0 ≤ 255)), ())) (
 some (false, ()))) (
 some (false, ()))) (
 some (false, ()))
noncomputable def rs_Check (x0 : Int) (x1 : Int) : Option (Bool × Unit) := rs_Check.on x0 x1 []
noncomputable def rs_Check.c : Callee := .pure [.one (.int .i64), .one (.int .i64)] [.one .bool] (fun x => rs_Check x.1 x.2.1)
noncomputable def rs_Check.calls : Nat → Option Callee
  | _ => none
theorem rs_Check.eq : evPure rs_Check.calls rs_Check.af = (fun x H => rs_Check.on x.1 x.2.1 H) := by kernel_rfl

/-! ### tinderbox/rs.turned -/
def rs_turned.af : AFun := ⟨[.one .str], [.one (.sl 1)], [.t 2],
 .seq (.reg [.op ⟨0, some 2, .mv (.c (.one (.sl 1 (⟨none, 0, 0⟩)))), none⟩])
 (.seq (.reg [.op ⟨0, some 4, .mv (.t 0), none⟩,
  .op ⟨1, some 5, .s2b (.t 4), none⟩,
  .op ⟨2, some 3, .mv (.t 5), none⟩])
 (.seq (.reg [.op ⟨0, some 6, .mv (.t 3), none⟩,
  .op ⟨1, some 7, .call 0 [(.t 6)], none⟩])
 (.seq (.reg [.op ⟨0, some 8, .mv (.t 3), none⟩,
  .op ⟨1, some 2, .mv (.t 8), none⟩])
 (.ret))))⟩
noncomputable def rs_turned (x0 : Bytes) (H : Heap) : Option ((Sl × Unit) × Heap) :=
 let H1 : Heap := H ++ [Blk.cells (cellsOf x0) .loose]
 (slices_Reverse_gf_Poly_byte (⟨some (H.length, 0), (List.length (x0 : Bytes)), (List.length (x0 : Bytes))⟩) H1).bind fun (r2 : ((Unit) × Heap)) =>
 some ((⟨some (H.length, 0), (List.length (x0 : Bytes)), (List.length (x0 : Bytes))⟩, ()), r2.2)
noncomputable def rs_turned.c : Callee := .full [.one .str] [.one (.sl 1)] (fun x H => rs_turned x.1 H)
noncomputable def rs_turned.calls : Nat → Option Callee
  | 0 => some slices_Reverse_gf_Poly_byte.c
  | _ => none
theorem rs_turned.eq : evFull rs_turned.calls rs_turned.af = (fun x H => rs_turned x.1 H) := by kernel_rfl

/-! ### tinderbox/rs.divisor -/
def rs_divisor.af : AFun := ⟨[.one (.int .i64)], [.one (.sl 1)], [.t 2],
 .seq (.reg [.op ⟨0, some 2, .mv (.c (.one (.sl 1 (⟨none, 0, 0⟩)))), none⟩])
 (.seq (.reg [.op ⟨0, some 5, .bslice 1 1 [.int .u8 0] [(0, 1, (.c (.one (.int .u8 1))))], none⟩,
  .op ⟨1, some 3, .mv (.t 5), none⟩])
 (.seq (.seq (.reg [.op ⟨0, some 6, .mv (.t 0), none⟩,
  .op ⟨1, some 7, .mv (.c (.one (.int .i64 0))), none⟩])
 (.block 0 (.loop [(3, .one (.sl 1)), (7, .one (.int .i64))] [(.exit 0, [(3, .one (.sl 1))])] (.seq (.reg [.op ⟨0, some 8, .bin .lss (.t 7) (.t 6), none⟩])
 (.seq (.cond (.t 8) (.skip) (.exit 0))
 (.seq (.block 1 (.seq (.reg [.op ⟨0, some 9, .mv (.t 7), none⟩,
  .op ⟨1, some 4, .mv (.t 9), none⟩])
 (.reg [.op ⟨0, some 10, .mv (.t 3), none⟩,
  .op ⟨1, some 11, .mv (.t 4), none⟩,
  .op ⟨2, some 12, .call 0 [(.t 11)], none⟩,
  .op ⟨3, some 13, .bslice 1 2 [.int .u8 0, .int .u8 0] [(0, 1, (.t 12)), (1, 1, (.c (.one (.int .u8 1))))], none⟩,
  .op ⟨4, some 14, .call 1 [(.t 10), (.t 13)], none⟩,
  .op ⟨5, some 3, .mv (.t 14), none⟩])))
 (.reg [.op ⟨0, some 15, .bin .add (.t 7) (.c (.one (.int .i64 1))), none⟩,
  .op ⟨1, some 7, .mv (.t 15), none⟩])))))))
 (.seq (.reg [.op ⟨0, some 16, .mv (.t 3), none⟩,
  .op ⟨1, some 2, .mv (.t 16), none⟩])
 (.ret))))⟩
noncomputable def rs_divisor.s1 (x0 : Int) (s2 : (Sl × Int × Unit)) (H3 : Heap) : Option (((Sl × Int × Unit) ⊕ (Sl × Unit)) × Heap) :=
 cond (decide (s2.2.1 < x0)) (
 (gf_Root s2.2.1).bind fun (r4 : (Int × Unit)) =>
 let H5 : Heap := H3 ++ [Blk.cells [.int .u8 r4.1, .int .u8 1] .exact]
 (gf_Poly_Mul s2.1 (⟨some (H3.length, 0), 2, 2⟩) H5).bind fun (r6 : ((Sl × Unit) × Heap)) =>
 some (Sum.inl (r6.1.1, (IntKind.wrap .i64 (s2.2.1 + 1)), ()), r6.2)) (
 some (Sum.inr (s2.1, ()), H3))
noncomputable def rs_divisor (x0 : Int) (H : Heap) : Option ((Sl × Unit) × Heap) :=
 let H1 : Heap := H ++ [Blk.cells [.int .u8 1] .exact]
 (loopW (rs_divisor.s1 x0) (⟨some (H.length, 0), 1, 1⟩, 0, ()) H1).bind fun (p7 : (Sl × Unit) × Heap) =>
 some ((p7.1.1, ()), p7.2)
noncomputable def rs_divisor.c : Callee := .full [.one (.int .i64)] [.one (.sl 1)] (fun x H => rs_divisor x.1 H)
noncomputable def rs_divisor.calls : Nat → Option Callee
  | 0 => some gf_Root.c
  | 1 => some gf_Poly_Mul.c
  | _ => none
theorem rs_divisor.eq : evFull rs_divisor.calls rs_divisor.af = (fun x H => rs_divisor x.1 H) := by kernel_rfl

/-! ### tinderbox/rs.Encode -/
def rs_Encode.af : AFun := ⟨[.one .str, .one (.int .i64)], [.one .str, .one (.int .i64)], [.t 4, .t 5],
 .seq (.reg [.op ⟨0, some 4, .mv (.c (.one (.str []))), none⟩,
  .op ⟨1, some 5, .mv (.c (.one (.int .i64 0))), none⟩])
 (.seq (.seq (.reg [.op ⟨0, some 10, .mv (.t 0), none⟩,
  .op ⟨1, some 11, .lens (.t 10), none⟩,
  .op ⟨2, some 12, .mv (.t 1), none⟩,
  .op ⟨3, some 13, .bin .add (.t 11) (.t 12), none⟩,
  .op ⟨4, some 14, .mv (.t 1), none⟩,
  .op ⟨5, some 15, .call 0 [(.t 13), (.t 14)], none⟩,
  .op ⟨6, some 16, .un .not (.t 15), none⟩])
 (.cond (.t 16) (.seq (.reg [.op ⟨0, some 4, .mv (.c (.one (.str []))), none⟩,
  .op ⟨1, some 5, .mv (.c (.one (.int .i64 1))), none⟩])
 (.ret)) (.skip)))
 (.seq (.reg [.op ⟨0, some 17, .mv (.t 0), none⟩,
  .op ⟨1, some 18, .call 1 [(.t 17)], none⟩,
  .op ⟨2, some 19, .mv (.t 1), none⟩,
  .op ⟨3, some 20, .call 2 [(.t 18), (.t 19)], none⟩,
  .op ⟨4, some 21, .mv (.t 1), none⟩,
  .op ⟨5, some 22, .call 3 [(.t 21)], none⟩,
  .op ⟨6, some 23, .call 4 [(.t 20), (.t 22)], none⟩,
  .op ⟨7, some 6, .mv (.t 23), none⟩])
 (.seq (.reg [.op ⟨0, some 24, .mv (.t 1), none⟩,
  .op ⟨1, some 25, .mk 1 1 [.int .u8 0] (.t 24) (.t 24), none⟩,
  .op ⟨2, some 7, .mv (.t 25), none⟩])
 (.seq (.seq (.reg [.op ⟨0, some 26, .mv (.t 6), none⟩,
  .op ⟨1, some 27, .len (.t 26), none⟩,
  .op ⟨2, some 28, .mv (.c (.one (.int .i64 0))), none⟩])
 (.block 0 (.loop [(28, .one (.int .i64))] [(.exit 0, [])] (.seq (.reg [.op ⟨0, some 29, .bin .lss (.t 28) (.t 27), none⟩])
 (.seq (.cond (.t 29) (.skip) (.exit 0))
 (.seq (.block 1 (.seq (.reg [.op ⟨0, some 30, .mv (.t 28), none⟩,
  .op ⟨1, some 31, .idxa 1 (.t 26) (.t 28), none⟩,
  .op ⟨2, some 32, .load (.one (.int .u8)) (.t 31), none⟩,
  .op ⟨3, some 8, .mv (.t 30), none⟩,
  .op ⟨4, some 9, .mv (.t 32), none⟩])
 (.reg [.op ⟨0, some 33, .mv (.t 7), none⟩,
  .op ⟨1, some 34, .mv (.t 1), none⟩,
  .op ⟨2, some 35, .bin .sub (.t 34) (.c (.one (.int .i64 1))), none⟩,
  .op ⟨3, some 36, .mv (.t 8), none⟩,
  .op ⟨4, some 37, .bin .sub (.t 35) (.t 36), none⟩,
  .op ⟨5, some 38, .mv (.t 9), none⟩,
  .op ⟨6, some 39, .idxa 1 (.t 33) (.t 37), none⟩,
  .op ⟨7, none, .store 1 (.t 39) (.t 38), none⟩])))
 (.reg [.op ⟨0, some 40, .bin .add (.t 28) (.c (.one (.int .i64 1))), none⟩,
  .op ⟨1, some 28, .mv (.t 40), none⟩])))))))
 (.seq (.reg [.op ⟨0, some 41, .mv (.t 0), none⟩,
  .op ⟨1, some 42, .mv (.t 7), none⟩,
  .op ⟨2, some 43, .b2s (.t 42), none⟩,
  .op ⟨3, some 44, .bin .add (.t 41) (.t 43), none⟩,
  .op ⟨4, some 4, .mv (.t 44), none⟩,
  .op ⟨5, some 5, .mv (.c (.one (.int .i64 0))), none⟩])
 (.ret))))))⟩
noncomputable def rs_Encode.s1 (x1 : Int) (r5 : ((Sl × Unit) × Heap)) (p6 : (Sl × Heap)) (s7 : (Int × Unit)) (H8 : Heap) : Option (((Int × Unit) ⊕ (Unit)) × Heap) :=
 cond (decide (s7.1 < (r5.1.1.len : Int))) (
 (Sl.at 1 r5.1.1 s7.1).bind fun (a9 : (Nat × Nat)) =>
 (rdI .u8 H8 a9.1 a9.2).bind fun (v10 : Int) =>
 (Sl.at 1 p6.1 (IntKind.wrap .i64 ((IntKind.wrap .i64 (x1 - 1)) - s7.1))).bind fun (a11 : (Nat × Nat)) =>
 (wr H8 a11.1 a11.2 [.int .u8 v10]).bind fun (H12 : Heap) =>
 some (Sum.inl ((IntKind.wrap .i64 (s7.1 + 1)), ()), H12)) (
 some (Sum.inr (()), H8))
noncomputable def rs_Encode.on (x0 : Bytes) (x1 : Int) (H : Heap) : Option (Bytes × Int × Unit) :=
 (rs_Check (IntKind.wrap .i64 ((List.length (x0 : Bytes) : Int) + x1)) x1).bind fun (r1 : (Bool × Unit)) =>
 cond (!r1.1) (
 some ([], 1, ())) (
 (rs_turned x0 H).bind fun (r2 : ((Sl × Unit) × Heap)) =>
 (gf_Poly_Shift r2.1.1 x1 r2.2).bind fun (r3 : ((Sl × Unit) × Heap)) =>
 (rs_divisor x1 r3.2).bind fun (r4 : ((Sl × Unit) × Heap)) =>
 (gf_Poly_Mod r3.1.1 r4.1.1 r4.2).bind fun (r5 : ((Sl × Unit) × Heap)) =>
 (mkS r5.2 1 [.int .u8 0] x1 x1).bind fun (p6 : (Sl × Heap)) =>
 (loopW (rs_Encode.s1 x1 r5 p6) (0, ()) p6.2).bind fun (p13 : (Unit) × Heap) =>
 (strOf p13.2 p6.1).bind fun (s14 : Bytes) =>
 (catS x0 s14).bind fun (s15 : Bytes) =>
 some (s15, 0, ()))
noncomputable def rs_Encode (x0 : Bytes) (x1 : Int) : Option (Bytes × Int × Unit) := rs_Encode.on x0 x1 []
noncomputable def rs_Encode.c : Callee := .pure [.one .str, .one (.int .i64)] [.one .str, .one (.int .i64)] (fun x => rs_Encode x.1 x.2.1)
noncomputable def rs_Encode.calls : Nat → Option Callee
  | 0 => some rs_Check.c
  | 1 => some rs_turned.c
  | 2 => some gf_Poly_Shift.c
  | 3 => some rs_divisor.c
  | 4 => some gf_Poly_Mod.c
  | _ => none
theorem rs_Encode.eq : evPure rs_Encode.calls rs_Encode.af = (fun x H => rs_Encode.on x.1 x.2.1 H) := by kernel_rfl

/-! ### tinderbox/rs.lostOf -/
def rs_lostOf.af : AFun := ⟨[.one (.sl 1), .one (.int .i64), .one (.int .i64)], [.one (.sl 1), .one .bool], [.t 6, .t 7],
 .seq (.reg [.op ⟨0, some 6, .mv (.c (.one (.sl 1 (⟨none, 0, 0⟩)))), none⟩,
  .op ⟨1, some 7, .mv (.c (.one (.bool false))), none⟩])
 (.seq (.reg [.op ⟨0, some 8, .mv (.c (.one (.sl 1 (⟨none, 0, 0⟩)))), none⟩])
 (.seq (.seq (.reg [.op ⟨0, some 11, .mv (.t 0), none⟩,
  .op ⟨1, some 12, .len (.t 11), none⟩,
  .op ⟨2, some 13, .mv (.c (.one (.int .i64 0))), none⟩])
 (.block 0 (.loop [(8, .one (.sl 1)), (13, .one (.int .i64))] [(.exit 0, [(8, .one (.sl 1))]), (.ret, [(6, .one (.sl 1)), (7, .one .bool)])] (.seq (.reg [.op ⟨0, some 14, .bin .lss (.t 13) (.t 12), none⟩])
 (.seq (.cond (.t 14) (.skip) (.exit 0))
 (.seq (.block 1 (.seq (.reg [.op ⟨0, some 15, .idxa 1 (.t 11) (.t 13), none⟩,
  .op ⟨1, some 16, .load (.one (.int .i64)) (.t 15), none⟩,
  .op ⟨2, some 10, .mv (.t 16), none⟩])
 (.seq (.seq (.reg [.op ⟨0, some 17, .mv (.t 10), none⟩,
  .op ⟨1, some 18, .bin .lss (.t 17) (.c (.one (.int .i64 0))), none⟩,
  .op ⟨2, some 19, .mv (.t 18), none⟩,
  .op ⟨3, some 20, .mv (.t 10), some (19, false)⟩,
  .op ⟨4, some 21, .mv (.t 1), some (19, false)⟩,
  .op ⟨5, some 22, .bin .geq (.t 20) (.t 21), some (19, false)⟩,
  .op ⟨6, some 23, .pick (.t 19) (.c (.one (.bool true))) (.t 22), none⟩])
 (.cond (.t 23) (.seq (.reg [.op ⟨0, some 6, .mv (.c (.one (.sl 1 (⟨none, 0, 0⟩)))), none⟩,
  .op ⟨1, some 7, .mv (.c (.one (.bool false))), none⟩])
 (.ret)) (.skip)))
 (.reg [.op ⟨0, some 24, .mv (.t 8), none⟩,
  .op ⟨1, some 25, .mv (.t 1), none⟩,
  .op ⟨2, some 26, .bin .sub (.t 25) (.c (.one (.int .i64 1))), none⟩,
  .op ⟨3, some 27, .mv (.t 10), none⟩,
  .op ⟨4, some 28, .bin .sub (.t 26) (.t 27), none⟩,
  .op ⟨5, some 29, .bslice 1 1 [.int .i64 0] [(0, 1, (.t 28))], none⟩,
  .op ⟨6, some 30, .app 1 8 (.t 24) (.t 29), none⟩,
  .op ⟨7, some 8, .mv (.t 30), none⟩]))))
 (.reg [.op ⟨0, some 31, .bin .add (.t 13) (.c (.one (.int .i64 1))), none⟩,
  .op ⟨1, some 13, .mv (.t 31), none⟩])))))))
 (.seq (.reg [.op ⟨0, some 32, .mv (.t 8), none⟩,
  .op ⟨1, some 33, .call 0 [(.t 32)], none⟩])
 (.seq (.reg [.op ⟨0, some 34, .mv (.t 8), none⟩,
  .op ⟨1, some 35, .call 1 [(.t 34)], none⟩,
  .op ⟨2, some 8, .mv (.t 35), none⟩])
 (.seq (.reg [.op ⟨0, some 36, .mv (.t 8), none⟩,
  .op ⟨1, some 37, .mv (.t 8), none⟩,
  .op ⟨2, some 38, .len (.t 37), none⟩,
  .op ⟨3, some 39, .mv (.t 2), none⟩,
  .op ⟨4, some 40, .bin .leq (.t 38) (.t 39), none⟩,
  .op ⟨5, some 6, .mv (.t 36), none⟩,
  .op ⟨6, some 7, .mv (.t 40), none⟩])
 (.ret))))))⟩
noncomputable def rs_lostOf.s1 (x0 : Sl) (x1 : Int) (s1 : (Sl × Int × Unit)) (H2 : Heap) : Option (((Sl × Int × Unit) ⊕ ((Sl × Unit) ⊕ (Sl × Bool × Unit))) × Heap) :=
 cond (decide (s1.2.1 < (x0.len : Int))) (
 (Sl.at 1 x0 s1.2.1).bind fun (a3 : (Nat × Nat)) =>
 (rdI .i64 H2 a3.1 a3.2).bind fun (v4 : Int) =>
 cond (decide (v4 < 0)) (
 some (Sum.inr (Sum.inr (⟨none, 0, 0⟩, false, ())), H2)) (
 cond (decide (x1 ≤ v4)) (
 some (Sum.inr (Sum.inr (⟨none, 0, 0⟩, false, ())), H2)) (
 let H5 : Heap := H2 ++ [Blk.cells [.int .i64 (IntKind.wrap .i64 ((IntKind.wrap .i64 (x1 - 1)) - v4))] .exact]
 (slRow H5 1 (⟨some (H2.length, 0), 1, 1⟩)).bind fun (cs6 : (List C)) =>
 (appS H5 1 8 s1.1 1 cs6).bind fun (p7 : (Sl × Heap)) =>
 some (Sum.inl (p7.1, (IntKind.wrap .i64 (s1.2.1 + 1)), ()), p7.2)))) (
 some (Sum.inr (Sum.inl (s1.1, ())), H2))
noncomputable def rs_lostOf (x0 : Sl) (x1 : Int) (x2 : Int) (H : Heap) : Option ((Sl × Bool × Unit) × Heap) :=
 (loopW (rs_lostOf.s1 x0 x1) (⟨none, 0, 0⟩, 0, ()) H).bind fun (p8 : ((Sl × Unit) ⊕ (Sl × Bool × Unit)) × Heap) =>
 Sum.elim (fun (y9 : (Sl × Unit)) =>
 (slices_Sort_int_int y9.1 p8.2).bind fun (r10 : ((Unit) × Heap)) =>
 (slices_Compact_int_int y9.1 r10.2).bind fun (r11 : ((Sl × Unit) × Heap)) =>
 some ((r11.1.1, (decide ((r11.1.1.len : Int) ≤ x2)), ()), r11.2)) (fun (z12 : (Sl × Bool × Unit)) =>
 some ((z12.1, z12.2.1, ()), p8.2)) p8.1
noncomputable def rs_lostOf.c : Callee := .full [.one (.sl 1), .one (.int .i64), .one (.int .i64)] [.one (.sl 1), .one .bool] (fun x H => rs_lostOf x.1 x.2.1 x.2.2.1 H)
noncomputable def rs_lostOf.calls : Nat → Option Callee
  | 0 => some slices_Sort_int_int.c
  | 1 => some slices_Compact_int_int.c
  | _ => none
theorem rs_lostOf.eq : evFull rs_lostOf.calls rs_lostOf.af = (fun x H => rs_lostOf x.1 x.2.1 x.2.2.1 H) := by kernel_rfl

/-! ### tinderbox/rs.Signs -/
def rs_Signs.af : AFun := ⟨[.one .str, .one (.int .i64)], [.one (.sl 1)], [.t 4],
 .seq (.reg [.op ⟨0, some 4, .mv (.c (.one (.sl 1 (⟨none, 0, 0⟩)))), none⟩])
 (.seq (.reg [.op ⟨0, some 8, .mv (.t 0), none⟩,
  .op ⟨1, some 9, .call 0 [(.t 8)], none⟩,
  .op ⟨2, some 5, .mv (.t 9), none⟩])
 (.seq (.reg [.op ⟨0, some 6, .mv (.c (.one (.sl 1 (⟨none, 0, 0⟩)))), none⟩])
 (.seq (.seq (.reg [.op ⟨0, some 10, .mv (.t 1), none⟩,
  .op ⟨1, some 11, .max [(.t 10), (.c (.one (.int .i64 0)))], none⟩,
  .op ⟨2, some 12, .mv (.c (.one (.int .i64 0))), none⟩])
 (.block 0 (.loop [(6, .one (.sl 1)), (12, .one (.int .i64))] [(.exit 0, [(6, .one (.sl 1))])] (.seq (.reg [.op ⟨0, some 13, .bin .lss (.t 12) (.t 11), none⟩])
 (.seq (.cond (.t 13) (.skip) (.exit 0))
 (.seq (.block 1 (.seq (.reg [.op ⟨0, some 14, .mv (.t 12), none⟩,
  .op ⟨1, some 7, .mv (.t 14), none⟩])
 (.reg [.op ⟨0, some 15, .mv (.t 6), none⟩,
  .op ⟨1, some 16, .mv (.t 5), none⟩,
  .op ⟨2, some 17, .mv (.t 7), none⟩,
  .op ⟨3, some 18, .call 1 [(.t 17)], none⟩,
  .op ⟨4, some 19, .call 2 [(.t 16), (.t 18)], none⟩,
  .op ⟨5, some 20, .bslice 1 1 [.int .u8 0] [(0, 1, (.t 19))], none⟩,
  .op ⟨6, some 21, .app 1 1 (.t 15) (.t 20), none⟩,
  .op ⟨7, some 6, .mv (.t 21), none⟩])))
 (.reg [.op ⟨0, some 22, .bin .add (.t 12) (.c (.one (.int .i64 1))), none⟩,
  .op ⟨1, some 12, .mv (.t 22), none⟩])))))))
 (.seq (.reg [.op ⟨0, some 23, .mv (.t 6), none⟩,
  .op ⟨1, some 4, .mv (.t 23), none⟩])
 (.ret)))))⟩
noncomputable def rs_Signs.s1 (x1 : Int) (r1 : ((Sl × Unit) × Heap)) (s2 : (Sl × Int × Unit)) (H3 : Heap) : Option (((Sl × Int × Unit) ⊕ (Sl × Unit)) × Heap) :=
 cond (decide (s2.2.1 < (if 0 > x1 then 0 else x1))) (
 (gf_Root s2.2.1).bind fun (r4 : (Int × Unit)) =>
 (gf_Poly_At r1.1.1 r4.1 H3).bind fun (r5 : ((Int × Unit) × Heap)) =>
 let H6 : Heap := r5.2 ++ [Blk.cells [.int .u8 r5.1.1] .exact]
 (slRow H6 1 (⟨some (r5.2.length, 0), 1, 1⟩)).bind fun (cs7 : (List C)) =>
 (appS H6 1 1 s2.1 1 cs7).bind fun (p8 : (Sl × Heap)) =>
 some (Sum.inl (p8.1, (IntKind.wrap .i64 (s2.2.1 + 1)), ()), p8.2)) (
 some (Sum.inr (s2.1, ()), H3))
noncomputable def rs_Signs (x0 : Bytes) (x1 : Int) (H : Heap) : Option ((Sl × Unit) × Heap) :=
 (rs_turned x0 H).bind fun (r1 : ((Sl × Unit) × Heap)) =>
 (loopW (rs_Signs.s1 x1 r1) (⟨none, 0, 0⟩, 0, ()) r1.2).bind fun (p9 : (Sl × Unit) × Heap) =>
 some ((p9.1.1, ()), p9.2)
noncomputable def rs_Signs.c : Callee := .full [.one .str, .one (.int .i64)] [.one (.sl 1)] (fun x H => rs_Signs x.1 x.2.1 H)
noncomputable def rs_Signs.calls : Nat → Option Callee
  | 0 => some rs_turned.c
  | 1 => some gf_Root.c
  | 2 => some gf_Poly_At.c
  | _ => none
theorem rs_Signs.eq : evFull rs_Signs.calls rs_Signs.af = (fun x H => rs_Signs x.1 x.2.1 H) := by kernel_rfl

/-! ### tinderbox/rs.Right$1 -/
def rs_Right_1.af : AFun := ⟨[.one (.int .u8)], [.one .bool], [.t 2],
 .seq (.reg [.op ⟨0, some 2, .mv (.c (.one (.bool false))), none⟩])
 (.seq (.reg [.op ⟨0, some 3, .mv (.t 0), none⟩,
  .op ⟨1, some 4, .bin .neq (.t 3) (.c (.one (.int .u8 0))), none⟩,
  .op ⟨2, some 2, .mv (.t 4), none⟩])
 (.ret))⟩
noncomputable def rs_Right_1.on (x0 : Int) (H : Heap) : Option (Bool × Unit) :=
 some ((!decide (x0 = 0)), ())
noncomputable def rs_Right_1 (x0 : Int) : Option (Bool × Unit) := rs_Right_1.on x0 []
noncomputable def rs_Right_1.c : Callee := .pure [.one (.int .u8)] [.one .bool] (fun x => rs_Right_1 x.1)
noncomputable def rs_Right_1.calls : Nat → Option Callee
  | _ => none
theorem rs_Right_1.eq : evPure rs_Right_1.calls rs_Right_1.af = (fun x H => rs_Right_1.on x.1 H) := by kernel_rfl

/-! ### slices.IndexFunc[[]byte,byte].of.rs_Right_1 -/
def slices_IndexFunc_byte_byte_of_rs_Right_1.af : AFun := ⟨[.one (.sl 1), .one (.fn 97)], [.one (.int .i64)], [.t 4],
 .seq (.reg [.op ⟨0, some 4, .mv (.c (.one (.int .i64 0))), none⟩])
 (.seq (.seq (.reg [.op ⟨0, some 6, .mv (.t 0), none⟩,
  .op ⟨1, some 7, .len (.t 6), none⟩,
  .op ⟨2, some 8, .mv (.c (.one (.int .i64 0))), none⟩])
 (.block 0 (.loop [(8, .one (.int .i64))] [(.exit 0, []), (.ret, [(4, .one (.int .i64))])] (.seq (.reg [.op ⟨0, some 9, .bin .lss (.t 8) (.t 7), none⟩])
 (.seq (.cond (.t 9) (.skip) (.exit 0))
 (.seq (.block 1 (.seq (.reg [.op ⟨0, some 10, .mv (.t 8), none⟩,
  .op ⟨1, some 5, .mv (.t 10), none⟩])
 (.seq (.reg [.op ⟨0, some 11, .mv (.t 1), none⟩,
  .op ⟨1, some 12, .mv (.t 0), none⟩,
  .op ⟨2, some 13, .mv (.t 5), none⟩,
  .op ⟨3, some 14, .idxa 1 (.t 12) (.t 13), none⟩,
  .op ⟨4, some 15, .load (.one (.int .u8)) (.t 14), none⟩,
  .op ⟨5, some 16, .callv 97 (.t 11) 0 [(.t 15)], none⟩])
 (.cond (.t 16) (.seq (.reg [.op ⟨0, some 17, .mv (.t 5), none⟩,
  .op ⟨1, some 4, .mv (.t 17), none⟩])
 (.ret)) (.skip)))))
 (.reg [.op ⟨0, some 18, .bin .add (.t 8) (.c (.one (.int .i64 1))), none⟩,
  .op ⟨1, some 8, .mv (.t 18), none⟩])))))))
 (.seq (.reg [.op ⟨0, some 4, .mv (.c (.one (.int .i64 (-1)))), none⟩])
 (.ret)))⟩
noncomputable def slices_IndexFunc_byte_byte_of_rs_Right_1.s1 (x0 : Sl) (s1 : (Int × Unit)) (H2 : Heap) : Option (((Int × Unit) ⊕ ((Unit) ⊕ (Int × Unit))) × Heap) :=
 cond (decide (s1.1 < (x0.len : Int))) (
 (Sl.at 1 x0 s1.1).bind fun (a3 : (Nat × Nat)) =>
 (rdI .u8 H2 a3.1 a3.2).bind fun (v4 : Int) =>
 (rs_Right_1 v4).bind fun (r5 : (Bool × Unit)) =>
 cond r5.1 (
 some (Sum.inr (Sum.inr (s1.1, ())), H2)) (
 some (Sum.inl ((IntKind.wrap .i64 (s1.1 + 1)), ()), H2))) (
 some (Sum.inr (Sum.inl (())), H2))
noncomputable def slices_IndexFunc_byte_byte_of_rs_Right_1 (x0 : Sl) (x1 : Unit) (H : Heap) : Option ((Int × Unit) × Heap) :=
 (loopW (slices_IndexFunc_byte_byte_of_rs_Right_1.s1 x0) (0, ()) H).bind fun (p6 : ((Unit) ⊕ (Int × Unit)) × Heap) =>
 Sum.elim (fun (y7 : (Unit)) =>
 some (((-1), ()), p6.2)) (fun (z8 : (Int × Unit)) =>
 some ((z8.1, ()), p6.2)) p6.1
noncomputable def slices_IndexFunc_byte_byte_of_rs_Right_1.c : Callee := .full [.one (.sl 1), .one (.fn 97)] [.one (.int .i64)] (fun x H => slices_IndexFunc_byte_byte_of_rs_Right_1 x.1 x.2.1 H)
noncomputable def slices_IndexFunc_byte_byte_of_rs_Right_1.calls : Nat → Option Callee
  | 0 => some rs_Right_1.c
  | _ => none
theorem slices_IndexFunc_byte_byte_of_rs_Right_1.eq : evFull slices_IndexFunc_byte_byte_of_rs_Right_1.calls slices_IndexFunc_byte_byte_of_rs_Right_1.af = (fun x H => slices_IndexFunc_byte_byte_of_rs_Right_1 x.1 x.2.1 H) := by kernel_rfl

/-! ### slices.ContainsFunc[[]byte,byte].of.rs_Right_1 -/
def slices_ContainsFunc_byte_byte_of_rs_Right_1.af : AFun := ⟨[.one (.sl 1), .one (.fn 97)], [.one .bool], [.t 4],
 .seq (.reg [.op ⟨0, some 4, .mv (.c (.one (.bool false))), none⟩])
 (.seq (.reg [.op ⟨0, some 5, .mv (.t 0), none⟩,
  .op ⟨1, some 6, .mv (.t 1), none⟩,
  .op ⟨2, some 7, .call 0 [(.t 5), (.t 6)], none⟩,
  .op ⟨3, some 8, .bin .geq (.t 7) (.c (.one (.int .i64 0))), none⟩,
  .op ⟨4, some 4, .mv (.t 8), none⟩])
 (.ret))⟩
noncomputable def slices_ContainsFunc_byte_byte_of_rs_Right_1 (x0 : Sl) (x1 : Unit) (H : Heap) : Option ((Bool × Unit) × Heap) :=
 (slices_IndexFunc_byte_byte_of_rs_Right_1 x0 () H).bind fun (r1 : ((Int × Unit) × Heap)) =>
 some (((decide (0 ≤ r1.1.1)), ()), r1.2)
noncomputable def slices_ContainsFunc_byte_byte_of_rs_Right_1.c : Callee := .full [.one (.sl 1), .one (.fn 97)] [.one .bool] (fun x H => slices_ContainsFunc_byte_byte_of_rs_Right_1 x.1 x.2.1 H)
noncomputable def slices_ContainsFunc_byte_byte_of_rs_Right_1.calls : Nat → Option Callee
  | 0 => some slices_IndexFunc_byte_byte_of_rs_Right_1.c
  | _ => none
theorem slices_ContainsFunc_byte_byte_of_rs_Right_1.eq : evFull slices_ContainsFunc_byte_byte_of_rs_Right_1.calls slices_ContainsFunc_byte_byte_of_rs_Right_1.af = (fun x H => slices_ContainsFunc_byte_byte_of_rs_Right_1 x.1 x.2.1 H) := by kernel_rfl

/-! ### tinderbox/rs.Right -/
def rs_Right.af : AFun := ⟨[.one .str, .one (.int .i64)], [.one .bool], [.t 4],
 .seq (.reg [.op ⟨0, some 4, .mv (.c (.one (.bool false))), none⟩])
 (.seq (.reg [.op ⟨0, some 5, .mv (.t 0), none⟩,
  .op ⟨1, some 6, .lens (.t 5), none⟩,
  .op ⟨2, some 7, .mv (.t 1), none⟩,
  .op ⟨3, some 8, .call 0 [(.t 6), (.t 7)], none⟩,
  .op ⟨4, some 9, .mv (.t 8), none⟩,
  .op ⟨5, some 10, .mv (.t 0), some (9, true)⟩,
  .op ⟨6, some 11, .mv (.t 1), some (9, true)⟩,
  .op ⟨7, some 12, .call 1 [(.t 10), (.t 11)], some (9, true)⟩,
  .op ⟨8, some 13, .call 2 [(.t 12), (.c (.one (.fn 97)))], some (9, true)⟩,
  .op ⟨9, some 14, .un .not (.t 13), some (9, true)⟩,
  .op ⟨10, some 15, .pick (.t 9) (.t 14) (.c (.one (.bool false))), none⟩,
  .op ⟨11, some 4, .mv (.t 15), none⟩])
 (.ret))⟩
noncomputable def rs_Right.on (x0 : Bytes) (x1 : Int) (H : Heap) : Option (Bool × Unit) :=
 (rs_Check (List.length (x0 : Bytes) : Int) x1).bind fun (r1 : (Bool × Unit)) =>
 cond r1.1 (
 (rs_Signs x0 x1 H).bind fun (r2 : ((Sl × Unit) × Heap)) =>
 (slices_ContainsFunc_byte_byte_of_rs_Right_1 r2.1.1 () r2.2).bind fun (r3 : ((Bool × Unit) × Heap)) =>
 some ((!r3.1.1), ())) (
 some (false, ()))
noncomputable def rs_Right (x0 : Bytes) (x1 : Int) : Option (Bool × Unit) := rs_Right.on x0 x1 []
noncomputable def rs_Right.c : Callee := .pure [.one .str, .one (.int .i64)] [.one .bool] (fun x => rs_Right x.1 x.2.1)
noncomputable def rs_Right.calls : Nat → Option Callee
  | 0 => some rs_Check.c
  | 1 => some rs_Signs.c
  | 2 => some slices_ContainsFunc_byte_byte_of_rs_Right_1.c
  | _ => none
theorem rs_Right.eq : evPure rs_Right.calls rs_Right.af = (fun x H => rs_Right.on x.1 x.2.1 H) := by kernel_rfl

/-! ### tinderbox/rs.places -/
def rs_places.af : AFun := ⟨[.one (.sl 1)], [.one (.sl 1)], [.t 2],
 .seq (.reg [.op ⟨0, some 2, .mv (.c (.one (.sl 1 (⟨none, 0, 0⟩)))), none⟩])
 (.seq (.reg [.op ⟨0, some 6, .bslice 1 1 [.int .u8 0] [(0, 1, (.c (.one (.int .u8 1))))], none⟩,
  .op ⟨1, some 3, .mv (.t 6), none⟩])
 (.seq (.seq (.reg [.op ⟨0, some 7, .mv (.t 0), none⟩,
  .op ⟨1, some 8, .len (.t 7), none⟩,
  .op ⟨2, some 9, .mv (.c (.one (.int .i64 0))), none⟩])
 (.block 0 (.loop [(3, .one (.sl 1)), (9, .one (.int .i64))] [(.exit 0, [(3, .one (.sl 1))])] (.seq (.reg [.op ⟨0, some 10, .bin .lss (.t 9) (.t 8), none⟩])
 (.seq (.cond (.t 10) (.skip) (.exit 0))
 (.seq (.block 1 (.seq (.reg [.op ⟨0, some 11, .idxa 1 (.t 7) (.t 9), none⟩,
  .op ⟨1, some 12, .load (.one (.int .i64)) (.t 11), none⟩,
  .op ⟨2, some 5, .mv (.t 12), none⟩])
 (.reg [.op ⟨0, some 13, .mv (.t 3), none⟩,
  .op ⟨1, some 14, .mv (.t 5), none⟩,
  .op ⟨2, some 15, .call 0 [(.t 14)], none⟩,
  .op ⟨3, some 16, .bslice 1 2 [.int .u8 0, .int .u8 0] [(0, 1, (.c (.one (.int .u8 1)))), (1, 1, (.t 15))], none⟩,
  .op ⟨4, some 17, .call 1 [(.t 13), (.t 16)], none⟩,
  .op ⟨5, some 3, .mv (.t 17), none⟩])))
 (.reg [.op ⟨0, some 18, .bin .add (.t 9) (.c (.one (.int .i64 1))), none⟩,
  .op ⟨1, some 9, .mv (.t 18), none⟩])))))))
 (.seq (.reg [.op ⟨0, some 19, .mv (.t 3), none⟩,
  .op ⟨1, some 2, .mv (.t 19), none⟩])
 (.ret))))⟩
noncomputable def rs_places.s1 (x0 : Sl) (s2 : (Sl × Int × Unit)) (H3 : Heap) : Option (((Sl × Int × Unit) ⊕ (Sl × Unit)) × Heap) :=
 cond (decide (s2.2.1 < (x0.len : Int))) (
 (Sl.at 1 x0 s2.2.1).bind fun (a4 : (Nat × Nat)) =>
 (rdI .i64 H3 a4.1 a4.2).bind fun (v5 : Int) =>
 (gf_Root v5).bind fun (r6 : (Int × Unit)) =>
 let H7 : Heap := H3 ++ [Blk.cells [.int .u8 1, .int .u8 r6.1] .exact]
 (gf_Poly_Mul s2.1 (⟨some (H3.length, 0), 2, 2⟩) H7).bind fun (r8 : ((Sl × Unit) × Heap)) =>
 some (Sum.inl (r8.1.1, (IntKind.wrap .i64 (s2.2.1 + 1)), ()), r8.2)) (
 some (Sum.inr (s2.1, ()), H3))
noncomputable def rs_places (x0 : Sl) (H : Heap) : Option ((Sl × Unit) × Heap) :=
 let H1 : Heap := H ++ [Blk.cells [.int .u8 1] .exact]
 (loopW (rs_places.s1 x0) (⟨some (H.length, 0), 1, 1⟩, 0, ()) H1).bind fun (p9 : (Sl × Unit) × Heap) =>
 some ((p9.1.1, ()), p9.2)
noncomputable def rs_places.c : Callee := .full [.one (.sl 1)] [.one (.sl 1)] (fun x H => rs_places x.1 H)
noncomputable def rs_places.calls : Nat → Option Callee
  | 0 => some gf_Root.c
  | 1 => some gf_Poly_Mul.c
  | _ => none
theorem rs_places.eq : evFull rs_places.calls rs_places.af = (fun x H => rs_places x.1 H) := by kernel_rfl

/-! ### tinderbox/rs.solve -/
def rs_solve.af : AFun := ⟨[.one (.sl 1), .one (.int .i64), .one (.int .i64)], [.one (.sl 1), .one (.sl 1)], [.t 6, .t 7],
 .seq (.reg [.op ⟨0, some 6, .mv (.c (.one (.sl 1 (⟨none, 0, 0⟩)))), none⟩,
  .op ⟨1, some 7, .mv (.c (.one (.sl 1 (⟨none, 0, 0⟩)))), none⟩])
 (.seq (.reg [.op ⟨0, some 16, .bslice 1 1 [.int .u8 0] [(0, 1, (.c (.one (.int .u8 1))))], none⟩,
  .op ⟨1, some 17, .mv (.t 1), none⟩,
  .op ⟨2, some 18, .call 0 [(.t 16), (.t 17)], none⟩,
  .op ⟨3, some 19, .mv (.t 0), none⟩,
  .op ⟨4, some 8, .mv (.t 18), none⟩,
  .op ⟨5, some 9, .mv (.t 19), none⟩])
 (.seq (.reg [.op ⟨0, some 20, .bslice 1 1 [.int .u8 0] [(0, 1, (.c (.one (.int .u8 1))))], none⟩,
  .op ⟨1, some 10, .mv (.c (.one (.sl 1 (⟨none, 0, 0⟩)))), none⟩,
  .op ⟨2, some 11, .mv (.t 20), none⟩])
 (.seq (.block 0 (.loop [(8, .one (.sl 1)), (9, .one (.sl 1)), (10, .one (.sl 1)), (11, .one (.sl 1))] [(.exit 0, [(9, .one (.sl 1)), (11, .one (.sl 1))])] (.seq (.seq (.reg [.op ⟨0, some 21, .mv (.t 9), none⟩,
  .op ⟨1, some 22, .call 1 [(.t 21)], none⟩,
  .op ⟨2, some 23, .bin .mul (.c (.one (.int .i64 2))) (.t 22), none⟩,
  .op ⟨3, some 24, .mv (.t 1), none⟩,
  .op ⟨4, some 25, .mv (.t 2), none⟩,
  .op ⟨5, some 26, .bin .add (.t 24) (.t 25), none⟩,
  .op ⟨6, some 27, .bin .geq (.t 23) (.t 26), none⟩])
 (.cond (.t 27) (.skip) (.exit 0)))
 (.block 1 (.seq (.reg [.op ⟨0, some 28, .mv (.t 8), none⟩,
  .op ⟨1, some 29, .mv (.t 10), none⟩,
  .op ⟨2, some 12, .mv (.t 28), none⟩,
  .op ⟨3, some 13, .mv (.t 29), none⟩])
 (.seq (.block 2 (.loop [(12, .one (.sl 1)), (13, .one (.sl 1))] [(.exit 2, [(12, .one (.sl 1)), (13, .one (.sl 1))])] (.seq (.seq (.reg [.op ⟨0, some 30, .mv (.t 12), none⟩,
  .op ⟨1, some 31, .call 1 [(.t 30)], none⟩,
  .op ⟨2, some 32, .mv (.t 9), none⟩,
  .op ⟨3, some 33, .call 1 [(.t 32)], none⟩,
  .op ⟨4, some 34, .bin .geq (.t 31) (.t 33), none⟩])
 (.cond (.t 34) (.skip) (.exit 2)))
 (.block 3 (.seq (.reg [.op ⟨0, some 35, .mv (.t 12), none⟩,
  .op ⟨1, some 36, .call 1 [(.t 35)], none⟩,
  .op ⟨2, some 37, .mv (.t 9), none⟩,
  .op ⟨3, some 38, .call 1 [(.t 37)], none⟩,
  .op ⟨4, some 39, .bin .sub (.t 36) (.t 38), none⟩,
  .op ⟨5, some 14, .mv (.t 39), none⟩])
 (.seq (.reg [.op ⟨0, some 40, .mv (.t 12), none⟩,
  .op ⟨1, some 41, .mv (.t 12), none⟩,
  .op ⟨5, some 45, .mv (.t 9), none⟩,
  .op ⟨6, some 46, .mv (.t 9), none⟩,
  .op ⟨2, some 42, .call 1 [(.t 41)], none⟩,
  .op ⟨3, some 43, .idxa 1 (.t 40) (.t 42), none⟩,
  .op ⟨4, some 44, .load (.one (.int .u8)) (.t 43), none⟩,
  .op ⟨7, some 47, .call 1 [(.t 46)], none⟩,
  .op ⟨8, some 48, .idxa 1 (.t 45) (.t 47), none⟩,
  .op ⟨9, some 49, .load (.one (.int .u8)) (.t 48), none⟩,
  .op ⟨10, some 50, .call 2 [(.t 49)], none⟩,
  .op ⟨11, some 51, .call 3 [(.t 44), (.t 50)], none⟩,
  .op ⟨12, some 15, .mv (.t 51), none⟩,
  .again ⟨4, some 44, .load (.one (.int .u8)) (.t 43), none⟩])
 (.seq (.reg [.op ⟨0, some 52, .mv (.t 12), none⟩,
  .op ⟨1, some 53, .mv (.t 9), none⟩,
  .op ⟨2, some 54, .mv (.t 15), none⟩,
  .op ⟨3, some 55, .call 4 [(.t 53), (.t 54)], none⟩,
  .op ⟨4, some 56, .mv (.t 14), none⟩,
  .op ⟨5, some 57, .call 0 [(.t 55), (.t 56)], none⟩,
  .op ⟨6, some 58, .call 5 [(.t 52), (.t 57)], none⟩,
  .op ⟨7, some 12, .mv (.t 58), none⟩])
 (.reg [.op ⟨0, some 59, .mv (.t 13), none⟩,
  .op ⟨1, some 60, .mv (.t 11), none⟩,
  .op ⟨2, some 61, .mv (.t 15), none⟩,
  .op ⟨3, some 62, .call 4 [(.t 60), (.t 61)], none⟩,
  .op ⟨4, some 63, .mv (.t 14), none⟩,
  .op ⟨5, some 64, .call 0 [(.t 62), (.t 63)], none⟩,
  .op ⟨6, some 65, .call 5 [(.t 59), (.t 64)], none⟩,
  .op ⟨7, some 13, .mv (.t 65), none⟩]))))))))
 (.reg [.op ⟨0, some 66, .mv (.t 9), none⟩,
  .op ⟨1, some 67, .mv (.t 12), none⟩,
  .op ⟨2, some 68, .mv (.t 11), none⟩,
  .op ⟨3, some 69, .mv (.t 13), none⟩,
  .op ⟨4, some 8, .mv (.t 66), none⟩,
  .op ⟨5, some 9, .mv (.t 67), none⟩,
  .op ⟨6, some 10, .mv (.t 68), none⟩,
  .op ⟨7, some 11, .mv (.t 69), none⟩])))))))
 (.seq (.reg [.op ⟨0, some 70, .mv (.t 11), none⟩,
  .op ⟨1, some 71, .mv (.t 9), none⟩,
  .op ⟨2, some 6, .mv (.t 70), none⟩,
  .op ⟨3, some 7, .mv (.t 71), none⟩])
 (.ret)))))⟩
noncomputable def rs_solve.s1 (s4 : (Sl × Sl × Sl × Sl × Unit)) (s7 : (Sl × Sl × Unit)) (H8 : Heap) : Option (((Sl × Sl × Unit) ⊕ (Sl × Sl × Unit)) × Heap) :=
 (gf_Poly_Degree s7.1 H8).bind fun (r9 : ((Int × Unit) × Heap)) =>
 (gf_Poly_Degree s4.2.1 r9.2).bind fun (r10 : ((Int × Unit) × Heap)) =>
 cond (decide (r10.1.1 ≤ r9.1.1)) (
 (gf_Poly_Degree s7.1 r10.2).bind fun (r11 : ((Int × Unit) × Heap)) =>
 (gf_Poly_Degree s4.2.1 r11.2).bind fun (r12 : ((Int × Unit) × Heap)) =>
 (gf_Poly_Degree s7.1 r12.2).bind fun (r13 : ((Int × Unit) × Heap)) =>
 (Sl.at 1 s7.1 r13.1.1).bind fun (a14 : (Nat × Nat)) =>
 (rdI .u8 r13.2 a14.1 a14.2).bind fun (v15 : Int) =>
 (gf_Poly_Degree s4.2.1 r13.2).bind fun (r16 : ((Int × Unit) × Heap)) =>
 (Sl.at 1 s4.2.1 r16.1.1).bind fun (a17 : (Nat × Nat)) =>
 (rdI .u8 r16.2 a17.1 a17.2).bind fun (v18 : Int) =>
 (gf_Inv v18).bind fun (r19 : (Int × Unit)) =>
 (gf_Mul v15 r19.1).bind fun (r20 : (Int × Unit)) =>
 (rdI .u8 r16.2 a14.1 a14.2).bind fun (v21 : Int) =>
 if V.w (.one (.int .u8 v21)) = V.w (.one (.int .u8 v15)) then
 (gf_Poly_Times s4.2.1 r20.1 r16.2).bind fun (r22 : ((Sl × Unit) × Heap)) =>
 (gf_Poly_Shift r22.1.1 (IntKind.wrap .i64 (r11.1.1 - r12.1.1)) r22.2).bind fun (r23 : ((Sl × Unit) × Heap)) =>
 (gf_Poly_Add s7.1 r23.1.1 r23.2).bind fun (r24 : ((Sl × Unit) × Heap)) =>
 (gf_Poly_Times s4.2.2.2.1 r20.1 r24.2).bind fun (r25 : ((Sl × Unit) × Heap)) =>
 (gf_Poly_Shift r25.1.1 (IntKind.wrap .i64 (r11.1.1 - r12.1.1)) r25.2).bind fun (r26 : ((Sl × Unit) × Heap)) =>
 (gf_Poly_Add s7.2.1 r26.1.1 r26.2).bind fun (r27 : ((Sl × Unit) × Heap)) =>
 some (Sum.inl (r24.1.1, r27.1.1, ()), r27.2)
 else none) (
 some (Sum.inr (s7.1, s7.2.1, ()), r10.2))
noncomputable def rs_solve.s2 (x1 : Int) (x2 : Int) (s4 : (Sl × Sl × Sl × Sl × Unit)) (H5 : Heap) : Option (((Sl × Sl × Sl × Sl × Unit) ⊕ (Sl × Sl × Unit)) × Heap) :=
 (gf_Poly_Degree s4.2.1 H5).bind fun (r6 : ((Int × Unit) × Heap)) =>
 cond (decide ((IntKind.wrap .i64 (x1 + x2)) ≤ (IntKind.wrap .i64 (2 * r6.1.1)))) (
 (loopW (rs_solve.s1 s4) (s4.1, s4.2.2.1, ()) r6.2).bind fun (p28 : (Sl × Sl × Unit) × Heap) =>
 some (Sum.inl (s4.2.1, p28.1.1, s4.2.2.2.1, p28.1.2.1, ()), p28.2)) (
 some (Sum.inr (s4.2.1, s4.2.2.2.1, ()), r6.2))
noncomputable def rs_solve (x0 : Sl) (x1 : Int) (x2 : Int) (H : Heap) : Option ((Sl × Sl × Unit) × Heap) :=
 let H1 : Heap := H ++ [Blk.cells [.int .u8 1] .exact]
 (gf_Poly_Shift (⟨some (H.length, 0), 1, 1⟩) x1 H1).bind fun (r2 : ((Sl × Unit) × Heap)) =>
 let H3 : Heap := r2.2 ++ [Blk.cells [.int .u8 1] .exact]
 (loopW (rs_solve.s2 x1 x2) (r2.1.1, x0, ⟨none, 0, 0⟩, ⟨some (r2.2.length, 0), 1, 1⟩, ()) H3).bind fun (p29 : (Sl × Sl × Unit) × Heap) =>
 some ((p29.1.2.1, p29.1.1, ()), p29.2)
noncomputable def rs_solve.c : Callee := .full [.one (.sl 1), .one (.int .i64), .one (.int .i64)] [.one (.sl 1), .one (.sl 1)] (fun x H => rs_solve x.1 x.2.1 x.2.2.1 H)
noncomputable def rs_solve.calls : Nat → Option Callee
  | 0 => some gf_Poly_Shift.c
  | 1 => some gf_Poly_Degree.c
  | 2 => some gf_Inv.c
  | 3 => some gf_Mul.c
  | 4 => some gf_Poly_Times.c
  | 5 => some gf_Poly_Add.c
  | _ => none
theorem rs_solve.eq : evFull rs_solve.calls rs_solve.af = (fun x H => rs_solve x.1 x.2.1 x.2.2.1 H) := by kernel_rfl

/-! ### tinderbox/rs.roots -/
def rs_roots.af : AFun := ⟨[.one (.sl 1), .one (.int .i64)], [.one (.sl 1)], [.t 4],
 .seq (.reg [.op ⟨0, some 4, .mv (.c (.one (.sl 1 (⟨none, 0, 0⟩)))), none⟩])
 (.seq (.reg [.op ⟨0, some 5, .mv (.c (.one (.sl 1 (⟨none, 0, 0⟩)))), none⟩])
 (.seq (.seq (.reg [.op ⟨0, some 7, .mv (.t 1), none⟩,
  .op ⟨1, some 8, .mv (.c (.one (.int .i64 0))), none⟩])
 (.block 0 (.loop [(5, .one (.sl 1)), (8, .one (.int .i64))] [(.exit 0, [(5, .one (.sl 1))])] (.seq (.reg [.op ⟨0, some 9, .bin .lss (.t 8) (.t 7), none⟩])
 (.seq (.cond (.t 9) (.skip) (.exit 0))
 (.seq (.block 1 (.seq (.reg [.op ⟨0, some 10, .mv (.t 8), none⟩,
  .op ⟨1, some 6, .mv (.t 10), none⟩])
 (.seq (.reg [.op ⟨0, some 11, .mv (.t 0), none⟩,
  .op ⟨1, some 12, .mv (.t 6), none⟩,
  .op ⟨2, some 13, .un .neg (.t 12), none⟩,
  .op ⟨3, some 14, .call 0 [(.t 13)], none⟩,
  .op ⟨4, some 15, .call 1 [(.t 11), (.t 14)], none⟩,
  .op ⟨5, some 16, .bin .eql (.t 15) (.c (.one (.int .u8 0))), none⟩])
 (.cond (.t 16) (.reg [.op ⟨0, some 17, .mv (.t 5), none⟩,
  .op ⟨1, some 18, .mv (.t 6), none⟩,
  .op ⟨2, some 19, .bslice 1 1 [.int .i64 0] [(0, 1, (.t 18))], none⟩,
  .op ⟨3, some 20, .app 1 8 (.t 17) (.t 19), none⟩,
  .op ⟨4, some 5, .mv (.t 20), none⟩]) (.skip)))))
 (.reg [.op ⟨0, some 21, .bin .add (.t 8) (.c (.one (.int .i64 1))), none⟩,
  .op ⟨1, some 8, .mv (.t 21), none⟩])))))))
 (.seq (.reg [.op ⟨0, some 22, .mv (.t 5), none⟩,
  .op ⟨1, some 4, .mv (.t 22), none⟩])
 (.ret))))⟩
noncomputable def rs_roots.s1 (x0 : Sl) (x1 : Int) (s1 : (Sl × Int × Unit)) (H2 : Heap) : Option (((Sl × Int × Unit) ⊕ (Sl × Unit)) × Heap) :=
 cond (decide (s1.2.1 < x1)) (
 (gf_Root (IntKind.wrap .i64 (0 - s1.2.1))).bind fun (r3 : (Int × Unit)) =>
 (gf_Poly_At x0 r3.1 H2).bind fun (r4 : ((Int × Unit) × Heap)) =>
 cond (decide (r4.1.1 = 0)) (
 let H5 : Heap := r4.2 ++ [Blk.cells [.int .i64 s1.2.1] .exact]
 (slRow H5 1 (⟨some (r4.2.length, 0), 1, 1⟩)).bind fun (cs6 : (List C)) =>
 (appS H5 1 8 s1.1 1 cs6).bind fun (p7 : (Sl × Heap)) =>
 some (Sum.inl (p7.1, (IntKind.wrap .i64 (s1.2.1 + 1)), ()), p7.2)) (
 some (Sum.inl (s1.1, (IntKind.wrap .i64 (s1.2.1 + 1)), ()), r4.2))) (
 some (Sum.inr (s1.1, ()), H2))
noncomputable def rs_roots (x0 : Sl) (x1 : Int) (H : Heap) : Option ((Sl × Unit) × Heap) :=
 (loopW (rs_roots.s1 x0 x1) (⟨none, 0, 0⟩, 0, ()) H).bind fun (p8 : (Sl × Unit) × Heap) =>
 some ((p8.1.1, ()), p8.2)
noncomputable def rs_roots.c : Callee := .full [.one (.sl 1), .one (.int .i64)] [.one (.sl 1)] (fun x H => rs_roots x.1 x.2.1 H)
noncomputable def rs_roots.calls : Nat → Option Callee
  | 0 => some gf_Root.c
  | 1 => some gf_Poly_At.c
  | _ => none
theorem rs_roots.eq : evFull rs_roots.calls rs_roots.af = (fun x H => rs_roots x.1 x.2.1 H) := by kernel_rfl

/-! ### tinderbox/rs.Decode -/
def rs_Decode.af : AFun := ⟨[.one .str, .one (.int .i64), .one (.sl 1)], [.one .str, .one (.int .i64), .one (.int .i64)], [.t 6, .t 7, .t 8],
 .seq (.reg [.op ⟨0, some 6, .mv (.c (.one (.str []))), none⟩,
  .op ⟨1, some 7, .mv (.c (.one (.int .i64 0))), none⟩,
  .op ⟨2, some 8, .mv (.c (.one (.int .i64 0))), none⟩])
 (.seq (.reg [.op ⟨0, some 26, .mv (.t 2), none⟩,
  .op ⟨1, some 27, .mv (.t 0), none⟩,
  .op ⟨2, some 28, .lens (.t 27), none⟩,
  .op ⟨3, some 29, .mv (.t 1), none⟩,
  .op ⟨4, some 30, .call 0 [(.t 26), (.t 28), (.t 29)], none⟩,
  .op ⟨5, some 25, .mv (.t 30), none⟩,
  .op ⟨6, some 31, .ext (.t 25) 0, none⟩,
  .op ⟨7, some 32, .ext (.t 25) 1, none⟩,
  .op ⟨8, some 9, .mv (.t 31), none⟩,
  .op ⟨9, some 10, .mv (.t 32), none⟩])
 (.seq (.block 0 (.seq (.reg [.op ⟨0, some 34, .mv (.t 0), none⟩,
  .op ⟨1, some 35, .lens (.t 34), none⟩,
  .op ⟨2, some 36, .mv (.t 1), none⟩,
  .op ⟨3, some 37, .call 1 [(.t 35), (.t 36)], none⟩,
  .op ⟨4, some 38, .un .not (.t 37), none⟩,
  .op ⟨5, some 33, .mv (.t 38), none⟩])
 (.cond (.t 33) (.seq (.reg [.op ⟨0, some 6, .mv (.c (.one (.str []))), none⟩,
  .op ⟨1, some 7, .mv (.c (.one (.int .i64 0))), none⟩,
  .op ⟨2, some 8, .mv (.c (.one (.int .i64 1))), none⟩])
 (.ret)) (.seq (.reg [.op ⟨0, some 40, .mv (.t 10), none⟩,
  .op ⟨1, some 41, .un .not (.t 40), none⟩,
  .op ⟨2, some 39, .mv (.t 41), none⟩])
 (.cond (.t 39) (.seq (.reg [.op ⟨0, some 6, .mv (.c (.one (.str []))), none⟩,
  .op ⟨1, some 7, .mv (.c (.one (.int .i64 0))), none⟩,
  .op ⟨2, some 8, .mv (.c (.one (.int .i64 280))), none⟩])
 (.ret)) (.seq (.reg [.op ⟨0, some 43, .mv (.t 0), none⟩,
  .op ⟨1, some 44, .mv (.t 1), none⟩,
  .op ⟨2, some 45, .call 2 [(.t 43), (.t 44)], none⟩,
  .op ⟨3, some 42, .mv (.t 45), none⟩])
 (.cond (.t 42) (.seq (.reg [.op ⟨0, some 46, .mv (.t 0), none⟩,
  .op ⟨1, some 6, .mv (.t 46), none⟩,
  .op ⟨2, some 7, .mv (.c (.one (.int .i64 0))), none⟩,
  .op ⟨3, some 8, .mv (.c (.one (.int .i64 0))), none⟩])
 (.ret)) (.skip))))))))
 (.seq (.reg [.op ⟨0, some 47, .mv (.t 9), none⟩,
  .op ⟨1, some 48, .call 3 [(.t 47)], none⟩,
  .op ⟨2, some 11, .mv (.t 48), none⟩])
 (.seq (.reg [.op ⟨0, some 49, .mv (.t 0), none⟩,
  .op ⟨1, some 50, .mv (.t 1), none⟩,
  .op ⟨2, some 51, .call 4 [(.t 49), (.t 50)], none⟩,
  .op ⟨3, some 52, .mv (.t 11), none⟩,
  .op ⟨4, some 53, .call 5 [(.t 51), (.t 52)], none⟩,
  .op ⟨5, some 54, .mv (.t 1), none⟩,
  .op ⟨6, some 55, .call 6 [(.t 53), (.t 54)], none⟩,
  .op ⟨7, some 12, .mv (.t 55), none⟩])
 (.seq (.reg [.op ⟨0, some 57, .mv (.t 12), none⟩,
  .op ⟨1, some 58, .mv (.t 1), none⟩,
  .op ⟨2, some 59, .mv (.t 9), none⟩,
  .op ⟨3, some 60, .len (.t 59), none⟩,
  .op ⟨4, some 61, .call 7 [(.t 57), (.t 58), (.t 60)], none⟩,
  .op ⟨5, some 56, .mv (.t 61), none⟩,
  .op ⟨6, some 62, .ext (.t 56) 0, none⟩,
  .op ⟨7, some 63, .ext (.t 56) 1, none⟩,
  .op ⟨8, some 13, .mv (.t 62), none⟩,
  .op ⟨9, some 14, .mv (.t 63), none⟩])
 (.seq (.reg [.op ⟨0, some 64, .mv (.t 13), none⟩,
  .op ⟨1, some 65, .mv (.t 11), none⟩,
  .op ⟨2, some 66, .call 5 [(.t 64), (.t 65)], none⟩,
  .op ⟨3, some 15, .mv (.t 66), none⟩])
 (.seq (.reg [.op ⟨0, some 67, .mv (.t 15), none⟩,
  .op ⟨1, some 68, .mv (.t 0), none⟩,
  .op ⟨2, some 69, .lens (.t 68), none⟩,
  .op ⟨3, some 70, .call 8 [(.t 67), (.t 69)], none⟩,
  .op ⟨4, some 16, .mv (.t 70), none⟩])
 (.seq (.seq (.reg [.op ⟨0, some 71, .mv (.t 16), none⟩,
  .op ⟨1, some 72, .len (.t 71), none⟩,
  .op ⟨2, some 73, .bin .eql (.t 72) (.c (.one (.int .i64 0))), none⟩,
  .op ⟨3, some 74, .mv (.t 73), none⟩,
  .op ⟨4, some 75, .mv (.t 16), some (74, false)⟩,
  .op ⟨5, some 76, .len (.t 75), some (74, false)⟩,
  .op ⟨6, some 77, .mv (.t 15), some (74, false)⟩,
  .op ⟨7, some 78, .call 9 [(.t 77)], some (74, false)⟩,
  .op ⟨8, some 79, .bin .neq (.t 76) (.t 78), some (74, false)⟩,
  .op ⟨9, some 80, .pick (.t 74) (.c (.one (.bool true))) (.t 79), none⟩,
  .op ⟨10, some 81, .mv (.t 80), none⟩,
  .op ⟨11, some 82, .mv (.t 13), some (81, false)⟩,
  .op ⟨12, some 83, .call 9 [(.t 82)], some (81, false)⟩,
  .op ⟨13, some 84, .bin .mul (.c (.one (.int .i64 2))) (.t 83), some (81, false)⟩,
  .op ⟨14, some 85, .mv (.t 9), some (81, false)⟩,
  .op ⟨15, some 86, .len (.t 85), some (81, false)⟩,
  .op ⟨16, some 87, .bin .add (.t 84) (.t 86), some (81, false)⟩,
  .op ⟨17, some 88, .mv (.t 1), some (81, false)⟩,
  .op ⟨18, some 89, .bin .gtr (.t 87) (.t 88), some (81, false)⟩,
  .op ⟨19, some 90, .pick (.t 81) (.c (.one (.bool true))) (.t 89), none⟩])
 (.cond (.t 90) (.seq (.reg [.op ⟨0, some 6, .mv (.c (.one (.str []))), none⟩,
  .op ⟨1, some 7, .mv (.c (.one (.int .i64 0))), none⟩,
  .op ⟨2, some 8, .mv (.c (.one (.int .i64 280))), none⟩])
 (.ret)) (.skip)))
 (.seq (.reg [.op ⟨0, some 91, .mv (.t 0), none⟩,
  .op ⟨1, some 92, .s2b (.t 91), none⟩,
  .op ⟨2, some 17, .mv (.t 92), none⟩,
  .op ⟨3, some 18, .mv (.c (.one (.int .i64 0))), none⟩])
 (.seq (.reg [.op ⟨0, some 93, .mv (.t 15), none⟩,
  .op ⟨1, some 94, .call 10 [(.t 93)], none⟩,
  .op ⟨2, some 19, .mv (.t 94), none⟩])
 (.seq (.seq (.reg [.op ⟨0, some 95, .mv (.t 16), none⟩,
  .op ⟨1, some 96, .len (.t 95), none⟩,
  .op ⟨2, some 97, .mv (.c (.one (.int .i64 0))), none⟩])
 (.block 1 (.loop [(18, .one (.int .i64)), (97, .one (.int .i64))] [(.exit 1, [(18, .one (.int .i64))]), (.ret, [(6, .one .str), (7, .one (.int .i64)), (8, .one (.int .i64))])] (.seq (.reg [.op ⟨0, some 98, .bin .lss (.t 97) (.t 96), none⟩])
 (.seq (.cond (.t 98) (.skip) (.exit 1))
 (.seq (.block 2 (.seq (.reg [.op ⟨0, some 99, .idxa 1 (.t 95) (.t 97), none⟩,
  .op ⟨1, some 100, .load (.one (.int .i64)) (.t 99), none⟩,
  .op ⟨2, some 21, .mv (.t 100), none⟩])
 (.seq (.reg [.op ⟨0, some 101, .mv (.t 21), none⟩,
  .op ⟨1, some 102, .un .neg (.t 101), none⟩,
  .op ⟨2, some 103, .call 11 [(.t 102)], none⟩,
  .op ⟨3, some 22, .mv (.t 103), none⟩])
 (.seq (.reg [.op ⟨0, some 104, .mv (.t 19), none⟩,
  .op ⟨1, some 105, .mv (.t 22), none⟩,
  .op ⟨2, some 106, .call 12 [(.t 104), (.t 105)], none⟩,
  .op ⟨3, some 23, .mv (.t 106), none⟩])
 (.seq (.seq (.reg [.op ⟨0, some 107, .mv (.t 23), none⟩,
  .op ⟨1, some 108, .bin .eql (.t 107) (.c (.one (.int .u8 0))), none⟩])
 (.cond (.t 108) (.seq (.reg [.op ⟨0, some 6, .mv (.c (.one (.str []))), none⟩,
  .op ⟨1, some 7, .mv (.c (.one (.int .i64 0))), none⟩,
  .op ⟨2, some 8, .mv (.c (.one (.int .i64 280))), none⟩])
 (.ret)) (.skip)))
 (.seq (.reg [.op ⟨0, some 109, .mv (.t 21), none⟩,
  .op ⟨1, some 110, .call 11 [(.t 109)], none⟩,
  .op ⟨2, some 111, .mv (.t 14), none⟩,
  .op ⟨3, some 112, .mv (.t 22), none⟩,
  .op ⟨4, some 113, .call 12 [(.t 111), (.t 112)], none⟩,
  .op ⟨5, some 114, .mv (.t 23), none⟩,
  .op ⟨6, some 115, .call 13 [(.t 114)], none⟩,
  .op ⟨7, some 116, .call 14 [(.t 113), (.t 115)], none⟩,
  .op ⟨8, some 117, .call 14 [(.t 110), (.t 116)], none⟩,
  .op ⟨9, some 24, .mv (.t 117), none⟩])
 (.seq (.scope [(.normal, [(18, .one (.int .i64))])] (.seq (.reg [.op ⟨0, some 118, .mv (.t 24), none⟩,
  .op ⟨1, some 119, .bin .neq (.t 118) (.c (.one (.int .u8 0))), none⟩])
 (.cond (.t 119) (.reg [.op ⟨0, some 120, .mv (.t 18), none⟩,
  .op ⟨1, some 121, .bin .add (.t 120) (.c (.one (.int .i64 1))), none⟩,
  .op ⟨2, some 18, .mv (.t 121), none⟩]) (.skip))))
 (.reg [.op ⟨0, some 122, .mv (.t 17), none⟩,
  .op ⟨1, some 123, .mv (.t 17), none⟩,
  .op ⟨2, some 124, .len (.t 123), none⟩,
  .op ⟨3, some 125, .bin .sub (.t 124) (.c (.one (.int .i64 1))), none⟩,
  .op ⟨4, some 126, .mv (.t 21), none⟩,
  .op ⟨5, some 127, .bin .sub (.t 125) (.t 126), none⟩,
  .op ⟨6, some 128, .idxa 1 (.t 122) (.t 127), none⟩,
  .op ⟨7, some 129, .load (.one (.int .u8)) (.t 128), none⟩,
  .op ⟨8, some 130, .mv (.t 24), none⟩,
  .op ⟨9, some 131, .bin .xor (.t 129) (.t 130), none⟩,
  .op ⟨10, some 132, .idxa 1 (.t 122) (.t 127), none⟩,
  .op ⟨11, none, .store 1 (.t 132) (.t 131), none⟩]))))))))
 (.reg [.op ⟨0, some 133, .bin .add (.t 97) (.c (.one (.int .i64 1))), none⟩,
  .op ⟨1, some 97, .mv (.t 133), none⟩])))))))
 (.seq (.seq (.reg [.op ⟨0, some 134, .mv (.t 17), none⟩,
  .op ⟨1, some 135, .b2s (.t 134), none⟩,
  .op ⟨2, some 136, .mv (.t 1), none⟩,
  .op ⟨3, some 137, .call 2 [(.t 135), (.t 136)], none⟩,
  .op ⟨4, some 138, .un .not (.t 137), none⟩])
 (.cond (.t 138) (.seq (.reg [.op ⟨0, some 6, .mv (.c (.one (.str []))), none⟩,
  .op ⟨1, some 7, .mv (.c (.one (.int .i64 0))), none⟩,
  .op ⟨2, some 8, .mv (.c (.one (.int .i64 280))), none⟩])
 (.ret)) (.skip)))
 (.seq (.reg [.op ⟨0, some 139, .mv (.t 17), none⟩,
  .op ⟨1, some 140, .b2s (.t 139), none⟩,
  .op ⟨2, some 141, .mv (.t 18), none⟩,
  .op ⟨3, some 6, .mv (.t 140), none⟩,
  .op ⟨4, some 7, .mv (.t 141), none⟩,
  .op ⟨5, some 8, .mv (.c (.one (.int .i64 0))), none⟩])
 (.ret))))))))))))))⟩
noncomputable def rs_Decode.s1 (x0 : Bytes) (r8 : ((Sl × Sl × Unit) × Heap)) (r10 : ((Sl × Unit) × Heap)) (r12 : ((Int × Unit) × Heap)) (r14 : ((Sl × Unit) × Heap)) (s15 : (Int × Int × Unit)) (H16 : Heap) : Option (((Int × Int × Unit) ⊕ ((Int × Unit) ⊕ (Bytes × Int × Int × Unit))) × Heap) :=
 cond (decide (s15.2.1 < (r10.1.1.len : Int))) (
 (Sl.at 1 r10.1.1 s15.2.1).bind fun (a17 : (Nat × Nat)) =>
 (rdI .i64 H16 a17.1 a17.2).bind fun (v18 : Int) =>
 (gf_Root (IntKind.wrap .i64 (0 - v18))).bind fun (r19 : (Int × Unit)) =>
 (gf_Poly_At r14.1.1 r19.1 H16).bind fun (r20 : ((Int × Unit) × Heap)) =>
 cond (decide (r20.1.1 = 0)) (
 some (Sum.inr (Sum.inr ([], 0, 280, ())), r20.2)) (
 (gf_Root v18).bind fun (r21 : (Int × Unit)) =>
 (gf_Poly_At r8.1.2.1 r19.1 r20.2).bind fun (r22 : ((Int × Unit) × Heap)) =>
 (gf_Inv r20.1.1).bind fun (r23 : (Int × Unit)) =>
 (gf_Mul r22.1.1 r23.1).bind fun (r24 : (Int × Unit)) =>
 (gf_Mul r21.1 r24.1).bind fun (r25 : (Int × Unit)) =>
 (cond (!decide (r25.1 = 0)) (
 some (((IntKind.wrap .i64 (s15.1 + 1)), ()), r22.2)) (
 some ((s15.1, ()), r22.2)) : Option ((Int × Unit) × Heap)).bind fun (p26 : (Int × Unit) × Heap) =>
 let n27 : Int := (IntKind.wrap .i64 ((IntKind.wrap .i64 (((List.length (x0 : Bytes)) : Int) - 1)) - v18))
 (Sl.at 1 (⟨some (r12.2.length, 0), (List.length (x0 : Bytes)), (List.length (x0 : Bytes))⟩) n27).bind fun (a28 : (Nat × Nat)) =>
 (rdI .u8 p26.2 a28.1 a28.2).bind fun (v29 : Int) =>
 (Sl.at 1 (⟨some (r12.2.length, 0), (List.length (x0 : Bytes)), (List.length (x0 : Bytes))⟩) n27).bind fun (a30 : (Nat × Nat)) =>
 (wr p26.2 a30.1 a30.2 [.int .u8 (bitsI .xor .u8 v29 r25.1)]).bind fun (H31 : Heap) =>
 some (Sum.inl (p26.1.1, (IntKind.wrap .i64 (s15.2.1 + 1)), ()), H31))) (
 some (Sum.inr (Sum.inl (s15.1, ())), H16))
noncomputable def rs_Decode (x0 : Bytes) (x1 : Int) (x2 : Sl) (H : Heap) : Option ((Bytes × Int × Int × Unit) × Heap) :=
 (rs_lostOf x2 (List.length (x0 : Bytes) : Int) x1 H).bind fun (r1 : ((Sl × Bool × Unit) × Heap)) =>
 (rs_Check (List.length (x0 : Bytes) : Int) x1).bind fun (r2 : (Bool × Unit)) =>
 cond (!r2.1) (
 some (([], 0, 1, ()), r1.2)) (
 cond (!r1.1.2.1) (
 some (([], 0, 280, ()), r1.2)) (
 (rs_Right x0 x1).bind fun (r3 : (Bool × Unit)) =>
 cond r3.1 (
 some ((x0, 0, 0, ()), r1.2)) (
 (rs_places r1.1.1 r1.2).bind fun (r4 : ((Sl × Unit) × Heap)) =>
 (rs_Signs x0 x1 r4.2).bind fun (r5 : ((Sl × Unit) × Heap)) =>
 (gf_Poly_Mul r5.1.1 r4.1.1 r5.2).bind fun (r6 : ((Sl × Unit) × Heap)) =>
 (gf_Poly_Cut r6.1.1 x1 r6.2).bind fun (r7 : ((Sl × Unit) × Heap)) =>
 (rs_solve r7.1.1 x1 (r1.1.1.len : Int) r7.2).bind fun (r8 : ((Sl × Sl × Unit) × Heap)) =>
 (gf_Poly_Mul r8.1.1 r4.1.1 r8.2).bind fun (r9 : ((Sl × Unit) × Heap)) =>
 (rs_roots r9.1.1 (List.length (x0 : Bytes) : Int) r9.2).bind fun (r10 : ((Sl × Unit) × Heap)) =>
 cond (decide ((r10.1.1.len : Int) = 0)) (
 some (([], 0, 280, ()), r10.2)) (
 (gf_Poly_Degree r9.1.1 r10.2).bind fun (r11 : ((Int × Unit) × Heap)) =>
 cond (!decide ((r10.1.1.len : Int) = r11.1.1)) (
 some (([], 0, 280, ()), r11.2)) (
 (gf_Poly_Degree r8.1.1 r11.2).bind fun (r12 : ((Int × Unit) × Heap)) =>
 cond (decide (x1 < (IntKind.wrap .i64 ((IntKind.wrap .i64 (2 * r12.1.1)) + (r1.1.1.len : Int))))) (
 some (([], 0, 280, ()), r12.2)) (
 let H13 : Heap := r12.2 ++ [Blk.cells (cellsOf x0) .loose]
 (gf_Poly_Slope r9.1.1 H13).bind fun (r14 : ((Sl × Unit) × Heap)) =>
 (loopW (rs_Decode.s1 x0 r8 r10 r12 r14) (0, 0, ()) r14.2).bind fun (p32 : ((Int × Unit) ⊕ (Bytes × Int × Int × Unit)) × Heap) =>
 Sum.elim (fun (y33 : (Int × Unit)) =>
 (strOf p32.2 (⟨some (r12.2.length, 0), (List.length (x0 : Bytes)), (List.length (x0 : Bytes))⟩)).bind fun (s34 : Bytes) =>
 (rs_Right s34 x1).bind fun (r35 : (Bool × Unit)) =>
 cond (!r35.1) (
 some (([], 0, 280, ()), p32.2)) (
 (strOf p32.2 (⟨some (r12.2.length, 0), (List.length (x0 : Bytes)), (List.length (x0 : Bytes))⟩)).bind fun (s36 : Bytes) =>
 some ((s36, y33.1, 0, ()), p32.2))) (fun (z37 : (Bytes × Int × Int × Unit)) =>
 some ((z37.1, z37.2.1, z37.2.2.1, ()), p32.2)) p32.1))))))
noncomputable def rs_Decode.c : Callee := .full [.one .str, .one (.int .i64), .one (.sl 1)] [.one .str, .one (.int .i64), .one (.int .i64)] (fun x H => rs_Decode x.1 x.2.1 x.2.2.1 H)
noncomputable def rs_Decode.calls : Nat → Option Callee
  | 0 => some rs_lostOf.c
  | 1 => some rs_Check.c
  | 2 => some rs_Right.c
  | 3 => some rs_places.c
  | 4 => some rs_Signs.c
  | 5 => some gf_Poly_Mul.c
  | 6 => some gf_Poly_Cut.c
  | 7 => some rs_solve.c
  | 8 => some rs_roots.c
  | 9 => some gf_Poly_Degree.c
  | 10 => some gf_Poly_Slope.c
  | 11 => some gf_Root.c
  | 12 => some gf_Poly_At.c
  | 13 => some gf_Inv.c
  | 14 => some gf_Mul.c
  | _ => none
theorem rs_Decode.eq : evFull rs_Decode.calls rs_Decode.af = (fun x H => rs_Decode x.1 x.2.1 x.2.2.1 H) := by kernel_rfl
end Ev
