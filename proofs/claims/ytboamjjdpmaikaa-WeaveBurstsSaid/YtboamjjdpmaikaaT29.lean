/- The functions are those of the program: the kernel checks the code, one by one. Written by gen2.py. -/
import Derived.Test.YtboamjjdpmaikaaEvTie
import Derived.Test.YtboamjjdpmaikaaGGf
import Derived.Test.YtboamjjdpmaikaaGSlices
import Derived.Test.YtboamjjdpmaikaaGRs
import Derived.Test.YtboamjjdpmaikaaGWeave
import Derived.Test.YtboamjjdpmaikaaGRef27
import Derived.Test.YtboamjjdpmaikaaGRef29
import Derived.Test.YtboamjjdpmaikaaGLaw29
import Derived.Test.YtboamjjdpmaikaaSo
import Derived.Test.YtboamjjdpmaikaaPa
import Derived.Test.YtboamjjdpmaikaaProg
import Derived.KernelRfl
set_option maxRecDepth 100000
namespace Ev
open Go Go.Proofs
theorem weave_ShapeOf.tiedCalls : CallsTied Try.prog weave_ShapeOf.calls [] 0 := (fun _ _ => rfl)
theorem weave_ShapeOf.tied : Tied Try.prog weave_ShapeOf.c 24 := tie_pure weave_ShapeOf.tiedCalls Try.func24 (by kernel_rfl) (by kernel_rfl) (by kernel_rfl) (by kernel_rfl) (by kernel_rfl) weave_ShapeOf.eq
theorem ref29_Shape.tiedCalls : CallsTied Try.prog ref29_Shape.calls [] 0 := (fun _ _ => rfl)
theorem ref29_Shape.tied : Tied Try.prog ref29_Shape.c 25 := tie_pure ref29_Shape.tiedCalls Try.func25 (by kernel_rfl) (by kernel_rfl) (by kernel_rfl) (by kernel_rfl) (by kernel_rfl) ref29_Shape.eq
theorem weave_fits.tiedCalls : CallsTied Try.prog weave_fits.calls [24] 0 := ⟨⟨_, rfl, weave_ShapeOf.tied⟩, (fun j hj => by first | rfl | (match j, hj with | j + 1, _ => rfl))⟩
theorem weave_fits.tied : Tied Try.prog weave_fits.c 55 := tie_pure weave_fits.tiedCalls Try.func55 (by kernel_rfl) (by kernel_rfl) (by kernel_rfl) (by kernel_rfl) (by kernel_rfl) weave_fits.eq
theorem weave_Mask.tiedCalls : CallsTied Try.prog weave_Mask.calls [] 0 := (fun _ _ => rfl)
theorem weave_Mask.tied : Tied Try.prog weave_Mask.c 27 := tie_pure weave_Mask.tiedCalls Try.func27 (by kernel_rfl) (by kernel_rfl) (by kernel_rfl) (by kernel_rfl) (by kernel_rfl) weave_Mask.eq
theorem weave_Mix.tiedCalls : CallsTied Try.prog weave_Mix.calls [] 0 := (fun _ _ => rfl)
theorem weave_Mix.tied : Tied Try.prog weave_Mix.c 29 := tie_pure weave_Mix.tiedCalls Try.func29 (by kernel_rfl) (by kernel_rfl) (by kernel_rfl) (by kernel_rfl) (by kernel_rfl) weave_Mix.eq
theorem rs_Check.tiedCalls : CallsTied Try.prog rs_Check.calls [] 0 := (fun _ _ => rfl)
theorem rs_Check.tied : Tied Try.prog rs_Check.c 21 := tie_pure rs_Check.tiedCalls Try.func21 (by kernel_rfl) (by kernel_rfl) (by kernel_rfl) (by kernel_rfl) (by kernel_rfl) rs_Check.eq
theorem slices_Reverse_gf_Poly_byte.tiedCalls : CallsTied Try.prog slices_Reverse_gf_Poly_byte.calls [] 0 := (fun _ _ => rfl)
theorem slices_Reverse_gf_Poly_byte.tied : Tied Try.prog slices_Reverse_gf_Poly_byte.c 60 := tie_full slices_Reverse_gf_Poly_byte.tiedCalls Try.func60 (by kernel_rfl) (by kernel_rfl) (by kernel_rfl) slices_Reverse_gf_Poly_byte.eq
theorem rs_turned.tiedCalls : CallsTied Try.prog rs_turned.calls [60] 0 := ⟨⟨_, rfl, slices_Reverse_gf_Poly_byte.tied⟩, (fun j hj => by first | rfl | (match j, hj with | j + 1, _ => rfl))⟩
theorem rs_turned.tied : Tied Try.prog rs_turned.c 35 := tie_full rs_turned.tiedCalls Try.func35 (by kernel_rfl) (by kernel_rfl) (by kernel_rfl) rs_turned.eq
theorem gf_Poly_Trim.tiedCalls : CallsTied Try.prog gf_Poly_Trim.calls [] 0 := (fun _ _ => rfl)
theorem gf_Poly_Trim.tied : Tied Try.prog gf_Poly_Trim.c 61 := tie_full gf_Poly_Trim.tiedCalls Try.func61 (by kernel_rfl) (by kernel_rfl) (by kernel_rfl) gf_Poly_Trim.eq
theorem gf_Poly_Shift.tiedCalls : CallsTied Try.prog gf_Poly_Shift.calls [61] 0 := ⟨⟨_, rfl, gf_Poly_Trim.tied⟩, (fun j hj => by first | rfl | (match j, hj with | j + 1, _ => rfl))⟩
theorem gf_Poly_Shift.tied : Tied Try.prog gf_Poly_Shift.c 36 := tie_full gf_Poly_Shift.tiedCalls Try.func36 (by kernel_rfl) (by kernel_rfl) (by kernel_rfl) gf_Poly_Shift.eq
theorem gf_Mul.tiedCalls : CallsTied Try.prog gf_Mul.calls [] 0 := (fun _ _ => rfl)
theorem gf_Mul.tied : Tied Try.prog gf_Mul.c 53 := tie_pure gf_Mul.tiedCalls Try.func53 (by kernel_rfl) (by kernel_rfl) (by kernel_rfl) (by kernel_rfl) (by kernel_rfl) gf_Mul.eq
theorem gf_Pow.tiedCalls : CallsTied Try.prog gf_Pow.calls [53] 0 := ⟨⟨_, rfl, gf_Mul.tied⟩, (fun j hj => by first | rfl | (match j, hj with | j + 1, _ => rfl))⟩
theorem gf_Pow.tied : Tied Try.prog gf_Pow.c 65 := tie_pure gf_Pow.tiedCalls Try.func65 (by kernel_rfl) (by kernel_rfl) (by kernel_rfl) (by kernel_rfl) (by kernel_rfl) gf_Pow.eq
theorem gf_Root.tiedCalls : CallsTied Try.prog gf_Root.calls [65] 0 := ⟨⟨_, rfl, gf_Pow.tied⟩, (fun j hj => by first | rfl | (match j, hj with | j + 1, _ => rfl))⟩
theorem gf_Root.tied : Tied Try.prog gf_Root.c 42 := tie_pure gf_Root.tiedCalls Try.func42 (by kernel_rfl) (by kernel_rfl) (by kernel_rfl) (by kernel_rfl) (by kernel_rfl) gf_Root.eq
theorem gf_Poly_Mul.tiedCalls : CallsTied Try.prog gf_Poly_Mul.calls [53, 61] 0 := ⟨⟨_, rfl, gf_Mul.tied⟩, ⟨⟨_, rfl, gf_Poly_Trim.tied⟩, (fun j hj => by first | rfl | (match j, hj with | j + 2, _ => rfl))⟩⟩
theorem gf_Poly_Mul.tied : Tied Try.prog gf_Poly_Mul.c 47 := tie_full gf_Poly_Mul.tiedCalls Try.func47 (by kernel_rfl) (by kernel_rfl) (by kernel_rfl) gf_Poly_Mul.eq
theorem rs_divisor.tiedCalls : CallsTied Try.prog rs_divisor.calls [42, 47] 0 := ⟨⟨_, rfl, gf_Root.tied⟩, ⟨⟨_, rfl, gf_Poly_Mul.tied⟩, (fun j hj => by first | rfl | (match j, hj with | j + 2, _ => rfl))⟩⟩
theorem rs_divisor.tied : Tied Try.prog rs_divisor.c 38 := tie_full rs_divisor.tiedCalls Try.func38 (by kernel_rfl) (by kernel_rfl) (by kernel_rfl) rs_divisor.eq
theorem gf_Inv.tiedCalls : CallsTied Try.prog gf_Inv.calls [65] 0 := ⟨⟨_, rfl, gf_Pow.tied⟩, (fun j hj => by first | rfl | (match j, hj with | j + 1, _ => rfl))⟩
theorem gf_Inv.tied : Tied Try.prog gf_Inv.c 54 := tie_pure gf_Inv.tiedCalls Try.func54 (by kernel_rfl) (by kernel_rfl) (by kernel_rfl) (by kernel_rfl) (by kernel_rfl) gf_Inv.eq
theorem gf_Poly_Times.tiedCalls : CallsTied Try.prog gf_Poly_Times.calls [53, 61] 0 := ⟨⟨_, rfl, gf_Mul.tied⟩, ⟨⟨_, rfl, gf_Poly_Trim.tied⟩, (fun j hj => by first | rfl | (match j, hj with | j + 2, _ => rfl))⟩⟩
theorem gf_Poly_Times.tied : Tied Try.prog gf_Poly_Times.c 63 := tie_full gf_Poly_Times.tiedCalls Try.func63 (by kernel_rfl) (by kernel_rfl) (by kernel_rfl) gf_Poly_Times.eq
theorem gf_Poly_Add.tiedCalls : CallsTied Try.prog gf_Poly_Add.calls [61] 0 := ⟨⟨_, rfl, gf_Poly_Trim.tied⟩, (fun j hj => by first | rfl | (match j, hj with | j + 1, _ => rfl))⟩
theorem gf_Poly_Add.tied : Tied Try.prog gf_Poly_Add.c 62 := tie_full gf_Poly_Add.tiedCalls Try.func62 (by kernel_rfl) (by kernel_rfl) (by kernel_rfl) gf_Poly_Add.eq
theorem gf_Poly_Mod.tiedCalls : CallsTied Try.prog gf_Poly_Mod.calls [61, 54, 53, 63, 36, 62] 0 := ⟨⟨_, rfl, gf_Poly_Trim.tied⟩, ⟨⟨_, rfl, gf_Inv.tied⟩, ⟨⟨_, rfl, gf_Mul.tied⟩, ⟨⟨_, rfl, gf_Poly_Times.tied⟩, ⟨⟨_, rfl, gf_Poly_Shift.tied⟩, ⟨⟨_, rfl, gf_Poly_Add.tied⟩, (fun j hj => by first | rfl | (match j, hj with | j + 6, _ => rfl))⟩⟩⟩⟩⟩⟩
theorem gf_Poly_Mod.tied : Tied Try.prog gf_Poly_Mod.c 37 := tie_full gf_Poly_Mod.tiedCalls Try.func37 (by kernel_rfl) (by kernel_rfl) (by kernel_rfl) gf_Poly_Mod.eq
theorem rs_Encode.tiedCalls : CallsTied Try.prog rs_Encode.calls [21, 35, 36, 38, 37] 0 := ⟨⟨_, rfl, rs_Check.tied⟩, ⟨⟨_, rfl, rs_turned.tied⟩, ⟨⟨_, rfl, gf_Poly_Shift.tied⟩, ⟨⟨_, rfl, rs_divisor.tied⟩, ⟨⟨_, rfl, gf_Poly_Mod.tied⟩, (fun j hj => by first | rfl | (match j, hj with | j + 5, _ => rfl))⟩⟩⟩⟩⟩
theorem rs_Encode.tied : Tied Try.prog rs_Encode.c 16 := tie_pure rs_Encode.tiedCalls Try.func16 (by kernel_rfl) (by kernel_rfl) (by kernel_rfl) (by kernel_rfl) (by kernel_rfl) rs_Encode.eq
theorem weave_Encode.tiedCalls : CallsTied Try.prog weave_Encode.calls [55, 27, 29, 56, 16] 0 := ⟨⟨_, rfl, weave_fits.tied⟩, ⟨⟨_, rfl, weave_Mask.tied⟩, ⟨⟨_, rfl, weave_Mix.tied⟩, ⟨⟨_, rfl, weave_part.tied⟩, ⟨⟨_, rfl, rs_Encode.tied⟩, (fun j hj => by first | rfl | (match j, hj with | j + 5, _ => rfl))⟩⟩⟩⟩⟩
theorem weave_Encode.tied : Tied Try.prog weave_Encode.c 31 := tie_pure weave_Encode.tiedCalls Try.func31 (by kernel_rfl) (by kernel_rfl) (by kernel_rfl) (by kernel_rfl) (by kernel_rfl) weave_Encode.eq
theorem weave_holes.tiedCalls : CallsTied Try.prog weave_holes.calls [] 0 := (fun _ _ => rfl)
theorem weave_holes.tied : Tied Try.prog weave_holes.c 57 := tie_full weave_holes.tiedCalls Try.func57 (by kernel_rfl) (by kernel_rfl) (by kernel_rfl) weave_holes.eq
theorem slices_Compact_int_int.tiedCalls : CallsTied Try.prog slices_Compact_int_int.calls [] 0 := (fun _ _ => rfl)
theorem slices_Compact_int_int.tied : Tied Try.prog slices_Compact_int_int.c 67 := tie_full slices_Compact_int_int.tiedCalls Try.func67 (by kernel_rfl) (by kernel_rfl) (by kernel_rfl) slices_Compact_int_int.eq
theorem rs_lostOf.tiedCalls : CallsTied Try.prog rs_lostOf.calls [66, 67] 0 := ⟨⟨_, rfl, slices_Sort_int_int.tied⟩, ⟨⟨_, rfl, slices_Compact_int_int.tied⟩, (fun j hj => by first | rfl | (match j, hj with | j + 2, _ => rfl))⟩⟩
theorem rs_lostOf.tied : Tied Try.prog rs_lostOf.c 45 := tie_full rs_lostOf.tiedCalls Try.func45 (by kernel_rfl) (by kernel_rfl) (by kernel_rfl) rs_lostOf.eq
theorem gf_Poly_At.tiedCalls : CallsTied Try.prog gf_Poly_At.calls [53] 0 := ⟨⟨_, rfl, gf_Mul.tied⟩, (fun j hj => by first | rfl | (match j, hj with | j + 1, _ => rfl))⟩
theorem gf_Poly_At.tied : Tied Try.prog gf_Poly_At.c 41 := tie_full gf_Poly_At.tiedCalls Try.func41 (by kernel_rfl) (by kernel_rfl) (by kernel_rfl) gf_Poly_At.eq
theorem rs_Signs.tiedCalls : CallsTied Try.prog rs_Signs.calls [35, 42, 41] 0 := ⟨⟨_, rfl, rs_turned.tied⟩, ⟨⟨_, rfl, gf_Root.tied⟩, ⟨⟨_, rfl, gf_Poly_At.tied⟩, (fun j hj => by first | rfl | (match j, hj with | j + 3, _ => rfl))⟩⟩⟩
theorem rs_Signs.tied : Tied Try.prog rs_Signs.c 20 := tie_full rs_Signs.tiedCalls Try.func20 (by kernel_rfl) (by kernel_rfl) (by kernel_rfl) rs_Signs.eq
theorem rs_Right_1.tiedCalls : CallsTied Try.prog rs_Right_1.calls [] 0 := (fun _ _ => rfl)
theorem rs_Right_1.tied : Tied Try.prog rs_Right_1.c 40 := tie_pure rs_Right_1.tiedCalls Try.func40 (by kernel_rfl) (by kernel_rfl) (by kernel_rfl) (by kernel_rfl) (by kernel_rfl) rs_Right_1.eq
theorem slices_IndexFunc_byte_byte_of_rs_Right_1.tiedCalls : CallsTied Try.prog slices_IndexFunc_byte_byte_of_rs_Right_1.calls [40] 0 := ⟨⟨_, rfl, rs_Right_1.tied⟩, (fun j hj => by first | rfl | (match j, hj with | j + 1, _ => rfl))⟩
theorem slices_IndexFunc_byte_byte_of_rs_Right_1.tied : Tied Try.prog slices_IndexFunc_byte_byte_of_rs_Right_1.c 64 := tie_full slices_IndexFunc_byte_byte_of_rs_Right_1.tiedCalls Try.func64 (by kernel_rfl) (by kernel_rfl) (by kernel_rfl) slices_IndexFunc_byte_byte_of_rs_Right_1.eq
theorem slices_ContainsFunc_byte_byte_of_rs_Right_1.tiedCalls : CallsTied Try.prog slices_ContainsFunc_byte_byte_of_rs_Right_1.calls [64] 0 := ⟨⟨_, rfl, slices_IndexFunc_byte_byte_of_rs_Right_1.tied⟩, (fun j hj => by first | rfl | (match j, hj with | j + 1, _ => rfl))⟩
theorem slices_ContainsFunc_byte_byte_of_rs_Right_1.tied : Tied Try.prog slices_ContainsFunc_byte_byte_of_rs_Right_1.c 39 := tie_full slices_ContainsFunc_byte_byte_of_rs_Right_1.tiedCalls Try.func39 (by kernel_rfl) (by kernel_rfl) (by kernel_rfl) slices_ContainsFunc_byte_byte_of_rs_Right_1.eq
theorem rs_Right.tiedCalls : CallsTied Try.prog rs_Right.calls [21, 20, 39] 0 := ⟨⟨_, rfl, rs_Check.tied⟩, ⟨⟨_, rfl, rs_Signs.tied⟩, ⟨⟨_, rfl, slices_ContainsFunc_byte_byte_of_rs_Right_1.tied⟩, (fun j hj => by first | rfl | (match j, hj with | j + 3, _ => rfl))⟩⟩⟩
theorem rs_Right.tied : Tied Try.prog rs_Right.c 19 := tie_pure rs_Right.tiedCalls Try.func19 (by kernel_rfl) (by kernel_rfl) (by kernel_rfl) (by kernel_rfl) (by kernel_rfl) rs_Right.eq
theorem rs_places.tiedCalls : CallsTied Try.prog rs_places.calls [42, 47] 0 := ⟨⟨_, rfl, gf_Root.tied⟩, ⟨⟨_, rfl, gf_Poly_Mul.tied⟩, (fun j hj => by first | rfl | (match j, hj with | j + 2, _ => rfl))⟩⟩
theorem rs_places.tied : Tied Try.prog rs_places.c 46 := tie_full rs_places.tiedCalls Try.func46 (by kernel_rfl) (by kernel_rfl) (by kernel_rfl) rs_places.eq
theorem gf_Poly_Cut.tiedCalls : CallsTied Try.prog gf_Poly_Cut.calls [61] 0 := ⟨⟨_, rfl, gf_Poly_Trim.tied⟩, (fun j hj => by first | rfl | (match j, hj with | j + 1, _ => rfl))⟩
theorem gf_Poly_Cut.tied : Tied Try.prog gf_Poly_Cut.c 48 := tie_full gf_Poly_Cut.tiedCalls Try.func48 (by kernel_rfl) (by kernel_rfl) (by kernel_rfl) gf_Poly_Cut.eq
theorem gf_Poly_Degree.tiedCalls : CallsTied Try.prog gf_Poly_Degree.calls [] 0 := (fun _ _ => rfl)
theorem gf_Poly_Degree.tied : Tied Try.prog gf_Poly_Degree.c 51 := tie_full gf_Poly_Degree.tiedCalls Try.func51 (by kernel_rfl) (by kernel_rfl) (by kernel_rfl) gf_Poly_Degree.eq
theorem rs_solve.tiedCalls : CallsTied Try.prog rs_solve.calls [36, 51, 54, 53, 63, 62] 0 := ⟨⟨_, rfl, gf_Poly_Shift.tied⟩, ⟨⟨_, rfl, gf_Poly_Degree.tied⟩, ⟨⟨_, rfl, gf_Inv.tied⟩, ⟨⟨_, rfl, gf_Mul.tied⟩, ⟨⟨_, rfl, gf_Poly_Times.tied⟩, ⟨⟨_, rfl, gf_Poly_Add.tied⟩, (fun j hj => by first | rfl | (match j, hj with | j + 6, _ => rfl))⟩⟩⟩⟩⟩⟩
theorem rs_solve.tied : Tied Try.prog rs_solve.c 49 := tie_full rs_solve.tiedCalls Try.func49 (by kernel_rfl) (by kernel_rfl) (by kernel_rfl) rs_solve.eq
theorem rs_roots.tiedCalls : CallsTied Try.prog rs_roots.calls [42, 41] 0 := ⟨⟨_, rfl, gf_Root.tied⟩, ⟨⟨_, rfl, gf_Poly_At.tied⟩, (fun j hj => by first | rfl | (match j, hj with | j + 2, _ => rfl))⟩⟩
theorem rs_roots.tied : Tied Try.prog rs_roots.c 50 := tie_full rs_roots.tiedCalls Try.func50 (by kernel_rfl) (by kernel_rfl) (by kernel_rfl) rs_roots.eq
theorem gf_Poly_Slope.tiedCalls : CallsTied Try.prog gf_Poly_Slope.calls [61] 0 := ⟨⟨_, rfl, gf_Poly_Trim.tied⟩, (fun j hj => by first | rfl | (match j, hj with | j + 1, _ => rfl))⟩
theorem gf_Poly_Slope.tied : Tied Try.prog gf_Poly_Slope.c 52 := tie_full gf_Poly_Slope.tiedCalls Try.func52 (by kernel_rfl) (by kernel_rfl) (by kernel_rfl) gf_Poly_Slope.eq
theorem rs_Decode.tiedCalls : CallsTied Try.prog rs_Decode.calls [45, 21, 19, 46, 20, 47, 48, 49, 50, 51, 52, 42, 41, 54, 53] 0 := ⟨⟨_, rfl, rs_lostOf.tied⟩, ⟨⟨_, rfl, rs_Check.tied⟩, ⟨⟨_, rfl, rs_Right.tied⟩, ⟨⟨_, rfl, rs_places.tied⟩, ⟨⟨_, rfl, rs_Signs.tied⟩, ⟨⟨_, rfl, gf_Poly_Mul.tied⟩, ⟨⟨_, rfl, gf_Poly_Cut.tied⟩, ⟨⟨_, rfl, rs_solve.tied⟩, ⟨⟨_, rfl, rs_roots.tied⟩, ⟨⟨_, rfl, gf_Poly_Degree.tied⟩, ⟨⟨_, rfl, gf_Poly_Slope.tied⟩, ⟨⟨_, rfl, gf_Root.tied⟩, ⟨⟨_, rfl, gf_Poly_At.tied⟩, ⟨⟨_, rfl, gf_Inv.tied⟩, ⟨⟨_, rfl, gf_Mul.tied⟩, (fun j hj => by first | rfl | (match j, hj with | j + 15, _ => rfl))⟩⟩⟩⟩⟩⟩⟩⟩⟩⟩⟩⟩⟩⟩⟩
theorem rs_Decode.tied : Tied Try.prog rs_Decode.c 23 := tie_full rs_Decode.tiedCalls Try.func23 (by kernel_rfl) (by kernel_rfl) (by kernel_rfl) rs_Decode.eq
theorem weave_size.tiedCalls : CallsTied Try.prog weave_size.calls [] 0 := (fun _ _ => rfl)
theorem weave_size.tied : Tied Try.prog weave_size.c 58 := tie_pure weave_size.tiedCalls Try.func58 (by kernel_rfl) (by kernel_rfl) (by kernel_rfl) (by kernel_rfl) (by kernel_rfl) weave_size.eq
theorem weave_Decode.tiedCalls : CallsTied Try.prog weave_Decode.calls [55, 56, 57, 23, 58, 27, 29] 0 := ⟨⟨_, rfl, weave_fits.tied⟩, ⟨⟨_, rfl, weave_part.tied⟩, ⟨⟨_, rfl, weave_holes.tied⟩, ⟨⟨_, rfl, rs_Decode.tied⟩, ⟨⟨_, rfl, weave_size.tied⟩, ⟨⟨_, rfl, weave_Mask.tied⟩, ⟨⟨_, rfl, weave_Mix.tied⟩, (fun j hj => by first | rfl | (match j, hj with | j + 7, _ => rfl))⟩⟩⟩⟩⟩⟩⟩
theorem weave_Decode.tied : Tied Try.prog weave_Decode.c 32 := tie_full weave_Decode.tiedCalls Try.func32 (by kernel_rfl) (by kernel_rfl) (by kernel_rfl) weave_Decode.eq
theorem law29_awake.tiedCalls : CallsTied Try.prog law29_awake.calls [24, 31, 32] 0 := ⟨⟨_, rfl, weave_ShapeOf.tied⟩, ⟨⟨_, rfl, weave_Encode.tied⟩, ⟨⟨_, rfl, weave_Decode.tied⟩, (fun j hj => by first | rfl | (match j, hj with | j + 3, _ => rfl))⟩⟩⟩
theorem law29_awake.tied : Tied Try.prog law29_awake.c 26 := tie_pure law29_awake.tiedCalls Try.func26 (by kernel_rfl) (by kernel_rfl) (by kernel_rfl) (by kernel_rfl) (by kernel_rfl) law29_awake.eq
theorem law29_WeaveShapes.tiedCalls : CallsTied Try.prog law29_WeaveShapes.calls [24, 25, 26] 0 := ⟨⟨_, rfl, weave_ShapeOf.tied⟩, ⟨⟨_, rfl, ref29_Shape.tied⟩, ⟨⟨_, rfl, law29_awake.tied⟩, (fun j hj => by first | rfl | (match j, hj with | j + 3, _ => rfl))⟩⟩⟩
theorem law29_WeaveShapes.tied : Tied Try.prog law29_WeaveShapes.c 9 := tie_pure law29_WeaveShapes.tiedCalls Try.func9 (by kernel_rfl) (by kernel_rfl) (by kernel_rfl) (by kernel_rfl) (by kernel_rfl) law29_WeaveShapes.eq
theorem ref29_Mask.tiedCalls : CallsTied Try.prog ref29_Mask.calls [] 0 := (fun _ _ => rfl)
theorem ref29_Mask.tied : Tied Try.prog ref29_Mask.c 28 := tie_pure ref29_Mask.tiedCalls Try.func28 (by kernel_rfl) (by kernel_rfl) (by kernel_rfl) (by kernel_rfl) (by kernel_rfl) ref29_Mask.eq
theorem law29_WeaveMasks.tiedCalls : CallsTied Try.prog law29_WeaveMasks.calls [27, 26, 28, 29] 0 := ⟨⟨_, rfl, weave_Mask.tied⟩, ⟨⟨_, rfl, law29_awake.tied⟩, ⟨⟨_, rfl, ref29_Mask.tied⟩, ⟨⟨_, rfl, weave_Mix.tied⟩, (fun j hj => by first | rfl | (match j, hj with | j + 4, _ => rfl))⟩⟩⟩⟩
theorem law29_WeaveMasks.tied : Tied Try.prog law29_WeaveMasks.c 10 := tie_pure law29_WeaveMasks.tiedCalls Try.func10 (by kernel_rfl) (by kernel_rfl) (by kernel_rfl) (by kernel_rfl) (by kernel_rfl) law29_WeaveMasks.eq
theorem law29_page.tiedCalls : CallsTied Try.prog law29_page.calls [] 0 := (fun _ _ => rfl)
theorem law29_page.tied : Tied Try.prog law29_page.c 30 := tie_pure law29_page.tiedCalls Try.func30 (by kernel_rfl) (by kernel_rfl) (by kernel_rfl) (by kernel_rfl) (by kernel_rfl) law29_page.eq
theorem ref27_Mul.tiedCalls : CallsTied Try.prog ref27_Mul.calls [] 0 := (fun _ _ => rfl)
theorem ref27_Mul.tied : Tied Try.prog ref27_Mul.c 44 := tie_pure ref27_Mul.tiedCalls Try.func44 (by kernel_rfl) (by kernel_rfl) (by kernel_rfl) (by kernel_rfl) (by kernel_rfl) ref27_Mul.eq
theorem ref27_Pow.tiedCalls : CallsTied Try.prog ref27_Pow.calls [44] 0 := ⟨⟨_, rfl, ref27_Mul.tied⟩, (fun j hj => by first | rfl | (match j, hj with | j + 1, _ => rfl))⟩
theorem ref27_Pow.tied : Tied Try.prog ref27_Pow.c 43 := tie_pure ref27_Pow.tiedCalls Try.func43 (by kernel_rfl) (by kernel_rfl) (by kernel_rfl) (by kernel_rfl) (by kernel_rfl) ref27_Pow.eq
theorem ref29_right.tiedCalls : CallsTied Try.prog ref29_right.calls [43, 44] 0 := ⟨⟨_, rfl, ref27_Pow.tied⟩, ⟨⟨_, rfl, ref27_Mul.tied⟩, (fun j hj => by first | rfl | (match j, hj with | j + 2, _ => rfl))⟩⟩
theorem ref29_right.tied : Tied Try.prog ref29_right.c 59 := tie_pure ref29_right.tiedCalls Try.func59 (by kernel_rfl) (by kernel_rfl) (by kernel_rfl) (by kernel_rfl) (by kernel_rfl) ref29_right.eq
theorem ref29_Kept.tiedCalls : CallsTied Try.prog ref29_Kept.calls [28, 59] 0 := ⟨⟨_, rfl, ref29_Mask.tied⟩, ⟨⟨_, rfl, ref29_right.tied⟩, (fun j hj => by first | rfl | (match j, hj with | j + 2, _ => rfl))⟩⟩
theorem ref29_Kept.tied : Tied Try.prog ref29_Kept.c 33 := tie_pure ref29_Kept.tiedCalls Try.func33 (by kernel_rfl) (by kernel_rfl) (by kernel_rfl) (by kernel_rfl) (by kernel_rfl) ref29_Kept.eq
theorem law29_WeaveKeeps.tiedCalls : CallsTied Try.prog law29_WeaveKeeps.calls [24, 26, 30, 31, 32, 33] 0 := ⟨⟨_, rfl, weave_ShapeOf.tied⟩, ⟨⟨_, rfl, law29_awake.tied⟩, ⟨⟨_, rfl, law29_page.tied⟩, ⟨⟨_, rfl, weave_Encode.tied⟩, ⟨⟨_, rfl, weave_Decode.tied⟩, ⟨⟨_, rfl, ref29_Kept.tied⟩, (fun j hj => by first | rfl | (match j, hj with | j + 6, _ => rfl))⟩⟩⟩⟩⟩⟩
theorem law29_WeaveKeeps.tied : Tied Try.prog law29_WeaveKeeps.c 11 := tie_pure law29_WeaveKeeps.tiedCalls Try.func11 (by kernel_rfl) (by kernel_rfl) (by kernel_rfl) (by kernel_rfl) (by kernel_rfl) law29_WeaveKeeps.eq
theorem law29_WeaveBursts.tiedCalls : CallsTied Try.prog law29_WeaveBursts.calls [24, 26, 30, 31, 32] 0 := ⟨⟨_, rfl, weave_ShapeOf.tied⟩, ⟨⟨_, rfl, law29_awake.tied⟩, ⟨⟨_, rfl, law29_page.tied⟩, ⟨⟨_, rfl, weave_Encode.tied⟩, ⟨⟨_, rfl, weave_Decode.tied⟩, (fun j hj => by first | rfl | (match j, hj with | j + 5, _ => rfl))⟩⟩⟩⟩⟩
theorem law29_WeaveBursts.tied : Tied Try.prog law29_WeaveBursts.c 12 := tie_full law29_WeaveBursts.tiedCalls Try.func12 (by kernel_rfl) (by kernel_rfl) (by kernel_rfl) law29_WeaveBursts.eq
theorem law29_WeaveLost.tiedCalls : CallsTied Try.prog law29_WeaveLost.calls [24, 26, 30, 31, 32] 0 := ⟨⟨_, rfl, weave_ShapeOf.tied⟩, ⟨⟨_, rfl, law29_awake.tied⟩, ⟨⟨_, rfl, law29_page.tied⟩, ⟨⟨_, rfl, weave_Encode.tied⟩, ⟨⟨_, rfl, weave_Decode.tied⟩, (fun j hj => by first | rfl | (match j, hj with | j + 5, _ => rfl))⟩⟩⟩⟩⟩
theorem law29_WeaveLost.tied : Tied Try.prog law29_WeaveLost.c 13 := tie_pure law29_WeaveLost.tiedCalls Try.func13 (by kernel_rfl) (by kernel_rfl) (by kernel_rfl) (by kernel_rfl) (by kernel_rfl) law29_WeaveLost.eq
theorem weave_Erased.tiedCalls : CallsTied Try.prog weave_Erased.calls [] 0 := (fun _ _ => rfl)
theorem weave_Erased.tied : Tied Try.prog weave_Erased.c 34 := tie_pure weave_Erased.tiedCalls Try.func34 (by kernel_rfl) (by kernel_rfl) (by kernel_rfl) (by kernel_rfl) (by kernel_rfl) weave_Erased.eq
theorem law29_WeaveErased.tiedCalls : CallsTied Try.prog law29_WeaveErased.calls [26, 34] 0 := ⟨⟨_, rfl, law29_awake.tied⟩, ⟨⟨_, rfl, weave_Erased.tied⟩, (fun j hj => by first | rfl | (match j, hj with | j + 2, _ => rfl))⟩⟩
theorem law29_WeaveErased.tied : Tied Try.prog law29_WeaveErased.c 14 := tie_pure law29_WeaveErased.tiedCalls Try.func14 (by kernel_rfl) (by kernel_rfl) (by kernel_rfl) (by kernel_rfl) (by kernel_rfl) law29_WeaveErased.eq
end Ev
