/- The functions are those of the program: the kernel checks the code, one by one. Written by gen2.py. -/
import Derived.Test.YtboamjjdpmaikaaEvTie
import Derived.Test.YtboamjjdpmaikaaGRef27
import Derived.Test.YtboamjjdpmaikaaGGf
import Derived.Test.YtboamjjdpmaikaaGSlices
import Derived.Test.YtboamjjdpmaikaaGRs
import Derived.Test.YtboamjjdpmaikaaGLaw28
import Derived.Test.YtboamjjdpmaikaaSo
import Derived.Test.YtboamjjdpmaikaaProg
import Derived.KernelRfl
set_option maxRecDepth 100000
namespace Ev
open Go Go.Proofs
theorem law28_few.tiedCalls : CallsTied Try.prog law28_few.calls [] 0 := (fun _ _ => rfl)
theorem law28_few.tied : Tied Try.prog law28_few.c 15 := tie_pure law28_few.tiedCalls Try.func15 (by kernel_rfl) (by kernel_rfl) (by kernel_rfl) (by kernel_rfl) (by kernel_rfl) law28_few.eq
theorem rs_Check.tiedCalls : CallsTied Try.prog rs_Check.calls [] 0 := (fun _ _ => rfl)
theorem rs_Check.tied : Tied Try.prog rs_Check.c 21 := tie_pure rs_Check.tiedCalls Try.func21 (by kernel_rfl) (by kernel_rfl) (by kernel_rfl) (by kernel_rfl) (by kernel_rfl) rs_Check.eq
theorem slices_Reverse_gf_Poly_byte.tiedCalls : CallsTied Try.prog slices_Reverse_gf_Poly_byte.calls [] 0 := (fun _ _ => rfl)
theorem slices_Reverse_gf_Poly_byte.tied : Tied Try.prog slices_Reverse_gf_Poly_byte.c 60 := tie_full slices_Reverse_gf_Poly_byte.tiedCalls Try.func60 (by kernel_rfl) (by kernel_rfl) (by kernel_rfl) slices_Reverse_gf_Poly_byte.eq
theorem rs_turned.tiedCalls : CallsTied Try.prog rs_turned.calls [60] 0 := ⟨⟨_, rfl, slices_Reverse_gf_Poly_byte.tied⟩, (fun j hj => by first | rfl | (match j, hj with | j + 1, _ => rfl))⟩
theorem rs_turned.tied : Tied Try.prog rs_turned.c 35 := tie_full rs_turned.tiedCalls Try.func35 (by kernel_rfl) (by kernel_rfl) (by kernel_rfl) rs_turned.eq
theorem gf_Poly_Trim.tiedCalls : CallsTied Try.prog gf_Poly_Trim.calls [] 0 := (fun _ _ => rfl)
theorem gf_Poly_Trim.tied : Tied Try.prog gf_Poly_Trim.c 61 := tie_full gf_Poly_Trim.tiedCalls Try.func61 (by kernel_rfl) (by kernel_rfl) (by kernel_rfl) gf_Poly_Trim.eq
theorem gf_Poly_Shift.tiedCalls : CallsTied Try.prog gf_Poly_Shift.calls [61] 0 := ⟨⟨_, rfl, gf_Poly_Trim.tied⟩, (fun j hj => by first | rfl | (match j, hj with | j + 1, _ => rfl))⟩
theorem gf_Poly_Shift.tied : Tied Try.prog gf_Poly_Shift.c 36 := tie_full gf_Poly_Shift.tiedCalls Try.func36 (by kernel_rfl) (by kernel_rfl) (by kernel_rfl) gf_Poly_Shift.eq
theorem gf_Mul.tiedCalls : CallsTied Try.prog gf_Mul.calls [] 0 := (fun _ _ => rfl)
theorem gf_Mul.tied : Tied Try.prog gf_Mul.c 53 := tie_pure gf_Mul.tiedCalls Try.func53 (by kernel_rfl) (by kernel_rfl) (by kernel_rfl) (by kernel_rfl) (by kernel_rfl) gf_Mul.eq
theorem gf_Pow.tiedCalls : CallsTied Try.prog gf_Pow.calls [53] 0 := ⟨⟨_, rfl, gf_Mul.tied⟩, (fun j hj => by first | rfl | (match j, hj with | j + 1, _ => rfl))⟩
theorem gf_Pow.tied : Tied Try.prog gf_Pow.c 65 := tie_pure gf_Pow.tiedCalls Try.func65 (by kernel_rfl) (by kernel_rfl) (by kernel_rfl) (by kernel_rfl) (by kernel_rfl) gf_Pow.eq
theorem gf_Root.tiedCalls : CallsTied Try.prog gf_Root.calls [65] 0 := ⟨⟨_, rfl, gf_Pow.tied⟩, (fun j hj => by first | rfl | (match j, hj with | j + 1, _ => rfl))⟩
theorem gf_Root.tied : Tied Try.prog gf_Root.c 42 := tie_pure gf_Root.tiedCalls Try.func42 (by kernel_rfl) (by kernel_rfl) (by kernel_rfl) (by kernel_rfl) (by kernel_rfl) gf_Root.eq
theorem gf_Poly_Mul.tiedCalls : CallsTied Try.prog gf_Poly_Mul.calls [53, 61] 0 := ⟨⟨_, rfl, gf_Mul.tied⟩, ⟨⟨_, rfl, gf_Poly_Trim.tied⟩, (fun j hj => by first | rfl | (match j, hj with | j + 2, _ => rfl))⟩⟩
theorem gf_Poly_Mul.tied : Tied Try.prog gf_Poly_Mul.c 47 := tie_full gf_Poly_Mul.tiedCalls Try.func47 (by kernel_rfl) (by kernel_rfl) (by kernel_rfl) gf_Poly_Mul.eq
theorem rs_divisor.tiedCalls : CallsTied Try.prog rs_divisor.calls [42, 47] 0 := ⟨⟨_, rfl, gf_Root.tied⟩, ⟨⟨_, rfl, gf_Poly_Mul.tied⟩, (fun j hj => by first | rfl | (match j, hj with | j + 2, _ => rfl))⟩⟩
theorem rs_divisor.tied : Tied Try.prog rs_divisor.c 38 := tie_full rs_divisor.tiedCalls Try.func38 (by kernel_rfl) (by kernel_rfl) (by kernel_rfl) rs_divisor.eq
theorem gf_Inv.tiedCalls : CallsTied Try.prog gf_Inv.calls [65] 0 := ⟨⟨_, rfl, gf_Pow.tied⟩, (fun j hj => by first | rfl | (match j, hj with | j + 1, _ => rfl))⟩
theorem gf_Inv.tied : Tied Try.prog gf_Inv.c 54 := tie_pure gf_Inv.tiedCalls Try.func54 (by kernel_rfl) (by kernel_rfl) (by kernel_rfl) (by kernel_rfl) (by kernel_rfl) gf_Inv.eq
theorem gf_Poly_Times.tiedCalls : CallsTied Try.prog gf_Poly_Times.calls [53, 61] 0 := ⟨⟨_, rfl, gf_Mul.tied⟩, ⟨⟨_, rfl, gf_Poly_Trim.tied⟩, (fun j hj => by first | rfl | (match j, hj with | j + 2, _ => rfl))⟩⟩
theorem gf_Poly_Times.tied : Tied Try.prog gf_Poly_Times.c 63 := tie_full gf_Poly_Times.tiedCalls Try.func63 (by kernel_rfl) (by kernel_rfl) (by kernel_rfl) gf_Poly_Times.eq
theorem gf_Poly_Add.tiedCalls : CallsTied Try.prog gf_Poly_Add.calls [61] 0 := ⟨⟨_, rfl, gf_Poly_Trim.tied⟩, (fun j hj => by first | rfl | (match j, hj with | j + 1, _ => rfl))⟩
theorem gf_Poly_Add.tied : Tied Try.prog gf_Poly_Add.c 62 := tie_full gf_Poly_Add.tiedCalls Try.func62 (by kernel_rfl) (by kernel_rfl) (by kernel_rfl) gf_Poly_Add.eq
theorem gf_Poly_Mod.tiedCalls : CallsTied Try.prog gf_Poly_Mod.calls [61, 54, 53, 63, 36, 62] 0 := ⟨⟨_, rfl, gf_Poly_Trim.tied⟩, ⟨⟨_, rfl, gf_Inv.tied⟩, ⟨⟨_, rfl, gf_Mul.tied⟩, ⟨⟨_, rfl, gf_Poly_Times.tied⟩, ⟨⟨_, rfl, gf_Poly_Shift.tied⟩, ⟨⟨_, rfl, gf_Poly_Add.tied⟩, (fun j hj => by first | rfl | (match j, hj with | j + 6, _ => rfl))⟩⟩⟩⟩⟩⟩
theorem gf_Poly_Mod.tied : Tied Try.prog gf_Poly_Mod.c 37 := tie_full gf_Poly_Mod.tiedCalls Try.func37 (by kernel_rfl) (by kernel_rfl) (by kernel_rfl) gf_Poly_Mod.eq
theorem rs_Encode.tiedCalls : CallsTied Try.prog rs_Encode.calls [21, 35, 36, 38, 37] 0 := ⟨⟨_, rfl, rs_Check.tied⟩, ⟨⟨_, rfl, rs_turned.tied⟩, ⟨⟨_, rfl, gf_Poly_Shift.tied⟩, ⟨⟨_, rfl, rs_divisor.tied⟩, ⟨⟨_, rfl, gf_Poly_Mod.tied⟩, (fun j hj => by first | rfl | (match j, hj with | j + 5, _ => rfl))⟩⟩⟩⟩⟩
theorem rs_Encode.tied : Tied Try.prog rs_Encode.c 16 := tie_pure rs_Encode.tiedCalls Try.func16 (by kernel_rfl) (by kernel_rfl) (by kernel_rfl) (by kernel_rfl) (by kernel_rfl) rs_Encode.eq
theorem slices_Compact_int_int.tiedCalls : CallsTied Try.prog slices_Compact_int_int.calls [] 0 := (fun _ _ => rfl)
theorem slices_Compact_int_int.tied : Tied Try.prog slices_Compact_int_int.c 67 := tie_full slices_Compact_int_int.tiedCalls Try.func67 (by kernel_rfl) (by kernel_rfl) (by kernel_rfl) slices_Compact_int_int.eq
theorem rs_lostOf.tiedCalls : CallsTied Try.prog rs_lostOf.calls [66, 67] 0 := ⟨⟨_, rfl, slices_Sort_int_int.tied⟩, ⟨⟨_, rfl, slices_Compact_int_int.tied⟩, (fun j hj => by first | rfl | (match j, hj with | j + 2, _ => rfl))⟩⟩
theorem rs_lostOf.tied : Tied Try.prog rs_lostOf.c 45 := tie_full rs_lostOf.tiedCalls Try.func45 (by kernel_rfl) (by kernel_rfl) (by kernel_rfl) rs_lostOf.eq
theorem gf_Poly_At.tiedCalls : CallsTied Try.prog gf_Poly_At.calls [53] 0 := ⟨⟨_, rfl, gf_Mul.tied⟩, (fun j hj => by first | rfl | (match j, hj with | j + 1, _ => rfl))⟩
theorem gf_Poly_At.tied : Tied Try.prog gf_Poly_At.c 41 := tie_full gf_Poly_At.tiedCalls Try.func41 (by kernel_rfl) (by kernel_rfl) (by kernel_rfl) gf_Poly_At.eq
theorem rs_Signs.tiedCalls : CallsTied Try.prog rs_Signs.calls [35, 42, 41] 0 := ⟨⟨_, rfl, rs_turned.tied⟩, ⟨⟨_, rfl, gf_Root.tied⟩, ⟨⟨_, rfl, gf_Poly_At.tied⟩, (fun j hj => by first | rfl | (match j, hj with | j + 3, _ => rfl))⟩⟩⟩
theorem rs_Signs.tied : Tied Try.prog rs_Signs.c 20 := tie_full rs_Signs.tiedCalls Try.func20 (by kernel_rfl) (by kernel_rfl) (by kernel_rfl) rs_Signs.eq
theorem rs_Right_1.tiedCalls : CallsTied Try.prog rs_Right_1.calls [] 0 := (fun _ _ => rfl)
theorem rs_Right_1.tied : Tied Try.prog rs_Right_1.c 40 := tie_pure rs_Right_1.tiedCalls Try.func40 (by kernel_rfl) (by kernel_rfl) (by kernel_rfl) (by kernel_rfl) (by kernel_rfl) rs_Right_1.eq
theorem slices_IndexFunc_byte_byte_of_rs_Right_1.tiedCalls : CallsTied Try.prog slices_IndexFunc_byte_byte_of_rs_Right_1.calls [40] 0 := ⟨⟨_, rfl, rs_Right_1.tied⟩, (fun j hj => by first | rfl | (match j, hj with | j + 1, _ => rfl))⟩
theorem slices_IndexFunc_byte_byte_of_rs_Right_1.tied : Tied Try.prog slices_IndexFunc_byte_byte_of_rs_Right_1.c 64 := tie_full slices_IndexFunc_byte_byte_of_rs_Right_1.tiedCalls Try.func64 (by kernel_rfl) (by kernel_rfl) (by kernel_rfl) slices_IndexFunc_byte_byte_of_rs_Right_1.eq
theorem slices_ContainsFunc_byte_byte_of_rs_Right_1.tiedCalls : CallsTied Try.prog slices_ContainsFunc_byte_byte_of_rs_Right_1.calls [64] 0 := ⟨⟨_, rfl, slices_IndexFunc_byte_byte_of_rs_Right_1.tied⟩, (fun j hj => by first | rfl | (match j, hj with | j + 1, _ => rfl))⟩
theorem slices_ContainsFunc_byte_byte_of_rs_Right_1.tied : Tied Try.prog slices_ContainsFunc_byte_byte_of_rs_Right_1.c 39 := tie_full slices_ContainsFunc_byte_byte_of_rs_Right_1.tiedCalls Try.func39 (by kernel_rfl) (by kernel_rfl) (by kernel_rfl) slices_ContainsFunc_byte_byte_of_rs_Right_1.eq
theorem rs_Right.tiedCalls : CallsTied Try.prog rs_Right.calls [21, 20, 39] 0 := ⟨⟨_, rfl, rs_Check.tied⟩, ⟨⟨_, rfl, rs_Signs.tied⟩, ⟨⟨_, rfl, slices_ContainsFunc_byte_byte_of_rs_Right_1.tied⟩, (fun j hj => by first | rfl | (match j, hj with | j + 3, _ => rfl))⟩⟩⟩
theorem rs_Right.tied : Tied Try.prog rs_Right.c 19 := tie_pure rs_Right.tiedCalls Try.func19 (by kernel_rfl) (by kernel_rfl) (by kernel_rfl) (by kernel_rfl) (by kernel_rfl) rs_Right.eq
theorem rs_places.tiedCalls : CallsTied Try.prog rs_places.calls [42, 47] 0 := ⟨⟨_, rfl, gf_Root.tied⟩, ⟨⟨_, rfl, gf_Poly_Mul.tied⟩, (fun j hj => by first | rfl | (match j, hj with | j + 2, _ => rfl))⟩⟩
theorem rs_places.tied : Tied Try.prog rs_places.c 46 := tie_full rs_places.tiedCalls Try.func46 (by kernel_rfl) (by kernel_rfl) (by kernel_rfl) rs_places.eq
theorem gf_Poly_Cut.tiedCalls : CallsTied Try.prog gf_Poly_Cut.calls [61] 0 := ⟨⟨_, rfl, gf_Poly_Trim.tied⟩, (fun j hj => by first | rfl | (match j, hj with | j + 1, _ => rfl))⟩
theorem gf_Poly_Cut.tied : Tied Try.prog gf_Poly_Cut.c 48 := tie_full gf_Poly_Cut.tiedCalls Try.func48 (by kernel_rfl) (by kernel_rfl) (by kernel_rfl) gf_Poly_Cut.eq
theorem gf_Poly_Degree.tiedCalls : CallsTied Try.prog gf_Poly_Degree.calls [] 0 := (fun _ _ => rfl)
theorem gf_Poly_Degree.tied : Tied Try.prog gf_Poly_Degree.c 51 := tie_full gf_Poly_Degree.tiedCalls Try.func51 (by kernel_rfl) (by kernel_rfl) (by kernel_rfl) gf_Poly_Degree.eq
theorem rs_solve.tiedCalls : CallsTied Try.prog rs_solve.calls [36, 51, 54, 53, 63, 62] 0 := ⟨⟨_, rfl, gf_Poly_Shift.tied⟩, ⟨⟨_, rfl, gf_Poly_Degree.tied⟩, ⟨⟨_, rfl, gf_Inv.tied⟩, ⟨⟨_, rfl, gf_Mul.tied⟩, ⟨⟨_, rfl, gf_Poly_Times.tied⟩, ⟨⟨_, rfl, gf_Poly_Add.tied⟩, (fun j hj => by first | rfl | (match j, hj with | j + 6, _ => rfl))⟩⟩⟩⟩⟩⟩
theorem rs_solve.tied : Tied Try.prog rs_solve.c 49 := tie_full rs_solve.tiedCalls Try.func49 (by kernel_rfl) (by kernel_rfl) (by kernel_rfl) rs_solve.eq
theorem rs_roots.tiedCalls : CallsTied Try.prog rs_roots.calls [42, 41] 0 := ⟨⟨_, rfl, gf_Root.tied⟩, ⟨⟨_, rfl, gf_Poly_At.tied⟩, (fun j hj => by first | rfl | (match j, hj with | j + 2, _ => rfl))⟩⟩
theorem rs_roots.tied : Tied Try.prog rs_roots.c 50 := tie_full rs_roots.tiedCalls Try.func50 (by kernel_rfl) (by kernel_rfl) (by kernel_rfl) rs_roots.eq
theorem gf_Poly_Slope.tiedCalls : CallsTied Try.prog gf_Poly_Slope.calls [61] 0 := ⟨⟨_, rfl, gf_Poly_Trim.tied⟩, (fun j hj => by first | rfl | (match j, hj with | j + 1, _ => rfl))⟩
theorem gf_Poly_Slope.tied : Tied Try.prog gf_Poly_Slope.c 52 := tie_full gf_Poly_Slope.tiedCalls Try.func52 (by kernel_rfl) (by kernel_rfl) (by kernel_rfl) gf_Poly_Slope.eq
theorem rs_Decode.tiedCalls : CallsTied Try.prog rs_Decode.calls [45, 21, 19, 46, 20, 47, 48, 49, 50, 51, 52, 42, 41, 54, 53] 0 := ⟨⟨_, rfl, rs_lostOf.tied⟩, ⟨⟨_, rfl, rs_Check.tied⟩, ⟨⟨_, rfl, rs_Right.tied⟩, ⟨⟨_, rfl, rs_places.tied⟩, ⟨⟨_, rfl, rs_Signs.tied⟩, ⟨⟨_, rfl, gf_Poly_Mul.tied⟩, ⟨⟨_, rfl, gf_Poly_Cut.tied⟩, ⟨⟨_, rfl, rs_solve.tied⟩, ⟨⟨_, rfl, rs_roots.tied⟩, ⟨⟨_, rfl, gf_Poly_Degree.tied⟩, ⟨⟨_, rfl, gf_Poly_Slope.tied⟩, ⟨⟨_, rfl, gf_Root.tied⟩, ⟨⟨_, rfl, gf_Poly_At.tied⟩, ⟨⟨_, rfl, gf_Inv.tied⟩, ⟨⟨_, rfl, gf_Mul.tied⟩, (fun j hj => by first | rfl | (match j, hj with | j + 15, _ => rfl))⟩⟩⟩⟩⟩⟩⟩⟩⟩⟩⟩⟩⟩⟩⟩
theorem rs_Decode.tied : Tied Try.prog rs_Decode.c 23 := tie_full rs_Decode.tiedCalls Try.func23 (by kernel_rfl) (by kernel_rfl) (by kernel_rfl) rs_Decode.eq
theorem law28_awake.tiedCalls : CallsTied Try.prog law28_awake.calls [16, 23, 19] 0 := ⟨⟨_, rfl, rs_Encode.tied⟩, ⟨⟨_, rfl, rs_Decode.tied⟩, ⟨⟨_, rfl, rs_Right.tied⟩, (fun j hj => by first | rfl | (match j, hj with | j + 3, _ => rfl))⟩⟩⟩
theorem law28_awake.tied : Tied Try.prog law28_awake.c 17 := tie_pure law28_awake.tiedCalls Try.func17 (by kernel_rfl) (by kernel_rfl) (by kernel_rfl) (by kernel_rfl) (by kernel_rfl) law28_awake.eq
theorem ref27_Mul.tiedCalls : CallsTied Try.prog ref27_Mul.calls [] 0 := (fun _ _ => rfl)
theorem ref27_Mul.tied : Tied Try.prog ref27_Mul.c 44 := tie_pure ref27_Mul.tiedCalls Try.func44 (by kernel_rfl) (by kernel_rfl) (by kernel_rfl) (by kernel_rfl) (by kernel_rfl) ref27_Mul.eq
theorem ref27_Pow.tiedCalls : CallsTied Try.prog ref27_Pow.calls [44] 0 := ⟨⟨_, rfl, ref27_Mul.tied⟩, (fun j hj => by first | rfl | (match j, hj with | j + 1, _ => rfl))⟩
theorem ref27_Pow.tied : Tied Try.prog ref27_Pow.c 43 := tie_pure ref27_Pow.tiedCalls Try.func43 (by kernel_rfl) (by kernel_rfl) (by kernel_rfl) (by kernel_rfl) (by kernel_rfl) ref27_Pow.eq
theorem law28_sign.tiedCalls : CallsTied Try.prog law28_sign.calls [43, 44] 0 := ⟨⟨_, rfl, ref27_Pow.tied⟩, ⟨⟨_, rfl, ref27_Mul.tied⟩, (fun j hj => by first | rfl | (match j, hj with | j + 2, _ => rfl))⟩⟩
theorem law28_sign.tied : Tied Try.prog law28_sign.c 22 := tie_pure law28_sign.tiedCalls Try.func22 (by kernel_rfl) (by kernel_rfl) (by kernel_rfl) (by kernel_rfl) (by kernel_rfl) law28_sign.eq
theorem law28_right.tiedCalls : CallsTied Try.prog law28_right.calls [22] 0 := ⟨⟨_, rfl, law28_sign.tied⟩, (fun j hj => by first | rfl | (match j, hj with | j + 1, _ => rfl))⟩
theorem law28_right.tied : Tied Try.prog law28_right.c 18 := tie_pure law28_right.tiedCalls Try.func18 (by kernel_rfl) (by kernel_rfl) (by kernel_rfl) (by kernel_rfl) (by kernel_rfl) law28_right.eq
theorem law28_RsEncodes.tiedCalls : CallsTied Try.prog law28_RsEncodes.calls [15, 16, 17, 18, 19] 0 := ⟨⟨_, rfl, law28_few.tied⟩, ⟨⟨_, rfl, rs_Encode.tied⟩, ⟨⟨_, rfl, law28_awake.tied⟩, ⟨⟨_, rfl, law28_right.tied⟩, ⟨⟨_, rfl, rs_Right.tied⟩, (fun j hj => by first | rfl | (match j, hj with | j + 5, _ => rfl))⟩⟩⟩⟩⟩
theorem law28_RsEncodes.tied : Tied Try.prog law28_RsEncodes.c 3 := tie_pure law28_RsEncodes.tiedCalls Try.func3 (by kernel_rfl) (by kernel_rfl) (by kernel_rfl) (by kernel_rfl) (by kernel_rfl) law28_RsEncodes.eq
theorem law28_RsSigns.tiedCalls : CallsTied Try.prog law28_RsSigns.calls [15, 20, 17, 21, 19, 18, 22] 0 := ⟨⟨_, rfl, law28_few.tied⟩, ⟨⟨_, rfl, rs_Signs.tied⟩, ⟨⟨_, rfl, law28_awake.tied⟩, ⟨⟨_, rfl, rs_Check.tied⟩, ⟨⟨_, rfl, rs_Right.tied⟩, ⟨⟨_, rfl, law28_right.tied⟩, ⟨⟨_, rfl, law28_sign.tied⟩, (fun j hj => by first | rfl | (match j, hj with | j + 7, _ => rfl))⟩⟩⟩⟩⟩⟩⟩
theorem law28_RsSigns.tied : Tied Try.prog law28_RsSigns.c 4 := tie_pure law28_RsSigns.tiedCalls Try.func4 (by kernel_rfl) (by kernel_rfl) (by kernel_rfl) (by kernel_rfl) (by kernel_rfl) law28_RsSigns.eq
theorem law28_RsDecodes.tiedCalls : CallsTied Try.prog law28_RsDecodes.calls [15, 16, 17, 23] 0 := ⟨⟨_, rfl, law28_few.tied⟩, ⟨⟨_, rfl, rs_Encode.tied⟩, ⟨⟨_, rfl, law28_awake.tied⟩, ⟨⟨_, rfl, rs_Decode.tied⟩, (fun j hj => by first | rfl | (match j, hj with | j + 4, _ => rfl))⟩⟩⟩⟩
theorem law28_RsDecodes.tied : Tied Try.prog law28_RsDecodes.c 5 := tie_full law28_RsDecodes.tiedCalls Try.func5 (by kernel_rfl) (by kernel_rfl) (by kernel_rfl) law28_RsDecodes.eq
theorem law28_RsAny.tiedCalls : CallsTied Try.prog law28_RsAny.calls [15, 23, 17, 18] 0 := ⟨⟨_, rfl, law28_few.tied⟩, ⟨⟨_, rfl, rs_Decode.tied⟩, ⟨⟨_, rfl, law28_awake.tied⟩, ⟨⟨_, rfl, law28_right.tied⟩, (fun j hj => by first | rfl | (match j, hj with | j + 4, _ => rfl))⟩⟩⟩⟩
theorem law28_RsAny.tied : Tied Try.prog law28_RsAny.c 6 := tie_full law28_RsAny.tiedCalls Try.func6 (by kernel_rfl) (by kernel_rfl) (by kernel_rfl) law28_RsAny.eq
theorem law28_RsOne.tiedCalls : CallsTied Try.prog law28_RsOne.calls [15, 17, 23, 18] 0 := ⟨⟨_, rfl, law28_few.tied⟩, ⟨⟨_, rfl, law28_awake.tied⟩, ⟨⟨_, rfl, rs_Decode.tied⟩, ⟨⟨_, rfl, law28_right.tied⟩, (fun j hj => by first | rfl | (match j, hj with | j + 4, _ => rfl))⟩⟩⟩⟩
theorem law28_RsOne.tied : Tied Try.prog law28_RsOne.c 7 := tie_pure law28_RsOne.tiedCalls Try.func7 (by kernel_rfl) (by kernel_rfl) (by kernel_rfl) (by kernel_rfl) (by kernel_rfl) law28_RsOne.eq
theorem law28_RsFar.tiedCalls : CallsTied Try.prog law28_RsFar.calls [15, 16, 17] 0 := ⟨⟨_, rfl, law28_few.tied⟩, ⟨⟨_, rfl, rs_Encode.tied⟩, ⟨⟨_, rfl, law28_awake.tied⟩, (fun j hj => by first | rfl | (match j, hj with | j + 3, _ => rfl))⟩⟩⟩
theorem law28_RsFar.tied : Tied Try.prog law28_RsFar.c 8 := tie_pure law28_RsFar.tiedCalls Try.func8 (by kernel_rfl) (by kernel_rfl) (by kernel_rfl) (by kernel_rfl) (by kernel_rfl) law28_RsFar.eq
end Ev
