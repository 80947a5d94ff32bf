/- The functions are those of the program: the kernel checks the code, one by one. Written by gen2.py. -/
import Derived.Test.YtpebaginkkbnpaaGreatEvTie
import Derived.Test.YtpebaginkkbnpaaGreatGSlices
import Derived.Test.YtpebaginkkbnpaaGreatGNand
import Derived.Test.YtpebaginkkbnpaaGreatGGf
import Derived.Test.YtpebaginkkbnpaaGreatGRs
import Derived.Test.YtpebaginkkbnpaaGreatGWeave
import Derived.Test.YtpebaginkkbnpaaGreatGCell
import Derived.Test.YtpebaginkkbnpaaGreatGLaw30
import Derived.Test.YtpebaginkkbnpaaGreatSo
import Derived.Test.YtpebaginkkbnpaaGreatSh
import Derived.Test.YtpebaginkkbnpaaGreatPa
import Derived.Test.YtpebaginkkbnpaaGreatProg
import Derived.KernelRfl
set_option maxRecDepth 100000
namespace Ev
open Go Go.Proofs
theorem law30_geometry.tiedCalls : CallsTied Tryz.prog law30_geometry.calls [] 0 := (fun _ _ => rfl)
theorem law30_geometry.tied : Tied Tryz.prog law30_geometry.c 8 := tie_pure law30_geometry.tiedCalls Tryz.func8 (by kernel_rfl) (by kernel_rfl) (by kernel_rfl) (by kernel_rfl) (by kernel_rfl) law30_geometry.eq
theorem law30_noise.tiedCalls : CallsTied Tryz.prog law30_noise.calls [] 0 := (fun _ _ => rfl)
theorem law30_noise.tied : Tied Tryz.prog law30_noise.c 17 := tie_full law30_noise.tiedCalls Tryz.func17 (by kernel_rfl) (by kernel_rfl) (by kernel_rfl) law30_noise.eq
theorem weave_ShapeOf.tiedCalls : CallsTied Tryz.prog weave_ShapeOf.calls [] 0 := (fun _ _ => rfl)
theorem weave_ShapeOf.tied : Tied Tryz.prog weave_ShapeOf.c 47 := tie_pure weave_ShapeOf.tiedCalls Tryz.func47 (by kernel_rfl) (by kernel_rfl) (by kernel_rfl) (by kernel_rfl) (by kernel_rfl) weave_ShapeOf.eq
theorem nand_Check.tiedCalls : CallsTied Tryz.prog nand_Check.calls [] 0 := (fun _ _ => rfl)
theorem nand_Check.tied : Tied Tryz.prog nand_Check.c 25 := tie_pure nand_Check.tiedCalls Tryz.func25 (by kernel_rfl) (by kernel_rfl) (by kernel_rfl) (by kernel_rfl) (by kernel_rfl) nand_Check.eq
theorem cell_Raw.tiedCalls : CallsTied Tryz.prog cell_Raw.calls [47, 25] 0 := ⟨⟨_, rfl, weave_ShapeOf.tied⟩, ⟨⟨_, rfl, nand_Check.tied⟩, (fun j hj => by first | rfl | (match j, hj with | j + 2, _ => rfl))⟩⟩
theorem cell_Raw.tied : Tied Tryz.prog cell_Raw.c 24 := tie_pure cell_Raw.tiedCalls Tryz.func24 (by kernel_rfl) (by kernel_rfl) (by kernel_rfl) (by kernel_rfl) (by kernel_rfl) cell_Raw.eq
theorem slices_Clone_api_Cut_api_Cut.tiedCalls : CallsTied Tryz.prog slices_Clone_api_Cut_api_Cut.calls [] 0 := (fun _ _ => rfl)
theorem slices_Clone_api_Cut_api_Cut.tied : Tied Tryz.prog slices_Clone_api_Cut_api_Cut.c 38 := tie_full slices_Clone_api_Cut_api_Cut.tiedCalls Tryz.func38 (by kernel_rfl) (by kernel_rfl) (by kernel_rfl) slices_Clone_api_Cut_api_Cut.eq
theorem slices_Clone_int_int.tiedCalls : CallsTied Tryz.prog slices_Clone_int_int.calls [] 0 := (fun _ _ => rfl)
theorem slices_Clone_int_int.tied : Tied Tryz.prog slices_Clone_int_int.c 39 := tie_full slices_Clone_int_int.tiedCalls Tryz.func39 (by kernel_rfl) (by kernel_rfl) (by kernel_rfl) slices_Clone_int_int.eq
theorem slices_Index_int_int.tiedCalls : CallsTied Tryz.prog slices_Index_int_int.calls [] 0 := (fun _ _ => rfl)
theorem slices_Index_int_int.tied : Tied Tryz.prog slices_Index_int_int.c 62 := tie_full slices_Index_int_int.tiedCalls Tryz.func62 (by kernel_rfl) (by kernel_rfl) (by kernel_rfl) slices_Index_int_int.eq
theorem slices_Contains_int_int.tiedCalls : CallsTied Tryz.prog slices_Contains_int_int.calls [62] 0 := ⟨⟨_, rfl, slices_Index_int_int.tied⟩, (fun j hj => by first | rfl | (match j, hj with | j + 1, _ => rfl))⟩
theorem slices_Contains_int_int.tied : Tied Tryz.prog slices_Contains_int_int.c 40 := tie_full slices_Contains_int_int.tiedCalls Tryz.func40 (by kernel_rfl) (by kernel_rfl) (by kernel_rfl) slices_Contains_int_int.eq
theorem nand_New.tiedCalls : CallsTied Tryz.prog nand_New.calls [25, 38, 39, 40] 0 := ⟨⟨_, rfl, nand_Check.tied⟩, ⟨⟨_, rfl, slices_Clone_api_Cut_api_Cut.tied⟩, ⟨⟨_, rfl, slices_Clone_int_int.tied⟩, ⟨⟨_, rfl, slices_Contains_int_int.tied⟩, (fun j hj => by first | rfl | (match j, hj with | j + 4, _ => rfl))⟩⟩⟩⟩
theorem nand_New.tied : Tied Tryz.prog nand_New.c 18 := tie_full nand_New.tiedCalls Tryz.func18 (by kernel_rfl) (by kernel_rfl) (by kernel_rfl) nand_New.eq
theorem slices_Clone_api_Noise_api_Noise.tiedCalls : CallsTied Tryz.prog slices_Clone_api_Noise_api_Noise.calls [] 0 := (fun _ _ => rfl)
theorem slices_Clone_api_Noise_api_Noise.tied : Tied Tryz.prog slices_Clone_api_Noise_api_Noise.c 30 := tie_full slices_Clone_api_Noise_api_Noise.tiedCalls Tryz.func30 (by kernel_rfl) (by kernel_rfl) (by kernel_rfl) slices_Clone_api_Noise_api_Noise.eq
theorem cell_New.tiedCalls : CallsTied Tryz.prog cell_New.calls [24, 18, 30] 0 := ⟨⟨_, rfl, cell_Raw.tied⟩, ⟨⟨_, rfl, nand_New.tied⟩, ⟨⟨_, rfl, slices_Clone_api_Noise_api_Noise.tied⟩, (fun j hj => by first | rfl | (match j, hj with | j + 3, _ => rfl))⟩⟩⟩
theorem cell_New.tied : Tied Tryz.prog cell_New.c 7 := tie_full cell_New.tiedCalls Tryz.func7 (by kernel_rfl) (by kernel_rfl) (by kernel_rfl) cell_New.eq
theorem law30_text.tiedCalls : CallsTied Tryz.prog law30_text.calls [] 0 := (fun _ _ => rfl)
theorem law30_text.tied : Tied Tryz.prog law30_text.c 11 := tie_pure law30_text.tiedCalls Tryz.func11 (by kernel_rfl) (by kernel_rfl) (by kernel_rfl) (by kernel_rfl) (by kernel_rfl) law30_text.eq
theorem nand_Chip_in.tiedCalls : CallsTied Tryz.prog nand_Chip_in.calls [] 0 := (fun _ _ => rfl)
theorem nand_Chip_in.tied : Tied Tryz.prog nand_Chip_in.c 41 := tie_full nand_Chip_in.tiedCalls Tryz.func41 (by kernel_rfl) (by kernel_rfl) (by kernel_rfl) nand_Chip_in.eq
theorem nand_Chip_full.tiedCalls : CallsTied Tryz.prog nand_Chip_full.calls [33] 0 := ⟨⟨_, rfl, strings_Repeat.tied⟩, (fun j hj => by first | rfl | (match j, hj with | j + 1, _ => rfl))⟩
theorem nand_Chip_full.tied : Tied Tryz.prog nand_Chip_full.c 46 := tie_full nand_Chip_full.tiedCalls Tryz.func46 (by kernel_rfl) (by kernel_rfl) (by kernel_rfl) nand_Chip_full.eq
theorem nand_Chip_Read.tiedCalls : CallsTied Tryz.prog nand_Chip_Read.calls [41, 46] 0 := ⟨⟨_, rfl, nand_Chip_in.tied⟩, ⟨⟨_, rfl, nand_Chip_full.tied⟩, (fun j hj => by first | rfl | (match j, hj with | j + 2, _ => rfl))⟩⟩
theorem nand_Chip_Read.tied : Tied Tryz.prog nand_Chip_Read.c 22 := tie_full nand_Chip_Read.tiedCalls Tryz.func22 (by kernel_rfl) (by kernel_rfl) (by kernel_rfl) nand_Chip_Read.eq
theorem cell_Cells_at.tiedCalls : CallsTied Tryz.prog cell_Cells_at.calls [] 0 := (fun _ _ => rfl)
theorem cell_Cells_at.tied : Tied Tryz.prog cell_Cells_at.c 34 := tie_full cell_Cells_at.tiedCalls Tryz.func34 (by kernel_rfl) (by kernel_rfl) (by kernel_rfl) cell_Cells_at.eq
theorem cell_Cells_mask.tiedCalls : CallsTied Tryz.prog cell_Cells_mask.calls [34] 0 := ⟨⟨_, rfl, cell_Cells_at.tied⟩, (fun j hj => by first | rfl | (match j, hj with | j + 1, _ => rfl))⟩
theorem cell_Cells_mask.tied : Tied Tryz.prog cell_Cells_mask.c 32 := tie_full cell_Cells_mask.tiedCalls Tryz.func32 (by kernel_rfl) (by kernel_rfl) (by kernel_rfl) cell_Cells_mask.eq
theorem weave_fits.tiedCalls : CallsTied Tryz.prog weave_fits.calls [47] 0 := ⟨⟨_, rfl, weave_ShapeOf.tied⟩, (fun j hj => by first | rfl | (match j, hj with | j + 1, _ => rfl))⟩
theorem weave_fits.tied : Tied Tryz.prog weave_fits.c 48 := tie_pure weave_fits.tiedCalls Tryz.func48 (by kernel_rfl) (by kernel_rfl) (by kernel_rfl) (by kernel_rfl) (by kernel_rfl) weave_fits.eq
theorem weave_Mask.tiedCalls : CallsTied Tryz.prog weave_Mask.calls [] 0 := (fun _ _ => rfl)
theorem weave_Mask.tied : Tied Tryz.prog weave_Mask.c 50 := tie_pure weave_Mask.tiedCalls Tryz.func50 (by kernel_rfl) (by kernel_rfl) (by kernel_rfl) (by kernel_rfl) (by kernel_rfl) weave_Mask.eq
theorem weave_Mix.tiedCalls : CallsTied Tryz.prog weave_Mix.calls [] 0 := (fun _ _ => rfl)
theorem weave_Mix.tied : Tied Tryz.prog weave_Mix.c 49 := tie_pure weave_Mix.tiedCalls Tryz.func49 (by kernel_rfl) (by kernel_rfl) (by kernel_rfl) (by kernel_rfl) (by kernel_rfl) weave_Mix.eq
theorem rs_Check.tiedCalls : CallsTied Tryz.prog rs_Check.calls [] 0 := (fun _ _ => rfl)
theorem rs_Check.tied : Tied Tryz.prog rs_Check.c 63 := tie_pure rs_Check.tiedCalls Tryz.func63 (by kernel_rfl) (by kernel_rfl) (by kernel_rfl) (by kernel_rfl) (by kernel_rfl) rs_Check.eq
theorem slices_Reverse_gf_Poly_byte.tiedCalls : CallsTied Tryz.prog slices_Reverse_gf_Poly_byte.calls [] 0 := (fun _ _ => rfl)
theorem slices_Reverse_gf_Poly_byte.tied : Tied Tryz.prog slices_Reverse_gf_Poly_byte.c 88 := tie_full slices_Reverse_gf_Poly_byte.tiedCalls Tryz.func88 (by kernel_rfl) (by kernel_rfl) (by kernel_rfl) slices_Reverse_gf_Poly_byte.eq
theorem rs_turned.tiedCalls : CallsTied Tryz.prog rs_turned.calls [88] 0 := ⟨⟨_, rfl, slices_Reverse_gf_Poly_byte.tied⟩, (fun j hj => by first | rfl | (match j, hj with | j + 1, _ => rfl))⟩
theorem rs_turned.tied : Tied Tryz.prog rs_turned.c 64 := tie_full rs_turned.tiedCalls Tryz.func64 (by kernel_rfl) (by kernel_rfl) (by kernel_rfl) rs_turned.eq
theorem gf_Poly_Trim.tiedCalls : CallsTied Tryz.prog gf_Poly_Trim.calls [] 0 := (fun _ _ => rfl)
theorem gf_Poly_Trim.tied : Tied Tryz.prog gf_Poly_Trim.c 89 := tie_full gf_Poly_Trim.tiedCalls Tryz.func89 (by kernel_rfl) (by kernel_rfl) (by kernel_rfl) gf_Poly_Trim.eq
theorem gf_Poly_Shift.tiedCalls : CallsTied Tryz.prog gf_Poly_Shift.calls [89] 0 := ⟨⟨_, rfl, gf_Poly_Trim.tied⟩, (fun j hj => by first | rfl | (match j, hj with | j + 1, _ => rfl))⟩
theorem gf_Poly_Shift.tied : Tied Tryz.prog gf_Poly_Shift.c 65 := tie_full gf_Poly_Shift.tiedCalls Tryz.func65 (by kernel_rfl) (by kernel_rfl) (by kernel_rfl) gf_Poly_Shift.eq
theorem gf_Mul.tiedCalls : CallsTied Tryz.prog gf_Mul.calls [] 0 := (fun _ _ => rfl)
theorem gf_Mul.tied : Tied Tryz.prog gf_Mul.c 86 := tie_pure gf_Mul.tiedCalls Tryz.func86 (by kernel_rfl) (by kernel_rfl) (by kernel_rfl) (by kernel_rfl) (by kernel_rfl) gf_Mul.eq
theorem gf_Pow.tiedCalls : CallsTied Tryz.prog gf_Pow.calls [86] 0 := ⟨⟨_, rfl, gf_Mul.tied⟩, (fun j hj => by first | rfl | (match j, hj with | j + 1, _ => rfl))⟩
theorem gf_Pow.tied : Tied Tryz.prog gf_Pow.c 98 := tie_pure gf_Pow.tiedCalls Tryz.func98 (by kernel_rfl) (by kernel_rfl) (by kernel_rfl) (by kernel_rfl) (by kernel_rfl) gf_Pow.eq
theorem gf_Root.tiedCalls : CallsTied Tryz.prog gf_Root.calls [98] 0 := ⟨⟨_, rfl, gf_Pow.tied⟩, (fun j hj => by first | rfl | (match j, hj with | j + 1, _ => rfl))⟩
theorem gf_Root.tied : Tied Tryz.prog gf_Root.c 84 := tie_pure gf_Root.tiedCalls Tryz.func84 (by kernel_rfl) (by kernel_rfl) (by kernel_rfl) (by kernel_rfl) (by kernel_rfl) gf_Root.eq
theorem gf_Poly_Mul.tiedCalls : CallsTied Tryz.prog gf_Poly_Mul.calls [86, 89] 0 := ⟨⟨_, rfl, gf_Mul.tied⟩, ⟨⟨_, rfl, gf_Poly_Trim.tied⟩, (fun j hj => by first | rfl | (match j, hj with | j + 2, _ => rfl))⟩⟩
theorem gf_Poly_Mul.tied : Tied Tryz.prog gf_Poly_Mul.c 78 := tie_full gf_Poly_Mul.tiedCalls Tryz.func78 (by kernel_rfl) (by kernel_rfl) (by kernel_rfl) gf_Poly_Mul.eq
theorem rs_divisor.tiedCalls : CallsTied Tryz.prog rs_divisor.calls [84, 78] 0 := ⟨⟨_, rfl, gf_Root.tied⟩, ⟨⟨_, rfl, gf_Poly_Mul.tied⟩, (fun j hj => by first | rfl | (match j, hj with | j + 2, _ => rfl))⟩⟩
theorem rs_divisor.tied : Tied Tryz.prog rs_divisor.c 67 := tie_full rs_divisor.tiedCalls Tryz.func67 (by kernel_rfl) (by kernel_rfl) (by kernel_rfl) rs_divisor.eq
theorem gf_Inv.tiedCalls : CallsTied Tryz.prog gf_Inv.calls [98] 0 := ⟨⟨_, rfl, gf_Pow.tied⟩, (fun j hj => by first | rfl | (match j, hj with | j + 1, _ => rfl))⟩
theorem gf_Inv.tied : Tied Tryz.prog gf_Inv.c 87 := tie_pure gf_Inv.tiedCalls Tryz.func87 (by kernel_rfl) (by kernel_rfl) (by kernel_rfl) (by kernel_rfl) (by kernel_rfl) gf_Inv.eq
theorem gf_Poly_Times.tiedCalls : CallsTied Tryz.prog gf_Poly_Times.calls [86, 89] 0 := ⟨⟨_, rfl, gf_Mul.tied⟩, ⟨⟨_, rfl, gf_Poly_Trim.tied⟩, (fun j hj => by first | rfl | (match j, hj with | j + 2, _ => rfl))⟩⟩
theorem gf_Poly_Times.tied : Tied Tryz.prog gf_Poly_Times.c 91 := tie_full gf_Poly_Times.tiedCalls Tryz.func91 (by kernel_rfl) (by kernel_rfl) (by kernel_rfl) gf_Poly_Times.eq
theorem gf_Poly_Add.tiedCalls : CallsTied Tryz.prog gf_Poly_Add.calls [89] 0 := ⟨⟨_, rfl, gf_Poly_Trim.tied⟩, (fun j hj => by first | rfl | (match j, hj with | j + 1, _ => rfl))⟩
theorem gf_Poly_Add.tied : Tied Tryz.prog gf_Poly_Add.c 90 := tie_full gf_Poly_Add.tiedCalls Tryz.func90 (by kernel_rfl) (by kernel_rfl) (by kernel_rfl) gf_Poly_Add.eq
theorem gf_Poly_Mod.tiedCalls : CallsTied Tryz.prog gf_Poly_Mod.calls [89, 87, 86, 91, 65, 90] 0 := ⟨⟨_, rfl, gf_Poly_Trim.tied⟩, ⟨⟨_, rfl, gf_Inv.tied⟩, ⟨⟨_, rfl, gf_Mul.tied⟩, ⟨⟨_, rfl, gf_Poly_Times.tied⟩, ⟨⟨_, rfl, gf_Poly_Shift.tied⟩, ⟨⟨_, rfl, gf_Poly_Add.tied⟩, (fun j hj => by first | rfl | (match j, hj with | j + 6, _ => rfl))⟩⟩⟩⟩⟩⟩
theorem gf_Poly_Mod.tied : Tied Tryz.prog gf_Poly_Mod.c 66 := tie_full gf_Poly_Mod.tiedCalls Tryz.func66 (by kernel_rfl) (by kernel_rfl) (by kernel_rfl) gf_Poly_Mod.eq
theorem rs_Encode.tiedCalls : CallsTied Tryz.prog rs_Encode.calls [63, 64, 65, 67, 66] 0 := ⟨⟨_, rfl, rs_Check.tied⟩, ⟨⟨_, rfl, rs_turned.tied⟩, ⟨⟨_, rfl, gf_Poly_Shift.tied⟩, ⟨⟨_, rfl, rs_divisor.tied⟩, ⟨⟨_, rfl, gf_Poly_Mod.tied⟩, (fun j hj => by first | rfl | (match j, hj with | j + 5, _ => rfl))⟩⟩⟩⟩⟩
theorem rs_Encode.tied : Tied Tryz.prog rs_Encode.c 51 := tie_pure rs_Encode.tiedCalls Tryz.func51 (by kernel_rfl) (by kernel_rfl) (by kernel_rfl) (by kernel_rfl) (by kernel_rfl) rs_Encode.eq
theorem weave_Encode.tiedCalls : CallsTied Tryz.prog weave_Encode.calls [48, 50, 49, 52, 51] 0 := ⟨⟨_, rfl, weave_fits.tied⟩, ⟨⟨_, rfl, weave_Mask.tied⟩, ⟨⟨_, rfl, weave_Mix.tied⟩, ⟨⟨_, rfl, weave_part.tied⟩, ⟨⟨_, rfl, rs_Encode.tied⟩, (fun j hj => by first | rfl | (match j, hj with | j + 5, _ => rfl))⟩⟩⟩⟩⟩
theorem weave_Encode.tied : Tied Tryz.prog weave_Encode.c 31 := tie_pure weave_Encode.tiedCalls Tryz.func31 (by kernel_rfl) (by kernel_rfl) (by kernel_rfl) (by kernel_rfl) (by kernel_rfl) weave_Encode.eq
theorem weave_Erased.tiedCalls : CallsTied Tryz.prog weave_Erased.calls [] 0 := (fun _ _ => rfl)
theorem weave_Erased.tied : Tied Tryz.prog weave_Erased.c 14 := tie_pure weave_Erased.tiedCalls Tryz.func14 (by kernel_rfl) (by kernel_rfl) (by kernel_rfl) (by kernel_rfl) (by kernel_rfl) weave_Erased.eq
theorem nand_Chip_act.tiedCalls : CallsTied Tryz.prog nand_Chip_act.calls [] 0 := (fun _ _ => rfl)
theorem nand_Chip_act.tied : Tied Tryz.prog nand_Chip_act.c 42 := tie_full nand_Chip_act.tiedCalls Tryz.func42 (by kernel_rfl) (by kernel_rfl) (by kernel_rfl) nand_Chip_act.eq
theorem nand_torn.tiedCalls : CallsTied Tryz.prog nand_torn.calls [33] 0 := ⟨⟨_, rfl, strings_Repeat.tied⟩, (fun j hj => by first | rfl | (match j, hj with | j + 1, _ => rfl))⟩
theorem nand_torn.tied : Tied Tryz.prog nand_torn.c 44 := tie_pure nand_torn.tiedCalls Tryz.func44 (by kernel_rfl) (by kernel_rfl) (by kernel_rfl) (by kernel_rfl) (by kernel_rfl) nand_torn.eq
theorem nand_Chip_lay.tiedCalls : CallsTied Tryz.prog nand_Chip_lay.calls [46] 0 := ⟨⟨_, rfl, nand_Chip_full.tied⟩, (fun j hj => by first | rfl | (match j, hj with | j + 1, _ => rfl))⟩
theorem nand_Chip_lay.tied : Tied Tryz.prog nand_Chip_lay.c 43 := tie_full nand_Chip_lay.tiedCalls Tryz.func43 (by kernel_rfl) (by kernel_rfl) (by kernel_rfl) nand_Chip_lay.eq
theorem nand_Chip_fail.tiedCalls : CallsTied Tryz.prog nand_Chip_fail.calls [40] 0 := ⟨⟨_, rfl, slices_Contains_int_int.tied⟩, (fun j hj => by first | rfl | (match j, hj with | j + 1, _ => rfl))⟩
theorem nand_Chip_fail.tied : Tied Tryz.prog nand_Chip_fail.c 45 := tie_full nand_Chip_fail.tiedCalls Tryz.func45 (by kernel_rfl) (by kernel_rfl) (by kernel_rfl) nand_Chip_fail.eq
theorem nand_Chip_Program.tiedCalls : CallsTied Tryz.prog nand_Chip_Program.calls [41, 42, 44, 43, 45] 0 := ⟨⟨_, rfl, nand_Chip_in.tied⟩, ⟨⟨_, rfl, nand_Chip_act.tied⟩, ⟨⟨_, rfl, nand_torn.tied⟩, ⟨⟨_, rfl, nand_Chip_lay.tied⟩, ⟨⟨_, rfl, nand_Chip_fail.tied⟩, (fun j hj => by first | rfl | (match j, hj with | j + 5, _ => rfl))⟩⟩⟩⟩⟩
theorem nand_Chip_Program.tied : Tied Tryz.prog nand_Chip_Program.c 19 := tie_full nand_Chip_Program.tiedCalls Tryz.func19 (by kernel_rfl) (by kernel_rfl) (by kernel_rfl) nand_Chip_Program.eq
theorem cell_Cells_Program.tiedCalls : CallsTied Tryz.prog cell_Cells_Program.calls [22, 32, 31, 14, 33, 19, 34] 0 := ⟨⟨_, rfl, nand_Chip_Read.tied⟩, ⟨⟨_, rfl, cell_Cells_mask.tied⟩, ⟨⟨_, rfl, weave_Encode.tied⟩, ⟨⟨_, rfl, weave_Erased.tied⟩, ⟨⟨_, rfl, strings_Repeat.tied⟩, ⟨⟨_, rfl, nand_Chip_Program.tied⟩, ⟨⟨_, rfl, cell_Cells_at.tied⟩, (fun j hj => by first | rfl | (match j, hj with | j + 7, _ => rfl))⟩⟩⟩⟩⟩⟩⟩
theorem cell_Cells_Program.tied : Tied Tryz.prog cell_Cells_Program.c 10 := tie_full cell_Cells_Program.tiedCalls Tryz.func10 (by kernel_rfl) (by kernel_rfl) (by kernel_rfl) cell_Cells_Program.eq
theorem cell_Cells_turn.tiedCalls : CallsTied Tryz.prog cell_Cells_turn.calls [34, 33] 0 := ⟨⟨_, rfl, cell_Cells_at.tied⟩, ⟨⟨_, rfl, strings_Repeat.tied⟩, (fun j hj => by first | rfl | (match j, hj with | j + 2, _ => rfl))⟩⟩
theorem cell_Cells_turn.tied : Tied Tryz.prog cell_Cells_turn.c 35 := tie_full cell_Cells_turn.tiedCalls Tryz.func35 (by kernel_rfl) (by kernel_rfl) (by kernel_rfl) cell_Cells_turn.eq
theorem cell_Cells_raw.tiedCalls : CallsTied Tryz.prog cell_Cells_raw.calls [22, 34, 49] 0 := ⟨⟨_, rfl, nand_Chip_Read.tied⟩, ⟨⟨_, rfl, cell_Cells_at.tied⟩, ⟨⟨_, rfl, weave_Mix.tied⟩, (fun j hj => by first | rfl | (match j, hj with | j + 3, _ => rfl))⟩⟩⟩
theorem cell_Cells_raw.tied : Tied Tryz.prog cell_Cells_raw.c 36 := tie_full cell_Cells_raw.tiedCalls Tryz.func36 (by kernel_rfl) (by kernel_rfl) (by kernel_rfl) cell_Cells_raw.eq
theorem weave_holes.tiedCalls : CallsTied Tryz.prog weave_holes.calls [] 0 := (fun _ _ => rfl)
theorem weave_holes.tied : Tied Tryz.prog weave_holes.c 60 := tie_full weave_holes.tiedCalls Tryz.func60 (by kernel_rfl) (by kernel_rfl) (by kernel_rfl) weave_holes.eq
theorem slices_Compact_int_int.tiedCalls : CallsTied Tryz.prog slices_Compact_int_int.calls [] 0 := (fun _ _ => rfl)
theorem slices_Compact_int_int.tied : Tied Tryz.prog slices_Compact_int_int.c 95 := tie_full slices_Compact_int_int.tiedCalls Tryz.func95 (by kernel_rfl) (by kernel_rfl) (by kernel_rfl) slices_Compact_int_int.eq
theorem rs_lostOf.tiedCalls : CallsTied Tryz.prog rs_lostOf.calls [94, 95] 0 := ⟨⟨_, rfl, slices_Sort_int_int.tied⟩, ⟨⟨_, rfl, slices_Compact_int_int.tied⟩, (fun j hj => by first | rfl | (match j, hj with | j + 2, _ => rfl))⟩⟩
theorem rs_lostOf.tied : Tied Tryz.prog rs_lostOf.c 74 := tie_full rs_lostOf.tiedCalls Tryz.func74 (by kernel_rfl) (by kernel_rfl) (by kernel_rfl) rs_lostOf.eq
theorem gf_Poly_At.tiedCalls : CallsTied Tryz.prog gf_Poly_At.calls [86] 0 := ⟨⟨_, rfl, gf_Mul.tied⟩, (fun j hj => by first | rfl | (match j, hj with | j + 1, _ => rfl))⟩
theorem gf_Poly_At.tied : Tied Tryz.prog gf_Poly_At.c 85 := tie_full gf_Poly_At.tiedCalls Tryz.func85 (by kernel_rfl) (by kernel_rfl) (by kernel_rfl) gf_Poly_At.eq
theorem rs_Signs.tiedCalls : CallsTied Tryz.prog rs_Signs.calls [64, 84, 85] 0 := ⟨⟨_, rfl, rs_turned.tied⟩, ⟨⟨_, rfl, gf_Root.tied⟩, ⟨⟨_, rfl, gf_Poly_At.tied⟩, (fun j hj => by first | rfl | (match j, hj with | j + 3, _ => rfl))⟩⟩⟩
theorem rs_Signs.tied : Tied Tryz.prog rs_Signs.c 77 := tie_full rs_Signs.tiedCalls Tryz.func77 (by kernel_rfl) (by kernel_rfl) (by kernel_rfl) rs_Signs.eq
theorem rs_Right_1.tiedCalls : CallsTied Tryz.prog rs_Right_1.calls [] 0 := (fun _ _ => rfl)
theorem rs_Right_1.tied : Tied Tryz.prog rs_Right_1.c 97 := tie_pure rs_Right_1.tiedCalls Tryz.func97 (by kernel_rfl) (by kernel_rfl) (by kernel_rfl) (by kernel_rfl) (by kernel_rfl) rs_Right_1.eq
theorem slices_IndexFunc_byte_byte_of_rs_Right_1.tiedCalls : CallsTied Tryz.prog slices_IndexFunc_byte_byte_of_rs_Right_1.calls [97] 0 := ⟨⟨_, rfl, rs_Right_1.tied⟩, (fun j hj => by first | rfl | (match j, hj with | j + 1, _ => rfl))⟩
theorem slices_IndexFunc_byte_byte_of_rs_Right_1.tied : Tied Tryz.prog slices_IndexFunc_byte_byte_of_rs_Right_1.c 101 := tie_full slices_IndexFunc_byte_byte_of_rs_Right_1.tiedCalls Tryz.func101 (by kernel_rfl) (by kernel_rfl) (by kernel_rfl) slices_IndexFunc_byte_byte_of_rs_Right_1.eq
theorem slices_ContainsFunc_byte_byte_of_rs_Right_1.tiedCalls : CallsTied Tryz.prog slices_ContainsFunc_byte_byte_of_rs_Right_1.calls [101] 0 := ⟨⟨_, rfl, slices_IndexFunc_byte_byte_of_rs_Right_1.tied⟩, (fun j hj => by first | rfl | (match j, hj with | j + 1, _ => rfl))⟩
theorem slices_ContainsFunc_byte_byte_of_rs_Right_1.tied : Tied Tryz.prog slices_ContainsFunc_byte_byte_of_rs_Right_1.c 96 := tie_full slices_ContainsFunc_byte_byte_of_rs_Right_1.tiedCalls Tryz.func96 (by kernel_rfl) (by kernel_rfl) (by kernel_rfl) slices_ContainsFunc_byte_byte_of_rs_Right_1.eq
theorem rs_Right.tiedCalls : CallsTied Tryz.prog rs_Right.calls [63, 77, 96] 0 := ⟨⟨_, rfl, rs_Check.tied⟩, ⟨⟨_, rfl, rs_Signs.tied⟩, ⟨⟨_, rfl, slices_ContainsFunc_byte_byte_of_rs_Right_1.tied⟩, (fun j hj => by first | rfl | (match j, hj with | j + 3, _ => rfl))⟩⟩⟩
theorem rs_Right.tied : Tied Tryz.prog rs_Right.c 75 := tie_pure rs_Right.tiedCalls Tryz.func75 (by kernel_rfl) (by kernel_rfl) (by kernel_rfl) (by kernel_rfl) (by kernel_rfl) rs_Right.eq
theorem rs_places.tiedCalls : CallsTied Tryz.prog rs_places.calls [84, 78] 0 := ⟨⟨_, rfl, gf_Root.tied⟩, ⟨⟨_, rfl, gf_Poly_Mul.tied⟩, (fun j hj => by first | rfl | (match j, hj with | j + 2, _ => rfl))⟩⟩
theorem rs_places.tied : Tied Tryz.prog rs_places.c 76 := tie_full rs_places.tiedCalls Tryz.func76 (by kernel_rfl) (by kernel_rfl) (by kernel_rfl) rs_places.eq
theorem gf_Poly_Cut.tiedCalls : CallsTied Tryz.prog gf_Poly_Cut.calls [89] 0 := ⟨⟨_, rfl, gf_Poly_Trim.tied⟩, (fun j hj => by first | rfl | (match j, hj with | j + 1, _ => rfl))⟩
theorem gf_Poly_Cut.tied : Tied Tryz.prog gf_Poly_Cut.c 79 := tie_full gf_Poly_Cut.tiedCalls Tryz.func79 (by kernel_rfl) (by kernel_rfl) (by kernel_rfl) gf_Poly_Cut.eq
theorem gf_Poly_Degree.tiedCalls : CallsTied Tryz.prog gf_Poly_Degree.calls [] 0 := (fun _ _ => rfl)
theorem gf_Poly_Degree.tied : Tied Tryz.prog gf_Poly_Degree.c 82 := tie_full gf_Poly_Degree.tiedCalls Tryz.func82 (by kernel_rfl) (by kernel_rfl) (by kernel_rfl) gf_Poly_Degree.eq
theorem rs_solve.tiedCalls : CallsTied Tryz.prog rs_solve.calls [65, 82, 87, 86, 91, 90] 0 := ⟨⟨_, rfl, gf_Poly_Shift.tied⟩, ⟨⟨_, rfl, gf_Poly_Degree.tied⟩, ⟨⟨_, rfl, gf_Inv.tied⟩, ⟨⟨_, rfl, gf_Mul.tied⟩, ⟨⟨_, rfl, gf_Poly_Times.tied⟩, ⟨⟨_, rfl, gf_Poly_Add.tied⟩, (fun j hj => by first | rfl | (match j, hj with | j + 6, _ => rfl))⟩⟩⟩⟩⟩⟩
theorem rs_solve.tied : Tied Tryz.prog rs_solve.c 80 := tie_full rs_solve.tiedCalls Tryz.func80 (by kernel_rfl) (by kernel_rfl) (by kernel_rfl) rs_solve.eq
theorem rs_roots.tiedCalls : CallsTied Tryz.prog rs_roots.calls [84, 85] 0 := ⟨⟨_, rfl, gf_Root.tied⟩, ⟨⟨_, rfl, gf_Poly_At.tied⟩, (fun j hj => by first | rfl | (match j, hj with | j + 2, _ => rfl))⟩⟩
theorem rs_roots.tied : Tied Tryz.prog rs_roots.c 81 := tie_full rs_roots.tiedCalls Tryz.func81 (by kernel_rfl) (by kernel_rfl) (by kernel_rfl) rs_roots.eq
theorem gf_Poly_Slope.tiedCalls : CallsTied Tryz.prog gf_Poly_Slope.calls [89] 0 := ⟨⟨_, rfl, gf_Poly_Trim.tied⟩, (fun j hj => by first | rfl | (match j, hj with | j + 1, _ => rfl))⟩
theorem gf_Poly_Slope.tied : Tied Tryz.prog gf_Poly_Slope.c 83 := tie_full gf_Poly_Slope.tiedCalls Tryz.func83 (by kernel_rfl) (by kernel_rfl) (by kernel_rfl) gf_Poly_Slope.eq
theorem rs_Decode.tiedCalls : CallsTied Tryz.prog rs_Decode.calls [74, 63, 75, 76, 77, 78, 79, 80, 81, 82, 83, 84, 85, 87, 86] 0 := ⟨⟨_, rfl, rs_lostOf.tied⟩, ⟨⟨_, rfl, rs_Check.tied⟩, ⟨⟨_, rfl, rs_Right.tied⟩, ⟨⟨_, rfl, rs_places.tied⟩, ⟨⟨_, rfl, rs_Signs.tied⟩, ⟨⟨_, rfl, gf_Poly_Mul.tied⟩, ⟨⟨_, rfl, gf_Poly_Cut.tied⟩, ⟨⟨_, rfl, rs_solve.tied⟩, ⟨⟨_, rfl, rs_roots.tied⟩, ⟨⟨_, rfl, gf_Poly_Degree.tied⟩, ⟨⟨_, rfl, gf_Poly_Slope.tied⟩, ⟨⟨_, rfl, gf_Root.tied⟩, ⟨⟨_, rfl, gf_Poly_At.tied⟩, ⟨⟨_, rfl, gf_Inv.tied⟩, ⟨⟨_, rfl, gf_Mul.tied⟩, (fun j hj => by first | rfl | (match j, hj with | j + 15, _ => rfl))⟩⟩⟩⟩⟩⟩⟩⟩⟩⟩⟩⟩⟩⟩⟩
theorem rs_Decode.tied : Tied Tryz.prog rs_Decode.c 59 := tie_full rs_Decode.tiedCalls Tryz.func59 (by kernel_rfl) (by kernel_rfl) (by kernel_rfl) rs_Decode.eq
theorem weave_size.tiedCalls : CallsTied Tryz.prog weave_size.calls [] 0 := (fun _ _ => rfl)
theorem weave_size.tied : Tied Tryz.prog weave_size.c 61 := tie_pure weave_size.tiedCalls Tryz.func61 (by kernel_rfl) (by kernel_rfl) (by kernel_rfl) (by kernel_rfl) (by kernel_rfl) weave_size.eq
theorem weave_Decode.tiedCalls : CallsTied Tryz.prog weave_Decode.calls [48, 52, 60, 59, 61, 50, 49] 0 := ⟨⟨_, rfl, weave_fits.tied⟩, ⟨⟨_, rfl, weave_part.tied⟩, ⟨⟨_, rfl, weave_holes.tied⟩, ⟨⟨_, rfl, rs_Decode.tied⟩, ⟨⟨_, rfl, weave_size.tied⟩, ⟨⟨_, rfl, weave_Mask.tied⟩, ⟨⟨_, rfl, weave_Mix.tied⟩, (fun j hj => by first | rfl | (match j, hj with | j + 7, _ => rfl))⟩⟩⟩⟩⟩⟩⟩
theorem weave_Decode.tied : Tied Tryz.prog weave_Decode.c 37 := tie_full weave_Decode.tiedCalls Tryz.func37 (by kernel_rfl) (by kernel_rfl) (by kernel_rfl) weave_Decode.eq
theorem cell_Cells_Read.tiedCalls : CallsTied Tryz.prog cell_Cells_Read.calls [22, 35, 36, 14, 33, 32, 37] 0 := ⟨⟨_, rfl, nand_Chip_Read.tied⟩, ⟨⟨_, rfl, cell_Cells_turn.tied⟩, ⟨⟨_, rfl, cell_Cells_raw.tied⟩, ⟨⟨_, rfl, weave_Erased.tied⟩, ⟨⟨_, rfl, strings_Repeat.tied⟩, ⟨⟨_, rfl, cell_Cells_mask.tied⟩, ⟨⟨_, rfl, weave_Decode.tied⟩, (fun j hj => by first | rfl | (match j, hj with | j + 7, _ => rfl))⟩⟩⟩⟩⟩⟩⟩
theorem cell_Cells_Read.tied : Tied Tryz.prog cell_Cells_Read.c 12 := tie_full cell_Cells_Read.tiedCalls Tryz.func12 (by kernel_rfl) (by kernel_rfl) (by kernel_rfl) cell_Cells_Read.eq
theorem cell_Cells_Health.tiedCalls : CallsTied Tryz.prog cell_Cells_Health.calls [] 0 := (fun _ _ => rfl)
theorem cell_Cells_Health.tied : Tied Tryz.prog cell_Cells_Health.c 15 := tie_full cell_Cells_Health.tiedCalls Tryz.func15 (by kernel_rfl) (by kernel_rfl) (by kernel_rfl) cell_Cells_Health.eq
theorem cell_Cells_Reads.tiedCalls : CallsTied Tryz.prog cell_Cells_Reads.calls [] 0 := (fun _ _ => rfl)
theorem cell_Cells_Reads.tied : Tied Tryz.prog cell_Cells_Reads.c 28 := tie_full cell_Cells_Reads.tiedCalls Tryz.func28 (by kernel_rfl) (by kernel_rfl) (by kernel_rfl) cell_Cells_Reads.eq
theorem law30_awake.tiedCalls : CallsTied Tryz.prog law30_awake.calls [8, 7, 11, 10, 12, 15, 28] 0 := ⟨⟨_, rfl, law30_geometry.tied⟩, ⟨⟨_, rfl, cell_New.tied⟩, ⟨⟨_, rfl, law30_text.tied⟩, ⟨⟨_, rfl, cell_Cells_Program.tied⟩, ⟨⟨_, rfl, cell_Cells_Read.tied⟩, ⟨⟨_, rfl, cell_Cells_Health.tied⟩, ⟨⟨_, rfl, cell_Cells_Reads.tied⟩, (fun j hj => by first | rfl | (match j, hj with | j + 7, _ => rfl))⟩⟩⟩⟩⟩⟩⟩
theorem law30_awake.tied : Tied Tryz.prog law30_awake.c 9 := tie_pure law30_awake.tiedCalls Tryz.func9 (by kernel_rfl) (by kernel_rfl) (by kernel_rfl) (by kernel_rfl) (by kernel_rfl) law30_awake.eq
theorem nand_Chip_Erase.tiedCalls : CallsTied Tryz.prog nand_Chip_Erase.calls [41, 42, 46, 44, 43, 45] 0 := ⟨⟨_, rfl, nand_Chip_in.tied⟩, ⟨⟨_, rfl, nand_Chip_act.tied⟩, ⟨⟨_, rfl, nand_Chip_full.tied⟩, ⟨⟨_, rfl, nand_torn.tied⟩, ⟨⟨_, rfl, nand_Chip_lay.tied⟩, ⟨⟨_, rfl, nand_Chip_fail.tied⟩, (fun j hj => by first | rfl | (match j, hj with | j + 6, _ => rfl))⟩⟩⟩⟩⟩⟩
theorem nand_Chip_Erase.tied : Tied Tryz.prog nand_Chip_Erase.c 21 := tie_full nand_Chip_Erase.tiedCalls Tryz.func21 (by kernel_rfl) (by kernel_rfl) (by kernel_rfl) nand_Chip_Erase.eq
theorem cell_Cells_Erase.tiedCalls : CallsTied Tryz.prog cell_Cells_Erase.calls [21, 34] 0 := ⟨⟨_, rfl, nand_Chip_Erase.tied⟩, ⟨⟨_, rfl, cell_Cells_at.tied⟩, (fun j hj => by first | rfl | (match j, hj with | j + 2, _ => rfl))⟩⟩
theorem cell_Cells_Erase.tied : Tied Tryz.prog cell_Cells_Erase.c 20 := tie_full cell_Cells_Erase.tiedCalls Tryz.func20 (by kernel_rfl) (by kernel_rfl) (by kernel_rfl) cell_Cells_Erase.eq
theorem cell_Cells_Chip.tiedCalls : CallsTied Tryz.prog cell_Cells_Chip.calls [] 0 := (fun _ _ => rfl)
theorem cell_Cells_Chip.tied : Tied Tryz.prog cell_Cells_Chip.c 27 := tie_full cell_Cells_Chip.tiedCalls Tryz.func27 (by kernel_rfl) (by kernel_rfl) (by kernel_rfl) cell_Cells_Chip.eq
theorem law30_nearly.tiedCalls : CallsTied Tryz.prog law30_nearly.calls [27, 22, 14] 0 := ⟨⟨_, rfl, cell_Cells_Chip.tied⟩, ⟨⟨_, rfl, nand_Chip_Read.tied⟩, ⟨⟨_, rfl, weave_Erased.tied⟩, (fun j hj => by first | rfl | (match j, hj with | j + 3, _ => rfl))⟩⟩⟩
theorem law30_nearly.tied : Tied Tryz.prog law30_nearly.c 13 := tie_full law30_nearly.tiedCalls Tryz.func13 (by kernel_rfl) (by kernel_rfl) (by kernel_rfl) law30_nearly.eq
theorem nand_Chip_Dead.tiedCalls : CallsTied Tryz.prog nand_Chip_Dead.calls [] 0 := (fun _ _ => rfl)
theorem nand_Chip_Dead.tied : Tied Tryz.prog nand_Chip_Dead.c 23 := tie_full nand_Chip_Dead.tiedCalls Tryz.func23 (by kernel_rfl) (by kernel_rfl) (by kernel_rfl) nand_Chip_Dead.eq
theorem law30_CellPlays.tiedCalls : CallsTied Tryz.prog law30_CellPlays.calls [8, 17, 7, 18, 9, 11, 10, 19, 20, 21, 12, 22, 13, 23] 0 := ⟨⟨_, rfl, law30_geometry.tied⟩, ⟨⟨_, rfl, law30_noise.tied⟩, ⟨⟨_, rfl, cell_New.tied⟩, ⟨⟨_, rfl, nand_New.tied⟩, ⟨⟨_, rfl, law30_awake.tied⟩, ⟨⟨_, rfl, law30_text.tied⟩, ⟨⟨_, rfl, cell_Cells_Program.tied⟩, ⟨⟨_, rfl, nand_Chip_Program.tied⟩, ⟨⟨_, rfl, cell_Cells_Erase.tied⟩, ⟨⟨_, rfl, nand_Chip_Erase.tied⟩, ⟨⟨_, rfl, cell_Cells_Read.tied⟩, ⟨⟨_, rfl, nand_Chip_Read.tied⟩, ⟨⟨_, rfl, law30_nearly.tied⟩, ⟨⟨_, rfl, nand_Chip_Dead.tied⟩, (fun j hj => by first | rfl | (match j, hj with | j + 14, _ => rfl))⟩⟩⟩⟩⟩⟩⟩⟩⟩⟩⟩⟩⟩⟩
theorem law30_CellPlays.tied : Tied Tryz.prog law30_CellPlays.c 5 := tie_full law30_CellPlays.tiedCalls Tryz.func5 (by kernel_rfl) (by kernel_rfl) (by kernel_rfl) law30_CellPlays.eq
end Ev
