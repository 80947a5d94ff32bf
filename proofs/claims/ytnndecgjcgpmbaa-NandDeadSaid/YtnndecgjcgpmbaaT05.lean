/- The functions are those of the program: the kernel checks the code, one by one. Written by gen2.py. -/
import Derived.Test.YtnndecgjcgpmbaaEvTie
import Derived.Test.YtnndecgjcgpmbaaGSlices
import Derived.Test.YtnndecgjcgpmbaaGNand
import Derived.Test.YtnndecgjcgpmbaaGLaw05
import Derived.Test.YtnndecgjcgpmbaaSh
import Derived.Test.YtnndecgjcgpmbaaProg
import Derived.KernelRfl
set_option maxRecDepth 100000
namespace Ev
open Go Go.Proofs
theorem law05_Geometry.tiedCalls : CallsTied Try.prog law05_Geometry.calls [] 0 := (fun _ _ => rfl)
theorem law05_Geometry.tied : Tied Try.prog law05_Geometry.c 34 := tie_pure law05_Geometry.tiedCalls Try.func34 (by kernel_rfl) (by kernel_rfl) (by kernel_rfl) (by kernel_rfl) (by kernel_rfl) law05_Geometry.eq
theorem nand_Check.tiedCalls : CallsTied Try.prog nand_Check.calls [] 0 := (fun _ _ => rfl)
theorem nand_Check.tied : Tied Try.prog nand_Check.c 50 := tie_pure nand_Check.tiedCalls Try.func50 (by kernel_rfl) (by kernel_rfl) (by kernel_rfl) (by kernel_rfl) (by kernel_rfl) nand_Check.eq
theorem slices_Clone_api_Cut_api_Cut.tiedCalls : CallsTied Try.prog slices_Clone_api_Cut_api_Cut.calls [] 0 := (fun _ _ => rfl)
theorem slices_Clone_api_Cut_api_Cut.tied : Tied Try.prog slices_Clone_api_Cut_api_Cut.c 64 := tie_full slices_Clone_api_Cut_api_Cut.tiedCalls Try.func64 (by kernel_rfl) (by kernel_rfl) (by kernel_rfl) slices_Clone_api_Cut_api_Cut.eq
theorem slices_Clone_int_int.tiedCalls : CallsTied Try.prog slices_Clone_int_int.calls [] 0 := (fun _ _ => rfl)
theorem slices_Clone_int_int.tied : Tied Try.prog slices_Clone_int_int.c 65 := tie_full slices_Clone_int_int.tiedCalls Try.func65 (by kernel_rfl) (by kernel_rfl) (by kernel_rfl) slices_Clone_int_int.eq
theorem slices_Index_int_int.tiedCalls : CallsTied Try.prog slices_Index_int_int.calls [] 0 := (fun _ _ => rfl)
theorem slices_Index_int_int.tied : Tied Try.prog slices_Index_int_int.c 83 := tie_full slices_Index_int_int.tiedCalls Try.func83 (by kernel_rfl) (by kernel_rfl) (by kernel_rfl) slices_Index_int_int.eq
theorem slices_Contains_int_int.tiedCalls : CallsTied Try.prog slices_Contains_int_int.calls [83] 0 := ⟨⟨_, rfl, slices_Index_int_int.tied⟩, (fun j hj => by first | rfl | (match j, hj with | j + 1, _ => rfl))⟩
theorem slices_Contains_int_int.tied : Tied Try.prog slices_Contains_int_int.c 66 := tie_full slices_Contains_int_int.tiedCalls Try.func66 (by kernel_rfl) (by kernel_rfl) (by kernel_rfl) slices_Contains_int_int.eq
theorem nand_New.tiedCalls : CallsTied Try.prog nand_New.calls [50, 64, 65, 66] 0 := ⟨⟨_, rfl, nand_Check.tied⟩, ⟨⟨_, rfl, slices_Clone_api_Cut_api_Cut.tied⟩, ⟨⟨_, rfl, slices_Clone_int_int.tied⟩, ⟨⟨_, rfl, slices_Contains_int_int.tied⟩, (fun j hj => by first | rfl | (match j, hj with | j + 4, _ => rfl))⟩⟩⟩⟩
theorem nand_New.tied : Tied Try.prog nand_New.c 35 := tie_full nand_New.tiedCalls Try.func35 (by kernel_rfl) (by kernel_rfl) (by kernel_rfl) nand_New.eq
theorem law05_text.tiedCalls : CallsTied Try.prog law05_text.calls [] 0 := (fun _ _ => rfl)
theorem law05_text.tied : Tied Try.prog law05_text.c 38 := tie_pure law05_text.tiedCalls Try.func38 (by kernel_rfl) (by kernel_rfl) (by kernel_rfl) (by kernel_rfl) (by kernel_rfl) law05_text.eq
theorem nand_Chip_in.tiedCalls : CallsTied Try.prog nand_Chip_in.calls [] 0 := (fun _ _ => rfl)
theorem nand_Chip_in.tied : Tied Try.prog nand_Chip_in.c 67 := tie_full nand_Chip_in.tiedCalls Try.func67 (by kernel_rfl) (by kernel_rfl) (by kernel_rfl) nand_Chip_in.eq
theorem nand_Chip_act.tiedCalls : CallsTied Try.prog nand_Chip_act.calls [] 0 := (fun _ _ => rfl)
theorem nand_Chip_act.tied : Tied Try.prog nand_Chip_act.c 68 := tie_full nand_Chip_act.tiedCalls Try.func68 (by kernel_rfl) (by kernel_rfl) (by kernel_rfl) nand_Chip_act.eq
theorem nand_torn.tiedCalls : CallsTied Try.prog nand_torn.calls [53] 0 := ⟨⟨_, rfl, strings_Repeat.tied⟩, (fun j hj => by first | rfl | (match j, hj with | j + 1, _ => rfl))⟩
theorem nand_torn.tied : Tied Try.prog nand_torn.c 70 := tie_pure nand_torn.tiedCalls Try.func70 (by kernel_rfl) (by kernel_rfl) (by kernel_rfl) (by kernel_rfl) (by kernel_rfl) nand_torn.eq
theorem nand_Chip_full.tiedCalls : CallsTied Try.prog nand_Chip_full.calls [53] 0 := ⟨⟨_, rfl, strings_Repeat.tied⟩, (fun j hj => by first | rfl | (match j, hj with | j + 1, _ => rfl))⟩
theorem nand_Chip_full.tied : Tied Try.prog nand_Chip_full.c 72 := tie_full nand_Chip_full.tiedCalls Try.func72 (by kernel_rfl) (by kernel_rfl) (by kernel_rfl) nand_Chip_full.eq
theorem nand_Chip_lay.tiedCalls : CallsTied Try.prog nand_Chip_lay.calls [72] 0 := ⟨⟨_, rfl, nand_Chip_full.tied⟩, (fun j hj => by first | rfl | (match j, hj with | j + 1, _ => rfl))⟩
theorem nand_Chip_lay.tied : Tied Try.prog nand_Chip_lay.c 69 := tie_full nand_Chip_lay.tiedCalls Try.func69 (by kernel_rfl) (by kernel_rfl) (by kernel_rfl) nand_Chip_lay.eq
theorem nand_Chip_fail.tiedCalls : CallsTied Try.prog nand_Chip_fail.calls [66] 0 := ⟨⟨_, rfl, slices_Contains_int_int.tied⟩, (fun j hj => by first | rfl | (match j, hj with | j + 1, _ => rfl))⟩
theorem nand_Chip_fail.tied : Tied Try.prog nand_Chip_fail.c 71 := tie_full nand_Chip_fail.tiedCalls Try.func71 (by kernel_rfl) (by kernel_rfl) (by kernel_rfl) nand_Chip_fail.eq
theorem nand_Chip_Program.tiedCalls : CallsTied Try.prog nand_Chip_Program.calls [67, 68, 70, 69, 71] 0 := ⟨⟨_, rfl, nand_Chip_in.tied⟩, ⟨⟨_, rfl, nand_Chip_act.tied⟩, ⟨⟨_, rfl, nand_torn.tied⟩, ⟨⟨_, rfl, nand_Chip_lay.tied⟩, ⟨⟨_, rfl, nand_Chip_fail.tied⟩, (fun j hj => by first | rfl | (match j, hj with | j + 5, _ => rfl))⟩⟩⟩⟩⟩
theorem nand_Chip_Program.tied : Tied Try.prog nand_Chip_Program.c 37 := tie_full nand_Chip_Program.tiedCalls Try.func37 (by kernel_rfl) (by kernel_rfl) (by kernel_rfl) nand_Chip_Program.eq
theorem nand_Chip_Read.tiedCalls : CallsTied Try.prog nand_Chip_Read.calls [67, 72] 0 := ⟨⟨_, rfl, nand_Chip_in.tied⟩, ⟨⟨_, rfl, nand_Chip_full.tied⟩, (fun j hj => by first | rfl | (match j, hj with | j + 2, _ => rfl))⟩⟩
theorem nand_Chip_Read.tied : Tied Try.prog nand_Chip_Read.c 43 := tie_full nand_Chip_Read.tiedCalls Try.func43 (by kernel_rfl) (by kernel_rfl) (by kernel_rfl) nand_Chip_Read.eq
theorem nand_Chip_Did.tiedCalls : CallsTied Try.prog nand_Chip_Did.calls [] 0 := (fun _ _ => rfl)
theorem nand_Chip_Did.tied : Tied Try.prog nand_Chip_Did.c 39 := tie_full nand_Chip_Did.tiedCalls Try.func39 (by kernel_rfl) (by kernel_rfl) (by kernel_rfl) nand_Chip_Did.eq
theorem law05_awake.tiedCalls : CallsTied Try.prog law05_awake.calls [35, 38, 37, 43, 39] 0 := ⟨⟨_, rfl, nand_New.tied⟩, ⟨⟨_, rfl, law05_text.tied⟩, ⟨⟨_, rfl, nand_Chip_Program.tied⟩, ⟨⟨_, rfl, nand_Chip_Read.tied⟩, ⟨⟨_, rfl, nand_Chip_Did.tied⟩, (fun j hj => by first | rfl | (match j, hj with | j + 5, _ => rfl))⟩⟩⟩⟩⟩
theorem law05_awake.tied : Tied Try.prog law05_awake.c 36 := tie_pure law05_awake.tiedCalls Try.func36 (by kernel_rfl) (by kernel_rfl) (by kernel_rfl) (by kernel_rfl) (by kernel_rfl) law05_awake.eq
theorem nand_Chip_Erase.tiedCalls : CallsTied Try.prog nand_Chip_Erase.calls [67, 68, 72, 70, 69, 71] 0 := ⟨⟨_, rfl, nand_Chip_in.tied⟩, ⟨⟨_, rfl, nand_Chip_act.tied⟩, ⟨⟨_, rfl, nand_Chip_full.tied⟩, ⟨⟨_, rfl, nand_torn.tied⟩, ⟨⟨_, rfl, nand_Chip_lay.tied⟩, ⟨⟨_, rfl, nand_Chip_fail.tied⟩, (fun j hj => by first | rfl | (match j, hj with | j + 6, _ => rfl))⟩⟩⟩⟩⟩⟩
theorem nand_Chip_Erase.tied : Tied Try.prog nand_Chip_Erase.c 40 := tie_full nand_Chip_Erase.tiedCalls Try.func40 (by kernel_rfl) (by kernel_rfl) (by kernel_rfl) nand_Chip_Erase.eq
theorem law05_NandOrder.tiedCalls : CallsTied Try.prog law05_NandOrder.calls [34, 35, 36, 38, 37, 39, 40] 0 := ⟨⟨_, rfl, law05_Geometry.tied⟩, ⟨⟨_, rfl, nand_New.tied⟩, ⟨⟨_, rfl, law05_awake.tied⟩, ⟨⟨_, rfl, law05_text.tied⟩, ⟨⟨_, rfl, nand_Chip_Program.tied⟩, ⟨⟨_, rfl, nand_Chip_Did.tied⟩, ⟨⟨_, rfl, nand_Chip_Erase.tied⟩, (fun j hj => by first | rfl | (match j, hj with | j + 7, _ => rfl))⟩⟩⟩⟩⟩⟩⟩
theorem law05_NandOrder.tied : Tied Try.prog law05_NandOrder.c 10 := tie_full law05_NandOrder.tiedCalls Try.func10 (by kernel_rfl) (by kernel_rfl) (by kernel_rfl) law05_NandOrder.eq
theorem nand_Chip_Arm.tiedCalls : CallsTied Try.prog nand_Chip_Arm.calls [64, 65] 0 := ⟨⟨_, rfl, slices_Clone_api_Cut_api_Cut.tied⟩, ⟨⟨_, rfl, slices_Clone_int_int.tied⟩, (fun j hj => by first | rfl | (match j, hj with | j + 2, _ => rfl))⟩⟩
theorem nand_Chip_Arm.tied : Tied Try.prog nand_Chip_Arm.c 41 := tie_full nand_Chip_Arm.tiedCalls Try.func41 (by kernel_rfl) (by kernel_rfl) (by kernel_rfl) nand_Chip_Arm.eq
theorem nand_Chip_Off.tiedCalls : CallsTied Try.prog nand_Chip_Off.calls [] 0 := (fun _ _ => rfl)
theorem nand_Chip_Off.tied : Tied Try.prog nand_Chip_Off.c 42 := tie_full nand_Chip_Off.tiedCalls Try.func42 (by kernel_rfl) (by kernel_rfl) (by kernel_rfl) nand_Chip_Off.eq
theorem law05_NandArm.tiedCalls : CallsTied Try.prog law05_NandArm.calls [34, 35, 36, 40, 41, 42, 39] 0 := ⟨⟨_, rfl, law05_Geometry.tied⟩, ⟨⟨_, rfl, nand_New.tied⟩, ⟨⟨_, rfl, law05_awake.tied⟩, ⟨⟨_, rfl, nand_Chip_Erase.tied⟩, ⟨⟨_, rfl, nand_Chip_Arm.tied⟩, ⟨⟨_, rfl, nand_Chip_Off.tied⟩, ⟨⟨_, rfl, nand_Chip_Did.tied⟩, (fun j hj => by first | rfl | (match j, hj with | j + 7, _ => rfl))⟩⟩⟩⟩⟩⟩⟩
theorem law05_NandArm.tied : Tied Try.prog law05_NandArm.c 11 := tie_pure law05_NandArm.tiedCalls Try.func11 (by kernel_rfl) (by kernel_rfl) (by kernel_rfl) (by kernel_rfl) (by kernel_rfl) law05_NandArm.eq
theorem nand_Chip_Dead.tiedCalls : CallsTied Try.prog nand_Chip_Dead.calls [] 0 := (fun _ _ => rfl)
theorem nand_Chip_Dead.tied : Tied Try.prog nand_Chip_Dead.c 44 := tie_full nand_Chip_Dead.tiedCalls Try.func44 (by kernel_rfl) (by kernel_rfl) (by kernel_rfl) nand_Chip_Dead.eq
theorem law05_NandDead.tiedCalls : CallsTied Try.prog law05_NandDead.calls [34, 35, 36, 38, 37, 40, 43, 44] 0 := ⟨⟨_, rfl, law05_Geometry.tied⟩, ⟨⟨_, rfl, nand_New.tied⟩, ⟨⟨_, rfl, law05_awake.tied⟩, ⟨⟨_, rfl, law05_text.tied⟩, ⟨⟨_, rfl, nand_Chip_Program.tied⟩, ⟨⟨_, rfl, nand_Chip_Erase.tied⟩, ⟨⟨_, rfl, nand_Chip_Read.tied⟩, ⟨⟨_, rfl, nand_Chip_Dead.tied⟩, (fun j hj => by first | rfl | (match j, hj with | j + 8, _ => rfl))⟩⟩⟩⟩⟩⟩⟩⟩
theorem law05_NandDead.tied : Tied Try.prog law05_NandDead.c 12 := tie_full law05_NandDead.tiedCalls Try.func12 (by kernel_rfl) (by kernel_rfl) (by kernel_rfl) law05_NandDead.eq
theorem nand_Chip_Power.tiedCalls : CallsTied Try.prog nand_Chip_Power.calls [] 0 := (fun _ _ => rfl)
theorem nand_Chip_Power.tied : Tied Try.prog nand_Chip_Power.c 45 := tie_full nand_Chip_Power.tiedCalls Try.func45 (by kernel_rfl) (by kernel_rfl) (by kernel_rfl) nand_Chip_Power.eq
theorem nand_Chip_Marked.tiedCalls : CallsTied Try.prog nand_Chip_Marked.calls [67] 0 := ⟨⟨_, rfl, nand_Chip_in.tied⟩, (fun j hj => by first | rfl | (match j, hj with | j + 1, _ => rfl))⟩
theorem nand_Chip_Marked.tied : Tied Try.prog nand_Chip_Marked.c 46 := tie_full nand_Chip_Marked.tiedCalls Try.func46 (by kernel_rfl) (by kernel_rfl) (by kernel_rfl) nand_Chip_Marked.eq
theorem nand_Chip_Mark.tiedCalls : CallsTied Try.prog nand_Chip_Mark.calls [67, 68] 0 := ⟨⟨_, rfl, nand_Chip_in.tied⟩, ⟨⟨_, rfl, nand_Chip_act.tied⟩, (fun j hj => by first | rfl | (match j, hj with | j + 2, _ => rfl))⟩⟩
theorem nand_Chip_Mark.tied : Tied Try.prog nand_Chip_Mark.c 47 := tie_full nand_Chip_Mark.tiedCalls Try.func47 (by kernel_rfl) (by kernel_rfl) (by kernel_rfl) nand_Chip_Mark.eq
theorem nand_Chip_Worn.tiedCalls : CallsTied Try.prog nand_Chip_Worn.calls [] 0 := (fun _ _ => rfl)
theorem nand_Chip_Worn.tied : Tied Try.prog nand_Chip_Worn.c 48 := tie_full nand_Chip_Worn.tiedCalls Try.func48 (by kernel_rfl) (by kernel_rfl) (by kernel_rfl) nand_Chip_Worn.eq
theorem nand_Chip_Geometry.tiedCalls : CallsTied Try.prog nand_Chip_Geometry.calls [] 0 := (fun _ _ => rfl)
theorem nand_Chip_Geometry.tied : Tied Try.prog nand_Chip_Geometry.c 49 := tie_full nand_Chip_Geometry.tiedCalls Try.func49 (by kernel_rfl) (by kernel_rfl) (by kernel_rfl) nand_Chip_Geometry.eq
theorem law05_NandNone.tiedCalls : CallsTied Try.prog law05_NandNone.calls [45, 41, 43, 46, 35, 36, 37, 40, 47, 42, 39, 48, 44, 49, 50] 0 := ⟨⟨_, rfl, nand_Chip_Power.tied⟩, ⟨⟨_, rfl, nand_Chip_Arm.tied⟩, ⟨⟨_, rfl, nand_Chip_Read.tied⟩, ⟨⟨_, rfl, nand_Chip_Marked.tied⟩, ⟨⟨_, rfl, nand_New.tied⟩, ⟨⟨_, rfl, law05_awake.tied⟩, ⟨⟨_, rfl, nand_Chip_Program.tied⟩, ⟨⟨_, rfl, nand_Chip_Erase.tied⟩, ⟨⟨_, rfl, nand_Chip_Mark.tied⟩, ⟨⟨_, rfl, nand_Chip_Off.tied⟩, ⟨⟨_, rfl, nand_Chip_Did.tied⟩, ⟨⟨_, rfl, nand_Chip_Worn.tied⟩, ⟨⟨_, rfl, nand_Chip_Dead.tied⟩, ⟨⟨_, rfl, nand_Chip_Geometry.tied⟩, ⟨⟨_, rfl, nand_Check.tied⟩, (fun j hj => by first | rfl | (match j, hj with | j + 15, _ => rfl))⟩⟩⟩⟩⟩⟩⟩⟩⟩⟩⟩⟩⟩⟩⟩
theorem law05_NandNone.tied : Tied Try.prog law05_NandNone.c 13 := tie_pure law05_NandNone.tiedCalls Try.func13 (by kernel_rfl) (by kernel_rfl) (by kernel_rfl) (by kernel_rfl) (by kernel_rfl) law05_NandNone.eq
end Ev
