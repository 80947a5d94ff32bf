/- The functions are those of the program: the kernel checks the code, one by one. Written by gen2.py. -/
import Derived.Test.YtdjmipkijimajaaEvTie
import Derived.Test.YtdjmipkijimajaaGCode
import Derived.Test.YtdjmipkijimajaaGCrc
import Derived.Test.YtdjmipkijimajaaGSlices
import Derived.Test.YtdjmipkijimajaaGNand
import Derived.Test.YtdjmipkijimajaaGBus
import Derived.Test.YtdjmipkijimajaaGLaw05
import Derived.Test.YtdjmipkijimajaaGRef01
import Derived.Test.YtdjmipkijimajaaGRef04
import Derived.Test.YtdjmipkijimajaaGRef31
import Derived.Test.YtdjmipkijimajaaGLaw31
import Derived.Test.YtdjmipkijimajaaSh
import Derived.Test.YtdjmipkijimajaaProg
import Derived.KernelRfl
set_option maxRecDepth 100000
namespace Ev
open Go Go.Proofs
theorem bus_Bus_reset.tiedCalls : CallsTied Try.prog bus_Bus_reset.calls [] 0 := (fun _ _ => rfl)
theorem bus_Bus_reset.tied : Tied Try.prog bus_Bus_reset.c 49 := tie_full bus_Bus_reset.tiedCalls Try.func49 (by kernel_rfl) (by kernel_rfl) (by kernel_rfl) bus_Bus_reset.eq
theorem bus_Bus_ready.tiedCalls : CallsTied Try.prog bus_Bus_ready.calls [] 0 := (fun _ _ => rfl)
theorem bus_Bus_ready.tied : Tied Try.prog bus_Bus_ready.c 50 := tie_full bus_Bus_ready.tiedCalls Try.func50 (by kernel_rfl) (by kernel_rfl) (by kernel_rfl) bus_Bus_ready.eq
theorem bus_Bus_violate.tiedCalls : CallsTied Try.prog bus_Bus_violate.calls [] 0 := (fun _ _ => rfl)
theorem bus_Bus_violate.tied : Tied Try.prog bus_Bus_violate.c 51 := tie_full bus_Bus_violate.tiedCalls Try.func51 (by kernel_rfl) (by kernel_rfl) (by kernel_rfl) bus_Bus_violate.eq
theorem bus_wants.tiedCalls : CallsTied Try.prog bus_wants.calls [] 0 := (fun _ _ => rfl)
theorem bus_wants.tied : Tied Try.prog bus_wants.c 67 := tie_pure bus_wants.tiedCalls Try.func67 (by kernel_rfl) (by kernel_rfl) (by kernel_rfl) (by kernel_rfl) (by kernel_rfl) bus_wants.eq
theorem nand_Chip_Geometry.tiedCalls : CallsTied Try.prog nand_Chip_Geometry.calls [] 0 := (fun _ _ => rfl)
theorem nand_Chip_Geometry.tied : Tied Try.prog nand_Chip_Geometry.c 22 := tie_full nand_Chip_Geometry.tiedCalls Try.func22 (by kernel_rfl) (by kernel_rfl) (by kernel_rfl) nand_Chip_Geometry.eq
theorem bus_Bus_row.tiedCalls : CallsTied Try.prog bus_Bus_row.calls [] 0 := (fun _ _ => rfl)
theorem bus_Bus_row.tied : Tied Try.prog bus_Bus_row.c 55 := tie_full bus_Bus_row.tiedCalls Try.func55 (by kernel_rfl) (by kernel_rfl) (by kernel_rfl) bus_Bus_row.eq
theorem nand_Chip_in.tiedCalls : CallsTied Try.prog nand_Chip_in.calls [] 0 := (fun _ _ => rfl)
theorem nand_Chip_in.tied : Tied Try.prog nand_Chip_in.c 69 := tie_full nand_Chip_in.tiedCalls Try.func69 (by kernel_rfl) (by kernel_rfl) (by kernel_rfl) nand_Chip_in.eq
theorem nand_Chip_full.tiedCalls : CallsTied Try.prog nand_Chip_full.calls [58] 0 := ⟨⟨_, rfl, strings_Repeat.tied⟩, (fun j hj => by first | rfl | (match j, hj with | j + 1, _ => rfl))⟩
theorem nand_Chip_full.tied : Tied Try.prog nand_Chip_full.c 82 := tie_full nand_Chip_full.tiedCalls Try.func82 (by kernel_rfl) (by kernel_rfl) (by kernel_rfl) nand_Chip_full.eq
theorem nand_Chip_Read.tiedCalls : CallsTied Try.prog nand_Chip_Read.calls [69, 82] 0 := ⟨⟨_, rfl, nand_Chip_in.tied⟩, ⟨⟨_, rfl, nand_Chip_full.tied⟩, (fun j hj => by first | rfl | (match j, hj with | j + 2, _ => rfl))⟩⟩
theorem nand_Chip_Read.tied : Tied Try.prog nand_Chip_Read.c 63 := tie_full nand_Chip_Read.tiedCalls Try.func63 (by kernel_rfl) (by kernel_rfl) (by kernel_rfl) nand_Chip_Read.eq
theorem bus_Bus_column.tiedCalls : CallsTied Try.prog bus_Bus_column.calls [] 0 := (fun _ _ => rfl)
theorem bus_Bus_column.tied : Tied Try.prog bus_Bus_column.c 87 := tie_full bus_Bus_column.tiedCalls Try.func87 (by kernel_rfl) (by kernel_rfl) (by kernel_rfl) bus_Bus_column.eq
theorem bus_Bus_tell.tiedCalls : CallsTied Try.prog bus_Bus_tell.calls [] 0 := (fun _ _ => rfl)
theorem bus_Bus_tell.tied : Tied Try.prog bus_Bus_tell.c 53 := tie_full bus_Bus_tell.tiedCalls Try.func53 (by kernel_rfl) (by kernel_rfl) (by kernel_rfl) bus_Bus_tell.eq
theorem nand_Chip_act.tiedCalls : CallsTied Try.prog nand_Chip_act.calls [] 0 := (fun _ _ => rfl)
theorem nand_Chip_act.tied : Tied Try.prog nand_Chip_act.c 70 := tie_full nand_Chip_act.tiedCalls Try.func70 (by kernel_rfl) (by kernel_rfl) (by kernel_rfl) nand_Chip_act.eq
theorem nand_torn.tiedCalls : CallsTied Try.prog nand_torn.calls [58] 0 := ⟨⟨_, rfl, strings_Repeat.tied⟩, (fun j hj => by first | rfl | (match j, hj with | j + 1, _ => rfl))⟩
theorem nand_torn.tied : Tied Try.prog nand_torn.c 95 := tie_pure nand_torn.tiedCalls Try.func95 (by kernel_rfl) (by kernel_rfl) (by kernel_rfl) (by kernel_rfl) (by kernel_rfl) nand_torn.eq
theorem nand_Chip_lay.tiedCalls : CallsTied Try.prog nand_Chip_lay.calls [82] 0 := ⟨⟨_, rfl, nand_Chip_full.tied⟩, (fun j hj => by first | rfl | (match j, hj with | j + 1, _ => rfl))⟩
theorem nand_Chip_lay.tied : Tied Try.prog nand_Chip_lay.c 94 := tie_full nand_Chip_lay.tiedCalls Try.func94 (by kernel_rfl) (by kernel_rfl) (by kernel_rfl) nand_Chip_lay.eq
theorem slices_Index_int_int.tiedCalls : CallsTied Try.prog slices_Index_int_int.calls [] 0 := (fun _ _ => rfl)
theorem slices_Index_int_int.tied : Tied Try.prog slices_Index_int_int.c 65 := tie_full slices_Index_int_int.tiedCalls Try.func65 (by kernel_rfl) (by kernel_rfl) (by kernel_rfl) slices_Index_int_int.eq
theorem slices_Contains_int_int.tiedCalls : CallsTied Try.prog slices_Contains_int_int.calls [65] 0 := ⟨⟨_, rfl, slices_Index_int_int.tied⟩, (fun j hj => by first | rfl | (match j, hj with | j + 1, _ => rfl))⟩
theorem slices_Contains_int_int.tied : Tied Try.prog slices_Contains_int_int.c 46 := tie_full slices_Contains_int_int.tiedCalls Try.func46 (by kernel_rfl) (by kernel_rfl) (by kernel_rfl) slices_Contains_int_int.eq
theorem nand_Chip_fail.tiedCalls : CallsTied Try.prog nand_Chip_fail.calls [46] 0 := ⟨⟨_, rfl, slices_Contains_int_int.tied⟩, (fun j hj => by first | rfl | (match j, hj with | j + 1, _ => rfl))⟩
theorem nand_Chip_fail.tied : Tied Try.prog nand_Chip_fail.c 96 := tie_full nand_Chip_fail.tiedCalls Try.func96 (by kernel_rfl) (by kernel_rfl) (by kernel_rfl) nand_Chip_fail.eq
theorem nand_Chip_Program.tiedCalls : CallsTied Try.prog nand_Chip_Program.calls [69, 70, 95, 94, 96] 0 := ⟨⟨_, rfl, nand_Chip_in.tied⟩, ⟨⟨_, rfl, nand_Chip_act.tied⟩, ⟨⟨_, rfl, nand_torn.tied⟩, ⟨⟨_, rfl, nand_Chip_lay.tied⟩, ⟨⟨_, rfl, nand_Chip_fail.tied⟩, (fun j hj => by first | rfl | (match j, hj with | j + 5, _ => rfl))⟩⟩⟩⟩⟩
theorem nand_Chip_Program.tied : Tied Try.prog nand_Chip_Program.c 80 := tie_full nand_Chip_Program.tiedCalls Try.func80 (by kernel_rfl) (by kernel_rfl) (by kernel_rfl) nand_Chip_Program.eq
theorem bus_Bus_write.tiedCalls : CallsTied Try.prog bus_Bus_write.calls [22, 58, 87, 55, 80] 0 := ⟨⟨_, rfl, nand_Chip_Geometry.tied⟩, ⟨⟨_, rfl, strings_Repeat.tied⟩, ⟨⟨_, rfl, bus_Bus_column.tied⟩, ⟨⟨_, rfl, bus_Bus_row.tied⟩, ⟨⟨_, rfl, nand_Chip_Program.tied⟩, (fun j hj => by first | rfl | (match j, hj with | j + 5, _ => rfl))⟩⟩⟩⟩⟩
theorem bus_Bus_write.tied : Tied Try.prog bus_Bus_write.c 88 := tie_full bus_Bus_write.tiedCalls Try.func88 (by kernel_rfl) (by kernel_rfl) (by kernel_rfl) bus_Bus_write.eq
theorem nand_Chip_Erase.tiedCalls : CallsTied Try.prog nand_Chip_Erase.calls [69, 70, 82, 95, 94, 96] 0 := ⟨⟨_, rfl, nand_Chip_in.tied⟩, ⟨⟨_, rfl, nand_Chip_act.tied⟩, ⟨⟨_, rfl, nand_Chip_full.tied⟩, ⟨⟨_, rfl, nand_torn.tied⟩, ⟨⟨_, rfl, nand_Chip_lay.tied⟩, ⟨⟨_, rfl, nand_Chip_fail.tied⟩, (fun j hj => by first | rfl | (match j, hj with | j + 6, _ => rfl))⟩⟩⟩⟩⟩⟩
theorem nand_Chip_Erase.tied : Tied Try.prog nand_Chip_Erase.c 81 := tie_full nand_Chip_Erase.tiedCalls Try.func81 (by kernel_rfl) (by kernel_rfl) (by kernel_rfl) nand_Chip_Erase.eq
theorem bus_Bus_end.tiedCalls : CallsTied Try.prog bus_Bus_end.calls [22, 51, 55, 63, 87, 53, 88, 81] 0 := ⟨⟨_, rfl, nand_Chip_Geometry.tied⟩, ⟨⟨_, rfl, bus_Bus_violate.tied⟩, ⟨⟨_, rfl, bus_Bus_row.tied⟩, ⟨⟨_, rfl, nand_Chip_Read.tied⟩, ⟨⟨_, rfl, bus_Bus_column.tied⟩, ⟨⟨_, rfl, bus_Bus_tell.tied⟩, ⟨⟨_, rfl, bus_Bus_write.tied⟩, ⟨⟨_, rfl, nand_Chip_Erase.tied⟩, (fun j hj => by first | rfl | (match j, hj with | j + 8, _ => rfl))⟩⟩⟩⟩⟩⟩⟩⟩
theorem bus_Bus_end.tied : Tied Try.prog bus_Bus_end.c 68 := tie_full bus_Bus_end.tiedCalls Try.func68 (by kernel_rfl) (by kernel_rfl) (by kernel_rfl) bus_Bus_end.eq
theorem bus_Bus_begin.tiedCalls : CallsTied Try.prog bus_Bus_begin.calls [67, 68, 51] 0 := ⟨⟨_, rfl, bus_wants.tied⟩, ⟨⟨_, rfl, bus_Bus_end.tied⟩, ⟨⟨_, rfl, bus_Bus_violate.tied⟩, (fun j hj => by first | rfl | (match j, hj with | j + 3, _ => rfl))⟩⟩⟩
theorem bus_Bus_begin.tied : Tied Try.prog bus_Bus_begin.c 52 := tie_full bus_Bus_begin.tiedCalls Try.func52 (by kernel_rfl) (by kernel_rfl) (by kernel_rfl) bus_Bus_begin.eq
theorem bus_Bus_Command.tiedCalls : CallsTied Try.prog bus_Bus_Command.calls [49, 50, 51, 52] 0 := ⟨⟨_, rfl, bus_Bus_reset.tied⟩, ⟨⟨_, rfl, bus_Bus_ready.tied⟩, ⟨⟨_, rfl, bus_Bus_violate.tied⟩, ⟨⟨_, rfl, bus_Bus_begin.tied⟩, (fun j hj => by first | rfl | (match j, hj with | j + 4, _ => rfl))⟩⟩⟩⟩
theorem bus_Bus_Command.tied : Tied Try.prog bus_Bus_Command.c 26 := tie_full bus_Bus_Command.tiedCalls Try.func26 (by kernel_rfl) (by kernel_rfl) (by kernel_rfl) bus_Bus_Command.eq
theorem code_Fixed.tiedCalls : CallsTied Try.prog code_Fixed.calls [] 0 := (fun _ _ => rfl)
theorem code_Fixed.tied : Tied Try.prog code_Fixed.c 57 := tie_pure code_Fixed.tiedCalls Try.func57 (by kernel_rfl) (by kernel_rfl) (by kernel_rfl) (by kernel_rfl) (by kernel_rfl) code_Fixed.eq
theorem crc_More.tiedCalls : CallsTied Try.prog crc_More.calls [] 0 := (fun _ _ => rfl)
theorem crc_More.tied : Tied Try.prog crc_More.c 78 := tie_pure crc_More.tiedCalls Try.func78 (by kernel_rfl) (by kernel_rfl) (by kernel_rfl) (by kernel_rfl) (by kernel_rfl) crc_More.eq
theorem crc_Sum.tiedCalls : CallsTied Try.prog crc_Sum.calls [78] 0 := ⟨⟨_, rfl, crc_More.tied⟩, (fun j hj => by first | rfl | (match j, hj with | j + 1, _ => rfl))⟩
theorem crc_Sum.tied : Tied Try.prog crc_Sum.c 59 := tie_pure crc_Sum.tiedCalls Try.func59 (by kernel_rfl) (by kernel_rfl) (by kernel_rfl) (by kernel_rfl) (by kernel_rfl) crc_Sum.eq
theorem bus_Param.tiedCalls : CallsTied Try.prog bus_Param.calls [57, 58, 59] 0 := ⟨⟨_, rfl, code_Fixed.tied⟩, ⟨⟨_, rfl, strings_Repeat.tied⟩, ⟨⟨_, rfl, crc_Sum.tied⟩, (fun j hj => by first | rfl | (match j, hj with | j + 3, _ => rfl))⟩⟩⟩
theorem bus_Param.tied : Tied Try.prog bus_Param.c 30 := tie_pure bus_Param.tiedCalls Try.func30 (by kernel_rfl) (by kernel_rfl) (by kernel_rfl) (by kernel_rfl) (by kernel_rfl) bus_Param.eq
theorem nand_Chip_Mark.tiedCalls : CallsTied Try.prog nand_Chip_Mark.calls [69, 70] 0 := ⟨⟨_, rfl, nand_Chip_in.tied⟩, ⟨⟨_, rfl, nand_Chip_act.tied⟩, (fun j hj => by first | rfl | (match j, hj with | j + 2, _ => rfl))⟩⟩
theorem nand_Chip_Mark.tied : Tied Try.prog nand_Chip_Mark.c 54 := tie_full nand_Chip_Mark.tiedCalls Try.func54 (by kernel_rfl) (by kernel_rfl) (by kernel_rfl) nand_Chip_Mark.eq
theorem nand_Chip_Marked.tiedCalls : CallsTied Try.prog nand_Chip_Marked.calls [69] 0 := ⟨⟨_, rfl, nand_Chip_in.tied⟩, (fun j hj => by first | rfl | (match j, hj with | j + 1, _ => rfl))⟩
theorem nand_Chip_Marked.tied : Tied Try.prog nand_Chip_Marked.c 71 := tie_full nand_Chip_Marked.tiedCalls Try.func71 (by kernel_rfl) (by kernel_rfl) (by kernel_rfl) nand_Chip_Marked.eq
theorem bus_Bus_marked.tiedCalls : CallsTied Try.prog bus_Bus_marked.calls [55, 22, 71, 53] 0 := ⟨⟨_, rfl, bus_Bus_row.tied⟩, ⟨⟨_, rfl, nand_Chip_Geometry.tied⟩, ⟨⟨_, rfl, nand_Chip_Marked.tied⟩, ⟨⟨_, rfl, bus_Bus_tell.tied⟩, (fun j hj => by first | rfl | (match j, hj with | j + 4, _ => rfl))⟩⟩⟩⟩
theorem bus_Bus_marked.tied : Tied Try.prog bus_Bus_marked.c 56 := tie_full bus_Bus_marked.tiedCalls Try.func56 (by kernel_rfl) (by kernel_rfl) (by kernel_rfl) bus_Bus_marked.eq
theorem bus_Bus_Address.tiedCalls : CallsTied Try.prog bus_Bus_Address.calls [50, 51, 53, 22, 30, 55, 54, 56] 0 := ⟨⟨_, rfl, bus_Bus_ready.tied⟩, ⟨⟨_, rfl, bus_Bus_violate.tied⟩, ⟨⟨_, rfl, bus_Bus_tell.tied⟩, ⟨⟨_, rfl, nand_Chip_Geometry.tied⟩, ⟨⟨_, rfl, bus_Param.tied⟩, ⟨⟨_, rfl, bus_Bus_row.tied⟩, ⟨⟨_, rfl, nand_Chip_Mark.tied⟩, ⟨⟨_, rfl, bus_Bus_marked.tied⟩, (fun j hj => by first | rfl | (match j, hj with | j + 8, _ => rfl))⟩⟩⟩⟩⟩⟩⟩⟩
theorem bus_Bus_Address.tied : Tied Try.prog bus_Bus_Address.c 27 := tie_full bus_Bus_Address.tiedCalls Try.func27 (by kernel_rfl) (by kernel_rfl) (by kernel_rfl) bus_Bus_Address.eq
theorem bus_Bus_In.tiedCalls : CallsTied Try.prog bus_Bus_In.calls [50, 22, 51] 0 := ⟨⟨_, rfl, bus_Bus_ready.tied⟩, ⟨⟨_, rfl, nand_Chip_Geometry.tied⟩, ⟨⟨_, rfl, bus_Bus_violate.tied⟩, (fun j hj => by first | rfl | (match j, hj with | j + 3, _ => rfl))⟩⟩⟩
theorem bus_Bus_In.tied : Tied Try.prog bus_Bus_In.c 34 := tie_full bus_Bus_In.tiedCalls Try.func34 (by kernel_rfl) (by kernel_rfl) (by kernel_rfl) bus_Bus_In.eq
theorem bus_New.tiedCalls : CallsTied Try.prog bus_New.calls [22] 0 := ⟨⟨_, rfl, nand_Chip_Geometry.tied⟩, (fun j hj => by first | rfl | (match j, hj with | j + 1, _ => rfl))⟩
theorem bus_New.tied : Tied Try.prog bus_New.c 37 := tie_full bus_New.tiedCalls Try.func37 (by kernel_rfl) (by kernel_rfl) (by kernel_rfl) bus_New.eq
theorem law05_Geometry.tiedCalls : CallsTied Try.prog law05_Geometry.calls [] 0 := (fun _ _ => rfl)
theorem law05_Geometry.tied : Tied Try.prog law05_Geometry.c 39 := tie_full law05_Geometry.tiedCalls Try.func39 (by kernel_rfl) (by kernel_rfl) (by kernel_rfl) law05_Geometry.eq
theorem nand_Check.tiedCalls : CallsTied Try.prog nand_Check.calls [] 0 := (fun _ _ => rfl)
theorem nand_Check.tied : Tied Try.prog nand_Check.c 43 := tie_pure nand_Check.tiedCalls Try.func43 (by kernel_rfl) (by kernel_rfl) (by kernel_rfl) (by kernel_rfl) (by kernel_rfl) nand_Check.eq
theorem slices_Clone_api_Cut_api_Cut.tiedCalls : CallsTied Try.prog slices_Clone_api_Cut_api_Cut.calls [] 0 := (fun _ _ => rfl)
theorem slices_Clone_api_Cut_api_Cut.tied : Tied Try.prog slices_Clone_api_Cut_api_Cut.c 44 := tie_full slices_Clone_api_Cut_api_Cut.tiedCalls Try.func44 (by kernel_rfl) (by kernel_rfl) (by kernel_rfl) slices_Clone_api_Cut_api_Cut.eq
theorem slices_Clone_int_int.tiedCalls : CallsTied Try.prog slices_Clone_int_int.calls [] 0 := (fun _ _ => rfl)
theorem slices_Clone_int_int.tied : Tied Try.prog slices_Clone_int_int.c 45 := tie_full slices_Clone_int_int.tiedCalls Try.func45 (by kernel_rfl) (by kernel_rfl) (by kernel_rfl) slices_Clone_int_int.eq
theorem nand_New.tiedCalls : CallsTied Try.prog nand_New.calls [43, 44, 45, 46] 0 := ⟨⟨_, rfl, nand_Check.tied⟩, ⟨⟨_, rfl, slices_Clone_api_Cut_api_Cut.tied⟩, ⟨⟨_, rfl, slices_Clone_int_int.tied⟩, ⟨⟨_, rfl, slices_Contains_int_int.tied⟩, (fun j hj => by first | rfl | (match j, hj with | j + 4, _ => rfl))⟩⟩⟩⟩
theorem nand_New.tied : Tied Try.prog nand_New.c 18 := tie_full nand_New.tiedCalls Try.func18 (by kernel_rfl) (by kernel_rfl) (by kernel_rfl) nand_New.eq
theorem law31_begun.tiedCalls : CallsTied Try.prog law31_begun.calls [39, 18, 37] 0 := ⟨⟨_, rfl, law05_Geometry.tied⟩, ⟨⟨_, rfl, nand_New.tied⟩, ⟨⟨_, rfl, bus_New.tied⟩, (fun j hj => by first | rfl | (match j, hj with | j + 3, _ => rfl))⟩⟩⟩
theorem law31_begun.tied : Tied Try.prog law31_begun.c 23 := tie_full law31_begun.tiedCalls Try.func23 (by kernel_rfl) (by kernel_rfl) (by kernel_rfl) law31_begun.eq
theorem bus_Bus_status.tiedCalls : CallsTied Try.prog bus_Bus_status.calls [] 0 := (fun _ _ => rfl)
theorem bus_Bus_status.tied : Tied Try.prog bus_Bus_status.c 60 := tie_full bus_Bus_status.tiedCalls Try.func60 (by kernel_rfl) (by kernel_rfl) (by kernel_rfl) bus_Bus_status.eq
theorem bus_Bus_Out.tiedCalls : CallsTied Try.prog bus_Bus_Out.calls [60, 50, 51] 0 := ⟨⟨_, rfl, bus_Bus_status.tied⟩, ⟨⟨_, rfl, bus_Bus_ready.tied⟩, ⟨⟨_, rfl, bus_Bus_violate.tied⟩, (fun j hj => by first | rfl | (match j, hj with | j + 3, _ => rfl))⟩⟩⟩
theorem bus_Bus_Out.tied : Tied Try.prog bus_Bus_Out.c 31 := tie_full bus_Bus_Out.tiedCalls Try.func31 (by kernel_rfl) (by kernel_rfl) (by kernel_rfl) bus_Bus_Out.eq
theorem law31_take.tiedCalls : CallsTied Try.prog law31_take.calls [31] 0 := ⟨⟨_, rfl, bus_Bus_Out.tied⟩, (fun j hj => by first | rfl | (match j, hj with | j + 1, _ => rfl))⟩
theorem law31_take.tied : Tied Try.prog law31_take.c 29 := tie_full law31_take.tiedCalls Try.func29 (by kernel_rfl) (by kernel_rfl) (by kernel_rfl) law31_take.eq
theorem bus_Bus_Wrong.tiedCalls : CallsTied Try.prog bus_Bus_Wrong.calls [] 0 := (fun _ _ => rfl)
theorem bus_Bus_Wrong.tied : Tied Try.prog bus_Bus_Wrong.c 32 := tie_full bus_Bus_Wrong.tiedCalls Try.func32 (by kernel_rfl) (by kernel_rfl) (by kernel_rfl) bus_Bus_Wrong.eq
theorem law31_awake.tiedCalls : CallsTied Try.prog law31_awake.calls [23, 26, 27, 29, 32] 0 := ⟨⟨_, rfl, law31_begun.tied⟩, ⟨⟨_, rfl, bus_Bus_Command.tied⟩, ⟨⟨_, rfl, bus_Bus_Address.tied⟩, ⟨⟨_, rfl, law31_take.tied⟩, ⟨⟨_, rfl, bus_Bus_Wrong.tied⟩, (fun j hj => by first | rfl | (match j, hj with | j + 5, _ => rfl))⟩⟩⟩⟩⟩
theorem law31_awake.tied : Tied Try.prog law31_awake.c 24 := tie_pure law31_awake.tiedCalls Try.func24 (by kernel_rfl) (by kernel_rfl) (by kernel_rfl) (by kernel_rfl) (by kernel_rfl) law31_awake.eq
theorem bus_Bus_Ready.tiedCalls : CallsTied Try.prog bus_Bus_Ready.calls [] 0 := (fun _ _ => rfl)
theorem bus_Bus_Ready.tied : Tied Try.prog bus_Bus_Ready.c 36 := tie_full bus_Bus_Ready.tiedCalls Try.func36 (by kernel_rfl) (by kernel_rfl) (by kernel_rfl) bus_Bus_Ready.eq
theorem bus_Bus_Chip.tiedCalls : CallsTied Try.prog bus_Bus_Chip.calls [] 0 := (fun _ _ => rfl)
theorem bus_Bus_Chip.tied : Tied Try.prog bus_Bus_Chip.c 38 := tie_full bus_Bus_Chip.tiedCalls Try.func38 (by kernel_rfl) (by kernel_rfl) (by kernel_rfl) bus_Bus_Chip.eq
theorem law31_BusNone.tiedCalls : CallsTied Try.prog law31_BusNone.calls [26, 27, 34, 37, 24, 31, 36, 32, 38] 0 := ⟨⟨_, rfl, bus_Bus_Command.tied⟩, ⟨⟨_, rfl, bus_Bus_Address.tied⟩, ⟨⟨_, rfl, bus_Bus_In.tied⟩, ⟨⟨_, rfl, bus_New.tied⟩, ⟨⟨_, rfl, law31_awake.tied⟩, ⟨⟨_, rfl, bus_Bus_Out.tied⟩, ⟨⟨_, rfl, bus_Bus_Ready.tied⟩, ⟨⟨_, rfl, bus_Bus_Wrong.tied⟩, ⟨⟨_, rfl, bus_Bus_Chip.tied⟩, (fun j hj => by first | rfl | (match j, hj with | j + 9, _ => rfl))⟩⟩⟩⟩⟩⟩⟩⟩⟩
theorem law31_BusNone.tied : Tied Try.prog law31_BusNone.c 12 := tie_pure law31_BusNone.tiedCalls Try.func12 (by kernel_rfl) (by kernel_rfl) (by kernel_rfl) (by kernel_rfl) (by kernel_rfl) law31_BusNone.eq
theorem nand_Chip_Did.tiedCalls : CallsTied Try.prog nand_Chip_Did.calls [] 0 := (fun _ _ => rfl)
theorem nand_Chip_Did.tied : Tied Try.prog nand_Chip_Did.c 35 := tie_full nand_Chip_Did.tiedCalls Try.func35 (by kernel_rfl) (by kernel_rfl) (by kernel_rfl) nand_Chip_Did.eq
theorem law31_BusOrder.tiedCalls : CallsTied Try.prog law31_BusOrder.calls [23, 24, 26, 27, 34, 31, 32, 35] 0 := ⟨⟨_, rfl, law31_begun.tied⟩, ⟨⟨_, rfl, law31_awake.tied⟩, ⟨⟨_, rfl, bus_Bus_Command.tied⟩, ⟨⟨_, rfl, bus_Bus_Address.tied⟩, ⟨⟨_, rfl, bus_Bus_In.tied⟩, ⟨⟨_, rfl, bus_Bus_Out.tied⟩, ⟨⟨_, rfl, bus_Bus_Wrong.tied⟩, ⟨⟨_, rfl, nand_Chip_Did.tied⟩, (fun j hj => by first | rfl | (match j, hj with | j + 8, _ => rfl))⟩⟩⟩⟩⟩⟩⟩⟩
theorem law31_BusOrder.tied : Tied Try.prog law31_BusOrder.c 9 := tie_pure law31_BusOrder.tiedCalls Try.func9 (by kernel_rfl) (by kernel_rfl) (by kernel_rfl) (by kernel_rfl) (by kernel_rfl) law31_BusOrder.eq
theorem ref04_Fixed.tiedCalls : CallsTied Try.prog ref04_Fixed.calls [] 0 := (fun _ _ => rfl)
theorem ref04_Fixed.tied : Tied Try.prog ref04_Fixed.c 47 := tie_pure ref04_Fixed.tiedCalls Try.func47 (by kernel_rfl) (by kernel_rfl) (by kernel_rfl) (by kernel_rfl) (by kernel_rfl) ref04_Fixed.eq
theorem ref01_turned.tiedCalls : CallsTied Try.prog ref01_turned.calls [] 0 := (fun _ _ => rfl)
theorem ref01_turned.tied : Tied Try.prog ref01_turned.c 66 := tie_pure ref01_turned.tiedCalls Try.func66 (by kernel_rfl) (by kernel_rfl) (by kernel_rfl) (by kernel_rfl) (by kernel_rfl) ref01_turned.eq
theorem ref01_Sum.tiedCalls : CallsTied Try.prog ref01_Sum.calls [66] 0 := ⟨⟨_, rfl, ref01_turned.tied⟩, (fun j hj => by first | rfl | (match j, hj with | j + 1, _ => rfl))⟩
theorem ref01_Sum.tied : Tied Try.prog ref01_Sum.c 48 := tie_pure ref01_Sum.tiedCalls Try.func48 (by kernel_rfl) (by kernel_rfl) (by kernel_rfl) (by kernel_rfl) (by kernel_rfl) ref01_Sum.eq
theorem ref31_Param.tiedCalls : CallsTied Try.prog ref31_Param.calls [47, 48] 0 := ⟨⟨_, rfl, ref04_Fixed.tied⟩, ⟨⟨_, rfl, ref01_Sum.tied⟩, (fun j hj => by first | rfl | (match j, hj with | j + 2, _ => rfl))⟩⟩
theorem ref31_Param.tied : Tied Try.prog ref31_Param.c 25 := tie_pure ref31_Param.tiedCalls Try.func25 (by kernel_rfl) (by kernel_rfl) (by kernel_rfl) (by kernel_rfl) (by kernel_rfl) ref31_Param.eq
theorem law31_polls.tiedCalls : CallsTied Try.prog law31_polls.calls [36] 0 := ⟨⟨_, rfl, bus_Bus_Ready.tied⟩, (fun j hj => by first | rfl | (match j, hj with | j + 1, _ => rfl))⟩
theorem law31_polls.tied : Tied Try.prog law31_polls.c 28 := tie_full law31_polls.tiedCalls Try.func28 (by kernel_rfl) (by kernel_rfl) (by kernel_rfl) law31_polls.eq
theorem law31_BusParams.tiedCalls : CallsTied Try.prog law31_BusParams.calls [23, 24, 22, 25, 26, 27, 28, 29, 30, 31, 32] 0 := ⟨⟨_, rfl, law31_begun.tied⟩, ⟨⟨_, rfl, law31_awake.tied⟩, ⟨⟨_, rfl, nand_Chip_Geometry.tied⟩, ⟨⟨_, rfl, ref31_Param.tied⟩, ⟨⟨_, rfl, bus_Bus_Command.tied⟩, ⟨⟨_, rfl, bus_Bus_Address.tied⟩, ⟨⟨_, rfl, law31_polls.tied⟩, ⟨⟨_, rfl, law31_take.tied⟩, ⟨⟨_, rfl, bus_Param.tied⟩, ⟨⟨_, rfl, bus_Bus_Out.tied⟩, ⟨⟨_, rfl, bus_Bus_Wrong.tied⟩, (fun j hj => by first | rfl | (match j, hj with | j + 11, _ => rfl))⟩⟩⟩⟩⟩⟩⟩⟩⟩⟩⟩
theorem law31_BusParams.tied : Tied Try.prog law31_BusParams.c 7 := tie_pure law31_BusParams.tiedCalls Try.func7 (by kernel_rfl) (by kernel_rfl) (by kernel_rfl) (by kernel_rfl) (by kernel_rfl) law31_BusParams.eq
theorem law31_send.tiedCalls : CallsTied Try.prog law31_send.calls [27] 0 := ⟨⟨_, rfl, bus_Bus_Address.tied⟩, (fun j hj => by first | rfl | (match j, hj with | j + 1, _ => rfl))⟩
theorem law31_send.tied : Tied Try.prog law31_send.c 33 := tie_full law31_send.tiedCalls Try.func33 (by kernel_rfl) (by kernel_rfl) (by kernel_rfl) law31_send.eq
theorem law31_BusFails.tiedCalls : CallsTied Try.prog law31_BusFails.calls [23, 24, 22, 26, 33, 28, 31, 32] 0 := ⟨⟨_, rfl, law31_begun.tied⟩, ⟨⟨_, rfl, law31_awake.tied⟩, ⟨⟨_, rfl, nand_Chip_Geometry.tied⟩, ⟨⟨_, rfl, bus_Bus_Command.tied⟩, ⟨⟨_, rfl, law31_send.tied⟩, ⟨⟨_, rfl, law31_polls.tied⟩, ⟨⟨_, rfl, bus_Bus_Out.tied⟩, ⟨⟨_, rfl, bus_Bus_Wrong.tied⟩, (fun j hj => by first | rfl | (match j, hj with | j + 8, _ => rfl))⟩⟩⟩⟩⟩⟩⟩⟩
theorem law31_BusFails.tied : Tied Try.prog law31_BusFails.c 8 := tie_pure law31_BusFails.tiedCalls Try.func8 (by kernel_rfl) (by kernel_rfl) (by kernel_rfl) (by kernel_rfl) (by kernel_rfl) law31_BusFails.eq
theorem law31_BusWrites.tiedCalls : CallsTied Try.prog law31_BusWrites.calls [23, 24, 22, 26, 33, 34, 28, 31, 29, 32, 35] 0 := ⟨⟨_, rfl, law31_begun.tied⟩, ⟨⟨_, rfl, law31_awake.tied⟩, ⟨⟨_, rfl, nand_Chip_Geometry.tied⟩, ⟨⟨_, rfl, bus_Bus_Command.tied⟩, ⟨⟨_, rfl, law31_send.tied⟩, ⟨⟨_, rfl, bus_Bus_In.tied⟩, ⟨⟨_, rfl, law31_polls.tied⟩, ⟨⟨_, rfl, bus_Bus_Out.tied⟩, ⟨⟨_, rfl, law31_take.tied⟩, ⟨⟨_, rfl, bus_Bus_Wrong.tied⟩, ⟨⟨_, rfl, nand_Chip_Did.tied⟩, (fun j hj => by first | rfl | (match j, hj with | j + 11, _ => rfl))⟩⟩⟩⟩⟩⟩⟩⟩⟩⟩⟩
theorem law31_BusWrites.tied : Tied Try.prog law31_BusWrites.c 10 := tie_pure law31_BusWrites.tiedCalls Try.func10 (by kernel_rfl) (by kernel_rfl) (by kernel_rfl) (by kernel_rfl) (by kernel_rfl) law31_BusWrites.eq
theorem law31_BusWild.tiedCalls : CallsTied Try.prog law31_BusWild.calls [23, 24, 26, 27, 34, 31, 36, 32, 28, 35, 29] 0 := ⟨⟨_, rfl, law31_begun.tied⟩, ⟨⟨_, rfl, law31_awake.tied⟩, ⟨⟨_, rfl, bus_Bus_Command.tied⟩, ⟨⟨_, rfl, bus_Bus_Address.tied⟩, ⟨⟨_, rfl, bus_Bus_In.tied⟩, ⟨⟨_, rfl, bus_Bus_Out.tied⟩, ⟨⟨_, rfl, bus_Bus_Ready.tied⟩, ⟨⟨_, rfl, bus_Bus_Wrong.tied⟩, ⟨⟨_, rfl, law31_polls.tied⟩, ⟨⟨_, rfl, nand_Chip_Did.tied⟩, ⟨⟨_, rfl, law31_take.tied⟩, (fun j hj => by first | rfl | (match j, hj with | j + 11, _ => rfl))⟩⟩⟩⟩⟩⟩⟩⟩⟩⟩⟩
theorem law31_BusWild.tied : Tied Try.prog law31_BusWild.c 11 := tie_full law31_BusWild.tiedCalls Try.func11 (by kernel_rfl) (by kernel_rfl) (by kernel_rfl) law31_BusWild.eq
end Ev
