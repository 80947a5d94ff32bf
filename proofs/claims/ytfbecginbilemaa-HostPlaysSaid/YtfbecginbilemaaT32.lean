/- The functions are those of the program: the kernel checks the code, one by one. Written by gen2.py. -/
import Derived.Test.YtfbecginbilemaaEvTie
import Derived.Test.YtfbecginbilemaaGCode
import Derived.Test.YtfbecginbilemaaGCrc
import Derived.Test.YtfbecginbilemaaGSlices
import Derived.Test.YtfbecginbilemaaGNand
import Derived.Test.YtfbecginbilemaaGBus
import Derived.Test.YtfbecginbilemaaGHost
import Derived.Test.YtfbecginbilemaaGRef04
import Derived.Test.YtfbecginbilemaaGRef01
import Derived.Test.YtfbecginbilemaaGLaw05
import Derived.Test.YtfbecginbilemaaGLaw32
import Derived.Test.YtfbecginbilemaaSh
import Derived.Test.YtfbecginbilemaaProg
import Derived.KernelRfl
set_option maxRecDepth 100000
namespace Ev
open Go Go.Proofs
theorem code_New.tiedCalls : CallsTied Try.prog code_New.calls [] 0 := (fun _ _ => rfl)
theorem code_New.tied : Tied Try.prog code_New.c 57 := tie_full code_New.tiedCalls Try.func57 (by kernel_rfl) (by kernel_rfl) (by kernel_rfl) code_New.eq
theorem code_Reader_Err.tiedCalls : CallsTied Try.prog code_Reader_Err.calls [] 0 := (fun _ _ => rfl)
theorem code_Reader_Err.tied : Tied Try.prog code_Reader_Err.c 76 := tie_full code_Reader_Err.tiedCalls Try.func76 (by kernel_rfl) (by kernel_rfl) (by kernel_rfl) code_Reader_Err.eq
theorem code_Reader_fail.tiedCalls : CallsTied Try.prog code_Reader_fail.calls [] 0 := (fun _ _ => rfl)
theorem code_Reader_fail.tied : Tied Try.prog code_Reader_fail.c 77 := tie_full code_Reader_fail.tiedCalls Try.func77 (by kernel_rfl) (by kernel_rfl) (by kernel_rfl) code_Reader_fail.eq
theorem code_Reader_Bytes.tiedCalls : CallsTied Try.prog code_Reader_Bytes.calls [76, 77] 0 := ⟨⟨_, rfl, code_Reader_Err.tied⟩, ⟨⟨_, rfl, code_Reader_fail.tied⟩, (fun j hj => by first | rfl | (match j, hj with | j + 2, _ => rfl))⟩⟩
theorem code_Reader_Bytes.tied : Tied Try.prog code_Reader_Bytes.c 58 := tie_full code_Reader_Bytes.tiedCalls Try.func58 (by kernel_rfl) (by kernel_rfl) (by kernel_rfl) code_Reader_Bytes.eq
theorem code_value.tiedCalls : CallsTied Try.prog code_value.calls [] 0 := (fun _ _ => rfl)
theorem code_value.tied : Tied Try.prog code_value.c 78 := tie_pure code_value.tiedCalls Try.func78 (by kernel_rfl) (by kernel_rfl) (by kernel_rfl) (by kernel_rfl) (by kernel_rfl) code_value.eq
theorem code_Reader_Fixed.tiedCalls : CallsTied Try.prog code_Reader_Fixed.calls [58, 78] 0 := ⟨⟨_, rfl, code_Reader_Bytes.tied⟩, ⟨⟨_, rfl, code_value.tied⟩, (fun j hj => by first | rfl | (match j, hj with | j + 2, _ => rfl))⟩⟩
theorem code_Reader_Fixed.tied : Tied Try.prog code_Reader_Fixed.c 59 := tie_full code_Reader_Fixed.tiedCalls Try.func59 (by kernel_rfl) (by kernel_rfl) (by kernel_rfl) code_Reader_Fixed.eq
theorem crc_More.tiedCalls : CallsTied Try.prog crc_More.calls [] 0 := (fun _ _ => rfl)
theorem crc_More.tied : Tied Try.prog crc_More.c 79 := tie_pure crc_More.tiedCalls Try.func79 (by kernel_rfl) (by kernel_rfl) (by kernel_rfl) (by kernel_rfl) (by kernel_rfl) crc_More.eq
theorem crc_Sum.tiedCalls : CallsTied Try.prog crc_Sum.calls [79] 0 := ⟨⟨_, rfl, crc_More.tied⟩, (fun j hj => by first | rfl | (match j, hj with | j + 1, _ => rfl))⟩
theorem crc_Sum.tied : Tied Try.prog crc_Sum.c 60 := tie_pure crc_Sum.tiedCalls Try.func60 (by kernel_rfl) (by kernel_rfl) (by kernel_rfl) (by kernel_rfl) (by kernel_rfl) crc_Sum.eq
theorem host_param.tiedCalls : CallsTied Try.prog host_param.calls [57, 58, 59, 60] 0 := ⟨⟨_, rfl, code_New.tied⟩, ⟨⟨_, rfl, code_Reader_Bytes.tied⟩, ⟨⟨_, rfl, code_Reader_Fixed.tied⟩, ⟨⟨_, rfl, crc_Sum.tied⟩, (fun j hj => by first | rfl | (match j, hj with | j + 4, _ => rfl))⟩⟩⟩⟩
theorem host_param.tied : Tied Try.prog host_param.c 30 := tie_pure host_param.tiedCalls Try.func30 (by kernel_rfl) (by kernel_rfl) (by kernel_rfl) (by kernel_rfl) (by kernel_rfl) host_param.eq
theorem host_majority.tiedCalls : CallsTied Try.prog host_majority.calls [] 0 := (fun _ _ => rfl)
theorem host_majority.tied : Tied Try.prog host_majority.c 31 := tie_pure host_majority.tiedCalls Try.func31 (by kernel_rfl) (by kernel_rfl) (by kernel_rfl) (by kernel_rfl) (by kernel_rfl) host_majority.eq
theorem host_Params.tiedCalls : CallsTied Try.prog host_Params.calls [30, 31] 0 := ⟨⟨_, rfl, host_param.tied⟩, ⟨⟨_, rfl, host_majority.tied⟩, (fun j hj => by first | rfl | (match j, hj with | j + 2, _ => rfl))⟩⟩
theorem host_Params.tied : Tied Try.prog host_Params.c 6 := tie_pure host_Params.tiedCalls Try.func6 (by kernel_rfl) (by kernel_rfl) (by kernel_rfl) (by kernel_rfl) (by kernel_rfl) host_Params.eq
theorem ref04_At_Bytes.tiedCalls : CallsTied Try.prog ref04_At_Bytes.calls [] 0 := (fun _ _ => rfl)
theorem ref04_At_Bytes.tied : Tied Try.prog ref04_At_Bytes.c 32 := tie_pure ref04_At_Bytes.tiedCalls Try.func32 (by kernel_rfl) (by kernel_rfl) (by kernel_rfl) (by kernel_rfl) (by kernel_rfl) ref04_At_Bytes.eq
theorem ref04_At_Fixed.tiedCalls : CallsTied Try.prog ref04_At_Fixed.calls [32] 0 := ⟨⟨_, rfl, ref04_At_Bytes.tied⟩, (fun j hj => by first | rfl | (match j, hj with | j + 1, _ => rfl))⟩
theorem ref04_At_Fixed.tied : Tied Try.prog ref04_At_Fixed.c 33 := tie_pure ref04_At_Fixed.tiedCalls Try.func33 (by kernel_rfl) (by kernel_rfl) (by kernel_rfl) (by kernel_rfl) (by kernel_rfl) ref04_At_Fixed.eq
theorem ref01_turned.tiedCalls : CallsTied Try.prog ref01_turned.calls [] 0 := (fun _ _ => rfl)
theorem ref01_turned.tied : Tied Try.prog ref01_turned.c 61 := tie_pure ref01_turned.tiedCalls Try.func61 (by kernel_rfl) (by kernel_rfl) (by kernel_rfl) (by kernel_rfl) (by kernel_rfl) ref01_turned.eq
theorem ref01_Sum.tiedCalls : CallsTied Try.prog ref01_Sum.calls [61] 0 := ⟨⟨_, rfl, ref01_turned.tied⟩, (fun j hj => by first | rfl | (match j, hj with | j + 1, _ => rfl))⟩
theorem ref01_Sum.tied : Tied Try.prog ref01_Sum.c 34 := tie_pure ref01_Sum.tiedCalls Try.func34 (by kernel_rfl) (by kernel_rfl) (by kernel_rfl) (by kernel_rfl) (by kernel_rfl) ref01_Sum.eq
theorem law32_right.tiedCalls : CallsTied Try.prog law32_right.calls [32, 33, 34] 0 := ⟨⟨_, rfl, ref04_At_Bytes.tied⟩, ⟨⟨_, rfl, ref04_At_Fixed.tied⟩, ⟨⟨_, rfl, ref01_Sum.tied⟩, (fun j hj => by first | rfl | (match j, hj with | j + 3, _ => rfl))⟩⟩⟩
theorem law32_right.tied : Tied Try.prog law32_right.c 7 := tie_pure law32_right.tiedCalls Try.func7 (by kernel_rfl) (by kernel_rfl) (by kernel_rfl) (by kernel_rfl) (by kernel_rfl) law32_right.eq
theorem law05_Geometry.tiedCalls : CallsTied Try.prog law05_Geometry.calls [] 0 := (fun _ _ => rfl)
theorem law05_Geometry.tied : Tied Try.prog law05_Geometry.c 19 := tie_full law05_Geometry.tiedCalls Try.func19 (by kernel_rfl) (by kernel_rfl) (by kernel_rfl) law05_Geometry.eq
theorem nand_Check.tiedCalls : CallsTied Try.prog nand_Check.calls [] 0 := (fun _ _ => rfl)
theorem nand_Check.tied : Tied Try.prog nand_Check.c 47 := tie_pure nand_Check.tiedCalls Try.func47 (by kernel_rfl) (by kernel_rfl) (by kernel_rfl) (by kernel_rfl) (by kernel_rfl) nand_Check.eq
theorem slices_Clone_api_Cut_api_Cut.tiedCalls : CallsTied Try.prog slices_Clone_api_Cut_api_Cut.calls [] 0 := (fun _ _ => rfl)
theorem slices_Clone_api_Cut_api_Cut.tied : Tied Try.prog slices_Clone_api_Cut_api_Cut.c 48 := tie_full slices_Clone_api_Cut_api_Cut.tiedCalls Try.func48 (by kernel_rfl) (by kernel_rfl) (by kernel_rfl) slices_Clone_api_Cut_api_Cut.eq
theorem slices_Clone_int_int.tiedCalls : CallsTied Try.prog slices_Clone_int_int.calls [] 0 := (fun _ _ => rfl)
theorem slices_Clone_int_int.tied : Tied Try.prog slices_Clone_int_int.c 49 := tie_full slices_Clone_int_int.tiedCalls Try.func49 (by kernel_rfl) (by kernel_rfl) (by kernel_rfl) slices_Clone_int_int.eq
theorem slices_Index_int_int.tiedCalls : CallsTied Try.prog slices_Index_int_int.calls [] 0 := (fun _ _ => rfl)
theorem slices_Index_int_int.tied : Tied Try.prog slices_Index_int_int.c 74 := tie_full slices_Index_int_int.tiedCalls Try.func74 (by kernel_rfl) (by kernel_rfl) (by kernel_rfl) slices_Index_int_int.eq
theorem slices_Contains_int_int.tiedCalls : CallsTied Try.prog slices_Contains_int_int.calls [74] 0 := ⟨⟨_, rfl, slices_Index_int_int.tied⟩, (fun j hj => by first | rfl | (match j, hj with | j + 1, _ => rfl))⟩
theorem slices_Contains_int_int.tied : Tied Try.prog slices_Contains_int_int.c 50 := tie_full slices_Contains_int_int.tiedCalls Try.func50 (by kernel_rfl) (by kernel_rfl) (by kernel_rfl) slices_Contains_int_int.eq
theorem nand_New.tiedCalls : CallsTied Try.prog nand_New.calls [47, 48, 49, 50] 0 := ⟨⟨_, rfl, nand_Check.tied⟩, ⟨⟨_, rfl, slices_Clone_api_Cut_api_Cut.tied⟩, ⟨⟨_, rfl, slices_Clone_int_int.tied⟩, ⟨⟨_, rfl, slices_Contains_int_int.tied⟩, (fun j hj => by first | rfl | (match j, hj with | j + 4, _ => rfl))⟩⟩⟩⟩
theorem nand_New.tied : Tied Try.prog nand_New.c 18 := tie_full nand_New.tiedCalls Try.func18 (by kernel_rfl) (by kernel_rfl) (by kernel_rfl) nand_New.eq
theorem nand_Chip_Geometry.tiedCalls : CallsTied Try.prog nand_Chip_Geometry.calls [] 0 := (fun _ _ => rfl)
theorem nand_Chip_Geometry.tied : Tied Try.prog nand_Chip_Geometry.c 20 := tie_full nand_Chip_Geometry.tiedCalls Try.func20 (by kernel_rfl) (by kernel_rfl) (by kernel_rfl) nand_Chip_Geometry.eq
theorem bus_New.tiedCalls : CallsTied Try.prog bus_New.calls [20] 0 := ⟨⟨_, rfl, nand_Chip_Geometry.tied⟩, (fun j hj => by first | rfl | (match j, hj with | j + 1, _ => rfl))⟩
theorem bus_New.tied : Tied Try.prog bus_New.c 46 := tie_full bus_New.tiedCalls Try.func46 (by kernel_rfl) (by kernel_rfl) (by kernel_rfl) bus_New.eq
theorem bus_Bus_reset.tiedCalls : CallsTied Try.prog bus_Bus_reset.calls [] 0 := (fun _ _ => rfl)
theorem bus_Bus_reset.tied : Tied Try.prog bus_Bus_reset.c 62 := tie_full bus_Bus_reset.tiedCalls Try.func62 (by kernel_rfl) (by kernel_rfl) (by kernel_rfl) bus_Bus_reset.eq
theorem bus_Bus_ready.tiedCalls : CallsTied Try.prog bus_Bus_ready.calls [] 0 := (fun _ _ => rfl)
theorem bus_Bus_ready.tied : Tied Try.prog bus_Bus_ready.c 63 := tie_full bus_Bus_ready.tiedCalls Try.func63 (by kernel_rfl) (by kernel_rfl) (by kernel_rfl) bus_Bus_ready.eq
theorem bus_Bus_violate.tiedCalls : CallsTied Try.prog bus_Bus_violate.calls [] 0 := (fun _ _ => rfl)
theorem bus_Bus_violate.tied : Tied Try.prog bus_Bus_violate.c 64 := tie_full bus_Bus_violate.tiedCalls Try.func64 (by kernel_rfl) (by kernel_rfl) (by kernel_rfl) bus_Bus_violate.eq
theorem bus_wants.tiedCalls : CallsTied Try.prog bus_wants.calls [] 0 := (fun _ _ => rfl)
theorem bus_wants.tied : Tied Try.prog bus_wants.c 80 := tie_pure bus_wants.tiedCalls Try.func80 (by kernel_rfl) (by kernel_rfl) (by kernel_rfl) (by kernel_rfl) (by kernel_rfl) bus_wants.eq
theorem bus_Bus_row.tiedCalls : CallsTied Try.prog bus_Bus_row.calls [] 0 := (fun _ _ => rfl)
theorem bus_Bus_row.tied : Tied Try.prog bus_Bus_row.c 69 := tie_full bus_Bus_row.tiedCalls Try.func69 (by kernel_rfl) (by kernel_rfl) (by kernel_rfl) bus_Bus_row.eq
theorem nand_Chip_in.tiedCalls : CallsTied Try.prog nand_Chip_in.calls [] 0 := (fun _ _ => rfl)
theorem nand_Chip_in.tied : Tied Try.prog nand_Chip_in.c 51 := tie_full nand_Chip_in.tiedCalls Try.func51 (by kernel_rfl) (by kernel_rfl) (by kernel_rfl) nand_Chip_in.eq
theorem nand_Chip_full.tiedCalls : CallsTied Try.prog nand_Chip_full.calls [75] 0 := ⟨⟨_, rfl, strings_Repeat.tied⟩, (fun j hj => by first | rfl | (match j, hj with | j + 1, _ => rfl))⟩
theorem nand_Chip_full.tied : Tied Try.prog nand_Chip_full.c 55 := tie_full nand_Chip_full.tiedCalls Try.func55 (by kernel_rfl) (by kernel_rfl) (by kernel_rfl) nand_Chip_full.eq
theorem nand_Chip_Read.tiedCalls : CallsTied Try.prog nand_Chip_Read.calls [51, 55] 0 := ⟨⟨_, rfl, nand_Chip_in.tied⟩, ⟨⟨_, rfl, nand_Chip_full.tied⟩, (fun j hj => by first | rfl | (match j, hj with | j + 2, _ => rfl))⟩⟩
theorem nand_Chip_Read.tied : Tied Try.prog nand_Chip_Read.c 25 := tie_full nand_Chip_Read.tiedCalls Try.func25 (by kernel_rfl) (by kernel_rfl) (by kernel_rfl) nand_Chip_Read.eq
theorem bus_Bus_column.tiedCalls : CallsTied Try.prog bus_Bus_column.calls [] 0 := (fun _ _ => rfl)
theorem bus_Bus_column.tied : Tied Try.prog bus_Bus_column.c 89 := tie_full bus_Bus_column.tiedCalls Try.func89 (by kernel_rfl) (by kernel_rfl) (by kernel_rfl) bus_Bus_column.eq
theorem bus_Bus_tell.tiedCalls : CallsTied Try.prog bus_Bus_tell.calls [] 0 := (fun _ _ => rfl)
theorem bus_Bus_tell.tied : Tied Try.prog bus_Bus_tell.c 67 := tie_full bus_Bus_tell.tiedCalls Try.func67 (by kernel_rfl) (by kernel_rfl) (by kernel_rfl) bus_Bus_tell.eq
theorem nand_Chip_act.tiedCalls : CallsTied Try.prog nand_Chip_act.calls [] 0 := (fun _ _ => rfl)
theorem nand_Chip_act.tied : Tied Try.prog nand_Chip_act.c 52 := tie_full nand_Chip_act.tiedCalls Try.func52 (by kernel_rfl) (by kernel_rfl) (by kernel_rfl) nand_Chip_act.eq
theorem nand_torn.tiedCalls : CallsTied Try.prog nand_torn.calls [75] 0 := ⟨⟨_, rfl, strings_Repeat.tied⟩, (fun j hj => by first | rfl | (match j, hj with | j + 1, _ => rfl))⟩
theorem nand_torn.tied : Tied Try.prog nand_torn.c 54 := tie_pure nand_torn.tiedCalls Try.func54 (by kernel_rfl) (by kernel_rfl) (by kernel_rfl) (by kernel_rfl) (by kernel_rfl) nand_torn.eq
theorem nand_Chip_lay.tiedCalls : CallsTied Try.prog nand_Chip_lay.calls [55] 0 := ⟨⟨_, rfl, nand_Chip_full.tied⟩, (fun j hj => by first | rfl | (match j, hj with | j + 1, _ => rfl))⟩
theorem nand_Chip_lay.tied : Tied Try.prog nand_Chip_lay.c 53 := tie_full nand_Chip_lay.tiedCalls Try.func53 (by kernel_rfl) (by kernel_rfl) (by kernel_rfl) nand_Chip_lay.eq
theorem nand_Chip_fail.tiedCalls : CallsTied Try.prog nand_Chip_fail.calls [50] 0 := ⟨⟨_, rfl, slices_Contains_int_int.tied⟩, (fun j hj => by first | rfl | (match j, hj with | j + 1, _ => rfl))⟩
theorem nand_Chip_fail.tied : Tied Try.prog nand_Chip_fail.c 56 := tie_full nand_Chip_fail.tiedCalls Try.func56 (by kernel_rfl) (by kernel_rfl) (by kernel_rfl) nand_Chip_fail.eq
theorem nand_Chip_Program.tiedCalls : CallsTied Try.prog nand_Chip_Program.calls [51, 52, 54, 53, 56] 0 := ⟨⟨_, rfl, nand_Chip_in.tied⟩, ⟨⟨_, rfl, nand_Chip_act.tied⟩, ⟨⟨_, rfl, nand_torn.tied⟩, ⟨⟨_, rfl, nand_Chip_lay.tied⟩, ⟨⟨_, rfl, nand_Chip_fail.tied⟩, (fun j hj => by first | rfl | (match j, hj with | j + 5, _ => rfl))⟩⟩⟩⟩⟩
theorem nand_Chip_Program.tied : Tied Try.prog nand_Chip_Program.c 26 := tie_full nand_Chip_Program.tiedCalls Try.func26 (by kernel_rfl) (by kernel_rfl) (by kernel_rfl) nand_Chip_Program.eq
theorem bus_Bus_write.tiedCalls : CallsTied Try.prog bus_Bus_write.calls [20, 75, 89, 69, 26] 0 := ⟨⟨_, rfl, nand_Chip_Geometry.tied⟩, ⟨⟨_, rfl, strings_Repeat.tied⟩, ⟨⟨_, rfl, bus_Bus_column.tied⟩, ⟨⟨_, rfl, bus_Bus_row.tied⟩, ⟨⟨_, rfl, nand_Chip_Program.tied⟩, (fun j hj => by first | rfl | (match j, hj with | j + 5, _ => rfl))⟩⟩⟩⟩⟩
theorem bus_Bus_write.tied : Tied Try.prog bus_Bus_write.c 90 := tie_full bus_Bus_write.tiedCalls Try.func90 (by kernel_rfl) (by kernel_rfl) (by kernel_rfl) bus_Bus_write.eq
theorem nand_Chip_Erase.tiedCalls : CallsTied Try.prog nand_Chip_Erase.calls [51, 52, 55, 54, 53, 56] 0 := ⟨⟨_, rfl, nand_Chip_in.tied⟩, ⟨⟨_, rfl, nand_Chip_act.tied⟩, ⟨⟨_, rfl, nand_Chip_full.tied⟩, ⟨⟨_, rfl, nand_torn.tied⟩, ⟨⟨_, rfl, nand_Chip_lay.tied⟩, ⟨⟨_, rfl, nand_Chip_fail.tied⟩, (fun j hj => by first | rfl | (match j, hj with | j + 6, _ => rfl))⟩⟩⟩⟩⟩⟩
theorem nand_Chip_Erase.tied : Tied Try.prog nand_Chip_Erase.c 22 := tie_full nand_Chip_Erase.tiedCalls Try.func22 (by kernel_rfl) (by kernel_rfl) (by kernel_rfl) nand_Chip_Erase.eq
theorem bus_Bus_end.tiedCalls : CallsTied Try.prog bus_Bus_end.calls [20, 64, 69, 25, 89, 67, 90, 22] 0 := ⟨⟨_, rfl, nand_Chip_Geometry.tied⟩, ⟨⟨_, rfl, bus_Bus_violate.tied⟩, ⟨⟨_, rfl, bus_Bus_row.tied⟩, ⟨⟨_, rfl, nand_Chip_Read.tied⟩, ⟨⟨_, rfl, bus_Bus_column.tied⟩, ⟨⟨_, rfl, bus_Bus_tell.tied⟩, ⟨⟨_, rfl, bus_Bus_write.tied⟩, ⟨⟨_, rfl, nand_Chip_Erase.tied⟩, (fun j hj => by first | rfl | (match j, hj with | j + 8, _ => rfl))⟩⟩⟩⟩⟩⟩⟩⟩
theorem bus_Bus_end.tied : Tied Try.prog bus_Bus_end.c 81 := tie_full bus_Bus_end.tiedCalls Try.func81 (by kernel_rfl) (by kernel_rfl) (by kernel_rfl) bus_Bus_end.eq
theorem bus_Bus_begin.tiedCalls : CallsTied Try.prog bus_Bus_begin.calls [80, 81, 64] 0 := ⟨⟨_, rfl, bus_wants.tied⟩, ⟨⟨_, rfl, bus_Bus_end.tied⟩, ⟨⟨_, rfl, bus_Bus_violate.tied⟩, (fun j hj => by first | rfl | (match j, hj with | j + 3, _ => rfl))⟩⟩⟩
theorem bus_Bus_begin.tied : Tied Try.prog bus_Bus_begin.c 65 := tie_full bus_Bus_begin.tiedCalls Try.func65 (by kernel_rfl) (by kernel_rfl) (by kernel_rfl) bus_Bus_begin.eq
theorem bus_Bus_Command.tiedCalls : CallsTied Try.prog bus_Bus_Command.calls [62, 63, 64, 65] 0 := ⟨⟨_, rfl, bus_Bus_reset.tied⟩, ⟨⟨_, rfl, bus_Bus_ready.tied⟩, ⟨⟨_, rfl, bus_Bus_violate.tied⟩, ⟨⟨_, rfl, bus_Bus_begin.tied⟩, (fun j hj => by first | rfl | (match j, hj with | j + 4, _ => rfl))⟩⟩⟩⟩
theorem bus_Bus_Command.tied : Tied Try.prog bus_Bus_Command.c 35 := tie_full bus_Bus_Command.tiedCalls Try.func35 (by kernel_rfl) (by kernel_rfl) (by kernel_rfl) bus_Bus_Command.eq
theorem bus_Bus_Ready.tiedCalls : CallsTied Try.prog bus_Bus_Ready.calls [] 0 := (fun _ _ => rfl)
theorem bus_Bus_Ready.tied : Tied Try.prog bus_Bus_Ready.c 66 := tie_full bus_Bus_Ready.tiedCalls Try.func66 (by kernel_rfl) (by kernel_rfl) (by kernel_rfl) bus_Bus_Ready.eq
theorem host_Host_wait.tiedCalls : CallsTied Try.prog host_Host_wait.calls [66] 0 := ⟨⟨_, rfl, bus_Bus_Ready.tied⟩, (fun j hj => by first | rfl | (match j, hj with | j + 1, _ => rfl))⟩
theorem host_Host_wait.tied : Tied Try.prog host_Host_wait.c 36 := tie_full host_Host_wait.tiedCalls Try.func36 (by kernel_rfl) (by kernel_rfl) (by kernel_rfl) host_Host_wait.eq
theorem code_Fixed.tiedCalls : CallsTied Try.prog code_Fixed.calls [] 0 := (fun _ _ => rfl)
theorem code_Fixed.tied : Tied Try.prog code_Fixed.c 82 := tie_pure code_Fixed.tiedCalls Try.func82 (by kernel_rfl) (by kernel_rfl) (by kernel_rfl) (by kernel_rfl) (by kernel_rfl) code_Fixed.eq
theorem bus_Param.tiedCalls : CallsTied Try.prog bus_Param.calls [82, 75, 60] 0 := ⟨⟨_, rfl, code_Fixed.tied⟩, ⟨⟨_, rfl, strings_Repeat.tied⟩, ⟨⟨_, rfl, crc_Sum.tied⟩, (fun j hj => by first | rfl | (match j, hj with | j + 3, _ => rfl))⟩⟩⟩
theorem bus_Param.tied : Tied Try.prog bus_Param.c 68 := tie_pure bus_Param.tiedCalls Try.func68 (by kernel_rfl) (by kernel_rfl) (by kernel_rfl) (by kernel_rfl) (by kernel_rfl) bus_Param.eq
theorem nand_Chip_Mark.tiedCalls : CallsTied Try.prog nand_Chip_Mark.calls [51, 52] 0 := ⟨⟨_, rfl, nand_Chip_in.tied⟩, ⟨⟨_, rfl, nand_Chip_act.tied⟩, (fun j hj => by first | rfl | (match j, hj with | j + 2, _ => rfl))⟩⟩
theorem nand_Chip_Mark.tied : Tied Try.prog nand_Chip_Mark.c 23 := tie_full nand_Chip_Mark.tiedCalls Try.func23 (by kernel_rfl) (by kernel_rfl) (by kernel_rfl) nand_Chip_Mark.eq
theorem nand_Chip_Marked.tiedCalls : CallsTied Try.prog nand_Chip_Marked.calls [51] 0 := ⟨⟨_, rfl, nand_Chip_in.tied⟩, (fun j hj => by first | rfl | (match j, hj with | j + 1, _ => rfl))⟩
theorem nand_Chip_Marked.tied : Tied Try.prog nand_Chip_Marked.c 29 := tie_full nand_Chip_Marked.tiedCalls Try.func29 (by kernel_rfl) (by kernel_rfl) (by kernel_rfl) nand_Chip_Marked.eq
theorem bus_Bus_marked.tiedCalls : CallsTied Try.prog bus_Bus_marked.calls [69, 20, 29, 67] 0 := ⟨⟨_, rfl, bus_Bus_row.tied⟩, ⟨⟨_, rfl, nand_Chip_Geometry.tied⟩, ⟨⟨_, rfl, nand_Chip_Marked.tied⟩, ⟨⟨_, rfl, bus_Bus_tell.tied⟩, (fun j hj => by first | rfl | (match j, hj with | j + 4, _ => rfl))⟩⟩⟩⟩
theorem bus_Bus_marked.tied : Tied Try.prog bus_Bus_marked.c 70 := tie_full bus_Bus_marked.tiedCalls Try.func70 (by kernel_rfl) (by kernel_rfl) (by kernel_rfl) bus_Bus_marked.eq
theorem bus_Bus_Address.tiedCalls : CallsTied Try.prog bus_Bus_Address.calls [63, 64, 67, 20, 68, 69, 23, 70] 0 := ⟨⟨_, rfl, bus_Bus_ready.tied⟩, ⟨⟨_, rfl, bus_Bus_violate.tied⟩, ⟨⟨_, rfl, bus_Bus_tell.tied⟩, ⟨⟨_, rfl, nand_Chip_Geometry.tied⟩, ⟨⟨_, rfl, bus_Param.tied⟩, ⟨⟨_, rfl, bus_Bus_row.tied⟩, ⟨⟨_, rfl, nand_Chip_Mark.tied⟩, ⟨⟨_, rfl, bus_Bus_marked.tied⟩, (fun j hj => by first | rfl | (match j, hj with | j + 8, _ => rfl))⟩⟩⟩⟩⟩⟩⟩⟩
theorem bus_Bus_Address.tied : Tied Try.prog bus_Bus_Address.c 37 := tie_full bus_Bus_Address.tiedCalls Try.func37 (by kernel_rfl) (by kernel_rfl) (by kernel_rfl) bus_Bus_Address.eq
theorem bus_Bus_status.tiedCalls : CallsTied Try.prog bus_Bus_status.calls [] 0 := (fun _ _ => rfl)
theorem bus_Bus_status.tied : Tied Try.prog bus_Bus_status.c 73 := tie_full bus_Bus_status.tiedCalls Try.func73 (by kernel_rfl) (by kernel_rfl) (by kernel_rfl) bus_Bus_status.eq
theorem bus_Bus_Out.tiedCalls : CallsTied Try.prog bus_Bus_Out.calls [73, 63, 64] 0 := ⟨⟨_, rfl, bus_Bus_status.tied⟩, ⟨⟨_, rfl, bus_Bus_ready.tied⟩, ⟨⟨_, rfl, bus_Bus_violate.tied⟩, (fun j hj => by first | rfl | (match j, hj with | j + 3, _ => rfl))⟩⟩⟩
theorem bus_Bus_Out.tied : Tied Try.prog bus_Bus_Out.c 43 := tie_full bus_Bus_Out.tiedCalls Try.func43 (by kernel_rfl) (by kernel_rfl) (by kernel_rfl) bus_Bus_Out.eq
theorem host_take.tiedCalls : CallsTied Try.prog host_take.calls [43] 0 := ⟨⟨_, rfl, bus_Bus_Out.tied⟩, (fun j hj => by first | rfl | (match j, hj with | j + 1, _ => rfl))⟩
theorem host_take.tied : Tied Try.prog host_take.c 38 := tie_full host_take.tiedCalls Try.func38 (by kernel_rfl) (by kernel_rfl) (by kernel_rfl) host_take.eq
theorem host_Probe.tiedCalls : CallsTied Try.prog host_Probe.calls [35, 36, 37, 38, 6] 0 := ⟨⟨_, rfl, bus_Bus_Command.tied⟩, ⟨⟨_, rfl, host_Host_wait.tied⟩, ⟨⟨_, rfl, bus_Bus_Address.tied⟩, ⟨⟨_, rfl, host_take.tied⟩, ⟨⟨_, rfl, host_Params.tied⟩, (fun j hj => by first | rfl | (match j, hj with | j + 5, _ => rfl))⟩⟩⟩⟩⟩
theorem host_Probe.tied : Tied Try.prog host_Probe.c 9 := tie_full host_Probe.tiedCalls Try.func9 (by kernel_rfl) (by kernel_rfl) (by kernel_rfl) host_Probe.eq
theorem law32_begun.tiedCalls : CallsTied Try.prog law32_begun.calls [19, 18, 46, 9] 0 := ⟨⟨_, rfl, law05_Geometry.tied⟩, ⟨⟨_, rfl, nand_New.tied⟩, ⟨⟨_, rfl, bus_New.tied⟩, ⟨⟨_, rfl, host_Probe.tied⟩, (fun j hj => by first | rfl | (match j, hj with | j + 4, _ => rfl))⟩⟩⟩⟩
theorem law32_begun.tied : Tied Try.prog law32_begun.c 17 := tie_full law32_begun.tiedCalls Try.func17 (by kernel_rfl) (by kernel_rfl) (by kernel_rfl) law32_begun.eq
theorem host_Host_Geometry.tiedCalls : CallsTied Try.prog host_Host_Geometry.calls [] 0 := (fun _ _ => rfl)
theorem host_Host_Geometry.tied : Tied Try.prog host_Host_Geometry.c 15 := tie_full host_Host_Geometry.tiedCalls Try.func15 (by kernel_rfl) (by kernel_rfl) (by kernel_rfl) host_Host_Geometry.eq
theorem host_Host_Polls.tiedCalls : CallsTied Try.prog host_Host_Polls.calls [] 0 := (fun _ _ => rfl)
theorem host_Host_Polls.tied : Tied Try.prog host_Host_Polls.c 16 := tie_full host_Host_Polls.tiedCalls Try.func16 (by kernel_rfl) (by kernel_rfl) (by kernel_rfl) host_Host_Polls.eq
theorem law32_awake.tiedCalls : CallsTied Try.prog law32_awake.calls [17, 15, 20, 16] 0 := ⟨⟨_, rfl, law32_begun.tied⟩, ⟨⟨_, rfl, host_Host_Geometry.tied⟩, ⟨⟨_, rfl, nand_Chip_Geometry.tied⟩, ⟨⟨_, rfl, host_Host_Polls.tied⟩, (fun j hj => by first | rfl | (match j, hj with | j + 4, _ => rfl))⟩⟩⟩⟩
theorem law32_awake.tied : Tied Try.prog law32_awake.c 8 := tie_pure law32_awake.tiedCalls Try.func8 (by kernel_rfl) (by kernel_rfl) (by kernel_rfl) (by kernel_rfl) (by kernel_rfl) law32_awake.eq
theorem law32_HostLost.tiedCalls : CallsTied Try.prog law32_HostLost.calls [6, 7, 8] 0 := ⟨⟨_, rfl, host_Params.tied⟩, ⟨⟨_, rfl, law32_right.tied⟩, ⟨⟨_, rfl, law32_awake.tied⟩, (fun j hj => by first | rfl | (match j, hj with | j + 3, _ => rfl))⟩⟩⟩
theorem law32_HostLost.tied : Tied Try.prog law32_HostLost.c 3 := tie_pure law32_HostLost.tiedCalls Try.func3 (by kernel_rfl) (by kernel_rfl) (by kernel_rfl) (by kernel_rfl) (by kernel_rfl) law32_HostLost.eq
theorem host_Host_row.tiedCalls : CallsTied Try.prog host_Host_row.calls [] 0 := (fun _ _ => rfl)
theorem host_Host_row.tied : Tied Try.prog host_Host_row.c 71 := tie_full host_Host_row.tiedCalls Try.func71 (by kernel_rfl) (by kernel_rfl) (by kernel_rfl) host_Host_row.eq
theorem bus_Bus_Chip.tiedCalls : CallsTied Try.prog bus_Bus_Chip.calls [] 0 := (fun _ _ => rfl)
theorem bus_Bus_Chip.tied : Tied Try.prog bus_Bus_Chip.c 72 := tie_full bus_Bus_Chip.tiedCalls Try.func72 (by kernel_rfl) (by kernel_rfl) (by kernel_rfl) bus_Bus_Chip.eq
theorem nand_Chip_Off.tiedCalls : CallsTied Try.prog nand_Chip_Off.calls [] 0 := (fun _ _ => rfl)
theorem nand_Chip_Off.tied : Tied Try.prog nand_Chip_Off.c 28 := tie_full nand_Chip_Off.tiedCalls Try.func28 (by kernel_rfl) (by kernel_rfl) (by kernel_rfl) nand_Chip_Off.eq
theorem host_Host_begin.tiedCalls : CallsTied Try.prog host_Host_begin.calls [71, 72, 28] 0 := ⟨⟨_, rfl, host_Host_row.tied⟩, ⟨⟨_, rfl, bus_Bus_Chip.tied⟩, ⟨⟨_, rfl, nand_Chip_Off.tied⟩, (fun j hj => by first | rfl | (match j, hj with | j + 3, _ => rfl))⟩⟩⟩
theorem host_Host_begin.tied : Tied Try.prog host_Host_begin.c 39 := tie_full host_Host_begin.tiedCalls Try.func39 (by kernel_rfl) (by kernel_rfl) (by kernel_rfl) host_Host_begin.eq
theorem host_Host_send.tiedCalls : CallsTied Try.prog host_Host_send.calls [37] 0 := ⟨⟨_, rfl, bus_Bus_Address.tied⟩, (fun j hj => by first | rfl | (match j, hj with | j + 1, _ => rfl))⟩
theorem host_Host_send.tied : Tied Try.prog host_Host_send.c 40 := tie_full host_Host_send.tiedCalls Try.func40 (by kernel_rfl) (by kernel_rfl) (by kernel_rfl) host_Host_send.eq
theorem host_Host_failed.tiedCalls : CallsTied Try.prog host_Host_failed.calls [35, 43] 0 := ⟨⟨_, rfl, bus_Bus_Command.tied⟩, ⟨⟨_, rfl, bus_Bus_Out.tied⟩, (fun j hj => by first | rfl | (match j, hj with | j + 2, _ => rfl))⟩⟩
theorem host_Host_failed.tied : Tied Try.prog host_Host_failed.c 41 := tie_full host_Host_failed.tiedCalls Try.func41 (by kernel_rfl) (by kernel_rfl) (by kernel_rfl) host_Host_failed.eq
theorem host_Host_why.tiedCalls : CallsTied Try.prog host_Host_why.calls [72, 28] 0 := ⟨⟨_, rfl, bus_Bus_Chip.tied⟩, ⟨⟨_, rfl, nand_Chip_Off.tied⟩, (fun j hj => by first | rfl | (match j, hj with | j + 2, _ => rfl))⟩⟩
theorem host_Host_why.tied : Tied Try.prog host_Host_why.c 42 := tie_full host_Host_why.tiedCalls Try.func42 (by kernel_rfl) (by kernel_rfl) (by kernel_rfl) host_Host_why.eq
theorem host_Host_Read.tiedCalls : CallsTied Try.prog host_Host_Read.calls [39, 35, 40, 36, 41, 42, 38] 0 := ⟨⟨_, rfl, host_Host_begin.tied⟩, ⟨⟨_, rfl, bus_Bus_Command.tied⟩, ⟨⟨_, rfl, host_Host_send.tied⟩, ⟨⟨_, rfl, host_Host_wait.tied⟩, ⟨⟨_, rfl, host_Host_failed.tied⟩, ⟨⟨_, rfl, host_Host_why.tied⟩, ⟨⟨_, rfl, host_take.tied⟩, (fun j hj => by first | rfl | (match j, hj with | j + 7, _ => rfl))⟩⟩⟩⟩⟩⟩⟩
theorem host_Host_Read.tied : Tied Try.prog host_Host_Read.c 10 := tie_full host_Host_Read.tiedCalls Try.func10 (by kernel_rfl) (by kernel_rfl) (by kernel_rfl) host_Host_Read.eq
theorem host_Host_Marked.tiedCalls : CallsTied Try.prog host_Host_Marked.calls [39, 35, 40, 36, 41, 42, 43] 0 := ⟨⟨_, rfl, host_Host_begin.tied⟩, ⟨⟨_, rfl, bus_Bus_Command.tied⟩, ⟨⟨_, rfl, host_Host_send.tied⟩, ⟨⟨_, rfl, host_Host_wait.tied⟩, ⟨⟨_, rfl, host_Host_failed.tied⟩, ⟨⟨_, rfl, host_Host_why.tied⟩, ⟨⟨_, rfl, bus_Bus_Out.tied⟩, (fun j hj => by first | rfl | (match j, hj with | j + 7, _ => rfl))⟩⟩⟩⟩⟩⟩⟩
theorem host_Host_Marked.tied : Tied Try.prog host_Host_Marked.c 11 := tie_full host_Host_Marked.tiedCalls Try.func11 (by kernel_rfl) (by kernel_rfl) (by kernel_rfl) host_Host_Marked.eq
theorem host_Host_clean.tiedCalls : CallsTied Try.prog host_Host_clean.calls [10] 0 := ⟨⟨_, rfl, host_Host_Read.tied⟩, (fun j hj => by first | rfl | (match j, hj with | j + 1, _ => rfl))⟩
theorem host_Host_clean.tied : Tied Try.prog host_Host_clean.c 44 := tie_full host_Host_clean.tiedCalls Try.func44 (by kernel_rfl) (by kernel_rfl) (by kernel_rfl) host_Host_clean.eq
theorem bus_Bus_In.tiedCalls : CallsTied Try.prog bus_Bus_In.calls [63, 20, 64] 0 := ⟨⟨_, rfl, bus_Bus_ready.tied⟩, ⟨⟨_, rfl, nand_Chip_Geometry.tied⟩, ⟨⟨_, rfl, bus_Bus_violate.tied⟩, (fun j hj => by first | rfl | (match j, hj with | j + 3, _ => rfl))⟩⟩⟩
theorem bus_Bus_In.tied : Tied Try.prog bus_Bus_In.c 45 := tie_full bus_Bus_In.tiedCalls Try.func45 (by kernel_rfl) (by kernel_rfl) (by kernel_rfl) bus_Bus_In.eq
theorem host_Host_Program.tiedCalls : CallsTied Try.prog host_Host_Program.calls [39, 44, 35, 40, 45, 36, 41, 42] 0 := ⟨⟨_, rfl, host_Host_begin.tied⟩, ⟨⟨_, rfl, host_Host_clean.tied⟩, ⟨⟨_, rfl, bus_Bus_Command.tied⟩, ⟨⟨_, rfl, host_Host_send.tied⟩, ⟨⟨_, rfl, bus_Bus_In.tied⟩, ⟨⟨_, rfl, host_Host_wait.tied⟩, ⟨⟨_, rfl, host_Host_failed.tied⟩, ⟨⟨_, rfl, host_Host_why.tied⟩, (fun j hj => by first | rfl | (match j, hj with | j + 8, _ => rfl))⟩⟩⟩⟩⟩⟩⟩⟩
theorem host_Host_Program.tied : Tied Try.prog host_Host_Program.c 12 := tie_full host_Host_Program.tiedCalls Try.func12 (by kernel_rfl) (by kernel_rfl) (by kernel_rfl) host_Host_Program.eq
theorem host_Host_Erase.tiedCalls : CallsTied Try.prog host_Host_Erase.calls [39, 35, 40, 36, 41, 42] 0 := ⟨⟨_, rfl, host_Host_begin.tied⟩, ⟨⟨_, rfl, bus_Bus_Command.tied⟩, ⟨⟨_, rfl, host_Host_send.tied⟩, ⟨⟨_, rfl, host_Host_wait.tied⟩, ⟨⟨_, rfl, host_Host_failed.tied⟩, ⟨⟨_, rfl, host_Host_why.tied⟩, (fun j hj => by first | rfl | (match j, hj with | j + 6, _ => rfl))⟩⟩⟩⟩⟩⟩
theorem host_Host_Erase.tied : Tied Try.prog host_Host_Erase.c 13 := tie_full host_Host_Erase.tiedCalls Try.func13 (by kernel_rfl) (by kernel_rfl) (by kernel_rfl) host_Host_Erase.eq
theorem host_Host_Mark.tiedCalls : CallsTied Try.prog host_Host_Mark.calls [39, 35, 40, 36, 41, 42] 0 := ⟨⟨_, rfl, host_Host_begin.tied⟩, ⟨⟨_, rfl, bus_Bus_Command.tied⟩, ⟨⟨_, rfl, host_Host_send.tied⟩, ⟨⟨_, rfl, host_Host_wait.tied⟩, ⟨⟨_, rfl, host_Host_failed.tied⟩, ⟨⟨_, rfl, host_Host_why.tied⟩, (fun j hj => by first | rfl | (match j, hj with | j + 6, _ => rfl))⟩⟩⟩⟩⟩⟩
theorem host_Host_Mark.tied : Tied Try.prog host_Host_Mark.c 14 := tie_full host_Host_Mark.tiedCalls Try.func14 (by kernel_rfl) (by kernel_rfl) (by kernel_rfl) host_Host_Mark.eq
theorem law32_HostNone.tiedCalls : CallsTied Try.prog law32_HostNone.calls [9, 10, 11, 8, 12, 13, 14, 15, 16] 0 := ⟨⟨_, rfl, host_Probe.tied⟩, ⟨⟨_, rfl, host_Host_Read.tied⟩, ⟨⟨_, rfl, host_Host_Marked.tied⟩, ⟨⟨_, rfl, law32_awake.tied⟩, ⟨⟨_, rfl, host_Host_Program.tied⟩, ⟨⟨_, rfl, host_Host_Erase.tied⟩, ⟨⟨_, rfl, host_Host_Mark.tied⟩, ⟨⟨_, rfl, host_Host_Geometry.tied⟩, ⟨⟨_, rfl, host_Host_Polls.tied⟩, (fun j hj => by first | rfl | (match j, hj with | j + 9, _ => rfl))⟩⟩⟩⟩⟩⟩⟩⟩⟩
theorem law32_HostNone.tied : Tied Try.prog law32_HostNone.c 4 := tie_pure law32_HostNone.tiedCalls Try.func4 (by kernel_rfl) (by kernel_rfl) (by kernel_rfl) (by kernel_rfl) (by kernel_rfl) law32_HostNone.eq
theorem law32_text.tiedCalls : CallsTied Try.prog law32_text.calls [] 0 := (fun _ _ => rfl)
theorem law32_text.tied : Tied Try.prog law32_text.c 21 := tie_pure law32_text.tiedCalls Try.func21 (by kernel_rfl) (by kernel_rfl) (by kernel_rfl) (by kernel_rfl) (by kernel_rfl) law32_text.eq
theorem nand_Chip_Power.tiedCalls : CallsTied Try.prog nand_Chip_Power.calls [] 0 := (fun _ _ => rfl)
theorem nand_Chip_Power.tied : Tied Try.prog nand_Chip_Power.c 24 := tie_full nand_Chip_Power.tiedCalls Try.func24 (by kernel_rfl) (by kernel_rfl) (by kernel_rfl) nand_Chip_Power.eq
theorem nand_Chip_Did.tiedCalls : CallsTied Try.prog nand_Chip_Did.calls [] 0 := (fun _ _ => rfl)
theorem nand_Chip_Did.tied : Tied Try.prog nand_Chip_Did.c 27 := tie_full nand_Chip_Did.tiedCalls Try.func27 (by kernel_rfl) (by kernel_rfl) (by kernel_rfl) nand_Chip_Did.eq
theorem law32_HostPlays.tiedCalls : CallsTied Try.prog law32_HostPlays.calls [17, 19, 18, 8, 20, 21, 13, 22, 14, 23, 24, 10, 25, 12, 26, 27, 28, 11, 29] 0 := ⟨⟨_, rfl, law32_begun.tied⟩, ⟨⟨_, rfl, law05_Geometry.tied⟩, ⟨⟨_, rfl, nand_New.tied⟩, ⟨⟨_, rfl, law32_awake.tied⟩, ⟨⟨_, rfl, nand_Chip_Geometry.tied⟩, ⟨⟨_, rfl, law32_text.tied⟩, ⟨⟨_, rfl, host_Host_Erase.tied⟩, ⟨⟨_, rfl, nand_Chip_Erase.tied⟩, ⟨⟨_, rfl, host_Host_Mark.tied⟩, ⟨⟨_, rfl, nand_Chip_Mark.tied⟩, ⟨⟨_, rfl, nand_Chip_Power.tied⟩, ⟨⟨_, rfl, host_Host_Read.tied⟩, ⟨⟨_, rfl, nand_Chip_Read.tied⟩, ⟨⟨_, rfl, host_Host_Program.tied⟩, ⟨⟨_, rfl, nand_Chip_Program.tied⟩, ⟨⟨_, rfl, nand_Chip_Did.tied⟩, ⟨⟨_, rfl, nand_Chip_Off.tied⟩, ⟨⟨_, rfl, host_Host_Marked.tied⟩, ⟨⟨_, rfl, nand_Chip_Marked.tied⟩, (fun j hj => by first | rfl | (match j, hj with | j + 19, _ => rfl))⟩⟩⟩⟩⟩⟩⟩⟩⟩⟩⟩⟩⟩⟩⟩⟩⟩⟩⟩
theorem law32_HostPlays.tied : Tied Try.prog law32_HostPlays.c 5 := tie_full law32_HostPlays.tiedCalls Try.func5 (by kernel_rfl) (by kernel_rfl) (by kernel_rfl) law32_HostPlays.eq
end Ev
