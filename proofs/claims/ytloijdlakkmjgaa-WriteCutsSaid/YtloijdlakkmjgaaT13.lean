/- The functions are those of the program: the kernel checks the code, one by one. Written by gen2.py. -/
import Derived.Test.YtloijdlakkmjgaaEvTie
import Derived.Test.YtloijdlakkmjgaaGLaw05
import Derived.Test.YtloijdlakkmjgaaGSlices
import Derived.Test.YtloijdlakkmjgaaGNand
import Derived.Test.YtloijdlakkmjgaaGLife
import Derived.Test.YtloijdlakkmjgaaGCode
import Derived.Test.YtloijdlakkmjgaaGCrc
import Derived.Test.YtloijdlakkmjgaaGPage
import Derived.Test.YtloijdlakkmjgaaGWear
import Derived.Test.YtloijdlakkmjgaaGWrite
import Derived.Test.YtloijdlakkmjgaaGLaw13
import Derived.Test.YtloijdlakkmjgaaSh
import Derived.Test.YtloijdlakkmjgaaProg
import Derived.KernelRfl
set_option maxRecDepth 100000
namespace Ev
open Go Go.Proofs
theorem law05_Geometry.tiedCalls : CallsTied Try.prog law05_Geometry.calls [] 0 := (fun _ _ => rfl)
theorem law05_Geometry.tied : Tied Try.prog law05_Geometry.c 42 := tie_full law05_Geometry.tiedCalls Try.func42 (by kernel_rfl) (by kernel_rfl) (by kernel_rfl) law05_Geometry.eq
theorem nand_Check.tiedCalls : CallsTied Try.prog nand_Check.calls [] 0 := (fun _ _ => rfl)
theorem nand_Check.tied : Tied Try.prog nand_Check.c 64 := tie_pure nand_Check.tiedCalls Try.func64 (by kernel_rfl) (by kernel_rfl) (by kernel_rfl) (by kernel_rfl) (by kernel_rfl) nand_Check.eq
theorem slices_Clone_api_Cut_api_Cut.tiedCalls : CallsTied Try.prog slices_Clone_api_Cut_api_Cut.calls [] 0 := (fun _ _ => rfl)
theorem slices_Clone_api_Cut_api_Cut.tied : Tied Try.prog slices_Clone_api_Cut_api_Cut.c 63 := tie_full slices_Clone_api_Cut_api_Cut.tiedCalls Try.func63 (by kernel_rfl) (by kernel_rfl) (by kernel_rfl) slices_Clone_api_Cut_api_Cut.eq
theorem slices_Clone_int_int.tiedCalls : CallsTied Try.prog slices_Clone_int_int.calls [] 0 := (fun _ _ => rfl)
theorem slices_Clone_int_int.tied : Tied Try.prog slices_Clone_int_int.c 56 := tie_full slices_Clone_int_int.tiedCalls Try.func56 (by kernel_rfl) (by kernel_rfl) (by kernel_rfl) slices_Clone_int_int.eq
theorem slices_Index_int_int.tiedCalls : CallsTied Try.prog slices_Index_int_int.calls [] 0 := (fun _ _ => rfl)
theorem slices_Index_int_int.tied : Tied Try.prog slices_Index_int_int.c 82 := tie_full slices_Index_int_int.tiedCalls Try.func82 (by kernel_rfl) (by kernel_rfl) (by kernel_rfl) slices_Index_int_int.eq
theorem slices_Contains_int_int.tiedCalls : CallsTied Try.prog slices_Contains_int_int.calls [82] 0 := ⟨⟨_, rfl, slices_Index_int_int.tied⟩, (fun j hj => by first | rfl | (match j, hj with | j + 1, _ => rfl))⟩
theorem slices_Contains_int_int.tied : Tied Try.prog slices_Contains_int_int.c 57 := tie_full slices_Contains_int_int.tiedCalls Try.func57 (by kernel_rfl) (by kernel_rfl) (by kernel_rfl) slices_Contains_int_int.eq
theorem nand_New.tiedCalls : CallsTied Try.prog nand_New.calls [64, 63, 56, 57] 0 := ⟨⟨_, rfl, nand_Check.tied⟩, ⟨⟨_, rfl, slices_Clone_api_Cut_api_Cut.tied⟩, ⟨⟨_, rfl, slices_Clone_int_int.tied⟩, ⟨⟨_, rfl, slices_Contains_int_int.tied⟩, (fun j hj => by first | rfl | (match j, hj with | j + 4, _ => rfl))⟩⟩⟩⟩
theorem nand_New.tied : Tied Try.prog nand_New.c 43 := tie_full nand_New.tiedCalls Try.func43 (by kernel_rfl) (by kernel_rfl) (by kernel_rfl) nand_New.eq
theorem life_New.tiedCalls : CallsTied Try.prog life_New.calls [] 0 := (fun _ _ => rfl)
theorem life_New.tied : Tied Try.prog life_New.c 28 := tie_full life_New.tiedCalls Try.func28 (by kernel_rfl) (by kernel_rfl) (by kernel_rfl) life_New.eq
theorem nand_Chip_Geometry.tiedCalls : CallsTied Try.prog nand_Chip_Geometry.calls [] 0 := (fun _ _ => rfl)
theorem nand_Chip_Geometry.tied : Tied Try.prog nand_Chip_Geometry.c 21 := tie_full nand_Chip_Geometry.tiedCalls Try.func21 (by kernel_rfl) (by kernel_rfl) (by kernel_rfl) nand_Chip_Geometry.eq
theorem write_New.tiedCalls : CallsTied Try.prog write_New.calls [21, 56] 0 := ⟨⟨_, rfl, nand_Chip_Geometry.tied⟩, ⟨⟨_, rfl, slices_Clone_int_int.tied⟩, (fun j hj => by first | rfl | (match j, hj with | j + 2, _ => rfl))⟩⟩
theorem write_New.tied : Tied Try.prog write_New.c 29 := tie_full write_New.tiedCalls Try.func29 (by kernel_rfl) (by kernel_rfl) (by kernel_rfl) write_New.eq
theorem law13_Begun.tiedCalls : CallsTied Try.prog law13_Begun.calls [42, 43, 28, 29] 0 := ⟨⟨_, rfl, law05_Geometry.tied⟩, ⟨⟨_, rfl, nand_New.tied⟩, ⟨⟨_, rfl, life_New.tied⟩, ⟨⟨_, rfl, write_New.tied⟩, (fun j hj => by first | rfl | (match j, hj with | j + 4, _ => rfl))⟩⟩⟩⟩
theorem law13_Begun.tied : Tied Try.prog law13_Begun.c 12 := tie_full law13_Begun.tiedCalls Try.func12 (by kernel_rfl) (by kernel_rfl) (by kernel_rfl) law13_Begun.eq
theorem law13_tag.tiedCalls : CallsTied Try.prog law13_tag.calls [] 0 := (fun _ _ => rfl)
theorem law13_tag.tied : Tied Try.prog law13_tag.c 15 := tie_pure law13_tag.tiedCalls Try.func15 (by kernel_rfl) (by kernel_rfl) (by kernel_rfl) (by kernel_rfl) (by kernel_rfl) law13_tag.eq
theorem page_Check.tiedCalls : CallsTied Try.prog page_Check.calls [] 0 := (fun _ _ => rfl)
theorem page_Check.tied : Tied Try.prog page_Check.c 65 := tie_pure page_Check.tiedCalls Try.func65 (by kernel_rfl) (by kernel_rfl) (by kernel_rfl) (by kernel_rfl) (by kernel_rfl) page_Check.eq
theorem code_Fixed.tiedCalls : CallsTied Try.prog code_Fixed.calls [] 0 := (fun _ _ => rfl)
theorem code_Fixed.tied : Tied Try.prog code_Fixed.c 67 := tie_pure code_Fixed.tiedCalls Try.func67 (by kernel_rfl) (by kernel_rfl) (by kernel_rfl) (by kernel_rfl) (by kernel_rfl) code_Fixed.eq
theorem crc_More.tiedCalls : CallsTied Try.prog crc_More.calls [] 0 := (fun _ _ => rfl)
theorem crc_More.tied : Tied Try.prog crc_More.c 68 := tie_pure crc_More.tiedCalls Try.func68 (by kernel_rfl) (by kernel_rfl) (by kernel_rfl) (by kernel_rfl) (by kernel_rfl) crc_More.eq
theorem crc_Sum.tiedCalls : CallsTied Try.prog crc_Sum.calls [68] 0 := ⟨⟨_, rfl, crc_More.tied⟩, (fun j hj => by first | rfl | (match j, hj with | j + 1, _ => rfl))⟩
theorem crc_Sum.tied : Tied Try.prog crc_Sum.c 69 := tie_pure crc_Sum.tiedCalls Try.func69 (by kernel_rfl) (by kernel_rfl) (by kernel_rfl) (by kernel_rfl) (by kernel_rfl) crc_Sum.eq
theorem page_Frame.tiedCalls : CallsTied Try.prog page_Frame.calls [65, 66, 67, 69, 68] 0 := ⟨⟨_, rfl, page_Check.tied⟩, ⟨⟨_, rfl, strings_Repeat.tied⟩, ⟨⟨_, rfl, code_Fixed.tied⟩, ⟨⟨_, rfl, crc_Sum.tied⟩, ⟨⟨_, rfl, crc_More.tied⟩, (fun j hj => by first | rfl | (match j, hj with | j + 5, _ => rfl))⟩⟩⟩⟩⟩
theorem page_Frame.tied : Tied Try.prog page_Frame.c 44 := tie_pure page_Frame.tiedCalls Try.func44 (by kernel_rfl) (by kernel_rfl) (by kernel_rfl) (by kernel_rfl) (by kernel_rfl) page_Frame.eq
theorem life_Life_At.tiedCalls : CallsTied Try.prog life_Life_At.calls [] 0 := (fun _ _ => rfl)
theorem life_Life_At.tied : Tied Try.prog life_Life_At.c 19 := tie_full life_Life_At.tiedCalls Try.func19 (by kernel_rfl) (by kernel_rfl) (by kernel_rfl) life_Life_At.eq
theorem life_Life_in.tiedCalls : CallsTied Try.prog life_Life_in.calls [] 0 := (fun _ _ => rfl)
theorem life_Life_in.tied : Tied Try.prog life_Life_in.c 52 := tie_full life_Life_in.tiedCalls Try.func52 (by kernel_rfl) (by kernel_rfl) (by kernel_rfl) life_Life_in.eq
theorem life_Life_Is.tiedCalls : CallsTied Try.prog life_Life_Is.calls [52] 0 := ⟨⟨_, rfl, life_Life_in.tied⟩, (fun j hj => by first | rfl | (match j, hj with | j + 1, _ => rfl))⟩
theorem life_Life_Is.tied : Tied Try.prog life_Life_Is.c 23 := tie_full life_Life_Is.tiedCalls Try.func23 (by kernel_rfl) (by kernel_rfl) (by kernel_rfl) life_Life_Is.eq
theorem write_Writer_Wears.tiedCalls : CallsTied Try.prog write_Writer_Wears.calls [23, 57] 0 := ⟨⟨_, rfl, life_Life_Is.tied⟩, ⟨⟨_, rfl, slices_Contains_int_int.tied⟩, (fun j hj => by first | rfl | (match j, hj with | j + 2, _ => rfl))⟩⟩
theorem write_Writer_Wears.tied : Tied Try.prog write_Writer_Wears.c 31 := tie_full write_Writer_Wears.tiedCalls Try.func31 (by kernel_rfl) (by kernel_rfl) (by kernel_rfl) write_Writer_Wears.eq
theorem wear_Least.tiedCalls : CallsTied Try.prog wear_Least.calls [] 0 := (fun _ _ => rfl)
theorem wear_Least.tied : Tied Try.prog wear_Least.c 70 := tie_full wear_Least.tiedCalls Try.func70 (by kernel_rfl) (by kernel_rfl) (by kernel_rfl) wear_Least.eq
theorem life_Life_Open.tiedCalls : CallsTied Try.prog life_Life_Open.calls [52] 0 := ⟨⟨_, rfl, life_Life_in.tied⟩, (fun j hj => by first | rfl | (match j, hj with | j + 1, _ => rfl))⟩
theorem life_Life_Open.tied : Tied Try.prog life_Life_Open.c 71 := tie_full life_Life_Open.tiedCalls Try.func71 (by kernel_rfl) (by kernel_rfl) (by kernel_rfl) life_Life_Open.eq
theorem write_Writer_open.tiedCalls : CallsTied Try.prog write_Writer_open.calls [19, 31, 70, 71] 0 := ⟨⟨_, rfl, life_Life_At.tied⟩, ⟨⟨_, rfl, write_Writer_Wears.tied⟩, ⟨⟨_, rfl, wear_Least.tied⟩, ⟨⟨_, rfl, life_Life_Open.tied⟩, (fun j hj => by first | rfl | (match j, hj with | j + 4, _ => rfl))⟩⟩⟩⟩
theorem write_Writer_open.tied : Tied Try.prog write_Writer_open.c 45 := tie_full write_Writer_open.tiedCalls Try.func45 (by kernel_rfl) (by kernel_rfl) (by kernel_rfl) write_Writer_open.eq
theorem life_Life_Take.tiedCalls : CallsTied Try.prog life_Life_Take.calls [] 0 := (fun _ _ => rfl)
theorem life_Life_Take.tied : Tied Try.prog life_Life_Take.c 46 := tie_full life_Life_Take.tiedCalls Try.func46 (by kernel_rfl) (by kernel_rfl) (by kernel_rfl) life_Life_Take.eq
theorem nand_Chip_in.tiedCalls : CallsTied Try.prog nand_Chip_in.calls [] 0 := (fun _ _ => rfl)
theorem nand_Chip_in.tied : Tied Try.prog nand_Chip_in.c 51 := tie_full nand_Chip_in.tiedCalls Try.func51 (by kernel_rfl) (by kernel_rfl) (by kernel_rfl) nand_Chip_in.eq
theorem nand_Chip_act.tiedCalls : CallsTied Try.prog nand_Chip_act.calls [] 0 := (fun _ _ => rfl)
theorem nand_Chip_act.tied : Tied Try.prog nand_Chip_act.c 72 := tie_full nand_Chip_act.tiedCalls Try.func72 (by kernel_rfl) (by kernel_rfl) (by kernel_rfl) nand_Chip_act.eq
theorem nand_torn.tiedCalls : CallsTied Try.prog nand_torn.calls [66] 0 := ⟨⟨_, rfl, strings_Repeat.tied⟩, (fun j hj => by first | rfl | (match j, hj with | j + 1, _ => rfl))⟩
theorem nand_torn.tied : Tied Try.prog nand_torn.c 74 := tie_pure nand_torn.tiedCalls Try.func74 (by kernel_rfl) (by kernel_rfl) (by kernel_rfl) (by kernel_rfl) (by kernel_rfl) nand_torn.eq
theorem nand_Chip_full.tiedCalls : CallsTied Try.prog nand_Chip_full.calls [66] 0 := ⟨⟨_, rfl, strings_Repeat.tied⟩, (fun j hj => by first | rfl | (match j, hj with | j + 1, _ => rfl))⟩
theorem nand_Chip_full.tied : Tied Try.prog nand_Chip_full.c 78 := tie_full nand_Chip_full.tiedCalls Try.func78 (by kernel_rfl) (by kernel_rfl) (by kernel_rfl) nand_Chip_full.eq
theorem nand_Chip_lay.tiedCalls : CallsTied Try.prog nand_Chip_lay.calls [78] 0 := ⟨⟨_, rfl, nand_Chip_full.tied⟩, (fun j hj => by first | rfl | (match j, hj with | j + 1, _ => rfl))⟩
theorem nand_Chip_lay.tied : Tied Try.prog nand_Chip_lay.c 73 := tie_full nand_Chip_lay.tiedCalls Try.func73 (by kernel_rfl) (by kernel_rfl) (by kernel_rfl) nand_Chip_lay.eq
theorem nand_Chip_fail.tiedCalls : CallsTied Try.prog nand_Chip_fail.calls [57] 0 := ⟨⟨_, rfl, slices_Contains_int_int.tied⟩, (fun j hj => by first | rfl | (match j, hj with | j + 1, _ => rfl))⟩
theorem nand_Chip_fail.tied : Tied Try.prog nand_Chip_fail.c 75 := tie_full nand_Chip_fail.tiedCalls Try.func75 (by kernel_rfl) (by kernel_rfl) (by kernel_rfl) nand_Chip_fail.eq
theorem nand_Chip_Program.tiedCalls : CallsTied Try.prog nand_Chip_Program.calls [51, 72, 74, 73, 75] 0 := ⟨⟨_, rfl, nand_Chip_in.tied⟩, ⟨⟨_, rfl, nand_Chip_act.tied⟩, ⟨⟨_, rfl, nand_torn.tied⟩, ⟨⟨_, rfl, nand_Chip_lay.tied⟩, ⟨⟨_, rfl, nand_Chip_fail.tied⟩, (fun j hj => by first | rfl | (match j, hj with | j + 5, _ => rfl))⟩⟩⟩⟩⟩
theorem nand_Chip_Program.tied : Tied Try.prog nand_Chip_Program.c 47 := tie_full nand_Chip_Program.tiedCalls Try.func47 (by kernel_rfl) (by kernel_rfl) (by kernel_rfl) nand_Chip_Program.eq
theorem life_Life_set.tiedCalls : CallsTied Try.prog life_Life_set.calls [52] 0 := ⟨⟨_, rfl, life_Life_in.tied⟩, (fun j hj => by first | rfl | (match j, hj with | j + 1, _ => rfl))⟩
theorem life_Life_set.tied : Tied Try.prog life_Life_set.c 55 := tie_full life_Life_set.tiedCalls Try.func55 (by kernel_rfl) (by kernel_rfl) (by kernel_rfl) life_Life_set.eq
theorem life_Life_Bad.tiedCalls : CallsTied Try.prog life_Life_Bad.calls [55] 0 := ⟨⟨_, rfl, life_Life_set.tied⟩, (fun j hj => by first | rfl | (match j, hj with | j + 1, _ => rfl))⟩
theorem life_Life_Bad.tied : Tied Try.prog life_Life_Bad.c 76 := tie_full life_Life_Bad.tiedCalls Try.func76 (by kernel_rfl) (by kernel_rfl) (by kernel_rfl) life_Life_Bad.eq
theorem nand_Chip_Mark.tiedCalls : CallsTied Try.prog nand_Chip_Mark.calls [51, 72] 0 := ⟨⟨_, rfl, nand_Chip_in.tied⟩, ⟨⟨_, rfl, nand_Chip_act.tied⟩, (fun j hj => by first | rfl | (match j, hj with | j + 2, _ => rfl))⟩⟩
theorem nand_Chip_Mark.tied : Tied Try.prog nand_Chip_Mark.c 77 := tie_full nand_Chip_Mark.tiedCalls Try.func77 (by kernel_rfl) (by kernel_rfl) (by kernel_rfl) nand_Chip_Mark.eq
theorem write_Writer_spoil.tiedCalls : CallsTied Try.prog write_Writer_spoil.calls [76, 77] 0 := ⟨⟨_, rfl, life_Life_Bad.tied⟩, ⟨⟨_, rfl, nand_Chip_Mark.tied⟩, (fun j hj => by first | rfl | (match j, hj with | j + 2, _ => rfl))⟩⟩
theorem write_Writer_spoil.tied : Tied Try.prog write_Writer_spoil.c 48 := tie_full write_Writer_spoil.tiedCalls Try.func48 (by kernel_rfl) (by kernel_rfl) (by kernel_rfl) write_Writer_spoil.eq
theorem life_Life_Full.tiedCalls : CallsTied Try.prog life_Life_Full.calls [55] 0 := ⟨⟨_, rfl, life_Life_set.tied⟩, (fun j hj => by first | rfl | (match j, hj with | j + 1, _ => rfl))⟩
theorem life_Life_Full.tied : Tied Try.prog life_Life_Full.c 27 := tie_full life_Life_Full.tiedCalls Try.func27 (by kernel_rfl) (by kernel_rfl) (by kernel_rfl) life_Life_Full.eq
theorem write_Writer_Append.tiedCalls : CallsTied Try.prog write_Writer_Append.calls [21, 44, 45, 46, 47, 48, 27] 0 := ⟨⟨_, rfl, nand_Chip_Geometry.tied⟩, ⟨⟨_, rfl, page_Frame.tied⟩, ⟨⟨_, rfl, write_Writer_open.tied⟩, ⟨⟨_, rfl, life_Life_Take.tied⟩, ⟨⟨_, rfl, nand_Chip_Program.tied⟩, ⟨⟨_, rfl, write_Writer_spoil.tied⟩, ⟨⟨_, rfl, life_Life_Full.tied⟩, (fun j hj => by first | rfl | (match j, hj with | j + 7, _ => rfl))⟩⟩⟩⟩⟩⟩⟩
theorem write_Writer_Append.tied : Tied Try.prog write_Writer_Append.c 14 := tie_full write_Writer_Append.tiedCalls Try.func14 (by kernel_rfl) (by kernel_rfl) (by kernel_rfl) write_Writer_Append.eq
theorem nand_Chip_Read.tiedCalls : CallsTied Try.prog nand_Chip_Read.calls [51, 78] 0 := ⟨⟨_, rfl, nand_Chip_in.tied⟩, ⟨⟨_, rfl, nand_Chip_full.tied⟩, (fun j hj => by first | rfl | (match j, hj with | j + 2, _ => rfl))⟩⟩
theorem nand_Chip_Read.tied : Tied Try.prog nand_Chip_Read.c 49 := tie_full nand_Chip_Read.tiedCalls Try.func49 (by kernel_rfl) (by kernel_rfl) (by kernel_rfl) nand_Chip_Read.eq
theorem page_erased.tiedCalls : CallsTied Try.prog page_erased.calls [] 0 := (fun _ _ => rfl)
theorem page_erased.tied : Tied Try.prog page_erased.c 79 := tie_pure page_erased.tiedCalls Try.func79 (by kernel_rfl) (by kernel_rfl) (by kernel_rfl) (by kernel_rfl) (by kernel_rfl) page_erased.eq
theorem code_New.tiedCalls : CallsTied Try.prog code_New.calls [] 0 := (fun _ _ => rfl)
theorem code_New.tied : Tied Try.prog code_New.c 80 := tie_full code_New.tiedCalls Try.func80 (by kernel_rfl) (by kernel_rfl) (by kernel_rfl) code_New.eq
theorem code_Reader_Err.tiedCalls : CallsTied Try.prog code_Reader_Err.calls [] 0 := (fun _ _ => rfl)
theorem code_Reader_Err.tied : Tied Try.prog code_Reader_Err.c 102 := tie_full code_Reader_Err.tiedCalls Try.func102 (by kernel_rfl) (by kernel_rfl) (by kernel_rfl) code_Reader_Err.eq
theorem code_Reader_fail.tiedCalls : CallsTied Try.prog code_Reader_fail.calls [] 0 := (fun _ _ => rfl)
theorem code_Reader_fail.tied : Tied Try.prog code_Reader_fail.c 103 := tie_full code_Reader_fail.tiedCalls Try.func103 (by kernel_rfl) (by kernel_rfl) (by kernel_rfl) code_Reader_fail.eq
theorem code_Reader_Bytes.tiedCalls : CallsTied Try.prog code_Reader_Bytes.calls [102, 103] 0 := ⟨⟨_, rfl, code_Reader_Err.tied⟩, ⟨⟨_, rfl, code_Reader_fail.tied⟩, (fun j hj => by first | rfl | (match j, hj with | j + 2, _ => rfl))⟩⟩
theorem code_Reader_Bytes.tied : Tied Try.prog code_Reader_Bytes.c 95 := tie_full code_Reader_Bytes.tiedCalls Try.func95 (by kernel_rfl) (by kernel_rfl) (by kernel_rfl) code_Reader_Bytes.eq
theorem code_value.tiedCalls : CallsTied Try.prog code_value.calls [] 0 := (fun _ _ => rfl)
theorem code_value.tied : Tied Try.prog code_value.c 94 := tie_pure code_value.tiedCalls Try.func94 (by kernel_rfl) (by kernel_rfl) (by kernel_rfl) (by kernel_rfl) (by kernel_rfl) code_value.eq
theorem code_Reader_Fixed.tiedCalls : CallsTied Try.prog code_Reader_Fixed.calls [95, 94] 0 := ⟨⟨_, rfl, code_Reader_Bytes.tied⟩, ⟨⟨_, rfl, code_value.tied⟩, (fun j hj => by first | rfl | (match j, hj with | j + 2, _ => rfl))⟩⟩
theorem code_Reader_Fixed.tied : Tied Try.prog code_Reader_Fixed.c 81 := tie_full code_Reader_Fixed.tiedCalls Try.func81 (by kernel_rfl) (by kernel_rfl) (by kernel_rfl) code_Reader_Fixed.eq
theorem page_Look.tiedCalls : CallsTied Try.prog page_Look.calls [79, 80, 81, 65, 44] 0 := ⟨⟨_, rfl, page_erased.tied⟩, ⟨⟨_, rfl, code_New.tied⟩, ⟨⟨_, rfl, code_Reader_Fixed.tied⟩, ⟨⟨_, rfl, page_Check.tied⟩, ⟨⟨_, rfl, page_Frame.tied⟩, (fun j hj => by first | rfl | (match j, hj with | j + 5, _ => rfl))⟩⟩⟩⟩⟩
theorem page_Look.tied : Tied Try.prog page_Look.c 50 := tie_pure page_Look.tiedCalls Try.func50 (by kernel_rfl) (by kernel_rfl) (by kernel_rfl) (by kernel_rfl) (by kernel_rfl) page_Look.eq
theorem write_Writer_Read.tiedCalls : CallsTied Try.prog write_Writer_Read.calls [21, 49, 50] 0 := ⟨⟨_, rfl, nand_Chip_Geometry.tied⟩, ⟨⟨_, rfl, nand_Chip_Read.tied⟩, ⟨⟨_, rfl, page_Look.tied⟩, (fun j hj => by first | rfl | (match j, hj with | j + 3, _ => rfl))⟩⟩⟩
theorem write_Writer_Read.tied : Tied Try.prog write_Writer_Read.c 17 := tie_full write_Writer_Read.tiedCalls Try.func17 (by kernel_rfl) (by kernel_rfl) (by kernel_rfl) write_Writer_Read.eq
theorem write_Writer_Life.tiedCalls : CallsTied Try.prog write_Writer_Life.calls [] 0 := (fun _ _ => rfl)
theorem write_Writer_Life.tied : Tied Try.prog write_Writer_Life.c 18 := tie_full write_Writer_Life.tiedCalls Try.func18 (by kernel_rfl) (by kernel_rfl) (by kernel_rfl) write_Writer_Life.eq
theorem law13_awake.tiedCalls : CallsTied Try.prog law13_awake.calls [12, 15, 14, 17, 18, 23] 0 := ⟨⟨_, rfl, law13_Begun.tied⟩, ⟨⟨_, rfl, law13_tag.tied⟩, ⟨⟨_, rfl, write_Writer_Append.tied⟩, ⟨⟨_, rfl, write_Writer_Read.tied⟩, ⟨⟨_, rfl, write_Writer_Life.tied⟩, ⟨⟨_, rfl, life_Life_Is.tied⟩, (fun j hj => by first | rfl | (match j, hj with | j + 6, _ => rfl))⟩⟩⟩⟩⟩⟩
theorem law13_awake.tied : Tied Try.prog law13_awake.c 13 := tie_pure law13_awake.tiedCalls Try.func13 (by kernel_rfl) (by kernel_rfl) (by kernel_rfl) (by kernel_rfl) (by kernel_rfl) law13_awake.eq
theorem nand_Chip_Power.tiedCalls : CallsTied Try.prog nand_Chip_Power.calls [] 0 := (fun _ _ => rfl)
theorem nand_Chip_Power.tied : Tied Try.prog nand_Chip_Power.c 16 := tie_full nand_Chip_Power.tiedCalls Try.func16 (by kernel_rfl) (by kernel_rfl) (by kernel_rfl) nand_Chip_Power.eq
theorem law13_WriteCuts.tiedCalls : CallsTied Try.prog law13_WriteCuts.calls [12, 13, 15, 14, 16, 17] 0 := ⟨⟨_, rfl, law13_Begun.tied⟩, ⟨⟨_, rfl, law13_awake.tied⟩, ⟨⟨_, rfl, law13_tag.tied⟩, ⟨⟨_, rfl, write_Writer_Append.tied⟩, ⟨⟨_, rfl, nand_Chip_Power.tied⟩, ⟨⟨_, rfl, write_Writer_Read.tied⟩, (fun j hj => by first | rfl | (match j, hj with | j + 6, _ => rfl))⟩⟩⟩⟩⟩⟩
theorem law13_WriteCuts.tied : Tied Try.prog law13_WriteCuts.c 3 := tie_pure law13_WriteCuts.tiedCalls Try.func3 (by kernel_rfl) (by kernel_rfl) (by kernel_rfl) (by kernel_rfl) (by kernel_rfl) law13_WriteCuts.eq
theorem write_Writer_Bads.tiedCalls : CallsTied Try.prog write_Writer_Bads.calls [] 0 := (fun _ _ => rfl)
theorem write_Writer_Bads.tied : Tied Try.prog write_Writer_Bads.c 20 := tie_full write_Writer_Bads.tiedCalls Try.func20 (by kernel_rfl) (by kernel_rfl) (by kernel_rfl) write_Writer_Bads.eq
theorem nand_Chip_Marked.tiedCalls : CallsTied Try.prog nand_Chip_Marked.calls [51] 0 := ⟨⟨_, rfl, nand_Chip_in.tied⟩, (fun j hj => by first | rfl | (match j, hj with | j + 1, _ => rfl))⟩
theorem nand_Chip_Marked.tied : Tied Try.prog nand_Chip_Marked.c 22 := tie_full nand_Chip_Marked.tiedCalls Try.func22 (by kernel_rfl) (by kernel_rfl) (by kernel_rfl) nand_Chip_Marked.eq
theorem nand_Chip_Dead.tiedCalls : CallsTied Try.prog nand_Chip_Dead.calls [] 0 := (fun _ _ => rfl)
theorem nand_Chip_Dead.tied : Tied Try.prog nand_Chip_Dead.c 24 := tie_full nand_Chip_Dead.tiedCalls Try.func24 (by kernel_rfl) (by kernel_rfl) (by kernel_rfl) nand_Chip_Dead.eq
theorem law13_WriteBad.tiedCalls : CallsTied Try.prog law13_WriteBad.calls [12, 13, 18, 19, 15, 14, 20, 21, 22, 23, 24] 0 := ⟨⟨_, rfl, law13_Begun.tied⟩, ⟨⟨_, rfl, law13_awake.tied⟩, ⟨⟨_, rfl, write_Writer_Life.tied⟩, ⟨⟨_, rfl, life_Life_At.tied⟩, ⟨⟨_, rfl, law13_tag.tied⟩, ⟨⟨_, rfl, write_Writer_Append.tied⟩, ⟨⟨_, rfl, write_Writer_Bads.tied⟩, ⟨⟨_, rfl, nand_Chip_Geometry.tied⟩, ⟨⟨_, rfl, nand_Chip_Marked.tied⟩, ⟨⟨_, rfl, life_Life_Is.tied⟩, ⟨⟨_, rfl, nand_Chip_Dead.tied⟩, (fun j hj => by first | rfl | (match j, hj with | j + 11, _ => rfl))⟩⟩⟩⟩⟩⟩⟩⟩⟩⟩⟩
theorem law13_WriteBad.tied : Tied Try.prog law13_WriteBad.c 4 := tie_pure law13_WriteBad.tiedCalls Try.func4 (by kernel_rfl) (by kernel_rfl) (by kernel_rfl) (by kernel_rfl) (by kernel_rfl) law13_WriteBad.eq
theorem law13_few.tiedCalls : CallsTied Try.prog law13_few.calls [] 0 := (fun _ _ => rfl)
theorem law13_few.tied : Tied Try.prog law13_few.c 25 := tie_pure law13_few.tiedCalls Try.func25 (by kernel_rfl) (by kernel_rfl) (by kernel_rfl) (by kernel_rfl) (by kernel_rfl) law13_few.eq
theorem nand_Chip_Erase.tiedCalls : CallsTied Try.prog nand_Chip_Erase.calls [51, 72, 78, 74, 73, 75] 0 := ⟨⟨_, rfl, nand_Chip_in.tied⟩, ⟨⟨_, rfl, nand_Chip_act.tied⟩, ⟨⟨_, rfl, nand_Chip_full.tied⟩, ⟨⟨_, rfl, nand_torn.tied⟩, ⟨⟨_, rfl, nand_Chip_lay.tied⟩, ⟨⟨_, rfl, nand_Chip_fail.tied⟩, (fun j hj => by first | rfl | (match j, hj with | j + 6, _ => rfl))⟩⟩⟩⟩⟩⟩
theorem nand_Chip_Erase.tied : Tied Try.prog nand_Chip_Erase.c 53 := tie_full nand_Chip_Erase.tiedCalls Try.func53 (by kernel_rfl) (by kernel_rfl) (by kernel_rfl) nand_Chip_Erase.eq
theorem life_Life_Free.tiedCalls : CallsTied Try.prog life_Life_Free.calls [55] 0 := ⟨⟨_, rfl, life_Life_set.tied⟩, (fun j hj => by first | rfl | (match j, hj with | j + 1, _ => rfl))⟩
theorem life_Life_Free.tied : Tied Try.prog life_Life_Free.c 54 := tie_full life_Life_Free.tiedCalls Try.func54 (by kernel_rfl) (by kernel_rfl) (by kernel_rfl) life_Life_Free.eq
theorem write_Writer_Erase.tiedCalls : CallsTied Try.prog write_Writer_Erase.calls [23, 53, 54, 48] 0 := ⟨⟨_, rfl, life_Life_Is.tied⟩, ⟨⟨_, rfl, nand_Chip_Erase.tied⟩, ⟨⟨_, rfl, life_Life_Free.tied⟩, ⟨⟨_, rfl, write_Writer_spoil.tied⟩, (fun j hj => by first | rfl | (match j, hj with | j + 4, _ => rfl))⟩⟩⟩⟩
theorem write_Writer_Erase.tied : Tied Try.prog write_Writer_Erase.c 26 := tie_full write_Writer_Erase.tiedCalls Try.func26 (by kernel_rfl) (by kernel_rfl) (by kernel_rfl) write_Writer_Erase.eq
theorem law13_WriteReads.tiedCalls : CallsTied Try.prog law13_WriteReads.calls [12, 13, 21, 25, 18, 23, 26, 19, 27, 15, 14, 17] 0 := ⟨⟨_, rfl, law13_Begun.tied⟩, ⟨⟨_, rfl, law13_awake.tied⟩, ⟨⟨_, rfl, nand_Chip_Geometry.tied⟩, ⟨⟨_, rfl, law13_few.tied⟩, ⟨⟨_, rfl, write_Writer_Life.tied⟩, ⟨⟨_, rfl, life_Life_Is.tied⟩, ⟨⟨_, rfl, write_Writer_Erase.tied⟩, ⟨⟨_, rfl, life_Life_At.tied⟩, ⟨⟨_, rfl, life_Life_Full.tied⟩, ⟨⟨_, rfl, law13_tag.tied⟩, ⟨⟨_, rfl, write_Writer_Append.tied⟩, ⟨⟨_, rfl, write_Writer_Read.tied⟩, (fun j hj => by first | rfl | (match j, hj with | j + 12, _ => rfl))⟩⟩⟩⟩⟩⟩⟩⟩⟩⟩⟩⟩
theorem law13_WriteReads.tied : Tied Try.prog law13_WriteReads.c 5 := tie_full law13_WriteReads.tiedCalls Try.func5 (by kernel_rfl) (by kernel_rfl) (by kernel_rfl) law13_WriteReads.eq
theorem law13_WriteFull.tiedCalls : CallsTied Try.prog law13_WriteFull.calls [12, 13, 21, 15, 14, 26] 0 := ⟨⟨_, rfl, law13_Begun.tied⟩, ⟨⟨_, rfl, law13_awake.tied⟩, ⟨⟨_, rfl, nand_Chip_Geometry.tied⟩, ⟨⟨_, rfl, law13_tag.tied⟩, ⟨⟨_, rfl, write_Writer_Append.tied⟩, ⟨⟨_, rfl, write_Writer_Erase.tied⟩, (fun j hj => by first | rfl | (match j, hj with | j + 6, _ => rfl))⟩⟩⟩⟩⟩⟩
theorem law13_WriteFull.tied : Tied Try.prog law13_WriteFull.c 6 := tie_pure law13_WriteFull.tiedCalls Try.func6 (by kernel_rfl) (by kernel_rfl) (by kernel_rfl) (by kernel_rfl) (by kernel_rfl) law13_WriteFull.eq
theorem write_Writer_Worn.tiedCalls : CallsTied Try.prog write_Writer_Worn.calls [56] 0 := ⟨⟨_, rfl, slices_Clone_int_int.tied⟩, (fun j hj => by first | rfl | (match j, hj with | j + 1, _ => rfl))⟩
theorem write_Writer_Worn.tied : Tied Try.prog write_Writer_Worn.c 30 := tie_full write_Writer_Worn.tiedCalls Try.func30 (by kernel_rfl) (by kernel_rfl) (by kernel_rfl) write_Writer_Worn.eq
theorem law13_WriteNone.tiedCalls : CallsTied Try.prog law13_WriteNone.calls [12, 28, 15, 14, 17, 29, 13, 26, 18, 30, 20, 31] 0 := ⟨⟨_, rfl, law13_Begun.tied⟩, ⟨⟨_, rfl, life_New.tied⟩, ⟨⟨_, rfl, law13_tag.tied⟩, ⟨⟨_, rfl, write_Writer_Append.tied⟩, ⟨⟨_, rfl, write_Writer_Read.tied⟩, ⟨⟨_, rfl, write_New.tied⟩, ⟨⟨_, rfl, law13_awake.tied⟩, ⟨⟨_, rfl, write_Writer_Erase.tied⟩, ⟨⟨_, rfl, write_Writer_Life.tied⟩, ⟨⟨_, rfl, write_Writer_Worn.tied⟩, ⟨⟨_, rfl, write_Writer_Bads.tied⟩, ⟨⟨_, rfl, write_Writer_Wears.tied⟩, (fun j hj => by first | rfl | (match j, hj with | j + 12, _ => rfl))⟩⟩⟩⟩⟩⟩⟩⟩⟩⟩⟩⟩
theorem law13_WriteNone.tied : Tied Try.prog law13_WriteNone.c 7 := tie_pure law13_WriteNone.tiedCalls Try.func7 (by kernel_rfl) (by kernel_rfl) (by kernel_rfl) (by kernel_rfl) (by kernel_rfl) law13_WriteNone.eq
theorem nand_Chip_Worn.tiedCalls : CallsTied Try.prog nand_Chip_Worn.calls [] 0 := (fun _ _ => rfl)
theorem nand_Chip_Worn.tied : Tied Try.prog nand_Chip_Worn.c 32 := tie_full nand_Chip_Worn.tiedCalls Try.func32 (by kernel_rfl) (by kernel_rfl) (by kernel_rfl) nand_Chip_Worn.eq
theorem law13_WriteLevels.tiedCalls : CallsTied Try.prog law13_WriteLevels.calls [12, 13, 21, 15, 14, 26, 32, 30] 0 := ⟨⟨_, rfl, law13_Begun.tied⟩, ⟨⟨_, rfl, law13_awake.tied⟩, ⟨⟨_, rfl, nand_Chip_Geometry.tied⟩, ⟨⟨_, rfl, law13_tag.tied⟩, ⟨⟨_, rfl, write_Writer_Append.tied⟩, ⟨⟨_, rfl, write_Writer_Erase.tied⟩, ⟨⟨_, rfl, nand_Chip_Worn.tied⟩, ⟨⟨_, rfl, write_Writer_Worn.tied⟩, (fun j hj => by first | rfl | (match j, hj with | j + 8, _ => rfl))⟩⟩⟩⟩⟩⟩⟩⟩
theorem law13_WriteLevels.tied : Tied Try.prog law13_WriteLevels.c 8 := tie_pure law13_WriteLevels.tiedCalls Try.func8 (by kernel_rfl) (by kernel_rfl) (by kernel_rfl) (by kernel_rfl) (by kernel_rfl) law13_WriteLevels.eq
end Ev
