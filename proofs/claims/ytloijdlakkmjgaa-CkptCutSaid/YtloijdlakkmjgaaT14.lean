/- The functions are those of the program: the kernel checks the code, one by one. Written by gen2.py. -/
import Derived.Test.YtloijdlakkmjgaaEvTie
import Derived.Test.YtloijdlakkmjgaaGLaw05
import Derived.Test.YtloijdlakkmjgaaGSlices
import Derived.Test.YtloijdlakkmjgaaGNand
import Derived.Test.YtloijdlakkmjgaaGLife
import Derived.Test.YtloijdlakkmjgaaGCode
import Derived.Test.YtloijdlakkmjgaaGCrc
import Derived.Test.YtloijdlakkmjgaaGPage
import Derived.Test.YtloijdlakkmjgaaGWear
import Derived.Test.YtloijdlakkmjgaaGWrite
import Derived.Test.YtloijdlakkmjgaaGLaw13
import Derived.Test.YtloijdlakkmjgaaGRec
import Derived.Test.YtloijdlakkmjgaaGGroup
import Derived.Test.YtloijdlakkmjgaaGCkpt
import Derived.Test.YtloijdlakkmjgaaGRef07
import Derived.Test.YtloijdlakkmjgaaGLaw14
import Derived.Test.YtloijdlakkmjgaaSh
import Derived.Test.YtloijdlakkmjgaaProg
import Derived.KernelRfl
set_option maxRecDepth 100000
namespace Ev
open Go Go.Proofs
theorem law05_Geometry.tiedCalls : CallsTied Try.prog law05_Geometry.calls [] 0 := (fun _ _ => rfl)
theorem law05_Geometry.tied : Tied Try.prog law05_Geometry.c 42 := tie_full law05_Geometry.tiedCalls Try.func42 (by kernel_rfl) (by kernel_rfl) (by kernel_rfl) law05_Geometry.eq
theorem nand_Check.tiedCalls : CallsTied Try.prog nand_Check.calls [] 0 := (fun _ _ => rfl)
theorem nand_Check.tied : Tied Try.prog nand_Check.c 64 := tie_pure nand_Check.tiedCalls Try.func64 (by kernel_rfl) (by kernel_rfl) (by kernel_rfl) (by kernel_rfl) (by kernel_rfl) nand_Check.eq
theorem slices_Clone_api_Cut_api_Cut.tiedCalls : CallsTied Try.prog slices_Clone_api_Cut_api_Cut.calls [] 0 := (fun _ _ => rfl)
theorem slices_Clone_api_Cut_api_Cut.tied : Tied Try.prog slices_Clone_api_Cut_api_Cut.c 63 := tie_full slices_Clone_api_Cut_api_Cut.tiedCalls Try.func63 (by kernel_rfl) (by kernel_rfl) (by kernel_rfl) slices_Clone_api_Cut_api_Cut.eq
theorem slices_Clone_int_int.tiedCalls : CallsTied Try.prog slices_Clone_int_int.calls [] 0 := (fun _ _ => rfl)
theorem slices_Clone_int_int.tied : Tied Try.prog slices_Clone_int_int.c 56 := tie_full slices_Clone_int_int.tiedCalls Try.func56 (by kernel_rfl) (by kernel_rfl) (by kernel_rfl) slices_Clone_int_int.eq
theorem slices_Index_int_int.tiedCalls : CallsTied Try.prog slices_Index_int_int.calls [] 0 := (fun _ _ => rfl)
theorem slices_Index_int_int.tied : Tied Try.prog slices_Index_int_int.c 82 := tie_full slices_Index_int_int.tiedCalls Try.func82 (by kernel_rfl) (by kernel_rfl) (by kernel_rfl) slices_Index_int_int.eq
theorem slices_Contains_int_int.tiedCalls : CallsTied Try.prog slices_Contains_int_int.calls [82] 0 := ⟨⟨_, rfl, slices_Index_int_int.tied⟩, (fun j hj => by first | rfl | (match j, hj with | j + 1, _ => rfl))⟩
theorem slices_Contains_int_int.tied : Tied Try.prog slices_Contains_int_int.c 57 := tie_full slices_Contains_int_int.tiedCalls Try.func57 (by kernel_rfl) (by kernel_rfl) (by kernel_rfl) slices_Contains_int_int.eq
theorem nand_New.tiedCalls : CallsTied Try.prog nand_New.calls [64, 63, 56, 57] 0 := ⟨⟨_, rfl, nand_Check.tied⟩, ⟨⟨_, rfl, slices_Clone_api_Cut_api_Cut.tied⟩, ⟨⟨_, rfl, slices_Clone_int_int.tied⟩, ⟨⟨_, rfl, slices_Contains_int_int.tied⟩, (fun j hj => by first | rfl | (match j, hj with | j + 4, _ => rfl))⟩⟩⟩⟩
theorem nand_New.tied : Tied Try.prog nand_New.c 43 := tie_full nand_New.tiedCalls Try.func43 (by kernel_rfl) (by kernel_rfl) (by kernel_rfl) nand_New.eq
theorem life_New.tiedCalls : CallsTied Try.prog life_New.calls [] 0 := (fun _ _ => rfl)
theorem life_New.tied : Tied Try.prog life_New.c 28 := tie_full life_New.tiedCalls Try.func28 (by kernel_rfl) (by kernel_rfl) (by kernel_rfl) life_New.eq
theorem nand_Chip_Geometry.tiedCalls : CallsTied Try.prog nand_Chip_Geometry.calls [] 0 := (fun _ _ => rfl)
theorem nand_Chip_Geometry.tied : Tied Try.prog nand_Chip_Geometry.c 21 := tie_full nand_Chip_Geometry.tiedCalls Try.func21 (by kernel_rfl) (by kernel_rfl) (by kernel_rfl) nand_Chip_Geometry.eq
theorem write_New.tiedCalls : CallsTied Try.prog write_New.calls [21, 56] 0 := ⟨⟨_, rfl, nand_Chip_Geometry.tied⟩, ⟨⟨_, rfl, slices_Clone_int_int.tied⟩, (fun j hj => by first | rfl | (match j, hj with | j + 2, _ => rfl))⟩⟩
theorem write_New.tied : Tied Try.prog write_New.c 29 := tie_full write_New.tiedCalls Try.func29 (by kernel_rfl) (by kernel_rfl) (by kernel_rfl) write_New.eq
theorem law13_Begun.tiedCalls : CallsTied Try.prog law13_Begun.calls [42, 43, 28, 29] 0 := ⟨⟨_, rfl, law05_Geometry.tied⟩, ⟨⟨_, rfl, nand_New.tied⟩, ⟨⟨_, rfl, life_New.tied⟩, ⟨⟨_, rfl, write_New.tied⟩, (fun j hj => by first | rfl | (match j, hj with | j + 4, _ => rfl))⟩⟩⟩⟩
theorem law13_Begun.tied : Tied Try.prog law13_Begun.c 12 := tie_full law13_Begun.tiedCalls Try.func12 (by kernel_rfl) (by kernel_rfl) (by kernel_rfl) law13_Begun.eq
theorem code_Fixed.tiedCalls : CallsTied Try.prog code_Fixed.calls [] 0 := (fun _ _ => rfl)
theorem code_Fixed.tied : Tied Try.prog code_Fixed.c 67 := tie_pure code_Fixed.tiedCalls Try.func67 (by kernel_rfl) (by kernel_rfl) (by kernel_rfl) (by kernel_rfl) (by kernel_rfl) code_Fixed.eq
theorem rec_fields.tiedCalls : CallsTied Try.prog rec_fields.calls [] 0 := (fun _ _ => rfl)
theorem rec_fields.tied : Tied Try.prog rec_fields.c 85 := tie_full rec_fields.tiedCalls Try.func85 (by kernel_rfl) (by kernel_rfl) (by kernel_rfl) rec_fields.eq
theorem code_Num.tiedCalls : CallsTied Try.prog code_Num.calls [] 0 := (fun _ _ => rfl)
theorem code_Num.tied : Tied Try.prog code_Num.c 86 := tie_pure code_Num.tiedCalls Try.func86 (by kernel_rfl) (by kernel_rfl) (by kernel_rfl) (by kernel_rfl) (by kernel_rfl) code_Num.eq
theorem rec_Put.tiedCalls : CallsTied Try.prog rec_Put.calls [67, 85, 86] 0 := ⟨⟨_, rfl, code_Fixed.tied⟩, ⟨⟨_, rfl, rec_fields.tied⟩, ⟨⟨_, rfl, code_Num.tied⟩, (fun j hj => by first | rfl | (match j, hj with | j + 3, _ => rfl))⟩⟩⟩
theorem rec_Put.tied : Tied Try.prog rec_Put.c 59 := tie_pure rec_Put.tiedCalls Try.func59 (by kernel_rfl) (by kernel_rfl) (by kernel_rfl) (by kernel_rfl) (by kernel_rfl) rec_Put.eq
theorem group_Pack.tiedCalls : CallsTied Try.prog group_Pack.calls [59] 0 := ⟨⟨_, rfl, rec_Put.tied⟩, (fun j hj => by first | rfl | (match j, hj with | j + 1, _ => rfl))⟩
theorem group_Pack.tied : Tied Try.prog group_Pack.c 35 := tie_full group_Pack.tiedCalls Try.func35 (by kernel_rfl) (by kernel_rfl) (by kernel_rfl) group_Pack.eq
theorem page_Check.tiedCalls : CallsTied Try.prog page_Check.calls [] 0 := (fun _ _ => rfl)
theorem page_Check.tied : Tied Try.prog page_Check.c 65 := tie_pure page_Check.tiedCalls Try.func65 (by kernel_rfl) (by kernel_rfl) (by kernel_rfl) (by kernel_rfl) (by kernel_rfl) page_Check.eq
theorem crc_More.tiedCalls : CallsTied Try.prog crc_More.calls [] 0 := (fun _ _ => rfl)
theorem crc_More.tied : Tied Try.prog crc_More.c 68 := tie_pure crc_More.tiedCalls Try.func68 (by kernel_rfl) (by kernel_rfl) (by kernel_rfl) (by kernel_rfl) (by kernel_rfl) crc_More.eq
theorem crc_Sum.tiedCalls : CallsTied Try.prog crc_Sum.calls [68] 0 := ⟨⟨_, rfl, crc_More.tied⟩, (fun j hj => by first | rfl | (match j, hj with | j + 1, _ => rfl))⟩
theorem crc_Sum.tied : Tied Try.prog crc_Sum.c 69 := tie_pure crc_Sum.tiedCalls Try.func69 (by kernel_rfl) (by kernel_rfl) (by kernel_rfl) (by kernel_rfl) (by kernel_rfl) crc_Sum.eq
theorem page_Frame.tiedCalls : CallsTied Try.prog page_Frame.calls [65, 66, 67, 69, 68] 0 := ⟨⟨_, rfl, page_Check.tied⟩, ⟨⟨_, rfl, strings_Repeat.tied⟩, ⟨⟨_, rfl, code_Fixed.tied⟩, ⟨⟨_, rfl, crc_Sum.tied⟩, ⟨⟨_, rfl, crc_More.tied⟩, (fun j hj => by first | rfl | (match j, hj with | j + 5, _ => rfl))⟩⟩⟩⟩⟩
theorem page_Frame.tied : Tied Try.prog page_Frame.c 44 := tie_pure page_Frame.tiedCalls Try.func44 (by kernel_rfl) (by kernel_rfl) (by kernel_rfl) (by kernel_rfl) (by kernel_rfl) page_Frame.eq
theorem life_Life_At.tiedCalls : CallsTied Try.prog life_Life_At.calls [] 0 := (fun _ _ => rfl)
theorem life_Life_At.tied : Tied Try.prog life_Life_At.c 19 := tie_full life_Life_At.tiedCalls Try.func19 (by kernel_rfl) (by kernel_rfl) (by kernel_rfl) life_Life_At.eq
theorem life_Life_in.tiedCalls : CallsTied Try.prog life_Life_in.calls [] 0 := (fun _ _ => rfl)
theorem life_Life_in.tied : Tied Try.prog life_Life_in.c 52 := tie_full life_Life_in.tiedCalls Try.func52 (by kernel_rfl) (by kernel_rfl) (by kernel_rfl) life_Life_in.eq
theorem life_Life_Is.tiedCalls : CallsTied Try.prog life_Life_Is.calls [52] 0 := ⟨⟨_, rfl, life_Life_in.tied⟩, (fun j hj => by first | rfl | (match j, hj with | j + 1, _ => rfl))⟩
theorem life_Life_Is.tied : Tied Try.prog life_Life_Is.c 23 := tie_full life_Life_Is.tiedCalls Try.func23 (by kernel_rfl) (by kernel_rfl) (by kernel_rfl) life_Life_Is.eq
theorem write_Writer_Wears.tiedCalls : CallsTied Try.prog write_Writer_Wears.calls [23, 57] 0 := ⟨⟨_, rfl, life_Life_Is.tied⟩, ⟨⟨_, rfl, slices_Contains_int_int.tied⟩, (fun j hj => by first | rfl | (match j, hj with | j + 2, _ => rfl))⟩⟩
theorem write_Writer_Wears.tied : Tied Try.prog write_Writer_Wears.c 31 := tie_full write_Writer_Wears.tiedCalls Try.func31 (by kernel_rfl) (by kernel_rfl) (by kernel_rfl) write_Writer_Wears.eq
theorem wear_Least.tiedCalls : CallsTied Try.prog wear_Least.calls [] 0 := (fun _ _ => rfl)
theorem wear_Least.tied : Tied Try.prog wear_Least.c 70 := tie_full wear_Least.tiedCalls Try.func70 (by kernel_rfl) (by kernel_rfl) (by kernel_rfl) wear_Least.eq
theorem life_Life_Open.tiedCalls : CallsTied Try.prog life_Life_Open.calls [52] 0 := ⟨⟨_, rfl, life_Life_in.tied⟩, (fun j hj => by first | rfl | (match j, hj with | j + 1, _ => rfl))⟩
theorem life_Life_Open.tied : Tied Try.prog life_Life_Open.c 71 := tie_full life_Life_Open.tiedCalls Try.func71 (by kernel_rfl) (by kernel_rfl) (by kernel_rfl) life_Life_Open.eq
theorem write_Writer_open.tiedCalls : CallsTied Try.prog write_Writer_open.calls [19, 31, 70, 71] 0 := ⟨⟨_, rfl, life_Life_At.tied⟩, ⟨⟨_, rfl, write_Writer_Wears.tied⟩, ⟨⟨_, rfl, wear_Least.tied⟩, ⟨⟨_, rfl, life_Life_Open.tied⟩, (fun j hj => by first | rfl | (match j, hj with | j + 4, _ => rfl))⟩⟩⟩⟩
theorem write_Writer_open.tied : Tied Try.prog write_Writer_open.c 45 := tie_full write_Writer_open.tiedCalls Try.func45 (by kernel_rfl) (by kernel_rfl) (by kernel_rfl) write_Writer_open.eq
theorem life_Life_Take.tiedCalls : CallsTied Try.prog life_Life_Take.calls [] 0 := (fun _ _ => rfl)
theorem life_Life_Take.tied : Tied Try.prog life_Life_Take.c 46 := tie_full life_Life_Take.tiedCalls Try.func46 (by kernel_rfl) (by kernel_rfl) (by kernel_rfl) life_Life_Take.eq
theorem nand_Chip_in.tiedCalls : CallsTied Try.prog nand_Chip_in.calls [] 0 := (fun _ _ => rfl)
theorem nand_Chip_in.tied : Tied Try.prog nand_Chip_in.c 51 := tie_full nand_Chip_in.tiedCalls Try.func51 (by kernel_rfl) (by kernel_rfl) (by kernel_rfl) nand_Chip_in.eq
theorem nand_Chip_act.tiedCalls : CallsTied Try.prog nand_Chip_act.calls [] 0 := (fun _ _ => rfl)
theorem nand_Chip_act.tied : Tied Try.prog nand_Chip_act.c 72 := tie_full nand_Chip_act.tiedCalls Try.func72 (by kernel_rfl) (by kernel_rfl) (by kernel_rfl) nand_Chip_act.eq
theorem nand_torn.tiedCalls : CallsTied Try.prog nand_torn.calls [66] 0 := ⟨⟨_, rfl, strings_Repeat.tied⟩, (fun j hj => by first | rfl | (match j, hj with | j + 1, _ => rfl))⟩
theorem nand_torn.tied : Tied Try.prog nand_torn.c 74 := tie_pure nand_torn.tiedCalls Try.func74 (by kernel_rfl) (by kernel_rfl) (by kernel_rfl) (by kernel_rfl) (by kernel_rfl) nand_torn.eq
theorem nand_Chip_full.tiedCalls : CallsTied Try.prog nand_Chip_full.calls [66] 0 := ⟨⟨_, rfl, strings_Repeat.tied⟩, (fun j hj => by first | rfl | (match j, hj with | j + 1, _ => rfl))⟩
theorem nand_Chip_full.tied : Tied Try.prog nand_Chip_full.c 78 := tie_full nand_Chip_full.tiedCalls Try.func78 (by kernel_rfl) (by kernel_rfl) (by kernel_rfl) nand_Chip_full.eq
theorem nand_Chip_lay.tiedCalls : CallsTied Try.prog nand_Chip_lay.calls [78] 0 := ⟨⟨_, rfl, nand_Chip_full.tied⟩, (fun j hj => by first | rfl | (match j, hj with | j + 1, _ => rfl))⟩
theorem nand_Chip_lay.tied : Tied Try.prog nand_Chip_lay.c 73 := tie_full nand_Chip_lay.tiedCalls Try.func73 (by kernel_rfl) (by kernel_rfl) (by kernel_rfl) nand_Chip_lay.eq
theorem nand_Chip_fail.tiedCalls : CallsTied Try.prog nand_Chip_fail.calls [57] 0 := ⟨⟨_, rfl, slices_Contains_int_int.tied⟩, (fun j hj => by first | rfl | (match j, hj with | j + 1, _ => rfl))⟩
theorem nand_Chip_fail.tied : Tied Try.prog nand_Chip_fail.c 75 := tie_full nand_Chip_fail.tiedCalls Try.func75 (by kernel_rfl) (by kernel_rfl) (by kernel_rfl) nand_Chip_fail.eq
theorem nand_Chip_Program.tiedCalls : CallsTied Try.prog nand_Chip_Program.calls [51, 72, 74, 73, 75] 0 := ⟨⟨_, rfl, nand_Chip_in.tied⟩, ⟨⟨_, rfl, nand_Chip_act.tied⟩, ⟨⟨_, rfl, nand_torn.tied⟩, ⟨⟨_, rfl, nand_Chip_lay.tied⟩, ⟨⟨_, rfl, nand_Chip_fail.tied⟩, (fun j hj => by first | rfl | (match j, hj with | j + 5, _ => rfl))⟩⟩⟩⟩⟩
theorem nand_Chip_Program.tied : Tied Try.prog nand_Chip_Program.c 47 := tie_full nand_Chip_Program.tiedCalls Try.func47 (by kernel_rfl) (by kernel_rfl) (by kernel_rfl) nand_Chip_Program.eq
theorem life_Life_set.tiedCalls : CallsTied Try.prog life_Life_set.calls [52] 0 := ⟨⟨_, rfl, life_Life_in.tied⟩, (fun j hj => by first | rfl | (match j, hj with | j + 1, _ => rfl))⟩
theorem life_Life_set.tied : Tied Try.prog life_Life_set.c 55 := tie_full life_Life_set.tiedCalls Try.func55 (by kernel_rfl) (by kernel_rfl) (by kernel_rfl) life_Life_set.eq
theorem life_Life_Bad.tiedCalls : CallsTied Try.prog life_Life_Bad.calls [55] 0 := ⟨⟨_, rfl, life_Life_set.tied⟩, (fun j hj => by first | rfl | (match j, hj with | j + 1, _ => rfl))⟩
theorem life_Life_Bad.tied : Tied Try.prog life_Life_Bad.c 76 := tie_full life_Life_Bad.tiedCalls Try.func76 (by kernel_rfl) (by kernel_rfl) (by kernel_rfl) life_Life_Bad.eq
theorem nand_Chip_Mark.tiedCalls : CallsTied Try.prog nand_Chip_Mark.calls [51, 72] 0 := ⟨⟨_, rfl, nand_Chip_in.tied⟩, ⟨⟨_, rfl, nand_Chip_act.tied⟩, (fun j hj => by first | rfl | (match j, hj with | j + 2, _ => rfl))⟩⟩
theorem nand_Chip_Mark.tied : Tied Try.prog nand_Chip_Mark.c 77 := tie_full nand_Chip_Mark.tiedCalls Try.func77 (by kernel_rfl) (by kernel_rfl) (by kernel_rfl) nand_Chip_Mark.eq
theorem write_Writer_spoil.tiedCalls : CallsTied Try.prog write_Writer_spoil.calls [76, 77] 0 := ⟨⟨_, rfl, life_Life_Bad.tied⟩, ⟨⟨_, rfl, nand_Chip_Mark.tied⟩, (fun j hj => by first | rfl | (match j, hj with | j + 2, _ => rfl))⟩⟩
theorem write_Writer_spoil.tied : Tied Try.prog write_Writer_spoil.c 48 := tie_full write_Writer_spoil.tiedCalls Try.func48 (by kernel_rfl) (by kernel_rfl) (by kernel_rfl) write_Writer_spoil.eq
theorem life_Life_Full.tiedCalls : CallsTied Try.prog life_Life_Full.calls [55] 0 := ⟨⟨_, rfl, life_Life_set.tied⟩, (fun j hj => by first | rfl | (match j, hj with | j + 1, _ => rfl))⟩
theorem life_Life_Full.tied : Tied Try.prog life_Life_Full.c 27 := tie_full life_Life_Full.tiedCalls Try.func27 (by kernel_rfl) (by kernel_rfl) (by kernel_rfl) life_Life_Full.eq
theorem write_Writer_Append.tiedCalls : CallsTied Try.prog write_Writer_Append.calls [21, 44, 45, 46, 47, 48, 27] 0 := ⟨⟨_, rfl, nand_Chip_Geometry.tied⟩, ⟨⟨_, rfl, page_Frame.tied⟩, ⟨⟨_, rfl, write_Writer_open.tied⟩, ⟨⟨_, rfl, life_Life_Take.tied⟩, ⟨⟨_, rfl, nand_Chip_Program.tied⟩, ⟨⟨_, rfl, write_Writer_spoil.tied⟩, ⟨⟨_, rfl, life_Life_Full.tied⟩, (fun j hj => by first | rfl | (match j, hj with | j + 7, _ => rfl))⟩⟩⟩⟩⟩⟩⟩
theorem write_Writer_Append.tied : Tied Try.prog write_Writer_Append.c 14 := tie_full write_Writer_Append.tiedCalls Try.func14 (by kernel_rfl) (by kernel_rfl) (by kernel_rfl) write_Writer_Append.eq
theorem ckpt_Write.tiedCalls : CallsTied Try.prog ckpt_Write.calls [35, 14] 0 := ⟨⟨_, rfl, group_Pack.tied⟩, ⟨⟨_, rfl, write_Writer_Append.tied⟩, (fun j hj => by first | rfl | (match j, hj with | j + 2, _ => rfl))⟩⟩
theorem ckpt_Write.tied : Tied Try.prog ckpt_Write.c 36 := tie_full ckpt_Write.tiedCalls Try.func36 (by kernel_rfl) (by kernel_rfl) (by kernel_rfl) ckpt_Write.eq
theorem nand_Chip_Read.tiedCalls : CallsTied Try.prog nand_Chip_Read.calls [51, 78] 0 := ⟨⟨_, rfl, nand_Chip_in.tied⟩, ⟨⟨_, rfl, nand_Chip_full.tied⟩, (fun j hj => by first | rfl | (match j, hj with | j + 2, _ => rfl))⟩⟩
theorem nand_Chip_Read.tied : Tied Try.prog nand_Chip_Read.c 49 := tie_full nand_Chip_Read.tiedCalls Try.func49 (by kernel_rfl) (by kernel_rfl) (by kernel_rfl) nand_Chip_Read.eq
theorem page_erased.tiedCalls : CallsTied Try.prog page_erased.calls [] 0 := (fun _ _ => rfl)
theorem page_erased.tied : Tied Try.prog page_erased.c 79 := tie_pure page_erased.tiedCalls Try.func79 (by kernel_rfl) (by kernel_rfl) (by kernel_rfl) (by kernel_rfl) (by kernel_rfl) page_erased.eq
theorem code_New.tiedCalls : CallsTied Try.prog code_New.calls [] 0 := (fun _ _ => rfl)
theorem code_New.tied : Tied Try.prog code_New.c 80 := tie_full code_New.tiedCalls Try.func80 (by kernel_rfl) (by kernel_rfl) (by kernel_rfl) code_New.eq
theorem code_Reader_Err.tiedCalls : CallsTied Try.prog code_Reader_Err.calls [] 0 := (fun _ _ => rfl)
theorem code_Reader_Err.tied : Tied Try.prog code_Reader_Err.c 102 := tie_full code_Reader_Err.tiedCalls Try.func102 (by kernel_rfl) (by kernel_rfl) (by kernel_rfl) code_Reader_Err.eq
theorem code_Reader_fail.tiedCalls : CallsTied Try.prog code_Reader_fail.calls [] 0 := (fun _ _ => rfl)
theorem code_Reader_fail.tied : Tied Try.prog code_Reader_fail.c 103 := tie_full code_Reader_fail.tiedCalls Try.func103 (by kernel_rfl) (by kernel_rfl) (by kernel_rfl) code_Reader_fail.eq
theorem code_Reader_Bytes.tiedCalls : CallsTied Try.prog code_Reader_Bytes.calls [102, 103] 0 := ⟨⟨_, rfl, code_Reader_Err.tied⟩, ⟨⟨_, rfl, code_Reader_fail.tied⟩, (fun j hj => by first | rfl | (match j, hj with | j + 2, _ => rfl))⟩⟩
theorem code_Reader_Bytes.tied : Tied Try.prog code_Reader_Bytes.c 95 := tie_full code_Reader_Bytes.tiedCalls Try.func95 (by kernel_rfl) (by kernel_rfl) (by kernel_rfl) code_Reader_Bytes.eq
theorem code_value.tiedCalls : CallsTied Try.prog code_value.calls [] 0 := (fun _ _ => rfl)
theorem code_value.tied : Tied Try.prog code_value.c 94 := tie_pure code_value.tiedCalls Try.func94 (by kernel_rfl) (by kernel_rfl) (by kernel_rfl) (by kernel_rfl) (by kernel_rfl) code_value.eq
theorem code_Reader_Fixed.tiedCalls : CallsTied Try.prog code_Reader_Fixed.calls [95, 94] 0 := ⟨⟨_, rfl, code_Reader_Bytes.tied⟩, ⟨⟨_, rfl, code_value.tied⟩, (fun j hj => by first | rfl | (match j, hj with | j + 2, _ => rfl))⟩⟩
theorem code_Reader_Fixed.tied : Tied Try.prog code_Reader_Fixed.c 81 := tie_full code_Reader_Fixed.tiedCalls Try.func81 (by kernel_rfl) (by kernel_rfl) (by kernel_rfl) code_Reader_Fixed.eq
theorem page_Look.tiedCalls : CallsTied Try.prog page_Look.calls [79, 80, 81, 65, 44] 0 := ⟨⟨_, rfl, page_erased.tied⟩, ⟨⟨_, rfl, code_New.tied⟩, ⟨⟨_, rfl, code_Reader_Fixed.tied⟩, ⟨⟨_, rfl, page_Check.tied⟩, ⟨⟨_, rfl, page_Frame.tied⟩, (fun j hj => by first | rfl | (match j, hj with | j + 5, _ => rfl))⟩⟩⟩⟩⟩
theorem page_Look.tied : Tied Try.prog page_Look.c 50 := tie_pure page_Look.tiedCalls Try.func50 (by kernel_rfl) (by kernel_rfl) (by kernel_rfl) (by kernel_rfl) (by kernel_rfl) page_Look.eq
theorem write_Writer_Read.tiedCalls : CallsTied Try.prog write_Writer_Read.calls [21, 49, 50] 0 := ⟨⟨_, rfl, nand_Chip_Geometry.tied⟩, ⟨⟨_, rfl, nand_Chip_Read.tied⟩, ⟨⟨_, rfl, page_Look.tied⟩, (fun j hj => by first | rfl | (match j, hj with | j + 3, _ => rfl))⟩⟩⟩
theorem write_Writer_Read.tied : Tied Try.prog write_Writer_Read.c 17 := tie_full write_Writer_Read.tiedCalls Try.func17 (by kernel_rfl) (by kernel_rfl) (by kernel_rfl) write_Writer_Read.eq
theorem law14_found.tiedCalls : CallsTied Try.prog law14_found.calls [17] 0 := ⟨⟨_, rfl, write_Writer_Read.tied⟩, (fun j hj => by first | rfl | (match j, hj with | j + 1, _ => rfl))⟩
theorem law14_found.tied : Tied Try.prog law14_found.c 41 := tie_full law14_found.tiedCalls Try.func41 (by kernel_rfl) (by kernel_rfl) (by kernel_rfl) law14_found.eq
theorem slices_Index_bool_bool.tiedCalls : CallsTied Try.prog slices_Index_bool_bool.calls [] 0 := (fun _ _ => rfl)
theorem slices_Index_bool_bool.tied : Tied Try.prog slices_Index_bool_bool.c 96 := tie_full slices_Index_bool_bool.tiedCalls Try.func96 (by kernel_rfl) (by kernel_rfl) (by kernel_rfl) slices_Index_bool_bool.eq
theorem slices_Contains_bool_bool.tiedCalls : CallsTied Try.prog slices_Contains_bool_bool.calls [96] 0 := ⟨⟨_, rfl, slices_Index_bool_bool.tied⟩, (fun j hj => by first | rfl | (match j, hj with | j + 1, _ => rfl))⟩
theorem slices_Contains_bool_bool.tied : Tied Try.prog slices_Contains_bool_bool.c 87 := tie_full slices_Contains_bool_bool.tiedCalls Try.func87 (by kernel_rfl) (by kernel_rfl) (by kernel_rfl) slices_Contains_bool_bool.eq
theorem ckpt_whole.tiedCalls : CallsTied Try.prog ckpt_whole.calls [87] 0 := ⟨⟨_, rfl, slices_Contains_bool_bool.tied⟩, (fun j hj => by first | rfl | (match j, hj with | j + 1, _ => rfl))⟩
theorem ckpt_whole.tied : Tied Try.prog ckpt_whole.c 60 := tie_full ckpt_whole.tiedCalls Try.func60 (by kernel_rfl) (by kernel_rfl) (by kernel_rfl) ckpt_whole.eq
theorem ckpt_Newest.tiedCalls : CallsTied Try.prog ckpt_Newest.calls [60] 0 := ⟨⟨_, rfl, ckpt_whole.tied⟩, (fun j hj => by first | rfl | (match j, hj with | j + 1, _ => rfl))⟩
theorem ckpt_Newest.tied : Tied Try.prog ckpt_Newest.c 38 := tie_full ckpt_Newest.tiedCalls Try.func38 (by kernel_rfl) (by kernel_rfl) (by kernel_rfl) ckpt_Newest.eq
theorem ckpt_Texts_1.tiedCalls : CallsTied Try.prog ckpt_Texts_1.calls [] 0 := (fun _ _ => rfl)
theorem ckpt_Texts_1.tied : Tied Try.prog ckpt_Texts_1.c 62 := tie_pure ckpt_Texts_1.tiedCalls Try.func62 (by kernel_rfl) (by kernel_rfl) (by kernel_rfl) (by kernel_rfl) (by kernel_rfl) ckpt_Texts_1.eq
theorem ckpt_each_api_Found_string_of_ckpt_Texts_1.tiedCalls : CallsTied Try.prog ckpt_each_api_Found_string_of_ckpt_Texts_1.calls [62] 0 := ⟨⟨_, rfl, ckpt_Texts_1.tied⟩, (fun j hj => by first | rfl | (match j, hj with | j + 1, _ => rfl))⟩
theorem ckpt_each_api_Found_string_of_ckpt_Texts_1.tied : Tied Try.prog ckpt_each_api_Found_string_of_ckpt_Texts_1.c 61 := tie_full ckpt_each_api_Found_string_of_ckpt_Texts_1.tiedCalls Try.func61 (by kernel_rfl) (by kernel_rfl) (by kernel_rfl) ckpt_each_api_Found_string_of_ckpt_Texts_1.eq
theorem ckpt_Texts.tiedCalls : CallsTied Try.prog ckpt_Texts.calls [61] 0 := ⟨⟨_, rfl, ckpt_each_api_Found_string_of_ckpt_Texts_1.tied⟩, (fun j hj => by first | rfl | (match j, hj with | j + 1, _ => rfl))⟩
theorem ckpt_Texts.tied : Tied Try.prog ckpt_Texts.c 39 := tie_full ckpt_Texts.tiedCalls Try.func39 (by kernel_rfl) (by kernel_rfl) (by kernel_rfl) ckpt_Texts.eq
theorem law14_awake.tiedCalls : CallsTied Try.prog law14_awake.calls [12, 36, 41, 38, 39] 0 := ⟨⟨_, rfl, law13_Begun.tied⟩, ⟨⟨_, rfl, ckpt_Write.tied⟩, ⟨⟨_, rfl, law14_found.tied⟩, ⟨⟨_, rfl, ckpt_Newest.tied⟩, ⟨⟨_, rfl, ckpt_Texts.tied⟩, (fun j hj => by first | rfl | (match j, hj with | j + 5, _ => rfl))⟩⟩⟩⟩⟩
theorem law14_awake.tied : Tied Try.prog law14_awake.c 33 := tie_pure law14_awake.tiedCalls Try.func33 (by kernel_rfl) (by kernel_rfl) (by kernel_rfl) (by kernel_rfl) (by kernel_rfl) law14_awake.eq
theorem ref07_row.tiedCalls : CallsTied Try.prog ref07_row.calls [] 0 := (fun _ _ => rfl)
theorem ref07_row.tied : Tied Try.prog ref07_row.c 83 := tie_full ref07_row.tiedCalls Try.func83 (by kernel_rfl) (by kernel_rfl) (by kernel_rfl) ref07_row.eq
theorem ref07_of.tiedCalls : CallsTied Try.prog ref07_of.calls [] 0 := (fun _ _ => rfl)
theorem ref07_of.tied : Tied Try.prog ref07_of.c 84 := tie_full ref07_of.tiedCalls Try.func84 (by kernel_rfl) (by kernel_rfl) (by kernel_rfl) ref07_of.eq
theorem ref07_Check.tiedCalls : CallsTied Try.prog ref07_Check.calls [83, 84] 0 := ⟨⟨_, rfl, ref07_row.tied⟩, ⟨⟨_, rfl, ref07_of.tied⟩, (fun j hj => by first | rfl | (match j, hj with | j + 2, _ => rfl))⟩⟩
theorem ref07_Check.tied : Tied Try.prog ref07_Check.c 58 := tie_pure ref07_Check.tiedCalls Try.func58 (by kernel_rfl) (by kernel_rfl) (by kernel_rfl) (by kernel_rfl) (by kernel_rfl) ref07_Check.eq
theorem law14_good.tiedCalls : CallsTied Try.prog law14_good.calls [58] 0 := ⟨⟨_, rfl, ref07_Check.tied⟩, (fun j hj => by first | rfl | (match j, hj with | j + 1, _ => rfl))⟩
theorem law14_good.tied : Tied Try.prog law14_good.c 34 := tie_full law14_good.tiedCalls Try.func34 (by kernel_rfl) (by kernel_rfl) (by kernel_rfl) law14_good.eq
theorem law14_CkptWrites.tiedCalls : CallsTied Try.prog law14_CkptWrites.calls [12, 33, 34, 21, 35, 36, 17] 0 := ⟨⟨_, rfl, law13_Begun.tied⟩, ⟨⟨_, rfl, law14_awake.tied⟩, ⟨⟨_, rfl, law14_good.tied⟩, ⟨⟨_, rfl, nand_Chip_Geometry.tied⟩, ⟨⟨_, rfl, group_Pack.tied⟩, ⟨⟨_, rfl, ckpt_Write.tied⟩, ⟨⟨_, rfl, write_Writer_Read.tied⟩, (fun j hj => by first | rfl | (match j, hj with | j + 7, _ => rfl))⟩⟩⟩⟩⟩⟩⟩
theorem law14_CkptWrites.tied : Tied Try.prog law14_CkptWrites.c 9 := tie_full law14_CkptWrites.tiedCalls Try.func9 (by kernel_rfl) (by kernel_rfl) (by kernel_rfl) law14_CkptWrites.eq
theorem law14_newest.tiedCalls : CallsTied Try.prog law14_newest.calls [] 0 := (fun _ _ => rfl)
theorem law14_newest.tied : Tied Try.prog law14_newest.c 37 := tie_full law14_newest.tiedCalls Try.func37 (by kernel_rfl) (by kernel_rfl) (by kernel_rfl) law14_newest.eq
theorem law14_CkptNewest.tiedCalls : CallsTied Try.prog law14_CkptNewest.calls [37, 38, 33, 39] 0 := ⟨⟨_, rfl, law14_newest.tied⟩, ⟨⟨_, rfl, ckpt_Newest.tied⟩, ⟨⟨_, rfl, law14_awake.tied⟩, ⟨⟨_, rfl, ckpt_Texts.tied⟩, (fun j hj => by first | rfl | (match j, hj with | j + 4, _ => rfl))⟩⟩⟩⟩
theorem law14_CkptNewest.tied : Tied Try.prog law14_CkptNewest.c 10 := tie_full law14_CkptNewest.tiedCalls Try.func10 (by kernel_rfl) (by kernel_rfl) (by kernel_rfl) law14_CkptNewest.eq
theorem nand_Chip_Arm.tiedCalls : CallsTied Try.prog nand_Chip_Arm.calls [63, 56] 0 := ⟨⟨_, rfl, slices_Clone_api_Cut_api_Cut.tied⟩, ⟨⟨_, rfl, slices_Clone_int_int.tied⟩, (fun j hj => by first | rfl | (match j, hj with | j + 2, _ => rfl))⟩⟩
theorem nand_Chip_Arm.tied : Tied Try.prog nand_Chip_Arm.c 40 := tie_full nand_Chip_Arm.tiedCalls Try.func40 (by kernel_rfl) (by kernel_rfl) (by kernel_rfl) nand_Chip_Arm.eq
theorem nand_Chip_Power.tiedCalls : CallsTied Try.prog nand_Chip_Power.calls [] 0 := (fun _ _ => rfl)
theorem nand_Chip_Power.tied : Tied Try.prog nand_Chip_Power.c 16 := tie_full nand_Chip_Power.tiedCalls Try.func16 (by kernel_rfl) (by kernel_rfl) (by kernel_rfl) nand_Chip_Power.eq
theorem law14_CkptCut.tiedCalls : CallsTied Try.prog law14_CkptCut.calls [12, 33, 21, 34, 35, 36, 40, 16, 41, 38] 0 := ⟨⟨_, rfl, law13_Begun.tied⟩, ⟨⟨_, rfl, law14_awake.tied⟩, ⟨⟨_, rfl, nand_Chip_Geometry.tied⟩, ⟨⟨_, rfl, law14_good.tied⟩, ⟨⟨_, rfl, group_Pack.tied⟩, ⟨⟨_, rfl, ckpt_Write.tied⟩, ⟨⟨_, rfl, nand_Chip_Arm.tied⟩, ⟨⟨_, rfl, nand_Chip_Power.tied⟩, ⟨⟨_, rfl, law14_found.tied⟩, ⟨⟨_, rfl, ckpt_Newest.tied⟩, (fun j hj => by first | rfl | (match j, hj with | j + 10, _ => rfl))⟩⟩⟩⟩⟩⟩⟩⟩⟩⟩
theorem law14_CkptCut.tied : Tied Try.prog law14_CkptCut.c 11 := tie_full law14_CkptCut.tiedCalls Try.func11 (by kernel_rfl) (by kernel_rfl) (by kernel_rfl) law14_CkptCut.eq
end Ev
