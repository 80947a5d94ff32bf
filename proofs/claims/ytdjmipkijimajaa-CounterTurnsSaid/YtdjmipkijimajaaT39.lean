/- The functions are those of the program: the kernel checks the code, one by one. Written by gen2.py. -/
import Derived.Test.YtdjmipkijimajaaEvTie
import Derived.Test.YtdjmipkijimajaaGLaw05
import Derived.Test.YtdjmipkijimajaaGSlices
import Derived.Test.YtdjmipkijimajaaGNand
import Derived.Test.YtdjmipkijimajaaGCode
import Derived.Test.YtdjmipkijimajaaGCrc
import Derived.Test.YtdjmipkijimajaaGPage
import Derived.Test.YtdjmipkijimajaaGCounter
import Derived.Test.YtdjmipkijimajaaGLaw39
import Derived.Test.YtdjmipkijimajaaSh
import Derived.Test.YtdjmipkijimajaaProg
import Derived.KernelRfl
set_option maxRecDepth 100000
namespace Ev
open Go Go.Proofs
theorem law05_Geometry.tiedCalls : CallsTied Try.prog law05_Geometry.calls [] 0 := (fun _ _ => rfl)
theorem law05_Geometry.tied : Tied Try.prog law05_Geometry.c 39 := tie_full law05_Geometry.tiedCalls Try.func39 (by kernel_rfl) (by kernel_rfl) (by kernel_rfl) law05_Geometry.eq
theorem nand_Check.tiedCalls : CallsTied Try.prog nand_Check.calls [] 0 := (fun _ _ => rfl)
theorem nand_Check.tied : Tied Try.prog nand_Check.c 43 := tie_pure nand_Check.tiedCalls Try.func43 (by kernel_rfl) (by kernel_rfl) (by kernel_rfl) (by kernel_rfl) (by kernel_rfl) nand_Check.eq
theorem slices_Clone_api_Cut_api_Cut.tiedCalls : CallsTied Try.prog slices_Clone_api_Cut_api_Cut.calls [] 0 := (fun _ _ => rfl)
theorem slices_Clone_api_Cut_api_Cut.tied : Tied Try.prog slices_Clone_api_Cut_api_Cut.c 44 := tie_full slices_Clone_api_Cut_api_Cut.tiedCalls Try.func44 (by kernel_rfl) (by kernel_rfl) (by kernel_rfl) slices_Clone_api_Cut_api_Cut.eq
theorem slices_Clone_int_int.tiedCalls : CallsTied Try.prog slices_Clone_int_int.calls [] 0 := (fun _ _ => rfl)
theorem slices_Clone_int_int.tied : Tied Try.prog slices_Clone_int_int.c 45 := tie_full slices_Clone_int_int.tiedCalls Try.func45 (by kernel_rfl) (by kernel_rfl) (by kernel_rfl) slices_Clone_int_int.eq
theorem slices_Index_int_int.tiedCalls : CallsTied Try.prog slices_Index_int_int.calls [] 0 := (fun _ _ => rfl)
theorem slices_Index_int_int.tied : Tied Try.prog slices_Index_int_int.c 65 := tie_full slices_Index_int_int.tiedCalls Try.func65 (by kernel_rfl) (by kernel_rfl) (by kernel_rfl) slices_Index_int_int.eq
theorem slices_Contains_int_int.tiedCalls : CallsTied Try.prog slices_Contains_int_int.calls [65] 0 := ⟨⟨_, rfl, slices_Index_int_int.tied⟩, (fun j hj => by first | rfl | (match j, hj with | j + 1, _ => rfl))⟩
theorem slices_Contains_int_int.tied : Tied Try.prog slices_Contains_int_int.c 46 := tie_full slices_Contains_int_int.tiedCalls Try.func46 (by kernel_rfl) (by kernel_rfl) (by kernel_rfl) slices_Contains_int_int.eq
theorem nand_New.tiedCalls : CallsTied Try.prog nand_New.calls [43, 44, 45, 46] 0 := ⟨⟨_, rfl, nand_Check.tied⟩, ⟨⟨_, rfl, slices_Clone_api_Cut_api_Cut.tied⟩, ⟨⟨_, rfl, slices_Clone_int_int.tied⟩, ⟨⟨_, rfl, slices_Contains_int_int.tied⟩, (fun j hj => by first | rfl | (match j, hj with | j + 4, _ => rfl))⟩⟩⟩⟩
theorem nand_New.tied : Tied Try.prog nand_New.c 18 := tie_full nand_New.tiedCalls Try.func18 (by kernel_rfl) (by kernel_rfl) (by kernel_rfl) nand_New.eq
theorem nand_Chip_Geometry.tiedCalls : CallsTied Try.prog nand_Chip_Geometry.calls [] 0 := (fun _ _ => rfl)
theorem nand_Chip_Geometry.tied : Tied Try.prog nand_Chip_Geometry.c 22 := tie_full nand_Chip_Geometry.tiedCalls Try.func22 (by kernel_rfl) (by kernel_rfl) (by kernel_rfl) nand_Chip_Geometry.eq
theorem nand_Chip_in.tiedCalls : CallsTied Try.prog nand_Chip_in.calls [] 0 := (fun _ _ => rfl)
theorem nand_Chip_in.tied : Tied Try.prog nand_Chip_in.c 69 := tie_full nand_Chip_in.tiedCalls Try.func69 (by kernel_rfl) (by kernel_rfl) (by kernel_rfl) nand_Chip_in.eq
theorem nand_Chip_full.tiedCalls : CallsTied Try.prog nand_Chip_full.calls [58] 0 := ⟨⟨_, rfl, strings_Repeat.tied⟩, (fun j hj => by first | rfl | (match j, hj with | j + 1, _ => rfl))⟩
theorem nand_Chip_full.tied : Tied Try.prog nand_Chip_full.c 82 := tie_full nand_Chip_full.tiedCalls Try.func82 (by kernel_rfl) (by kernel_rfl) (by kernel_rfl) nand_Chip_full.eq
theorem nand_Chip_Read.tiedCalls : CallsTied Try.prog nand_Chip_Read.calls [69, 82] 0 := ⟨⟨_, rfl, nand_Chip_in.tied⟩, ⟨⟨_, rfl, nand_Chip_full.tied⟩, (fun j hj => by first | rfl | (match j, hj with | j + 2, _ => rfl))⟩⟩
theorem nand_Chip_Read.tied : Tied Try.prog nand_Chip_Read.c 63 := tie_full nand_Chip_Read.tiedCalls Try.func63 (by kernel_rfl) (by kernel_rfl) (by kernel_rfl) nand_Chip_Read.eq
theorem page_erased.tiedCalls : CallsTied Try.prog page_erased.calls [] 0 := (fun _ _ => rfl)
theorem page_erased.tied : Tied Try.prog page_erased.c 83 := tie_pure page_erased.tiedCalls Try.func83 (by kernel_rfl) (by kernel_rfl) (by kernel_rfl) (by kernel_rfl) (by kernel_rfl) page_erased.eq
theorem code_New.tiedCalls : CallsTied Try.prog code_New.calls [] 0 := (fun _ _ => rfl)
theorem code_New.tied : Tied Try.prog code_New.c 84 := tie_full code_New.tiedCalls Try.func84 (by kernel_rfl) (by kernel_rfl) (by kernel_rfl) code_New.eq
theorem code_Reader_Err.tiedCalls : CallsTied Try.prog code_Reader_Err.calls [] 0 := (fun _ _ => rfl)
theorem code_Reader_Err.tied : Tied Try.prog code_Reader_Err.c 101 := tie_full code_Reader_Err.tiedCalls Try.func101 (by kernel_rfl) (by kernel_rfl) (by kernel_rfl) code_Reader_Err.eq
theorem code_Reader_fail.tiedCalls : CallsTied Try.prog code_Reader_fail.calls [] 0 := (fun _ _ => rfl)
theorem code_Reader_fail.tied : Tied Try.prog code_Reader_fail.c 102 := tie_full code_Reader_fail.tiedCalls Try.func102 (by kernel_rfl) (by kernel_rfl) (by kernel_rfl) code_Reader_fail.eq
theorem code_Reader_Bytes.tiedCalls : CallsTied Try.prog code_Reader_Bytes.calls [101, 102] 0 := ⟨⟨_, rfl, code_Reader_Err.tied⟩, ⟨⟨_, rfl, code_Reader_fail.tied⟩, (fun j hj => by first | rfl | (match j, hj with | j + 2, _ => rfl))⟩⟩
theorem code_Reader_Bytes.tied : Tied Try.prog code_Reader_Bytes.c 98 := tie_full code_Reader_Bytes.tiedCalls Try.func98 (by kernel_rfl) (by kernel_rfl) (by kernel_rfl) code_Reader_Bytes.eq
theorem code_value.tiedCalls : CallsTied Try.prog code_value.calls [] 0 := (fun _ _ => rfl)
theorem code_value.tied : Tied Try.prog code_value.c 97 := tie_pure code_value.tiedCalls Try.func97 (by kernel_rfl) (by kernel_rfl) (by kernel_rfl) (by kernel_rfl) (by kernel_rfl) code_value.eq
theorem code_Reader_Fixed.tiedCalls : CallsTied Try.prog code_Reader_Fixed.calls [98, 97] 0 := ⟨⟨_, rfl, code_Reader_Bytes.tied⟩, ⟨⟨_, rfl, code_value.tied⟩, (fun j hj => by first | rfl | (match j, hj with | j + 2, _ => rfl))⟩⟩
theorem code_Reader_Fixed.tied : Tied Try.prog code_Reader_Fixed.c 85 := tie_full code_Reader_Fixed.tiedCalls Try.func85 (by kernel_rfl) (by kernel_rfl) (by kernel_rfl) code_Reader_Fixed.eq
theorem page_Check.tiedCalls : CallsTied Try.prog page_Check.calls [] 0 := (fun _ _ => rfl)
theorem page_Check.tied : Tied Try.prog page_Check.c 86 := tie_pure page_Check.tiedCalls Try.func86 (by kernel_rfl) (by kernel_rfl) (by kernel_rfl) (by kernel_rfl) (by kernel_rfl) page_Check.eq
theorem code_Fixed.tiedCalls : CallsTied Try.prog code_Fixed.calls [] 0 := (fun _ _ => rfl)
theorem code_Fixed.tied : Tied Try.prog code_Fixed.c 57 := tie_pure code_Fixed.tiedCalls Try.func57 (by kernel_rfl) (by kernel_rfl) (by kernel_rfl) (by kernel_rfl) (by kernel_rfl) code_Fixed.eq
theorem crc_More.tiedCalls : CallsTied Try.prog crc_More.calls [] 0 := (fun _ _ => rfl)
theorem crc_More.tied : Tied Try.prog crc_More.c 78 := tie_pure crc_More.tiedCalls Try.func78 (by kernel_rfl) (by kernel_rfl) (by kernel_rfl) (by kernel_rfl) (by kernel_rfl) crc_More.eq
theorem crc_Sum.tiedCalls : CallsTied Try.prog crc_Sum.calls [78] 0 := ⟨⟨_, rfl, crc_More.tied⟩, (fun j hj => by first | rfl | (match j, hj with | j + 1, _ => rfl))⟩
theorem crc_Sum.tied : Tied Try.prog crc_Sum.c 59 := tie_pure crc_Sum.tiedCalls Try.func59 (by kernel_rfl) (by kernel_rfl) (by kernel_rfl) (by kernel_rfl) (by kernel_rfl) crc_Sum.eq
theorem page_Frame.tiedCalls : CallsTied Try.prog page_Frame.calls [86, 58, 57, 59, 78] 0 := ⟨⟨_, rfl, page_Check.tied⟩, ⟨⟨_, rfl, strings_Repeat.tied⟩, ⟨⟨_, rfl, code_Fixed.tied⟩, ⟨⟨_, rfl, crc_Sum.tied⟩, ⟨⟨_, rfl, crc_More.tied⟩, (fun j hj => by first | rfl | (match j, hj with | j + 5, _ => rfl))⟩⟩⟩⟩⟩
theorem page_Frame.tied : Tied Try.prog page_Frame.c 79 := tie_pure page_Frame.tiedCalls Try.func79 (by kernel_rfl) (by kernel_rfl) (by kernel_rfl) (by kernel_rfl) (by kernel_rfl) page_Frame.eq
theorem page_Look.tiedCalls : CallsTied Try.prog page_Look.calls [83, 84, 85, 86, 79] 0 := ⟨⟨_, rfl, page_erased.tied⟩, ⟨⟨_, rfl, code_New.tied⟩, ⟨⟨_, rfl, code_Reader_Fixed.tied⟩, ⟨⟨_, rfl, page_Check.tied⟩, ⟨⟨_, rfl, page_Frame.tied⟩, (fun j hj => by first | rfl | (match j, hj with | j + 5, _ => rfl))⟩⟩⟩⟩⟩
theorem page_Look.tied : Tied Try.prog page_Look.c 64 := tie_pure page_Look.tiedCalls Try.func64 (by kernel_rfl) (by kernel_rfl) (by kernel_rfl) (by kernel_rfl) (by kernel_rfl) page_Look.eq
theorem counter_look.tiedCalls : CallsTied Try.prog counter_look.calls [22, 63, 64] 0 := ⟨⟨_, rfl, nand_Chip_Geometry.tied⟩, ⟨⟨_, rfl, nand_Chip_Read.tied⟩, ⟨⟨_, rfl, page_Look.tied⟩, (fun j hj => by first | rfl | (match j, hj with | j + 3, _ => rfl))⟩⟩⟩
theorem counter_look.tied : Tied Try.prog counter_look.c 42 := tie_full counter_look.tiedCalls Try.func42 (by kernel_rfl) (by kernel_rfl) (by kernel_rfl) counter_look.eq
theorem counter_Open.tiedCalls : CallsTied Try.prog counter_Open.calls [22, 42] 0 := ⟨⟨_, rfl, nand_Chip_Geometry.tied⟩, ⟨⟨_, rfl, counter_look.tied⟩, (fun j hj => by first | rfl | (match j, hj with | j + 2, _ => rfl))⟩⟩
theorem counter_Open.tied : Tied Try.prog counter_Open.c 17 := tie_full counter_Open.tiedCalls Try.func17 (by kernel_rfl) (by kernel_rfl) (by kernel_rfl) counter_Open.eq
theorem law39_begun.tiedCalls : CallsTied Try.prog law39_begun.calls [39, 18, 17] 0 := ⟨⟨_, rfl, law05_Geometry.tied⟩, ⟨⟨_, rfl, nand_New.tied⟩, ⟨⟨_, rfl, counter_Open.tied⟩, (fun j hj => by first | rfl | (match j, hj with | j + 3, _ => rfl))⟩⟩⟩
theorem law39_begun.tied : Tied Try.prog law39_begun.c 13 := tie_full law39_begun.tiedCalls Try.func13 (by kernel_rfl) (by kernel_rfl) (by kernel_rfl) law39_begun.eq
theorem counter_Counter_Value.tiedCalls : CallsTied Try.prog counter_Counter_Value.calls [] 0 := (fun _ _ => rfl)
theorem counter_Counter_Value.tied : Tied Try.prog counter_Counter_Value.c 16 := tie_full counter_Counter_Value.tiedCalls Try.func16 (by kernel_rfl) (by kernel_rfl) (by kernel_rfl) counter_Counter_Value.eq
theorem nand_Chip_Off.tiedCalls : CallsTied Try.prog nand_Chip_Off.calls [] 0 := (fun _ _ => rfl)
theorem nand_Chip_Off.tied : Tied Try.prog nand_Chip_Off.c 40 := tie_full nand_Chip_Off.tiedCalls Try.func40 (by kernel_rfl) (by kernel_rfl) (by kernel_rfl) nand_Chip_Off.eq
theorem nand_Chip_act.tiedCalls : CallsTied Try.prog nand_Chip_act.calls [] 0 := (fun _ _ => rfl)
theorem nand_Chip_act.tied : Tied Try.prog nand_Chip_act.c 70 := tie_full nand_Chip_act.tiedCalls Try.func70 (by kernel_rfl) (by kernel_rfl) (by kernel_rfl) nand_Chip_act.eq
theorem nand_torn.tiedCalls : CallsTied Try.prog nand_torn.calls [58] 0 := ⟨⟨_, rfl, strings_Repeat.tied⟩, (fun j hj => by first | rfl | (match j, hj with | j + 1, _ => rfl))⟩
theorem nand_torn.tied : Tied Try.prog nand_torn.c 95 := tie_pure nand_torn.tiedCalls Try.func95 (by kernel_rfl) (by kernel_rfl) (by kernel_rfl) (by kernel_rfl) (by kernel_rfl) nand_torn.eq
theorem nand_Chip_lay.tiedCalls : CallsTied Try.prog nand_Chip_lay.calls [82] 0 := ⟨⟨_, rfl, nand_Chip_full.tied⟩, (fun j hj => by first | rfl | (match j, hj with | j + 1, _ => rfl))⟩
theorem nand_Chip_lay.tied : Tied Try.prog nand_Chip_lay.c 94 := tie_full nand_Chip_lay.tiedCalls Try.func94 (by kernel_rfl) (by kernel_rfl) (by kernel_rfl) nand_Chip_lay.eq
theorem nand_Chip_fail.tiedCalls : CallsTied Try.prog nand_Chip_fail.calls [46] 0 := ⟨⟨_, rfl, slices_Contains_int_int.tied⟩, (fun j hj => by first | rfl | (match j, hj with | j + 1, _ => rfl))⟩
theorem nand_Chip_fail.tied : Tied Try.prog nand_Chip_fail.c 96 := tie_full nand_Chip_fail.tiedCalls Try.func96 (by kernel_rfl) (by kernel_rfl) (by kernel_rfl) nand_Chip_fail.eq
theorem nand_Chip_Program.tiedCalls : CallsTied Try.prog nand_Chip_Program.calls [69, 70, 95, 94, 96] 0 := ⟨⟨_, rfl, nand_Chip_in.tied⟩, ⟨⟨_, rfl, nand_Chip_act.tied⟩, ⟨⟨_, rfl, nand_torn.tied⟩, ⟨⟨_, rfl, nand_Chip_lay.tied⟩, ⟨⟨_, rfl, nand_Chip_fail.tied⟩, (fun j hj => by first | rfl | (match j, hj with | j + 5, _ => rfl))⟩⟩⟩⟩⟩
theorem nand_Chip_Program.tied : Tied Try.prog nand_Chip_Program.c 80 := tie_full nand_Chip_Program.tiedCalls Try.func80 (by kernel_rfl) (by kernel_rfl) (by kernel_rfl) nand_Chip_Program.eq
theorem counter_Counter_write.tiedCalls : CallsTied Try.prog counter_Counter_write.calls [22, 79, 80] 0 := ⟨⟨_, rfl, nand_Chip_Geometry.tied⟩, ⟨⟨_, rfl, page_Frame.tied⟩, ⟨⟨_, rfl, nand_Chip_Program.tied⟩, (fun j hj => by first | rfl | (match j, hj with | j + 3, _ => rfl))⟩⟩⟩
theorem counter_Counter_write.tied : Tied Try.prog counter_Counter_write.c 61 := tie_full counter_Counter_write.tiedCalls Try.func61 (by kernel_rfl) (by kernel_rfl) (by kernel_rfl) counter_Counter_write.eq
theorem nand_Chip_Erase.tiedCalls : CallsTied Try.prog nand_Chip_Erase.calls [69, 70, 82, 95, 94, 96] 0 := ⟨⟨_, rfl, nand_Chip_in.tied⟩, ⟨⟨_, rfl, nand_Chip_act.tied⟩, ⟨⟨_, rfl, nand_Chip_full.tied⟩, ⟨⟨_, rfl, nand_torn.tied⟩, ⟨⟨_, rfl, nand_Chip_lay.tied⟩, ⟨⟨_, rfl, nand_Chip_fail.tied⟩, (fun j hj => by first | rfl | (match j, hj with | j + 6, _ => rfl))⟩⟩⟩⟩⟩⟩
theorem nand_Chip_Erase.tied : Tied Try.prog nand_Chip_Erase.c 81 := tie_full nand_Chip_Erase.tiedCalls Try.func81 (by kernel_rfl) (by kernel_rfl) (by kernel_rfl) nand_Chip_Erase.eq
theorem counter_Counter_over.tiedCalls : CallsTied Try.prog counter_Counter_over.calls [81, 61] 0 := ⟨⟨_, rfl, nand_Chip_Erase.tied⟩, ⟨⟨_, rfl, counter_Counter_write.tied⟩, (fun j hj => by first | rfl | (match j, hj with | j + 2, _ => rfl))⟩⟩
theorem counter_Counter_over.tied : Tied Try.prog counter_Counter_over.c 62 := tie_full counter_Counter_over.tiedCalls Try.func62 (by kernel_rfl) (by kernel_rfl) (by kernel_rfl) counter_Counter_over.eq
theorem counter_Counter_raise.tiedCalls : CallsTied Try.prog counter_Counter_raise.calls [22, 61, 62] 0 := ⟨⟨_, rfl, nand_Chip_Geometry.tied⟩, ⟨⟨_, rfl, counter_Counter_write.tied⟩, ⟨⟨_, rfl, counter_Counter_over.tied⟩, (fun j hj => by first | rfl | (match j, hj with | j + 3, _ => rfl))⟩⟩⟩
theorem counter_Counter_raise.tied : Tied Try.prog counter_Counter_raise.c 41 := tie_full counter_Counter_raise.tiedCalls Try.func41 (by kernel_rfl) (by kernel_rfl) (by kernel_rfl) counter_Counter_raise.eq
theorem counter_Counter_Raise.tiedCalls : CallsTied Try.prog counter_Counter_Raise.calls [40, 41] 0 := ⟨⟨_, rfl, nand_Chip_Off.tied⟩, ⟨⟨_, rfl, counter_Counter_raise.tied⟩, (fun j hj => by first | rfl | (match j, hj with | j + 2, _ => rfl))⟩⟩
theorem counter_Counter_Raise.tied : Tied Try.prog counter_Counter_Raise.c 15 := tie_full counter_Counter_Raise.tiedCalls Try.func15 (by kernel_rfl) (by kernel_rfl) (by kernel_rfl) counter_Counter_Raise.eq
theorem counter_Counter_Step.tiedCalls : CallsTied Try.prog counter_Counter_Step.calls [15] 0 := ⟨⟨_, rfl, counter_Counter_Raise.tied⟩, (fun j hj => by first | rfl | (match j, hj with | j + 1, _ => rfl))⟩
theorem counter_Counter_Step.tied : Tied Try.prog counter_Counter_Step.c 19 := tie_full counter_Counter_Step.tiedCalls Try.func19 (by kernel_rfl) (by kernel_rfl) (by kernel_rfl) counter_Counter_Step.eq
theorem law39_awake.tiedCalls : CallsTied Try.prog law39_awake.calls [13, 16, 15, 19, 17] 0 := ⟨⟨_, rfl, law39_begun.tied⟩, ⟨⟨_, rfl, counter_Counter_Value.tied⟩, ⟨⟨_, rfl, counter_Counter_Raise.tied⟩, ⟨⟨_, rfl, counter_Counter_Step.tied⟩, ⟨⟨_, rfl, counter_Open.tied⟩, (fun j hj => by first | rfl | (match j, hj with | j + 5, _ => rfl))⟩⟩⟩⟩⟩
theorem law39_awake.tied : Tied Try.prog law39_awake.c 14 := tie_pure law39_awake.tiedCalls Try.func14 (by kernel_rfl) (by kernel_rfl) (by kernel_rfl) (by kernel_rfl) (by kernel_rfl) law39_awake.eq
theorem law39_CounterRises.tiedCalls : CallsTied Try.prog law39_CounterRises.calls [13, 14, 15, 16, 17] 0 := ⟨⟨_, rfl, law39_begun.tied⟩, ⟨⟨_, rfl, law39_awake.tied⟩, ⟨⟨_, rfl, counter_Counter_Raise.tied⟩, ⟨⟨_, rfl, counter_Counter_Value.tied⟩, ⟨⟨_, rfl, counter_Open.tied⟩, (fun j hj => by first | rfl | (match j, hj with | j + 5, _ => rfl))⟩⟩⟩⟩⟩
theorem law39_CounterRises.tied : Tied Try.prog law39_CounterRises.c 3 := tie_full law39_CounterRises.tiedCalls Try.func3 (by kernel_rfl) (by kernel_rfl) (by kernel_rfl) law39_CounterRises.eq
theorem law39_CounterNone.tiedCalls : CallsTied Try.prog law39_CounterNone.calls [18, 17, 14, 16, 15, 19] 0 := ⟨⟨_, rfl, nand_New.tied⟩, ⟨⟨_, rfl, counter_Open.tied⟩, ⟨⟨_, rfl, law39_awake.tied⟩, ⟨⟨_, rfl, counter_Counter_Value.tied⟩, ⟨⟨_, rfl, counter_Counter_Raise.tied⟩, ⟨⟨_, rfl, counter_Counter_Step.tied⟩, (fun j hj => by first | rfl | (match j, hj with | j + 6, _ => rfl))⟩⟩⟩⟩⟩⟩
theorem law39_CounterNone.tied : Tied Try.prog law39_CounterNone.c 4 := tie_pure law39_CounterNone.tiedCalls Try.func4 (by kernel_rfl) (by kernel_rfl) (by kernel_rfl) (by kernel_rfl) (by kernel_rfl) law39_CounterNone.eq
theorem nand_Chip_Power.tiedCalls : CallsTied Try.prog nand_Chip_Power.calls [] 0 := (fun _ _ => rfl)
theorem nand_Chip_Power.tied : Tied Try.prog nand_Chip_Power.c 20 := tie_full nand_Chip_Power.tiedCalls Try.func20 (by kernel_rfl) (by kernel_rfl) (by kernel_rfl) nand_Chip_Power.eq
theorem law39_CounterCuts.tiedCalls : CallsTied Try.prog law39_CounterCuts.calls [13, 14, 19, 16, 20, 17] 0 := ⟨⟨_, rfl, law39_begun.tied⟩, ⟨⟨_, rfl, law39_awake.tied⟩, ⟨⟨_, rfl, counter_Counter_Step.tied⟩, ⟨⟨_, rfl, counter_Counter_Value.tied⟩, ⟨⟨_, rfl, nand_Chip_Power.tied⟩, ⟨⟨_, rfl, counter_Open.tied⟩, (fun j hj => by first | rfl | (match j, hj with | j + 6, _ => rfl))⟩⟩⟩⟩⟩⟩
theorem law39_CounterCuts.tied : Tied Try.prog law39_CounterCuts.c 5 := tie_full law39_CounterCuts.tiedCalls Try.func5 (by kernel_rfl) (by kernel_rfl) (by kernel_rfl) law39_CounterCuts.eq
theorem nand_Chip_Worn.tiedCalls : CallsTied Try.prog nand_Chip_Worn.calls [] 0 := (fun _ _ => rfl)
theorem nand_Chip_Worn.tied : Tied Try.prog nand_Chip_Worn.c 21 := tie_full nand_Chip_Worn.tiedCalls Try.func21 (by kernel_rfl) (by kernel_rfl) (by kernel_rfl) nand_Chip_Worn.eq
theorem law39_CounterTurns.tiedCalls : CallsTied Try.prog law39_CounterTurns.calls [13, 14, 19, 16, 21, 22] 0 := ⟨⟨_, rfl, law39_begun.tied⟩, ⟨⟨_, rfl, law39_awake.tied⟩, ⟨⟨_, rfl, counter_Counter_Step.tied⟩, ⟨⟨_, rfl, counter_Counter_Value.tied⟩, ⟨⟨_, rfl, nand_Chip_Worn.tied⟩, ⟨⟨_, rfl, nand_Chip_Geometry.tied⟩, (fun j hj => by first | rfl | (match j, hj with | j + 6, _ => rfl))⟩⟩⟩⟩⟩⟩
theorem law39_CounterTurns.tied : Tied Try.prog law39_CounterTurns.c 6 := tie_pure law39_CounterTurns.tiedCalls Try.func6 (by kernel_rfl) (by kernel_rfl) (by kernel_rfl) (by kernel_rfl) (by kernel_rfl) law39_CounterTurns.eq
end Ev
