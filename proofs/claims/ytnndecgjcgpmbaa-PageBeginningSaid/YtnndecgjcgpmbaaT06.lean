/- The functions are those of the program: the kernel checks the code, one by one. Written by gen2.py. -/
import Derived.Test.YtnndecgjcgpmbaaEvTie
import Derived.Test.YtnndecgjcgpmbaaGCode
import Derived.Test.YtnndecgjcgpmbaaGCrc
import Derived.Test.YtnndecgjcgpmbaaGPage
import Derived.Test.YtnndecgjcgpmbaaGRef01
import Derived.Test.YtnndecgjcgpmbaaGRef04
import Derived.Test.YtnndecgjcgpmbaaGRef06
import Derived.Test.YtnndecgjcgpmbaaGLaw06
import Derived.Test.YtnndecgjcgpmbaaSh
import Derived.Test.YtnndecgjcgpmbaaProg
import Derived.KernelRfl
set_option maxRecDepth 100000
namespace Ev
open Go Go.Proofs
theorem law06_few.tiedCalls : CallsTied Try.prog law06_few.calls [] 0 := (fun _ _ => rfl)
theorem law06_few.tied : Tied Try.prog law06_few.c 26 := tie_pure law06_few.tiedCalls Try.func26 (by kernel_rfl) (by kernel_rfl) (by kernel_rfl) (by kernel_rfl) (by kernel_rfl) law06_few.eq
theorem page_Check.tiedCalls : CallsTied Try.prog page_Check.calls [] 0 := (fun _ _ => rfl)
theorem page_Check.tied : Tied Try.prog page_Check.c 30 := tie_pure page_Check.tiedCalls Try.func30 (by kernel_rfl) (by kernel_rfl) (by kernel_rfl) (by kernel_rfl) (by kernel_rfl) page_Check.eq
theorem code_Fixed.tiedCalls : CallsTied Try.prog code_Fixed.calls [] 0 := (fun _ _ => rfl)
theorem code_Fixed.tied : Tied Try.prog code_Fixed.c 54 := tie_pure code_Fixed.tiedCalls Try.func54 (by kernel_rfl) (by kernel_rfl) (by kernel_rfl) (by kernel_rfl) (by kernel_rfl) code_Fixed.eq
theorem crc_More.tiedCalls : CallsTied Try.prog crc_More.calls [] 0 := (fun _ _ => rfl)
theorem crc_More.tied : Tied Try.prog crc_More.c 55 := tie_pure crc_More.tiedCalls Try.func55 (by kernel_rfl) (by kernel_rfl) (by kernel_rfl) (by kernel_rfl) (by kernel_rfl) crc_More.eq
theorem crc_Sum.tiedCalls : CallsTied Try.prog crc_Sum.calls [55] 0 := ⟨⟨_, rfl, crc_More.tied⟩, (fun j hj => by first | rfl | (match j, hj with | j + 1, _ => rfl))⟩
theorem crc_Sum.tied : Tied Try.prog crc_Sum.c 56 := tie_pure crc_Sum.tiedCalls Try.func56 (by kernel_rfl) (by kernel_rfl) (by kernel_rfl) (by kernel_rfl) (by kernel_rfl) crc_Sum.eq
theorem page_Frame.tiedCalls : CallsTied Try.prog page_Frame.calls [30, 53, 54, 56, 55] 0 := ⟨⟨_, rfl, page_Check.tied⟩, ⟨⟨_, rfl, strings_Repeat.tied⟩, ⟨⟨_, rfl, code_Fixed.tied⟩, ⟨⟨_, rfl, crc_Sum.tied⟩, ⟨⟨_, rfl, crc_More.tied⟩, (fun j hj => by first | rfl | (match j, hj with | j + 5, _ => rfl))⟩⟩⟩⟩⟩
theorem page_Frame.tied : Tied Try.prog page_Frame.c 27 := tie_pure page_Frame.tiedCalls Try.func27 (by kernel_rfl) (by kernel_rfl) (by kernel_rfl) (by kernel_rfl) (by kernel_rfl) page_Frame.eq
theorem ref06_Check.tiedCalls : CallsTied Try.prog ref06_Check.calls [] 0 := (fun _ _ => rfl)
theorem ref06_Check.tied : Tied Try.prog ref06_Check.c 28 := tie_pure ref06_Check.tiedCalls Try.func28 (by kernel_rfl) (by kernel_rfl) (by kernel_rfl) (by kernel_rfl) (by kernel_rfl) ref06_Check.eq
theorem page_erased.tiedCalls : CallsTied Try.prog page_erased.calls [] 0 := (fun _ _ => rfl)
theorem page_erased.tied : Tied Try.prog page_erased.c 60 := tie_pure page_erased.tiedCalls Try.func60 (by kernel_rfl) (by kernel_rfl) (by kernel_rfl) (by kernel_rfl) (by kernel_rfl) page_erased.eq
theorem code_New.tiedCalls : CallsTied Try.prog code_New.calls [] 0 := (fun _ _ => rfl)
theorem code_New.tied : Tied Try.prog code_New.c 61 := tie_full code_New.tiedCalls Try.func61 (by kernel_rfl) (by kernel_rfl) (by kernel_rfl) code_New.eq
theorem code_Reader_Err.tiedCalls : CallsTied Try.prog code_Reader_Err.calls [] 0 := (fun _ _ => rfl)
theorem code_Reader_Err.tied : Tied Try.prog code_Reader_Err.c 89 := tie_full code_Reader_Err.tiedCalls Try.func89 (by kernel_rfl) (by kernel_rfl) (by kernel_rfl) code_Reader_Err.eq
theorem code_Reader_fail.tiedCalls : CallsTied Try.prog code_Reader_fail.calls [] 0 := (fun _ _ => rfl)
theorem code_Reader_fail.tied : Tied Try.prog code_Reader_fail.c 90 := tie_full code_Reader_fail.tiedCalls Try.func90 (by kernel_rfl) (by kernel_rfl) (by kernel_rfl) code_Reader_fail.eq
theorem code_Reader_Bytes.tiedCalls : CallsTied Try.prog code_Reader_Bytes.calls [89, 90] 0 := ⟨⟨_, rfl, code_Reader_Err.tied⟩, ⟨⟨_, rfl, code_Reader_fail.tied⟩, (fun j hj => by first | rfl | (match j, hj with | j + 2, _ => rfl))⟩⟩
theorem code_Reader_Bytes.tied : Tied Try.prog code_Reader_Bytes.c 81 := tie_full code_Reader_Bytes.tiedCalls Try.func81 (by kernel_rfl) (by kernel_rfl) (by kernel_rfl) code_Reader_Bytes.eq
theorem code_value.tiedCalls : CallsTied Try.prog code_value.calls [] 0 := (fun _ _ => rfl)
theorem code_value.tied : Tied Try.prog code_value.c 80 := tie_pure code_value.tiedCalls Try.func80 (by kernel_rfl) (by kernel_rfl) (by kernel_rfl) (by kernel_rfl) (by kernel_rfl) code_value.eq
theorem code_Reader_Fixed.tiedCalls : CallsTied Try.prog code_Reader_Fixed.calls [81, 80] 0 := ⟨⟨_, rfl, code_Reader_Bytes.tied⟩, ⟨⟨_, rfl, code_value.tied⟩, (fun j hj => by first | rfl | (match j, hj with | j + 2, _ => rfl))⟩⟩
theorem code_Reader_Fixed.tied : Tied Try.prog code_Reader_Fixed.c 62 := tie_full code_Reader_Fixed.tiedCalls Try.func62 (by kernel_rfl) (by kernel_rfl) (by kernel_rfl) code_Reader_Fixed.eq
theorem page_Look.tiedCalls : CallsTied Try.prog page_Look.calls [60, 61, 62, 30, 27] 0 := ⟨⟨_, rfl, page_erased.tied⟩, ⟨⟨_, rfl, code_New.tied⟩, ⟨⟨_, rfl, code_Reader_Fixed.tied⟩, ⟨⟨_, rfl, page_Check.tied⟩, ⟨⟨_, rfl, page_Frame.tied⟩, (fun j hj => by first | rfl | (match j, hj with | j + 5, _ => rfl))⟩⟩⟩⟩⟩
theorem page_Look.tied : Tied Try.prog page_Look.c 32 := tie_pure page_Look.tiedCalls Try.func32 (by kernel_rfl) (by kernel_rfl) (by kernel_rfl) (by kernel_rfl) (by kernel_rfl) page_Look.eq
theorem law06_awake.tiedCalls : CallsTied Try.prog law06_awake.calls [27, 32] 0 := ⟨⟨_, rfl, page_Frame.tied⟩, ⟨⟨_, rfl, page_Look.tied⟩, (fun j hj => by first | rfl | (match j, hj with | j + 2, _ => rfl))⟩⟩
theorem law06_awake.tied : Tied Try.prog law06_awake.c 29 := tie_pure law06_awake.tiedCalls Try.func29 (by kernel_rfl) (by kernel_rfl) (by kernel_rfl) (by kernel_rfl) (by kernel_rfl) law06_awake.eq
theorem ref06_zeros.tiedCalls : CallsTied Try.prog ref06_zeros.calls [] 0 := (fun _ _ => rfl)
theorem ref06_zeros.tied : Tied Try.prog ref06_zeros.c 57 := tie_pure ref06_zeros.tiedCalls Try.func57 (by kernel_rfl) (by kernel_rfl) (by kernel_rfl) (by kernel_rfl) (by kernel_rfl) ref06_zeros.eq
theorem ref04_Fixed.tiedCalls : CallsTied Try.prog ref04_Fixed.calls [] 0 := (fun _ _ => rfl)
theorem ref04_Fixed.tied : Tied Try.prog ref04_Fixed.c 58 := tie_pure ref04_Fixed.tiedCalls Try.func58 (by kernel_rfl) (by kernel_rfl) (by kernel_rfl) (by kernel_rfl) (by kernel_rfl) ref04_Fixed.eq
theorem ref01_turned.tiedCalls : CallsTied Try.prog ref01_turned.calls [] 0 := (fun _ _ => rfl)
theorem ref01_turned.tied : Tied Try.prog ref01_turned.c 79 := tie_pure ref01_turned.tiedCalls Try.func79 (by kernel_rfl) (by kernel_rfl) (by kernel_rfl) (by kernel_rfl) (by kernel_rfl) ref01_turned.eq
theorem ref01_Sum.tiedCalls : CallsTied Try.prog ref01_Sum.calls [79] 0 := ⟨⟨_, rfl, ref01_turned.tied⟩, (fun j hj => by first | rfl | (match j, hj with | j + 1, _ => rfl))⟩
theorem ref01_Sum.tied : Tied Try.prog ref01_Sum.c 59 := tie_pure ref01_Sum.tiedCalls Try.func59 (by kernel_rfl) (by kernel_rfl) (by kernel_rfl) (by kernel_rfl) (by kernel_rfl) ref01_Sum.eq
theorem ref06_Frame.tiedCalls : CallsTied Try.prog ref06_Frame.calls [57, 58, 59] 0 := ⟨⟨_, rfl, ref06_zeros.tied⟩, ⟨⟨_, rfl, ref04_Fixed.tied⟩, ⟨⟨_, rfl, ref01_Sum.tied⟩, (fun j hj => by first | rfl | (match j, hj with | j + 3, _ => rfl))⟩⟩⟩
theorem ref06_Frame.tied : Tied Try.prog ref06_Frame.c 31 := tie_pure ref06_Frame.tiedCalls Try.func31 (by kernel_rfl) (by kernel_rfl) (by kernel_rfl) (by kernel_rfl) (by kernel_rfl) ref06_Frame.eq
theorem law06_PageFrames.tiedCalls : CallsTied Try.prog law06_PageFrames.calls [26, 27, 28, 29, 30, 31, 32] 0 := ⟨⟨_, rfl, law06_few.tied⟩, ⟨⟨_, rfl, page_Frame.tied⟩, ⟨⟨_, rfl, ref06_Check.tied⟩, ⟨⟨_, rfl, law06_awake.tied⟩, ⟨⟨_, rfl, page_Check.tied⟩, ⟨⟨_, rfl, ref06_Frame.tied⟩, ⟨⟨_, rfl, page_Look.tied⟩, (fun j hj => by first | rfl | (match j, hj with | j + 7, _ => rfl))⟩⟩⟩⟩⟩⟩⟩
theorem law06_PageFrames.tied : Tied Try.prog law06_PageFrames.c 6 := tie_pure law06_PageFrames.tiedCalls Try.func6 (by kernel_rfl) (by kernel_rfl) (by kernel_rfl) (by kernel_rfl) (by kernel_rfl) law06_PageFrames.eq
theorem ref04_At_Bytes.tiedCalls : CallsTied Try.prog ref04_At_Bytes.calls [] 0 := (fun _ _ => rfl)
theorem ref04_At_Bytes.tied : Tied Try.prog ref04_At_Bytes.c 82 := tie_pure ref04_At_Bytes.tiedCalls Try.func82 (by kernel_rfl) (by kernel_rfl) (by kernel_rfl) (by kernel_rfl) (by kernel_rfl) ref04_At_Bytes.eq
theorem ref04_At_Fixed.tiedCalls : CallsTied Try.prog ref04_At_Fixed.calls [82] 0 := ⟨⟨_, rfl, ref04_At_Bytes.tied⟩, (fun j hj => by first | rfl | (match j, hj with | j + 1, _ => rfl))⟩
theorem ref04_At_Fixed.tied : Tied Try.prog ref04_At_Fixed.c 63 := tie_pure ref04_At_Fixed.tiedCalls Try.func63 (by kernel_rfl) (by kernel_rfl) (by kernel_rfl) (by kernel_rfl) (by kernel_rfl) ref04_At_Fixed.eq
theorem ref06_Look.tiedCalls : CallsTied Try.prog ref06_Look.calls [63, 28, 31] 0 := ⟨⟨_, rfl, ref04_At_Fixed.tied⟩, ⟨⟨_, rfl, ref06_Check.tied⟩, ⟨⟨_, rfl, ref06_Frame.tied⟩, (fun j hj => by first | rfl | (match j, hj with | j + 3, _ => rfl))⟩⟩⟩
theorem ref06_Look.tied : Tied Try.prog ref06_Look.c 33 := tie_pure ref06_Look.tiedCalls Try.func33 (by kernel_rfl) (by kernel_rfl) (by kernel_rfl) (by kernel_rfl) (by kernel_rfl) ref06_Look.eq
theorem law06_PageLooks.tiedCalls : CallsTied Try.prog law06_PageLooks.calls [26, 32, 33, 29] 0 := ⟨⟨_, rfl, law06_few.tied⟩, ⟨⟨_, rfl, page_Look.tied⟩, ⟨⟨_, rfl, ref06_Look.tied⟩, ⟨⟨_, rfl, law06_awake.tied⟩, (fun j hj => by first | rfl | (match j, hj with | j + 4, _ => rfl))⟩⟩⟩⟩
theorem law06_PageLooks.tied : Tied Try.prog law06_PageLooks.c 7 := tie_pure law06_PageLooks.tiedCalls Try.func7 (by kernel_rfl) (by kernel_rfl) (by kernel_rfl) (by kernel_rfl) (by kernel_rfl) law06_PageLooks.eq
theorem law06_PageTorn.tiedCalls : CallsTied Try.prog law06_PageTorn.calls [26, 27, 29, 32] 0 := ⟨⟨_, rfl, law06_few.tied⟩, ⟨⟨_, rfl, page_Frame.tied⟩, ⟨⟨_, rfl, law06_awake.tied⟩, ⟨⟨_, rfl, page_Look.tied⟩, (fun j hj => by first | rfl | (match j, hj with | j + 4, _ => rfl))⟩⟩⟩⟩
theorem law06_PageTorn.tied : Tied Try.prog law06_PageTorn.c 8 := tie_pure law06_PageTorn.tiedCalls Try.func8 (by kernel_rfl) (by kernel_rfl) (by kernel_rfl) (by kernel_rfl) (by kernel_rfl) law06_PageTorn.eq
theorem law06_PageBeginning.tiedCalls : CallsTied Try.prog law06_PageBeginning.calls [26, 27, 29, 32, 33] 0 := ⟨⟨_, rfl, law06_few.tied⟩, ⟨⟨_, rfl, page_Frame.tied⟩, ⟨⟨_, rfl, law06_awake.tied⟩, ⟨⟨_, rfl, page_Look.tied⟩, ⟨⟨_, rfl, ref06_Look.tied⟩, (fun j hj => by first | rfl | (match j, hj with | j + 5, _ => rfl))⟩⟩⟩⟩⟩
theorem law06_PageBeginning.tied : Tied Try.prog law06_PageBeginning.c 9 := tie_pure law06_PageBeginning.tiedCalls Try.func9 (by kernel_rfl) (by kernel_rfl) (by kernel_rfl) (by kernel_rfl) (by kernel_rfl) law06_PageBeginning.eq
end Ev
