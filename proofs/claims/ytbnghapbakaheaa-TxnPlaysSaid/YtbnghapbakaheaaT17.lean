/- The functions are those of the program: the kernel checks the code, one by one. Written by gen2.py. -/
import Derived.Test.YtbnghapbakaheaaEvTie
import Derived.Test.YtbnghapbakaheaaGMaps
import Derived.Test.YtbnghapbakaheaaGRec
import Derived.Test.YtbnghapbakaheaaGState
import Derived.Test.YtbnghapbakaheaaGRef07
import Derived.Test.YtbnghapbakaheaaGRef08
import Derived.Test.YtbnghapbakaheaaGSlices
import Derived.Test.YtbnghapbakaheaaGTxn
import Derived.Test.YtbnghapbakaheaaGRef16
import Derived.Test.YtbnghapbakaheaaGLaw17
import Derived.Test.YtbnghapbakaheaaPk
import Derived.Test.YtbnghapbakaheaaProg
import Derived.KernelRfl
set_option maxRecDepth 100000
namespace Ev
open Go Go.Proofs
theorem state_New.tiedCalls : CallsTied Try.prog state_New.calls [] 0 := (fun _ _ => rfl)
theorem state_New.tied : Tied Try.prog state_New.c 6 := tie_full state_New.tiedCalls Try.func6 (by kernel_rfl) (by kernel_rfl) (by kernel_rfl) state_New.eq
theorem rec_fields.tiedCalls : CallsTied Try.prog rec_fields.calls [] 0 := (fun _ _ => rfl)
theorem rec_fields.tied : Tied Try.prog rec_fields.c 39 := tie_full rec_fields.tiedCalls Try.func39 (by kernel_rfl) (by kernel_rfl) (by kernel_rfl) rec_fields.eq
theorem rec_in.tiedCalls : CallsTied Try.prog rec_in.calls [] 0 := (fun _ _ => rfl)
theorem rec_in.tied : Tied Try.prog rec_in.c 40 := tie_pure rec_in.tiedCalls Try.func40 (by kernel_rfl) (by kernel_rfl) (by kernel_rfl) (by kernel_rfl) (by kernel_rfl) rec_in.eq
theorem rec_Check.tiedCalls : CallsTied Try.prog rec_Check.calls [39, 40] 0 := ⟨⟨_, rfl, rec_fields.tied⟩, ⟨⟨_, rfl, rec_in.tied⟩, (fun j hj => by first | rfl | (match j, hj with | j + 2, _ => rfl))⟩⟩
theorem rec_Check.tied : Tied Try.prog rec_Check.c 20 := tie_pure rec_Check.tiedCalls Try.func20 (by kernel_rfl) (by kernel_rfl) (by kernel_rfl) (by kernel_rfl) (by kernel_rfl) rec_Check.eq
theorem state_State_open.tiedCalls : CallsTied Try.prog state_State_open.calls [44] 0 := ⟨⟨_, rfl, mclone.tied44⟩, (fun j hj => by first | rfl | (match j, hj with | j + 1, _ => rfl))⟩
theorem state_State_open.tied : Tied Try.prog state_State_open.c 41 := tie_full state_State_open.tiedCalls Try.func41 (by kernel_rfl) (by kernel_rfl) (by kernel_rfl) state_State_open.eq
theorem state_State_move.tiedCalls : CallsTied Try.prog state_State_move.calls [] 0 := (fun _ _ => rfl)
theorem state_State_move.tied : Tied Try.prog state_State_move.c 42 := tie_full state_State_move.tiedCalls Try.func42 (by kernel_rfl) (by kernel_rfl) (by kernel_rfl) state_State_move.eq
theorem state_State_point.tiedCalls : CallsTied Try.prog state_State_point.calls [] 0 := (fun _ _ => rfl)
theorem state_State_point.tied : Tied Try.prog state_State_point.c 43 := tie_full state_State_point.tiedCalls Try.func43 (by kernel_rfl) (by kernel_rfl) (by kernel_rfl) state_State_point.eq
theorem state_State_apply.tiedCalls : CallsTied Try.prog state_State_apply.calls [41, 42, 43, 44] 0 := ⟨⟨_, rfl, state_State_open.tied⟩, ⟨⟨_, rfl, state_State_move.tied⟩, ⟨⟨_, rfl, state_State_point.tied⟩, ⟨⟨_, rfl, mclone.tied44⟩, (fun j hj => by first | rfl | (match j, hj with | j + 4, _ => rfl))⟩⟩⟩⟩
theorem state_State_apply.tied : Tied Try.prog state_State_apply.c 21 := tie_full state_State_apply.tiedCalls Try.func21 (by kernel_rfl) (by kernel_rfl) (by kernel_rfl) state_State_apply.eq
theorem state_State_Apply.tiedCalls : CallsTied Try.prog state_State_Apply.calls [20, 21] 0 := ⟨⟨_, rfl, rec_Check.tied⟩, ⟨⟨_, rfl, state_State_apply.tied⟩, (fun j hj => by first | rfl | (match j, hj with | j + 2, _ => rfl))⟩⟩
theorem state_State_Apply.tied : Tied Try.prog state_State_Apply.c 7 := tie_full state_State_Apply.tiedCalls Try.func7 (by kernel_rfl) (by kernel_rfl) (by kernel_rfl) state_State_Apply.eq
theorem ref07_row.tiedCalls : CallsTied Try.prog ref07_row.calls [] 0 := (fun _ _ => rfl)
theorem ref07_row.tied : Tied Try.prog ref07_row.c 45 := tie_full ref07_row.tiedCalls Try.func45 (by kernel_rfl) (by kernel_rfl) (by kernel_rfl) ref07_row.eq
theorem ref07_of.tiedCalls : CallsTied Try.prog ref07_of.calls [] 0 := (fun _ _ => rfl)
theorem ref07_of.tied : Tied Try.prog ref07_of.c 46 := tie_full ref07_of.tiedCalls Try.func46 (by kernel_rfl) (by kernel_rfl) (by kernel_rfl) ref07_of.eq
theorem ref07_Check.tiedCalls : CallsTied Try.prog ref07_Check.calls [45, 46] 0 := ⟨⟨_, rfl, ref07_row.tied⟩, ⟨⟨_, rfl, ref07_of.tied⟩, (fun j hj => by first | rfl | (match j, hj with | j + 2, _ => rfl))⟩⟩
theorem ref07_Check.tied : Tied Try.prog ref07_Check.c 22 := tie_pure ref07_Check.tiedCalls Try.func22 (by kernel_rfl) (by kernel_rfl) (by kernel_rfl) (by kernel_rfl) (by kernel_rfl) ref07_Check.eq
theorem ref08_State_find.tiedCalls : CallsTied Try.prog ref08_State_find.calls [] 0 := (fun _ _ => rfl)
theorem ref08_State_find.tied : Tied Try.prog ref08_State_find.c 47 := tie_full ref08_State_find.tiedCalls Try.func47 (by kernel_rfl) (by kernel_rfl) (by kernel_rfl) ref08_State_find.eq
theorem ref08_State_Get.tiedCalls : CallsTied Try.prog ref08_State_Get.calls [] 0 := (fun _ _ => rfl)
theorem ref08_State_Get.tied : Tied Try.prog ref08_State_Get.c 36 := tie_full ref08_State_Get.tiedCalls Try.func36 (by kernel_rfl) (by kernel_rfl) (by kernel_rfl) ref08_State_Get.eq
theorem ref08_State_Refs.tiedCalls : CallsTied Try.prog ref08_State_Refs.calls [] 0 := (fun _ _ => rfl)
theorem ref08_State_Refs.tied : Tied Try.prog ref08_State_Refs.c 48 := tie_full ref08_State_Refs.tiedCalls Try.func48 (by kernel_rfl) (by kernel_rfl) (by kernel_rfl) ref08_State_Refs.eq
theorem ref08_State_made.tiedCalls : CallsTied Try.prog ref08_State_made.calls [] 0 := (fun _ _ => rfl)
theorem ref08_State_made.tied : Tied Try.prog ref08_State_made.c 49 := tie_full ref08_State_made.tiedCalls Try.func49 (by kernel_rfl) (by kernel_rfl) (by kernel_rfl) ref08_State_made.eq
theorem ref08_State_bad.tiedCalls : CallsTied Try.prog ref08_State_bad.calls [] 0 := (fun _ _ => rfl)
theorem ref08_State_bad.tied : Tied Try.prog ref08_State_bad.c 50 := tie_full ref08_State_bad.tiedCalls Try.func50 (by kernel_rfl) (by kernel_rfl) (by kernel_rfl) ref08_State_bad.eq
theorem ref08_State_worn.tiedCalls : CallsTied Try.prog ref08_State_worn.calls [] 0 := (fun _ _ => rfl)
theorem ref08_State_worn.tied : Tied Try.prog ref08_State_worn.c 51 := tie_full ref08_State_worn.tiedCalls Try.func51 (by kernel_rfl) (by kernel_rfl) (by kernel_rfl) ref08_State_worn.eq
theorem ref08_State_with.tiedCalls : CallsTied Try.prog ref08_State_with.calls [] 0 := (fun _ _ => rfl)
theorem ref08_State_with.tied : Tied Try.prog ref08_State_with.c 52 := tie_full ref08_State_with.tiedCalls Try.func52 (by kernel_rfl) (by kernel_rfl) (by kernel_rfl) ref08_State_with.eq
theorem ref08_State_without.tiedCalls : CallsTied Try.prog ref08_State_without.calls [] 0 := (fun _ _ => rfl)
theorem ref08_State_without.tied : Tied Try.prog ref08_State_without.c 53 := tie_full ref08_State_without.tiedCalls Try.func53 (by kernel_rfl) (by kernel_rfl) (by kernel_rfl) ref08_State_without.eq
theorem ref08_State_dropped.tiedCalls : CallsTied Try.prog ref08_State_dropped.calls [53] 0 := ⟨⟨_, rfl, ref08_State_without.tied⟩, (fun j hj => by first | rfl | (match j, hj with | j + 1, _ => rfl))⟩
theorem ref08_State_dropped.tied : Tied Try.prog ref08_State_dropped.c 54 := tie_full ref08_State_dropped.tiedCalls Try.func54 (by kernel_rfl) (by kernel_rfl) (by kernel_rfl) ref08_State_dropped.eq
theorem ref08_State_Do.tiedCalls : CallsTied Try.prog ref08_State_Do.calls [47, 36, 48, 49, 50, 51, 52, 53, 54] 0 := ⟨⟨_, rfl, ref08_State_find.tied⟩, ⟨⟨_, rfl, ref08_State_Get.tied⟩, ⟨⟨_, rfl, ref08_State_Refs.tied⟩, ⟨⟨_, rfl, ref08_State_made.tied⟩, ⟨⟨_, rfl, ref08_State_bad.tied⟩, ⟨⟨_, rfl, ref08_State_worn.tied⟩, ⟨⟨_, rfl, ref08_State_with.tied⟩, ⟨⟨_, rfl, ref08_State_without.tied⟩, ⟨⟨_, rfl, ref08_State_dropped.tied⟩, (fun j hj => by first | rfl | (match j, hj with | j + 9, _ => rfl))⟩⟩⟩⟩⟩⟩⟩⟩⟩
theorem ref08_State_Do.tied : Tied Try.prog ref08_State_Do.c 23 := tie_full ref08_State_Do.tiedCalls Try.func23 (by kernel_rfl) (by kernel_rfl) (by kernel_rfl) ref08_State_Do.eq
theorem ref08_State_Apply.tiedCalls : CallsTied Try.prog ref08_State_Apply.calls [22, 23] 0 := ⟨⟨_, rfl, ref07_Check.tied⟩, ⟨⟨_, rfl, ref08_State_Do.tied⟩, (fun j hj => by first | rfl | (match j, hj with | j + 2, _ => rfl))⟩⟩
theorem ref08_State_Apply.tied : Tied Try.prog ref08_State_Apply.c 8 := tie_full ref08_State_Apply.tiedCalls Try.func8 (by kernel_rfl) (by kernel_rfl) (by kernel_rfl) ref08_State_Apply.eq
theorem state_State_Copy.tiedCalls : CallsTied Try.prog state_State_Copy.calls [44, 55] 0 := ⟨⟨_, rfl, mclone.tied44⟩, ⟨⟨_, rfl, mclone.tied55⟩, (fun j hj => by first | rfl | (match j, hj with | j + 2, _ => rfl))⟩⟩
theorem state_State_Copy.tied : Tied Try.prog state_State_Copy.c 24 := tie_full state_State_Copy.tiedCalls Try.func24 (by kernel_rfl) (by kernel_rfl) (by kernel_rfl) state_State_Copy.eq
theorem txn_New.tiedCalls : CallsTied Try.prog txn_New.calls [24] 0 := ⟨⟨_, rfl, state_State_Copy.tied⟩, (fun j hj => by first | rfl | (match j, hj with | j + 1, _ => rfl))⟩
theorem txn_New.tied : Tied Try.prog txn_New.c 9 := tie_full txn_New.tiedCalls Try.func9 (by kernel_rfl) (by kernel_rfl) (by kernel_rfl) txn_New.eq
theorem state_State_Space.tiedCalls : CallsTied Try.prog state_State_Space.calls [] 0 := (fun _ _ => rfl)
theorem state_State_Space.tied : Tied Try.prog state_State_Space.c 57 := tie_full state_State_Space.tiedCalls Try.func57 (by kernel_rfl) (by kernel_rfl) (by kernel_rfl) state_State_Space.eq
theorem txn_Txn_sealed.tiedCalls : CallsTied Try.prog txn_Txn_sealed.calls [57] 0 := ⟨⟨_, rfl, state_State_Space.tied⟩, (fun j hj => by first | rfl | (match j, hj with | j + 1, _ => rfl))⟩
theorem txn_Txn_sealed.tied : Tied Try.prog txn_Txn_sealed.c 28 := tie_full txn_Txn_sealed.tiedCalls Try.func28 (by kernel_rfl) (by kernel_rfl) (by kernel_rfl) txn_Txn_sealed.eq
theorem txn_Txn_Do_1.tiedCalls : CallsTied Try.prog txn_Txn_Do_1.calls [7] 0 := ⟨⟨_, rfl, state_State_Apply.tied⟩, (fun j hj => by first | rfl | (match j, hj with | j + 1, _ => rfl))⟩
theorem txn_Txn_Do_1.tied : Tied Try.prog txn_Txn_Do_1.c 32 := tie_full txn_Txn_Do_1.tiedCalls Try.func32 (by kernel_rfl) (by kernel_rfl) (by kernel_rfl) txn_Txn_Do_1.eq
theorem state_State_Live.tiedCalls : CallsTied Try.prog state_State_Live.calls [] 0 := (fun _ _ => rfl)
theorem state_State_Live.tied : Tied Try.prog state_State_Live.c 58 := tie_full state_State_Live.tiedCalls Try.func58 (by kernel_rfl) (by kernel_rfl) (by kernel_rfl) state_State_Live.eq
theorem maps_Keys_map_int_state_space_int_state_space.tiedCalls : CallsTied Try.prog maps_Keys_map_int_state_space_int_state_space.calls [] 0 := (fun _ _ => rfl)
theorem maps_Keys_map_int_state_space_int_state_space.tied : Tied Try.prog maps_Keys_map_int_state_space_int_state_space.c 60 := tie_full maps_Keys_map_int_state_space_int_state_space.tiedCalls Try.func60 (by kernel_rfl) (by kernel_rfl) (by kernel_rfl) maps_Keys_map_int_state_space_int_state_space.eq
theorem state_State_Spaces.tiedCalls : CallsTied Try.prog state_State_Spaces.calls [60, 59, 57] 0 := ⟨⟨_, rfl, maps_Keys_map_int_state_space_int_state_space.tied⟩, ⟨⟨_, rfl, sortedKeys.tied64⟩, ⟨⟨_, rfl, state_State_Space.tied⟩, (fun j hj => by first | rfl | (match j, hj with | j + 3, _ => rfl))⟩⟩⟩
theorem state_State_Spaces.tied : Tied Try.prog state_State_Spaces.c 37 := tie_full state_State_Spaces.tiedCalls Try.func37 (by kernel_rfl) (by kernel_rfl) (by kernel_rfl) state_State_Spaces.eq
theorem state_State_Keys.tiedCalls : CallsTied Try.prog state_State_Keys.calls [37] 0 := ⟨⟨_, rfl, state_State_Spaces.tied⟩, (fun j hj => by first | rfl | (match j, hj with | j + 1, _ => rfl))⟩
theorem state_State_Keys.tied : Tied Try.prog state_State_Keys.c 17 := tie_full state_State_Keys.tiedCalls Try.func17 (by kernel_rfl) (by kernel_rfl) (by kernel_rfl) state_State_Keys.eq
theorem txn_Txn_do_of_txn_Txn_Do_1.tiedCalls : CallsTied Try.prog txn_Txn_do_of_txn_Txn_Do_1.calls [24, 32, 58, 17] 0 := ⟨⟨_, rfl, state_State_Copy.tied⟩, ⟨⟨_, rfl, txn_Txn_Do_1.tied⟩, ⟨⟨_, rfl, state_State_Live.tied⟩, ⟨⟨_, rfl, state_State_Keys.tied⟩, (fun j hj => by first | rfl | (match j, hj with | j + 4, _ => rfl))⟩⟩⟩⟩
theorem txn_Txn_do_of_txn_Txn_Do_1.tied : Tied Try.prog txn_Txn_do_of_txn_Txn_Do_1.c 29 := tie_full txn_Txn_do_of_txn_Txn_Do_1.tiedCalls Try.func29 (by kernel_rfl) (by kernel_rfl) (by kernel_rfl) txn_Txn_do_of_txn_Txn_Do_1.eq
theorem txn_Txn_Do.tiedCalls : CallsTied Try.prog txn_Txn_Do.calls [20, 28, 29] 0 := ⟨⟨_, rfl, rec_Check.tied⟩, ⟨⟨_, rfl, txn_Txn_sealed.tied⟩, ⟨⟨_, rfl, txn_Txn_do_of_txn_Txn_Do_1.tied⟩, (fun j hj => by first | rfl | (match j, hj with | j + 3, _ => rfl))⟩⟩⟩
theorem txn_Txn_Do.tied : Tied Try.prog txn_Txn_Do.c 14 := tie_full txn_Txn_Do.tiedCalls Try.func14 (by kernel_rfl) (by kernel_rfl) (by kernel_rfl) txn_Txn_Do.eq
theorem state_State_Lay.tiedCalls : CallsTied Try.prog state_State_Lay.calls [21] 0 := ⟨⟨_, rfl, state_State_apply.tied⟩, (fun j hj => by first | rfl | (match j, hj with | j + 1, _ => rfl))⟩
theorem state_State_Lay.tied : Tied Try.prog state_State_Lay.c 31 := tie_full state_State_Lay.tiedCalls Try.func31 (by kernel_rfl) (by kernel_rfl) (by kernel_rfl) state_State_Lay.eq
theorem txn_Txn_Put_1.tiedCalls : CallsTied Try.prog txn_Txn_Put_1.calls [31] 0 := ⟨⟨_, rfl, state_State_Lay.tied⟩, (fun j hj => by first | rfl | (match j, hj with | j + 1, _ => rfl))⟩
theorem txn_Txn_Put_1.tied : Tied Try.prog txn_Txn_Put_1.c 30 := tie_full txn_Txn_Put_1.tiedCalls Try.func30 (by kernel_rfl) (by kernel_rfl) (by kernel_rfl) txn_Txn_Put_1.eq
theorem txn_Txn_do_of_txn_Txn_Put_1.tiedCalls : CallsTied Try.prog txn_Txn_do_of_txn_Txn_Put_1.calls [24, 30, 58, 17] 0 := ⟨⟨_, rfl, state_State_Copy.tied⟩, ⟨⟨_, rfl, txn_Txn_Put_1.tied⟩, ⟨⟨_, rfl, state_State_Live.tied⟩, ⟨⟨_, rfl, state_State_Keys.tied⟩, (fun j hj => by first | rfl | (match j, hj with | j + 4, _ => rfl))⟩⟩⟩⟩
theorem txn_Txn_do_of_txn_Txn_Put_1.tied : Tied Try.prog txn_Txn_do_of_txn_Txn_Put_1.c 29 := tie_full txn_Txn_do_of_txn_Txn_Put_1.tiedCalls Try.func29 (by kernel_rfl) (by kernel_rfl) (by kernel_rfl) txn_Txn_do_of_txn_Txn_Put_1.eq
theorem txn_Txn_Put.tiedCalls : CallsTied Try.prog txn_Txn_Put.calls [28, 29] 0 := ⟨⟨_, rfl, txn_Txn_sealed.tied⟩, ⟨⟨_, rfl, txn_Txn_do_of_txn_Txn_Put_1.tied⟩, (fun j hj => by first | rfl | (match j, hj with | j + 2, _ => rfl))⟩⟩
theorem txn_Txn_Put.tied : Tied Try.prog txn_Txn_Put.c 12 := tie_full txn_Txn_Put.tiedCalls Try.func12 (by kernel_rfl) (by kernel_rfl) (by kernel_rfl) txn_Txn_Put.eq
theorem state_State_Get.tiedCalls : CallsTied Try.prog state_State_Get.calls [] 0 := (fun _ _ => rfl)
theorem state_State_Get.tied : Tied Try.prog state_State_Get.c 38 := tie_full state_State_Get.tiedCalls Try.func38 (by kernel_rfl) (by kernel_rfl) (by kernel_rfl) state_State_Get.eq
theorem txn_Txn_Get.tiedCalls : CallsTied Try.prog txn_Txn_Get.calls [38] 0 := ⟨⟨_, rfl, state_State_Get.tied⟩, (fun j hj => by first | rfl | (match j, hj with | j + 1, _ => rfl))⟩
theorem txn_Txn_Get.tied : Tied Try.prog txn_Txn_Get.c 18 := tie_full txn_Txn_Get.tiedCalls Try.func18 (by kernel_rfl) (by kernel_rfl) (by kernel_rfl) txn_Txn_Get.eq
theorem slices_Clone_api_Change_api_Change.tiedCalls : CallsTied Try.prog slices_Clone_api_Change_api_Change.calls [] 0 := (fun _ _ => rfl)
theorem slices_Clone_api_Change_api_Change.tied : Tied Try.prog slices_Clone_api_Change_api_Change.c 33 := tie_full slices_Clone_api_Change_api_Change.tiedCalls Try.func33 (by kernel_rfl) (by kernel_rfl) (by kernel_rfl) slices_Clone_api_Change_api_Change.eq
theorem txn_Txn_Changes.tiedCalls : CallsTied Try.prog txn_Txn_Changes.calls [33] 0 := ⟨⟨_, rfl, slices_Clone_api_Change_api_Change.tied⟩, (fun j hj => by first | rfl | (match j, hj with | j + 1, _ => rfl))⟩
theorem txn_Txn_Changes.tied : Tied Try.prog txn_Txn_Changes.c 15 := tie_full txn_Txn_Changes.tiedCalls Try.func15 (by kernel_rfl) (by kernel_rfl) (by kernel_rfl) txn_Txn_Changes.eq
theorem txn_Txn_Spaces.tiedCalls : CallsTied Try.prog txn_Txn_Spaces.calls [37] 0 := ⟨⟨_, rfl, state_State_Spaces.tied⟩, (fun j hj => by first | rfl | (match j, hj with | j + 1, _ => rfl))⟩
theorem txn_Txn_Spaces.tied : Tied Try.prog txn_Txn_Spaces.c 19 := tie_full txn_Txn_Spaces.tiedCalls Try.func19 (by kernel_rfl) (by kernel_rfl) (by kernel_rfl) txn_Txn_Spaces.eq
theorem law17_awake.tiedCalls : CallsTied Try.prog law17_awake.calls [6, 9, 14, 12, 18, 15, 19] 0 := ⟨⟨_, rfl, state_New.tied⟩, ⟨⟨_, rfl, txn_New.tied⟩, ⟨⟨_, rfl, txn_Txn_Do.tied⟩, ⟨⟨_, rfl, txn_Txn_Put.tied⟩, ⟨⟨_, rfl, txn_Txn_Get.tied⟩, ⟨⟨_, rfl, txn_Txn_Changes.tied⟩, ⟨⟨_, rfl, txn_Txn_Spaces.tied⟩, (fun j hj => by first | rfl | (match j, hj with | j + 7, _ => rfl))⟩⟩⟩⟩⟩⟩⟩
theorem law17_awake.tied : Tied Try.prog law17_awake.c 10 := tie_pure law17_awake.tiedCalls Try.func10 (by kernel_rfl) (by kernel_rfl) (by kernel_rfl) (by kernel_rfl) (by kernel_rfl) law17_awake.eq
theorem law17_sealed.tiedCalls : CallsTied Try.prog law17_sealed.calls [] 0 := (fun _ _ => rfl)
theorem law17_sealed.tied : Tied Try.prog law17_sealed.c 25 := tie_full law17_sealed.tiedCalls Try.func25 (by kernel_rfl) (by kernel_rfl) (by kernel_rfl) law17_sealed.eq
theorem ref16_Plain_Put.tiedCalls : CallsTied Try.prog ref16_Plain_Put.calls [23] 0 := ⟨⟨_, rfl, ref08_State_Do.tied⟩, (fun j hj => by first | rfl | (match j, hj with | j + 1, _ => rfl))⟩
theorem ref16_Plain_Put.tied : Tied Try.prog ref16_Plain_Put.c 26 := tie_full ref16_Plain_Put.tiedCalls Try.func26 (by kernel_rfl) (by kernel_rfl) (by kernel_rfl) ref16_Plain_Put.eq
theorem ref08_State_Live.tiedCalls : CallsTied Try.prog ref08_State_Live.calls [] 0 := (fun _ _ => rfl)
theorem ref08_State_Live.tied : Tied Try.prog ref08_State_Live.c 56 := tie_full ref08_State_Live.tiedCalls Try.func56 (by kernel_rfl) (by kernel_rfl) (by kernel_rfl) ref08_State_Live.eq
theorem ref16_Plain_Fits.tiedCalls : CallsTied Try.prog ref16_Plain_Fits.calls [56] 0 := ⟨⟨_, rfl, ref08_State_Live.tied⟩, (fun j hj => by first | rfl | (match j, hj with | j + 1, _ => rfl))⟩
theorem ref16_Plain_Fits.tied : Tied Try.prog ref16_Plain_Fits.c 27 := tie_full ref16_Plain_Fits.tiedCalls Try.func27 (by kernel_rfl) (by kernel_rfl) (by kernel_rfl) ref16_Plain_Fits.eq
theorem law17_Plain_Put.tiedCalls : CallsTied Try.prog law17_Plain_Put.calls [25, 26, 27] 0 := ⟨⟨_, rfl, law17_sealed.tied⟩, ⟨⟨_, rfl, ref16_Plain_Put.tied⟩, ⟨⟨_, rfl, ref16_Plain_Fits.tied⟩, (fun j hj => by first | rfl | (match j, hj with | j + 3, _ => rfl))⟩⟩⟩
theorem law17_Plain_Put.tied : Tied Try.prog law17_Plain_Put.c 11 := tie_full law17_Plain_Put.tiedCalls Try.func11 (by kernel_rfl) (by kernel_rfl) (by kernel_rfl) law17_Plain_Put.eq
theorem law17_Plain_Do.tiedCalls : CallsTied Try.prog law17_Plain_Do.calls [22, 25, 23, 27] 0 := ⟨⟨_, rfl, ref07_Check.tied⟩, ⟨⟨_, rfl, law17_sealed.tied⟩, ⟨⟨_, rfl, ref08_State_Do.tied⟩, ⟨⟨_, rfl, ref16_Plain_Fits.tied⟩, (fun j hj => by first | rfl | (match j, hj with | j + 4, _ => rfl))⟩⟩⟩⟩
theorem law17_Plain_Do.tied : Tied Try.prog law17_Plain_Do.c 13 := tie_full law17_Plain_Do.tiedCalls Try.func13 (by kernel_rfl) (by kernel_rfl) (by kernel_rfl) law17_Plain_Do.eq
theorem ref08_State_Pages.tiedCalls : CallsTied Try.prog ref08_State_Pages.calls [] 0 := (fun _ _ => rfl)
theorem ref08_State_Pages.tied : Tied Try.prog ref08_State_Pages.c 34 := tie_full ref08_State_Pages.tiedCalls Try.func34 (by kernel_rfl) (by kernel_rfl) (by kernel_rfl) ref08_State_Pages.eq
theorem ref16_Plain_Get.tiedCalls : CallsTied Try.prog ref16_Plain_Get.calls [36] 0 := ⟨⟨_, rfl, ref08_State_Get.tied⟩, (fun j hj => by first | rfl | (match j, hj with | j + 1, _ => rfl))⟩
theorem ref16_Plain_Get.tied : Tied Try.prog ref16_Plain_Get.c 35 := tie_full ref16_Plain_Get.tiedCalls Try.func35 (by kernel_rfl) (by kernel_rfl) (by kernel_rfl) ref16_Plain_Get.eq
theorem law17_seen.tiedCalls : CallsTied Try.prog law17_seen.calls [19, 34, 18, 35, 36] 0 := ⟨⟨_, rfl, txn_Txn_Spaces.tied⟩, ⟨⟨_, rfl, ref08_State_Pages.tied⟩, ⟨⟨_, rfl, txn_Txn_Get.tied⟩, ⟨⟨_, rfl, ref16_Plain_Get.tied⟩, ⟨⟨_, rfl, ref08_State_Get.tied⟩, (fun j hj => by first | rfl | (match j, hj with | j + 5, _ => rfl))⟩⟩⟩⟩⟩
theorem law17_seen.tied : Tied Try.prog law17_seen.c 16 := tie_full law17_seen.tiedCalls Try.func16 (by kernel_rfl) (by kernel_rfl) (by kernel_rfl) law17_seen.eq
theorem law17_TxnPlays.tiedCalls : CallsTied Try.prog law17_TxnPlays.calls [6, 7, 8, 9, 10, 11, 12, 13, 14, 15, 16, 17] 0 := ⟨⟨_, rfl, state_New.tied⟩, ⟨⟨_, rfl, state_State_Apply.tied⟩, ⟨⟨_, rfl, ref08_State_Apply.tied⟩, ⟨⟨_, rfl, txn_New.tied⟩, ⟨⟨_, rfl, law17_awake.tied⟩, ⟨⟨_, rfl, law17_Plain_Put.tied⟩, ⟨⟨_, rfl, txn_Txn_Put.tied⟩, ⟨⟨_, rfl, law17_Plain_Do.tied⟩, ⟨⟨_, rfl, txn_Txn_Do.tied⟩, ⟨⟨_, rfl, txn_Txn_Changes.tied⟩, ⟨⟨_, rfl, law17_seen.tied⟩, ⟨⟨_, rfl, state_State_Keys.tied⟩, (fun j hj => by first | rfl | (match j, hj with | j + 12, _ => rfl))⟩⟩⟩⟩⟩⟩⟩⟩⟩⟩⟩⟩
theorem law17_TxnPlays.tied : Tied Try.prog law17_TxnPlays.c 3 := tie_full law17_TxnPlays.tiedCalls Try.func3 (by kernel_rfl) (by kernel_rfl) (by kernel_rfl) law17_TxnPlays.eq
theorem law17_TxnLists.tiedCalls : CallsTied Try.prog law17_TxnLists.calls [6, 9, 12, 14, 15, 10] 0 := ⟨⟨_, rfl, state_New.tied⟩, ⟨⟨_, rfl, txn_New.tied⟩, ⟨⟨_, rfl, txn_Txn_Put.tied⟩, ⟨⟨_, rfl, txn_Txn_Do.tied⟩, ⟨⟨_, rfl, txn_Txn_Changes.tied⟩, ⟨⟨_, rfl, law17_awake.tied⟩, (fun j hj => by first | rfl | (match j, hj with | j + 6, _ => rfl))⟩⟩⟩⟩⟩⟩
theorem law17_TxnLists.tied : Tied Try.prog law17_TxnLists.c 4 := tie_full law17_TxnLists.tiedCalls Try.func4 (by kernel_rfl) (by kernel_rfl) (by kernel_rfl) law17_TxnLists.eq
theorem law17_TxnNone.tiedCalls : CallsTied Try.prog law17_TxnNone.calls [18, 10, 12, 14, 15, 19] 0 := ⟨⟨_, rfl, txn_Txn_Get.tied⟩, ⟨⟨_, rfl, law17_awake.tied⟩, ⟨⟨_, rfl, txn_Txn_Put.tied⟩, ⟨⟨_, rfl, txn_Txn_Do.tied⟩, ⟨⟨_, rfl, txn_Txn_Changes.tied⟩, ⟨⟨_, rfl, txn_Txn_Spaces.tied⟩, (fun j hj => by first | rfl | (match j, hj with | j + 6, _ => rfl))⟩⟩⟩⟩⟩⟩
theorem law17_TxnNone.tied : Tied Try.prog law17_TxnNone.c 5 := tie_pure law17_TxnNone.tiedCalls Try.func5 (by kernel_rfl) (by kernel_rfl) (by kernel_rfl) (by kernel_rfl) (by kernel_rfl) law17_TxnNone.eq
end Ev
