/- The functions are those of the program: the kernel checks the code, one by one. Written by gen2.py. -/
import Derived.Test.YtfmefnejaocopaaEvTie
import Derived.Test.YtfmefnejaocopaaGRef07
import Derived.Test.YtfmefnejaocopaaGRef08
import Derived.Test.YtfmefnejaocopaaGRef16
import Derived.Test.YtfmefnejaocopaaGLaw17
import Derived.Test.YtfmefnejaocopaaGMaps
import Derived.Test.YtfmefnejaocopaaGRec
import Derived.Test.YtfmefnejaocopaaGModel
import Derived.Test.YtfmefnejaocopaaGLaw19
import Derived.Test.YtfmefnejaocopaaPk
import Derived.Test.YtfmefnejaocopaaProg
import Derived.KernelRfl
set_option maxRecDepth 100000
namespace Ev
open Go Go.Proofs
theorem law19_room.tiedCalls : CallsTied Try.prog law19_room.calls [] 0 := (fun _ _ => rfl)
theorem law19_room.tied : Tied Try.prog law19_room.c 25 := tie_pure law19_room.tiedCalls Try.func25 (by kernel_rfl) (by kernel_rfl) (by kernel_rfl) (by kernel_rfl) (by kernel_rfl) law19_room.eq
theorem model_New.tiedCalls : CallsTied Try.prog model_New.calls [] 0 := (fun _ _ => rfl)
theorem model_New.tied : Tied Try.prog model_New.c 26 := tie_full model_New.tiedCalls Try.func26 (by kernel_rfl) (by kernel_rfl) (by kernel_rfl) model_New.eq
theorem model_tree_clone.tiedCalls : CallsTied Try.prog model_tree_clone.calls [94] 0 := ⟨⟨_, rfl, mclone.tied94⟩, (fun j hj => by first | rfl | (match j, hj with | j + 1, _ => rfl))⟩
theorem model_tree_clone.tied : Tied Try.prog model_tree_clone.c 59 := tie_full model_tree_clone.tiedCalls Try.func59 (by kernel_rfl) (by kernel_rfl) (by kernel_rfl) model_tree_clone.eq
theorem model_Model_Begin.tiedCalls : CallsTied Try.prog model_Model_Begin.calls [59] 0 := ⟨⟨_, rfl, model_tree_clone.tied⟩, (fun j hj => by first | rfl | (match j, hj with | j + 1, _ => rfl))⟩
theorem model_Model_Begin.tied : Tied Try.prog model_Model_Begin.c 28 := tie_full model_Model_Begin.tiedCalls Try.func28 (by kernel_rfl) (by kernel_rfl) (by kernel_rfl) model_Model_Begin.eq
theorem rec_fields.tiedCalls : CallsTied Try.prog rec_fields.calls [] 0 := (fun _ _ => rfl)
theorem rec_fields.tied : Tied Try.prog rec_fields.c 76 := tie_full rec_fields.tiedCalls Try.func76 (by kernel_rfl) (by kernel_rfl) (by kernel_rfl) rec_fields.eq
theorem rec_in.tiedCalls : CallsTied Try.prog rec_in.calls [] 0 := (fun _ _ => rfl)
theorem rec_in.tied : Tied Try.prog rec_in.c 77 := tie_pure rec_in.tiedCalls Try.func77 (by kernel_rfl) (by kernel_rfl) (by kernel_rfl) (by kernel_rfl) (by kernel_rfl) rec_in.eq
theorem rec_Check.tiedCalls : CallsTied Try.prog rec_Check.calls [76, 77] 0 := ⟨⟨_, rfl, rec_fields.tied⟩, ⟨⟨_, rfl, rec_in.tied⟩, (fun j hj => by first | rfl | (match j, hj with | j + 2, _ => rfl))⟩⟩
theorem rec_Check.tied : Tied Try.prog rec_Check.c 48 := tie_pure rec_Check.tiedCalls Try.func48 (by kernel_rfl) (by kernel_rfl) (by kernel_rfl) (by kernel_rfl) (by kernel_rfl) rec_Check.eq
theorem model_tree_may.tiedCalls : CallsTied Try.prog model_tree_may.calls [] 0 := (fun _ _ => rfl)
theorem model_tree_may.tied : Tied Try.prog model_tree_may.c 61 := tie_full model_tree_may.tiedCalls Try.func61 (by kernel_rfl) (by kernel_rfl) (by kernel_rfl) model_tree_may.eq
theorem model_tree_do.tiedCalls : CallsTied Try.prog model_tree_do.calls [94] 0 := ⟨⟨_, rfl, mclone.tied94⟩, (fun j hj => by first | rfl | (match j, hj with | j + 1, _ => rfl))⟩
theorem model_tree_do.tied : Tied Try.prog model_tree_do.c 65 := tie_full model_tree_do.tiedCalls Try.func65 (by kernel_rfl) (by kernel_rfl) (by kernel_rfl) model_tree_do.eq
theorem model_Model_Do_1.tiedCalls : CallsTied Try.prog model_Model_Do_1.calls [65] 0 := ⟨⟨_, rfl, model_tree_do.tied⟩, (fun j hj => by first | rfl | (match j, hj with | j + 1, _ => rfl))⟩
theorem model_Model_Do_1.tied : Tied Try.prog model_Model_Do_1.c 64 := tie_full model_Model_Do_1.tiedCalls Try.func64 (by kernel_rfl) (by kernel_rfl) (by kernel_rfl) model_Model_Do_1.eq
theorem model_tree_fits.tiedCalls : CallsTied Try.prog model_tree_fits.calls [] 0 := (fun _ _ => rfl)
theorem model_tree_fits.tied : Tied Try.prog model_tree_fits.c 95 := tie_full model_tree_fits.tiedCalls Try.func95 (by kernel_rfl) (by kernel_rfl) (by kernel_rfl) model_tree_fits.eq
theorem model_Model_step_of_model_Model_Do_1.tiedCalls : CallsTied Try.prog model_Model_step_of_model_Model_Do_1.calls [59, 64, 95] 0 := ⟨⟨_, rfl, model_tree_clone.tied⟩, ⟨⟨_, rfl, model_Model_Do_1.tied⟩, ⟨⟨_, rfl, model_tree_fits.tied⟩, (fun j hj => by first | rfl | (match j, hj with | j + 3, _ => rfl))⟩⟩⟩
theorem model_Model_step_of_model_Model_Do_1.tied : Tied Try.prog model_Model_step_of_model_Model_Do_1.c 62 := tie_full model_Model_step_of_model_Model_Do_1.tiedCalls Try.func62 (by kernel_rfl) (by kernel_rfl) (by kernel_rfl) model_Model_step_of_model_Model_Do_1.eq
theorem model_Model_Do.tiedCalls : CallsTied Try.prog model_Model_Do.calls [48, 61, 62] 0 := ⟨⟨_, rfl, rec_Check.tied⟩, ⟨⟨_, rfl, model_tree_may.tied⟩, ⟨⟨_, rfl, model_Model_step_of_model_Model_Do_1.tied⟩, (fun j hj => by first | rfl | (match j, hj with | j + 3, _ => rfl))⟩⟩⟩
theorem model_Model_Do.tied : Tied Try.prog model_Model_Do.c 32 := tie_full model_Model_Do.tiedCalls Try.func32 (by kernel_rfl) (by kernel_rfl) (by kernel_rfl) model_Model_Do.eq
theorem model_Model_Put_1.tiedCalls : CallsTied Try.prog model_Model_Put_1.calls [] 0 := (fun _ _ => rfl)
theorem model_Model_Put_1.tied : Tied Try.prog model_Model_Put_1.c 63 := tie_full model_Model_Put_1.tiedCalls Try.func63 (by kernel_rfl) (by kernel_rfl) (by kernel_rfl) model_Model_Put_1.eq
theorem model_Model_step_of_model_Model_Put_1.tiedCalls : CallsTied Try.prog model_Model_step_of_model_Model_Put_1.calls [59, 63, 95] 0 := ⟨⟨_, rfl, model_tree_clone.tied⟩, ⟨⟨_, rfl, model_Model_Put_1.tied⟩, ⟨⟨_, rfl, model_tree_fits.tied⟩, (fun j hj => by first | rfl | (match j, hj with | j + 3, _ => rfl))⟩⟩⟩
theorem model_Model_step_of_model_Model_Put_1.tied : Tied Try.prog model_Model_step_of_model_Model_Put_1.c 62 := tie_full model_Model_step_of_model_Model_Put_1.tiedCalls Try.func62 (by kernel_rfl) (by kernel_rfl) (by kernel_rfl) model_Model_step_of_model_Model_Put_1.eq
theorem model_Model_Put.tiedCalls : CallsTied Try.prog model_Model_Put.calls [61, 62] 0 := ⟨⟨_, rfl, model_tree_may.tied⟩, ⟨⟨_, rfl, model_Model_step_of_model_Model_Put_1.tied⟩, (fun j hj => by first | rfl | (match j, hj with | j + 2, _ => rfl))⟩⟩
theorem model_Model_Put.tied : Tied Try.prog model_Model_Put.c 31 := tie_full model_Model_Put.tiedCalls Try.func31 (by kernel_rfl) (by kernel_rfl) (by kernel_rfl) model_Model_Put.eq
theorem model_Model_end.tiedCalls : CallsTied Try.prog model_Model_end.calls [] 0 := (fun _ _ => rfl)
theorem model_Model_end.tied : Tied Try.prog model_Model_end.c 60 := tie_full model_Model_end.tiedCalls Try.func60 (by kernel_rfl) (by kernel_rfl) (by kernel_rfl) model_Model_end.eq
theorem model_Model_Commit.tiedCalls : CallsTied Try.prog model_Model_Commit.calls [60] 0 := ⟨⟨_, rfl, model_Model_end.tied⟩, (fun j hj => by first | rfl | (match j, hj with | j + 1, _ => rfl))⟩
theorem model_Model_Commit.tied : Tied Try.prog model_Model_Commit.c 29 := tie_full model_Model_Commit.tiedCalls Try.func29 (by kernel_rfl) (by kernel_rfl) (by kernel_rfl) model_Model_Commit.eq
theorem model_Model_see.tiedCalls : CallsTied Try.prog model_Model_see.calls [] 0 := (fun _ _ => rfl)
theorem model_Model_see.tied : Tied Try.prog model_Model_see.c 72 := tie_full model_Model_see.tiedCalls Try.func72 (by kernel_rfl) (by kernel_rfl) (by kernel_rfl) model_Model_see.eq
theorem model_Model_Get.tiedCalls : CallsTied Try.prog model_Model_Get.calls [72] 0 := ⟨⟨_, rfl, model_Model_see.tied⟩, (fun j hj => by first | rfl | (match j, hj with | j + 1, _ => rfl))⟩
theorem model_Model_Get.tied : Tied Try.prog model_Model_Get.c 41 := tie_full model_Model_Get.tiedCalls Try.func41 (by kernel_rfl) (by kernel_rfl) (by kernel_rfl) model_Model_Get.eq
theorem maps_Keys_model_tree_int_model_space.tiedCalls : CallsTied Try.prog maps_Keys_model_tree_int_model_space.calls [] 0 := (fun _ _ => rfl)
theorem maps_Keys_model_tree_int_model_space.tied : Tied Try.prog maps_Keys_model_tree_int_model_space.c 73 := tie_full maps_Keys_model_tree_int_model_space.tiedCalls Try.func73 (by kernel_rfl) (by kernel_rfl) (by kernel_rfl) maps_Keys_model_tree_int_model_space.eq
theorem maps_Keys_map_int_model_leaf_int_model_leaf.tiedCalls : CallsTied Try.prog maps_Keys_map_int_model_leaf_int_model_leaf.calls [] 0 := (fun _ _ => rfl)
theorem maps_Keys_map_int_model_leaf_int_model_leaf.tied : Tied Try.prog maps_Keys_map_int_model_leaf_int_model_leaf.c 74 := tie_full maps_Keys_map_int_model_leaf_int_model_leaf.tiedCalls Try.func74 (by kernel_rfl) (by kernel_rfl) (by kernel_rfl) maps_Keys_map_int_model_leaf_int_model_leaf.eq
theorem model_Model_Leaves.tiedCalls : CallsTied Try.prog model_Model_Leaves.calls [72, 73, 56, 74, 56] 0 := ⟨⟨_, rfl, model_Model_see.tied⟩, ⟨⟨_, rfl, maps_Keys_model_tree_int_model_space.tied⟩, ⟨⟨_, rfl, sortedKeys.tied97⟩, ⟨⟨_, rfl, maps_Keys_map_int_model_leaf_int_model_leaf.tied⟩, ⟨⟨_, rfl, sortedKeys.tied98⟩, (fun j hj => by first | rfl | (match j, hj with | j + 5, _ => rfl))⟩⟩⟩⟩⟩
theorem model_Model_Leaves.tied : Tied Try.prog model_Model_Leaves.c 38 := tie_full model_Model_Leaves.tiedCalls Try.func38 (by kernel_rfl) (by kernel_rfl) (by kernel_rfl) model_Model_Leaves.eq
theorem model_Model_Spaces.tiedCalls : CallsTied Try.prog model_Model_Spaces.calls [72, 73, 56] 0 := ⟨⟨_, rfl, model_Model_see.tied⟩, ⟨⟨_, rfl, maps_Keys_model_tree_int_model_space.tied⟩, ⟨⟨_, rfl, sortedKeys.tied97⟩, (fun j hj => by first | rfl | (match j, hj with | j + 3, _ => rfl))⟩⟩⟩
theorem model_Model_Spaces.tied : Tied Try.prog model_Model_Spaces.c 39 := tie_full model_Model_Spaces.tiedCalls Try.func39 (by kernel_rfl) (by kernel_rfl) (by kernel_rfl) model_Model_Spaces.eq
theorem law19_awake.tiedCalls : CallsTied Try.prog law19_awake.calls [25, 26, 28, 32, 31, 29, 41, 38, 39] 0 := ⟨⟨_, rfl, law19_room.tied⟩, ⟨⟨_, rfl, model_New.tied⟩, ⟨⟨_, rfl, model_Model_Begin.tied⟩, ⟨⟨_, rfl, model_Model_Do.tied⟩, ⟨⟨_, rfl, model_Model_Put.tied⟩, ⟨⟨_, rfl, model_Model_Commit.tied⟩, ⟨⟨_, rfl, model_Model_Get.tied⟩, ⟨⟨_, rfl, model_Model_Leaves.tied⟩, ⟨⟨_, rfl, model_Model_Spaces.tied⟩, (fun j hj => by first | rfl | (match j, hj with | j + 9, _ => rfl))⟩⟩⟩⟩⟩⟩⟩⟩⟩
theorem law19_awake.tied : Tied Try.prog law19_awake.c 27 := tie_pure law19_awake.tiedCalls Try.func27 (by kernel_rfl) (by kernel_rfl) (by kernel_rfl) (by kernel_rfl) (by kernel_rfl) law19_awake.eq
theorem model_Model_Abort.tiedCalls : CallsTied Try.prog model_Model_Abort.calls [60] 0 := ⟨⟨_, rfl, model_Model_end.tied⟩, (fun j hj => by first | rfl | (match j, hj with | j + 1, _ => rfl))⟩
theorem model_Model_Abort.tied : Tied Try.prog model_Model_Abort.c 30 := tie_full model_Model_Abort.tiedCalls Try.func30 (by kernel_rfl) (by kernel_rfl) (by kernel_rfl) model_Model_Abort.eq
theorem law17_sealed.tiedCalls : CallsTied Try.prog law17_sealed.calls [] 0 := (fun _ _ => rfl)
theorem law17_sealed.tied : Tied Try.prog law17_sealed.c 66 := tie_full law17_sealed.tiedCalls Try.func66 (by kernel_rfl) (by kernel_rfl) (by kernel_rfl) law17_sealed.eq
theorem ref08_State_find.tiedCalls : CallsTied Try.prog ref08_State_find.calls [] 0 := (fun _ _ => rfl)
theorem ref08_State_find.tied : Tied Try.prog ref08_State_find.c 83 := tie_full ref08_State_find.tiedCalls Try.func83 (by kernel_rfl) (by kernel_rfl) (by kernel_rfl) ref08_State_find.eq
theorem ref08_State_Get.tiedCalls : CallsTied Try.prog ref08_State_Get.calls [] 0 := (fun _ _ => rfl)
theorem ref08_State_Get.tied : Tied Try.prog ref08_State_Get.c 21 := tie_full ref08_State_Get.tiedCalls Try.func21 (by kernel_rfl) (by kernel_rfl) (by kernel_rfl) ref08_State_Get.eq
theorem ref08_State_Refs.tiedCalls : CallsTied Try.prog ref08_State_Refs.calls [] 0 := (fun _ _ => rfl)
theorem ref08_State_Refs.tied : Tied Try.prog ref08_State_Refs.c 54 := tie_full ref08_State_Refs.tiedCalls Try.func54 (by kernel_rfl) (by kernel_rfl) (by kernel_rfl) ref08_State_Refs.eq
theorem ref08_State_made.tiedCalls : CallsTied Try.prog ref08_State_made.calls [] 0 := (fun _ _ => rfl)
theorem ref08_State_made.tied : Tied Try.prog ref08_State_made.c 84 := tie_full ref08_State_made.tiedCalls Try.func84 (by kernel_rfl) (by kernel_rfl) (by kernel_rfl) ref08_State_made.eq
theorem ref08_State_bad.tiedCalls : CallsTied Try.prog ref08_State_bad.calls [] 0 := (fun _ _ => rfl)
theorem ref08_State_bad.tied : Tied Try.prog ref08_State_bad.c 85 := tie_full ref08_State_bad.tiedCalls Try.func85 (by kernel_rfl) (by kernel_rfl) (by kernel_rfl) ref08_State_bad.eq
theorem ref08_State_worn.tiedCalls : CallsTied Try.prog ref08_State_worn.calls [] 0 := (fun _ _ => rfl)
theorem ref08_State_worn.tied : Tied Try.prog ref08_State_worn.c 86 := tie_full ref08_State_worn.tiedCalls Try.func86 (by kernel_rfl) (by kernel_rfl) (by kernel_rfl) ref08_State_worn.eq
theorem ref08_State_with.tiedCalls : CallsTied Try.prog ref08_State_with.calls [] 0 := (fun _ _ => rfl)
theorem ref08_State_with.tied : Tied Try.prog ref08_State_with.c 87 := tie_full ref08_State_with.tiedCalls Try.func87 (by kernel_rfl) (by kernel_rfl) (by kernel_rfl) ref08_State_with.eq
theorem ref08_State_without.tiedCalls : CallsTied Try.prog ref08_State_without.calls [] 0 := (fun _ _ => rfl)
theorem ref08_State_without.tied : Tied Try.prog ref08_State_without.c 88 := tie_full ref08_State_without.tiedCalls Try.func88 (by kernel_rfl) (by kernel_rfl) (by kernel_rfl) ref08_State_without.eq
theorem ref08_State_dropped.tiedCalls : CallsTied Try.prog ref08_State_dropped.calls [88] 0 := ⟨⟨_, rfl, ref08_State_without.tied⟩, (fun j hj => by first | rfl | (match j, hj with | j + 1, _ => rfl))⟩
theorem ref08_State_dropped.tied : Tied Try.prog ref08_State_dropped.c 89 := tie_full ref08_State_dropped.tiedCalls Try.func89 (by kernel_rfl) (by kernel_rfl) (by kernel_rfl) ref08_State_dropped.eq
theorem ref08_State_Do.tiedCalls : CallsTied Try.prog ref08_State_Do.calls [83, 21, 54, 84, 85, 86, 87, 88, 89] 0 := ⟨⟨_, rfl, ref08_State_find.tied⟩, ⟨⟨_, rfl, ref08_State_Get.tied⟩, ⟨⟨_, rfl, ref08_State_Refs.tied⟩, ⟨⟨_, rfl, ref08_State_made.tied⟩, ⟨⟨_, rfl, ref08_State_bad.tied⟩, ⟨⟨_, rfl, ref08_State_worn.tied⟩, ⟨⟨_, rfl, ref08_State_with.tied⟩, ⟨⟨_, rfl, ref08_State_without.tied⟩, ⟨⟨_, rfl, ref08_State_dropped.tied⟩, (fun j hj => by first | rfl | (match j, hj with | j + 9, _ => rfl))⟩⟩⟩⟩⟩⟩⟩⟩⟩
theorem ref08_State_Do.tied : Tied Try.prog ref08_State_Do.c 51 := tie_full ref08_State_Do.tiedCalls Try.func51 (by kernel_rfl) (by kernel_rfl) (by kernel_rfl) ref08_State_Do.eq
theorem ref16_Plain_Put.tiedCalls : CallsTied Try.prog ref16_Plain_Put.calls [51] 0 := ⟨⟨_, rfl, ref08_State_Do.tied⟩, (fun j hj => by first | rfl | (match j, hj with | j + 1, _ => rfl))⟩
theorem ref16_Plain_Put.tied : Tied Try.prog ref16_Plain_Put.c 67 := tie_full ref16_Plain_Put.tiedCalls Try.func67 (by kernel_rfl) (by kernel_rfl) (by kernel_rfl) ref16_Plain_Put.eq
theorem ref08_State_Live.tiedCalls : CallsTied Try.prog ref08_State_Live.calls [] 0 := (fun _ _ => rfl)
theorem ref08_State_Live.tied : Tied Try.prog ref08_State_Live.c 52 := tie_full ref08_State_Live.tiedCalls Try.func52 (by kernel_rfl) (by kernel_rfl) (by kernel_rfl) ref08_State_Live.eq
theorem ref16_Plain_Fits.tiedCalls : CallsTied Try.prog ref16_Plain_Fits.calls [52] 0 := ⟨⟨_, rfl, ref08_State_Live.tied⟩, (fun j hj => by first | rfl | (match j, hj with | j + 1, _ => rfl))⟩
theorem ref16_Plain_Fits.tied : Tied Try.prog ref16_Plain_Fits.c 68 := tie_full ref16_Plain_Fits.tiedCalls Try.func68 (by kernel_rfl) (by kernel_rfl) (by kernel_rfl) ref16_Plain_Fits.eq
theorem law17_Plain_Put.tiedCalls : CallsTied Try.prog law17_Plain_Put.calls [66, 67, 68] 0 := ⟨⟨_, rfl, law17_sealed.tied⟩, ⟨⟨_, rfl, ref16_Plain_Put.tied⟩, ⟨⟨_, rfl, ref16_Plain_Fits.tied⟩, (fun j hj => by first | rfl | (match j, hj with | j + 3, _ => rfl))⟩⟩⟩
theorem law17_Plain_Put.tied : Tied Try.prog law17_Plain_Put.c 33 := tie_full law17_Plain_Put.tiedCalls Try.func33 (by kernel_rfl) (by kernel_rfl) (by kernel_rfl) law17_Plain_Put.eq
theorem ref07_row.tiedCalls : CallsTied Try.prog ref07_row.calls [] 0 := (fun _ _ => rfl)
theorem ref07_row.tied : Tied Try.prog ref07_row.c 81 := tie_full ref07_row.tiedCalls Try.func81 (by kernel_rfl) (by kernel_rfl) (by kernel_rfl) ref07_row.eq
theorem ref07_of.tiedCalls : CallsTied Try.prog ref07_of.calls [] 0 := (fun _ _ => rfl)
theorem ref07_of.tied : Tied Try.prog ref07_of.c 82 := tie_full ref07_of.tiedCalls Try.func82 (by kernel_rfl) (by kernel_rfl) (by kernel_rfl) ref07_of.eq
theorem ref07_Check.tiedCalls : CallsTied Try.prog ref07_Check.calls [81, 82] 0 := ⟨⟨_, rfl, ref07_row.tied⟩, ⟨⟨_, rfl, ref07_of.tied⟩, (fun j hj => by first | rfl | (match j, hj with | j + 2, _ => rfl))⟩⟩
theorem ref07_Check.tied : Tied Try.prog ref07_Check.c 50 := tie_pure ref07_Check.tiedCalls Try.func50 (by kernel_rfl) (by kernel_rfl) (by kernel_rfl) (by kernel_rfl) (by kernel_rfl) ref07_Check.eq
theorem law17_Plain_Do.tiedCalls : CallsTied Try.prog law17_Plain_Do.calls [50, 66, 51, 68] 0 := ⟨⟨_, rfl, ref07_Check.tied⟩, ⟨⟨_, rfl, law17_sealed.tied⟩, ⟨⟨_, rfl, ref08_State_Do.tied⟩, ⟨⟨_, rfl, ref16_Plain_Fits.tied⟩, (fun j hj => by first | rfl | (match j, hj with | j + 4, _ => rfl))⟩⟩⟩⟩
theorem law17_Plain_Do.tied : Tied Try.prog law17_Plain_Do.c 34 := tie_full law17_Plain_Do.tiedCalls Try.func34 (by kernel_rfl) (by kernel_rfl) (by kernel_rfl) law17_Plain_Do.eq
theorem ref08_State_Pages.tiedCalls : CallsTied Try.prog ref08_State_Pages.calls [] 0 := (fun _ _ => rfl)
theorem ref08_State_Pages.tied : Tied Try.prog ref08_State_Pages.c 53 := tie_full ref08_State_Pages.tiedCalls Try.func53 (by kernel_rfl) (by kernel_rfl) (by kernel_rfl) ref08_State_Pages.eq
theorem ref16_Plain_Get.tiedCalls : CallsTied Try.prog ref16_Plain_Get.calls [21] 0 := ⟨⟨_, rfl, ref08_State_Get.tied⟩, (fun j hj => by first | rfl | (match j, hj with | j + 1, _ => rfl))⟩
theorem ref16_Plain_Get.tied : Tied Try.prog ref16_Plain_Get.c 69 := tie_full ref16_Plain_Get.tiedCalls Try.func69 (by kernel_rfl) (by kernel_rfl) (by kernel_rfl) ref16_Plain_Get.eq
theorem law19_same.tiedCalls : CallsTied Try.prog law19_same.calls [39, 38, 53, 69, 41] 0 := ⟨⟨_, rfl, model_Model_Spaces.tied⟩, ⟨⟨_, rfl, model_Model_Leaves.tied⟩, ⟨⟨_, rfl, ref08_State_Pages.tied⟩, ⟨⟨_, rfl, ref16_Plain_Get.tied⟩, ⟨⟨_, rfl, model_Model_Get.tied⟩, (fun j hj => by first | rfl | (match j, hj with | j + 5, _ => rfl))⟩⟩⟩⟩⟩
theorem law19_same.tied : Tied Try.prog law19_same.c 35 := tie_full law19_same.tiedCalls Try.func35 (by kernel_rfl) (by kernel_rfl) (by kernel_rfl) law19_same.eq
theorem law19_ModelPlays.tiedCalls : CallsTied Try.prog law19_ModelPlays.calls [25, 26, 27, 28, 29, 30, 31, 32, 33, 34, 35] 0 := ⟨⟨_, rfl, law19_room.tied⟩, ⟨⟨_, rfl, model_New.tied⟩, ⟨⟨_, rfl, law19_awake.tied⟩, ⟨⟨_, rfl, model_Model_Begin.tied⟩, ⟨⟨_, rfl, model_Model_Commit.tied⟩, ⟨⟨_, rfl, model_Model_Abort.tied⟩, ⟨⟨_, rfl, model_Model_Put.tied⟩, ⟨⟨_, rfl, model_Model_Do.tied⟩, ⟨⟨_, rfl, law17_Plain_Put.tied⟩, ⟨⟨_, rfl, law17_Plain_Do.tied⟩, ⟨⟨_, rfl, law19_same.tied⟩, (fun j hj => by first | rfl | (match j, hj with | j + 11, _ => rfl))⟩⟩⟩⟩⟩⟩⟩⟩⟩⟩⟩
theorem law19_ModelPlays.tied : Tied Try.prog law19_ModelPlays.c 7 := tie_full law19_ModelPlays.tiedCalls Try.func7 (by kernel_rfl) (by kernel_rfl) (by kernel_rfl) law19_ModelPlays.eq
theorem law19_play.tiedCalls : CallsTied Try.prog law19_play.calls [28, 29, 30, 31, 32] 0 := ⟨⟨_, rfl, model_Model_Begin.tied⟩, ⟨⟨_, rfl, model_Model_Commit.tied⟩, ⟨⟨_, rfl, model_Model_Abort.tied⟩, ⟨⟨_, rfl, model_Model_Put.tied⟩, ⟨⟨_, rfl, model_Model_Do.tied⟩, (fun j hj => by first | rfl | (match j, hj with | j + 5, _ => rfl))⟩⟩⟩⟩⟩
theorem law19_play.tied : Tied Try.prog law19_play.c 37 := tie_full law19_play.tiedCalls Try.func37 (by kernel_rfl) (by kernel_rfl) (by kernel_rfl) law19_play.eq
theorem model_Model_Copy.tiedCalls : CallsTied Try.prog model_Model_Copy.calls [59] 0 := ⟨⟨_, rfl, model_tree_clone.tied⟩, (fun j hj => by first | rfl | (match j, hj with | j + 1, _ => rfl))⟩
theorem model_Model_Copy.tied : Tied Try.prog model_Model_Copy.c 40 := tie_full model_Model_Copy.tiedCalls Try.func40 (by kernel_rfl) (by kernel_rfl) (by kernel_rfl) model_Model_Copy.eq
theorem law19_ModelCopies.tiedCalls : CallsTied Try.prog law19_ModelCopies.calls [25, 26, 37, 38, 39, 40, 27] 0 := ⟨⟨_, rfl, law19_room.tied⟩, ⟨⟨_, rfl, model_New.tied⟩, ⟨⟨_, rfl, law19_play.tied⟩, ⟨⟨_, rfl, model_Model_Leaves.tied⟩, ⟨⟨_, rfl, model_Model_Spaces.tied⟩, ⟨⟨_, rfl, model_Model_Copy.tied⟩, ⟨⟨_, rfl, law19_awake.tied⟩, (fun j hj => by first | rfl | (match j, hj with | j + 7, _ => rfl))⟩⟩⟩⟩⟩⟩⟩
theorem law19_ModelCopies.tied : Tied Try.prog law19_ModelCopies.c 9 := tie_full law19_ModelCopies.tiedCalls Try.func9 (by kernel_rfl) (by kernel_rfl) (by kernel_rfl) law19_ModelCopies.eq
theorem law19_ModelNone.tiedCalls : CallsTied Try.prog law19_ModelNone.calls [41, 27, 28, 31, 32, 29, 30, 39, 38, 40] 0 := ⟨⟨_, rfl, model_Model_Get.tied⟩, ⟨⟨_, rfl, law19_awake.tied⟩, ⟨⟨_, rfl, model_Model_Begin.tied⟩, ⟨⟨_, rfl, model_Model_Put.tied⟩, ⟨⟨_, rfl, model_Model_Do.tied⟩, ⟨⟨_, rfl, model_Model_Commit.tied⟩, ⟨⟨_, rfl, model_Model_Abort.tied⟩, ⟨⟨_, rfl, model_Model_Spaces.tied⟩, ⟨⟨_, rfl, model_Model_Leaves.tied⟩, ⟨⟨_, rfl, model_Model_Copy.tied⟩, (fun j hj => by first | rfl | (match j, hj with | j + 10, _ => rfl))⟩⟩⟩⟩⟩⟩⟩⟩⟩⟩
theorem law19_ModelNone.tied : Tied Try.prog law19_ModelNone.c 10 := tie_pure law19_ModelNone.tiedCalls Try.func10 (by kernel_rfl) (by kernel_rfl) (by kernel_rfl) (by kernel_rfl) (by kernel_rfl) law19_ModelNone.eq
end Ev
