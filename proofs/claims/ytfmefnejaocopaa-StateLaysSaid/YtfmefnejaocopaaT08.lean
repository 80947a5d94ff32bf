/- The functions are those of the program: the kernel checks the code, one by one. Written by gen2.py. -/
import Derived.Test.YtfmefnejaocopaaEvTie
import Derived.Test.YtfmefnejaocopaaGMaps
import Derived.Test.YtfmefnejaocopaaGRec
import Derived.Test.YtfmefnejaocopaaGState
import Derived.Test.YtfmefnejaocopaaGRef07
import Derived.Test.YtfmefnejaocopaaGRef08
import Derived.Test.YtfmefnejaocopaaGLaw08
import Derived.Test.YtfmefnejaocopaaPk
import Derived.Test.YtfmefnejaocopaaProg
import Derived.KernelRfl
set_option maxRecDepth 100000
namespace Ev
open Go Go.Proofs
theorem state_New.tiedCalls : CallsTied Try.prog state_New.calls [] 0 := (fun _ _ => rfl)
theorem state_New.tied : Tied Try.prog state_New.c 12 := tie_full state_New.tiedCalls Try.func12 (by kernel_rfl) (by kernel_rfl) (by kernel_rfl) state_New.eq
theorem rec_fields.tiedCalls : CallsTied Try.prog rec_fields.calls [] 0 := (fun _ _ => rfl)
theorem rec_fields.tied : Tied Try.prog rec_fields.c 76 := tie_full rec_fields.tiedCalls Try.func76 (by kernel_rfl) (by kernel_rfl) (by kernel_rfl) rec_fields.eq
theorem rec_in.tiedCalls : CallsTied Try.prog rec_in.calls [] 0 := (fun _ _ => rfl)
theorem rec_in.tied : Tied Try.prog rec_in.c 77 := tie_pure rec_in.tiedCalls Try.func77 (by kernel_rfl) (by kernel_rfl) (by kernel_rfl) (by kernel_rfl) (by kernel_rfl) rec_in.eq
theorem rec_Check.tiedCalls : CallsTied Try.prog rec_Check.calls [76, 77] 0 := ⟨⟨_, rfl, rec_fields.tied⟩, ⟨⟨_, rfl, rec_in.tied⟩, (fun j hj => by first | rfl | (match j, hj with | j + 2, _ => rfl))⟩⟩
theorem rec_Check.tied : Tied Try.prog rec_Check.c 48 := tie_pure rec_Check.tiedCalls Try.func48 (by kernel_rfl) (by kernel_rfl) (by kernel_rfl) (by kernel_rfl) (by kernel_rfl) rec_Check.eq
theorem state_State_open.tiedCalls : CallsTied Try.prog state_State_open.calls [70] 0 := ⟨⟨_, rfl, mclone.tied70⟩, (fun j hj => by first | rfl | (match j, hj with | j + 1, _ => rfl))⟩
theorem state_State_open.tied : Tied Try.prog state_State_open.c 78 := tie_full state_State_open.tiedCalls Try.func78 (by kernel_rfl) (by kernel_rfl) (by kernel_rfl) state_State_open.eq
theorem state_State_move.tiedCalls : CallsTied Try.prog state_State_move.calls [] 0 := (fun _ _ => rfl)
theorem state_State_move.tied : Tied Try.prog state_State_move.c 79 := tie_full state_State_move.tiedCalls Try.func79 (by kernel_rfl) (by kernel_rfl) (by kernel_rfl) state_State_move.eq
theorem state_State_point.tiedCalls : CallsTied Try.prog state_State_point.calls [] 0 := (fun _ _ => rfl)
theorem state_State_point.tied : Tied Try.prog state_State_point.c 80 := tie_full state_State_point.tiedCalls Try.func80 (by kernel_rfl) (by kernel_rfl) (by kernel_rfl) state_State_point.eq
theorem state_State_apply.tiedCalls : CallsTied Try.prog state_State_apply.calls [78, 79, 80, 70] 0 := ⟨⟨_, rfl, state_State_open.tied⟩, ⟨⟨_, rfl, state_State_move.tied⟩, ⟨⟨_, rfl, state_State_point.tied⟩, ⟨⟨_, rfl, mclone.tied70⟩, (fun j hj => by first | rfl | (match j, hj with | j + 4, _ => rfl))⟩⟩⟩⟩
theorem state_State_apply.tied : Tied Try.prog state_State_apply.c 49 := tie_full state_State_apply.tiedCalls Try.func49 (by kernel_rfl) (by kernel_rfl) (by kernel_rfl) state_State_apply.eq
theorem state_State_Apply.tiedCalls : CallsTied Try.prog state_State_Apply.calls [48, 49] 0 := ⟨⟨_, rfl, rec_Check.tied⟩, ⟨⟨_, rfl, state_State_apply.tied⟩, (fun j hj => by first | rfl | (match j, hj with | j + 2, _ => rfl))⟩⟩
theorem state_State_Apply.tied : Tied Try.prog state_State_Apply.c 13 := tie_full state_State_Apply.tiedCalls Try.func13 (by kernel_rfl) (by kernel_rfl) (by kernel_rfl) state_State_Apply.eq
theorem state_State_Get.tiedCalls : CallsTied Try.prog state_State_Get.calls [] 0 := (fun _ _ => rfl)
theorem state_State_Get.tied : Tied Try.prog state_State_Get.c 20 := tie_full state_State_Get.tiedCalls Try.func20 (by kernel_rfl) (by kernel_rfl) (by kernel_rfl) state_State_Get.eq
theorem state_State_Refs.tiedCalls : CallsTied Try.prog state_State_Refs.calls [] 0 := (fun _ _ => rfl)
theorem state_State_Refs.tied : Tied Try.prog state_State_Refs.c 45 := tie_full state_State_Refs.tiedCalls Try.func45 (by kernel_rfl) (by kernel_rfl) (by kernel_rfl) state_State_Refs.eq
theorem state_State_Live.tiedCalls : CallsTied Try.prog state_State_Live.calls [] 0 := (fun _ _ => rfl)
theorem state_State_Live.tied : Tied Try.prog state_State_Live.c 46 := tie_full state_State_Live.tiedCalls Try.func46 (by kernel_rfl) (by kernel_rfl) (by kernel_rfl) state_State_Live.eq
theorem maps_Keys_map_int_state_space_int_state_space.tiedCalls : CallsTied Try.prog maps_Keys_map_int_state_space_int_state_space.calls [] 0 := (fun _ _ => rfl)
theorem maps_Keys_map_int_state_space_int_state_space.tied : Tied Try.prog maps_Keys_map_int_state_space_int_state_space.c 75 := tie_full maps_Keys_map_int_state_space_int_state_space.tiedCalls Try.func75 (by kernel_rfl) (by kernel_rfl) (by kernel_rfl) maps_Keys_map_int_state_space_int_state_space.eq
theorem state_State_Space.tiedCalls : CallsTied Try.prog state_State_Space.calls [] 0 := (fun _ _ => rfl)
theorem state_State_Space.tied : Tied Try.prog state_State_Space.c 42 := tie_full state_State_Space.tiedCalls Try.func42 (by kernel_rfl) (by kernel_rfl) (by kernel_rfl) state_State_Space.eq
theorem state_State_Spaces.tiedCalls : CallsTied Try.prog state_State_Spaces.calls [75, 56, 42] 0 := ⟨⟨_, rfl, maps_Keys_map_int_state_space_int_state_space.tied⟩, ⟨⟨_, rfl, sortedKeys.tied99⟩, ⟨⟨_, rfl, state_State_Space.tied⟩, (fun j hj => by first | rfl | (match j, hj with | j + 3, _ => rfl))⟩⟩⟩
theorem state_State_Spaces.tied : Tied Try.prog state_State_Spaces.c 44 := tie_full state_State_Spaces.tiedCalls Try.func44 (by kernel_rfl) (by kernel_rfl) (by kernel_rfl) state_State_Spaces.eq
theorem state_State_Keys.tiedCalls : CallsTied Try.prog state_State_Keys.calls [44] 0 := ⟨⟨_, rfl, state_State_Spaces.tied⟩, (fun j hj => by first | rfl | (match j, hj with | j + 1, _ => rfl))⟩
theorem state_State_Keys.tied : Tied Try.prog state_State_Keys.c 47 := tie_full state_State_Keys.tiedCalls Try.func47 (by kernel_rfl) (by kernel_rfl) (by kernel_rfl) state_State_Keys.eq
theorem law08_awake.tiedCalls : CallsTied Try.prog law08_awake.calls [12, 13, 20, 45, 46, 47, 44] 0 := ⟨⟨_, rfl, state_New.tied⟩, ⟨⟨_, rfl, state_State_Apply.tied⟩, ⟨⟨_, rfl, state_State_Get.tied⟩, ⟨⟨_, rfl, state_State_Refs.tied⟩, ⟨⟨_, rfl, state_State_Live.tied⟩, ⟨⟨_, rfl, state_State_Keys.tied⟩, ⟨⟨_, rfl, state_State_Spaces.tied⟩, (fun j hj => by first | rfl | (match j, hj with | j + 7, _ => rfl))⟩⟩⟩⟩⟩⟩⟩
theorem law08_awake.tied : Tied Try.prog law08_awake.c 16 := tie_pure law08_awake.tiedCalls Try.func16 (by kernel_rfl) (by kernel_rfl) (by kernel_rfl) (by kernel_rfl) (by kernel_rfl) law08_awake.eq
theorem ref07_row.tiedCalls : CallsTied Try.prog ref07_row.calls [] 0 := (fun _ _ => rfl)
theorem ref07_row.tied : Tied Try.prog ref07_row.c 81 := tie_full ref07_row.tiedCalls Try.func81 (by kernel_rfl) (by kernel_rfl) (by kernel_rfl) ref07_row.eq
theorem ref07_of.tiedCalls : CallsTied Try.prog ref07_of.calls [] 0 := (fun _ _ => rfl)
theorem ref07_of.tied : Tied Try.prog ref07_of.c 82 := tie_full ref07_of.tiedCalls Try.func82 (by kernel_rfl) (by kernel_rfl) (by kernel_rfl) ref07_of.eq
theorem ref07_Check.tiedCalls : CallsTied Try.prog ref07_Check.calls [81, 82] 0 := ⟨⟨_, rfl, ref07_row.tied⟩, ⟨⟨_, rfl, ref07_of.tied⟩, (fun j hj => by first | rfl | (match j, hj with | j + 2, _ => rfl))⟩⟩
theorem ref07_Check.tied : Tied Try.prog ref07_Check.c 50 := tie_pure ref07_Check.tiedCalls Try.func50 (by kernel_rfl) (by kernel_rfl) (by kernel_rfl) (by kernel_rfl) (by kernel_rfl) ref07_Check.eq
theorem ref08_State_find.tiedCalls : CallsTied Try.prog ref08_State_find.calls [] 0 := (fun _ _ => rfl)
theorem ref08_State_find.tied : Tied Try.prog ref08_State_find.c 83 := tie_full ref08_State_find.tiedCalls Try.func83 (by kernel_rfl) (by kernel_rfl) (by kernel_rfl) ref08_State_find.eq
theorem ref08_State_Get.tiedCalls : CallsTied Try.prog ref08_State_Get.calls [] 0 := (fun _ _ => rfl)
theorem ref08_State_Get.tied : Tied Try.prog ref08_State_Get.c 21 := tie_full ref08_State_Get.tiedCalls Try.func21 (by kernel_rfl) (by kernel_rfl) (by kernel_rfl) ref08_State_Get.eq
theorem ref08_State_Refs.tiedCalls : CallsTied Try.prog ref08_State_Refs.calls [] 0 := (fun _ _ => rfl)
theorem ref08_State_Refs.tied : Tied Try.prog ref08_State_Refs.c 54 := tie_full ref08_State_Refs.tiedCalls Try.func54 (by kernel_rfl) (by kernel_rfl) (by kernel_rfl) ref08_State_Refs.eq
theorem ref08_State_made.tiedCalls : CallsTied Try.prog ref08_State_made.calls [] 0 := (fun _ _ => rfl)
theorem ref08_State_made.tied : Tied Try.prog ref08_State_made.c 84 := tie_full ref08_State_made.tiedCalls Try.func84 (by kernel_rfl) (by kernel_rfl) (by kernel_rfl) ref08_State_made.eq
theorem ref08_State_bad.tiedCalls : CallsTied Try.prog ref08_State_bad.calls [] 0 := (fun _ _ => rfl)
theorem ref08_State_bad.tied : Tied Try.prog ref08_State_bad.c 85 := tie_full ref08_State_bad.tiedCalls Try.func85 (by kernel_rfl) (by kernel_rfl) (by kernel_rfl) ref08_State_bad.eq
theorem ref08_State_worn.tiedCalls : CallsTied Try.prog ref08_State_worn.calls [] 0 := (fun _ _ => rfl)
theorem ref08_State_worn.tied : Tied Try.prog ref08_State_worn.c 86 := tie_full ref08_State_worn.tiedCalls Try.func86 (by kernel_rfl) (by kernel_rfl) (by kernel_rfl) ref08_State_worn.eq
theorem ref08_State_with.tiedCalls : CallsTied Try.prog ref08_State_with.calls [] 0 := (fun _ _ => rfl)
theorem ref08_State_with.tied : Tied Try.prog ref08_State_with.c 87 := tie_full ref08_State_with.tiedCalls Try.func87 (by kernel_rfl) (by kernel_rfl) (by kernel_rfl) ref08_State_with.eq
theorem ref08_State_without.tiedCalls : CallsTied Try.prog ref08_State_without.calls [] 0 := (fun _ _ => rfl)
theorem ref08_State_without.tied : Tied Try.prog ref08_State_without.c 88 := tie_full ref08_State_without.tiedCalls Try.func88 (by kernel_rfl) (by kernel_rfl) (by kernel_rfl) ref08_State_without.eq
theorem ref08_State_dropped.tiedCalls : CallsTied Try.prog ref08_State_dropped.calls [88] 0 := ⟨⟨_, rfl, ref08_State_without.tied⟩, (fun j hj => by first | rfl | (match j, hj with | j + 1, _ => rfl))⟩
theorem ref08_State_dropped.tied : Tied Try.prog ref08_State_dropped.c 89 := tie_full ref08_State_dropped.tiedCalls Try.func89 (by kernel_rfl) (by kernel_rfl) (by kernel_rfl) ref08_State_dropped.eq
theorem ref08_State_Do.tiedCalls : CallsTied Try.prog ref08_State_Do.calls [83, 21, 54, 84, 85, 86, 87, 88, 89] 0 := ⟨⟨_, rfl, ref08_State_find.tied⟩, ⟨⟨_, rfl, ref08_State_Get.tied⟩, ⟨⟨_, rfl, ref08_State_Refs.tied⟩, ⟨⟨_, rfl, ref08_State_made.tied⟩, ⟨⟨_, rfl, ref08_State_bad.tied⟩, ⟨⟨_, rfl, ref08_State_worn.tied⟩, ⟨⟨_, rfl, ref08_State_with.tied⟩, ⟨⟨_, rfl, ref08_State_without.tied⟩, ⟨⟨_, rfl, ref08_State_dropped.tied⟩, (fun j hj => by first | rfl | (match j, hj with | j + 9, _ => rfl))⟩⟩⟩⟩⟩⟩⟩⟩⟩
theorem ref08_State_Do.tied : Tied Try.prog ref08_State_Do.c 51 := tie_full ref08_State_Do.tiedCalls Try.func51 (by kernel_rfl) (by kernel_rfl) (by kernel_rfl) ref08_State_Do.eq
theorem ref08_State_Apply.tiedCalls : CallsTied Try.prog ref08_State_Apply.calls [50, 51] 0 := ⟨⟨_, rfl, ref07_Check.tied⟩, ⟨⟨_, rfl, ref08_State_Do.tied⟩, (fun j hj => by first | rfl | (match j, hj with | j + 2, _ => rfl))⟩⟩
theorem ref08_State_Apply.tied : Tied Try.prog ref08_State_Apply.c 18 := tie_full ref08_State_Apply.tiedCalls Try.func18 (by kernel_rfl) (by kernel_rfl) (by kernel_rfl) ref08_State_Apply.eq
theorem ref08_State_Live.tiedCalls : CallsTied Try.prog ref08_State_Live.calls [] 0 := (fun _ _ => rfl)
theorem ref08_State_Live.tied : Tied Try.prog ref08_State_Live.c 52 := tie_full ref08_State_Live.tiedCalls Try.func52 (by kernel_rfl) (by kernel_rfl) (by kernel_rfl) ref08_State_Live.eq
theorem state_State_Bads.tiedCalls : CallsTied Try.prog state_State_Bads.calls [] 0 := (fun _ _ => rfl)
theorem state_State_Bads.tied : Tied Try.prog state_State_Bads.c 17 := tie_full state_State_Bads.tiedCalls Try.func17 (by kernel_rfl) (by kernel_rfl) (by kernel_rfl) state_State_Bads.eq
theorem ref08_State_Pages.tiedCalls : CallsTied Try.prog ref08_State_Pages.calls [] 0 := (fun _ _ => rfl)
theorem ref08_State_Pages.tied : Tied Try.prog ref08_State_Pages.c 53 := tie_full ref08_State_Pages.tiedCalls Try.func53 (by kernel_rfl) (by kernel_rfl) (by kernel_rfl) ref08_State_Pages.eq
theorem maps_Keys_map_int_int_int_int.tiedCalls : CallsTied Try.prog maps_Keys_map_int_int_int_int.calls [] 0 := (fun _ _ => rfl)
theorem maps_Keys_map_int_int_int_int.tied : Tied Try.prog maps_Keys_map_int_int_int_int.c 57 := tie_full maps_Keys_map_int_int_int_int.tiedCalls Try.func57 (by kernel_rfl) (by kernel_rfl) (by kernel_rfl) maps_Keys_map_int_int_int_int.eq
theorem maps_Keys_map_int_bool_int_bool.tiedCalls : CallsTied Try.prog maps_Keys_map_int_bool_int_bool.calls [] 0 := (fun _ _ => rfl)
theorem maps_Keys_map_int_bool_int_bool.tied : Tied Try.prog maps_Keys_map_int_bool_int_bool.c 58 := tie_full maps_Keys_map_int_bool_int_bool.tiedCalls Try.func58 (by kernel_rfl) (by kernel_rfl) (by kernel_rfl) maps_Keys_map_int_bool_int_bool.eq
theorem state_State_Dump.tiedCalls : CallsTied Try.prog state_State_Dump.calls [44, 57, 56, 58, 56] 0 := ⟨⟨_, rfl, state_State_Spaces.tied⟩, ⟨⟨_, rfl, maps_Keys_map_int_int_int_int.tied⟩, ⟨⟨_, rfl, sortedKeys.tied92⟩, ⟨⟨_, rfl, maps_Keys_map_int_bool_int_bool.tied⟩, ⟨⟨_, rfl, sortedKeys.tied93⟩, (fun j hj => by first | rfl | (match j, hj with | j + 5, _ => rfl))⟩⟩⟩⟩⟩
theorem state_State_Dump.tied : Tied Try.prog state_State_Dump.c 23 := tie_full state_State_Dump.tiedCalls Try.func23 (by kernel_rfl) (by kernel_rfl) (by kernel_rfl) state_State_Dump.eq
theorem ref08_State_Dump.tiedCalls : CallsTied Try.prog ref08_State_Dump.calls [] 0 := (fun _ _ => rfl)
theorem ref08_State_Dump.tied : Tied Try.prog ref08_State_Dump.c 55 := tie_full ref08_State_Dump.tiedCalls Try.func55 (by kernel_rfl) (by kernel_rfl) (by kernel_rfl) ref08_State_Dump.eq
theorem law08_Same.tiedCalls : CallsTied Try.prog law08_Same.calls [44, 47, 46, 52, 17, 42, 53, 20, 45, 54, 23, 55] 0 := ⟨⟨_, rfl, state_State_Spaces.tied⟩, ⟨⟨_, rfl, state_State_Keys.tied⟩, ⟨⟨_, rfl, state_State_Live.tied⟩, ⟨⟨_, rfl, ref08_State_Live.tied⟩, ⟨⟨_, rfl, state_State_Bads.tied⟩, ⟨⟨_, rfl, state_State_Space.tied⟩, ⟨⟨_, rfl, ref08_State_Pages.tied⟩, ⟨⟨_, rfl, state_State_Get.tied⟩, ⟨⟨_, rfl, state_State_Refs.tied⟩, ⟨⟨_, rfl, ref08_State_Refs.tied⟩, ⟨⟨_, rfl, state_State_Dump.tied⟩, ⟨⟨_, rfl, ref08_State_Dump.tied⟩, (fun j hj => by first | rfl | (match j, hj with | j + 12, _ => rfl))⟩⟩⟩⟩⟩⟩⟩⟩⟩⟩⟩⟩
theorem law08_Same.tied : Tied Try.prog law08_Same.c 19 := tie_full law08_Same.tiedCalls Try.func19 (by kernel_rfl) (by kernel_rfl) (by kernel_rfl) law08_Same.eq
theorem law08_StatePlays.tiedCalls : CallsTied Try.prog law08_StatePlays.calls [12, 16, 18, 13, 19, 20, 21] 0 := ⟨⟨_, rfl, state_New.tied⟩, ⟨⟨_, rfl, law08_awake.tied⟩, ⟨⟨_, rfl, ref08_State_Apply.tied⟩, ⟨⟨_, rfl, state_State_Apply.tied⟩, ⟨⟨_, rfl, law08_Same.tied⟩, ⟨⟨_, rfl, state_State_Get.tied⟩, ⟨⟨_, rfl, ref08_State_Get.tied⟩, (fun j hj => by first | rfl | (match j, hj with | j + 7, _ => rfl))⟩⟩⟩⟩⟩⟩⟩
theorem law08_StatePlays.tied : Tied Try.prog law08_StatePlays.c 4 := tie_full law08_StatePlays.tiedCalls Try.func4 (by kernel_rfl) (by kernel_rfl) (by kernel_rfl) law08_StatePlays.eq
theorem law08_played.tiedCalls : CallsTied Try.prog law08_played.calls [12, 13, 18] 0 := ⟨⟨_, rfl, state_New.tied⟩, ⟨⟨_, rfl, state_State_Apply.tied⟩, ⟨⟨_, rfl, ref08_State_Apply.tied⟩, (fun j hj => by first | rfl | (match j, hj with | j + 3, _ => rfl))⟩⟩⟩
theorem law08_played.tied : Tied Try.prog law08_played.c 22 := tie_full law08_played.tiedCalls Try.func22 (by kernel_rfl) (by kernel_rfl) (by kernel_rfl) law08_played.eq
theorem law08_StateDumps.tiedCalls : CallsTied Try.prog law08_StateDumps.calls [22, 23, 12, 13, 16, 19] 0 := ⟨⟨_, rfl, law08_played.tied⟩, ⟨⟨_, rfl, state_State_Dump.tied⟩, ⟨⟨_, rfl, state_New.tied⟩, ⟨⟨_, rfl, state_State_Apply.tied⟩, ⟨⟨_, rfl, law08_awake.tied⟩, ⟨⟨_, rfl, law08_Same.tied⟩, (fun j hj => by first | rfl | (match j, hj with | j + 6, _ => rfl))⟩⟩⟩⟩⟩⟩
theorem law08_StateDumps.tied : Tied Try.prog law08_StateDumps.c 5 := tie_full law08_StateDumps.tiedCalls Try.func5 (by kernel_rfl) (by kernel_rfl) (by kernel_rfl) law08_StateDumps.eq
theorem state_State_Lay.tiedCalls : CallsTied Try.prog state_State_Lay.calls [49] 0 := ⟨⟨_, rfl, state_State_apply.tied⟩, (fun j hj => by first | rfl | (match j, hj with | j + 1, _ => rfl))⟩
theorem state_State_Lay.tied : Tied Try.prog state_State_Lay.c 43 := tie_full state_State_Lay.tiedCalls Try.func43 (by kernel_rfl) (by kernel_rfl) (by kernel_rfl) state_State_Lay.eq
theorem law08_lays.tiedCalls : CallsTied Try.prog law08_lays.calls [22, 51, 43, 19, 20, 45, 54, 46, 52, 47] 0 := ⟨⟨_, rfl, law08_played.tied⟩, ⟨⟨_, rfl, ref08_State_Do.tied⟩, ⟨⟨_, rfl, state_State_Lay.tied⟩, ⟨⟨_, rfl, law08_Same.tied⟩, ⟨⟨_, rfl, state_State_Get.tied⟩, ⟨⟨_, rfl, state_State_Refs.tied⟩, ⟨⟨_, rfl, ref08_State_Refs.tied⟩, ⟨⟨_, rfl, state_State_Live.tied⟩, ⟨⟨_, rfl, ref08_State_Live.tied⟩, ⟨⟨_, rfl, state_State_Keys.tied⟩, (fun j hj => by first | rfl | (match j, hj with | j + 10, _ => rfl))⟩⟩⟩⟩⟩⟩⟩⟩⟩⟩
theorem law08_lays.tied : Tied Try.prog law08_lays.c 24 := tie_full law08_lays.tiedCalls Try.func24 (by kernel_rfl) (by kernel_rfl) (by kernel_rfl) law08_lays.eq
theorem law08_StateLays.tiedCalls : CallsTied Try.prog law08_StateLays.calls [16, 24] 0 := ⟨⟨_, rfl, law08_awake.tied⟩, ⟨⟨_, rfl, law08_lays.tied⟩, (fun j hj => by first | rfl | (match j, hj with | j + 2, _ => rfl))⟩⟩
theorem law08_StateLays.tied : Tied Try.prog law08_StateLays.c 6 := tie_full law08_StateLays.tiedCalls Try.func6 (by kernel_rfl) (by kernel_rfl) (by kernel_rfl) law08_StateLays.eq
theorem state_State_Copy.tiedCalls : CallsTied Try.prog state_State_Copy.calls [70, 71] 0 := ⟨⟨_, rfl, mclone.tied70⟩, ⟨⟨_, rfl, mclone.tied71⟩, (fun j hj => by first | rfl | (match j, hj with | j + 2, _ => rfl))⟩⟩
theorem state_State_Copy.tied : Tied Try.prog state_State_Copy.c 36 := tie_full state_State_Copy.tiedCalls Try.func36 (by kernel_rfl) (by kernel_rfl) (by kernel_rfl) state_State_Copy.eq
theorem law08_StateCopies.tiedCalls : CallsTied Try.prog law08_StateCopies.calls [22, 36, 13, 18, 16, 19] 0 := ⟨⟨_, rfl, law08_played.tied⟩, ⟨⟨_, rfl, state_State_Copy.tied⟩, ⟨⟨_, rfl, state_State_Apply.tied⟩, ⟨⟨_, rfl, ref08_State_Apply.tied⟩, ⟨⟨_, rfl, law08_awake.tied⟩, ⟨⟨_, rfl, law08_Same.tied⟩, (fun j hj => by first | rfl | (match j, hj with | j + 6, _ => rfl))⟩⟩⟩⟩⟩⟩
theorem law08_StateCopies.tied : Tied Try.prog law08_StateCopies.c 8 := tie_full law08_StateCopies.tiedCalls Try.func8 (by kernel_rfl) (by kernel_rfl) (by kernel_rfl) law08_StateCopies.eq
theorem state_State_Bad.tiedCalls : CallsTied Try.prog state_State_Bad.calls [] 0 := (fun _ _ => rfl)
theorem state_State_Bad.tied : Tied Try.prog state_State_Bad.c 14 := tie_full state_State_Bad.tiedCalls Try.func14 (by kernel_rfl) (by kernel_rfl) (by kernel_rfl) state_State_Bad.eq
theorem state_State_Worn.tiedCalls : CallsTied Try.prog state_State_Worn.calls [] 0 := (fun _ _ => rfl)
theorem state_State_Worn.tied : Tied Try.prog state_State_Worn.c 15 := tie_full state_State_Worn.tiedCalls Try.func15 (by kernel_rfl) (by kernel_rfl) (by kernel_rfl) state_State_Worn.eq
theorem law08_StateNone.tiedCalls : CallsTied Try.prog law08_StateNone.calls [20, 42, 16, 13, 43, 36, 44, 45, 46, 47, 14, 17, 15, 23] 0 := ⟨⟨_, rfl, state_State_Get.tied⟩, ⟨⟨_, rfl, state_State_Space.tied⟩, ⟨⟨_, rfl, law08_awake.tied⟩, ⟨⟨_, rfl, state_State_Apply.tied⟩, ⟨⟨_, rfl, state_State_Lay.tied⟩, ⟨⟨_, rfl, state_State_Copy.tied⟩, ⟨⟨_, rfl, state_State_Spaces.tied⟩, ⟨⟨_, rfl, state_State_Refs.tied⟩, ⟨⟨_, rfl, state_State_Live.tied⟩, ⟨⟨_, rfl, state_State_Keys.tied⟩, ⟨⟨_, rfl, state_State_Bad.tied⟩, ⟨⟨_, rfl, state_State_Bads.tied⟩, ⟨⟨_, rfl, state_State_Worn.tied⟩, ⟨⟨_, rfl, state_State_Dump.tied⟩, (fun j hj => by first | rfl | (match j, hj with | j + 14, _ => rfl))⟩⟩⟩⟩⟩⟩⟩⟩⟩⟩⟩⟩⟩⟩
theorem law08_StateNone.tied : Tied Try.prog law08_StateNone.c 11 := tie_pure law08_StateNone.tiedCalls Try.func11 (by kernel_rfl) (by kernel_rfl) (by kernel_rfl) (by kernel_rfl) (by kernel_rfl) law08_StateNone.eq
theorem law08_StateBlocks.tiedCalls : CallsTied Try.prog law08_StateBlocks.calls [12, 13, 14, 15, 16, 17] 0 := ⟨⟨_, rfl, state_New.tied⟩, ⟨⟨_, rfl, state_State_Apply.tied⟩, ⟨⟨_, rfl, state_State_Bad.tied⟩, ⟨⟨_, rfl, state_State_Worn.tied⟩, ⟨⟨_, rfl, law08_awake.tied⟩, ⟨⟨_, rfl, state_State_Bads.tied⟩, (fun j hj => by first | rfl | (match j, hj with | j + 6, _ => rfl))⟩⟩⟩⟩⟩⟩
theorem law08_StateBlocks.tied : Tied Try.prog law08_StateBlocks.c 3 := tie_full law08_StateBlocks.tiedCalls Try.func3 (by kernel_rfl) (by kernel_rfl) (by kernel_rfl) law08_StateBlocks.eq
end Ev
