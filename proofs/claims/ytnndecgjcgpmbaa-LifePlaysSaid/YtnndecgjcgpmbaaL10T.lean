/- The functions of the chapter are those of the program: the kernel checks the code, one by one. Written by gen.py. -/
import Derived.Test.YtnndecgjcgpmbaaEvTie
import Derived.Test.YtnndecgjcgpmbaaL10
import Derived.Test.YtnndecgjcgpmbaaProg
import Derived.KernelRfl
set_option maxRecDepth 100000
namespace Ev
open Go Go.Proofs

theorem life_New.tiedCalls : CallsTied Try.prog life_New.calls [] 0 := (fun _ _ => rfl)
theorem life_New.tied : Tied Try.prog life_New.c 14 := tie_full life_New.tiedCalls Try.func14 (by kernel_rfl) (by kernel_rfl) (by kernel_rfl) life_New.eq
theorem life_Life_in.tiedCalls : CallsTied Try.prog life_Life_in.calls [] 0 := (fun _ _ => rfl)
theorem life_Life_in.tied : Tied Try.prog life_Life_in.c 51 := tie_full life_Life_in.tiedCalls Try.func51 (by kernel_rfl) (by kernel_rfl) (by kernel_rfl) life_Life_in.eq
theorem life_Life_Open.tiedCalls : CallsTied Try.prog life_Life_Open.calls [51] 0 := ⟨⟨_, rfl, life_Life_in.tied⟩, (fun j hj => by first | rfl | (match j, hj with | j + 1, _ => rfl))⟩
theorem life_Life_Open.tied : Tied Try.prog life_Life_Open.c 16 := tie_full life_Life_Open.tiedCalls Try.func16 (by kernel_rfl) (by kernel_rfl) (by kernel_rfl) life_Life_Open.eq
theorem life_Life_Take.tiedCalls : CallsTied Try.prog life_Life_Take.calls [] 0 := (fun _ _ => rfl)
theorem life_Life_Take.tied : Tied Try.prog life_Life_Take.c 19 := tie_full life_Life_Take.tiedCalls Try.func19 (by kernel_rfl) (by kernel_rfl) (by kernel_rfl) life_Life_Take.eq
theorem life_Life_Is.tiedCalls : CallsTied Try.prog life_Life_Is.calls [51] 0 := ⟨⟨_, rfl, life_Life_in.tied⟩, (fun j hj => by first | rfl | (match j, hj with | j + 1, _ => rfl))⟩
theorem life_Life_Is.tied : Tied Try.prog life_Life_Is.c 24 := tie_full life_Life_Is.tiedCalls Try.func24 (by kernel_rfl) (by kernel_rfl) (by kernel_rfl) life_Life_Is.eq
theorem life_Life_Count.tiedCalls : CallsTied Try.prog life_Life_Count.calls [] 0 := (fun _ _ => rfl)
theorem life_Life_Count.tied : Tied Try.prog life_Life_Count.c 25 := tie_full life_Life_Count.tiedCalls Try.func25 (by kernel_rfl) (by kernel_rfl) (by kernel_rfl) life_Life_Count.eq
theorem life_Life_Room.tiedCalls : CallsTied Try.prog life_Life_Room.calls [25] 0 := ⟨⟨_, rfl, life_Life_Count.tied⟩, (fun j hj => by first | rfl | (match j, hj with | j + 1, _ => rfl))⟩
theorem life_Life_Room.tied : Tied Try.prog life_Life_Room.c 20 := tie_full life_Life_Room.tiedCalls Try.func20 (by kernel_rfl) (by kernel_rfl) (by kernel_rfl) life_Life_Room.eq
theorem law10_awake.tiedCalls : CallsTied Try.prog law10_awake.calls [14, 16, 19, 24, 20, 25] 0 := ⟨⟨_, rfl, life_New.tied⟩, ⟨⟨_, rfl, life_Life_Open.tied⟩, ⟨⟨_, rfl, life_Life_Take.tied⟩, ⟨⟨_, rfl, life_Life_Is.tied⟩, ⟨⟨_, rfl, life_Life_Room.tied⟩, ⟨⟨_, rfl, life_Life_Count.tied⟩, (fun j hj => by first | rfl | (match j, hj with | j + 6, _ => rfl))⟩⟩⟩⟩⟩⟩
theorem law10_awake.tied : Tied Try.prog law10_awake.c 15 := tie_pure law10_awake.tiedCalls Try.func15 (by kernel_rfl) (by kernel_rfl) (by kernel_rfl) (by kernel_rfl) (by kernel_rfl) law10_awake.eq
theorem life_Life_set.tiedCalls : CallsTied Try.prog life_Life_set.calls [51] 0 := ⟨⟨_, rfl, life_Life_in.tied⟩, (fun j hj => by first | rfl | (match j, hj with | j + 1, _ => rfl))⟩
theorem life_Life_set.tied : Tied Try.prog life_Life_set.c 52 := tie_full life_Life_set.tiedCalls Try.func52 (by kernel_rfl) (by kernel_rfl) (by kernel_rfl) life_Life_set.eq
theorem life_Life_Full.tiedCalls : CallsTied Try.prog life_Life_Full.calls [52] 0 := ⟨⟨_, rfl, life_Life_set.tied⟩, (fun j hj => by first | rfl | (match j, hj with | j + 1, _ => rfl))⟩
theorem life_Life_Full.tied : Tied Try.prog life_Life_Full.c 17 := tie_full life_Life_Full.tiedCalls Try.func17 (by kernel_rfl) (by kernel_rfl) (by kernel_rfl) life_Life_Full.eq
theorem life_Life_Bad.tiedCalls : CallsTied Try.prog life_Life_Bad.calls [52] 0 := ⟨⟨_, rfl, life_Life_set.tied⟩, (fun j hj => by first | rfl | (match j, hj with | j + 1, _ => rfl))⟩
theorem life_Life_Bad.tied : Tied Try.prog life_Life_Bad.c 18 := tie_full life_Life_Bad.tiedCalls Try.func18 (by kernel_rfl) (by kernel_rfl) (by kernel_rfl) life_Life_Bad.eq
theorem life_Life_At.tiedCalls : CallsTied Try.prog life_Life_At.calls [] 0 := (fun _ _ => rfl)
theorem life_Life_At.tied : Tied Try.prog life_Life_At.c 21 := tie_full life_Life_At.tiedCalls Try.func21 (by kernel_rfl) (by kernel_rfl) (by kernel_rfl) life_Life_At.eq
theorem law10_LifeRoom.tiedCalls : CallsTied Try.prog law10_LifeRoom.calls [14, 15, 16, 17, 18, 19, 20, 21] 0 := ⟨⟨_, rfl, life_New.tied⟩, ⟨⟨_, rfl, law10_awake.tied⟩, ⟨⟨_, rfl, life_Life_Open.tied⟩, ⟨⟨_, rfl, life_Life_Full.tied⟩, ⟨⟨_, rfl, life_Life_Bad.tied⟩, ⟨⟨_, rfl, life_Life_Take.tied⟩, ⟨⟨_, rfl, life_Life_Room.tied⟩, ⟨⟨_, rfl, life_Life_At.tied⟩, (fun j hj => by first | rfl | (match j, hj with | j + 8, _ => rfl))⟩⟩⟩⟩⟩⟩⟩⟩
theorem law10_LifeRoom.tied : Tied Try.prog law10_LifeRoom.c 3 := tie_full law10_LifeRoom.tiedCalls Try.func3 (by kernel_rfl) (by kernel_rfl) (by kernel_rfl) law10_LifeRoom.eq
theorem life_Life_Free.tiedCalls : CallsTied Try.prog life_Life_Free.calls [52] 0 := ⟨⟨_, rfl, life_Life_set.tied⟩, (fun j hj => by first | rfl | (match j, hj with | j + 1, _ => rfl))⟩
theorem life_Life_Free.tied : Tied Try.prog life_Life_Free.c 22 := tie_full life_Life_Free.tiedCalls Try.func22 (by kernel_rfl) (by kernel_rfl) (by kernel_rfl) life_Life_Free.eq
theorem law10_same.tiedCalls : CallsTied Try.prog law10_same.calls [24, 21, 25, 20] 0 := ⟨⟨_, rfl, life_Life_Is.tied⟩, ⟨⟨_, rfl, life_Life_At.tied⟩, ⟨⟨_, rfl, life_Life_Count.tied⟩, ⟨⟨_, rfl, life_Life_Room.tied⟩, (fun j hj => by first | rfl | (match j, hj with | j + 4, _ => rfl))⟩⟩⟩⟩
theorem law10_same.tied : Tied Try.prog law10_same.c 23 := tie_full law10_same.tiedCalls Try.func23 (by kernel_rfl) (by kernel_rfl) (by kernel_rfl) law10_same.eq
theorem law10_LifePlays.tiedCalls : CallsTied Try.prog law10_LifePlays.calls [14, 15, 16, 17, 22, 18, 19, 23, 24] 0 := ⟨⟨_, rfl, life_New.tied⟩, ⟨⟨_, rfl, law10_awake.tied⟩, ⟨⟨_, rfl, life_Life_Open.tied⟩, ⟨⟨_, rfl, life_Life_Full.tied⟩, ⟨⟨_, rfl, life_Life_Free.tied⟩, ⟨⟨_, rfl, life_Life_Bad.tied⟩, ⟨⟨_, rfl, life_Life_Take.tied⟩, ⟨⟨_, rfl, law10_same.tied⟩, ⟨⟨_, rfl, life_Life_Is.tied⟩, (fun j hj => by first | rfl | (match j, hj with | j + 9, _ => rfl))⟩⟩⟩⟩⟩⟩⟩⟩⟩
theorem law10_LifePlays.tied : Tied Try.prog law10_LifePlays.c 4 := tie_full law10_LifePlays.tiedCalls Try.func4 (by kernel_rfl) (by kernel_rfl) (by kernel_rfl) law10_LifePlays.eq
theorem law10_LifeNone.tiedCalls : CallsTied Try.prog law10_LifeNone.calls [19, 21, 14, 15, 24, 16, 17, 22, 18, 20, 25] 0 := ⟨⟨_, rfl, life_Life_Take.tied⟩, ⟨⟨_, rfl, life_Life_At.tied⟩, ⟨⟨_, rfl, life_New.tied⟩, ⟨⟨_, rfl, law10_awake.tied⟩, ⟨⟨_, rfl, life_Life_Is.tied⟩, ⟨⟨_, rfl, life_Life_Open.tied⟩, ⟨⟨_, rfl, life_Life_Full.tied⟩, ⟨⟨_, rfl, life_Life_Free.tied⟩, ⟨⟨_, rfl, life_Life_Bad.tied⟩, ⟨⟨_, rfl, life_Life_Room.tied⟩, ⟨⟨_, rfl, life_Life_Count.tied⟩, (fun j hj => by first | rfl | (match j, hj with | j + 11, _ => rfl))⟩⟩⟩⟩⟩⟩⟩⟩⟩⟩⟩
theorem law10_LifeNone.tied : Tied Try.prog law10_LifeNone.c 5 := tie_pure law10_LifeNone.tiedCalls Try.func5 (by kernel_rfl) (by kernel_rfl) (by kernel_rfl) (by kernel_rfl) (by kernel_rfl) law10_LifeNone.eq
end Ev
