/- The chapter's own small run; no state. -/
import Derived.Test.YtfmefnejaocopaaSStG
import Derived.Test.YtfmefnejaocopaaGLaw08
set_option linter.unusedSimpArgs false
set_option linter.unusedVariables false
namespace Ev
open Go (IntKind)

def awk3 : Sta := (((Sta.mk [] [] [] []).doS (4, 1, 0, 0, 0, 4, ())).2.doS (1, 1, 0, 5, 0, 0, ())).2.doS (6, 1, 0, 0, 2, 0, ()) |>.2
theorem awake08 : law08_awake = some (true, ()) := by
  unfold law08_awake law08_awake.on
  obtain ⟨a, n1, n2, n3, _⟩ := new_st []
  generalize ([] : Heap) ++ _ = H0 at n1 n3
  have n1 : state_New [] = some ((some (a.c, 0), ()), H0) := by rw [n1, n2]
  obtain ⟨H1, a1, e1, f1⟩ := st_Apply n3 (4, 1, 0, 0, 0, 4, ())
  obtain ⟨H2, a2, e2, f2⟩ := st_Apply f1.s (1, 1, 0, 5, 0, 0, ())
  obtain ⟨H3, a3, e3, f3⟩ := st_Apply f2.s (6, 1, 0, 0, 2, 0, ())
  rw [f1.c] at e2
  rw [f2.c, f1.c] at e3
  have c3 : a3.c = a.c := f3.c.trans (f2.c.trans f1.c)
  have s3 : StAt H3 a3 awk3 := f3.s
  have g5 := st_get s3 2 0
  have g6 := st_refs s3 5
  have g7 := st_live s3
  obtain ⟨H8, g8, k8⟩ := st_keys s3
  obtain ⟨s, H9, g9, _, l9⟩ := st_spaces (s3.keep k8 fun _ _ hf => hf)
  rw [c3] at g5 g6 g7 g8 g9
  refine (bind_to n1).trans ((bind_to e1).trans ((bind_to e2).trans ((bind_to e3).trans ((bind_to g5).trans ?_))))
  refine (cond_tt rfl).trans ((cond_tt rfl).trans ((cond_tt rfl).trans ((cond_tt rfl).trans ((cond_tt rfl).trans ?_))))
  refine (bind_to g6).trans ((cond_tt rfl).trans ((bind_to g7).trans ((cond_tt rfl).trans ((bind_to g8).trans ((cond_tt rfl).trans ((bind_to g9).trans ?_))))))
  have l9 : s.len = 2 := l9
  simp only [l9]; rfl
end Ev
