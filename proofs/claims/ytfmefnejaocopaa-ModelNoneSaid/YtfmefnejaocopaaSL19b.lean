/- The chapter's own small run; the law ModelNone. -/
import Derived.Test.YtfmefnejaocopaaSMdG
import Derived.Test.YtfmefnejaocopaaGLaw19
set_option linter.unusedSimpArgs false
set_option linter.unusedVariables false
namespace Ev
open Go (IntKind)

theorem room_some (x : Int) : ∃ r, law19_room x = some (r, ()) := by
  refine ⟨(IntKind.wrap .i64 (1 + (bitsI .and .i64 x 15)), IntKind.wrap .i64 (2 + (bitsI .and .i64 (IntKind.wrap .i64 (2 * x)) 31)), 0, 0, ()), ?_⟩
  unfold law19_room law19_room.on
  rfl
theorem room9 : law19_room 9 = some ((10, 20, 0, 0, ()), ()) := by
  unfold law19_room law19_room.on
  rfl
def aw1 : Tx := ((Tx.mk ⟨⟨[], [], [], []⟩, []⟩ 0).doS (4, 1, 0, 0, 0, 4, ()) (10, 20, 0, 0, ())).2
def aw2 : Tx := (aw1.putS 1 0 [116, 101, 120, 116] (10, 20, 0, 0, ()) 64).2
theorem awake19 : law19_awake = some (true, ()) := by
  have key : WP (law19_awake.on []) fun x => x.1 = true := by
    unfold law19_awake.on
    obtain ⟨c, G, n1, _, _, a, na, hM⟩ := md_New [] (10, 20, 0, 0, ()) 64
    refine wp_to room9 (wp_to n1 (wp_seq _ (md_Begin hM) ?_))
    rintro ⟨⟨e1, ⟨⟩⟩, G1⟩ ⟨_, q1, a1, na1, hM1⟩
    have q1 : e1 = 0 := q1
    subst q1
    refine wp_seq _ (md_Do hM1 (4, 1, 0, 0, 0, 4, ())) ?_
    rintro ⟨⟨e2, ⟨⟩⟩, G2⟩ ⟨_, q2, a2, m2, na2, hM2⟩
    have q2 : e2 = 0 := q2
    subst q2
    have hM2 : MdAt G2 c a2 (10, 20, 0, 0, ()) 64 m2 ⟨⟨[], [], [], []⟩, []⟩ (some aw1) := hM2
    refine wp_seq _ (md_Put hM2 1 0 [116, 101, 120, 116] (by omega)) ?_
    rintro ⟨⟨e3, ⟨⟩⟩, G3⟩ ⟨_, q3, a3, m3, na3, hM3⟩
    have q3 : e3 = 0 := q3
    subst q3
    have hM3 : MdAt G3 c a3 (10, 20, 0, 0, ()) 64 m3 ⟨⟨[], [], [], []⟩, []⟩ (some aw2) := hM3
    refine wp_seq (fun x => x.1.1 = 0 ∧ ∃ a' m', MdAt x.2 c a' (10, 20, 0, 0, ()) 64 m' aw2.p none) ?_ ?_
    · unfold model_Model_Commit
      refine wp_seq _ (md_end hM3 true) ?_
      rintro ⟨⟨e4, ⟨⟩⟩, G4⟩ ⟨_, q4, a4, _, hM4⟩
      exact wp_some ⟨q4, a4, _, hM4⟩
    rintro ⟨⟨e4, ⟨⟩⟩, G4⟩ ⟨q4, a4, m4, hM4⟩
    have q4 : e4 = 0 := q4
    subst q4
    have hM4 : MdAt G4 c a4 (10, 20, 0, 0, ()) 64 m4 aw2.p none := hM4
    refine wp_seq _ (md_Get hM4 1 0) ?_
    rintro ⟨⟨tx, e5, ⟨⟩⟩, G5⟩ ⟨k5, q5⟩
    have q5 : (tx, e5, ()) = (([116, 101, 120, 116] : Bytes), (0 : Int), ()) := q5
    cases q5
    have hM5 := hM4.keep k5
    refine wp_t rfl (wp_t rfl (wp_t rfl (wp_t rfl (wp_t rfl (wp_t (decide_eq_true rfl) (wp_seq _ (md_Leaves hM5) ?_))))))
    rintro ⟨⟨s6, ⟨⟩⟩, G6⟩ ⟨s', hs, _, l6, k6⟩
    cases hs
    have l6 : s6.len = 1 := l6
    refine wp_t (by simp [l6]) (wp_seq _ (md_Spaces (hM5.keep k6)) ?_)
    rintro ⟨⟨s7, ⟨⟩⟩, G7⟩ ⟨s', hs, _, l7, _⟩
    cases hs
    have l7 : s7.len = 1 := l7
    exact wp_some (by simp [l7])
  obtain ⟨⟨b, ⟨⟩⟩, e1, e2⟩ := key
  have e2 : b = true := e2
  subst e2
  exact e1
theorem none_sorted (H : Heap) : sortedKeys (some (H.length, 0), ()) (H ++ [.cells [.mp none] .exact]) = some ((⟨none, 0, 0⟩, ()), H ++ [.cells [.mp none] .exact]) := by
  simp only [sortedKeys, Option.bind_some, decide_true, cond_true, List.getElem?_append_right (Nat.le_refl _), Nat.sub_self, List.getElem?_cons_zero, mkeys]
  rfl
theorem none19_spaces (H : Heap) : model_Model_Spaces none H = some ((⟨none, 0, 0⟩, ()), H ++ [.cells [.mp none] .exact]) := by
  unfold model_Model_Spaces
  have h0 : model_Model_see none H = some ((none, ()), H) := rfl
  have hk : maps_Keys_model_tree_int_model_space none H = some (((some (H.length, 0), ()), ()), H ++ [.cells [.mp none] .exact]) := rfl
  refine (bind_to h0).trans ((bind_to hk).trans ((bind_to (none_sorted H)).trans ?_))
  have h : loopW (model_Model_Spaces.s1 ((none, ()), H) ((⟨none, 0, 0⟩, ()), H ++ [.cells [.mp none] .exact])) (⟨none, 0, 0⟩, 0, ()) (H ++ [.cells [.mp none] .exact]) = some ((⟨none, 0, 0⟩, ()), H ++ [.cells [.mp none] .exact]) := loopW_eq (n := 1) rfl
  exact (bind_to h).trans rfl
theorem none19_leaves (H : Heap) : model_Model_Leaves none H = some ((⟨none, 0, 0⟩, ()), H ++ [.cells [.mp none] .exact]) := by
  unfold model_Model_Leaves
  have h0 : model_Model_see none H = some ((none, ()), H) := rfl
  have hk : maps_Keys_model_tree_int_model_space none H = some (((some (H.length, 0), ()), ()), H ++ [.cells [.mp none] .exact]) := rfl
  refine (bind_to h0).trans ((bind_to hk).trans ((bind_to (none_sorted H)).trans ?_))
  have h : loopW (model_Model_Leaves.s2 ((none, ()), H) ((⟨none, 0, 0⟩, ()), H ++ [.cells [.mp none] .exact])) (⟨none, 0, 0⟩, 0, ()) (H ++ [.cells [.mp none] .exact]) = some ((⟨none, 0, 0⟩, ()), H ++ [.cells [.mp none] .exact]) := loopW_eq (n := 1) rfl
  exact (bind_to h).trans rfl
theorem ModelNone_true (id p : Int) (_ : wfC (.int .i64 id)) (_ : wfC (.int .i64 p)) : law19_ModelNone id p = some (true, ()) := by
  have key : WP (law19_ModelNone.on id p []) fun x => x.1 = true := by
    unfold law19_ModelNone.on
    refine wp_to (v := ((([] : Bytes), (1 : Int), ()), ([] : Heap))) rfl (wp_to awake19 (wp_t rfl (wp_t rfl (wp_to (v := (((1 : Int), ()), ([] : Heap))) rfl (wp_t rfl ?_)))))
    refine wp_seq (fun x => x.1.1 = 1) (by unfold model_Model_Put; exact wp_to (v := none) rfl (wp_t rfl (wp_some rfl))) ?_
    rintro ⟨⟨e, ⟨⟩⟩, G⟩ he
    refine wp_t (decide_eq_true he) (wp_seq (fun x => x.1.1 = 1) ?_ ?_)
    · unfold model_Model_Do
      have t1 : (G ++ [Blk.cells [.int .i64 0, .int .i64 0, .int .i64 0, .int .i64 0, .int .i64 0, .int .i64 0] .exact])[G.length]? = some (.cells [.int .i64 0, .int .i64 0, .int .i64 0, .int .i64 0, .int .i64 0, .int .i64 0] .exact) := by rw [tl_get0]; rfl
      refine wp_seq (fun _ => True) (wp_to (rdI_of t1 (n := 0) rfl) (wp_f rfl (wp_to (rdI_of t1 (n := 0) rfl) (wp_f rfl (wp_some trivial))))) fun p _ => wp_t rfl (wp_some rfl)
    rintro ⟨⟨e2, ⟨⟩⟩, G2⟩ he2
    refine wp_t (decide_eq_true he2) (wp_to (v := (((1 : Int), ()), G2)) rfl (wp_t rfl (wp_to (v := (((1 : Int), ()), G2)) rfl (wp_t rfl (wp_to (none19_spaces _) (wp_t rfl (wp_to (none19_leaves _) (wp_t rfl (wp_to (v := ((none, ()), _)) rfl (wp_some rfl))))))))))
  obtain ⟨⟨b, ⟨⟩⟩, e1, e2⟩ := key
  have e2 : b = true := e2
  subst e2
  exact e1
end Ev
