/- The law StateNone. -/
import Derived.Test.YtfmefnejaocopaaSAwk8
set_option linter.unusedSimpArgs false
set_option linter.unusedVariables false
namespace Ev
open Go (IntKind)

theorem none_spaces (H : Heap) : state_State_Spaces none H = some ((⟨none, 0, 0⟩, ()), H) := rfl
theorem none_keys (H : Heap) : state_State_Keys none H = some ((0, ()), H) := by
  unfold state_State_Keys
  refine (bind_to (none_spaces H)).trans ?_
  have h : loopW (state_State_Keys.s1 ((⟨none, 0, 0⟩, ()), H)) (0, 0, ()) H = some ((0, ()), H) := loopW_eq (n := 1) rfl
  refine (bind_to h).trans rfl
theorem StateNone_true (x : RecT) (_ : ∀ c ∈ Tup.mk [.int .i64, .int .i64, .int .i64, .int .i64, .int .i64, .int .i64] x, wfC c) : law08_StateNone x = some (true, ()) := by
  obtain ⟨k, id, p, pl, to, n, ⟨⟩⟩ := x
  unfold law08_StateNone law08_StateNone.on
  simp only [state_State_Get, state_State_Space, state_State_Apply, state_State_Lay, state_State_Copy, none_spaces, state_State_Refs, state_State_Live, none_keys, state_State_Bad, state_State_Bads, state_State_Worn, state_State_Dump, Option.isNone_none, Bool.not_true, Bool.not_false, awake08, decide_true, Int.ofNat_zero, Option.bind_some, Option.map_some, cond_true, cond_false, List.append_assoc, List.cons_append, List.nil_append, List.length_append, List.length_cons, List.length_nil, Nat.zero_add, rd_t0, rd_t1, rdI_t0, rdI_t1, rdB_t0, rdB_t1, rdM_t0, rdM_t1, rd_c1, rdI_c1, rdB_c1, rdM_c1, rdI_c0, rdB_c0, rdM_c0, wr_t0, wr_t1, wr_c0, wr_c1, setL, List.set, List.getElem?_cons_zero, List.getElem?_cons_succ, un_i, un_b, un_m, un_s, Nat.le_refl, rd_iiib, rd_iiiiii, rd_ibm, rd_iii, rd_iib, rd_ii, rd_3312, rd_iiii, rd_si, rd_33121, rd_33121i, slRow_t0, slRow_t1, sl_c0, sl_c1]
end Ev
