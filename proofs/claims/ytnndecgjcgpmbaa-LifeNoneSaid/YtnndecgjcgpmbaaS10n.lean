/- LifeNone: no blocks are nothing; so many there may be. -/
import Derived.Test.YtnndecgjcgpmbaaS10b
namespace Ev
open Go (IntKind)

theorem new_any (n k : Int) (H : Heap) : ∃ r H', life_New n k H = some (r, H') ∧ (r.2.1 = 0 ↔ 1 ≤ n ∧ n ≤ 32 ∧ 1 ≤ k ∧ k ≤ 16) ∧ ((Option.isNone r.1) = false ↔ 1 ≤ n ∧ n ≤ 32 ∧ 1 ≤ k ∧ k ≤ 16) := by
  by_cases h : 1 ≤ n ∧ n ≤ 32 ∧ 1 ≤ k ∧ k ≤ 16
  · obtain ⟨H', q, _⟩ := new_eq h.1 h.2.1 h.2.2.1 h.2.2.2 H
    exact ⟨_, _, q, by simp [h], by simp [h]⟩
  · refine ⟨(none, 1, ()), H, ?_, by simp [h], by simp [h]⟩
    unfold life_New
    by_cases h1 : n < 1
    · simp [h1]
    · by_cases h2 : 32 < n
      · simp [h1, h2]
      · by_cases h3 : k < 1
        · simp [h1, h2, h3]
        · have h4 : 16 < k := by omega
          simp [h1, h2, h3, h4]

theorem in_none (b : Int) (H : Heap) : life_Life_in none b H = some ((false, ()), H) := by simp [life_Life_in]
theorem set_none (b w : Int) (H : Heap) : life_Life_set none b w H = some ((false, ()), H) := by simp [life_Life_set, in_none]

theorem LifeNone_true (x0 x1 x2 : Int) (_ : wfC (.int .i64 x0)) (_ : wfC (.int .i64 x1)) (_ : wfC (.int .i64 x2)) : law10_LifeNone x0 x1 x2 = some (true, ()) := by
  obtain ⟨r, H', q, e1, e2⟩ := new_any x0 x1 []
  have t1 : life_Life_Take none [] = some ((0, 0, false, ()), []) := by simp [life_Life_Take]
  have t2 : life_Life_At none [] = some ((0, 0, false, ()), []) := by simp [life_Life_At]
  have t3 : life_Life_Is none x2 H' = some ((-1, ()), H') := by simp [life_Life_Is, in_none]
  have t4 : life_Life_Open none x2 H' = some ((false, ()), H') := by simp [life_Life_Open, in_none]
  have t5 : life_Life_Full none x2 H' = some ((false, ()), H') := by simp [life_Life_Full, set_none]
  have t6 : life_Life_Free none x2 H' = some ((false, ()), H') := by simp [life_Life_Free, set_none]
  have t7 : life_Life_Bad none x2 H' = some ((false, ()), H') := by simp [life_Life_Bad, set_none]
  have t8 : life_Life_Room none H' = some ((0, ()), H') := by simp [life_Life_Room]
  have t9 : life_Life_Count none 0 H' = some ((0, ()), H') := by simp [life_Life_Count]
  obtain ⟨p, er, u⟩ := r
  simp only at e1 e2
  have guard : ∀ b : Bool, (decide (1 ≤ x0 ∧ x0 ≤ 32 ∧ 1 ≤ x1 ∧ x1 ≤ 16) = b) → ((cond (decide (1 ≤ x0)) (cond (decide (x0 ≤ 32)) (cond (decide (1 ≤ x1)) (some (((decide (x1 ≤ 16)), ()), H')) (some ((false, ()), H'))) (some ((false, ()), H'))) (some ((false, ()), H')) : Option ((Bool × Unit) × Heap))) = some ((b, ()), H') := by
    intro b hb
    subst hb
    by_cases h1 : 1 ≤ x0 <;> by_cases h2 : x0 ≤ 32 <;> by_cases h3 : 1 ≤ x1 <;> by_cases h4 : x1 ≤ 16 <;> simp [h1, h2, h3, h4]
  have g := guard _ rfl
  unfold law10_LifeNone law10_LifeNone.on
  simp only [t1, t2, bind_some, q, g, awake_true, t3, t4, t5, t6, t7, t8, t9, cond_t, Bool.not_false, decide_true]
  have a1 : (decide (er = 0)) = decide (1 ≤ x0 ∧ x0 ≤ 32 ∧ 1 ≤ x1 ∧ x1 ≤ 16) := by
    apply Bool.eq_iff_iff.2; simp only [decide_eq_true_eq]; exact e1
  have a2 : (!(Option.isNone p)) = decide (1 ≤ x0 ∧ x0 ≤ 32 ∧ 1 ≤ x1 ∧ x1 ≤ 16) := by
    apply Bool.eq_iff_iff.2; simp only [decide_eq_true_eq, Bool.not_eq_true']; exact e2
  rw [a1, a2]
  simp
end Ev
