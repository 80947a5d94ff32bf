/- slices.Clone and slices.Contains on numbers and cuts. -/
import Derived.Test.YtpebaginkkbnpaaGreatGSlices
import Derived.Test.YtpebaginkkbnpaaGreatRw
namespace Ev
open Go (IntKind)

theorem contains_eq {H : Heap} {s : Sl} {l : List Int} (h : Row H 1 s (intC l)) (hl : l.length < 4611686018427387904) (x : Int) : slices_Contains_int_int s x H = some ((decide (x ∈ l), ()), H) := by
  have hsl := h.int_len
  unfold slices_Contains_int_int slices_Index_int_int
  obtain ⟨y, H', h1, h2, h3⟩ := loopW_run (step := slices_Index_int_int.s1 s x) (fun t G => G = H ∧ ∃ i : Nat, i ≤ l.length ∧ t.1 = (i : Int) ∧ (x ∈ l ↔ x ∈ l.drop i)) (fun y G => G = H ∧ match y with | .inl _ => x ∉ l | .inr k => x ∈ l ∧ 0 ≤ k.1) (fun t _ => l.length - t.1.toNat)
    (by
      rintro ⟨j, u⟩ G ⟨rfl, i, hi, hj, hm⟩
      have hj : j = (i : Int) := hj
      subst hj
      unfold slices_Index_int_int.s1
      by_cases hlt : i < l.length
      · have hd : decide ((i : Int) < (s.len : Int)) = true := decide_eq_true (by omega)
        obtain ⟨b, o, _, g1, g2⟩ := h.int hlt
        simp only [hd, cond_t, g1, bind_some, g2]
        by_cases he : x = l[i]
        · simp only [decide_eq_true he, cond_t, Round]
          exact ⟨trivial, by rw [he]; exact List.getElem_mem hlt, by omega⟩
        · simp only [decide_eq_false he, cond_f, Round, wrap_succ (show i < 9223372036854775807 by omega)]
          refine ⟨⟨trivial, i + 1, hlt, rfl, ?_⟩, by simp; omega⟩
          rw [hm, List.drop_eq_getElem_cons hlt, List.mem_cons]
          exact ⟨fun hh => hh.resolve_left he, .inr⟩
      · have hd : decide ((i : Int) < (s.len : Int)) = false := decide_eq_false (by omega)
        simp only [hd, cond_f, Round]
        refine ⟨trivial, ?_⟩
        rw [hm, List.drop_eq_nil_of_le (by omega)]
        exact List.not_mem_nil) (0, ()) H ⟨rfl, 0, Nat.zero_le _, rfl, by simp⟩
  subst h2
  rw [h1, bind_some]
  cases y with
  | inl _ =>
    have h3 : x ∉ l := h3
    simp [h3]
  | inr k =>
    obtain ⟨g1, g2⟩ : x ∈ l ∧ 0 ≤ k.1 := h3
    simp [g1, g2]

/-- Clone: nothing, or a new row. -/
theorem clone_int {H : Heap} {s : Sl} {row : List C} (h : Row H 1 s row) (hl : s.len ≤ 1099511627776) : ∃ t H', slices_Clone_int_int s H = some ((t, ()), H') ∧ Row H' 1 t row ∧ Keep (fun _ => False) H H' ∧ t.len = s.len ∧ ∀ b o, t.p = some (b, o) → H.length ≤ b := by
  unfold slices_Clone_int_int
  cases hp : s.p with
  | none =>
    have hr := h.row
    unfold slRow at hr
    rw [hp] at hr
    cases hr
    exact ⟨⟨none, 0, 0⟩, H, by simp, Row.ni H 1 0, Keep.refl _ _, (h.nil hp).symm, fun _ _ hh => by cases hh⟩
  | some a =>
    have hr := (h.push (Blk.cells [] .exact)).row
    simp only [Option.isNone_some, cond_f, hr, bind_some]
    by_cases h0 : s.len = 0
    · refine ⟨⟨some (H.length, 0), 0, 0⟩, H ++ [.cells [] .exact], ?_, ?_, Keep.push _ _ _, h0.symm, fun b o hh => by cases hh; exact Nat.le_refl _⟩
      · simp [appS, h0]
      · have hl := h.len
        rw [h0, Nat.zero_mul] at hl
        rw [List.eq_nil_of_length_eq_zero hl]
        exact ⟨row_last (by rfl), fun hh => by cases hh⟩
    · have hg : Grown (H ++ [.cells [] .exact]) 1 ⟨some (H.length, 0), 0, 0⟩ [] := ⟨rfl, rfl, fun _ => rfl, fun a ha => by cases ha; exact ⟨rfl, .inr app_last⟩⟩
      obtain ⟨a1, a2⟩ := hg.app (bytes := 8) (by decide) (n := s.len) (new := row) (by omega) h.len (by simp; omega) (by simp; omega)
      refine ⟨_, _, by rw [a1]; rfl, Row.grown a2, ⟨by rw [grownH_length]; simp; omega, fun k hk _ => ?_⟩, by simp, fun b o hh => by cases hh; simp⟩
      rw [grownH_get (by simp; omega) (fun a ha => by cases ha; simp; omega), app_lt hk]
theorem clone_cut {H : Heap} {s : Sl} {row : List C} (h : Row H 3 s row) (hl : s.len ≤ 1099511627776) : ∃ t H', slices_Clone_api_Cut_api_Cut s H = some ((t, ()), H') ∧ Row H' 3 t row ∧ Keep (fun _ => False) H H' ∧ t.len = s.len ∧ ∀ b o, t.p = some (b, o) → H.length ≤ b := by
  unfold slices_Clone_api_Cut_api_Cut
  cases hp : s.p with
  | none =>
    have hr := h.row
    unfold slRow at hr
    rw [hp] at hr
    cases hr
    exact ⟨⟨none, 0, 0⟩, H, by simp, Row.ni H 3 0, Keep.refl _ _, (h.nil hp).symm, fun _ _ hh => by cases hh⟩
  | some a =>
    have hr := (h.push (Blk.cells [] .exact)).row
    simp only [Option.isNone_some, cond_f, hr, bind_some]
    by_cases h0 : s.len = 0
    · refine ⟨⟨some (H.length, 0), 0, 0⟩, H ++ [.cells [] .exact], ?_, ?_, Keep.push _ _ _, h0.symm, fun b o hh => by cases hh; exact Nat.le_refl _⟩
      · simp [appS, h0]
      · have hl := h.len
        rw [h0, Nat.zero_mul] at hl
        rw [List.eq_nil_of_length_eq_zero hl]
        exact ⟨row_last (by rfl), fun hh => by cases hh⟩
    · have hg : Grown (H ++ [.cells [] .exact]) 3 ⟨some (H.length, 0), 0, 0⟩ [] := ⟨rfl, rfl, fun _ => rfl, fun a ha => by cases ha; exact ⟨rfl, .inr app_last⟩⟩
      obtain ⟨a1, a2⟩ := hg.app (bytes := 24) (by decide) (n := s.len) (new := row) (by omega) h.len (by simp; omega) (by simp; omega)
      refine ⟨_, _, by rw [a1]; rfl, Row.grown a2, ⟨by rw [grownH_length]; simp; omega, fun k hk _ => ?_⟩, by simp, fun b o hh => by cases hh; simp⟩
      rw [grownH_get (by simp; omega) (fun a ha => by cases ha; simp; omega), app_lt hk]

/-! Slices that came in. -/
end Ev
