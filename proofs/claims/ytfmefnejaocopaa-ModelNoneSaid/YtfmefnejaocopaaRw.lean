/- Slices whose cells are known. -/
import Derived.Test.YtfmefnejaocopaaRws
namespace Ev
open Go (IntKind)

/-- A slice whose cells are known. -/
structure Row (H : Heap) (es : Nat) (s : Sl) (row : List C) : Prop where
  row : slRow H es s = some row
  nil : s.p = none → s.len = 0
theorem Row.len {H : Heap} {es : Nat} {s : Sl} {row : List C} (h : Row H es s row) : row.length = s.len * es := slRow_len h.row h.nil
theorem Row.keep {H H' : Heap} {es : Nat} {s : Sl} {row : List C} (h : Row H es s row) {F : Nat → Prop} (k : Keep F H H') (hF : ∀ b o, s.p = some (b, o) → ¬ F b) : Row H' es s row :=
  ⟨slRow_keep h.row fun b o hp => by
    obtain ⟨cs, bk, h1, _, _⟩ := slRow_some hp h.row
    rw [k.get h1 (hF b o hp), h1], h.nil⟩
theorem Row.lt {H : Heap} {es : Nat} {s : Sl} {row : List C} (h : Row H es s row) {b o : Nat} (hp : s.p = some (b, o)) : b < H.length := by
  obtain ⟨cs, bk, h1, _, _⟩ := slRow_some hp h.row
  exact get_lt h1
theorem Row.push {H : Heap} {es : Nat} {s : Sl} {row : List C} (h : Row H es s row) (x : Blk) : Row (H ++ [x]) es s row := h.keep (Keep.push (fun _ => False) H x) fun _ _ _ => id
theorem Row.ni (H : Heap) (es c : Nat) : Row H es ⟨none, 0, c⟩ [] := ⟨rfl, fun _ => rfl⟩
theorem Row.grown {H : Heap} {es : Nat} {s : Sl} {row : List C} (h : Grown H es s row) : Row H es s row := ⟨h.row, h.nil⟩

/-- One number of a slice. -/
theorem Row.int {H : Heap} {s : Sl} {l : List Int} (h : Row H 1 s (intC l)) {i : Nat} (hi : i < l.length) : ∃ b o, s.p = some (b, o) ∧ Sl.at 1 s (i : Int) = some (b, o + i) ∧ rdI .i64 H b (o + i) = some l[i] := by
  have hl := h.len
  simp [intC] at hl
  obtain ⟨b, o, hp, h1, cs, bk, h2, h3, h4⟩ := slRow_cell h.row (i := i) (by omega) h.nil
  refine ⟨b, o, hp, by simpa using h1, rdI_of h2 ?_⟩
  have := h4 0 (by decide)
  simp only [Nat.mul_one, Nat.add_zero] at this
  rw [this]
  simp [intC, hi]
theorem Row.int_len {H : Heap} {s : Sl} {l : List Int} (h : Row H 1 s (intC l)) : s.len = l.length := by
  have hl := h.len
  simp [intC] at hl; omega

theorem rows_take (cts : List CT) (rows : List (Tup cts)) (n : Nat) : (rowsOf cts rows).take (n * cts.length) = rowsOf cts (rows.take n) := by
  induction rows generalizing n with
  | nil => simp [rowsOf]
  | cons x r ih =>
    cases n with
    | zero => simp [rowsOf]
    | succ n =>
      have := ih n
      simp only [rowsOf, List.map_cons, List.flatten_cons, List.take_succ_cons] at this ⊢
      rw [Nat.succ_mul, Nat.add_comm, List.take_append, List.take_of_length_le (by rw [Tup.mk_length]; omega), Tup.mk_length, Nat.add_sub_cancel_left, this]
theorem came_rows {cts : List CT} {B H : Heap} {s : Sl} (h : Came cts B s H) : ∃ rows : List (Tup cts), Row H cts.length s (rowsOf cts rows) ∧ s.len = rows.length ∧ (∀ x ∈ rows, ∀ c ∈ Tup.mk cts x, wfC c) ∧ ∀ b o, s.p = some (b, o) → b = B.length := by
  rcases h with ⟨rfl, rfl⟩ | ⟨len, rows, rfl, h1, h2, rfl, h3⟩
  · exact ⟨[], ⟨rfl, fun _ => rfl⟩, rfl, fun x hx => absurd hx List.not_mem_nil, fun b o hh => by cases hh⟩
  · refine ⟨rows.take len, ⟨?_, fun hh => by cases hh⟩, by simp; omega, fun x hx => h3 x (List.mem_of_mem_take hx), fun b o hh => by cases hh; rfl⟩
    unfold slRow
    simp only [Heap.row, app_last]
    rw [cut_of (by rw [rowsC_length]; have := Nat.mul_le_mul_right cts.length h1; omega), List.drop_zero, rows_take]
/-- One cell of a row of structs. -/
theorem Row.at {H : Heap} {cts : List CT} {s : Sl} {rows : List (Tup cts)} (h : Row H cts.length s (rowsOf cts rows)) {i : Nat} (hi : i < rows.length) (hpos : 0 < cts.length) : ∃ b o, s.p.isSome ∧ Sl.at cts.length s (i : Int) = some (b, o) ∧ (∃ o', s.p = some (b, o')) ∧ ∃ cs bk, H[b]? = some (.cells cs bk) ∧ o + cts.length ≤ cs.length ∧ (cs.drop o).take cts.length = Tup.mk cts rows[i] := by
  have hl := h.len
  rw [rowsC_length] at hl
  have hsl : s.len = rows.length := Nat.eq_of_mul_eq_mul_right hpos hl.symm
  obtain ⟨b, o, hp, h1, cs, bk, h2, h3, h4⟩ := slRow_cell h.row (i := i) (by omega) h.nil
  have hlt : (i + 1) * cts.length ≤ s.len * cts.length := Nat.mul_le_mul_right _ (by omega)
  rw [Nat.succ_mul] at hlt
  refine ⟨b, o + i * cts.length, by rw [hp]; rfl, h1, ⟨o, hp⟩, cs, bk, h2, by omega, ?_⟩
  apply List.ext_getElem?
  intro j
  rw [List.getElem?_take]
  by_cases hj : j < cts.length
  · rw [if_pos hj, List.getElem?_drop, h4 j hj]
    exact rowsC_get (List.getElem?_eq_getElem hi) hj
  · rw [if_neg hj, List.getElem?_eq_none (by rw [Tup.mk_length]; omega)]
theorem rows_int (rows : List (Tup [.int .i64])) : rowsOf [.int .i64] rows = intC (rows.map fun x => x.1) := by
  unfold rowsOf intC
  induction rows with
  | nil => rfl
  | cons x r ih => rw [List.map_cons, List.flatten_cons, ih]; rfl
theorem came_ints {B H : Heap} {s : Sl} (h : Came [.int .i64] B s H) : ∃ l : List Int, Row H 1 s (intC l) ∧ s.len = l.length ∧ (∀ x ∈ l, wfC (.int .i64 x)) ∧ ∀ b o, s.p = some (b, o) → b = B.length := by
  obtain ⟨rows, h1, h2, h3, h4⟩ := came_rows h
  rw [rows_int] at h1
  refine ⟨_, h1, h2.trans (List.length_map _).symm, ?_, h4⟩
  intro x hx
  obtain ⟨y, hy, rfl⟩ := List.mem_map.1 hx
  exact h3 y hy _ (by simp [Tup.mk, CT.mk])
end Ev
