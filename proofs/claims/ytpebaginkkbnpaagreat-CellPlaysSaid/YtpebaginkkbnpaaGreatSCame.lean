/- Slices that came in: their beginnings. -/
import Derived.Test.YtpebaginkkbnpaaGreatSSlices
namespace Ev
open Go (IntKind)

theorem came_stay {cts : List CT} {B H : Heap} {s : Sl} (h : Came cts B s H) : Keep (fun _ => False) B H := by
  rcases h with ⟨_, rfl⟩ | ⟨_, rows, _, _, _, rfl, _⟩
  · exact Keep.refl _ _
  · exact Keep.push _ _ _
theorem came_fits {cts : List CT} {B H : Heap} {s : Sl} (h : Came cts B s H) : s.len ≤ s.cap := by
  rcases h with ⟨rfl, rfl⟩ | ⟨len, rows, rfl, h1, _⟩
  · exact Nat.le_refl _
  · exact h1
theorem rowsC_take {cts : List CT} : ∀ (rows : List (Tup cts)) (n : Nat), rowsOf cts (rows.take n) = (rowsOf cts rows).take (n * cts.length)
  | [], n => by simp [rowsOf]
  | x :: r, 0 => by simp [rowsOf]
  | x :: r, n + 1 => by
    have ih := rowsC_take r n
    simp only [rowsOf, List.take_succ_cons, List.map_cons, List.flatten_cons] at ih ⊢
    rw [ih, List.take_append, List.take_of_length_le (l := Tup.mk cts x) (by rw [Tup.mk_length, Nat.succ_mul]; omega), Tup.mk_length]
    congr 2
    rw [Nat.succ_mul]; omega
theorem row_front {cts : List CT} {H : Heap} {s : Sl} {rows : List (Tup cts)} (h : Row H cts.length s (rowsOf cts rows)) (hl : s.len = rows.length) (hc : s.len ≤ s.cap) {n : Nat} (hn : n ≤ s.len) :
    Sl.sub cts.length s 0 (n : Int) (s.cap : Int) = some ⟨s.p, n, s.cap⟩ ∧ Row H cts.length ⟨s.p, n, s.cap⟩ (rowsOf cts (rows.take n)) := by
  constructor
  · unfold Sl.sub
    have : decide (0 ≤ (0 : Int) ∧ (0 : Int) ≤ (n : Int) ∧ (n : Int) ≤ (s.cap : Int) ∧ (s.cap : Int) ≤ (s.cap : Int)) = true := decide_eq_true (by omega)
    rw [this, cond_t]
    cases hp : s.p with
    | none => simp
    | some a => simp
  · refine ⟨?_, fun hp => by have := h.nil hp; show n = 0; omega⟩
    cases hp : s.p with
    | none =>
      have h0 := h.nil hp
      have : n = 0 := by omega
      subst this
      simp [slRow, rowsOf]
    | some x =>
      obtain ⟨cs, bk, h1, h2, h3⟩ := slRow_some (b := x.1) (o := x.2) hp h.row
      have hle : n * cts.length ≤ s.len * cts.length := Nat.mul_le_mul_right _ hn
      unfold slRow
      simp only [Heap.row, h1]
      rw [cut_of (by omega), rowsC_take, ← h3, List.take_take, Nat.min_eq_left hle]
end Ev
