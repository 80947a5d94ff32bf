/- Rows of typed cells; lists of numbers in slices. -/
import Derived.Test.YtfmefnejaocopaaEvOpen
import Derived.Test.YtfmefnejaocopaaArr
namespace Ev
open Go (IntKind)

theorem rowsC_get {cts : List CT} : ∀ {rows : List (Tup cts)} {i : Nat} {x : Tup cts} {j : Nat}, rows[i]? = some x → j < cts.length → (rowsOf cts rows)[i * cts.length + j]? = (Tup.mk cts x)[j]?
  | [], _, _, _, h, _ => by simp at h
  | y :: r, 0, x, j, h, hj => by
    simp at h
    subst h
    simp only [rowsOf, List.map_cons, List.flatten_cons, Nat.zero_mul, Nat.zero_add]
    rw [List.getElem?_append_left (by rw [Tup.mk_length]; exact hj)]
  | y :: r, i + 1, x, j, h, hj => by
    have ih := rowsC_get (rows := r) (i := i) (j := j) (by simpa using h) hj
    simp only [rowsOf, List.map_cons, List.flatten_cons] at ih ⊢
    rw [List.getElem?_append_right (by rw [Tup.mk_length, Nat.succ_mul]; omega), Tup.mk_length]
    rw [← ih]
    congr 1
    rw [Nat.succ_mul]; omega
theorem rowsC_length {cts : List CT} : ∀ (rows : List (Tup cts)), (rowsOf cts rows).length = rows.length * cts.length
  | [] => by simp [rowsOf]
  | x :: r => by
    have := rowsC_length r
    simp only [rowsOf, List.map_cons, List.flatten_cons, List.length_append, Tup.mk_length, List.length_cons] at this ⊢
    rw [this, Nat.succ_mul]; omega

def intC (l : List Int) : List C := l.map (C.int .i64)
end Ev
