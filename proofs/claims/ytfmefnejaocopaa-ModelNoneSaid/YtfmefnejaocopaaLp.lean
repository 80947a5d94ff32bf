/- Loops that count; heaps that are written out; bytes. -/
import Derived.Test.YtfmefnejaocopaaEvLoop
import Derived.Test.YtfmefnejaocopaaP0
namespace Ev
open Go (IntKind)

theorem loop_for {S X : Type} {step : S → Heap → Option ((S ⊕ X) × Heap)} (n : Nat) (st : Nat → S) (hs : Nat → Heap) {x : X} {H' : Heap}
    (h : ∀ i, i < n → step (st i) (hs i) = some (.inl (st (i + 1)), hs (i + 1))) (he : step (st n) (hs n) = some (.inr x, H')) : loopW step (st 0) (hs 0) = some (x, H') := by
  have key : ∀ k i, i + k = n → iter step (k + 1) (st i) (hs i) = some (x, H') := by
    intro k
    induction k with
    | zero => intro i hi; have : i = n := by omega
              subst this; simp only [iter, he]; rfl
    | succ k ih => intro i hi; rw [iter, h i (by omega)]; exact ih (i + 1) (by omega)
  exact loopW_eq (key n 0 (by omega))
/-- The same, from whatever state equals the first one. -/
theorem loop_for' {S X : Type} {step : S → Heap → Option ((S ⊕ X) × Heap)} {s : S} {H : Heap} (n : Nat) (st : Nat → S) (hs : Nat → Heap) {x : X} {H' : Heap} (h0 : st 0 = s) (h1 : hs 0 = H)
    (h : ∀ i, i < n → step (st i) (hs i) = some (.inl (st (i + 1)), hs (i + 1))) (he : step (st n) (hs n) = some (.inr x, H')) : loopW step s H = some (x, H') := by
  rw [← h0, ← h1]; exact loop_for n st hs h he

theorem idx_of {s : Bytes} {i : Nat} (h : i < s.length) : idxS s (i : Int) = some ((s[i].toNat : Nat) : Int) := by
  unfold idxS
  have : decide (0 ≤ (i : Int)) = true := decide_eq_true (by omega)
  rw [this, cond_t, Int.toNat_natCast, List.getElem?_eq_getElem h]; rfl
theorem wrap_succ {i : Nat} (h : i < 9223372036854775807) : IntKind.wrap .i64 ((i : Int) + 1) = ((i + 1 : Nat) : Int) := by
  rw [wrap_i64 (by omega) (by omega)]; omega

theorem sub_of {s : Bytes} {lo hi : Nat} (h : lo ≤ hi) (h2 : hi ≤ s.length) : subS s (lo : Int) (hi : Int) = some ((s.take hi).drop lo) := by
  unfold subS
  have : decide (0 ≤ (lo : Int) ∧ (lo : Int) ≤ (hi : Int) ∧ (hi : Int) ≤ (s.length : Int)) = true := decide_eq_true ⟨by omega, by omega, by omega⟩
  rw [this, cond_t, Int.toNat_natCast, Int.toNat_natCast]
theorem cat_of {a b : Bytes} (h : a.length + b.length ≤ 4611686018427387904) : catS a b = some (a ++ b) := by
  unfold catS
  have : decide (a.length + b.length ≤ maxStr) = true := decide_eq_true (by unfold maxStr; omega)
  rw [this, cond_t]
theorem rep_of {s : Bytes} {n : Nat} (h : n * s.length ≤ 35184372088832) (h2 : n ≤ 35184372088832) : strings_Repeat s (n : Int) = some ((List.replicate n s).flatten, ()) := by
  unfold strings_Repeat
  have e : (n : Int) * (s.length : Int) = ((n * s.length : Nat) : Int) := (Int.natCast_mul _ _).symm
  have : decide (0 ≤ (n : Int) ∧ (n : Int) ≤ (maxRow : Int) ∧ (n : Int) * (s.length : Int) ≤ (maxRow : Int)) = true := decide_eq_true ⟨by omega, by unfold maxRow; omega, by rw [e]; unfold maxRow; omega⟩
  rw [this, cond_t, Int.toNat_natCast]
theorem flat1 (n : Nat) (b : UInt8) : (List.replicate n [b]).flatten = List.replicate n b := by
  induction n with
  | zero => rfl
  | succ n ih => rw [List.replicate_succ, List.flatten_cons, ih, List.replicate_succ]; rfl
theorem bytes_of_cells (s : Bytes) : bytesOf (cellsOf s) = some s := by
  induction s with
  | nil => rfl
  | cons b s ih =>
    show (bytesOf (cellsOf s)).bind _ = _
    rw [ih]; simp
theorem cells_len (s : Bytes) : (cellsOf s).length = s.length := by simp [cellsOf]
theorem cut_of {cs : List C} {o n : Nat} (h : o + n ≤ cs.length) : cut cs o n = some ((cs.drop o).take n) := by
  unfold cut
  rw [decide_eq_true h, cond_t]
theorem cut_all {cs : List C} {n : Nat} (h : n = cs.length) : cut cs 0 n = some cs := by
  subst h
  rw [cut_of (by omega)]; simp

/-- A text out of a block. -/
theorem strOf_of {H : Heap} {b o len cap : Nat} {cs : List C} {bk : BK} {s : Bytes} (h : H[b]? = some (.cells cs bk)) (hl : o + len ≤ cs.length) (hs : (cs.drop o).take len = cellsOf s) : strOf H ⟨some (b, o), len, cap⟩ = some s := by
  unfold strOf slRow
  simp only [Heap.row, h, Nat.mul_one, cut_of hl, hs]
  exact bytes_of_cells s
theorem strOf_nil {H : Heap} {len cap : Nat} : strOf H ⟨none, len, cap⟩ = some [] := rfl

/-! Heaps at whose end blocks are written out. -/
theorem app_last {H : Heap} {x : Blk} : (H ++ [x])[H.length]? = some x := by simp
theorem app_lt {H : Heap} {x : Blk} {b : Nat} (h : b < H.length) : (H ++ [x])[b]? = H[b]? := List.getElem?_append_left h
theorem set_last {H : Heap} {x y : Blk} : (H ++ [x]).set H.length y = H ++ [y] := by simp
theorem set_lt {H : Heap} {x y : Blk} {b : Nat} (h : b < H.length) : (H ++ [x]).set b y = H.set b y ++ [x] := List.set_append_left _ _ h

theorem wr_of {H : Heap} {b o : Nat} {cs : List C} {bk : BK} {new : List C} (h : H[b]? = some (.cells cs bk)) (hb : bk ≠ .ro) (ho : o + new.length ≤ cs.length) : wr H b o new = some (H.set b (.cells (setL cs o new) bk)) := by
  unfold wr
  simp only [h]
  rw [decide_eq_true hb, decide_eq_true ho]; rfl
theorem rd_agg_of {H : Heap} {b o : Nat} {cs : List C} {bk : BK} {ts : List CT} {x : Tup ts} (h : H[b]? = some (.cells cs bk)) (ho : o + ts.length ≤ cs.length) (hx : Tup.un ts ((cs.drop o).take ts.length) = some x) : rd H (.agg ts) b o = some x := by
  simp only [rd, Heap.row, h, cut_of ho]
  exact hx
end Ev
