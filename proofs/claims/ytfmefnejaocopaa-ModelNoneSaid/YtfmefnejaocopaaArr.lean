/- Rows of structs in a block; what a step keeps of the heap. -/
import Derived.Test.YtfmefnejaocopaaAp
namespace Ev
open Go (IntKind)

/-- The cells of n things, one behind the other. -/
def arrC : Nat → (Nat → List C) → List C
  | 0, _ => []
  | n + 1, f => arrC n f ++ f n
theorem arrC_length {f : Nat → List C} {es : Nat} (hf : ∀ i, (f i).length = es) : ∀ n, (arrC n f).length = n * es
  | 0 => by simp [arrC]
  | n + 1 => by rw [arrC, List.length_append, arrC_length hf n, hf, Nat.succ_mul]
theorem lt_mul {n i j es : Nat} (hi : i < n) (hj : j < es) : i * es + j < n * es := by
  have : (i + 1) * es ≤ n * es := Nat.mul_le_mul_right _ hi
  rw [Nat.succ_mul] at this; omega
theorem arrC_get {f : Nat → List C} {es : Nat} (hf : ∀ i, (f i).length = es) {i j : Nat} (hj : j < es) : ∀ {n : Nat}, i < n → (arrC n f)[i * es + j]? = (f i)[j]?
  | 0, h => absurd h (Nat.not_lt_zero _)
  | n + 1, h => by
    rw [arrC]
    by_cases hi : i < n
    · rw [List.getElem?_append_left (by rw [arrC_length hf]; exact lt_mul hi hj), arrC_get hf hj hi]
    · have : i = n := by omega
      subst this
      rw [List.getElem?_append_right (by rw [arrC_length hf]; omega), arrC_length hf, Nat.add_sub_cancel_left]
theorem arrC_congr {f g : Nat → List C} : ∀ {n : Nat}, (∀ i, i < n → f i = g i) → arrC n f = arrC n g
  | 0, _ => rfl
  | n + 1, h => by rw [arrC, arrC, arrC_congr (fun i hi => h i (by omega)), h n (by omega)]
theorem arrC_set {f : Nat → List C} {es : Nat} (hf : ∀ i, (f i).length = es) {i j : Nat} (hj : j < es) (v : C) : ∀ {n : Nat}, i < n → (arrC n f).set (i * es + j) v = arrC n fun k => if k = i then (f i).set j v else f k
  | 0, h => absurd h (Nat.not_lt_zero _)
  | n + 1, h => by
    rw [arrC, arrC]
    by_cases hi : i < n
    · rw [List.set_append_left _ _ (by rw [arrC_length hf]; exact lt_mul hi hj), arrC_set hf hj v hi, if_neg (by omega)]
    · have : i = n := by omega
      subst this
      rw [List.set_append_right _ _ (by rw [arrC_length hf]; omega), arrC_length hf, Nat.add_sub_cancel_left, if_pos rfl]
      congr 1
      exact arrC_congr fun k hk => by rw [if_neg (by omega)]
/-- Rows out of a list. -/
theorem arrC_drop_take {f : Nat → List C} {es : Nat} (hf : ∀ i, (f i).length = es) {i m : Nat} (hm : m ≤ es) : ∀ {n : Nat}, i < n → ((arrC n f).drop (i * es)).take m = (f i).take m
  | n, h => by
    apply List.ext_getElem?
    intro j
    rw [List.getElem?_take, List.getElem?_take]
    by_cases hj : j < m
    · rw [if_pos hj, if_pos hj, List.getElem?_drop, arrC_get hf (by omega) h]
    · rw [if_neg hj, if_neg hj]

/-- What a step keeps: all but the blocks of F; blocks may be new. -/
structure Keep (F : Nat → Prop) (H H' : Heap) : Prop where
  len : H.length ≤ H'.length
  same : ∀ k, k < H.length → ¬ F k → H'[k]? = H[k]?
theorem Keep.refl (F : Nat → Prop) (H : Heap) : Keep F H H := ⟨Nat.le_refl _, fun _ _ _ => rfl⟩
theorem Keep.trans {F : Nat → Prop} {A B D : Heap} (h : Keep F A B) (k : Keep F B D) : Keep F A D :=
  ⟨Nat.le_trans h.len k.len, fun j hj hf => (k.same j (Nat.lt_of_lt_of_le hj h.len) hf).trans (h.same j hj hf)⟩
theorem Keep.mono {F G : Nat → Prop} {A B : Heap} (h : Keep F A B) (hg : ∀ k, F k → G k) : Keep G A B := ⟨h.len, fun k hk hf => h.same k hk fun x => hf (hg k x)⟩
/-- Blocks that are new do not count. -/
theorem Keep.new {F G : Nat → Prop} {A B : Heap} (h : Keep F A B) (hg : ∀ k, F k → k < A.length → G k) : Keep G A B := ⟨h.len, fun k hk hf => h.same k hk fun x => hf (hg k x hk)⟩
theorem Keep.push (F : Nat → Prop) (H : Heap) (x : Blk) : Keep F H (H ++ [x]) := ⟨by simp, fun _ hk _ => app_lt hk⟩
theorem Keep.set {F : Nat → Prop} (H : Heap) (b : Nat) (x : Blk) (hF : F b) : Keep F H (H.set b x) := ⟨by simp, fun k _ hf => set_get' (fun e => hf (e ▸ hF))⟩
theorem Keep.get {F : Nat → Prop} {A B : Heap} (h : Keep F A B) {k : Nat} {x : Blk} (hk : A[k]? = some x) (hf : ¬ F k) : B[k]? = some x := by
  rw [h.same k (List.getElem?_eq_some_iff.1 hk).1 hf]; exact hk
theorem get_lt {H : Heap} {k : Nat} {x : Blk} (h : H[k]? = some x) : k < H.length := (List.getElem?_eq_some_iff.1 h).1

theorem wr_last {H : Heap} {o : Nat} {cs : List C} {bk : BK} {new : List C} (hb : bk ≠ .ro) (ho : o + new.length ≤ cs.length) : wr (H ++ [.cells cs bk]) H.length o new = some (H ++ [.cells (setL cs o new) bk]) := by
  rw [wr_of app_last hb ho, set_last]

/-- The cells of a slice. -/
theorem slRow_some {H : Heap} {es : Nat} {s : Sl} {b o : Nat} {row : List C} (hp : s.p = some (b, o)) (h : slRow H es s = some row) : ∃ cs bk, H[b]? = some (.cells cs bk) ∧ o + s.len * es ≤ cs.length ∧ (cs.drop o).take (s.len * es) = row := by
  unfold slRow at h
  rw [hp] at h
  simp only [Heap.row] at h
  split at h
  · rename_i cs bk hb
    unfold cut at h
    by_cases hl : o + s.len * es ≤ cs.length
    · rw [decide_eq_true hl, cond_t] at h
      exact ⟨cs, bk, hb, hl, Option.some.inj h⟩
    · rw [decide_eq_false hl, cond_f] at h; cases h
  · cases h
theorem slRow_len {H : Heap} {es : Nat} {s : Sl} {row : List C} (h : slRow H es s = some row) (hn : s.p = none → s.len = 0) : row.length = s.len * es := by
  cases hp : s.p with
  | none =>
    unfold slRow at h
    rw [hp] at h
    cases h
    rw [hn hp]; simp
  | some a =>
    obtain ⟨cs, bk, _, h2, h3⟩ := slRow_some hp h
    rw [← h3, List.length_take, List.length_drop]; omega
/-- One cell of a slice's row. -/
theorem slRow_cell {H : Heap} {es : Nat} {s : Sl} {row : List C} (h : slRow H es s = some row) {i : Nat} (hi : i < s.len) (hn : s.p = none → s.len = 0) : ∃ b o, s.p = some (b, o) ∧ Sl.at es s (i : Int) = some (b, o + i * es) ∧ ∃ cs bk, H[b]? = some (.cells cs bk) ∧ o + s.len * es ≤ cs.length ∧ ∀ j, j < es → cs[o + i * es + j]? = row[i * es + j]? := by
  cases hp : s.p with
  | none => have := hn hp; omega
  | some a =>
    obtain ⟨cs, bk, h1, h2, h3⟩ := slRow_some hp h
    refine ⟨a.1, a.2, rfl, ?_, cs, bk, h1, h2, ?_⟩
    · cases s; simp only at hp; subst hp; rw [at_of (by omega) (by simpa using hi)]; simp
    · intro j hj
      have hlt : i * es + j < s.len * es := lt_mul hi hj
      rw [← h3, List.getElem?_take, if_pos hlt, List.getElem?_drop, Nat.add_assoc]
theorem slRow_keep {H H' : Heap} {es : Nat} {s : Sl} {row : List C} (h : slRow H es s = some row) (hk : ∀ b o, s.p = some (b, o) → H'[b]? = H[b]?) : slRow H' es s = some row := by
  cases hp : s.p with
  | none => unfold slRow at h ⊢; rw [hp] at h ⊢; exact h
  | some a =>
    have := hk a.1 a.2 hp
    unfold slRow at h ⊢
    rw [hp] at h ⊢
    simp only [Heap.row] at h ⊢
    rw [this]; exact h
end Ev
