/- What the law leans on: texts of this claim, put together. -/
import Derived.Test.YtbnghapbakaheaaEvCore
import Derived.Test.YtbnghapbakaheaaEvLoop
import Derived.Test.YtbnghapbakaheaaEvOpen
import Derived.Test.YtbnghapbakaheaaGRec
import Derived.Test.YtbnghapbakaheaaGRef07
import Derived.Test.YtbnghapbakaheaaGState
import Derived.Test.YtbnghapbakaheaaGRef08
import Derived.Test.YtbnghapbakaheaaGRef16
import Derived.Test.YtbnghapbakaheaaGLaw17
import Derived.Test.YtbnghapbakaheaaGTxn
set_option linter.unusedSimpArgs false
set_option linter.unusedVariables false
namespace Ev
open Go (IntKind)

end Ev

namespace Ev
open Go (IntKind)

theorem loop_for {S X : Type} {step : S → Heap → Option ((S ⊕ X) × Heap)} (n : Nat) (st : Nat → S) (hs : Nat → Heap) {x : X} {H' : Heap}
    (h : ∀ i, i < n → step (st i) (hs i) = some (.inl (st (i + 1)), hs (i + 1))) (he : step (st n) (hs n) = some (.inr x, H')) : loopW step (st 0) (hs 0) = some (x, H') := by
  have key : ∀ k i, i + k = n → iter step (k + 1) (st i) (hs i) = some (x, H') := by
    intro k
    induction k with
    | zero => intro i hi; have : i = n := by omega
              subst this; simp only [iter, he]; rfl
    | succ k ih => intro i hi; rw [iter, h i (by omega)]; exact ih (i + 1) (by omega)
  exact loopW_eq (key n 0 (by omega))
/-- The same, from whatever state equals the first one. -/
theorem loop_for' {S X : Type} {step : S → Heap → Option ((S ⊕ X) × Heap)} {s : S} {H : Heap} (n : Nat) (st : Nat → S) (hs : Nat → Heap) {x : X} {H' : Heap} (h0 : st 0 = s) (h1 : hs 0 = H)
    (h : ∀ i, i < n → step (st i) (hs i) = some (.inl (st (i + 1)), hs (i + 1))) (he : step (st n) (hs n) = some (.inr x, H')) : loopW step s H = some (x, H') := by
  rw [← h0, ← h1]; exact loop_for n st hs h he

theorem wrap_succ {i : Nat} (h : i < 9223372036854775807) : IntKind.wrap .i64 ((i : Int) + 1) = ((i + 1 : Nat) : Int) := by
  rw [wrap_i64 (by omega) (by omega)]; omega

theorem bytes_of_cells (s : Bytes) : bytesOf (cellsOf s) = some s := by
  induction s with
  | nil => rfl
  | cons b s ih =>
    show (bytesOf (cellsOf s)).bind _ = _
    rw [ih]; simp
theorem cut_of {cs : List C} {o n : Nat} (h : o + n ≤ cs.length) : cut cs o n = some ((cs.drop o).take n) := by
  unfold cut
  rw [decide_eq_true h, cond_t]
theorem cut_all {cs : List C} {n : Nat} (h : n = cs.length) : cut cs 0 n = some cs := by
  subst h
  rw [cut_of (by omega)]; simp

/-! Heaps at whose end blocks are written out. -/
theorem app_last {H : Heap} {x : Blk} : (H ++ [x])[H.length]? = some x := by simp
theorem app_lt {H : Heap} {x : Blk} {b : Nat} (h : b < H.length) : (H ++ [x])[b]? = H[b]? := List.getElem?_append_left h
theorem wr_of {H : Heap} {b o : Nat} {cs : List C} {bk : BK} {new : List C} (h : H[b]? = some (.cells cs bk)) (hb : bk ≠ .ro) (ho : o + new.length ≤ cs.length) : wr H b o new = some (H.set b (.cells (setL cs o new) bk)) := by
  unfold wr
  simp only [h]
  rw [decide_eq_true hb, decide_eq_true ho]; rfl
theorem rd_agg_of {H : Heap} {b o : Nat} {cs : List C} {bk : BK} {ts : List CT} {x : Tup ts} (h : H[b]? = some (.cells cs bk)) (ho : o + ts.length ≤ cs.length) (hx : Tup.un ts ((cs.drop o).take ts.length) = some x) : rd H (.agg ts) b o = some x := by
  simp only [rd, Heap.row, h, cut_of ho]
  exact hx
end Ev

namespace Ev
open Go (IntKind)

/-- A slice that append has made, or an empty one. -/
structure Grown (H : Heap) (es : Nat) (s : Sl) (cs : List C) : Prop where
  cap : s.cap = s.len
  len : cs.length = s.len * es
  nil : s.p = none → s.len = 0
  blk : ∀ a, s.p = some a → a.2 = 0 ∧ (H[a.1]? = some (.cells cs .loose) ∨ H[a.1]? = some (.cells cs .exact))

theorem Grown.ni (H : Heap) (es : Nat) : Grown H es ⟨none, 0, 0⟩ [] := ⟨rfl, by simp, fun _ => rfl, fun a h => by cases h⟩

theorem Grown.row {H : Heap} {es : Nat} {s : Sl} {cs : List C} (h : Grown H es s cs) : slRow H es s = some cs := by
  unfold slRow
  cases hp : s.p with
  | none =>
    have := h.len
    rw [h.nil hp, Nat.zero_mul] at this
    simp [List.eq_nil_of_length_eq_zero this]
  | some a =>
    obtain ⟨h1, h2⟩ := h.blk a hp
    rcases h2 with h2 | h2 <;> simp only [Heap.row, h2, h1, cut_all h.len.symm]
theorem Grown.str {H : Heap} {s : Sl} {t : Bytes} (h : Grown H 1 s (cellsOf t)) : strOf H s = some t := by
  unfold strOf
  rw [h.row]; exact bytes_of_cells t

/-- The heap behind a growth: the old block is gone if its end is not known. -/
def grownH (H : Heap) (s : Sl) (cs : List C) : Heap :=
  match s.p with
  | none => H ++ [.cells cs .loose]
  | some a => match H[a.1]? with
    | some (.cells _ .loose) => H.set a.1 .dead ++ [.cells cs .loose]
    | _ => H ++ [.cells cs .loose]
theorem grownH_length (H : Heap) (s : Sl) (cs : List C) : (grownH H s cs).length = H.length + 1 := by
  unfold grownH
  split
  · simp
  · split <;> simp
theorem grownH_get {H : Heap} {s : Sl} {cs : List C} {j : Nat} (hj : j < H.length) (ha : ∀ a, s.p = some a → a.1 ≠ j) : (grownH H s cs)[j]? = H[j]? := by
  unfold grownH
  split
  · rw [app_lt hj]
  · rename_i a hp
    split
    · rw [app_lt (by simpa using hj), set_get' (ha a hp)]
    · rw [app_lt hj]
theorem grownH_last (H : Heap) (s : Sl) (cs : List C) : (grownH H s cs)[H.length]? = some (.cells cs .loose) := by
  unfold grownH
  split
  · exact app_last
  · split
    · rw [List.getElem?_append_right (by simp)]; simp
    · exact app_last

theorem Grown.app {H : Heap} {es bytes : Nat} {s : Sl} {cs : List C} (h : Grown H es s cs) (hes : 0 < es) {n : Nat} {new : List C} (hn : 0 < n) (hnew : new.length = n * es) (hb : (s.len + n) * bytes ≤ 35184372088832) (hb2 : s.len + n ≤ 35184372088832) :
    appS H es bytes s n new = some (⟨some (H.length, 0), s.len + n, s.len + n⟩, grownH H s (cs ++ new)) ∧ Grown (grownH H s (cs ++ new)) es ⟨some (H.length, 0), s.len + n, s.len + n⟩ (cs ++ new) := by
  constructor
  · unfold appS
    have h1 : decide (s.len + n ≤ s.cap) = false := decide_eq_false (by rw [h.cap]; omega)
    have h2 : decide ((s.len + n) * bytes ≤ maxRow ∧ s.len + n ≤ maxRow) = true := decide_eq_true (by unfold maxRow; omega)
    rw [h1, cond_f, h2, cond_t, h.row, bind_some]
    have hk : growKill H es s = some (match s.p with
        | none => H
        | some a => match H[a.1]? with
          | some (.cells _ .loose) => H.set a.1 .dead
          | _ => H) := by
      unfold growKill
      cases hp : s.p with
      | none => rfl
      | some a =>
        obtain ⟨g1, g2⟩ := h.blk a hp
        rcases g2 with g2 | g2
        · have : decide (a.2 + s.cap * es = cs.length) = true := decide_eq_true (by rw [g1, h.cap, h.len]; omega)
          simp only [g2, this, cond_t]
        · simp only [g2]
    rw [hk, bind_some]
    unfold grownH
    cases hp : s.p with
    | none => rfl
    | some a =>
      obtain ⟨g1, g2⟩ := h.blk a hp
      rcases g2 with g2 | g2 <;> simp only [g2]
  · refine ⟨rfl, by rw [List.length_append, h.len, hnew, Nat.add_mul], fun hh => by (cases hh), ?_⟩
    rintro a ha
    cases ha
    exact ⟨rfl, .inl (grownH_last H s _)⟩

/-- A block behind does not matter. -/
theorem Grown.mono {H H' : Heap} {es : Nat} {s : Sl} {cs : List C} (h : Grown H es s cs) (hh : ∀ a, s.p = some a → H'[a.1]? = H[a.1]?) : Grown H' es s cs :=
  ⟨h.cap, h.len, h.nil, fun a ha => by rw [hh a ha]; exact h.blk a ha⟩
theorem Grown.lt {H : Heap} {es : Nat} {s : Sl} {cs : List C} (h : Grown H es s cs) {a : Nat × Nat} (ha : s.p = some a) : a.1 < H.length := by
  obtain ⟨_, h2⟩ := h.blk a ha
  rcases h2 with h2 | h2 <;> exact (List.getElem?_eq_some_iff.1 h2).1
theorem Grown.push {H : Heap} {es : Nat} {s : Sl} {cs : List C} (h : Grown H es s cs) (x : Blk) : Grown (H ++ [x]) es s cs :=
  h.mono fun _ ha => app_lt (h.lt ha)

end Ev

namespace Ev
open Go (IntKind)

theorem lt_mul {n i j es : Nat} (hi : i < n) (hj : j < es) : i * es + j < n * es := by
  have : (i + 1) * es ≤ n * es := Nat.mul_le_mul_right _ hi
  rw [Nat.succ_mul] at this; omega
/-- What a step keeps: all but the blocks of F; blocks may be new. -/
structure Keep (F : Nat → Prop) (H H' : Heap) : Prop where
  len : H.length ≤ H'.length
  same : ∀ k, k < H.length → ¬ F k → H'[k]? = H[k]?
theorem Keep.refl (F : Nat → Prop) (H : Heap) : Keep F H H := ⟨Nat.le_refl _, fun _ _ _ => rfl⟩
theorem Keep.trans {F : Nat → Prop} {A B D : Heap} (h : Keep F A B) (k : Keep F B D) : Keep F A D :=
  ⟨Nat.le_trans h.len k.len, fun j hj hf => (k.same j (Nat.lt_of_lt_of_le hj h.len) hf).trans (h.same j hj hf)⟩
theorem Keep.mono {F G : Nat → Prop} {A B : Heap} (h : Keep F A B) (hg : ∀ k, F k → G k) : Keep G A B := ⟨h.len, fun k hk hf => h.same k hk fun x => hf (hg k x)⟩
/-- Blocks that are new do not count. -/
theorem Keep.new {F G : Nat → Prop} {A B : Heap} (h : Keep F A B) (hg : ∀ k, F k → k < A.length → G k) : Keep G A B := ⟨h.len, fun k hk hf => h.same k hk fun x => hf (hg k x hk)⟩
theorem Keep.push (F : Nat → Prop) (H : Heap) (x : Blk) : Keep F H (H ++ [x]) := ⟨by simp, fun _ hk _ => app_lt hk⟩
theorem Keep.set {F : Nat → Prop} (H : Heap) (b : Nat) (x : Blk) (hF : F b) : Keep F H (H.set b x) := ⟨by simp, fun k _ hf => set_get' (fun e => hf (e ▸ hF))⟩
theorem Keep.get {F : Nat → Prop} {A B : Heap} (h : Keep F A B) {k : Nat} {x : Blk} (hk : A[k]? = some x) (hf : ¬ F k) : B[k]? = some x := by
  rw [h.same k (List.getElem?_eq_some_iff.1 hk).1 hf]; exact hk
theorem get_lt {H : Heap} {k : Nat} {x : Blk} (h : H[k]? = some x) : k < H.length := (List.getElem?_eq_some_iff.1 h).1

/-- The cells of a slice. -/
theorem slRow_some {H : Heap} {es : Nat} {s : Sl} {b o : Nat} {row : List C} (hp : s.p = some (b, o)) (h : slRow H es s = some row) : ∃ cs bk, H[b]? = some (.cells cs bk) ∧ o + s.len * es ≤ cs.length ∧ (cs.drop o).take (s.len * es) = row := by
  unfold slRow at h
  rw [hp] at h
  simp only [Heap.row] at h
  split at h
  · rename_i cs bk hb
    unfold cut at h
    by_cases hl : o + s.len * es ≤ cs.length
    · rw [decide_eq_true hl, cond_t] at h
      exact ⟨cs, bk, hb, hl, Option.some.inj h⟩
    · rw [decide_eq_false hl, cond_f] at h; cases h
  · cases h
theorem slRow_len {H : Heap} {es : Nat} {s : Sl} {row : List C} (h : slRow H es s = some row) (hn : s.p = none → s.len = 0) : row.length = s.len * es := by
  cases hp : s.p with
  | none =>
    unfold slRow at h
    rw [hp] at h
    cases h
    rw [hn hp]; simp
  | some a =>
    obtain ⟨cs, bk, _, h2, h3⟩ := slRow_some hp h
    rw [← h3, List.length_take, List.length_drop]; omega
/-- One cell of a slice's row. -/
theorem slRow_cell {H : Heap} {es : Nat} {s : Sl} {row : List C} (h : slRow H es s = some row) {i : Nat} (hi : i < s.len) (hn : s.p = none → s.len = 0) : ∃ b o, s.p = some (b, o) ∧ Sl.at es s (i : Int) = some (b, o + i * es) ∧ ∃ cs bk, H[b]? = some (.cells cs bk) ∧ o + s.len * es ≤ cs.length ∧ ∀ j, j < es → cs[o + i * es + j]? = row[i * es + j]? := by
  cases hp : s.p with
  | none => have := hn hp; omega
  | some a =>
    obtain ⟨cs, bk, h1, h2, h3⟩ := slRow_some hp h
    refine ⟨a.1, a.2, rfl, ?_, cs, bk, h1, h2, ?_⟩
    · cases s; simp only at hp; subst hp; rw [at_of (by omega) (by simpa using hi)]; simp
    · intro j hj
      have hlt : i * es + j < s.len * es := lt_mul hi hj
      rw [← h3, List.getElem?_take, if_pos hlt, List.getElem?_drop, Nat.add_assoc]
theorem slRow_keep {H H' : Heap} {es : Nat} {s : Sl} {row : List C} (h : slRow H es s = some row) (hk : ∀ b o, s.p = some (b, o) → H'[b]? = H[b]?) : slRow H' es s = some row := by
  cases hp : s.p with
  | none => unfold slRow at h ⊢; rw [hp] at h ⊢; exact h
  | some a =>
    have := hk a.1 a.2 hp
    unfold slRow at h ⊢
    rw [hp] at h ⊢
    simp only [Heap.row] at h ⊢
    rw [this]; exact h
end Ev

namespace Ev
open Go (IntKind)

theorem rowsC_get {cts : List CT} : ∀ {rows : List (Tup cts)} {i : Nat} {x : Tup cts} {j : Nat}, rows[i]? = some x → j < cts.length → (rowsOf cts rows)[i * cts.length + j]? = (Tup.mk cts x)[j]?
  | [], _, _, _, h, _ => by simp at h
  | y :: r, 0, x, j, h, hj => by
    simp at h
    subst h
    simp only [rowsOf, List.map_cons, List.flatten_cons, Nat.zero_mul, Nat.zero_add]
    rw [List.getElem?_append_left (by rw [Tup.mk_length]; exact hj)]
  | y :: r, i + 1, x, j, h, hj => by
    have ih := rowsC_get (rows := r) (i := i) (j := j) (by simpa using h) hj
    simp only [rowsOf, List.map_cons, List.flatten_cons] at ih ⊢
    rw [List.getElem?_append_right (by rw [Tup.mk_length, Nat.succ_mul]; omega), Tup.mk_length]
    rw [← ih]
    congr 1
    rw [Nat.succ_mul]; omega
theorem rowsC_length {cts : List CT} : ∀ (rows : List (Tup cts)), (rowsOf cts rows).length = rows.length * cts.length
  | [] => by simp [rowsOf]
  | x :: r => by
    have := rowsC_length r
    simp only [rowsOf, List.map_cons, List.flatten_cons, List.length_append, Tup.mk_length, List.length_cons] at this ⊢
    rw [this, Nat.succ_mul]; omega

def intC (l : List Int) : List C := l.map (C.int .i64)
end Ev

namespace Ev
open Go (IntKind)

/-- A slice whose cells are known. -/
structure Row (H : Heap) (es : Nat) (s : Sl) (row : List C) : Prop where
  row : slRow H es s = some row
  nil : s.p = none → s.len = 0
theorem Row.len {H : Heap} {es : Nat} {s : Sl} {row : List C} (h : Row H es s row) : row.length = s.len * es := slRow_len h.row h.nil
theorem Row.keep {H H' : Heap} {es : Nat} {s : Sl} {row : List C} (h : Row H es s row) {F : Nat → Prop} (k : Keep F H H') (hF : ∀ b o, s.p = some (b, o) → ¬ F b) : Row H' es s row :=
  ⟨slRow_keep h.row fun b o hp => by
    obtain ⟨cs, bk, h1, _, _⟩ := slRow_some hp h.row
    rw [k.get h1 (hF b o hp), h1], h.nil⟩
theorem Row.lt {H : Heap} {es : Nat} {s : Sl} {row : List C} (h : Row H es s row) {b o : Nat} (hp : s.p = some (b, o)) : b < H.length := by
  obtain ⟨cs, bk, h1, _, _⟩ := slRow_some hp h.row
  exact get_lt h1
theorem Row.push {H : Heap} {es : Nat} {s : Sl} {row : List C} (h : Row H es s row) (x : Blk) : Row (H ++ [x]) es s row := h.keep (Keep.push (fun _ => False) H x) fun _ _ _ => id
theorem Row.ni (H : Heap) (es c : Nat) : Row H es ⟨none, 0, c⟩ [] := ⟨rfl, fun _ => rfl⟩
theorem Row.grown {H : Heap} {es : Nat} {s : Sl} {row : List C} (h : Grown H es s row) : Row H es s row := ⟨h.row, h.nil⟩

/-- One number of a slice. -/
theorem Row.int {H : Heap} {s : Sl} {l : List Int} (h : Row H 1 s (intC l)) {i : Nat} (hi : i < l.length) : ∃ b o, s.p = some (b, o) ∧ Sl.at 1 s (i : Int) = some (b, o + i) ∧ rdI .i64 H b (o + i) = some l[i] := by
  have hl := h.len
  simp [intC] at hl
  obtain ⟨b, o, hp, h1, cs, bk, h2, h3, h4⟩ := slRow_cell h.row (i := i) (by omega) h.nil
  refine ⟨b, o, hp, by simpa using h1, rdI_of h2 ?_⟩
  have := h4 0 (by decide)
  simp only [Nat.mul_one, Nat.add_zero] at this
  rw [this]
  simp [intC, hi]
theorem rows_take (cts : List CT) (rows : List (Tup cts)) (n : Nat) : (rowsOf cts rows).take (n * cts.length) = rowsOf cts (rows.take n) := by
  induction rows generalizing n with
  | nil => simp [rowsOf]
  | cons x r ih =>
    cases n with
    | zero => simp [rowsOf]
    | succ n =>
      have := ih n
      simp only [rowsOf, List.map_cons, List.flatten_cons, List.take_succ_cons] at this ⊢
      rw [Nat.succ_mul, Nat.add_comm, List.take_append, List.take_of_length_le (by rw [Tup.mk_length]; omega), Tup.mk_length, Nat.add_sub_cancel_left, this]
theorem came_rows {cts : List CT} {B H : Heap} {s : Sl} (h : Came cts B s H) : ∃ rows : List (Tup cts), Row H cts.length s (rowsOf cts rows) ∧ s.len = rows.length ∧ (∀ x ∈ rows, ∀ c ∈ Tup.mk cts x, wfC c) ∧ ∀ b o, s.p = some (b, o) → b = B.length := by
  rcases h with ⟨rfl, rfl⟩ | ⟨len, rows, rfl, h1, h2, rfl, h3⟩
  · exact ⟨[], ⟨rfl, fun _ => rfl⟩, rfl, fun x hx => absurd hx List.not_mem_nil, fun b o hh => by cases hh⟩
  · refine ⟨rows.take len, ⟨?_, fun hh => by cases hh⟩, by simp; omega, fun x hx => h3 x (List.mem_of_mem_take hx), fun b o hh => by cases hh; rfl⟩
    unfold slRow
    simp only [Heap.row, app_last]
    rw [cut_of (by rw [rowsC_length]; have := Nat.mul_le_mul_right cts.length h1; omega), List.drop_zero, rows_take]
/-- One cell of a row of structs. -/
theorem Row.at {H : Heap} {cts : List CT} {s : Sl} {rows : List (Tup cts)} (h : Row H cts.length s (rowsOf cts rows)) {i : Nat} (hi : i < rows.length) (hpos : 0 < cts.length) : ∃ b o, s.p.isSome ∧ Sl.at cts.length s (i : Int) = some (b, o) ∧ (∃ o', s.p = some (b, o')) ∧ ∃ cs bk, H[b]? = some (.cells cs bk) ∧ o + cts.length ≤ cs.length ∧ (cs.drop o).take cts.length = Tup.mk cts rows[i] := by
  have hl := h.len
  rw [rowsC_length] at hl
  have hsl : s.len = rows.length := Nat.eq_of_mul_eq_mul_right hpos hl.symm
  obtain ⟨b, o, hp, h1, cs, bk, h2, h3, h4⟩ := slRow_cell h.row (i := i) (by omega) h.nil
  have hlt : (i + 1) * cts.length ≤ s.len * cts.length := Nat.mul_le_mul_right _ (by omega)
  rw [Nat.succ_mul] at hlt
  refine ⟨b, o + i * cts.length, by rw [hp]; rfl, h1, ⟨o, hp⟩, cs, bk, h2, by omega, ?_⟩
  apply List.ext_getElem?
  intro j
  rw [List.getElem?_take]
  by_cases hj : j < cts.length
  · rw [if_pos hj, List.getElem?_drop, h4 j hj]
    exact rowsC_get (List.getElem?_eq_getElem hi) hj
  · rw [if_neg hj, List.getElem?_eq_none (by rw [Tup.mk_length]; omega)]
end Ev

namespace Ev
open Go

/-- A loop that counts; the heaps are only known to be there. -/
theorem loop_rise {S X : Type} {step : S → Heap → Option ((S ⊕ X) × Heap)} (n : Nat) (I : Nat → S → Heap → Prop) (Q : X → Heap → Prop)
    (hs : ∀ i y G, i < n → I i y G → (∃ y' G', step y G = some (.inl y', G') ∧ I (i + 1) y' G') ∨ ∃ x G', step y G = some (.inr x, G') ∧ Q x G')
    (he : ∀ y G, I n y G → ∃ x G', step y G = some (.inr x, G') ∧ Q x G') {y : S} {H : Heap} (h0 : I 0 y H) : ∃ x G, loopW step y H = some (x, G) ∧ Q x G := by
  have key : ∀ d i y G, i + d = n → I i y G → ∃ m x G', iter step m y G = some (x, G') ∧ Q x G' := by
    intro d
    induction d with
    | zero =>
      intro i y G hi hI
      have : i = n := by omega
      subst this
      obtain ⟨x, G', g1, g2⟩ := he y G hI
      exact ⟨1, x, G', by rw [iter, g1]; rfl, g2⟩
    | succ d ih =>
      intro i y G hi hI
      rcases hs i y G (by omega) hI with ⟨y', G', g1, g2⟩ | ⟨x, G', g1, g2⟩
      · obtain ⟨m, x, G2, g3, g4⟩ := ih (i + 1) y' G' (by omega) g2
        exact ⟨m + 1, x, G2, by rw [iter, g1]; exact g3, g4⟩
      · exact ⟨1, x, G', by rw [iter, g1]; rfl, g2⟩
  obtain ⟨m, x, G, g1, g2⟩ := key n 0 y H (by omega) h0
  exact ⟨x, G, loopW_eq g1, g2⟩
end Ev

namespace Ev
open Go (IntKind)

section
variable {α : Type}
def Asc (l : List (Int × α)) : Prop := l.Pairwise fun x y => x.1 < y.1
def afind : List (Int × α) → Int → Option α
  | [], _ => none
  | x :: r, k => if x.1 = k then some x.2 else afind r k
def ains : List (Int × α) → Int → α → List (Int × α)
  | [], k, v => [(k, v)]
  | x :: r, k, v => if k < x.1 then (k, v) :: x :: r else if x.1 = k then (k, v) :: r else x :: ains r k v
def adrop : List (Int × α) → Int → List (Int × α)
  | [], _ => []
  | x :: r, k => if x.1 = k then r else x :: adrop r k

theorem Asc.tail {x : Int × α} {l : List (Int × α)} (h : Asc (x :: l)) : Asc l := List.Pairwise.of_cons h
theorem Asc.head {x : Int × α} {l : List (Int × α)} (h : Asc (x :: l)) {y : Int × α} (hy : y ∈ l) : x.1 < y.1 := List.rel_of_pairwise_cons h hy
theorem Asc.nil : Asc ([] : List (Int × α)) := List.Pairwise.nil
theorem afind_none {l : List (Int × α)} {k : Int} (h : ∀ x ∈ l, x.1 ≠ k) : afind l k = none := by
  induction l with
  | nil => rfl
  | cons x l ih => rw [afind, if_neg (h x (by simp))]; exact ih fun y hy => h y (by simp [hy])
theorem afind_mem {l : List (Int × α)} {k : Int} {v : α} (h : afind l k = some v) : (k, v) ∈ l := by
  induction l with
  | nil => cases h
  | cons x l ih =>
    rw [afind] at h
    by_cases e : x.1 = k
    · rw [if_pos e] at h; cases h; rw [← e]; simp
    · rw [if_neg e] at h; exact List.mem_cons_of_mem _ (ih h)
theorem Asc.find {l : List (Int × α)} (h : Asc l) {k : Int} {v : α} (hm : (k, v) ∈ l) : afind l k = some v := by
  induction l with
  | nil => simp at hm
  | cons x l ih =>
    rw [afind]
    rcases List.mem_cons.1 hm with e | hm
    · subst e; rw [if_pos rfl]
    · have := h.head hm
      rw [if_neg (by omega)]
      exact ih h.tail hm
theorem afind_isSome {l : List (Int × α)} {k : Int} : (afind l k).isSome = true ↔ k ∈ l.map Prod.fst := by
  induction l with
  | nil => simp [afind]
  | cons x l ih =>
    rw [afind, List.map_cons, List.mem_cons]
    by_cases e : x.1 = k
    · rw [if_pos e]; simp [e]
    · rw [if_neg e, ih]
      exact ⟨.inr, fun h => h.resolve_left (fun hh => e hh.symm)⟩
theorem ains_mem {l : List (Int × α)} {k : Int} {v : α} {y : Int × α} (h : y ∈ ains l k v) : y = (k, v) ∨ y ∈ l := by
  induction l with
  | nil => exact .inl (by simpa [ains] using h)
  | cons x l ih =>
    rw [ains] at h
    split at h
    · rcases List.mem_cons.1 h with h | h
      · exact .inl h
      · exact .inr h
    · split at h
      · rcases List.mem_cons.1 h with h | h
        · exact .inl h
        · exact .inr (List.mem_cons_of_mem _ h)
      · rcases List.mem_cons.1 h with h | h
        · exact .inr (by simp [h])
        · rcases ih h with h | h
          · exact .inl h
          · exact .inr (List.mem_cons_of_mem _ h)
theorem Asc.ins {l : List (Int × α)} (h : Asc l) (k : Int) (v : α) : Asc (ains l k v) := by
  induction l with
  | nil => exact List.pairwise_singleton _ _
  | cons x l ih =>
    rw [ains]
    by_cases e : k < x.1
    · rw [if_pos e]
      refine List.Pairwise.cons (fun y hy => ?_) h
      rcases List.mem_cons.1 hy with rfl | hy
      · exact e
      · have := h.head hy; show k < y.1; omega
    · rw [if_neg e]
      by_cases e2 : x.1 = k
      · rw [if_pos e2]
        exact List.Pairwise.cons (fun y hy => by have := h.head hy; show k < y.1; omega) h.tail
      · rw [if_neg e2]
        refine List.Pairwise.cons (fun y hy => ?_) (ih h.tail)
        rcases ains_mem hy with rfl | hy
        · show x.1 < k; omega
        · exact h.head hy
theorem Asc.sub {l l' : List (Int × α)} (h : Asc l) (hs : l'.Sublist l) : Asc l' := h.sublist hs
theorem adrop_sub : ∀ (l : List (Int × α)) (k : Int), (adrop l k).Sublist l
  | [], _ => List.Sublist.slnil
  | x :: l, k => by
    rw [adrop]
    split
    · exact List.sublist_cons_self _ _
    · exact (adrop_sub l k).cons_cons _
theorem Asc.drop {l : List (Int × α)} (h : Asc l) (k : Int) : Asc (adrop l k) := h.sub (adrop_sub l k)
theorem afind_ins {l : List (Int × α)} (h : Asc l) (k : Int) (v : α) (k' : Int) : afind (ains l k v) k' = if k' = k then some v else afind l k' := by
  induction l with
  | nil =>
    simp only [ains, afind]
    by_cases e : k = k'
    · rw [if_pos e, if_pos e.symm]
    · rw [if_neg e, if_neg (fun hh => e hh.symm)]
  | cons x l ih =>
    rw [ains]
    by_cases e : k < x.1
    · rw [if_pos e, afind]
      by_cases e2 : k = k'
      · rw [if_pos e2, if_pos e2.symm]
      · rw [if_neg e2, if_neg (fun hh => e2 hh.symm)]
    · rw [if_neg e]
      by_cases e3 : x.1 = k
      · rw [if_pos e3, afind, afind]
        by_cases e2 : k = k'
        · rw [if_pos e2, if_pos e2.symm]
        · rw [if_neg e2, if_neg (fun hh => e2 hh.symm), if_neg (by omega)]
      · rw [if_neg e3, afind, ih h.tail, afind]
        by_cases e2 : x.1 = k'
        · rw [if_pos e2, if_pos e2, if_neg (by omega)]
        · rw [if_neg e2, if_neg e2]
theorem afind_drop {l : List (Int × α)} (h : Asc l) (k : Int) (k' : Int) : afind (adrop l k) k' = if k' = k then none else afind l k' := by
  induction l with
  | nil => simp [adrop, afind]
  | cons x l ih =>
    rw [adrop]
    by_cases e : x.1 = k
    · rw [if_pos e]
      by_cases e2 : k' = k
      · rw [if_pos e2]
        exact afind_none fun y hy => by have := h.head hy; omega
      · rw [if_neg e2, afind, if_neg (by omega)]
    · rw [if_neg e, afind, ih h.tail, afind]
      by_cases e2 : x.1 = k'
      · rw [if_pos e2, if_pos e2, if_neg (by omega)]
      · rw [if_neg e2, if_neg e2]
/-- Two of them that tell the same are the same. -/
theorem asc_ext : ∀ {l l' : List (Int × α)}, Asc l → Asc l' → (∀ k, afind l k = afind l' k) → l = l'
  | [], [], _, _, _ => rfl
  | [], y :: l', _, _, h => by have := h y.1; rw [afind, afind, if_pos rfl] at this; cases this
  | x :: l, [], _, _, h => by have := h x.1; rw [afind, afind, if_pos rfl] at this; cases this
  | x :: l, y :: l', h1, h2, h => by
    have a1 := h x.1
    have a2 := h y.1
    rw [afind, if_pos rfl, afind] at a1
    rw [afind, afind, if_pos rfl] at a2
    have hxy : x.1 = y.1 := by
      by_cases e : y.1 = x.1
      · exact e.symm
      · rw [if_neg e] at a1
        rw [if_neg (fun hh => e hh.symm)] at a2
        have b1 := h2.head (afind_mem a1.symm)
        have b2 := h1.head (afind_mem a2)
        have b1 : y.1 < x.1 := b1
        have b2 : x.1 < y.1 := b2
        omega
    rw [if_pos hxy.symm] at a1
    have hxe : x = y := Prod.ext hxy (Option.some.inj a1)
    subst hxe
    congr 1
    refine asc_ext h1.tail h2.tail fun k => ?_
    have := h k
    rw [afind, afind] at this
    by_cases e : x.1 = k
    · rw [afind_none fun z hz => by have := h1.head hz; omega, afind_none fun z hz => by have := h2.head hz; omega]
    · rwa [if_neg e, if_neg e] at this
theorem adrop_none {l : List (Int × α)} {k : Int} (h : afind l k = none) : adrop l k = l := by
  induction l with
  | nil => rfl
  | cons x l ih =>
    rw [afind] at h
    by_cases e : x.1 = k
    · rw [if_pos e] at h; cases h
    · rw [if_neg e] at h; rw [adrop, if_neg e, ih h]
theorem ains_length {l : List (Int × α)} {k : Int} {v : α} (hs : Asc l) : (ains l k v).length = if (afind l k).isSome then l.length else l.length + 1 := by
  induction l with
  | nil => simp [ains, afind]
  | cons x l ih =>
    rw [ains]
    by_cases e : k < x.1
    · rw [if_pos e, afind_none (k := k) fun y hy => by
        rcases List.mem_cons.1 hy with rfl | hy
        · omega
        · have := hs.head hy; omega]
      rfl
    · rw [if_neg e]
      by_cases e2 : x.1 = k
      · rw [if_pos e2, afind, if_pos e2]; rfl
      · rw [if_neg e2, List.length_cons, ih hs.tail, afind, if_neg e2, List.length_cons]
        split <;> rfl
theorem adrop_length {l : List (Int × α)} {k : Int} : (adrop l k).length + (if (afind l k).isSome then 1 else 0) = l.length := by
  induction l with
  | nil => rfl
  | cons x l ih =>
    rw [adrop, afind]
    by_cases e : x.1 = k
    · rw [if_pos e, if_pos e]; rfl
    · rw [if_neg e, if_neg e, List.length_cons, List.length_cons, ← ih]; omega

/-- As the heap has it. -/
def encA (f : Int → α → W) (l : List (Int × α)) : MEs := l.map fun x => (x.1, f x.1 x.2)
theorem mfind_enc {f : Int → α → W} : ∀ (l : List (Int × α)) (k : Int), mfind (encA f l) k = (afind l k).map (f k)
  | [], _ => rfl
  | x :: l, k => by
    show (bif decide (x.1 = k) then some (f x.1 x.2) else mfind (encA f l) k) = (if x.1 = k then some x.2 else afind l k).map (f k)
    by_cases e : x.1 = k
    · rw [decide_eq_true e, cond_true, if_pos e, e]; rfl
    · rw [decide_eq_false e, cond_false, if_neg e, mfind_enc l k]
theorem mins_enc {f : Int → α → W} : ∀ (l : List (Int × α)) (k : Int) (v : α), mins (encA f l) k (f k v) = encA f (ains l k v)
  | [], _, _ => rfl
  | x :: l, k, v => by
    show (bif decide (k < x.1) then (k, f k v) :: (x.1, f x.1 x.2) :: encA f l else bif decide (x.1 = k) then (k, f k v) :: encA f l else (x.1, f x.1 x.2) :: mins (encA f l) k (f k v)) = encA f (ains (x :: l) k v)
    rw [ains]
    by_cases e : k < x.1
    · rw [decide_eq_true e, cond_true, if_pos e]; rfl
    · rw [decide_eq_false e, cond_false, if_neg e]
      by_cases e2 : x.1 = k
      · rw [decide_eq_true e2, cond_true, if_pos e2]; rfl
      · rw [decide_eq_false e2, cond_false, if_neg e2, mins_enc l k v]; rfl
theorem mdrop_enc {f : Int → α → W} : ∀ (l : List (Int × α)) (k : Int), mdrop (encA f l) k = encA f (adrop l k)
  | [], _ => rfl
  | x :: l, k => by
    show (bif decide (x.1 = k) then encA f l else (x.1, f x.1 x.2) :: mdrop (encA f l) k) = encA f (adrop (x :: l) k)
    rw [adrop]
    by_cases e : x.1 = k
    · rw [decide_eq_true e, cond_true, if_pos e]
    · rw [decide_eq_false e, cond_false, if_neg e, mdrop_enc l k]; rfl
theorem enc_keys (f : Int → α → W) (l : List (Int × α)) : (encA f l).map Prod.fst = l.map Prod.fst := by
  unfold encA; rw [List.map_map]; rfl
theorem enc_length (f : Int → α → W) (l : List (Int × α)) : (encA f l).length = l.length := by simp [encA]
theorem enc_congr {f g : Int → α → W} {l : List (Int × α)} (h : ∀ x ∈ l, f x.1 x.2 = g x.1 x.2) : encA f l = encA g l := by
  unfold encA
  exact List.map_congr_left fun x hx => by rw [h x hx]
end

/-! In the heap. -/
def MpA {α : Type} (H : Heap) (b : Nat) (f : Int → α → W) (l : List (Int × α)) : Prop := ∃ dc, H[b]? = some (.mp (encA f l) dc)
section
variable {α : Type} {H : Heap} {b : Nat} {f : Int → α → W} {l : List (Int × α)}
theorem MpA.keep (h : MpA H b f l) {F : Nat → Prop} {H' : Heap} (k : Keep F H H') (hb : ¬ F b) : MpA H' b f l := by
  obtain ⟨dc, h⟩ := h
  exact ⟨dc, k.get h hb⟩
theorem MpA.lt (h : MpA H b f l) : b < H.length := by obtain ⟨dc, h⟩ := h; exact get_lt h
theorem mpAt_of {es : MEs} {dc : Nat} (h : H[b]? = some (.mp es dc)) : H.mpAt b = some (es, dc) := by simp [Heap.mpAt, h]
theorem MpA.get (h : MpA H b f l) (ty : Ty) (zero : W) (k : Int) {v : ty.T} (hv : ty.un (((afind l k).map (f k)).getD zero) = some v) : mget H ty zero (some b) k = some (v, (afind l k).isSome) := by
  obtain ⟨dc, h⟩ := h
  simp only [mget, mgetW, mpAt_of h, Option.bind_some, mfind_enc, hv, Option.isSome_map]
theorem MpA.set (h : MpA H b f l) (k : Int) (v : α) : ∃ H', mset H (some b) k (f k v) = some H' ∧ MpA H' b f (ains l k v) ∧ Keep (fun j => j = b) H H' := by
  obtain ⟨dc, h⟩ := h
  refine ⟨H.set b (.mp (encA f (ains l k v)) dc), ?_, ⟨dc, set_get (get_lt h)⟩, Keep.set _ _ _ rfl⟩
  simp only [mset, Option.bind_some, mpAt_of h, mins_enc]
theorem MpA.len (h : MpA H b f l) : mlen H (some b) = some (l.length : Int) := by
  obtain ⟨dc, h⟩ := h
  simp only [mlen, mpAt_of h, Option.bind_some, enc_length]
theorem MpA.keys (h : MpA H b f l) : mkeys H (some b) = some (l.map Prod.fst) := by
  obtain ⟨dc, h⟩ := h
  simp only [mkeys, mpAt_of h, Option.bind_some, enc_keys]
theorem MpA.mat (h : MpA H b f l) (ty : Ty) (k : Int) {v : ty.T} (hv : ((afind l k).map (f k)).bind ty.un = some v) : mat H ty (some b) k = some v := by
  obtain ⟨dc, h⟩ := h
  simp only [Ev.mat, mgetW, mpAt_of h, Option.bind_some, mfind_enc, hv]
theorem MpA.clone (h : MpA H b f l) : mclone (some b) H = some ((some H.length, ()), H ++ [.mp (encA f l) 0]) := by
  obtain ⟨dc, h⟩ := h
  simp only [mclone, mpAt_of h, Option.bind_some]
theorem MpA.sorted (h : MpA H b f l) (hl : l.length ≤ 1099511627776) (hk : ∀ x ∈ l, -9223372036854775808 ≤ x.1 ∧ x.1 ≤ 9223372036854775807) :
    ∃ s G, sortedKeys (some (H.length, 0), ()) (H ++ [.cells [.mp (some b)] .exact]) = some ((s, ()), G) ∧ slRow G 1 s = some ((l.map Prod.fst).map (C.int .i64)) ∧ s.len = l.length ∧ (s.p = none → s.len = 0) ∧ (∀ a, s.p = some a → H.length < a.1) ∧ Keep (fun _ => False) H G := by
  have hb := h.lt
  have hkeys : mkeys (H ++ [.cells [.mp (some b)] .exact]) (some b) = some (l.map Prod.fst) := (h.keep (Keep.push (fun _ => False) H _) id).keys
  have hc : (decide ((l.map Prod.fst).length ≤ 1099511627776) && ((l.map Prod.fst).all fun k => decide (-9223372036854775808 ≤ k ∧ k ≤ 9223372036854775807))) = true := by
    rw [decide_eq_true (by simpa using hl), Bool.true_and, List.all_eq_true]
    intro k hk'
    obtain ⟨x, hx, rfl⟩ := List.mem_map.1 hk'
    exact decide_eq_true (hk x hx)
  have e : sortedKeys (some (H.length, 0), ()) (H ++ [.cells [.mp (some b)] .exact]) = keysSl (H ++ [.cells [.mp (some b)] .exact]) (l.map Prod.fst) := by
    simp only [sortedKeys, Option.bind_some, decide_true, cond_true, List.getElem?_append_right (Nat.le_refl _), Nat.sub_self, List.getElem?_cons_zero, hkeys]
  rw [e, keysSl, hc, cond_true]
  by_cases h0 : l = []
  · subst h0
    exact ⟨⟨none, 0, 0⟩, _, rfl, rfl, rfl, fun _ => rfl, fun a ha => (by cases ha), Keep.push _ _ _⟩
  · rw [decide_eq_false (by simpa using h0), cond_false]
    refine ⟨_, _, rfl, ?_, by simp, fun hh => (by cases hh), fun a ha => by cases ha; simp, (Keep.push _ H _).trans (Keep.push _ _ _)⟩
    unfold slRow
    simp only [Heap.row]
    rw [List.getElem?_append_right (Nat.le_refl _), Nat.sub_self]
    simp [cut]
    exact List.take_of_length_le (by simp)
theorem MpA.head (h : MpA H b f l) : ∃ dc, mhead H (some b) = some (l.length, dc) := by
  obtain ⟨dc, h⟩ := h
  exact ⟨dc, by simp only [mhead, mpAt_of h, Option.bind_some, enc_length]⟩
end
end Ev

namespace Ev

theorem renP_id (p : Ptr) : renP (fun b => b) p = p := by cases p <;> rfl
theorem C.ren_id (c : C) : c.ren (fun b => b) = c := by
  cases c with
  | ptr p => simp [C.ren, renP_id]
  | sl es s => simp [C.ren, renP_id]
  | mp r => cases r <;> rfl
  | clo g ps => simp only [C.ren]; congr 1; exact (List.map_congr_left fun p _ => renP_id p).trans (List.map_id' ps)
  | _ => rfl
theorem cs_ren_id (cs : List C) : cs.map (C.ren fun b => b) = cs := (List.map_congr_left fun c _ => C.ren_id c).trans (List.map_id' cs)
theorem W.ren_id (x : W) : x.ren (fun b => b) = x := by
  cases x with
  | one c => simp [W.ren, C.ren_id]
  | agg cs => simp [W.ren, cs_ren_id]
theorem Blk.ren_id (x : Blk) : x.ren (fun b => b) = x := by
  cases x with
  | cells cs bk => simp [Blk.ren, cs_ren_id]
  | dead => rfl
  | mp es dc =>
    simp only [Blk.ren, W.ren_id]
    congr 1
    exact (List.map_congr_left fun x _ => rfl).trans (List.map_id' es)
theorem Alike.refl (H0 H : Heap) : Alike H0 H H :=
  ⟨fun b => b, fun b => b, fun _ => rfl, fun _ => rfl, fun _ _ => rfl, rfl, fun b => .inl (by cases H[b]? with | none => rfl | some x => simp [Blk.ren_id])⟩

/-- A range whose rounds are known in every order. -/
theorem eachW_of {S : Type} {step : Int → S → Heap → Option (S × Heap)} {m : Option Nat} {s : S} {H : Heap} {ks : List Int} {hd : Nat × Nat} (hk : mkeys H m = some ks) (hh : mhead H m = some hd) (hnd : ks.Nodup)
    (st : List Int → S) (F : List Int → Heap) (h0 : st [] = s) (h1 : F [] = H)
    (hs : ∀ (l : List Int) (k : Int), (∀ x ∈ l, x ∈ ks) → l.Nodup → k ∈ ks → k ∉ l → step k (st l) (F l) = some (st (l ++ [k]), F (l ++ [k])) ∧ mhead (F (l ++ [k])) m = some hd)
    (ha : ∀ l : List Int, l.Perm ks → st l = st ks ∧ Alike H (F l) (F ks)) : eachW step m s H = some (st ks, F ks) := by
  have run : ∀ (r l : List Int), (l ++ r).Nodup → (∀ x ∈ l ++ r, x ∈ ks) → runK step m hd r (st l) (F l) = some (st (l ++ r), F (l ++ r)) := by
    intro r
    induction r with
    | nil => intro l _ _; rw [List.append_nil]; rfl
    | cons k r ih =>
      intro l hn hm
      have hn' := List.nodup_append.1 hn
      obtain ⟨g1, g2⟩ := hs l k (fun x hx => hm x (by simp [hx])) hn'.1 (hm k (by simp)) (fun hx => hn'.2.2 k hx k (by simp) rfl)
      simp only [runK, g1]
      show (if mhead (F (l ++ [k])) m = some hd then _ else none) = _
      rw [if_pos g2]
      have := ih (l ++ [k]) (by rw [List.append_assoc]; exact hn) (fun x hx => hm x (by rw [List.append_assoc] at hx; exact hx))
      rw [List.append_assoc] at this
      exact this
  have all : ∀ l : List Int, l.Perm ks → runK step m hd l s H = some (st l, F l) := by
    intro l hl
    have := run l [] (by rw [List.nil_append]; exact hl.nodup_iff.2 hnd) (fun x hx => hl.subset (by simpa using hx))
    rw [List.nil_append, h0, h1] at this
    exact this
  unfold eachW
  simp only [hk, hh, Option.bind_some]
  rw [if_pos ⟨_, all ks (List.Perm.refl _), fun l hl => ⟨_, all l hl, ha l hl⟩⟩]
  exact all ks (List.Perm.refl _)
/-! Rows of blocks that come with each key. -/
section
variable (len : Int → Nat)
/-- Where a key's blocks begin. -/
def kpos : List Int → Int → Nat
  | [], _ => 0
  | x :: l, k => if x = k then 0 else len x + kpos l k
/-- Whose block it is. -/
def kloc : List Int → Nat → Option (Int × Nat)
  | [], _ => none
  | x :: l, n => if n < len x then some (x, n) else kloc l (n - len x)
def ktot : List Int → Nat
  | [] => 0
  | x :: l => len x + ktot l
theorem kloc_pos : ∀ {l : List Int} {k : Int} {j : Nat}, k ∈ l → j < len k → kloc len l (kpos len l k + j) = some (k, j)
  | x :: l, k, j, h, hj => by
    rw [kpos, kloc]
    by_cases e : x = k
    · subst e; rw [if_pos rfl, Nat.zero_add, if_pos hj]
    · rw [if_neg e, if_neg (by omega), show len x + kpos len l k + j - len x = kpos len l k + j by omega]
      exact kloc_pos ((List.mem_cons.1 h).resolve_left (fun hh => e hh.symm)) hj
theorem kpos_loc : ∀ {l : List Int} {n : Nat} {k : Int} {j : Nat}, l.Nodup → kloc len l n = some (k, j) → n = kpos len l k + j ∧ j < len k ∧ k ∈ l
  | x :: l, n, k, j, hn, h => by
    rw [kloc] at h
    rw [List.nodup_cons] at hn
    by_cases e : n < len x
    · rw [if_pos e] at h
      cases h
      rw [kpos, if_pos rfl]
      exact ⟨by omega, e, by simp⟩
    · rw [if_neg e] at h
      obtain ⟨h1, h2, h3⟩ := kpos_loc hn.2 h
      have hx : x ≠ k := fun hh => hn.1 (by rw [hh]; exact h3)
      rw [kpos, if_neg hx]
      exact ⟨by omega, h2, List.mem_cons_of_mem _ h3⟩
theorem kloc_lt : ∀ {l : List Int} {n : Nat}, n < ktot len l ↔ (kloc len l n).isSome = true
  | [], n => by simp [ktot, kloc]
  | x :: l, n => by
    rw [ktot, kloc]
    by_cases e : n < len x
    · rw [if_pos e]; simp; omega
    · rw [if_neg e, ← kloc_lt (l := l)]; omega
theorem ktot_perm {l l' : List Int} (h : l.Perm l') : ktot len l = ktot len l' := by
  induction h with
  | nil => rfl
  | cons x _ ih => rw [ktot, ktot, ih]
  | swap x y l => simp only [ktot]; omega
  | trans _ _ h1 h2 => exact h1.trans h2
theorem kpos_append {l : List Int} {k : Int} (h : k ∉ l) (r : List Int) : kpos len (l ++ k :: r) k = ktot len l := by
  induction l with
  | nil => simp [kpos, ktot]
  | cons x l ih =>
    rw [List.mem_cons] at h
    rw [List.cons_append, kpos, if_neg (fun e => h (.inl e.symm)), ih (fun hh => h (.inr hh)), ktot]
theorem kpos_left {l : List Int} {k : Int} (h : k ∈ l) (r : List Int) : kpos len (l ++ r) k = kpos len l k := by
  induction l with
  | nil => simp at h
  | cons x l ih =>
    rw [List.cons_append, kpos, kpos]
    by_cases e : x = k
    · rw [if_pos e, if_pos e]
    · rw [if_neg e, if_neg e, ih ((List.mem_cons.1 h).resolve_left fun hh => e hh.symm)]
/-- The numbers of one order in the other. -/
def kren (N : Nat) (l l' : List Int) (b : Nat) : Nat :=
  if b < N then b else match kloc len l (b - N) with
    | some (k, j) => N + (kpos len l' k + j)
    | none => b
theorem kren_low {N : Nat} {l l' : List Int} {b : Nat} (h : b < N) : kren len N l l' b = b := by rw [kren, if_pos h]
theorem kren_at {N : Nat} {l l' : List Int} {k : Int} {j : Nat} (h : k ∈ l) (hj : j < len k) : kren len N l l' (N + (kpos len l k + j)) = N + (kpos len l' k + j) := by
  rw [kren, if_neg (by omega), show N + (kpos len l k + j) - N = kpos len l k + j by omega, kloc_pos len h hj]
theorem kren_inv {N : Nat} {l l' : List Int} (hp : l.Perm l') (hn : l.Nodup) (b : Nat) : kren len N l' l (kren len N l l' b) = b := by
  by_cases h : b < N
  · rw [kren_low len h, kren_low len h]
  · cases hk : kloc len l (b - N) with
    | none =>
      have e : kren len N l l' b = b := by rw [kren, if_neg h, hk]
      rw [e]
      have h1 : ¬ b - N < ktot len l := fun hh => by rw [kloc_lt, hk] at hh; cases hh
      rw [ktot_perm len hp] at h1
      cases hk' : kloc len l' (b - N) with
      | none => rw [kren, if_neg h, hk']
      | some q => exact absurd ((kloc_lt len).2 (by rw [hk']; rfl)) h1
    | some q =>
      obtain ⟨k, j⟩ := q
      obtain ⟨h1, h2, h3⟩ := kpos_loc len hn hk
      have e : b = N + (kpos len l k + j) := by omega
      rw [e, kren_at len h3 h2, kren_at len (hp.subset h3) h2]

/-- Blocks that were laid key by key, in two orders. -/
theorem alike_rows {H0 G1 G2 : Heap} {l l' : List Int} (hp : l.Perm l') (hn : l.Nodup) (hl : G1.length = H0.length) (hl2 : G2.length = H0.length) (B1 B2 : Heap) (h1 : B1.length = ktot len l) (h2 : B2.length = ktot len l')
    (hG : ∀ b, b < H0.length → G2[b]? = (G1[b]?).map (Blk.ren (kren len H0.length l l')) ∨ (G1[b]? = H0[b]? ∧ G2[b]? = H0[b]?))
    (hB : ∀ k ∈ l, ∀ j, j < len k → B2[kpos len l' k + j]? = (B1[kpos len l k + j]?).map (Blk.ren (kren len H0.length l l'))) : Alike H0 (G1 ++ B1) (G2 ++ B2) := by
  refine ⟨kren len H0.length l l', kren len H0.length l' l, kren_inv len hp hn, kren_inv len hp.symm (hp.nodup_iff.1 hn), fun b hb => kren_low len hb, ?_, fun b => ?_⟩
  · rw [List.length_append, List.length_append, h1, h2, hl, hl2, ktot_perm len hp]
  · by_cases hb : b < H0.length
    · rw [kren_low len hb, List.getElem?_append_left (by omega), List.getElem?_append_left (by omega)]
      rcases hG b hb with h | ⟨h, h'⟩
      · exact .inl h
      · exact .inr ⟨hb, h, h'⟩
    · left
      cases hk : kloc len l (b - H0.length) with
      | none =>
        have hge : ¬ b - H0.length < ktot len l := fun hh => by rw [kloc_lt, hk] at hh; cases hh
        have hge' := hge
        rw [ktot_perm len hp] at hge'
        rw [kren, if_neg hb, hk]
        simp only
        rw [List.getElem?_eq_none (by rw [List.length_append]; omega), List.getElem?_eq_none (by rw [List.length_append]; omega)]
        rfl
      | some q =>
        obtain ⟨k, j⟩ := q
        obtain ⟨g1, g2, g3⟩ := kpos_loc len hn hk
        have e : b = H0.length + (kpos len l k + j) := by omega
        rw [e, kren_at len g3 g2, List.getElem?_append_right (by omega), List.getElem?_append_right (by omega), hl, hl2, show H0.length + (kpos len l k + j) - H0.length = kpos len l k + j by omega, show H0.length + (kpos len l' k + j) - H0.length = kpos len l' k + j by omega]
        exact hB k g3 j g2
end
end Ev

namespace Ev
open Go (IntKind)

/-- Two with one key, one after the other. -/
theorem ains_drop {α : Type} {l : List (Int × α)} (h : Asc l) (k : Int) (v : α) : ains (adrop l k) k v = ains l k v :=
  asc_ext ((h.drop k).ins k v) (h.ins k v) fun k' => by
    rw [afind_ins (h.drop k), afind_ins h, afind_drop h]
    by_cases e : k' = k
    · rw [if_pos e, if_pos e]
    · rw [if_neg e, if_neg e, if_neg e]
/-- How many keys there may be. -/
theorem asc_bound {α : Type} : ∀ {l : List (Int × α)} {a : Int} {n : Nat}, Asc l → (∀ x ∈ l, a ≤ x.1 ∧ x.1 < a + n) → l.length ≤ n
  | [], _, _, _, _ => Nat.zero_le _
  | x :: l, a, n, h, hb => by
    have h1 := hb x (by simp)
    have ih := asc_bound (l := l) (a := x.1 + 1) (n := (a + n - (x.1 + 1)).toNat) h.tail fun y hy => by
      have h2 := h.head hy
      have h3 := hb y (by simp [hy])
      omega
    rw [List.length_cons]
    omega

/-- The pages of a space. -/
def pgs {α : Type} (lv : List (Int × α)) (id : Int) : List (Int × α) := (lv.filter fun x => decide (x.1 / 1024 = id)).map fun x => (x.1 % 1024, x.2)
section
variable {α : Type} {lv : List (Int × α)}
theorem key_div (id p : Int) (h0 : 0 ≤ p) (h1 : p < 1024) : (id * 1024 + p) / 1024 = id ∧ (id * 1024 + p) % 1024 = p := by omega
theorem pgs_asc (h : Asc lv) (id : Int) : Asc (pgs lv id) := by
  unfold pgs Asc
  rw [List.pairwise_map]
  have h1 : (lv.filter fun x => decide (x.1 / 1024 = id)).Pairwise fun x y => x.1 < y.1 := List.Pairwise.filter _ h
  refine h1.imp_of_mem fun {x y} hx hy hlt => ?_
  have hx := (List.mem_filter.1 hx).2
  have hy := (List.mem_filter.1 hy).2
  simp only [decide_eq_true_eq] at hx hy
  show x.1 % 1024 < y.1 % 1024
  omega
theorem pgs_find (h : Asc lv) (id p : Int) : afind (pgs lv id) p = if 0 ≤ p ∧ p < 1024 then afind lv (id * 1024 + p) else none := by
  cases hf : afind (pgs lv id) p with
  | some v =>
    have := afind_mem hf
    unfold pgs at this
    obtain ⟨x, hx, he⟩ := List.mem_map.1 this
    have hx' := List.mem_filter.1 hx
    simp only [decide_eq_true_eq] at hx'
    have e1 : x.1 % 1024 = p := congrArg Prod.fst he
    have e2 : x.2 = v := congrArg Prod.snd he
    rw [if_pos (by omega)]
    have hk : x.1 = id * 1024 + p := by omega
    exact (h.find (k := id * 1024 + p) (v := v) (by rw [← hk, ← e2]; exact hx'.1)).symm
  | none =>
    by_cases hp : 0 ≤ p ∧ p < 1024
    · rw [if_pos hp]
      cases hf2 : afind lv (id * 1024 + p) with
      | none => rfl
      | some v =>
        have hm := afind_mem hf2
        have : (p, v) ∈ pgs lv id := by
          unfold pgs
          exact List.mem_map.2 ⟨(id * 1024 + p, v), List.mem_filter.2 ⟨hm, by simp; omega⟩, by show ((id * 1024 + p) % 1024, v) = (p, v); rw [(key_div id p hp.1 hp.2).2]⟩
        rw [(pgs_asc h id).find this] at hf
        cases hf
    · rw [if_neg hp]
theorem pgs_ins (h : Asc lv) (id p : Int) (v : α) (h0 : 0 ≤ p ∧ p < 1024) (id' : Int) : pgs (ains lv (id * 1024 + p) v) id' = if id' = id then ains (pgs lv id) p v else pgs lv id' := by
  by_cases e : id' = id
  · subst e
    rw [if_pos rfl]
    refine asc_ext (pgs_asc (h.ins _ _) _) ((pgs_asc h _).ins _ _) fun k => ?_
    rw [pgs_find (h.ins _ _), afind_ins h, afind_ins (pgs_asc h _), pgs_find h]
    by_cases e2 : k = p
    · subst e2; rw [if_pos h0, if_pos rfl, if_pos rfl]
    · rw [if_neg e2]
      by_cases h1 : 0 ≤ k ∧ k < 1024
      · rw [if_pos h1, if_pos h1, if_neg (by omega)]
      · rw [if_neg h1, if_neg h1]
  · rw [if_neg e]
    refine asc_ext (pgs_asc (h.ins _ _) _) (pgs_asc h _) fun k => ?_
    rw [pgs_find (h.ins _ _), afind_ins h, pgs_find h]
    by_cases h1 : 0 ≤ k ∧ k < 1024
    · rw [if_pos h1, if_pos h1, if_neg (by omega)]
    · rw [if_neg h1, if_neg h1]
theorem pgs_drop (h : Asc lv) (id p : Int) (h0 : 0 ≤ p ∧ p < 1024) (id' : Int) : pgs (adrop lv (id * 1024 + p)) id' = if id' = id then adrop (pgs lv id) p else pgs lv id' := by
  by_cases e : id' = id
  · subst e
    rw [if_pos rfl]
    refine asc_ext (pgs_asc (h.drop _) _) ((pgs_asc h _).drop _) fun k => ?_
    rw [pgs_find (h.drop _), afind_drop h, afind_drop (pgs_asc h _), pgs_find h]
    by_cases e2 : k = p
    · subst e2; rw [if_pos h0, if_pos rfl, if_pos rfl]
    · rw [if_neg e2]
      by_cases h1 : 0 ≤ k ∧ k < 1024
      · rw [if_pos h1, if_pos h1, if_neg (by omega)]
      · rw [if_neg h1, if_neg h1]
  · rw [if_neg e]
    refine asc_ext (pgs_asc (h.drop _) _) (pgs_asc h _) fun k => ?_
    rw [pgs_find (h.drop _), afind_drop h, pgs_find h]
    by_cases h1 : 0 ≤ k ∧ k < 1024
    · rw [if_pos h1, if_pos h1, if_neg (by omega)]
    · rw [if_neg h1, if_neg h1]
theorem pgs_mem {id : Int} {x : Int × α} (h : x ∈ pgs lv id) : 0 ≤ x.1 ∧ x.1 < 1024 ∧ (id * 1024 + x.1, x.2) ∈ lv := by
  unfold pgs at h
  obtain ⟨y, hy, rfl⟩ := List.mem_map.1 h
  have hy' := List.mem_filter.1 hy
  simp only [decide_eq_true_eq] at hy'
  refine ⟨by show 0 ≤ y.1 % 1024; omega, by show y.1 % 1024 < 1024; omega, ?_⟩
  have : id * 1024 + y.1 % 1024 = y.1 := by omega
  show (id * 1024 + y.1 % 1024, y.2) ∈ lv
  rw [this]; exact hy'.1
end

/-! Places. -/
def cnt (lv : List (Int × Int)) (c : Int) : Nat := (lv.filter fun x => decide (x.2 = c)).length
theorem cnt_nil (c : Int) : cnt [] c = 0 := rfl
theorem cnt_cons (x : Int × Int) (l : List (Int × Int)) (c : Int) : cnt (x :: l) c = (if x.2 = c then 1 else 0) + cnt l c := by
  unfold cnt
  rw [List.filter_cons]
  by_cases h : x.2 = c
  · rw [if_pos (decide_eq_true h), if_pos h, List.length_cons]; omega
  · rw [if_neg (by simpa using h), if_neg h]; omega
theorem cnt_le (lv : List (Int × Int)) (c : Int) : cnt lv c ≤ lv.length := List.length_filter_le _ _
theorem cnt_ins {lv : List (Int × Int)} (h : Asc lv) {k : Int} (hn : afind lv k = none) (v c : Int) : cnt (ains lv k v) c = cnt lv c + (if v = c then 1 else 0) := by
  induction lv with
  | nil => rw [ains, cnt_cons, cnt_nil]; exact Nat.add_comm _ _
  | cons x l ih =>
    rw [afind] at hn
    by_cases e2 : x.1 = k
    · rw [if_pos e2] at hn; cases hn
    · rw [if_neg e2] at hn
      rw [ains]
      by_cases e : k < x.1
      · rw [if_pos e]
        have h1 := cnt_cons (k, v) (x :: l) c
        rw [h1]
        exact Nat.add_comm _ _
      · rw [if_neg e, if_neg e2, cnt_cons, cnt_cons, ih h.tail hn]; omega
theorem cnt_drop {lv : List (Int × Int)} {k v : Int} (hv : afind lv k = some v) (c : Int) : cnt (adrop lv k) c + (if v = c then 1 else 0) = cnt lv c := by
  induction lv with
  | nil => cases hv
  | cons x l ih =>
    rw [afind] at hv
    rw [adrop]
    by_cases e : x.1 = k
    · rw [if_pos e] at hv ⊢; cases hv; rw [cnt_cons]; omega
    · rw [if_neg e] at hv ⊢; rw [cnt_cons, cnt_cons, ← ih hv]; omega
theorem cnt_pos {lv : List (Int × Int)} {k v : Int} (hv : afind lv k = some v) : 0 < cnt lv v := by
  have := cnt_drop hv v
  rw [if_pos rfl] at this
  omega

/-- How many stand at each place. -/
structure RfOK (rf lv : List (Int × Int)) : Prop where
  asc : Asc rf
  find : ∀ c, afind rf c = if cnt lv c = 0 then none else some (cnt lv c : Int)
theorem RfOK.uniq {rf rf' lv : List (Int × Int)} (h : RfOK rf lv) (h' : RfOK rf' lv) : rf = rf' := asc_ext h.asc h'.asc fun c => by rw [h.find, h'.find]
theorem RfOK.get {rf lv : List (Int × Int)} (h : RfOK rf lv) (c : Int) : (afind rf c).getD 0 = (cnt lv c : Int) := by
  rw [h.find]
  by_cases e : cnt lv c = 0
  · rw [if_pos e, e]; rfl
  · rw [if_neg e]; rfl
theorem RfOK.nil : RfOK [] [] := ⟨Asc.nil, fun c => by rw [cnt_nil, if_pos rfl]; rfl⟩
/-- One more, one less. -/
theorem RfOK.more {rf lv lv' : List (Int × Int)} (h : RfOK rf lv) {v : Int} (hc : ∀ c, cnt lv' c = cnt lv c + (if v = c then 1 else 0)) : RfOK (ains rf v ((cnt lv v : Int) + 1)) lv' :=
  ⟨h.asc.ins _ _, fun c => by
    rw [afind_ins h.asc, hc, h.find]
    by_cases e : c = v
    · subst e; rw [if_pos rfl, if_pos rfl, if_neg (by omega)]; congr 1
    · have hv : (if v = c then 1 else 0) = 0 := if_neg fun hh => e hh.symm
      rw [if_neg e, hv]; rfl⟩
theorem RfOK.less {rf lv lv' : List (Int × Int)} (h : RfOK rf lv) {v : Int} (hc : ∀ c, cnt lv' c + (if v = c then 1 else 0) = cnt lv c) :
    RfOK (if cnt lv' v = 0 then adrop (ains rf v (cnt lv' v : Int)) v else ains rf v (cnt lv' v : Int)) lv' := by
  by_cases e0 : cnt lv' v = 0
  · rw [if_pos e0]
    refine ⟨(h.asc.ins _ _).drop _, fun c => ?_⟩
    rw [afind_drop (h.asc.ins _ _), afind_ins h.asc, h.find]
    have := hc c
    by_cases e : c = v
    · subst e; rw [if_pos rfl, if_pos e0]
    · rw [if_neg e, if_neg e]
      rw [if_neg (fun hh => e hh.symm)] at this
      rw [← this]; rfl
  · rw [if_neg e0]
    refine ⟨h.asc.ins _ _, fun c => ?_⟩
    rw [afind_ins h.asc, h.find]
    have := hc c
    by_cases e : c = v
    · subst e; rw [if_pos rfl, if_neg e0]
    · rw [if_neg e]
      rw [if_neg (fun hh => e hh.symm)] at this
      rw [← this]; rfl
/-- The table of a list. -/
def rfOf : List (Int × Int) → List (Int × Int)
  | [] => []
  | x :: l => ains (rfOf l) x.2 ((cnt l x.2 : Int) + 1)
theorem rfOf_ok : ∀ lv : List (Int × Int), RfOK (rfOf lv) lv
  | [] => RfOK.nil
  | x :: l => (rfOf_ok l).more fun c => by rw [cnt_cons]; omega

structure Sta where
  sp : List (Int × Int × Bool)
  lv : List (Int × Int)
  bd : List (Int × Unit)
  wn : List (Int × Int)

structure SaW (st : Sta) : Prop where
  sp : Asc st.sp
  lv : Asc st.lv
  bd : Asc st.bd
  wn : Asc st.wn
  own : ∀ x ∈ st.lv, (afind st.sp (x.1 / 1024)).isSome = true
  ids : ∀ x ∈ st.sp, 1 ≤ x.1 ∧ x.1 ≤ 15 ∧ x.2.1 ≤ 1024
  bds : ∀ x ∈ st.bd, 0 ≤ x.1 ∧ x.1 ≤ 31
  wns : ∀ x ∈ st.wn, 0 ≤ x.1 ∧ x.1 ≤ 31
theorem SaW.lvs {st : Sta} (w : SaW st) : ∀ x ∈ st.lv, 1024 ≤ x.1 ∧ x.1 < 1024 + 15360 := by
  intro x hx
  obtain ⟨v, hv⟩ := Option.isSome_iff_exists.1 (w.own x hx)
  have := w.ids _ (afind_mem hv)
  have h1 : 1 ≤ x.1 / 1024 ∧ x.1 / 1024 ≤ 15 := ⟨this.1, this.2.1⟩
  omega
theorem SaW.many {st : Sta} (w : SaW st) : st.lv.length ≤ 15360 := asc_bound w.lv w.lvs
theorem SaW.cnts {st : Sta} (w : SaW st) (c : Int) : cnt st.lv c ≤ 15360 := Nat.le_trans (cnt_le _ _) w.many
theorem SaW.few {st : Sta} (w : SaW st) : st.sp.length ≤ 15 := asc_bound (a := 1) w.sp fun x hx => by have := w.ids x hx; omega
theorem SaW.pgl {st : Sta} (w : SaW st) (id : Int) : (pgs st.lv id).length ≤ 1024 := asc_bound (a := 0) (pgs_asc w.lv id) fun x hx => by have := pgs_mem hx; omega
end Ev

namespace Ev
open Go (IntKind)

theorem tl_get0 (H t : Heap) : (H ++ t)[H.length]? = t[0]? := by rw [List.getElem?_append_right (Nat.le_refl _), Nat.sub_self]
theorem tl_get1 (H t : Heap) (i : Nat) : (H ++ t)[H.length + i]? = t[i]? := by rw [List.getElem?_append_right (by omega), Nat.add_sub_cancel_left]
theorem rd_at {H G : Heap} {b c : Nat} (h : H[b]? = G[c]?) (ty : Ty) (o : Nat) : rd H ty b o = rd G ty c o := by
  cases ty with
  | one t => show (H.cell b o).bind _ = (G.cell c o).bind _; unfold Heap.cell; rw [h]
  | agg ts => show (H.row b o _).bind _ = (G.row c o _).bind _; unfold Heap.row; rw [h]
section
variable (H t : Heap) (i o : Nat) (k : IntKind)
theorem rd_t0 (ty : Ty) : rd (H ++ t) ty H.length o = rd t ty 0 o := rd_at (tl_get0 H t) ty o
theorem rd_t1 (ty : Ty) : rd (H ++ t) ty (H.length + i) o = rd t ty i o := rd_at (tl_get1 H t i) ty o
theorem rdI_t0 : rdI k (H ++ t) H.length o = rdI k t 0 o := rd_t0 H t o _
theorem rdI_t1 : rdI k (H ++ t) (H.length + i) o = rdI k t i o := rd_t1 H t i o _
theorem rdB_t0 : rdB (H ++ t) H.length o = rdB t 0 o := rd_t0 H t o _
theorem rdB_t1 : rdB (H ++ t) (H.length + i) o = rdB t i o := rd_t1 H t i o _
theorem rdM_t0 : rdM (H ++ t) H.length o = rdM t 0 o := rd_t0 H t o _
theorem rdM_t1 : rdM (H ++ t) (H.length + i) o = rdM t i o := rd_t1 H t i o _
theorem wr_t1 (new : List C) : wr (H ++ t) (H.length + i) o new = (wr t i o new).map fun t' => H ++ t' := by
  unfold wr
  rw [tl_get1]
  cases h : t[i]? with
  | none => rfl
  | some x =>
    cases x with
    | cells cs bk =>
      simp only
      cases (decide (bk ≠ .ro) && decide (o + new.length ≤ cs.length)) with
      | false => rfl
      | true =>
        simp only [cond_true, Option.map_some]
        rw [List.set_append_right _ _ (by omega), Nat.add_sub_cancel_left]
    | _ => rfl
theorem wr_t0 (new : List C) : wr (H ++ t) H.length o new = (wr t 0 o new).map fun t' => H ++ t' := wr_t1 H t 0 o new
end
section
variable (x : Blk) (t : Heap) (i o : Nat) (k : IntKind) (cs : List C) (bk : BK)
theorem rd_c1 (ty : Ty) : rd (x :: t) ty (i + 1) o = rd t ty i o := rd_at List.getElem?_cons_succ ty o
theorem rdI_c1 : rdI k (x :: t) (i + 1) o = rdI k t i o := rd_c1 x t i o _
theorem rdB_c1 : rdB (x :: t) (i + 1) o = rdB t i o := rd_c1 x t i o _
theorem rdM_c1 : rdM (x :: t) (i + 1) o = rdM t i o := rd_c1 x t i o _
theorem rdI_c0 : rdI k (.cells cs bk :: t) 0 o = (cs[o]?).bind (CT.un (.int k)) := rfl
theorem rdB_c0 : rdB (.cells cs bk :: t) 0 o = (cs[o]?).bind (CT.un .bool) := rfl
theorem rdM_c0 : rdM (.cells cs bk :: t) 0 o = (cs[o]?).bind (CT.un .mp) := rfl
theorem wr_c1 (new : List C) : wr (x :: t) (i + 1) o new = (wr t i o new).map fun t' => x :: t' := by
  have := wr_t1 [x] t i o new
  rw [show [x].length + i = i + 1 from Nat.add_comm _ _] at this
  exact this
theorem wr_c0 (new : List C) (h : o + new.length ≤ cs.length) : wr (.cells cs .exact :: t) 0 o new = some (.cells (setL cs o new) .exact :: t) := by
  unfold wr
  simp only [List.getElem?_cons_zero]
  rw [decide_eq_true h]; rfl
theorem un_i (n : Int) : CT.un (.int .i64) (.int .i64 n) = some n := rfl
theorem un_b (n : Bool) : CT.un .bool (.bool n) = some n := rfl
theorem un_m (n : Option Nat) : CT.un .mp (.mp n) = some n := rfl
theorem un_s (n : Bytes) : CT.un .str (.str n) = some n := rfl
theorem un_sl1 (n : Sl) : CT.un (.sl 1) (.sl 1 n) = some n := rfl
theorem un_sl2 (n : Sl) : CT.un (.sl 2) (.sl 2 n) = some n := rfl
theorem un_sl3 (n : Sl) : CT.un (.sl 3) (.sl 3 n) = some n := rfl
end
theorem rd_iiib (t : Heap) (bk : BK) (x0 : Int) (x1 : Int) (x2 : Int) (x3 : Bool) : rd (.cells [.int .i64 x0, .int .i64 x1, .int .i64 x2, .bool x3] bk :: t) (.agg [.int .i64, .int .i64, .int .i64, .bool]) 0 0 = (some (x0, x1, x2, x3, ()) : Option (Int × Int × Int × Bool × Unit)) := rfl
theorem rd_iiiiii (t : Heap) (bk : BK) (x0 : Int) (x1 : Int) (x2 : Int) (x3 : Int) (x4 : Int) (x5 : Int) : rd (.cells [.int .i64 x0, .int .i64 x1, .int .i64 x2, .int .i64 x3, .int .i64 x4, .int .i64 x5] bk :: t) (.agg [.int .i64, .int .i64, .int .i64, .int .i64, .int .i64, .int .i64]) 0 0 = (some (x0, x1, x2, x3, x4, x5, ()) : Option (Int × Int × Int × Int × Int × Int × Unit)) := rfl
theorem rd_ibm (t : Heap) (bk : BK) (x0 : Int) (x1 : Bool) (x2 : Option Nat) : rd (.cells [.int .i64 x0, .bool x1, .mp x2] bk :: t) (.agg [.int .i64, .bool, .mp]) 0 0 = (some (x0, x1, x2, ()) : Option (Int × Bool × Option Nat × Unit)) := rfl
theorem rd_iii (t : Heap) (bk : BK) (x0 : Int) (x1 : Int) (x2 : Int) : rd (.cells [.int .i64 x0, .int .i64 x1, .int .i64 x2] bk :: t) (.agg [.int .i64, .int .i64, .int .i64]) 0 0 = (some (x0, x1, x2, ()) : Option (Int × Int × Int × Unit)) := rfl
theorem rd_iib (t : Heap) (bk : BK) (x0 : Int) (x1 : Int) (x2 : Bool) : rd (.cells [.int .i64 x0, .int .i64 x1, .bool x2] bk :: t) (.agg [.int .i64, .int .i64, .bool]) 0 0 = (some (x0, x1, x2, ()) : Option (Int × Int × Bool × Unit)) := rfl
theorem rd_ii (t : Heap) (bk : BK) (x0 : Int) (x1 : Int) : rd (.cells [.int .i64 x0, .int .i64 x1] bk :: t) (.agg [.int .i64, .int .i64]) 0 0 = (some (x0, x1, ()) : Option (Int × Int × Unit)) := rfl
theorem rd_3312 (t : Heap) (bk : BK) (x0 : Sl) (x1 : Sl) (x2 : Sl) (x3 : Sl) : rd (.cells [.sl 3 x0, .sl 3 x1, .sl 1 x2, .sl 2 x3] bk :: t) (.agg [.sl 3, .sl 3, .sl 1, .sl 2]) 0 0 = (some (x0, x1, x2, x3, ()) : Option (Sl × Sl × Sl × Sl × Unit)) := rfl
theorem rd_iiii (t : Heap) (bk : BK) (x0 : Int) (x1 : Int) (x2 : Int) (x3 : Int) : rd (.cells [.int .i64 x0, .int .i64 x1, .int .i64 x2, .int .i64 x3] bk :: t) (.agg [.int .i64, .int .i64, .int .i64, .int .i64]) 0 0 = (some (x0, x1, x2, x3, ()) : Option (Int × Int × Int × Int × Unit)) := rfl
theorem rd_si (t : Heap) (bk : BK) (x0 : Bytes) (x1 : Int) : rd (.cells [.str x0, .int .i64 x1] bk :: t) (.agg [.str, .int .i64]) 0 0 = (some (x0, x1, ()) : Option (Bytes × Int × Unit)) := rfl
theorem rd_33121 (t : Heap) (bk : BK) (x0 : Sl) (x1 : Sl) (x2 : Sl) (x3 : Sl) (x4 : Sl) : rd (.cells [.sl 3 x0, .sl 3 x1, .sl 1 x2, .sl 2 x3, .sl 1 x4] bk :: t) (.agg [.sl 3, .sl 3, .sl 1, .sl 2, .sl 1]) 0 0 = (some (x0, x1, x2, x3, x4, ()) : Option (Sl × Sl × Sl × Sl × Sl × Unit)) := rfl
theorem rd_33121i (t : Heap) (bk : BK) (x0 : Sl) (x1 : Sl) (x2 : Sl) (x3 : Sl) (x4 : Sl) (x5 : Int) : rd (.cells [.sl 3 x0, .sl 3 x1, .sl 1 x2, .sl 2 x3, .sl 1 x4, .int .i64 x5] bk :: t) (.agg [.sl 3, .sl 3, .sl 1, .sl 2, .sl 1, .int .i64]) 0 0 = (some (x0, x1, x2, x3, x4, x5, ()) : Option (Sl × Sl × Sl × Sl × Sl × Int × Unit)) := rfl
theorem Keep.app (F : Nat → Prop) (H t : Heap) : Keep F H (H ++ t) := ⟨by simp, fun _ hk _ => List.getElem?_append_left hk⟩
theorem slRow_t1 (H t : Heap) (es i o n c : Nat) : slRow (H ++ t) es ⟨some (H.length + i, o), n, c⟩ = slRow t es ⟨some (i, o), n, c⟩ := by
  simp only [slRow, Heap.row, tl_get1]
theorem slRow_t0 (H t : Heap) (es o n c : Nat) : slRow (H ++ t) es ⟨some (H.length, o), n, c⟩ = slRow t es ⟨some (0, o), n, c⟩ := slRow_t1 H t es 0 o n c
theorem sl_c1 (x : Blk) (t : Heap) (es i o n c : Nat) : slRow (x :: t) es ⟨some (i + 1, o), n, c⟩ = slRow t es ⟨some (i, o), n, c⟩ := rfl
theorem sl_c0 (t : Heap) (cs : List C) (bk : BK) {es : Nat} (h : es = cs.length) : slRow (.cells cs bk :: t) es ⟨some (0, 0), 1, 1⟩ = some cs := by
  show cut cs 0 (1 * es) = some cs
  exact cut_all (by omega)
end Ev

namespace Ev
open Go (IntKind)

theorem Keep.trans2 {F G : Nat → Prop} {A B D : Heap} (h : Keep F A B) (k : Keep G B D) (hg : ∀ b, b < A.length → G b → F b) : Keep F A D :=
  ⟨Nat.le_trans h.len k.len, fun j hj hf => (k.same j (Nat.lt_of_lt_of_le hj h.len) fun g => hf (hg j hj g)).trans (h.same j hj hf)⟩
/-- What has come of s0 in H: only its own block may have changed. -/
structure Em (H : Heap) (s0 : Sl) (es : Nat) (G : Heap) (s : Sl) (cs : List C) : Prop where
  g : Grown G es s cs
  k : Keep (fun b => ∃ o, s0.p = some (b, o)) H G
  o : ∀ a, s.p = some a → H.length ≤ a.1 ∨ ∃ o, s0.p = some (a.1, o)
section
variable {H : Heap} {s0 : Sl} {es : Nat} {G : Heap} {s : Sl} {cs : List C}
theorem Em.start (h : Grown H es s0 cs) : Em H s0 es H s0 cs := ⟨h, Keep.refl _ _, fun a ha => .inr ⟨a.2, ha⟩⟩
theorem Em.keep (h : Em H s0 es G s cs) {F : Nat → Prop} {G' : Heap} (k : Keep F G G') (hF : ∀ b, F b → H.length ≤ b ∧ ∀ o, s.p ≠ some (b, o)) : Em H s0 es G' s cs :=
  ⟨h.g.mono fun a ha => k.same _ (h.g.lt ha) fun hf => (hF _ hf).2 a.2 ha, h.k.trans2 k fun b hb hf => absurd (hF b hf).1 (by omega), h.o⟩
theorem Em.push (h : Em H s0 es G s cs) (t : Heap) : Em H s0 es (G ++ t) s cs := h.keep (Keep.app (fun _ => False) G t) fun _ hf => hf.elim
theorem grownH_keep (G : Heap) (s : Sl) (cs : List C) : Keep (fun b => ∃ o, s.p = some (b, o)) G (grownH G s cs) :=
  ⟨by rw [grownH_length]; omega, fun _ hk hf => grownH_get hk fun a ha e => hf ⟨a.2, by rw [ha, ← e]⟩⟩
theorem Em.app (h : Em H s0 es G s cs) (hes : 0 < es) {new : List C} (hnew : new.length = es) {bytes : Nat} (hb : (s.len + 1) * bytes ≤ 35184372088832) (hb2 : s.len + 1 ≤ 35184372088832) :
    ∃ s' G', appS G es bytes s 1 new = some (s', G') ∧ Em H s0 es G' s' (cs ++ new) ∧ s'.len = s.len + 1 ∧ Keep (fun b => ∃ o, s.p = some (b, o)) G G' ∧ ∀ a, s'.p = some a → a.1 = G.length := by
  obtain ⟨h1, h2⟩ := h.g.app hes (n := 1) Nat.one_pos (by omega) hb hb2 (new := new)
  refine ⟨_, _, h1, ⟨h2, h.k.trans2 (grownH_keep _ _ _) fun b hb => ?_, fun a ha => ?_⟩, rfl, grownH_keep _ _ _, fun a ha => by cases ha; rfl⟩
  · rintro ⟨o, ho⟩
    rcases h.o _ ho with hh | hh
    · exact absurd hh (by simp only; omega)
    · exact hh
  · cases ha
    exact .inl h.k.len
theorem Em.under {K : Heap} (h : Em K s0 es G s cs) (k : Keep (fun b => ∃ o, s0.p = some (b, o)) H K) : Em H s0 es G s cs :=
  ⟨h.g, k.trans h.k, fun a ha => (h.o a ha).imp_left fun hh => Nat.le_trans k.len hh⟩
theorem Em.calm (h : Em H s0 es G s cs) (h0 : s0.p = none) : Keep (fun _ => False) H G := h.k.mono fun b ⟨o, ho⟩ => by rw [h0] at ho; cases ho
theorem Em.then {G' : Heap} {s' : Sl} {cs' : List C} (h : Em H s0 es G s cs) (h' : Em G s es G' s' cs') : Em H s0 es G' s' cs' :=
  ⟨h'.g, h.k.trans2 h'.k fun b hb ⟨o, ho⟩ => (h.o _ ho).elim (fun hh => absurd hh (by simp only; omega)) id, fun a ha => (h'.o a ha).elim (fun hh => .inl (Nat.le_trans h.k.len hh)) fun ⟨o, ho⟩ => h.o (a.1, o) ho⟩
/-- No other block of H is the slice's. -/
theorem Em.off (h : Em H s0 es G s cs) {b : Nat} (hb : b < H.length) (h0 : ∀ o, s0.p ≠ some (b, o)) (o : Nat) : s.p ≠ some (b, o) := by
  intro hp
  rcases h.o _ hp with hh | ⟨o', hh⟩
  · simp only at hh; omega
  · exact h0 o' hh
theorem Em.get (h : Em H s0 es G s cs) {b : Nat} {x : Blk} (hb : H[b]? = some x) (h0 : ∀ o, s0.p ≠ some (b, o)) : G[b]? = some x := h.k.get hb fun ⟨o, ho⟩ => h0 o ho
theorem Em.row (h : Em H s0 es G s cs) {es' : Nat} {s' : Sl} {row : List C} (hr : Row H es' s' row) (h0 : ∀ b o o', s'.p = some (b, o) → s0.p ≠ some (b, o')) : Row G es' s' row := hr.keep h.k fun b o hp ⟨o', ho'⟩ => h0 b o o' hp ho'
end
theorem rowsOf_snoc {cts : List CT} (l : List (Tup cts)) (x : Tup cts) : rowsOf cts (l ++ [x]) = rowsOf cts l ++ Tup.mk cts x := by simp [rowsOf]
theorem take_snoc {α : Type} {l : List α} {i : Nat} (h : i < l.length) : l.take (i + 1) = l.take i ++ [l[i]] := by
  rw [List.take_succ_eq_append_getElem h]
theorem bind_to {α β : Type} {x : Option α} {v : α} (h : x = some v) {f : α → Option β} : x.bind f = f v := by rw [h]; rfl
/-- A loop that puts something behind for each of a list. -/
theorem emit {α : Type} {H : Heap} {s0 : Sl} {es : Nat} {step : Sl × Int × Unit → Heap → Option (((Sl × Int × Unit) ⊕ (Sl × Unit)) × Heap)} (l : List α) (f : α → List C) {cs0 : List C} (h0 : Em H s0 es H s0 cs0)
    (hs : ∀ (i : Nat) (hi : i < l.length) s G cs, Em H s0 es G s cs → s.len = s0.len + i → ∃ s' G', step (s, (i : Int), ()) G = some (.inl (s', ((i + 1 : Nat) : Int), ()), G') ∧ Em H s0 es G' s' (cs ++ f l[i]) ∧ s'.len = s.len + 1)
    (he : ∀ s G, step (s, (l.length : Int), ()) G = some (.inr (s, ()), G)) :
    ∃ s G, loopW step (s0, 0, ()) H = some ((s, ()), G) ∧ Em H s0 es G s (cs0 ++ (l.map f).flatten) ∧ s.len = s0.len + l.length := by
  obtain ⟨x, G, g1, s, rfl, g2⟩ := loop_rise (step := step) l.length (fun i y G => ∃ s, y = (s, (i : Int), ()) ∧ Em H s0 es G s (cs0 ++ ((l.take i).map f).flatten) ∧ s.len = s0.len + i) (fun x G => ∃ s, x = (s, ()) ∧ Em H s0 es G s (cs0 ++ (l.map f).flatten) ∧ s.len = s0.len + l.length)
    (fun i y G hi ⟨s, hy, hE, hn⟩ => by
      subst hy
      obtain ⟨s', G', g1, g2, g3⟩ := hs i hi s G _ hE hn
      refine .inl ⟨_, G', g1, s', rfl, ?_, by omega⟩
      rw [take_snoc hi, List.map_append, List.flatten_append, ← List.append_assoc]
      simpa using g2)
    (fun y G ⟨s, hy, hE, hn⟩ => by
      subst hy
      refine ⟨_, G, he s G, s, rfl, ?_, hn⟩
      rwa [List.take_length] at hE) (y := (s0, 0, ())) (H := H) ⟨s0, rfl, by simpa using h0, rfl⟩
  exact ⟨s, G, g1, g2⟩
/-- The same, with several rows a round. -/
theorem emitN {α : Type} {H : Heap} {s0 : Sl} {es : Nat} {step : Sl × Int × Unit → Heap → Option (((Sl × Int × Unit) ⊕ (Sl × Unit)) × Heap)} (l : List α) (f : α → List C) (m : α → Nat) {cs0 : List C} (h0 : Em H s0 es H s0 cs0)
    (hs : ∀ (i : Nat) (hi : i < l.length) s G cs, Em H s0 es G s cs → s.len = s0.len + ((l.take i).map m).sum → ∃ s' G', step (s, (i : Int), ()) G = some (.inl (s', ((i + 1 : Nat) : Int), ()), G') ∧ Em H s0 es G' s' (cs ++ f l[i]) ∧ s'.len = s.len + m l[i])
    (he : ∀ s G cs, Em H s0 es G s cs → step (s, (l.length : Int), ()) G = some (.inr (s, ()), G)) :
    ∃ s G, loopW step (s0, 0, ()) H = some ((s, ()), G) ∧ Em H s0 es G s (cs0 ++ (l.map f).flatten) ∧ s.len = s0.len + (l.map m).sum := by
  obtain ⟨x, G, g1, s, rfl, g2⟩ := loop_rise (step := step) l.length (fun i y G => ∃ s, y = (s, (i : Int), ()) ∧ Em H s0 es G s (cs0 ++ ((l.take i).map f).flatten) ∧ s.len = s0.len + ((l.take i).map m).sum) (fun x G => ∃ s, x = (s, ()) ∧ Em H s0 es G s (cs0 ++ (l.map f).flatten) ∧ s.len = s0.len + (l.map m).sum)
    (fun i y G hi ⟨s, hy, hE, hn⟩ => by
      subst hy
      obtain ⟨s', G', g1, g2, g3⟩ := hs i hi s G _ hE hn
      refine .inl ⟨_, G', g1, s', rfl, ?_, ?_⟩
      · rw [take_snoc hi, List.map_append, List.flatten_append, ← List.append_assoc]
        simpa using g2
      · rw [take_snoc hi, List.map_append, List.sum_append, g3, hn]
        simp; omega)
    (fun y G ⟨s, hy, hE, hn⟩ => by
      subst hy
      rw [List.take_length] at hE hn
      exact ⟨_, G, he s G _ hE, s, rfl, hE, hn⟩) (y := (s0, 0, ())) (H := H) ⟨s0, rfl, by simpa using h0, by simp⟩
  exact ⟨s, G, g1, g2⟩
theorem ptrs_of : ∀ (n : Nat) (x : Ptrs n), Ptrs.of n (Ptrs.list n x) = some x
  | 0, () => rfl
  | n + 1, (p, x) => by
    show (Ptrs.of n (Ptrs.list n x)).bind _ = _
    rw [ptrs_of n x]; rfl
theorem un_of (t : CT) (x : t.T) : t.un (t.mk x) = some x := by
  cases t with
  | int k =>
    show (bif decide (k = k) then some x else none) = _
    rw [decide_eq_true rfl]; rfl
  | sl es =>
    show (bif decide (es = es) then some x else none) = _
    rw [decide_eq_true rfl]; rfl
  | fn g =>
    show (bif decide (g = g) then some () else none) = _
    rw [decide_eq_true rfl]; rfl
  | clo g n =>
    show (bif decide (g = g) then Ptrs.of n (Ptrs.list n x) else none) = _
    rw [decide_eq_true rfl]; exact ptrs_of n x
  | _ => rfl
theorem tup_un_of : ∀ (ts : List CT) (x : Tup ts), Tup.un ts (Tup.mk ts x) = some x
  | [], () => rfl
  | t :: r, (y, x) => by
    show (t.un (t.mk y)).bind _ = _
    rw [un_of]
    show (Tup.un r (Tup.mk r x)).bind _ = _
    rw [tup_un_of r x]; rfl
/-- One of a row of structs. -/
theorem Row.rd {H : Heap} {cts : List CT} {s : Sl} {rows : List (Tup cts)} (h : Row H cts.length s (rowsOf cts rows)) {i : Nat} (hi : i < rows.length) (hpos : 0 < cts.length) : ∃ b o, Sl.at cts.length s (i : Int) = some (b, o) ∧ rd H (.agg cts) b o = some rows[i] ∧ (∃ o', s.p = some (b, o')) ∧ ∃ cs bk, H[b]? = some (.cells cs bk) ∧ o + cts.length ≤ cs.length ∧ (cs.drop o).take cts.length = Tup.mk cts rows[i] := by
  obtain ⟨b, o, _, h1, h2, cs, bk, h3, h4, h5⟩ := h.at hi hpos
  exact ⟨b, o, h1, rd_agg_of h3 h4 (by rw [h5]; exact tup_un_of _ _), h2, cs, bk, h3, h4, h5⟩
end Ev

namespace Ev
open Go (IntKind)

def WP {α : Type} (x : Option α) (Q : α → Prop) : Prop := ∃ v, x = some v ∧ Q v
section
variable {α β : Type} {x : Option α} {f : α → Option β} {Q : β → Prop} {P : α → Prop}
theorem wp_some {Q : α → Prop} {v : α} (h : Q v) : WP (some v) Q := ⟨v, rfl, h⟩
theorem wp_bind (h : WP x fun v => WP (f v) Q) : WP (x.bind f) Q := by obtain ⟨v, rfl, h⟩ := h; exact h
theorem wp_seq (P : α → Prop) (h : WP x P) (k : ∀ v, P v → WP (f v) Q) : WP (x.bind f) Q := by obtain ⟨v, rfl, h⟩ := h; exact k v h
theorem wp_to {v : α} (h : x = some v) (k : WP (f v) Q) : WP (x.bind f) Q := by rw [h]; exact k
theorem wp_mono {Q' : α → Prop} (h : WP x P) (k : ∀ v, P v → Q' v) : WP x Q' := by obtain ⟨v, h1, h2⟩ := h; exact ⟨v, h1, k v h2⟩
theorem wp_t {c : Bool} {a b : Option α} (h : c = true) (k : WP a P) : WP (cond c a b) P := by rw [h]; exact k
theorem wp_f {c : Bool} {a b : Option α} (h : c = false) (k : WP b P) : WP (cond c a b) P := by rw [h]; exact k
theorem wp_c {c : Bool} {a b : Option α} (h : c = true → WP a P) (k : c = false → WP b P) : WP (cond c a b) P := by
  cases c with
  | true => exact h rfl
  | false => exact k rfl
/-- Either way. -/
theorem wp_if {c : Bool} {p : Prop} [Decidable p] {a b : Option α} (e : c = decide p) (h : p → WP a P) (k : ¬ p → WP b P) : WP (cond c a b) P := by
  rw [e]
  by_cases hp : p
  · rw [decide_eq_true hp]; exact h hp
  · rw [decide_eq_false hp]; exact k hp
theorem wp_ite {α : Type} {p : Prop} [Decidable p] {a b : Option α} {Q : α → Prop} (h : p) (k : WP a Q) : WP (if p then a else b) Q := by rw [if_pos h]; exact k
end
section
variable {S X : Type} {step : S → Heap → Option ((S ⊕ X) × Heap)}
theorem wp_rise (n : Nat) (I : Nat → S → Heap → Prop) (P : X → Heap → Prop) (hs : ∀ i y G, i < n → I i y G → WP (step y G) fun r => Sum.elim (fun y' => I (i + 1) y' r.2) (fun x => P x r.2) r.1)
    (he : ∀ y G, I n y G → WP (step y G) fun r => Sum.elim (fun _ => False) (fun x => P x r.2) r.1) {y : S} {H : Heap} (h0 : I 0 y H) : WP (loopW step y H) fun r => P r.1 r.2 := by
  obtain ⟨x, G, g1, g2⟩ := loop_rise (step := step) n I P (fun i y G hi hI => by
      obtain ⟨⟨r, G'⟩, e1, e2⟩ := hs i y G hi hI
      cases r with
      | inl y' => exact .inl ⟨y', G', e1, e2⟩
      | inr x => exact .inr ⟨x, G', e1, e2⟩)
    (fun y G hI => by
      obtain ⟨⟨r, G'⟩, e1, e2⟩ := he y G hI
      cases r with
      | inl y' => exact e2.elim
      | inr x => exact ⟨x, G', e1, e2⟩) h0
  exact ⟨(x, G), g1, g2⟩
end
section
variable {H : Heap} {s0 : Sl} {es : Nat} {G : Heap} {s : Sl} {cs : List C}
/-- A row that was just laid is put behind a slice. -/
theorem wp_app {β : Type} {f : Sl × Heap → Option β} {Q : β → Prop} (hE : Em H s0 es G s cs) {new : List C} (hnew : es = new.length) (hes : 0 < es) {bytes : Nat} (hb : (s.len + 1) * bytes ≤ 35184372088832 ∧ s.len + 1 ≤ 35184372088832)
    (k : ∀ s' G', Em H s0 es G' s' (cs ++ new) → s'.len = s.len + 1 → WP (f (s', G')) Q) :
    WP ((slRow (G ++ [.cells new .exact]) es ⟨some (G.length, 0), 1, 1⟩).bind fun c => (appS (G ++ [.cells new .exact]) es bytes s 1 c).bind f) Q := by
  obtain ⟨s', G', e1, e2, e3, _⟩ := (hE.push [.cells new .exact]).app hes hnew.symm hb.1 hb.2
  have h1 : slRow (G ++ [.cells new .exact]) es ⟨some (G.length, 0), 1, 1⟩ = some new := by
    rw [slRow_t0]; exact sl_c0 [] new .exact hnew
  exact wp_to h1 (wp_to e1 (k s' G' e2 e3))
/-- The same; other blocks stay. -/
theorem wp_appk {β : Type} {f : Sl × Heap → Option β} {Q : β → Prop} (hE : Em H s0 es G s cs) {new : List C} (hnew : es = new.length) (hes : 0 < es) {bytes : Nat} (hb : (s.len + 1) * bytes ≤ 35184372088832 ∧ s.len + 1 ≤ 35184372088832)
    (k : ∀ s' G', Em H s0 es G' s' (cs ++ new) → s'.len = s.len + 1 → (∀ b x, G[b]? = some x → (∀ o, s.p ≠ some (b, o)) → G'[b]? = some x) → (∀ b o, s'.p = some (b, o) → G.length < b) → WP (f (s', G')) Q) :
    WP ((slRow (G ++ [.cells new .exact]) es ⟨some (G.length, 0), 1, 1⟩).bind fun c => (appS (G ++ [.cells new .exact]) es bytes s 1 c).bind f) Q := by
  obtain ⟨s', G', e1, e2, e3, e4, e5⟩ := (hE.push [.cells new .exact]).app hes hnew.symm hb.1 hb.2
  have h1 : slRow (G ++ [.cells new .exact]) es ⟨some (G.length, 0), 1, 1⟩ = some new := by
    rw [slRow_t0]; exact sl_c0 [] new .exact hnew
  refine wp_to h1 (wp_to e1 (k s' G' e2 e3 (fun b x hx ho => ?_) fun b o hp => ?_))
  · exact e4.get (by rw [List.getElem?_append_left (get_lt hx)]; exact hx) fun ⟨o, hp⟩ => ho o hp
  · have := e5 _ hp
    simp only [List.length_append, List.length_cons, List.length_nil] at this
    omega
end
end Ev

namespace Ev
open Go (IntKind)

abbrev RecT := Int × Int × Int × Int × Int × Int × Unit
def recB (x : RecT) : Blk := .cells [.int .i64 x.1, .int .i64 x.2.1, .int .i64 x.2.2.1, .int .i64 x.2.2.2.1, .int .i64 x.2.2.2.2.1, .int .i64 x.2.2.2.2.2.1] .exact
def inB (n lo hi : Int) : Bool := decide (lo ≤ n ∧ n ≤ hi)
def inAll : List Int → List Int → List Int → Bool
  | v :: vs, l :: ls, m :: ms => inB v l m && inAll vs ls ms
  | _, _, _ => true
def chkR (x : RecT) : Bool :=
  if x.1 = 1 then inAll [x.2.1, x.2.2.1, x.2.2.2.1] [1, 0, 0] [15, 1023, 511] && decide (x.2.2.2.2.1 = 0 ∧ x.2.2.2.2.2.1 = 0) else
  if x.1 = 2 then inAll [x.2.1, x.2.2.1] [1, 0] [15, 1023] && decide (x.2.2.2.1 = 0 ∧ x.2.2.2.2.1 = 0 ∧ x.2.2.2.2.2.1 = 0) else
  if x.1 = 3 then inAll [x.2.2.2.1, x.2.2.2.2.1] [0, 0] [511, 511] && decide (x.2.1 = 0 ∧ x.2.2.1 = 0 ∧ x.2.2.2.2.2.1 = 0) else
  if x.1 = 4 then inAll [x.2.1, x.2.2.2.2.2.1] [1, 1] [15, 1024] && decide (x.2.2.1 = 0 ∧ x.2.2.2.1 = 0 ∧ x.2.2.2.2.1 = 0) else
  if x.1 = 5 ∨ x.1 = 7 then inAll [x.2.1] [1] [15] && decide (x.2.2.1 = 0 ∧ x.2.2.2.1 = 0 ∧ x.2.2.2.2.1 = 0 ∧ x.2.2.2.2.2.1 = 0) else
  if x.1 = 6 then inAll [x.2.1, x.2.2.2.2.1] [1, 1] [15, 15] && decide (x.2.2.1 = 0 ∧ x.2.2.2.1 = 0 ∧ x.2.2.2.2.2.1 = 0) else
  if x.1 = 8 then inAll [x.2.2.2.1] [0] [31] && decide (x.2.1 = 0 ∧ x.2.2.1 = 0 ∧ x.2.2.2.2.1 = 0 ∧ x.2.2.2.2.2.1 = 0) else
  if x.1 = 9 then inAll [x.2.2.2.1, x.2.2.2.2.2.1] [0, 0] [31, 1073741824] && decide (x.2.1 = 0 ∧ x.2.2.1 = 0 ∧ x.2.2.2.2.1 = 0) else false

theorem inAll_iff : ∀ {vs ls ms : List Int}, ls.length = vs.length → ms.length = vs.length → (inAll vs ls ms = true ↔ ∀ i (h : i < vs.length) (h1 : i < ls.length) (h2 : i < ms.length), ls[i] ≤ vs[i] ∧ vs[i] ≤ ms[i])
  | [], [], [], _, _ => by simp [inAll]
  | v :: vs, l :: ls, m :: ms, h1, h2 => by
    have ih := inAll_iff (vs := vs) (ls := ls) (ms := ms) (by simpa using h1) (by simpa using h2)
    simp only [inAll, Bool.and_eq_true, ih, inB, decide_eq_true_eq]
    constructor
    · rintro ⟨a, b⟩ i hi hi1 hi2
      cases i with
      | zero => exact a
      | succ i => exact b i (by simpa using hi) (by simpa using hi1) (by simpa using hi2)
    · intro h
      exact ⟨h 0 (by simp) (by simp) (by simp), fun i a b c => h (i + 1) (by simpa using a) (by simpa using b) (by simpa using c)⟩
  | [], _ :: _, _, h, _ => by simp at h
  | [], [], _ :: _, _, h => by simp at h
  | _ :: _, [], _, h, _ => by simp at h
  | _ :: _, _ :: _, [], _, h => by simp at h

def i64B (l : List Int) : Blk := .cells (l.map (C.int .i64)) .exact
/-! The reference's. -/
theorem check_of {x y : RecT} {vs ls ms : List Int} (hl : ls.length = vs.length) (hm : ms.length = vs.length) {Z : Blk}
    (hrow : ref07_row x [recB x] = some ((⟨some (2, 0), vs.length, vs.length⟩, ⟨some (3, 0), vs.length, vs.length⟩, ⟨some (4, 0), vs.length, vs.length⟩, true, ()), [recB x, recB x, i64B vs, i64B ls, i64B ms]))
    (hof : ref07_of x.1 ⟨some (2, 0), vs.length, vs.length⟩ [recB x, recB x, i64B vs, i64B ls, i64B ms] = some ((y, ()), [recB x, recB x, i64B vs, i64B ls, i64B ms, Z])) (hv : vs.length ≤ 3) :
    ref07_Check x = some ((decide (y.1 = x.1) && (decide (y.2.1 = x.2.1) && (decide (y.2.2.1 = x.2.2.1) && (decide (y.2.2.2.1 = x.2.2.2.1) && (decide (y.2.2.2.2.1 = x.2.2.2.2.1) && (decide (y.2.2.2.2.2.1 = x.2.2.2.2.2.1) && true)))))) && inAll vs ls ms, ()) := by
  unfold ref07_Check ref07_Check.on
  have q1 : ([] : Heap) ++ [Blk.cells [.int .i64 x.1, .int .i64 x.2.1, .int .i64 x.2.2.1, .int .i64 x.2.2.2.1, .int .i64 x.2.2.2.2.1, .int .i64 x.2.2.2.2.2.1] .exact] = [recB x] := rfl
  have r1 : @Eq (Option RecT) (rd [recB x] (.agg [.int .i64, .int .i64, .int .i64, .int .i64, .int .i64, .int .i64]) ([] : Heap).length 0) (some x) := rfl
  have r2 : rdI .i64 [recB x, recB x, i64B vs, i64B ls, i64B ms] ([] : Heap).length 0 = some x.1 := rfl
  have r3 : @Eq (Option RecT) (rd [recB x, recB x, i64B vs, i64B ls, i64B ms] (.agg [.int .i64, .int .i64, .int .i64, .int .i64, .int .i64, .int .i64]) ([] : Heap).length 0) (some x) := rfl
  have r4 : @Eq (Option RecT) (rd [recB x, recB x, i64B vs, i64B ls, i64B ms, Z] (.agg [.int .i64, .int .i64, .int .i64, .int .i64, .int .i64, .int .i64]) ([] : Heap).length 0) (some x) := rfl
  have ex : (x.1, x.2.1, x.2.2.1, x.2.2.2.1, x.2.2.2.2.1, x.2.2.2.2.2.1, ()) = x := rfl
  have hiff := inAll_iff hl hm
  obtain ⟨w, G, l1, lw⟩ := loop_rise (step := ref07_Check.s1 ((⟨some (2, 0), vs.length, vs.length⟩, ⟨some (3, 0), vs.length, vs.length⟩, ⟨some (4, 0), vs.length, vs.length⟩, true, ()), [recB x, recB x, i64B vs, i64B ls, i64B ms])) vs.length
    (fun i z G => z = ((i : Int), ()) ∧ G = [recB x, recB x, i64B vs, i64B ls, i64B ms, Z] ∧ ∀ j (h : j < i) (h0 : j < vs.length) (h1 : j < ls.length) (h2 : j < ms.length), ls[j] ≤ vs[j] ∧ vs[j] ≤ ms[j])
    (fun w _ => w = if inAll vs ls ms then .inl () else .inr (false, ()))
    (by
      rintro i _ _ hi ⟨rfl, rfl, hj⟩
      have hat : ∀ c, Sl.at 1 ⟨some (c, 0), vs.length, vs.length⟩ (i : Int) = some (c, i) := fun c => by rw [at_of (by omega) (by show (i : Int) < (vs.length : Int); omega), Int.toNat_natCast, Nat.mul_one, Nat.zero_add]
      have g1 : rdI .i64 [recB x, recB x, i64B vs, i64B ls, i64B ms, Z] 2 i = some vs[i] := rdI_of (H := [recB x, recB x, i64B vs, i64B ls, i64B ms, Z]) (b := 2) rfl (by simp [hi])
      have g2 : rdI .i64 [recB x, recB x, i64B vs, i64B ls, i64B ms, Z] 3 i = some (ls[i]'(by omega)) := rdI_of (H := [recB x, recB x, i64B vs, i64B ls, i64B ms, Z]) (b := 3) rfl (by simp [hl, hi])
      have g3 : rdI .i64 [recB x, recB x, i64B vs, i64B ls, i64B ms, Z] 4 i = some (ms[i]'(by omega)) := rdI_of (H := [recB x, recB x, i64B vs, i64B ls, i64B ms, Z]) (b := 4) rfl (by simp [hm, hi])
      have hno : ∀ (h : ¬ (ls[i]'(by omega) ≤ vs[i] ∧ vs[i] ≤ ms[i]'(by omega))), inAll vs ls ms = false := fun h => by
        cases hb : inAll vs ls ms with
        | false => rfl
        | true => exact absurd (hiff.1 hb i hi (by omega) (by omega)) h
      by_cases c1 : vs[i] < (ls[i]'(by omega))
      · refine .inr ⟨.inr (false, ()), [recB x, recB x, i64B vs, i64B ls, i64B ms, Z], ?_, by rw [hno (by omega)]; rfl⟩
        unfold ref07_Check.s1
        simp only [decide_eq_true (show (i : Int) < (vs.length : Int) by omega), cond_t, hat, bind_some, g1, g2, decide_eq_true c1]
      · by_cases c2 : (ms[i]'(by omega)) < vs[i]
        · refine .inr ⟨.inr (false, ()), [recB x, recB x, i64B vs, i64B ls, i64B ms, Z], ?_, by rw [hno (by omega)]; rfl⟩
          unfold ref07_Check.s1
          simp only [decide_eq_true (show (i : Int) < (vs.length : Int) by omega), cond_t, hat, bind_some, g1, g2, g3, decide_eq_false c1, cond_f, decide_eq_true c2]
        · refine .inl ⟨_, [recB x, recB x, i64B vs, i64B ls, i64B ms, Z], ?_, rfl, rfl, fun j h h0 h1 h2 => ?_⟩
          · unfold ref07_Check.s1
            simp only [decide_eq_true (show (i : Int) < (vs.length : Int) by omega), cond_t, hat, bind_some, g1, g2, g3, decide_eq_false c1, cond_f, decide_eq_false c2, wrap_succ (show i < 9223372036854775807 by omega)]
          · by_cases e : j = i
            · subst e; omega
            · exact hj j (by omega) h0 h1 h2)
    (by
      rintro _ _ ⟨rfl, rfl, hj⟩
      refine ⟨.inl (), [recB x, recB x, i64B vs, i64B ls, i64B ms, Z], ?_, by rw [hiff.2 fun j h h1 h2 => hj j h h h1 h2]; rfl⟩
      unfold ref07_Check.s1
      simp only [decide_eq_false (show ¬ (vs.length : Int) < (vs.length : Int) by omega), cond_f])
    (y := (((0 : Nat) : Int), ())) (H := [recB x, recB x, i64B vs, i64B ls, i64B ms, Z]) ⟨rfl, rfl, fun j h => absurd h (Nat.not_lt_zero _)⟩
  have l1' : loopW (ref07_Check.s1 ((⟨some (2, 0), vs.length, vs.length⟩, ⟨some (3, 0), vs.length, vs.length⟩, ⟨some (4, 0), vs.length, vs.length⟩, true, ()), [recB x, recB x, i64B vs, i64B ls, i64B ms])) (0, ()) [recB x, recB x, i64B vs, i64B ls, i64B ms, Z] = some (w, G) := l1
  simp only [q1, r1, bind_some, ex, hrow, Bool.not_true, cond_f, r2, r3, hof, r4, if_true, l1']
  cases hb : (decide (y.1 = x.1) && (decide (y.2.1 = x.2.1) && (decide (y.2.2.1 = x.2.2.1) && (decide (y.2.2.2.1 = x.2.2.2.1) && (decide (y.2.2.2.2.1 = x.2.2.2.2.1) && (decide (y.2.2.2.2.2.1 = x.2.2.2.2.2.1) && true)))))) with
  | false => rfl
  | true =>
    rw [lw]
    cases inAll vs ls ms <;> rfl

theorem dd (a b : Int) : decide (a = b) = decide (b = a) := by
  by_cases h : a = b
  · rw [decide_eq_true h, decide_eq_true h.symm]
  · rw [decide_eq_false h, decide_eq_false (fun e => h e.symm)]
theorem ds (a : Int) : decide (a = a) = true := decide_eq_true rfl

theorem ref07_check_eq (x : RecT) : ref07_Check x = some (chkR x, ()) := by
  obtain ⟨k, a, b, c, d, e, u⟩ := x
  unfold chkR
  simp only
  by_cases h1 : k = 1
  · subst h1; rw [check_of (vs := [a, b, c]) (ls := [1, 0, 0]) (ms := [15, 1023, 511]) rfl rfl rfl rfl (by simp)]
    rw [if_pos rfl, Bool.and_comm]; simp [dd 0]
  rw [if_neg h1]
  by_cases h2 : k = 2
  · subst h2; rw [check_of (vs := [a, b]) (ls := [1, 0]) (ms := [15, 1023]) rfl rfl rfl rfl (by simp)]
    rw [if_pos rfl, Bool.and_comm]; simp [dd 0]
  rw [if_neg h2]
  by_cases h3 : k = 3
  · subst h3; rw [check_of (vs := [c, d]) (ls := [0, 0]) (ms := [511, 511]) rfl rfl rfl rfl (by simp)]
    rw [if_pos rfl, Bool.and_comm]; simp [dd 0]
  rw [if_neg h3]
  by_cases h4 : k = 4
  · subst h4; rw [check_of (vs := [a, e]) (ls := [1, 1]) (ms := [15, 1024]) rfl rfl rfl rfl (by simp)]
    rw [if_pos rfl, Bool.and_comm]; simp [dd 0]
  rw [if_neg h4]
  by_cases h5 : k = 5
  · subst h5; rw [check_of (vs := [a]) (ls := [1]) (ms := [15]) rfl rfl rfl rfl (by simp)]
    rw [if_pos (.inl rfl), Bool.and_comm]; simp [dd 0]
  by_cases h7 : k = 7
  · subst h7; rw [check_of (vs := [a]) (ls := [1]) (ms := [15]) rfl rfl rfl rfl (by simp)]
    rw [if_pos (.inr rfl), Bool.and_comm]; simp [dd 0]
  rw [if_neg (by simp [h5, h7])]
  by_cases h6 : k = 6
  · subst h6; rw [check_of (vs := [a, d]) (ls := [1, 1]) (ms := [15, 15]) rfl rfl rfl rfl (by simp)]
    rw [if_pos rfl, Bool.and_comm]; simp [dd 0]
  rw [if_neg h6]
  by_cases h8 : k = 8
  · subst h8; rw [check_of (vs := [c]) (ls := [0]) (ms := [31]) rfl rfl rfl rfl (by simp)]
    rw [if_pos rfl, Bool.and_comm]; simp [dd 0]
  rw [if_neg h8]
  by_cases h9 : k = 9
  · subst h9; rw [check_of (vs := [c, e]) (ls := [0, 0]) (ms := [31, 1073741824]) rfl rfl rfl rfl (by simp)]
    rw [if_pos rfl, Bool.and_comm]; simp [dd 0]
  rw [if_neg h9]
  have hr : ∃ R, ref07_row (k, a, b, c, d, e, u) [recB (k, a, b, c, d, e, u)] = some ((⟨none, 0, 0⟩, ⟨none, 0, 0⟩, ⟨none, 0, 0⟩, false, ()), R) := by
    have r1' : rdI .i64 ([recB (k, a, b, c, d, e, u)] ++ [recB (k, a, b, c, d, e, u)]) [recB (k, a, b, c, d, e, u)].length 0 = some k := rfl
    have q2 : [recB (k, a, b, c, d, e, u)] ++ [Blk.cells [.int .i64 k, .int .i64 a, .int .i64 b, .int .i64 c, .int .i64 d, .int .i64 e] .exact] = [recB (k, a, b, c, d, e, u)] ++ [recB (k, a, b, c, d, e, u)] := rfl
    refine ⟨[recB (k, a, b, c, d, e, u)] ++ [recB (k, a, b, c, d, e, u)], ?_⟩
    unfold ref07_row
    simp only [q2, bind_some, r1', decide_eq_false h1, decide_eq_false h2, decide_eq_false h3, decide_eq_false h4, decide_eq_false h5, decide_eq_false h6, decide_eq_false h7, decide_eq_false h8, decide_eq_false h9, cond_f]
  obtain ⟨R, hr⟩ := hr
  unfold ref07_Check ref07_Check.on
  have q1 : ([] : Heap) ++ [Blk.cells [.int .i64 k, .int .i64 a, .int .i64 b, .int .i64 c, .int .i64 d, .int .i64 e] .exact] = [recB (k, a, b, c, d, e, u)] := rfl
  have r1 : @Eq (Option RecT) (rd [recB (k, a, b, c, d, e, u)] (.agg [.int .i64, .int .i64, .int .i64, .int .i64, .int .i64, .int .i64]) ([] : Heap).length 0) (some (k, a, b, c, d, e, u)) := rfl
  have hr' : ref07_row (k, a, b, c, d, e, ()) [recB (k, a, b, c, d, e, u)] = some ((⟨none, 0, 0⟩, ⟨none, 0, 0⟩, ⟨none, 0, 0⟩, false, ()), R) := hr
  simp only [q1, r1, bind_some, hr', Bool.not_false, cond_t]

/-! The program's. -/
def ptrB (l : List Nat) : Blk := .cells (l.map fun o => C.ptr (some (0, o))) .exact
def zeros (vs : List Int) : List Int := vs.map fun _ => 0
theorem check_loop {x : RecT} {l : List Nat} {vs ms : List Int} (hl : l.length = vs.length) (hm : ms.length = vs.length) (hv : vs.length ≤ 3) (hf : ∀ i (h : i < vs.length), rdI .i64 [recB x] 0 (l[i]'(by omega)) = some vs[i]) (G0 : Heap) :
    loopW (rec_Check.s1 ((⟨some (1, 0), vs.length, vs.length⟩, ⟨some (2, 0), vs.length, vs.length⟩, ()), G0)) (0, ()) [recB x, ptrB l, i64B ms] = some (if inAll vs (zeros vs) ms then .inl () else .inr (false, ()), [recB x, ptrB l, i64B ms]) := by
  have hz : (zeros vs).length = vs.length := by simp [zeros]
  have hiff := inAll_iff hz hm
  obtain ⟨w, G, l1, rfl, rfl⟩ := loop_rise (step := rec_Check.s1 ((⟨some (1, 0), vs.length, vs.length⟩, ⟨some (2, 0), vs.length, vs.length⟩, ()), G0)) vs.length
    (fun i z G => z = ((i : Int), ()) ∧ G = [recB x, ptrB l, i64B ms] ∧ ∀ j (h : j < i) (h0 : j < vs.length) (h2 : j < ms.length), 0 ≤ vs[j] ∧ vs[j] ≤ ms[j])
    (fun w G => w = (if inAll vs (zeros vs) ms then .inl () else .inr (false, ())) ∧ G = [recB x, ptrB l, i64B ms])
    (by
      rintro i _ _ hi ⟨rfl, rfl, hj⟩
      have hat : ∀ c, Sl.at 1 ⟨some (c, 0), vs.length, vs.length⟩ (i : Int) = some (c, i) := fun c => by rw [at_of (by omega) (by show (i : Int) < (vs.length : Int); omega), Int.toNat_natCast, Nat.mul_one, Nat.zero_add]
      have g1 : rdP [recB x, ptrB l, i64B ms] 1 i = some (some (0, l[i]'(by omega))) := rdP_of (H := [recB x, ptrB l, i64B ms]) (b := 1) rfl (by simp [hl, hi])
      have g2 : rdI .i64 [recB x, ptrB l, i64B ms] 0 (l[i]'(by omega)) = some vs[i] := hf i hi
      have g3 : rdI .i64 [recB x, ptrB l, i64B ms] 2 i = some (ms[i]'(by omega)) := rdI_of (H := [recB x, ptrB l, i64B ms]) (b := 2) rfl (by simp [hm, hi])
      have hin : rec_in vs[i] 0 (ms[i]'(by omega)) = some (inB vs[i] 0 (ms[i]'(by omega)), ()) := by
        unfold rec_in rec_in.on inB
        by_cases c1 : (0 : Int) ≤ vs[i]
        · rw [decide_eq_true c1, cond_t]; simp [c1]
        · rw [decide_eq_false c1, cond_f]; simp [c1]
      by_cases c : 0 ≤ vs[i] ∧ vs[i] ≤ ms[i]'(by omega)
      · refine .inl ⟨_, [recB x, ptrB l, i64B ms], ?_, rfl, rfl, fun j h h0 h2 => ?_⟩
        · unfold rec_Check.s1
          simp only [decide_eq_true (show (i : Int) < (vs.length : Int) by omega), cond_t, hat, bind_some, g1, g2, g3, hin, inB, decide_eq_true c, Bool.not_true, cond_f, wrap_succ (show i < 9223372036854775807 by omega)]
        · by_cases e : j = i
          · subst e; exact c
          · exact hj j (by omega) h0 h2
      · have hno : inAll vs (zeros vs) ms = false := by
          cases hb : inAll vs (zeros vs) ms with
          | false => rfl
          | true =>
            have := hiff.1 hb i hi (by omega) (by omega)
            simp only [zeros, List.getElem_map] at this
            exact absurd this c
        refine .inr ⟨.inr (false, ()), [recB x, ptrB l, i64B ms], ?_, by rw [hno]; rfl, rfl⟩
        unfold rec_Check.s1
        simp only [decide_eq_true (show (i : Int) < (vs.length : Int) by omega), cond_t, hat, bind_some, g1, g2, g3, hin, inB, decide_eq_false c, Bool.not_false])
    (by
      rintro _ _ ⟨rfl, rfl, hj⟩
      refine ⟨.inl (), [recB x, ptrB l, i64B ms], ?_, by rw [hiff.2 fun j h h1 h2 => by simpa [zeros] using hj j h h h2]; rfl, rfl⟩
      unfold rec_Check.s1
      simp only [decide_eq_false (show ¬ (vs.length : Int) < (vs.length : Int) by omega), cond_f])
    (y := (((0 : Nat) : Int), ())) (H := [recB x, ptrB l, i64B ms]) ⟨rfl, rfl, fun j h => absurd h (Nat.not_lt_zero _)⟩
  exact l1

theorem check2_of {x y : RecT} {l : List Nat} {vs ms : List Int} (hl : l.length = vs.length) (hm : ms.length = vs.length) (hv : vs.length ≤ 3) (hv0 : 0 < vs.length) (hf : ∀ i (h : i < vs.length), rdI .i64 [recB x] 0 (l[i]'(by omega)) = some vs[i])
    (hr : rec_fields (some (0, 0)) [recB x] = some ((⟨some (1, 0), vs.length, vs.length⟩, ⟨some (2, 0), vs.length, vs.length⟩, ()), [recB x, ptrB l, i64B ms]))
    (hy : loopW (rec_Check.s2 ((⟨some (1, 0), vs.length, vs.length⟩, ⟨some (2, 0), vs.length, vs.length⟩, ()), [recB x, ptrB l, i64B ms])) (0, ()) [recB x, ptrB l, i64B ms] = some ((), [recB y, ptrB l, i64B ms])) (hy1 : y.1 = x.1) :
    rec_Check x = some (inAll vs (zeros vs) ms && ((decide (8 ≤ x.1 ∨ x.1 = 3 ∨ 1 ≤ x.2.1) && !decide (x.1 = 4 ∧ x.2.2.2.2.2.1 < 1) && !decide (x.1 = 6 ∧ x.2.2.2.2.1 < 1)) && (decide (y.2.1 = 0) && (decide (y.2.2.1 = 0) && (decide (y.2.2.2.1 = 0) && (decide (y.2.2.2.2.1 = 0) && (decide (y.2.2.2.2.2.1 = 0) && true)))))), ()) := by
  unfold rec_Check rec_Check.on
  have q1 : ([] : Heap) ++ [Blk.cells [.int .i64 x.1, .int .i64 x.2.1, .int .i64 x.2.2.1, .int .i64 x.2.2.2.1, .int .i64 x.2.2.2.2.1, .int .i64 x.2.2.2.2.2.1] .exact] = [recB x] := rfl
  have hr' : rec_fields (some (([] : Heap).length, 0)) [recB x] = some ((⟨some (1, 0), vs.length, vs.length⟩, ⟨some (2, 0), vs.length, vs.length⟩, ()), [recB x, ptrB l, i64B ms]) := hr
  have c0 : rdI .i64 [recB x, ptrB l, i64B ms] 0 0 = some x.1 := rfl
  have c1 : rdI .i64 [recB x, ptrB l, i64B ms] 0 1 = some x.2.1 := rfl
  have c4 : rdI .i64 [recB x, ptrB l, i64B ms] 0 4 = some x.2.2.2.2.1 := rfl
  have c5 : rdI .i64 [recB x, ptrB l, i64B ms] 0 5 = some x.2.2.2.2.2.1 := rfl
  have d0 : rdI .i64 [recB y, ptrB l, i64B ms] 0 0 = some y.1 := rfl
  have d1 : @Eq (Option RecT) (rd [recB y, ptrB l, i64B ms] (.agg [.int .i64, .int .i64, .int .i64, .int .i64, .int .i64, .int .i64]) 0 0) (some y) := rfl
  simp only [q1, hr', bind_some, check_loop hl hm hv hf]
  cases inAll vs (zeros vs) ms with
  | false => rfl
  | true =>
    simp only [List.length_nil, if_true, Sum.elim_inl, c0, c1, c4, c5, bind_some, Option.isNone_some, cond_f]
    have fin : (loopW (rec_Check.s2 ((⟨some (1, 0), vs.length, vs.length⟩, ⟨some (2, 0), vs.length, vs.length⟩, ()), [recB x, ptrB l, i64B ms])) (0, ()) [recB x, ptrB l, i64B ms]) = some ((), [recB y, ptrB l, i64B ms]) := hy
    by_cases e8 : 8 ≤ x.1
    · have n4 : ¬ x.1 = 4 := by omega
      have n6 : ¬ x.1 = 6 := by omega
      simp [c0, c1, c4, c5, hy1, e8, n4, n6, fin, d0, d1, cond_t, cond_f, bind_some]
    · by_cases e3 : x.1 = 3
      · have n4 : ¬ x.1 = 4 := by omega
        have n6 : ¬ x.1 = 6 := by omega
        simp [c0, c1, c4, c5, hy1, e8, e3, n4, n6, fin, d0, d1, cond_t, cond_f, bind_some]
      · by_cases e1 : 1 ≤ x.2.1
        · by_cases e4 : x.1 = 4
          · have n6 : ¬ x.1 = 6 := by omega
            by_cases e5 : x.2.2.2.2.2.1 < 1
            · simp [c0, c1, c4, c5, hy1, e8, e3, e1, e4, e5, cond_t, cond_f, bind_some]
            · simp [c0, c1, c4, c5, hy1, e8, e3, e1, e4, e5, n6, fin, d0, d1, cond_t, cond_f, bind_some]
          · by_cases e6 : x.1 = 6
            · by_cases e5 : x.2.2.2.2.1 < 1
              · simp [c0, c1, c4, c5, hy1, e8, e3, e1, e4, e5, e6, cond_t, cond_f, bind_some]
              · simp [c0, c1, c4, c5, hy1, e8, e3, e1, e4, e5, e6, fin, d0, d1, cond_t, cond_f, bind_some]
            · simp [c0, c1, c4, c5, hy1, e8, e3, e1, e4, e6, fin, d0, d1, cond_t, cond_f, bind_some]
        · simp [c0, c1, c4, c5, hy1, e8, e3, e1, cond_t, cond_f, bind_some]

set_option maxHeartbeats 1000000 in
theorem rec_check_eq (x : RecT) : rec_Check x = some (chkR x, ()) := by
  obtain ⟨k, a, b, c, d, e, u⟩ := x
  unfold chkR
  simp only
  by_cases h1 : k = 1
  · subst h1
    rw [check2_of (x := (1, a, b, c, d, e, u)) (y := (1, 0, 0, 0, d, e, u)) (l := [1, 2, 3]) (vs := [a, b, c]) (ms := [15, 1023, 511]) rfl rfl (by simp) (by simp) (fun i hi => by match i, hi with | 0, _ => rfl | 1, _ => rfl | 2, _ => rfl) rfl (loopW_eq (n := 4) rfl) rfl]
    simp [inAll, inB, zeros]
    by_cases e1 : 1 ≤ a
    · have e0 : 0 ≤ a := by omega
      simp [e1, e0, Bool.and_assoc]
    · simp [e1]
  rw [if_neg h1]
  by_cases h2 : k = 2
  · subst h2
    rw [check2_of (x := (2, a, b, c, d, e, u)) (y := (2, 0, 0, c, d, e, u)) (l := [1, 2]) (vs := [a, b]) (ms := [15, 1023]) rfl rfl (by simp) (by simp) (fun i hi => by match i, hi with | 0, _ => rfl | 1, _ => rfl) rfl (loopW_eq (n := 4) rfl) rfl]
    simp [inAll, inB, zeros]
    by_cases e1 : 1 ≤ a
    · have e0 : 0 ≤ a := by omega
      simp [e1, e0, Bool.and_assoc]
    · simp [e1]
  rw [if_neg h2]
  by_cases h3 : k = 3
  · subst h3
    rw [check2_of (x := (3, a, b, c, d, e, u)) (y := (3, a, b, 0, 0, e, u)) (l := [3, 4]) (vs := [c, d]) (ms := [511, 511]) rfl rfl (by simp) (by simp) (fun i hi => by match i, hi with | 0, _ => rfl | 1, _ => rfl) rfl (loopW_eq (n := 4) rfl) rfl]
    simp [inAll, inB, zeros]
  rw [if_neg h3]
  by_cases h4 : k = 4
  · subst h4
    rw [check2_of (x := (4, a, b, c, d, e, u)) (y := (4, 0, b, c, d, 0, u)) (l := [1, 5]) (vs := [a, e]) (ms := [15, 1024]) rfl rfl (by simp) (by simp) (fun i hi => by match i, hi with | 0, _ => rfl | 1, _ => rfl) rfl (loopW_eq (n := 4) rfl) rfl]
    simp [inAll, inB, zeros]
    by_cases e1 : 1 ≤ a
    · have e0 : 0 ≤ a := by omega
      by_cases e2 : 1 ≤ e
      · have e3 : 0 ≤ e := by omega
        have e4 : ¬ e < 1 := by omega
        simp [e1, e0, e2, e3, e4, Bool.and_assoc]
      · have e4 : e < 1 := by omega
        simp [e2, e4]
    · simp [e1]
  rw [if_neg h4]
  by_cases h5 : k = 5
  · subst h5
    rw [check2_of (x := (5, a, b, c, d, e, u)) (y := (5, 0, b, c, d, e, u)) (l := [1]) (vs := [a]) (ms := [15]) rfl rfl (by simp) (by simp) (fun i hi => by match i, hi with | 0, _ => rfl) rfl (loopW_eq (n := 4) rfl) rfl]
    simp [inAll, inB, zeros]
    by_cases e1 : 1 ≤ a
    · have e0 : 0 ≤ a := by omega
      simp [e1, e0, Bool.and_assoc]
    · simp [e1]
  by_cases h7 : k = 7
  · subst h7
    rw [check2_of (x := (7, a, b, c, d, e, u)) (y := (7, 0, b, c, d, e, u)) (l := [1]) (vs := [a]) (ms := [15]) rfl rfl (by simp) (by simp) (fun i hi => by match i, hi with | 0, _ => rfl) rfl (loopW_eq (n := 4) rfl) rfl]
    simp [inAll, inB, zeros]
    by_cases e1 : 1 ≤ a
    · have e0 : 0 ≤ a := by omega
      simp [e1, e0, Bool.and_assoc]
    · simp [e1]
  rw [if_neg (by simp [h5, h7])]
  by_cases h6 : k = 6
  · subst h6
    rw [check2_of (x := (6, a, b, c, d, e, u)) (y := (6, 0, b, c, 0, e, u)) (l := [1, 4]) (vs := [a, d]) (ms := [15, 15]) rfl rfl (by simp) (by simp) (fun i hi => by match i, hi with | 0, _ => rfl | 1, _ => rfl) rfl (loopW_eq (n := 4) rfl) rfl]
    simp [inAll, inB, zeros]
    by_cases e1 : 1 ≤ a
    · have e0 : 0 ≤ a := by omega
      by_cases e2 : 1 ≤ d
      · have e3 : 0 ≤ d := by omega
        have e4 : ¬ d < 1 := by omega
        simp [e1, e0, e2, e3, e4, Bool.and_assoc]
      · have e4 : d < 1 := by omega
        simp [e2, e4]
    · simp [e1]
  rw [if_neg h6]
  by_cases h8 : k = 8
  · subst h8
    rw [check2_of (x := (8, a, b, c, d, e, u)) (y := (8, a, b, 0, d, e, u)) (l := [3]) (vs := [c]) (ms := [31]) rfl rfl (by simp) (by simp) (fun i hi => by match i, hi with | 0, _ => rfl) rfl (loopW_eq (n := 4) rfl) rfl]
    simp [inAll, inB, zeros]
  rw [if_neg h8]
  by_cases h9 : k = 9
  · subst h9
    rw [check2_of (x := (9, a, b, c, d, e, u)) (y := (9, a, b, 0, d, 0, u)) (l := [3, 5]) (vs := [c, e]) (ms := [31, 1073741824]) rfl rfl (by simp) (by simp) (fun i hi => by match i, hi with | 0, _ => rfl | 1, _ => rfl) rfl (loopW_eq (n := 4) rfl) rfl]
    simp [inAll, inB, zeros]
  rw [if_neg h9]
  have hr : rec_fields (some (0, 0)) [recB (k, a, b, c, d, e, u)] = some ((⟨none, 0, 0⟩, ⟨none, 0, 0⟩, ()), [recB (k, a, b, c, d, e, u)]) := by
    have r1' : rdI .i64 [recB (k, a, b, c, d, e, u)] 0 0 = some k := rfl
    unfold rec_fields
    simp only [List.length_nil, bind_some, r1', decide_eq_false h1, decide_eq_false h2, decide_eq_false h3, decide_eq_false h4, decide_eq_false h5, decide_eq_false h6, decide_eq_false h7, decide_eq_false h8, decide_eq_false h9, cond_f]
  unfold rec_Check rec_Check.on
  have q1 : ([] : Heap) ++ [Blk.cells [.int .i64 k, .int .i64 a, .int .i64 b, .int .i64 c, .int .i64 d, .int .i64 e] .exact] = [recB (k, a, b, c, d, e, u)] := rfl
  have l1 : loopW (rec_Check.s1 ((⟨none, 0, 0⟩, ⟨none, 0, 0⟩, ()), [recB (k, a, b, c, d, e, u)])) (0, ()) [recB (k, a, b, c, d, e, u)] = some (.inl (), [recB (k, a, b, c, d, e, u)]) := loopW_eq (n := 1) rfl
  have c0 : rdI .i64 [recB (k, a, b, c, d, e, u)] 0 0 = some k := rfl
  have c1 : rdI .i64 [recB (k, a, b, c, d, e, u)] 0 1 = some a := rfl
  simp only [q1, hr, bind_some, l1, Sum.elim_inl, List.length_nil, c0, c1]
  by_cases e8 : 8 ≤ k
  · simp [e8, cond_t, bind_some]
  · simp [e8, h3, cond_f, bind_some]
end Ev

namespace Ev
open Go (IntKind)

theorem rdM_of {H : Heap} {b o : Nat} {cs : List C} {bk : BK} {n : Option Nat} (h : H[b]? = some (.cells cs bk)) (hc : cs[o]? = some (.mp n)) : rdM H b o = some n := by
  show (H.cell b o).bind (CT.un .mp) = some n
  rw [cell_of h hc]; rfl

def inW (_ : Int) (v : Int) : W := .one (.int .i64 v)
def boW (_ : Int) (_ : Unit) : W := .one (.bool true)
def spW (pg : Int → Nat) (id : Int) (x : Int × Bool) : W := .agg [.int .i64 x.1, .bool x.2, .mp (some (pg id))]
structure SaA where
  c : Nat
  sp : Nat
  rf : Nat
  bd : Nat
  wn : Nat
  pg : Int → Nat
structure StAt (H : Heap) (a : SaA) (st : Sta) : Prop where
  w : SaW st
  c : H[a.c]? = some (.cells [.mp (some a.sp), .mp (some a.rf), .mp (some a.bd), .mp (some a.wn)] .exact)
  sp : MpA H a.sp (spW a.pg) st.sp
  pg : ∀ id x, afind st.sp id = some x → MpA H (a.pg id) inW (pgs st.lv id)
  rf : MpA H a.rf inW (rfOf st.lv)
  bd : MpA H a.bd boW st.bd
  wn : MpA H a.wn inW st.wn
  nd : a.sp ≠ a.rf ∧ a.sp ≠ a.bd ∧ a.sp ≠ a.wn ∧ a.rf ≠ a.bd ∧ a.rf ≠ a.wn ∧ a.bd ≠ a.wn
  pn : ∀ id x, afind st.sp id = some x → a.pg id ≠ a.sp ∧ a.pg id ≠ a.rf ∧ a.pg id ≠ a.bd ∧ a.pg id ≠ a.wn
  pi : ∀ id x id' x', afind st.sp id = some x → afind st.sp id' = some x' → a.pg id = a.pg id' → id = id'
/-- All its blocks. -/
def SaA.fp (a : SaA) (st : Sta) (b : Nat) : Prop := b = a.c ∨ b = a.sp ∨ b = a.rf ∨ b = a.bd ∨ b = a.wn ∨ ∃ id x, afind st.sp id = some x ∧ b = a.pg id
section
variable {H : Heap} {a : SaA} {st : Sta}
theorem StAt.keep (h : StAt H a st) {F : Nat → Prop} {H' : Heap} (k : Keep F H H') (hF : ∀ b, a.fp st b → ¬ F b) : StAt H' a st :=
  ⟨h.w, k.get h.c (hF _ (.inl rfl)), h.sp.keep k (hF _ (.inr (.inl rfl))), fun id x hx => (h.pg id x hx).keep k (hF _ (.inr (.inr (.inr (.inr (.inr ⟨id, x, hx, rfl⟩)))))),
    h.rf.keep k (hF _ (.inr (.inr (.inl rfl)))), h.bd.keep k (hF _ (.inr (.inr (.inr (.inl rfl))))), h.wn.keep k (hF _ (.inr (.inr (.inr (.inr (.inl rfl)))))), h.nd, h.pn, h.pi⟩
theorem StAt.lt (h : StAt H a st) {b : Nat} (hb : a.fp st b) : b < H.length := by
  rcases hb with rfl | rfl | rfl | rfl | rfl | ⟨id, x, hx, rfl⟩
  · exact get_lt h.c
  · exact h.sp.lt
  · exact h.rf.lt
  · exact h.bd.lt
  · exact h.wn.lt
  · exact (h.pg id x hx).lt
theorem StAt.push (h : StAt H a st) (x : Blk) : StAt (H ++ [x]) a st := h.keep (Keep.push (fun _ => False) H x) fun _ _ => id
theorem StAt.r0 (h : StAt H a st) : rdM H a.c 0 = some (some a.sp) := rdM_of h.c rfl
theorem StAt.r1 (h : StAt H a st) : rdM H a.c (0 + 1) = some (some a.rf) := rdM_of h.c rfl
theorem StAt.r2 (h : StAt H a st) : rdM H a.c (0 + 2) = some (some a.bd) := rdM_of h.c rfl
theorem StAt.r3 (h : StAt H a st) : rdM H a.c (0 + 3) = some (some a.wn) := rdM_of h.c rfl
theorem mp_ne {b c : Nat} {cs : List C} {bk : BK} {α : Type} {f : Int → α → W} {l : List (Int × α)} (h : H[c]? = some (.cells cs bk)) (hm : MpA H b f l) : b ≠ c := by
  rintro rfl
  obtain ⟨dc, hm⟩ := hm
  rw [h] at hm; cases hm

/-- A number out of a map of numbers. -/
theorem MpA.int {b : Nat} {l : List (Int × Int)} (h : MpA H b inW l) (k : Int) : mget H (.one (.int .i64)) (.one (.int .i64 0)) (some b) k = some ((afind l k).getD 0, (afind l k).isSome) := by
  refine h.get (.one (.int .i64)) _ k ?_
  cases afind l k <;> rfl
theorem MpA.bool {b : Nat} {l : List (Int × Unit)} (h : MpA H b boW l) (k : Int) : mget H (.one .bool) (.one (.bool false)) (some b) k = some ((afind l k).isSome, (afind l k).isSome) := by
  refine h.get (.one .bool) _ k ?_
  cases afind l k <;> rfl
def spV (pg : Int → Nat) (id : Int) : Option (Int × Bool) → Int × Bool × Option Nat × Unit
  | some x => (x.1, x.2, some (pg id), ())
  | none => (0, false, none, ())
theorem MpA.space {b : Nat} {pg : Int → Nat} {l : List (Int × Int × Bool)} (h : MpA H b (spW pg) l) (k : Int) : mget H (.agg [.int .i64, .bool, .mp]) (.agg [.int .i64 0, .bool false, .mp none]) (some b) k = some (spV pg k (afind l k), (afind l k).isSome) := by
  refine h.get (.agg [.int .i64, .bool, .mp]) _ k ?_
  cases afind l k <;> rfl
theorem mget_nil (ty : Ty) (zero : W) (k : Int) {v : ty.T} (hv : ty.un zero = some v) : mget H ty zero none k = some (v, false) := by
  simp only [mget, mgetW, Option.bind_some, Option.getD_none, hv]; rfl

theorem pgs_none (w : SaW st) {id : Int} (hn : afind st.sp id = none) : pgs st.lv id = [] := by
  unfold pgs
  have : (st.lv.filter fun x => decide (x.1 / 1024 = id)) = [] := by
    rw [List.filter_eq_nil_iff]
    intro x hx hd
    have hd := of_decide_eq_true hd
    have := w.own x hx
    rw [hd, hn] at this; cases this
  rw [this]; rfl
theorem st_get (h : StAt H a st) (id p : Int) : state_State_Get (some (a.c, 0)) id p H = some (((afind (pgs st.lv id) p).getD 0, (afind (pgs st.lv id) p).isSome, ()), H) := by
  unfold state_State_Get
  simp only [Option.isNone_some, cond_false, Option.bind_some, h.r0, h.sp.space]
  cases hx : afind st.sp id with
  | none =>
    rw [pgs_none h.w hx]
    simp only [spV]
    rw [mget_nil (.one (.int .i64)) _ _ (v := (0 : Int)) rfl]; rfl
  | some x =>
    simp only [spV]
    rw [(h.pg id x hx).int]; rfl
theorem st_live (h : StAt H a st) : state_State_Live (some (a.c, 0)) H = some ((((rfOf st.lv).length : Int), ()), H) := by
  unfold state_State_Live
  simp only [Option.isNone_some, cond_false, Option.bind_some, h.r1, h.rf.len]
/-- What is told of a space. -/
def spI (st : Sta) (id : Int) : Int × Int × Int × Bool × Unit :=
  match afind st.sp id with
  | some x => (id, x.1, ((pgs st.lv id).length : Int), x.2, ())
  | none => (0, 0, 0, false, ())
theorem st_space (h : StAt H a st) (id : Int) : ∃ H', state_State_Space (some (a.c, 0)) id H = some ((spI st id, (afind st.sp id).isSome, ()), H') ∧ Keep (fun _ => False) H H' := by
  have h1 := h.push (.cells [.int .i64 0, .int .i64 0, .int .i64 0, .bool false] .exact)
  unfold state_State_Space
  simp only [Option.isNone_some, cond_false, Option.bind_some, h1.r0, h1.sp.space]
  cases hx : afind st.sp id with
  | none =>
    simp only [spV, Option.isSome_none, Bool.not_false, Option.bind_some, Option.map_some, cond_true, cond_false, List.append_assoc, List.cons_append, List.nil_append, List.length_append, List.length_cons, List.length_nil, Nat.zero_add, rd_t0, rd_t1, rdI_t0, rdI_t1, rdB_t0, rdB_t1, rdM_t0, rdM_t1, rd_c1, rdI_c1, rdB_c1, rdM_c1, rdI_c0, rdB_c0, rdM_c0, wr_t0, wr_t1, wr_c0, wr_c1, setL, List.set, List.getElem?_cons_zero, List.getElem?_cons_succ, un_i, un_b, un_m, un_s, Nat.le_refl, rd_iiib, rd_iiiiii, rd_ibm, rd_iii, rd_iib, rd_ii, rd_3312, rd_iiii, rd_si, rd_33121, rd_33121i, slRow_t0, slRow_t1, sl_c0, sl_c1]
    simp only [spI, hx]
    exact ⟨_, rfl, Keep.app _ _ _⟩
  | some x =>
    have h2 := h1.push (.cells [.int .i64 x.1, .bool x.2, .mp (some (a.pg id))] .exact)
    have h3 := (h2.pg id x hx).len
    simp only [spV, Option.isSome_some, Bool.not_true, Option.bind_some, Option.map_some, cond_true, cond_false, List.append_assoc, List.cons_append, List.nil_append, List.length_append, List.length_cons, List.length_nil, Nat.zero_add, rd_t0, rd_t1, rdI_t0, rdI_t1, rdB_t0, rdB_t1, rdM_t0, rdM_t1, rd_c1, rdI_c1, rdB_c1, rdM_c1, rdI_c0, rdB_c0, rdM_c0, wr_t0, wr_t1, wr_c0, wr_c1, setL, List.set, List.getElem?_cons_zero, List.getElem?_cons_succ, un_i, un_b, un_m, un_s, Nat.le_refl, rd_iiib, rd_iiiiii, rd_ibm, rd_iii, rd_iib, rd_ii, rd_3312, rd_iiii, rd_si, rd_33121, rd_33121i, slRow_t0, slRow_t1, sl_c0, sl_c1] at h3 ⊢
    simp only [h3, Option.bind_some, Option.map_some, cond_true, cond_false, List.append_assoc, List.cons_append, List.nil_append, List.length_append, List.length_cons, List.length_nil, Nat.zero_add, rd_t0, rd_t1, rdI_t0, rdI_t1, rdB_t0, rdB_t1, rdM_t0, rdM_t1, rd_c1, rdI_c1, rdB_c1, rdM_c1, rdI_c0, rdB_c0, rdM_c0, wr_t0, wr_t1, wr_c0, wr_c1, setL, List.set, List.getElem?_cons_zero, List.getElem?_cons_succ, un_i, un_b, un_m, un_s, Nat.le_refl, rd_iiib, rd_iiiiii, rd_ibm, rd_iii, rd_iib, rd_ii, rd_3312, rd_iiii, rd_si, rd_33121, rd_33121i, slRow_t0, slRow_t1, sl_c0, sl_c1]
    simp only [spI, hx]
    exact ⟨_, rfl, Keep.app _ _ _⟩
end
end Ev

namespace Ev
open Go (IntKind)

abbrev ctI : List CT := [.int .i64, .int .i64, .int .i64, .bool]
abbrev ctR : List CT := [.int .i64, .int .i64, .int .i64, .int .i64, .int .i64, .int .i64]
def infos (st : Sta) : List (Tup ctI) := st.sp.map fun x => spI st x.1
theorem rowsOf_map {α : Type} {cts : List CT} (l : List α) (g : α → Tup cts) : rowsOf cts (l.map g) = (l.map fun x => Tup.mk cts (g x)).flatten := by
  unfold rowsOf; rw [List.map_map]; rfl
section
variable {H : Heap} {a : SaA} {st : Sta}
theorem sp_keys (w : SaW st) : st.sp.length ≤ 1099511627776 ∧ ∀ x ∈ st.sp, -9223372036854775808 ≤ x.1 ∧ x.1 ≤ 9223372036854775807 :=
  ⟨by have := w.few; omega, fun x hx => by have := w.ids x hx; omega⟩
theorem st_spaces (h : StAt H a st) : ∃ s G, state_State_Spaces (some (a.c, 0)) H = some ((s, ()), G) ∧ Em H ⟨none, 0, 0⟩ 4 G s (rowsOf ctI (infos st)) ∧ s.len = st.sp.length := by
  obtain ⟨ks, K, e1, e2, e3, e4, e5, e6⟩ := h.sp.sorted (sp_keys h.w).1 (sp_keys h.w).2
  have hK : StAt K a st := h.keep e6 fun _ _ => id
  have hrow : Row K 1 ks (intC (st.sp.map Prod.fst)) := ⟨e2, e4⟩
  unfold state_State_Spaces
  simp only [Option.isNone_some, cond_false, Option.bind_some, h.r0, maps_Keys_map_int_state_space_int_state_space, e1]
  obtain ⟨s, G, g1, g2⟩ := emit (H := K) (s0 := ⟨none, 0, 0⟩) (es := 4) (step := state_State_Spaces.s1 (some (a.c, 0)) ((ks, ()), K)) (st.sp.map Prod.fst) (fun k => Tup.mk ctI (spI st k)) (Em.start (Grown.ni K 4))
    (fun i hi s G cs hE hn => by
      have hl : (st.sp.map Prod.fst).length ≤ 15 := by rw [List.length_map]; exact h.w.few
      have hG : StAt G a st := hK.keep hE.k fun _ _ ⟨o, ho⟩ => by cases ho
      have hr := hE.row hrow fun _ _ _ _ hh => by cases hh
      obtain ⟨b, o, _, r1, r2⟩ := hr.int hi
      obtain ⟨G1, t1, t2⟩ := st_space hG (st.sp.map Prod.fst)[i]
      have hE1 := hE.keep t2 fun _ hf => hf.elim
      have hd : decide ((i : Int) < (ks.len : Int)) = true := decide_eq_true (by rw [e3]; simp at hi; omega)
      unfold state_State_Spaces.s1
      simp only [hd, r1, r2, t1, Option.bind_some, Option.map_some, cond_true, cond_false, List.append_assoc, List.cons_append, List.nil_append, List.length_append, List.length_cons, List.length_nil, Nat.zero_add, rd_t0, rd_t1, rdI_t0, rdI_t1, rdB_t0, rdB_t1, rdM_t0, rdM_t1, rd_c1, rdI_c1, rdB_c1, rdM_c1, rdI_c0, rdB_c0, rdM_c0, wr_t0, wr_t1, wr_c0, wr_c1, setL, List.set, List.getElem?_cons_zero, List.getElem?_cons_succ, un_i, un_b, un_m, un_s, Nat.le_refl, rd_iiib, rd_iiiiii, rd_ibm, rd_iii, rd_iib, rd_ii, rd_3312, rd_iiii, rd_si, rd_33121, rd_33121i, slRow_t0, slRow_t1, sl_c0, sl_c1]
      have hE2 := hE1.push [.cells (Tup.mk ctI (spI st (st.sp.map Prod.fst)[i])) .exact, .cells (Tup.mk ctI (spI st (st.sp.map Prod.fst)[i])) .exact]
      obtain ⟨s', G', u1, u2, u3, _, _⟩ := hE2.app (by decide) (new := Tup.mk ctI (spI st (st.sp.map Prod.fst)[i])) (bytes := 32) rfl (by rw [hn]; simp only; omega) (by rw [hn]; simp only; omega)
      refine ⟨s', G', (bind_to u1).trans ?_, u2, u3⟩
      simp only [wrap_succ (show i < 9223372036854775807 by omega)])
    (fun s G => by
      have hd : decide (((st.sp.map Prod.fst).length : Int) < (ks.len : Int)) = false := decide_eq_false (by rw [e3]; simp)
      unfold state_State_Spaces.s1
      simp only [hd, cond_false])
  refine ⟨s, G, ?_, ?_, ?_⟩
  · rw [g1]; rfl
  · have := (g2.1.under (H := H) (e6.mono fun _ hf => hf.elim))
    rw [List.nil_append, List.map_map] at this
    have e : rowsOf ctI (infos st) = (st.sp.map fun x => Tup.mk ctI (spI st x.1)).flatten := rowsOf_map (cts := ctI) st.sp fun x => spI st x.1
    rw [e]
    exact this
  · rw [g2.2]; simp
theorem pgs_len (lv : List (Int × Int)) (id : Int) : (pgs lv id).length = (lv.filter fun x => decide (x.1 / 1024 = id)).length := by unfold pgs; rw [List.length_map]
theorem sum_one {l : List (Int × Int × Bool)} (hs : Asc l) (f g : Int → Nat) {k : Int} {x : Int × Bool} (hk : afind l k = some x) (hg : ∀ j, g j = f j + (if k = j then 1 else 0)) : (l.map fun x => g x.1).sum = (l.map fun x => f x.1).sum + 1 := by
  induction l with
  | nil => cases hk
  | cons y l ih =>
    rw [List.map_cons, List.map_cons, List.sum_cons, List.sum_cons, hg]
    rw [afind] at hk
    by_cases e : y.1 = k
    · rw [if_pos e.symm]
      have : (l.map fun x => g x.1) = l.map fun x => f x.1 := List.map_congr_left fun z hz => by
        have := hs.head hz
        rw [hg, if_neg (by omega)]; rfl
      rw [this]; omega
    · rw [if_neg e] at hk
      rw [if_neg (fun hh => e hh.symm), ih hs.tail hk]; omega
theorem pages_sum {sp : List (Int × Int × Bool)} (hs : Asc sp) : ∀ {lv : List (Int × Int)}, (∀ x ∈ lv, (afind sp (x.1 / 1024)).isSome = true) → (sp.map fun x => (pgs lv x.1).length).sum = lv.length
  | [], _ => by
    induction sp with
    | nil => rfl
    | cons y l ih => rw [List.map_cons, List.sum_cons, ih hs.tail (fun _ hx => absurd hx List.not_mem_nil)]; rfl
  | z :: lv, h => by
    obtain ⟨x, hx⟩ := Option.isSome_iff_exists.1 (h z (by simp))
    rw [sum_one hs (fun j => (pgs lv j).length) (fun j => (pgs (z :: lv) j).length) hx fun j => by
      simp only [pgs_len, List.filter_cons]
      by_cases e : z.1 / 1024 = j
      · rw [if_pos (decide_eq_true e), if_pos e, List.length_cons]
      · rw [if_neg (by simpa using e), if_neg e]; rfl, pages_sum hs fun y hy => h y (by simp [hy]), List.length_cons]
theorem sum_take {l : List Nat} {i : Nat} (h : i < l.length) : (l.take (i + 1)).sum = (l.take i).sum + l[i] := by rw [take_snoc h, List.sum_append]; simp
theorem sum_take_le (l : List Nat) (i : Nat) : (l.take i).sum ≤ l.sum := by
  have : l.sum = (l.take i).sum + (l.drop i).sum := by rw [← List.sum_append, List.take_append_drop]
  omega
theorem spI_at (st : Sta) {id : Int} {x : Int × Bool} (h : afind st.sp id = some x) : spI st id = (id, x.1, ((pgs st.lv id).length : Int), x.2, ()) := by unfold spI; rw [h]
theorem st_keys (h : StAt H a st) : ∃ G, state_State_Keys (some (a.c, 0)) H = some (((st.lv.length : Int), ()), G) ∧ Keep (fun _ => False) H G := by
  obtain ⟨s, K, e1, e2, e3⟩ := st_spaces h
  have hrow : Row K 4 s (rowsOf ctI (infos st)) := Row.grown e2.g
  have hsum := pages_sum h.w.sp h.w.own
  have hlen : (infos st).length = st.sp.length := List.length_map _
  have hmany := h.w.many
  have hfew := h.w.few
  let ns := st.sp.map fun x => (pgs st.lv x.1).length
  have hns : ns.length = st.sp.length := List.length_map _
  unfold state_State_Keys
  simp only [e1, Option.bind_some]
  obtain ⟨x, G, g1, rfl, g2⟩ := loop_rise (step := state_State_Keys.s1 ((s, ()), K)) st.sp.length (fun i y G => y = (((ns.take i).sum : Int), (i : Int), ()) ∧ Keep (fun _ => False) K G) (fun x G => x = (((st.lv.length : Nat) : Int), ()) ∧ Keep (fun _ => False) K G)
    (fun i y G hi ⟨hy, hk⟩ => by
      subst hy
      obtain ⟨b, o, r1, r2, _⟩ := Row.rd (cts := ctI) (rows := infos st) (hrow.keep hk fun _ _ _ => id) (i := i) (by omega) (by decide)
      have r1 : Sl.at 4 s (i : Int) = some (b, o) := r1
      have hd : decide ((i : Int) < (s.len : Int)) = true := decide_eq_true (by rw [e3]; omega)
      have hx : afind st.sp st.sp[i].1 = some st.sp[i].2 := h.w.sp.find (List.getElem_mem (by omega))
      have hr : (infos st)[i]'(by omega) = (st.sp[i].1, st.sp[i].2.1, ((pgs st.lv st.sp[i].1).length : Int), st.sp[i].2.2, ()) := by
        exact (List.getElem_map (fun x : Int × Int × Bool => (spI st x.1 : Tup ctI)) (l := st.sp)).trans (spI_at st hx)
      rw [hr] at r2
      have h1 := sum_take (l := ns) (i := i) (by omega)
      have h2 := sum_take_le ns (i + 1)
      have h3 : ns[i]'(by omega) = (pgs st.lv st.sp[i].1).length := by simp only [ns, List.getElem_map]
      refine .inl ⟨(((ns.take (i + 1)).sum : Int), ((i + 1 : Nat) : Int), ()), G ++ [.cells [.int .i64 st.sp[i].1, .int .i64 st.sp[i].2.1, .int .i64 ((pgs st.lv st.sp[i].1).length : Int), .bool st.sp[i].2.2] .exact], ?_, rfl, hk.trans (Keep.app _ _ _)⟩
      unfold state_State_Keys.s1
      simp only [hd, r1, cond_true, Option.bind_some]
      refine (bind_to r2).trans ?_
      simp only [Option.bind_some, Option.map_some, cond_true, cond_false, List.append_assoc, List.cons_append, List.nil_append, List.length_append, List.length_cons, List.length_nil, Nat.zero_add, rd_t0, rd_t1, rdI_t0, rdI_t1, rdB_t0, rdB_t1, rdM_t0, rdM_t1, rd_c1, rdI_c1, rdB_c1, rdM_c1, rdI_c0, rdB_c0, rdM_c0, wr_t0, wr_t1, wr_c0, wr_c1, setL, List.set, List.getElem?_cons_zero, List.getElem?_cons_succ, un_i, un_b, un_m, un_s, Nat.le_refl, rd_iiib, rd_iiiiii, rd_ibm, rd_iii, rd_iib, rd_ii, rd_3312, rd_iiii, rd_si, rd_33121, rd_33121i, slRow_t0, slRow_t1, sl_c0, sl_c1]
      rw [wrap_succ (by omega), wrap_i64 (by omega) (by have : ns.sum = st.lv.length := hsum; omega)]
      rw [h1, h3]; rfl)
    (fun y G ⟨hy, hk⟩ => by
      subst hy
      have hd : decide ((st.sp.length : Int) < (s.len : Int)) = false := decide_eq_false (by rw [e3]; omega)
      refine ⟨_, G, ?_, rfl, hk⟩
      unfold state_State_Keys.s1
      simp only [hd, cond_false]
      rw [← hns, List.take_length, show ns.sum = st.lv.length from hsum]) (y := (0, 0, ())) (H := K) ⟨rfl, Keep.refl _ _⟩
  refine ⟨G, ?_, (e2.calm rfl).trans g2⟩
  rw [g1]; rfl
end
end Ev

namespace Ev
open Go (IntKind)

section
variable {α : Type} {H : Heap} {b : Nat} {f : Int → α → W} {l : List (Int × α)} {dc : Nat}
theorem mset_of (h : H[b]? = some (.mp (encA f l) dc)) (k : Int) (v : α) {w : W} (hw : w = f k v) : mset H (some b) k w = some (H.set b (.mp (encA f (ains l k v)) dc)) := by
  subst hw
  simp only [mset, Option.bind_some, mpAt_of h, mins_enc]
theorem mdel_of (h : H[b]? = some (.mp (encA f l) dc)) (k : Int) : mdel H (some b) k = some (H.set b (.mp (encA f (adrop l k)) (dc + 1))) := by
  simp only [mdel, mpAt_of h, Option.bind_some, mdrop_enc]
end
theorem new_st (H : Heap) : ∃ a, state_New H = some ((some (H.length + 4, 0), ()), H ++ [.mp [] 0, .mp [] 0, .mp [] 0, .mp [] 0, .cells [.mp (some H.length), .mp (some (H.length + 1)), .mp (some (H.length + 2)), .mp (some (H.length + 3))] .exact]) ∧ a.c = H.length + 4 ∧
    StAt (H ++ [.mp [] 0, .mp [] 0, .mp [] 0, .mp [] 0, .cells [.mp (some H.length), .mp (some (H.length + 1)), .mp (some (H.length + 2)), .mp (some (H.length + 3))] .exact]) a ⟨[], [], [], []⟩ ∧ ∀ b, a.fp ⟨[], [], [], []⟩ b → H.length ≤ b := by
  refine ⟨⟨H.length + 4, H.length, H.length + 1, H.length + 2, H.length + 3, fun _ => 0⟩, ?_, rfl, ?_, ?_⟩
  · unfold state_New
    simp only [List.append_assoc, List.cons_append, List.nil_append, List.length_append, List.length_cons, List.length_nil, Nat.zero_add]
  · refine ⟨⟨Asc.nil, Asc.nil, Asc.nil, Asc.nil, fun x hx => absurd hx List.not_mem_nil, fun x hx => absurd hx List.not_mem_nil, fun x hx => absurd hx List.not_mem_nil, fun x hx => absurd hx List.not_mem_nil⟩, ?_, ⟨0, ?_⟩, fun id x hx => (by cases hx), ⟨0, ?_⟩, ⟨0, ?_⟩, ⟨0, ?_⟩, ?_, fun id x hx => (by cases hx), fun id x id' x' hx => (by cases hx)⟩
    · rw [tl_get1]; rfl
    · rw [tl_get0]; rfl
    · rw [tl_get1]; rfl
    · rw [tl_get1]; rfl
    · rw [tl_get1]; rfl
    · simp only; omega
  · rintro b (rfl | rfl | rfl | rfl | rfl | ⟨id, x, hx, _⟩)
    · simp only; omega
    · exact Nat.le_refl _
    · simp only; omega
    · simp only; omega
    · simp only; omega
    · cases hx

/-- What point does once the page is free. -/
def pointT (x0 : Ptr) (xb : Nat) (x2 x3 : Int) (G : Heap) : Option (Unit × Heap) :=
 cond (decide (0 ≤ x3)) (
 (rdM G xb 2).bind fun (v19 : Option Nat) =>
 (mset G v19 x2 (.one (.int .i64 x3))).bind fun (H20 : Heap) =>
 (x0).bind fun (a21 : Nat × Nat) =>
 (rdM H20 a21.1 (a21.2 + 1)).bind fun (v22 : Option Nat) =>
 Option.bind (α := (Int × Bool)) (mget H20 (.one (.int .i64)) (.one (.int .i64 0)) v22 x3) fun (v23 : (Int × Bool)) =>
 (mset H20 v22 x3 (.one (.int .i64 (IntKind.wrap .i64 (v23.1 + 1))))).bind fun (H24 : Heap) =>
 some ((()), H24)) (
 some ((()), G))
section
variable {H : Heap} {c rfb pgb dr dp : Nat} {sp bd wn : Option Nat} {P rf : List (Int × Int)} {q : Int} {s : Bool} {p x3 v : Int}
theorem point_none (hp : H[pgb]? = some (.mp (encA inW P) dp)) (hv : afind P p = none) :
    state_State_point (some (c, 0)) (q, s, some pgb, ()) p x3 H = pointT (some (c, 0)) H.length p x3 (H ++ [.cells [.int .i64 q, .bool s, .mp (some pgb)] .exact]) := by
  have hp1 : MpA (H ++ [.cells [.int .i64 q, .bool s, .mp (some pgb)] .exact]) pgb inW P := ⟨dp, by rw [app_lt (get_lt hp)]; exact hp⟩
  unfold state_State_point
  dsimp only
  refine (bind_to (v := ((), H ++ [Blk.cells [.int .i64 q, .bool s, .mp (some pgb)] .exact])) ?_).trans rfl
  simp only [rdM_t0, rdM_c0, List.getElem?_cons_succ, List.getElem?_cons_zero, Option.bind_some, un_m, hp1.int, hv, Option.isSome_none, cond_false]
/-- One less of what stood there. -/
def lessT (rf : List (Int × Int)) (v n : Int) : List (Int × Int) := if n = 0 then adrop (ains rf v n) v else ains rf v n
theorem point_some (hc : H[c]? = some (.cells [.mp sp, .mp (some rfb), .mp bd, .mp wn] .exact)) (hr : H[rfb]? = some (.mp (encA inW rf) dr)) (hp : H[pgb]? = some (.mp (encA inW P) dp)) (hne : rfb ≠ pgb) (has : Asc rf)
    {n : Int} (hv : afind P p = some v) (hn : (afind rf v).getD 0 = n + 1) (hn0 : 0 ≤ n ∧ n < 1000000) :
    state_State_point (some (c, 0)) (q, s, some pgb, ()) p x3 H = pointT (some (c, 0)) H.length p x3
      (((H ++ [Blk.cells [.int .i64 q, .bool s, .mp (some pgb)] .exact]).set rfb (.mp (encA inW (lessT rf v n)) (dr + if n = 0 then 1 else 0))).set pgb (.mp (encA inW (adrop P p)) (dp + 1))) := by
  have hcl := get_lt hc
  have hrl := get_lt hr
  have hpl := get_lt hp
  generalize hG : H ++ [Blk.cells [.int .i64 q, .bool s, .mp (some pgb)] .exact] = G
  have gc : G[c]? = some (.cells [.mp sp, .mp (some rfb), .mp bd, .mp wn] .exact) := by rw [← hG, app_lt hcl]; exact hc
  have gr : G[rfb]? = some (.mp (encA inW rf) dr) := by rw [← hG, app_lt hrl]; exact hr
  have gp : G[pgb]? = some (.mp (encA inW P) dp) := by rw [← hG, app_lt hpl]; exact hp
  have gx : G[H.length]? = some (.cells [.int .i64 q, .bool s, .mp (some pgb)] .exact) := by rw [← hG]; exact app_last
  have hcr : c ≠ rfb := fun e => by rw [e, hr] at hc; cases hc
  have hcp : c ≠ pgb := fun e => by rw [e, hp] at hc; cases hc
  have g7c : (G.set rfb (.mp (encA inW (ains rf v n)) dr))[c]? = some (.cells [.mp sp, .mp (some rfb), .mp bd, .mp wn] .exact) := by rw [set_get' (Ne.symm hcr)]; exact gc
  have g7r : (G.set rfb (.mp (encA inW (ains rf v n)) dr))[rfb]? = some (.mp (encA inW (ains rf v n)) dr) := set_get (get_lt gr)
  have g7p : (G.set rfb (.mp (encA inW (ains rf v n)) dr))[pgb]? = some (.mp (encA inW P) dp) := by rw [set_get' hne]; exact gp
  have g7x : (G.set rfb (.mp (encA inW (ains rf v n)) dr))[H.length]? = some (.cells [.int .i64 q, .bool s, .mp (some pgb)] .exact) := by rw [set_get' (by omega)]; exact gx
  have m7 : mget (G.set rfb (.mp (encA inW (ains rf v n)) dr)) (.one (.int .i64)) (.one (.int .i64 0)) (some rfb) v = some (n, true) := by
    rw [MpA.int ⟨_, g7r⟩, afind_ins has, if_pos rfl]; rfl
  unfold state_State_point
  dsimp only
  simp only [hG]
  refine (bind_to (v := ((), (G.set rfb (Blk.mp (encA inW (lessT rf v n)) (dr + if n = 0 then 1 else 0))).set pgb (Blk.mp (encA inW (adrop P p)) (dp + 1)))) ?_).trans rfl
  simp only [ rdM_of gx (o := 2) rfl, Option.bind_some, MpA.int ⟨_, gp⟩, hv, Option.isSome_some, Option.getD_some, cond_true, rdM_of gc (o := 0 + 1) rfl, MpA.int ⟨_, gr⟩, hn, Int.add_sub_cancel, wrap_i64 (show -9223372036854775808 ≤ n by omega) (show n ≤ 9223372036854775807 by omega), mset_of gr v n (w := .one (.int .i64 n)) rfl, rdM_of g7c (o := 0 + 1) rfl, m7]
  by_cases h0 : n = 0
  · have g13x : ((G.set rfb (.mp (encA inW (ains rf v n)) dr)).set rfb (.mp (encA inW (adrop (ains rf v n) v)) (dr + 1)))[H.length]? = some (.cells [.int .i64 q, .bool s, .mp (some pgb)] .exact) := by rw [set_get' (by omega)]; exact g7x
    have g13p : ((G.set rfb (.mp (encA inW (ains rf v n)) dr)).set rfb (.mp (encA inW (adrop (ains rf v n) v)) (dr + 1)))[pgb]? = some (.mp (encA inW P) dp) := by rw [set_get' hne]; exact g7p
    simp only [decide_eq_true h0, cond_true, mdel_of g7r, Option.bind_some, rdM_of g13x (o := 2) rfl, mdel_of g13p]
    rw [List.set_set]
    unfold lessT
    rw [if_pos h0, if_pos h0]
  · simp only [decide_eq_false h0, cond_false, Option.bind_some, rdM_of g7x (o := 2) rfl, mdel_of g7p]
    unfold lessT
    rw [if_neg h0, if_neg h0]; rfl
theorem pointT_neg {x0 : Ptr} {xb : Nat} {G : Heap} (h : x3 < 0) : pointT x0 xb p x3 G = some ((), G) := by
  unfold pointT
  rw [decide_eq_false (by omega)]; rfl
theorem pointT_pos {G : Heap} {xb : Nat} (hc : G[c]? = some (.cells [.mp sp, .mp (some rfb), .mp bd, .mp wn] .exact)) (hr : G[rfb]? = some (.mp (encA inW rf) dr)) (hp : G[pgb]? = some (.mp (encA inW P) dp)) (hne : rfb ≠ pgb)
    (hx : G[xb]? = some (.cells [.int .i64 q, .bool s, .mp (some pgb)] .exact)) {n : Int} (hn : (afind rf x3).getD 0 = n) (hn0 : 0 ≤ n ∧ n < 1000000) (h3 : 0 ≤ x3) :
    pointT (some (c, 0)) xb p x3 G = some ((), (G.set pgb (.mp (encA inW (ains P p x3)) dp)).set rfb (.mp (encA inW (ains rf x3 (n + 1))) dr)) := by
  have hcp : pgb ≠ c := fun e => by rw [← e, hp] at hc; cases hc
  have g1 : (G.set pgb (.mp (encA inW (ains P p x3)) dp))[c]? = some (.cells [.mp sp, .mp (some rfb), .mp bd, .mp wn] .exact) := by rw [set_get' hcp]; exact hc
  have g2 : (G.set pgb (.mp (encA inW (ains P p x3)) dp))[rfb]? = some (.mp (encA inW rf) dr) := by rw [set_get' (Ne.symm hne)]; exact hr
  unfold pointT
  simp only [decide_eq_true h3, cond_true, rdM_of hx (o := 2) rfl, Option.bind_some, mset_of hp p x3 (w := .one (.int .i64 x3)) rfl, rdM_of g1 (o := 0 + 1) rfl, MpA.int ⟨_, g2⟩, hn, wrap_i64 (show -9223372036854775808 ≤ n + 1 by omega) (show n + 1 ≤ 9223372036854775807 by omega), mset_of g2 x3 (n + 1) (w := .one (.int .i64 (n + 1))) rfl]
end
section
variable {H H' : Heap} {a : SaA} {st : Sta}
/-- Other pages. -/
theorem StAt.lvs (h : StAt H a st) {lv : List (Int × Int)} (w : SaW ⟨st.sp, lv, st.bd, st.wn⟩) {F : Nat → Prop} (k : Keep F H H') (hF : ∀ b, F b → b = a.rf ∨ ∃ id x, afind st.sp id = some x ∧ b = a.pg id)
    (hr : MpA H' a.rf inW (rfOf lv)) (hp : ∀ id x, afind st.sp id = some x → MpA H' (a.pg id) inW (pgs lv id)) : StAt H' a ⟨st.sp, lv, st.bd, st.wn⟩ := by
  have h1 := h.nd
  have key : ∀ b, b ≠ a.rf → (∀ id x, afind st.sp id = some x → a.pg id ≠ b) → ¬ F b := fun b hb hp hf => by
    rcases hF b hf with e | ⟨id, x, hx, e⟩
    · exact hb e
    · exact hp id x hx e.symm
  refine ⟨w, k.get h.c (key _ (fun e => mp_ne h.c h.rf e.symm) fun id x hx => mp_ne h.c (h.pg id x hx)), h.sp.keep k (key _ h1.1 fun id x hx => (h.pn id x hx).1), hp, hr,
    h.bd.keep k (key _ (by omega) fun id x hx => (h.pn id x hx).2.2.1), h.wn.keep k (key _ (by omega) fun id x hx => (h.pn id x hx).2.2.2), h1, h.pn, h.pi⟩
theorem SaW.key (w : SaW st) {id p : Int} {x : Int × Bool} (hx : afind st.sp id = some x) (hp : 0 ≤ p ∧ p < 1024) (v : Int) : SaW ⟨st.sp, ains st.lv (id * 1024 + p) v, st.bd, st.wn⟩ :=
  ⟨w.sp, w.lv.ins _ _, w.bd, w.wn, fun y hy => by
    rcases ains_mem hy with rfl | hy
    · show (afind st.sp ((id * 1024 + p) / 1024)).isSome = true
      rw [(key_div id p hp.1 hp.2).1, hx]; rfl
    · exact w.own y hy, w.ids, w.bds, w.wns⟩
theorem SaW.less (w : SaW st) (k : Int) : SaW ⟨st.sp, adrop st.lv k, st.bd, st.wn⟩ :=
  ⟨w.sp, w.lv.drop _, w.bd, w.wn, fun y hy => w.own y ((adrop_sub _ _).subset hy), w.ids, w.bds, w.wns⟩
theorem lessT_eq {lv : List (Int × Int)} {k v : Int} (hv : afind lv k = some v) : lessT (rfOf lv) v (cnt (adrop lv k) v : Int) = rfOf (adrop lv k) := by
  have := (rfOf_ok lv).less (lv' := adrop lv k) (v := v) (cnt_drop hv)
  rw [← this.uniq (rfOf_ok _)]
  unfold lessT
  by_cases h0 : cnt (adrop lv k) v = 0
  · rw [if_pos h0, if_pos (by omega)]
  · rw [if_neg h0, if_neg (by omega)]
theorem moreT_eq {lv : List (Int × Int)} (h : Asc lv) {k v : Int} (hn : afind lv k = none) : ains (rfOf lv) v ((cnt lv v : Int) + 1) = rfOf (ains lv k v) :=
  ((rfOf_ok lv).more (cnt_ins h hn v)).uniq (rfOf_ok _)
theorem set2_keep (H : Heap) (b1 b2 : Nat) (x1 x2 : Blk) : Keep (fun b => b = b1 ∨ b = b2) H ((H.set b1 x1).set b2 x2) := (Keep.set _ _ _ (.inl rfl)).trans (Keep.set _ _ _ (.inr rfl))
/-- A page away. -/
theorem st_drop (h : StAt H a st) {id p : Int} {x : Int × Bool} (hx : afind st.sp id = some x) (hp : 0 ≤ p ∧ p < 1024) (x3 q : Int) (s : Bool) :
    ∃ G, state_State_point (some (a.c, 0)) (q, s, some (a.pg id), ()) p x3 H = pointT (some (a.c, 0)) H.length p x3 G ∧ StAt G a ⟨st.sp, adrop st.lv (id * 1024 + p), st.bd, st.wn⟩ ∧ Keep (fun b => b = a.rf ∨ b = a.pg id) H G ∧ G[H.length]? = some (.cells [.int .i64 q, .bool s, .mp (some (a.pg id))] .exact) := by
  obtain ⟨dp, hP⟩ := h.pg id x hx
  obtain ⟨dr, hR⟩ := h.rf
  have hl := h.pg id x hx |>.lt
  have hrl := h.rf.lt
  have hne : a.rf ≠ a.pg id := (h.pn id x hx).2.1.symm
  cases hv : afind (pgs st.lv id) p with
  | none =>
    have hv' : afind st.lv (id * 1024 + p) = none := by rw [pgs_find h.w.lv, if_pos hp] at hv; exact hv
    refine ⟨_, point_none hP hv, ?_, Keep.push _ _ _, app_last⟩
    rw [adrop_none hv']
    exact h.push _
  | some v =>
    have hv' : afind st.lv (id * 1024 + p) = some v := by rw [pgs_find h.w.lv, if_pos hp] at hv; exact hv
    have hc := cnt_drop hv' v
    rw [if_pos rfl] at hc
    have hcc := h.w.cnts v
    refine ⟨_, point_some (n := (cnt (adrop st.lv (id * 1024 + p)) v : Int)) h.c hR hP hne (rfOf_ok _).asc hv (by rw [(rfOf_ok _).get, ← hc]; rfl) ⟨by omega, by omega⟩, ?_, ?_, ?_⟩
    · refine (h.push _).lvs (h.w.less _) (set2_keep _ _ _ _ _) (fun b hb => hb.imp_right fun e => ⟨id, x, hx, e⟩) ⟨dr + (if (cnt (adrop st.lv (id * 1024 + p)) v : Int) = 0 then 1 else 0), ?_⟩ fun id' x' hx' => ?_
      · rw [set_get' hne.symm, set_get (by simp; omega), lessT_eq hv']
      · by_cases e : id' = id
        · subst e
          refine ⟨dp + 1, ?_⟩
          rw [set_get (by simp; omega), pgs_drop h.w.lv _ _ hp, if_pos rfl]
        · obtain ⟨d', h'⟩ := h.pg id' x' hx'
          refine ⟨d', ?_⟩
          rw [set_get' (fun ee => e (h.pi _ _ _ _ hx' hx ee.symm)), set_get' (h.pn id' x' hx').2.1.symm, app_lt (get_lt h'), pgs_drop h.w.lv _ _ hp, if_neg e]
          exact h'
    · exact (Keep.push _ _ _).trans (set2_keep _ _ _ _ _)
    · rw [set_get' (by omega), set_get' (by omega)]; exact app_last
theorem st_unpoint (h : StAt H a st) {id p : Int} {x : Int × Bool} (hx : afind st.sp id = some x) (hp : 0 ≤ p ∧ p < 1024) {x3 : Int} (h3 : x3 < 0) (q : Int) (s : Bool) :
    ∃ G, state_State_point (some (a.c, 0)) (q, s, some (a.pg id), ()) p x3 H = some ((), G) ∧ StAt G a ⟨st.sp, adrop st.lv (id * 1024 + p), st.bd, st.wn⟩ ∧ Keep (fun b => b = a.rf ∨ b = a.pg id) H G := by
  obtain ⟨G, g1, g2, g3, _⟩ := st_drop h hx hp x3 q s
  exact ⟨G, by rw [g1, pointT_neg h3], g2, g3⟩
theorem st_point (h : StAt H a st) {id p : Int} {x : Int × Bool} (hx : afind st.sp id = some x) (hp : 0 ≤ p ∧ p < 1024) {x3 : Int} (h3 : 0 ≤ x3) (q : Int) (s : Bool) :
    ∃ G, state_State_point (some (a.c, 0)) (q, s, some (a.pg id), ()) p x3 H = some ((), G) ∧ StAt G a ⟨st.sp, ains st.lv (id * 1024 + p) x3, st.bd, st.wn⟩ ∧ Keep (fun b => b = a.rf ∨ b = a.pg id) H G := by
  obtain ⟨G, g1, g2, g3, g4⟩ := st_drop h hx hp x3 q s
  obtain ⟨dp, hP⟩ := g2.pg id x hx
  obtain ⟨dr, hR⟩ := g2.rf
  have hne : a.rf ≠ a.pg id := (h.pn id x hx).2.1.symm
  have hasc := h.w.lv.drop (id * 1024 + p)
  have hnone : afind (adrop st.lv (id * 1024 + p)) (id * 1024 + p) = none := by rw [afind_drop h.w.lv, if_pos rfl]
  have hcc := g2.w.cnts x3
  refine ⟨_, by rw [g1, pointT_pos g2.c hR hP hne g4 ((rfOf_ok _).get x3) ⟨by omega, by omega⟩ h3], ?_, g3.trans ((Keep.set _ _ _ (.inr rfl)).trans (Keep.set _ _ _ (.inl rfl)))⟩
  rw [← ains_drop h.w.lv (id * 1024 + p) x3]
  have w' := g2.w.key hx hp x3
  refine g2.lvs w' (set2_keep _ _ _ _ _) (fun b hb => hb.symm.imp_right fun e => ⟨id, x, hx, e⟩) ⟨dr, ?_⟩ fun id' x' hx' => ?_
  · rw [set_get (by simp; exact get_lt hR), moreT_eq hasc hnone]
  · by_cases e : id' = id
    · subst e
      refine ⟨dp, ?_⟩
      rw [set_get' hne, set_get (get_lt hP), pgs_ins hasc _ _ _ hp, if_pos rfl]
    · obtain ⟨d', h'⟩ := g2.pg id' x' hx'
      refine ⟨d', ?_⟩
      rw [set_get' (h.pn id' x' hx').2.1.symm, set_get' (fun ee => e (h.pi _ _ _ _ hx' hx ee.symm)), pgs_ins hasc _ _ _ hp, if_neg e]
      exact h'
end
end Ev

namespace Ev
open Go (IntKind)

/-! Plain: many keys away; many keys in. -/
def dropAll (id : Int) (lv : List (Int × Int)) (l : List Int) : List (Int × Int) := l.foldl (fun lv p => adrop lv (id * 1024 + p)) lv
theorem dropAll_snoc (id : Int) (lv : List (Int × Int)) (l : List Int) (k : Int) : dropAll id lv (l ++ [k]) = adrop (dropAll id lv l) (id * 1024 + k) := by unfold dropAll; rw [List.foldl_append]; rfl
theorem dropAll_asc {id : Int} : ∀ {l : List Int} {lv : List (Int × Int)}, Asc lv → Asc (dropAll id lv l)
  | [], _, h => h
  | p :: l, lv, h => dropAll_asc (l := l) (lv := adrop lv (id * 1024 + p)) (h.drop _)
theorem dropAll_find {id : Int} (j : Int) : ∀ {l : List Int} {lv : List (Int × Int)}, Asc lv → afind (dropAll id lv l) j = if j - id * 1024 ∈ l then none else afind lv j
  | [], lv, _ => by rw [if_neg List.not_mem_nil]; rfl
  | p :: l, lv, h => by
    show afind (dropAll id (adrop lv (id * 1024 + p)) l) j = _
    rw [dropAll_find j (h.drop _), afind_drop h]
    by_cases e : j - id * 1024 ∈ l
    · rw [if_pos e, if_pos (List.mem_cons_of_mem _ e)]
    · rw [if_neg e]
      by_cases e2 : j = id * 1024 + p
      · rw [if_pos e2, if_pos (List.mem_cons.2 (.inl (by omega)))]
      · rw [if_neg e2, if_neg (fun hh => (List.mem_cons.1 hh).elim (fun h => e2 (by omega)) e)]
theorem dropAll_perm {id : Int} {l l' : List Int} {lv : List (Int × Int)} (h : Asc lv) (hp : l.Perm l') : dropAll id lv l = dropAll id lv l' :=
  asc_ext (dropAll_asc h) (dropAll_asc h) fun j => by
    rw [dropAll_find j h, dropAll_find j h]
    by_cases e : j - id * 1024 ∈ l
    · rw [if_pos e, if_pos (hp.subset e)]
    · rw [if_neg e, if_neg (fun hh => e (hp.symm.subset hh))]
theorem dropAll_pgs {id : Int} {lv : List (Int × Int)} (h : Asc lv) {l : List Int} {k : Int} (hk : k ∉ l) (hb : ∀ x ∈ l, 0 ≤ x ∧ x < 1024) : afind (pgs (dropAll id lv l) id) k = afind (pgs lv id) k := by
  have hf : afind (dropAll id lv l) (id * 1024 + k) = afind lv (id * 1024 + k) := by rw [dropAll_find _ h, if_neg (by rwa [show id * 1024 + k - id * 1024 = k by omega])]
  rw [pgs_find (dropAll_asc h), pgs_find h, hf]
theorem dropAll_other {id id' : Int} {lv : List (Int × Int)} (h : Asc lv) {l : List Int} (hb : ∀ x ∈ l, 0 ≤ x ∧ x < 1024) (hne : id' ≠ id) : pgs (dropAll id lv l) id' = pgs lv id' :=
  asc_ext (pgs_asc (dropAll_asc h) _) (pgs_asc h _) fun k => by
    rw [pgs_find (dropAll_asc h), pgs_find h]
    by_cases e : 0 ≤ k ∧ k < 1024
    · rw [if_pos e, if_pos e, dropAll_find _ h, if_neg fun hh => by have := hb _ hh; omega]
    · rw [if_neg e, if_neg e]
/-- Without a space. -/
def lvOff (lv : List (Int × Int)) (id : Int) : List (Int × Int) := lv.filter fun x => !decide (x.1 / 1024 = id)
theorem lvOff_asc {lv : List (Int × Int)} (h : Asc lv) (id : Int) : Asc (lvOff lv id) := h.sub List.filter_sublist
theorem dropAll_keys {id : Int} {lv : List (Int × Int)} (h : Asc lv) : dropAll id lv ((pgs lv id).map Prod.fst) = lvOff lv id :=
  asc_ext (dropAll_asc h) (lvOff_asc h id) fun j => by
    rw [dropAll_find j h]
    have hm : j - id * 1024 ∈ (pgs lv id).map Prod.fst ↔ j / 1024 = id ∧ (afind lv j).isSome = true := by
      rw [← afind_isSome, pgs_find h]
      by_cases e : 0 ≤ j - id * 1024 ∧ j - id * 1024 < 1024
      · rw [if_pos e, show id * 1024 + (j - id * 1024) = j by omega]
        exact ⟨fun hh => ⟨by omega, hh⟩, fun hh => hh.2⟩
      · rw [if_neg e]
        exact ⟨fun hh => (by cases hh), fun hh => absurd hh.1 (by omega)⟩
    cases hj : afind lv j with
    | none =>
      rw [hj] at hm
      rw [if_neg (fun hh => by have := (hm.1 hh).2; cases this)]
      refine (afind_none fun x hx e => ?_).symm
      have := h.find (List.mem_filter.1 hx).1
      rw [e, hj] at this; cases this
    | some v =>
      rw [hj] at hm
      by_cases e : j / 1024 = id
      · rw [if_pos (hm.2 ⟨e, rfl⟩)]
        refine (afind_none fun x hx e2 => ?_).symm
        have := (List.mem_filter.1 hx).2
        rw [e2] at this
        simp [e] at this
      · rw [if_neg (fun hh => e (hm.1 hh).1)]
        exact ((lvOff_asc h id).find (List.mem_filter.2 ⟨afind_mem hj, by simp [e]⟩)).symm
theorem rf_length_less {lv : List (Int × Int)} {k v : Int} (hv : afind lv k = some v) : (rfOf (adrop lv k)).length + (if (cnt (adrop lv k) v : Int) = 0 then 1 else 0) = (rfOf lv).length := by
  have hs : (afind (rfOf lv) v).isSome = true := by rw [(rfOf_ok lv).find, if_neg (by have := cnt_pos hv; omega)]; rfl
  rw [← lessT_eq hv]
  unfold lessT
  have h1 := ains_length (l := rfOf lv) (k := v) (v := (cnt (adrop lv k) v : Int)) (rfOf_ok lv).asc
  rw [if_pos hs] at h1
  by_cases h0 : (cnt (adrop lv k) v : Int) = 0
  · rw [if_pos h0, if_pos h0]
    have h2 := adrop_length (l := ains (rfOf lv) v (cnt (adrop lv k) v : Int)) (k := v)
    rw [afind_ins (rfOf_ok lv).asc, if_pos rfl] at h2
    simp only [Option.isSome_some, if_true] at h2
    omega
  · rw [if_neg h0, if_neg h0]; omega
theorem rf_length_le (id : Int) : ∀ {l : List Int} {lv : List (Int × Int)}, (rfOf (dropAll id lv l)).length ≤ (rfOf lv).length
  | [], _ => Nat.le_refl _
  | p :: l, lv => by
    show (rfOf (dropAll id (adrop lv (id * 1024 + p)) l)).length ≤ _
    refine Nat.le_trans (rf_length_le id) ?_
    cases hv : afind lv (id * 1024 + p) with
    | none => rw [adrop_none hv]; exact Nat.le_refl _
    | some v => have := rf_length_less hv; omega
theorem set_same {H : Heap} {b : Nat} {x : Blk} (h : H[b]? = some x) : H.set b x = H := by
  apply List.ext_getElem?
  intro j
  by_cases e : b = j
  · subst e; rw [set_get (get_lt h), h]
  · rw [set_get' e]
theorem keys_nodup {α : Type} {l : List (Int × α)} (h : Asc l) : (l.map Prod.fst).Nodup := by
  unfold Asc at h
  exact (List.pairwise_map.2 (h.imp fun hlt => by omega))
section
variable {H H0 H1 : Heap} {a : SaA} {st : Sta}
theorem drop_loop (h : StAt H0 a st) {id : Int} {x : Int × Bool} (hx : afind st.sp id = some x) {q : Int} {s : Bool} {cl : Nat} {r44 : (Option Nat × Unit) × Heap} (hr44 : r44.1.1 = some cl)
    (hb : H0[H1.length]? = some (.cells [.int .i64 q, .bool s, .mp (some (a.pg id))] .exact)) (hcl : H0[cl]? = some (.mp (encA inW (pgs st.lv id)) 0)) (hc1 : cl ≠ a.rf) (hc2 : cl ≠ a.pg id) :
    ∃ G, eachW (state_State_apply.s1 (some (a.c, 0)) H1 r44) (some cl) () H0 = some ((), G) ∧ StAt G a ⟨st.sp, lvOff st.lv id, st.bd, st.wn⟩ ∧ Keep (fun b => b = a.rf ∨ b = a.pg id) H0 G := by
  obtain ⟨dp, hP⟩ := h.pg id x hx
  obtain ⟨dr, hR⟩ := h.rf
  have hne : a.rf ≠ a.pg id := (h.pn id x hx).2.1.symm
  have hl1 := get_lt hR
  have hl2 := get_lt hP
  have hcl' := get_lt hcl
  have hbl := get_lt hb
  have hcc := get_lt h.c
  have hcr : a.c ≠ a.rf := fun e => by have := h.c; rw [e, hR] at this; cases this
  have hcp : a.c ≠ a.pg id := fun e => by have := h.c; rw [e, hP] at this; cases this
  have hbr : H1.length ≠ a.rf := fun e => by rw [e, hR] at hb; cases hb
  have hbp : H1.length ≠ a.pg id := fun e => by rw [e, hP] at hb; cases hb
  have hpb : ∀ y ∈ (pgs st.lv id).map Prod.fst, 0 ≤ y ∧ y < 1024 := fun y hy => by
    obtain ⟨z, hz, rfl⟩ := List.mem_map.1 hy
    have := pgs_mem hz
    exact ⟨this.1, this.2.1⟩
  have hlen : (pgs st.lv id).length ≤ 1024 := h.w.pgl id
  let F : List Int → Heap := fun l => ((H0.set a.rf (.mp (encA inW (rfOf (dropAll id st.lv l))) (dr + ((rfOf st.lv).length - (rfOf (dropAll id st.lv l)).length)))).set (a.pg id) (.mp (encA inW (pgs (dropAll id st.lv l) id)) (dp + l.length))) ++ List.replicate l.length (.cells [.int .i64 q, .bool s, .mp (some (a.pg id))] .exact)
  have hF : ∀ l, F l = ((H0.set a.rf (.mp (encA inW (rfOf (dropAll id st.lv l))) (dr + ((rfOf st.lv).length - (rfOf (dropAll id st.lv l)).length)))).set (a.pg id) (.mp (encA inW (pgs (dropAll id st.lv l) id)) (dp + l.length))) ++ List.replicate l.length (.cells [.int .i64 q, .bool s, .mp (some (a.pg id))] .exact) := fun _ => rfl
  have get : ∀ l b, b < H0.length → b ≠ a.rf → b ≠ a.pg id → (F l)[b]? = H0[b]? := fun l b hb h1 h2 => by
    rw [hF, List.getElem?_append_left (by simpa using hb), set_get' (Ne.symm h2), set_get' (Ne.symm h1)]
  have getr : ∀ l, (F l)[a.rf]? = some (.mp (encA inW (rfOf (dropAll id st.lv l))) (dr + ((rfOf st.lv).length - (rfOf (dropAll id st.lv l)).length))) := fun l => by
    rw [hF, List.getElem?_append_left (by simpa using hl1), set_get' hne.symm, set_get hl1]
  have getp : ∀ l, (F l)[a.pg id]? = some (.mp (encA inW (pgs (dropAll id st.lv l) id)) (dp + l.length)) := fun l => by
    rw [hF, List.getElem?_append_left (by simpa using hl2), set_get (by simpa using hl2)]
  have hF0 : F [] = H0 := by
    rw [hF]
    show ((H0.set a.rf (.mp (encA inW (rfOf st.lv)) (dr + ((rfOf st.lv).length - (rfOf st.lv).length)))).set (a.pg id) (.mp (encA inW (pgs st.lv id)) (dp + 0))) ++ [] = H0
    rw [Nat.sub_self, Nat.add_zero, Nat.add_zero, set_same hR, set_same hP, List.append_nil]
  have hcm : MpA H0 cl inW (pgs st.lv id) := ⟨0, hcl⟩
  obtain ⟨dc, hhd⟩ := hcm.head
  have hperm : ∀ l : List Int, l.Perm ((pgs st.lv id).map Prod.fst) → F l = F ((pgs st.lv id).map Prod.fst) := fun l hl => by
    rw [hF, hF, dropAll_perm h.w.lv hl, hl.length_eq]
  refine ⟨F ((pgs st.lv id).map Prod.fst), ?_, ?_, ?_⟩
  · refine eachW_of (ks := (pgs st.lv id).map Prod.fst) hcm.keys hhd (keys_nodup (pgs_asc h.w.lv id)) (fun _ => ()) F rfl hF0 (fun l k hl hn hk hkl => ?_) (fun l hl => ⟨rfl, by rw [hperm l hl]; exact Alike.refl _ _⟩)
    have hkb := hpb k hk
    have hlb : ∀ y ∈ l, 0 ≤ y ∧ y < 1024 := fun y hy => hpb y (hl y hy)
    obtain ⟨v, hv⟩ := Option.isSome_iff_exists.1 (afind_isSome.2 hk)
    have hv1 : afind (pgs (dropAll id st.lv l) id) k = some v := by rw [dropAll_pgs h.w.lv hkl hlb]; exact hv
    have hasl := dropAll_asc (id := id) (l := l) h.w.lv
    have hv2 : afind (dropAll id st.lv l) (id * 1024 + k) = some v := by rw [pgs_find hasl, if_pos hkb] at hv1; exact hv1
    have hcnt := cnt_drop hv2 v
    rw [if_pos rfl, ← dropAll_snoc] at hcnt
    have hmany : cnt (dropAll id st.lv l) v ≤ 15360 := Nat.le_trans (cnt_le _ _) (asc_bound (a := 1024) hasl fun y hy => by
      have := dropAll_find (id := id) (l := l) y.1 h.w.lv
      rw [hasl.find hy] at this
      split at this
      · cases this
      · exact h.w.lvs _ (afind_mem this.symm))
    have hrl := rf_length_less hv2
    rw [← dropAll_snoc] at hrl
    have hrle := rf_length_le id (l := l) (lv := st.lv)
    have hm1 : mat (F l) (.one (.int .i64)) (some cl) k = some v := by
      have hcF : MpA (F l) cl inW (pgs st.lv id) := ⟨0, by rw [get l cl hcl' hc1 hc2]; exact hcl⟩
      exact hcF.mat (.one (.int .i64)) k (by rw [hv]; rfl)
    have hm2 : rd (F l) (.agg [.int .i64, .bool, .mp]) H1.length 0 = (some (q, s, some (a.pg id), ()) : Option (Int × Bool × Option Nat × Unit)) := rd_agg_of (by rw [get l _ hbl hbr hbp]; exact hb) (by simp) rfl
    have hm3 := point_some (x3 := -1) (q := q) (s := s) (by rw [get l _ hcc hcr hcp]; exact h.c) (getr l) (getp l) hne (rfOf_ok _).asc (n := (cnt (dropAll id st.lv (l ++ [k])) v : Int)) hv1 (by rw [(rfOf_ok _).get]; omega) ⟨by omega, by omega⟩
    rw [pointT_neg (by decide)] at hm3
    refine ⟨?_, ?_⟩
    · unfold state_State_apply.s1
      simp only [hr44, hm1, Option.bind_some]
      refine (bind_to hm2).trans ?_
      refine (bind_to hm3).trans ?_
      refine congrArg (fun G => some ((), G)) ?_
      have e1 : dr + ((rfOf st.lv).length - (rfOf (dropAll id st.lv l)).length) + (if (cnt (adrop (dropAll id st.lv l) (id * 1024 + k)) v : Int) = 0 then 1 else 0) = dr + ((rfOf st.lv).length - (rfOf (adrop (dropAll id st.lv l) (id * 1024 + k))).length) := by
        rw [dropAll_snoc] at hrl
        omega
      have e2 : (l ++ [k]).length = l.length + 1 := by simp
      show ((F l ++ [_]).set a.rf _).set (a.pg id) _ = F (l ++ [k])
      rw [dropAll_snoc, lessT_eq hv2, hF, hF, List.append_assoc, List.set_append_left _ _ (by simpa using hl1), List.set_append_left _ _ (by simpa using hl2), dropAll_snoc, pgs_drop hasl _ _ hkb, if_pos rfl,
        List.set_comm _ _ hne.symm, List.set_set, List.set_set, e1, e2, List.replicate_succ', ← Nat.add_assoc]
    · rw [← hhd]
      have : (F (l ++ [k])).mpAt cl = H0.mpAt cl := by
        unfold Heap.mpAt; rw [get _ cl hcl' hc1 hc2]
      simp only [mhead, Option.bind_some, this]
  · have w' : SaW ⟨st.sp, lvOff st.lv id, st.bd, st.wn⟩ := ⟨h.w.sp, lvOff_asc h.w.lv id, h.w.bd, h.w.wn, fun y hy => h.w.own y (List.mem_filter.1 hy).1, h.w.ids, h.w.bds, h.w.wns⟩
    have hk : Keep (fun b => b = a.rf ∨ b = a.pg id) H0 (F ((pgs st.lv id).map Prod.fst)) := ⟨by rw [hF]; simp, fun b hb hf => get _ b hb (fun e => hf (.inl e)) (fun e => hf (.inr e))⟩
    refine h.lvs w' hk (fun b hb => hb.imp_right fun e => ⟨id, x, hx, e⟩) ⟨_, by rw [← dropAll_keys h.w.lv]; exact getr _⟩ fun id' x' hx' => ?_
    rw [← dropAll_keys h.w.lv]
    by_cases e : id' = id
    · subst e; exact ⟨_, getp _⟩
    · rw [dropAll_other h.w.lv hpb e]
      exact (h.pg id' x' hx').keep hk fun hb => hb.elim (fun e2 => (h.pn id' x' hx').2.1 e2) fun e2 => e (h.pi _ _ _ _ hx' hx e2)
  · exact ⟨by rw [hF]; simp, fun b hb hf => get _ b hb (fun e => hf (.inl e)) (fun e => hf (.inr e))⟩
end
end Ev

namespace Ev
open Go (IntKind)

theorem cnt_append (A B : List (Int × Int)) (c : Int) : cnt (A ++ B) c = cnt A c + cnt B c := by unfold cnt; rw [List.filter_append, List.length_append]
theorem cnt_perm {A B : List (Int × Int)} (h : A.Perm B) (c : Int) : cnt A c = cnt B c := (h.filter _).length_eq
theorem nodup_len : ∀ {l ks : List Int}, l.Nodup → (∀ x ∈ l, x ∈ ks) → l.length ≤ ks.length
  | [], _, _, _ => Nat.zero_le _
  | x :: l, ks, hn, h => by
    rw [List.nodup_cons] at hn
    have hx := h x (by simp)
    have := nodup_len (l := l) (ks := ks.erase x) hn.2 fun y hy => (List.mem_erase_of_ne (fun e => hn.1 (by rw [← e]; exact hy))).2 (h y (by simp [hy]))
    rw [List.length_erase_of_mem hx] at this
    have h0 : 0 < ks.length := List.length_pos_of_mem hx
    rw [List.length_cons]; omega
/-- Another's pages in. -/
def insAll (id : Int) (lv : List (Int × Int)) (P : List (Int × Int)) : List (Int × Int) := P.foldl (fun lv x => ains lv (id * 1024 + x.1) x.2) lv
theorem insAll_asc {id : Int} : ∀ {P lv : List (Int × Int)}, Asc lv → Asc (insAll id lv P)
  | [], _, h => h
  | x :: P, lv, h => insAll_asc (P := P) (lv := ains lv (id * 1024 + x.1) x.2) (h.ins _ _)
theorem insAll_find {id : Int} (j : Int) : ∀ {P lv : List (Int × Int)}, Asc lv → Asc P → afind (insAll id lv P) j = (afind P (j - id * 1024)).or (afind lv j)
  | [], lv, _, _ => rfl
  | x :: P, lv, h, hP => by
    show afind (insAll id (ains lv (id * 1024 + x.1) x.2) P) j = _
    rw [insAll_find j (h.ins _ _) hP.tail, afind_ins h]
    show _ = (if x.1 = j - id * 1024 then some x.2 else afind P (j - id * 1024)).or (afind lv j)
    by_cases e : j = id * 1024 + x.1
    · rw [if_pos e, if_pos (by omega), afind_none fun y hy => by have := hP.head hy; omega]; rfl
    · rw [if_neg e, if_neg (by omega)]
theorem insAll_cnt {id : Int} (c : Int) : ∀ {P lv : List (Int × Int)}, Asc lv → Asc P → (∀ x ∈ P, afind lv (id * 1024 + x.1) = none) → cnt (insAll id lv P) c = cnt P c + cnt lv c
  | [], lv, _, _, _ => by rw [cnt_nil, Nat.zero_add]; rfl
  | x :: P, lv, h, hP, hn => by
    show cnt (insAll id (ains lv (id * 1024 + x.1) x.2) P) c = _
    rw [insAll_cnt c (h.ins _ _) hP.tail fun y hy => by
      have := hP.head hy
      rw [afind_ins h, if_neg (by omega)]
      exact hn y (by simp [hy]), cnt_ins h (hn x (by simp)), cnt_cons]
    omega
section
variable {H H0 : Heap} {a : SaA} {st : Sta}
theorem free_keys (w : SaW st) {id : Int} (hn : afind st.sp id = none) {p : Int} (hp : 0 ≤ p ∧ p < 1024) : afind st.lv (id * 1024 + p) = none := by
  have := pgs_find w.lv id p
  rw [pgs_none w hn, if_pos hp] at this
  exact this.symm
theorem open_loop (h : StAt H0 a st) {P : List (Int × Int)} (hP : Asc P) (hpl : P.length ≤ 1024) {cl : Nat} (hcl : H0[cl]? = some (.mp (encA inW P) 0)) (hc1 : cl ≠ a.rf) :
    ∃ G dr, eachW (state_State_open.s1 (some (a.c, 0)) (some cl)) (some cl) () H0 = some ((), G) ∧ G = H0.set a.rf (.mp (encA inW (rfOf (P ++ st.lv))) dr) := by
  obtain ⟨dr, hR⟩ := h.rf
  have hl1 := get_lt hR
  have hcr : a.c ≠ a.rf := fun e => by have := h.c; rw [e, hR] at this; cases this
  let w : List Int → List (Int × Int) := fun l => l.map fun k => (k, (afind P k).getD 0)
  let F : List Int → Heap := fun l => H0.set a.rf (.mp (encA inW (rfOf (w l ++ st.lv))) dr)
  have hF : ∀ l, F l = H0.set a.rf (.mp (encA inW (rfOf (w l ++ st.lv))) dr) := fun _ => rfl
  have hwP : w (P.map Prod.fst) = P := by
    show (P.map Prod.fst).map _ = P
    rw [List.map_map]
    refine (List.map_congr_left fun x hx => ?_).trans (List.map_id P)
    show (x.1, (afind P x.1).getD 0) = x
    rw [hP.find (k := x.1) (v := x.2) hx]; rfl
  have hcm : MpA H0 cl inW P := ⟨0, hcl⟩
  obtain ⟨dc, hhd⟩ := hcm.head
  have hperm : ∀ l : List Int, l.Perm (P.map Prod.fst) → F l = F (P.map Prod.fst) := fun l hl => by
    rw [hF, hF, (rfOf_ok (w l ++ st.lv)).uniq (rf' := rfOf (w (P.map Prod.fst) ++ st.lv)) ⟨(rfOf_ok _).asc, fun c => by rw [(rfOf_ok _).find, cnt_append, cnt_append, cnt_perm (hl.map _) c]⟩]
  refine ⟨F (P.map Prod.fst), dr, ?_, by rw [hF, hwP]⟩
  refine eachW_of (ks := P.map Prod.fst) hcm.keys hhd (keys_nodup hP) (fun _ => ()) F rfl (by rw [hF]; exact set_same hR) (fun l k hl hn hk hkl => ?_) (fun l hl => ⟨rfl, by rw [hperm l hl]; exact Alike.refl _ _⟩)
  obtain ⟨v, hv⟩ := Option.isSome_iff_exists.1 (afind_isSome.2 hk)
  have hm1 : mat (F l) (.one (.int .i64)) (some cl) k = some v := by
    have hcF : MpA (F l) cl inW P := ⟨0, by rw [hF, set_get' (Ne.symm hc1)]; exact hcl⟩
    exact hcF.mat (.one (.int .i64)) k (by rw [hv]; rfl)
  have hcF : (F l)[a.c]? = some (.cells [.mp (some a.sp), .mp (some a.rf), .mp (some a.bd), .mp (some a.wn)] .exact) := by rw [hF, set_get' (Ne.symm hcr)]; exact h.c
  have hrF : (F l)[a.rf]? = some (.mp (encA inW (rfOf (w l ++ st.lv))) dr) := by rw [hF, set_get hl1]
  have hlen := nodup_len hn hl
  rw [List.length_map] at hlen
  have hc15 : cnt (w l ++ st.lv) v ≤ 20000 := by
    have h1 := cnt_le (w l ++ st.lv) v
    have h2 := h.w.many
    rw [List.length_append, show (w l).length = l.length from List.length_map _] at h1
    omega
  refine ⟨?_, ?_⟩
  · unfold state_State_open.s1
    refine (bind_to hm1).trans ?_
    have hg : mget (F l) (.one (.int .i64)) (.one (.int .i64 0)) (some a.rf) v = some ((cnt (w l ++ st.lv) v : Int), (afind (rfOf (w l ++ st.lv)) v).isSome) := by rw [MpA.int ⟨_, hrF⟩, (rfOf_ok _).get]
    simp only [Option.bind_some, rdM_of hcF (o := 0 + 1) rfl]
    refine (bind_to hg).trans ?_
    have e1 : ains (rfOf (w l ++ st.lv)) v ((cnt (w l ++ st.lv) v : Int) + 1) = rfOf (w (l ++ [k]) ++ st.lv) :=
      ((rfOf_ok _).more (lv' := w (l ++ [k]) ++ st.lv) fun c => by
        rw [show w (l ++ [k]) = w l ++ [(k, v)] from by show (l ++ [k]).map _ = _; rw [List.map_append]; show _ ++ [(k, (afind P k).getD 0)] = _; rw [hv]; rfl]
        rw [cnt_append, cnt_append, cnt_append, cnt_cons, cnt_nil]
        dsimp only
        omega).uniq (rfOf_ok _)
    simp only [wrap_i64 (show -9223372036854775808 ≤ (cnt (w l ++ st.lv) v : Int) + 1 by omega) (show (cnt (w l ++ st.lv) v : Int) + 1 ≤ 9223372036854775807 by omega), mset_of hrF v ((cnt (w l ++ st.lv) v : Int) + 1) (w := .one (.int .i64 ((cnt (w l ++ st.lv) v : Int) + 1))) rfl, Option.bind_some, e1]
    rw [hF, hF, List.set_set]
  · rw [← hhd]
    have : (F (l ++ [k])).mpAt cl = H0.mpAt cl := by
      unfold Heap.mpAt; rw [hF, set_get' (Ne.symm hc1)]
    simp only [mhead, Option.bind_some, this]
/-- What has come of a state. -/
structure Res (H : Heap) (a : SaA) (st : Sta) (G : Heap) (a' : SaA) (st' : Sta) : Prop where
  s : StAt G a' st'
  c : a'.c = a.c
  k : Keep (a.fp st) H G
  n : ∀ b, a'.fp st' b → a.fp st b ∨ H.length ≤ b
theorem Res.same (h : StAt H a st) {G : Heap} (k : Keep (fun _ => False) H G) : Res H a st G a st := ⟨h.keep k fun _ _ => id, rfl, k.mono fun _ hf => hf.elim, fun _ hb => .inl hb⟩
theorem Res.trans {G K : Heap} {a' a'' : SaA} {st' st'' : Sta} (h : Res H a st G a' st') (h' : Res G a' st' K a'' st'') : Res H a st K a'' st'' :=
  ⟨h'.s, h'.c.trans h.c, h.k.trans2 h'.k fun b hb hf => (h.n b hf).elim id fun hh => absurd hb (by omega), fun b hb => (h'.n b hb).elim (h.n b) fun hh => .inr (Nat.le_trans h.k.len hh)⟩
theorem Res.pre {G K : Heap} {a' : SaA} {st' : Sta} (h : Res G a st K a' st') (k : Keep (fun _ => False) H G) : Res H a st K a' st' :=
  ⟨h.s, h.c, (k.mono fun _ hf => hf.elim).trans h.k, fun b hb => (h.n b hb).imp_right (Nat.le_trans k.len)⟩
def Sta.openS (st : Sta) (id q : Int) (P : List (Int × Int)) : Int × Sta :=
  if (afind st.sp id).isSome = true then (80, st) else (0, ⟨ains st.sp id (q, false), insAll id st.lv P, st.bd, st.wn⟩)
theorem st_open (h : StAt H a st) {id q : Int} (hid : 1 ≤ id ∧ id ≤ 15) (hq : q ≤ 1024) {m : Nat} {P : List (Int × Int)} (hm : MpA H m inW P) (hP : Asc P) (hpb : ∀ x ∈ P, 0 ≤ x.1 ∧ x.1 < 1024) :
    ∃ G a', state_State_open (some (a.c, 0)) id (q, false, some m, ()) H = some (((st.openS id q P).1, ()), G) ∧ Res H a st G a' (st.openS id q P).2 := by
  have h1 := h.push (.cells [.int .i64 q, .bool false, .mp (some m)] .exact)
  have hpl : P.length ≤ 1024 := asc_bound (a := 0) hP fun x hx => by have := hpb x hx; omega
  unfold state_State_open Sta.openS
  simp only [Option.bind_some, h1.r0, h1.sp.space]
  cases hx : afind st.sp id with
  | some x =>
    simp only [Option.isSome_some, if_true, spV, Option.bind_some, Option.map_some, cond_true, cond_false, List.append_assoc, List.cons_append, List.nil_append, List.length_append, List.length_cons, List.length_nil, Nat.zero_add, rd_t0, rd_t1, rdI_t0, rdI_t1, rdB_t0, rdB_t1, rdM_t0, rdM_t1, rd_c1, rdI_c1, rdB_c1, rdM_c1, rdI_c0, rdB_c0, rdM_c0, wr_t0, wr_t1, wr_c0, wr_c1, setL, List.set, List.getElem?_cons_zero, List.getElem?_cons_succ, un_i, un_b, un_m, un_s, Nat.le_refl, rd_iiib, rd_iiiiii, rd_ibm, rd_iii, rd_iib, rd_ii, rd_3312, rd_iiii, rd_si, rd_33121, rd_33121i, slRow_t0, slRow_t1, sl_c0, sl_c1]
    exact ⟨_, a, rfl, Res.same h (Keep.app _ _ _)⟩
  | none =>
    have hmk := hm.keep (F := fun _ => False) (Keep.app _ H [.cells [.int .i64 q, .bool false, .mp (some m)] .exact,   .cells [.int .i64 0, .bool false, .mp none] .exact]) fun hf => hf
    have hcl := hmk.clone
    simp only [Option.isSome_none, Bool.false_eq_true, if_false, spV, Option.bind_some, Option.map_some, cond_true, cond_false, List.append_assoc, List.cons_append, List.nil_append, List.length_append, List.length_cons, List.length_nil, Nat.zero_add, rd_t0, rd_t1, rdI_t0, rdI_t1, rdB_t0, rdB_t1, rdM_t0, rdM_t1, rd_c1, rdI_c1, rdB_c1, rdM_c1, rdI_c0, rdB_c0, rdM_c0, wr_t0, wr_t1, wr_c0, wr_c1, setL, List.set, List.getElem?_cons_zero, List.getElem?_cons_succ, un_i, un_b, un_m, un_s, Nat.le_refl, rd_iiib, rd_iiiiii, rd_ibm, rd_iii, rd_iib, rd_ii, rd_3312, rd_iiii, rd_si, rd_33121, rd_33121i, slRow_t0, slRow_t1, sl_c0, sl_c1] at hcl ⊢
    simp only [hcl, Option.bind_some, Option.map_some, cond_true, cond_false, List.append_assoc, List.cons_append, List.nil_append, List.length_append, List.length_cons, List.length_nil, Nat.zero_add, rd_t0, rd_t1, rdI_t0, rdI_t1, rdB_t0, rdB_t1, rdM_t0, rdM_t1, rd_c1, rdI_c1, rdB_c1, rdM_c1, rdI_c0, rdB_c0, rdM_c0, wr_t0, wr_t1, wr_c0, wr_c1, setL, List.set, List.getElem?_cons_zero, List.getElem?_cons_succ, un_i, un_b, un_m, un_s, Nat.le_refl, rd_iiib, rd_iiiiii, rd_ibm, rd_iii, rd_iib, rd_ii, rd_3312, rd_iiii, rd_si, rd_33121, rd_33121i, slRow_t0, slRow_t1, sl_c0, sl_c1]
    have h0 : StAt (H ++ [.cells [.int .i64 q, .bool false, .mp (some (H.length + (1 + 1)))] .exact, .cells [.int .i64 0, .bool false, .mp none] .exact, .mp (encA inW P) 0, .dead]) a st := h.keep (Keep.app (fun _ => False) _ _) fun _ _ hf => hf
    obtain ⟨G, dr, e1, e2⟩ := open_loop h0 hP hpl (cl := H.length + (1 + 1)) (by rw [tl_get1]; rfl) (by have := h.rf.lt; omega)
    generalize hH0 : H ++ [Blk.cells [.int .i64 q, .bool false, .mp (some (H.length + (1 + 1)))] .exact, .cells [.int .i64 0, .bool false, .mp none] .exact, .mp (encA inW P) 0, .dead] = H0 at h0 e1 e2
    have hb0 : H0[H.length]? = some (.cells [.int .i64 q, .bool false, .mp (some (H.length + (1 + 1)))] .exact) := by rw [← hH0, tl_get0]; rfl
    have hb2 : H0[H.length + (1 + 1)]? = some (.mp (encA inW P) 0) := by rw [← hH0, tl_get1]; rfl
    have hk0 : Keep (fun _ => False) H H0 := by rw [← hH0]; exact Keep.app _ _ _
    have hnd := h.nd
    obtain ⟨ds, hS⟩ := h0.sp
    have hsr := h0.rf.lt
    have hrl := h.rf.lt
    have hsl := h.sp.lt
    have hss := get_lt hS
    have hcc : a.c ≠ a.rf := fun e => by obtain ⟨_, hr⟩ := h.rf; have := h.c; rw [e, hr] at this; cases this
    have hcs : a.c ≠ a.sp := fun e => by obtain ⟨_, hr⟩ := h.sp; have := h.c; rw [e, hr] at this; cases this
    have hGc : G[a.c]? = some (.cells [.mp (some a.sp), .mp (some a.rf), .mp (some a.bd), .mp (some a.wn)] .exact) := by rw [e2, set_get' hcc.symm]; exact h0.c
    have hGb : G[H.length]? = some (.cells [.int .i64 q, .bool false, .mp (some (H.length + (1 + 1)))] .exact) := by rw [e2, set_get' (by omega)]; exact hb0
    have hin : ∀ y ∈ st.sp, y.1 ≠ id := fun y hy e => by
      have := h.w.sp.find (k := y.1) (v := y.2) hy
      rw [e, hx] at this; cases this
    have hpgs : ∀ y ∈ st.sp, spW a.pg y.1 y.2 = spW (fun j => if j = id then H.length + (1 + 1) else a.pg j) y.1 y.2 := fun y hy => by
      simp only [spW, if_neg (hin y hy)]
    have hGs : G[a.sp]? = some (.mp (encA (spW fun j => if j = id then H.length + (1 + 1) else a.pg j) st.sp) ds) := by
      rw [e2, set_get' (fun e => hnd.1 e.symm), hS, enc_congr hpgs]
    have hset := mset_of hGs id (q, false) (w := .agg [.int .i64 q, .bool false, .mp (some (H.length + (1 + 1)))]) (by simp only [spW, if_pos])
    have hfk : ∀ x ∈ P, afind st.lv (id * 1024 + x.1) = none := fun x hxP => free_keys h.w hx (hpb x hxP)
    have hrf : rfOf (P ++ st.lv) = rfOf (insAll id st.lv P) := (rfOf_ok _).uniq ⟨(rfOf_ok _).asc, fun c => by rw [(rfOf_ok _).find, insAll_cnt c h.w.lv hP hfk, cnt_append]⟩
    have hlvf : ∀ j, afind (insAll id st.lv P) j = (afind P (j - id * 1024)).or (afind st.lv j) := fun j => insAll_find j h.w.lv hP
    have hasc := insAll_asc (id := id) (P := P) h.w.lv
    have hP0 : ∀ k, ¬ (0 ≤ k ∧ k < 1024) → afind P k = none := fun k hk => afind_none fun x hxP e => hk (by have := hpb x hxP; omega)
    have hpid : pgs (insAll id st.lv P) id = P := asc_ext (pgs_asc hasc id) hP fun k => by
      rw [pgs_find hasc]
      by_cases e : 0 ≤ k ∧ k < 1024
      · rw [if_pos e, hlvf, free_keys h.w hx e, show id * 1024 + k - id * 1024 = k by omega, Option.or_none]
      · rw [if_neg e, hP0 k e]
    have hpother : ∀ j, j ≠ id → pgs (insAll id st.lv P) j = pgs st.lv j := fun j hj => asc_ext (pgs_asc hasc j) (pgs_asc h.w.lv j) fun k => by
      rw [pgs_find hasc, pgs_find h.w.lv]
      by_cases e : 0 ≤ k ∧ k < 1024
      · rw [if_pos e, if_pos e, hlvf, hP0 _ (by omega), Option.none_or]
      · rw [if_neg e, if_neg e]
    have hsf : ∀ j, afind (ains st.sp id (q, false)) j = if j = id then some (q, false) else afind st.sp j := fun j => afind_ins h.w.sp _ _ _
    have w' : SaW ⟨ains st.sp id (q, false), insAll id st.lv P, st.bd, st.wn⟩ := ⟨h.w.sp.ins _ _, hasc, h.w.bd, h.w.wn, fun y hy => by
        have hf := hasc.find (k := y.1) (v := y.2) hy
        rw [hlvf] at hf
        show (afind (ains st.sp id (q, false)) (y.1 / 1024)).isSome = true
        rw [hsf]
        by_cases e : y.1 / 1024 = id
        · rw [if_pos e]; rfl
        · rw [if_neg e]
          rw [hP0 _ (by omega), Option.none_or] at hf
          exact h.w.own _ (afind_mem hf), fun y hy => by
        rcases ains_mem hy with rfl | hy
        · exact ⟨hid.1, hid.2, hq⟩
        · exact h.w.ids y hy, h.w.bds, h.w.wns⟩
    have hk1 : Keep (fun b => b = a.rf ∨ b = a.sp) H0 (G.set a.sp (.mp (encA (spW fun j => if j = id then H.length + (1 + 1) else a.pg j) (ains st.sp id (q, false))) ds)) := by
      rw [e2]; exact set2_keep _ _ _ _ _
    refine ⟨G.set a.sp (.mp (encA (spW fun j => if j = id then H.length + (1 + 1) else a.pg j) (ains st.sp id (q, false))) ds), { a with pg := fun j => if j = id then H.length + (1 + 1) else a.pg j }, (bind_to e1).trans ?_, ⟨w', ?_, ⟨ds, ?_⟩, ?_, ⟨dr, ?_⟩, ?_, ?_, hnd, ?_, ?_⟩, rfl, ?_, ?_⟩
    rotate_left
    · exact hk1.get h0.c fun hf => hf.elim hcc hcs
    · exact set_get (by rw [e2]; simpa using hss)
    · intro j x hj
      rw [show afind (ains st.sp id (q, false)) j = _ from hsf j] at hj
      show MpA _ (if j = id then H.length + (1 + 1) else a.pg j) inW (pgs (insAll id st.lv P) j)
      by_cases e : j = id
      · rw [if_pos e, e, hpid]
        exact ⟨0, hk1.get hb2 (by omega)⟩
      · rw [if_neg e] at hj ⊢
        rw [hpother j e]
        have := h.pn j x hj
        exact (h0.pg j x hj).keep hk1 (by omega)
    · rw [set_get' (fun e => hnd.1 e), e2, set_get hsr, hrf]
    · exact h0.bd.keep hk1 (by omega)
    · exact h0.wn.keep hk1 (by omega)
    · intro j x hj
      rw [show afind (ains st.sp id (q, false)) j = _ from hsf j] at hj
      show (if j = id then H.length + (1 + 1) else a.pg j) ≠ a.sp ∧ (if j = id then H.length + (1 + 1) else a.pg j) ≠ a.rf ∧ (if j = id then H.length + (1 + 1) else a.pg j) ≠ a.bd ∧ (if j = id then H.length + (1 + 1) else a.pg j) ≠ a.wn
      have hbl := h.bd.lt
      have hwl := h.wn.lt
      by_cases e : j = id
      · rw [if_pos e]; omega
      · rw [if_neg e] at hj ⊢
        exact h.pn j x hj
    · intro j x j' x' hj hj' hjj
      rw [show afind (ains st.sp id (q, false)) j = _ from hsf j] at hj
      rw [show afind (ains st.sp id (q, false)) j' = _ from hsf j'] at hj'
      have hjj : (if j = id then H.length + (1 + 1) else a.pg j) = (if j' = id then H.length + (1 + 1) else a.pg j') := hjj
      by_cases e : j = id
      · by_cases e' : j' = id
        · rw [e, e']
        · rw [if_pos e, if_neg e'] at hjj
          rw [if_neg e'] at hj'
          have := (h.pg j' x' hj').lt
          omega
      · by_cases e' : j' = id
        · rw [if_neg e, if_pos e'] at hjj
          rw [if_neg e] at hj
          have := (h.pg j x hj).lt
          omega
        · rw [if_neg e, if_neg e'] at hjj
          rw [if_neg e] at hj
          rw [if_neg e'] at hj'
          exact h.pi j x j' x' hj hj' hjj
    · exact (hk0.mono fun _ hf => hf.elim).trans (hk1.mono fun b hb => hb.elim (fun e => .inr (.inr (.inl e))) fun e => .inr (.inl e))
    · rintro b (e | e | e | e | e | ⟨j, x, hj, e⟩)
      · exact .inl (.inl e)
      · exact .inl (.inr (.inl e))
      · exact .inl (.inr (.inr (.inl e)))
      · exact .inl (.inr (.inr (.inr (.inl e))))
      · exact .inl (.inr (.inr (.inr (.inr (.inl e)))))
      · rw [show afind (ains st.sp id (q, false)) j = _ from hsf j] at hj
        have e : b = if j = id then H.length + (1 + 1) else a.pg j := e
        by_cases e2 : j = id
        · rw [if_pos e2] at e
          exact .inr (by omega)
        · rw [if_neg e2] at e hj
          exact .inl (.inr (.inr (.inr (.inr (.inr ⟨j, x, hj, e⟩)))))
    · simp only [rdM_of hGc (o := 0) rfl, Option.bind_some]
      refine (bind_to (show rd G (.agg [.int .i64, .bool, .mp]) H.length 0 = (some (q, false, some (H.length + (1 + 1)), ()) : Option (Int × Bool × Option Nat × Unit)) from rd_agg_of hGb (by simp) rfl)).trans ?_
      simp only [hset, Option.bind_some]
end
end Ev

namespace Ev
open Go (IntKind)

section
variable (len : Int → Nat) (R : Int → List Blk)
def rowsK (l : List Int) : Heap := (l.map R).flatten
theorem rowsK_snoc (l : List Int) (k : Int) : rowsK R (l ++ [k]) = rowsK R l ++ R k := by simp [rowsK]
theorem rowsK_len (hR : ∀ k, (R k).length = len k) : ∀ l : List Int, (rowsK R l).length = ktot len l
  | [] => rfl
  | x :: l => by
    have := rowsK_len hR l
    unfold rowsK at this ⊢
    rw [List.map_cons, List.flatten_cons, List.length_append, hR, this]; rfl
theorem rowsK_get (hR : ∀ k, (R k).length = len k) : ∀ {l : List Int} {k : Int} {j : Nat}, k ∈ l → j < len k → (rowsK R l)[kpos len l k + j]? = (R k)[j]?
  | x :: l, k, j, h, hj => by
    have ih := rowsK_get hR (l := l) (k := k) (j := j)
    unfold rowsK at ih ⊢
    rw [List.map_cons, List.flatten_cons, kpos]
    by_cases e : x = k
    · subst e
      rw [if_pos rfl, Nat.zero_add, List.getElem?_append_left (by rw [hR]; exact hj)]
    · rw [if_neg e, List.getElem?_append_right (by rw [hR]; omega), hR, show len x + kpos len l k + j - len x = kpos len l k + j by omega]
      exact ih ((List.mem_cons.1 h).resolve_left fun hh => e hh.symm) hj
end

/-! Plain. -/
def mvd (f t : Int) (l : List Int) (P : List (Int × Int)) : List (Int × Int) := P.map fun x => if x.1 ∈ l ∧ x.2 = f then (x.1, t) else x
def mv (f t : Int) (P : List (Int × Int)) : List (Int × Int) := P.map fun x => if x.2 = f then (x.1, t) else x
theorem asc_map {α β : Type} {l : List (Int × α)} (h : Asc l) (g : Int × α → Int × β) (hg : ∀ x, (g x).1 = x.1) : Asc (l.map g) := by
  unfold Asc at *
  rw [List.pairwise_map]
  exact h.imp fun {x y} hlt => by rw [hg, hg]; exact hlt
theorem mvd_asc {f t : Int} {l : List Int} {P : List (Int × Int)} (h : Asc P) : Asc (mvd f t l P) := asc_map h _ fun x => by split <;> rfl
theorem mv_asc {f t : Int} {P : List (Int × Int)} (h : Asc P) : Asc (mv f t P) := asc_map h _ fun x => by split <;> rfl
theorem mvd_find {f t : Int} {l : List Int} (k : Int) : ∀ {P : List (Int × Int)}, afind (mvd f t l P) k = (afind P k).map fun v => if k ∈ l ∧ v = f then t else v
  | [] => rfl
  | x :: P => by
    have ih := mvd_find (f := f) (t := t) (l := l) k (P := P)
    unfold mvd at ih ⊢
    rw [List.map_cons, afind, afind]
    have e1 : (if x.1 ∈ l ∧ x.2 = f then (x.1, t) else x).1 = x.1 := by split <;> rfl
    rw [e1]
    by_cases e : x.1 = k
    · subst e
      rw [if_pos rfl, if_pos rfl, Option.map_some]
      split <;> rfl
    · rw [if_neg e, if_neg e, ih]
theorem mvd_length (f t : Int) (l : List Int) (P : List (Int × Int)) : (mvd f t l P).length = P.length := List.length_map _
theorem mv_find {f t : Int} (k : Int) : ∀ {P : List (Int × Int)}, afind (mv f t P) k = (afind P k).map fun v => if v = f then t else v
  | [] => rfl
  | x :: P => by
    have ih := mv_find (f := f) (t := t) k (P := P)
    unfold mv at ih ⊢
    rw [List.map_cons, afind, afind]
    have e1 : (if x.2 = f then (x.1, t) else x).1 = x.1 := by split <;> rfl
    rw [e1]
    by_cases e : x.1 = k
    · subst e
      rw [if_pos rfl, if_pos rfl, Option.map_some]
      split <;> rfl
    · rw [if_neg e, if_neg e, ih]
theorem mv_pgs {f t : Int} {lv : List (Int × Int)} (h : Asc lv) (id : Int) : pgs (mv f t lv) id = mv f t (pgs lv id) := asc_ext (pgs_asc (mv_asc h) _) (mv_asc (pgs_asc h _)) fun k => by
  rw [pgs_find (mv_asc h), mv_find, mv_find, pgs_find h]
  by_cases e : 0 ≤ k ∧ k < 1024
  · rw [if_pos e, if_pos e]
  · rw [if_neg e, if_neg e]; rfl
theorem mv_cnt (f t c : Int) : ∀ lv : List (Int × Int), cnt (mv f t lv) c = if c = t then cnt lv t + (if f = t then 0 else cnt lv f) else if c = f then 0 else cnt lv c
  | [] => by simp [mv, cnt_nil]
  | x :: lv => by
    have ih := mv_cnt f t c lv
    show cnt ((if x.2 = f then (x.1, t) else x) :: mv f t lv) c = _
    simp only [cnt_cons, ih]
    have e1 : (if x.2 = f then (x.1, t) else x).2 = if x.2 = f then t else x.2 := by split <;> rfl
    rw [e1]
    by_cases h1 : c = t <;> by_cases h2 : f = t <;> by_cases h3 : x.2 = f <;> by_cases h4 : c = f <;> simp only [h1, h2, h3, h4, if_true, if_false] <;> (try omega) <;> (repeat' split) <;> omega
section
variable {G H11 : Heap} {pgb dp : Nat} {P : List (Int × Int)} {f t : Int}
theorem move_inner (hp : G[pgb]? = some (.mp (encA inW P) dp)) (hP : Asc P) {q : Int} {s : Bool} (hb : G[H11.length]? = some (.cells [.int .i64 q, .bool s, .mp (some pgb)] .exact)) :
    eachW (state_State_move.s1 f t H11 (some pgb)) (some pgb) () G = some ((), G.set pgb (.mp (encA inW (mv f t P)) dp)) := by
  have hl := get_lt hp
  have hne : H11.length ≠ pgb := fun e => by rw [e, hp] at hb; cases hb
  let F : List Int → Heap := fun l => G.set pgb (.mp (encA inW (mvd f t l P)) dp)
  have hF : ∀ l, F l = G.set pgb (.mp (encA inW (mvd f t l P)) dp) := fun _ => rfl
  have hFp : ∀ l, (F l)[pgb]? = some (.mp (encA inW (mvd f t l P)) dp) := fun l => by rw [hF, set_get hl]
  have hFb : ∀ l, (F l)[H11.length]? = some (.cells [.int .i64 q, .bool s, .mp (some pgb)] .exact) := fun l => by rw [hF, set_get' hne.symm]; exact hb
  have hnil : mvd f t [] P = P := (List.map_congr_left fun x _ => by rw [if_neg (fun hh => absurd hh.1 List.not_mem_nil)]; rfl).trans (List.map_id P)
  have hall : mvd f t (P.map Prod.fst) P = mv f t P := List.map_congr_left fun x hx => by
    have : x.1 ∈ P.map Prod.fst := List.mem_map.2 ⟨x, hx, rfl⟩
    by_cases e : x.2 = f
    · rw [if_pos ⟨this, e⟩, if_pos e]
    · rw [if_neg (fun hh => e hh.2), if_neg e]
  have hm : MpA G pgb inW P := ⟨dp, hp⟩
  have hperm : ∀ l l' : List Int, (∀ x, x ∈ l ↔ x ∈ l') → mvd f t l P = mvd f t l' P := fun l l' hl => List.map_congr_left fun x _ => by
    by_cases e : x.1 ∈ l ∧ x.2 = f
    · rw [if_pos e, if_pos ⟨(hl _).1 e.1, e.2⟩]
    · rw [if_neg e, if_neg (fun hh => e ⟨(hl _).2 hh.1, hh.2⟩)]
  have hhd : ∀ l, mhead (F l) (some pgb) = some (P.length, dp) := fun l => by
    simp only [mhead, Option.bind_some, mpAt_of (hFp l), enc_length, mvd_length]
  have hres := eachW_of (step := state_State_move.s1 f t H11 (some pgb)) (m := some pgb) (s := ()) (H := G) (ks := P.map Prod.fst) (hd := (P.length, dp)) hm.keys (by rw [← hhd []]; rw [hF, hnil, set_same hp]) (keys_nodup hP) (fun _ => ()) F rfl (by rw [hF, hnil]; exact set_same hp)
    (fun l k hl hn hk hkl => ⟨by
      obtain ⟨v, hv⟩ := Option.isSome_iff_exists.1 (afind_isSome.2 hk)
      have hv1 : afind (mvd f t l P) k = some v := by rw [mvd_find, hv, Option.map_some, if_neg (fun hh => hkl hh.1)]
      have hm1 : mat (F l) (.one (.int .i64)) (some pgb) k = some v := MpA.mat ⟨_, hFp l⟩ (.one (.int .i64)) k (by rw [hv1]; rfl)
      have hfs : ∀ k', afind (mvd f t (l ++ [k]) P) k' = if k' = k then some (if v = f then t else v) else afind (mvd f t l P) k' := fun k' => by
        rw [mvd_find, mvd_find]
        by_cases e : k' = k
        · subst e
          rw [if_pos rfl, hv, Option.map_some]
          by_cases e2 : v = f
          · rw [if_pos ⟨by simp, e2⟩, if_pos e2]
          · rw [if_neg (fun hh => e2 hh.2), if_neg e2]
        · rw [if_neg e]
          congr 1
          funext w
          have : k' ∈ l ++ [k] ↔ k' ∈ l := by simp [e]
          simp only [this]
      unfold state_State_move.s1
      refine (bind_to hm1).trans ?_
      by_cases e : v = f
      · have hset := mset_of (hFp l) k t (w := .one (.int .i64 t)) rfl
        simp only [decide_eq_true e, cond_true, rdM_of (hFb l) (o := 2) rfl, Option.bind_some, hset]
        rw [hF, hF, List.set_set, show ains (mvd f t l P) k t = mvd f t (l ++ [k]) P from asc_ext ((mvd_asc hP).ins _ _) (mvd_asc hP) fun k' => by rw [afind_ins (mvd_asc hP), hfs, if_pos e]]
      · simp only [decide_eq_false e, cond_false]
        rw [hF, hF, show mvd f t (l ++ [k]) P = mvd f t l P from asc_ext (mvd_asc hP) (mvd_asc hP) fun k' => by
          rw [hfs, if_neg e]
          by_cases e2 : k' = k
          · rw [if_pos e2, e2, hv1]
          · rw [if_neg e2]], hhd _⟩)
    (fun l hl => ⟨rfl, by rw [hF, hF, hperm l _ fun x => hl.mem_iff]; exact Alike.refl _ _⟩)
  rw [hres, hF, hall]
end
/-- A block of pages that point elsewhere. -/
def mvE (f t : Int) (es : MEs) : MEs := es.map fun e => if e.2 = .one (.int .i64 f) then (e.1, .one (.int .i64 t)) else e
def mvB (f t : Int) : Blk → Blk
  | .mp es dc => .mp (mvE f t es) dc
  | x => x
theorem mvE_enc (f t : Int) (P : List (Int × Int)) : mvE f t (encA inW P) = encA inW (mv f t P) := by
  unfold mvE encA mv
  rw [List.map_map, List.map_map]
  refine List.map_congr_left fun x _ => ?_
  show (if inW x.1 x.2 = .one (.int .i64 f) then (x.1, .one (.int .i64 t)) else (x.1, inW x.1 x.2)) = _
  have hi : inW x.1 x.2 = .one (.int .i64 f) ↔ x.2 = f := by unfold inW; simp
  by_cases e : x.2 = f
  · rw [if_pos (hi.2 e)]
    show _ = ((if x.2 = f then (x.1, t) else x).1, inW (if x.2 = f then (x.1, t) else x).1 (if x.2 = f then (x.1, t) else x).2)
    rw [if_pos e]; rfl
  · rw [if_neg (fun hh => e (hi.1 hh))]
    show _ = ((if x.2 = f then (x.1, t) else x).1, inW (if x.2 = f then (x.1, t) else x).1 (if x.2 = f then (x.1, t) else x).2)
    rw [if_neg e]
theorem enc_ren (π : Nat → Nat) (P : List (Int × Int)) (dc : Nat) : Blk.ren π (.mp (encA inW P) dc) = .mp (encA inW P) dc := by
  show Blk.mp ((encA inW P).map fun x => (x.1, x.2.ren π)) dc = _
  unfold encA
  rw [List.map_map]; rfl
section
variable {H H0 : Heap} {a : SaA} {st : Sta} {f t : Int}
/-- The heap once some spaces are done. -/
def mvH (H0 : Heap) (a : SaA) (f t : Int) (l : List Int) : Heap := H0.mapIdx fun b x => if (l.any fun k => a.pg k == b) = true then mvB f t x else x
def bxR (a : SaA) (st : Sta) (k : Int) : List Blk := [.cells [.int .i64 (spV a.pg k (afind st.sp k)).1, .bool (spV a.pg k (afind st.sp k)).2.1, .mp (some (a.pg k))] .exact, .dead]
theorem mvH_get (b : Nat) (l : List Int) : (mvH H0 a f t l)[b]? = (H0[b]?).map fun x => if (l.any fun k => a.pg k == b) = true then mvB f t x else x := by
  unfold mvH; rw [List.getElem?_mapIdx]
theorem any_no {l : List Int} {b : Nat} (h : ∀ k ∈ l, a.pg k ≠ b) : ¬ (l.any fun k => a.pg k == b) = true := by
  intro hh
  obtain ⟨k, hk, e⟩ := List.any_eq_true.1 hh
  exact h k hk (by simpa using e)
theorem any_yes {l : List Int} {k : Int} (h : k ∈ l) : (l.any fun j => a.pg j == a.pg k) = true := List.any_eq_true.2 ⟨k, h, by simp⟩
theorem move_loop (h : StAt H0 a st) :
    ∃ G, eachW (state_State_move.s2 f t (some a.sp)) (some a.sp) () H0 = some ((), G) ∧ G = mvH H0 a f t (st.sp.map Prod.fst) ++ rowsK (bxR a st) (st.sp.map Prod.fst) := by
  have hsl := h.sp.lt
  have hin : ∀ {k : Int}, k ∈ st.sp.map Prod.fst → ∃ x, afind st.sp k = some x := fun hk => Option.isSome_iff_exists.1 (afind_isSome.2 hk)
  let F : List Int → Heap := fun l => mvH H0 a f t l ++ rowsK (bxR a st) l
  have hF : ∀ l, F l = mvH H0 a f t l ++ rowsK (bxR a st) l := fun _ => rfl
  have hMl : ∀ l, (mvH H0 a f t l).length = H0.length := fun l => by unfold mvH; rw [List.length_mapIdx]
  have hR : ∀ k, (bxR a st k).length = (fun _ : Int => 2) k := fun _ => rfl
  have hlow : ∀ l b, b < H0.length → (F l)[b]? = (mvH H0 a f t l)[b]? := fun l b hb => by rw [hF, List.getElem?_append_left (by rw [hMl]; exact hb)]
  have hnil : mvH H0 a f t [] = H0 := by
    apply List.ext_getElem?
    intro b
    rw [mvH_get]
    cases H0[b]? <;> rfl
  have hspF : ∀ l, (∀ k ∈ l, k ∈ st.sp.map Prod.fst) → MpA (F l) a.sp (spW a.pg) st.sp ∧ (F l).mpAt a.sp = H0.mpAt a.sp := fun l hl => by
    have e : (F l)[a.sp]? = H0[a.sp]? := by
      rw [hlow l _ hsl, mvH_get]
      have := any_no (a := a) (l := l) (b := a.sp) fun k hk => by
        obtain ⟨x, hx⟩ := hin (hl k hk)
        exact (h.pn k x hx).1
      cases H0[a.sp]? with
      | none => rfl
      | some y => simp only [Option.map_some, if_neg this]
    exact ⟨by obtain ⟨dc, hd⟩ := h.sp; exact ⟨dc, by rw [e]; exact hd⟩, by unfold Heap.mpAt; rw [e]⟩
  obtain ⟨dc, hhd⟩ := h.sp.head
  refine ⟨F (st.sp.map Prod.fst), ?_, rfl⟩
  refine eachW_of (ks := st.sp.map Prod.fst) h.sp.keys hhd (keys_nodup h.w.sp) (fun _ => ()) F rfl (by rw [hF, hnil]; exact List.append_nil _) (fun l k hl hn hk hkl => ⟨?_, ?_⟩) (fun l hl => ⟨rfl, ?_⟩)
  · obtain ⟨x, hx⟩ := hin hk
    obtain ⟨dp, hP⟩ := h.pg k x hx
    have hpl := get_lt hP
    have hm1 : mat (F l) (.agg [.int .i64, .bool, .mp]) (some a.sp) k = (some (x.1, x.2, some (a.pg k), ()) : Option (Int × Bool × Option Nat × Unit)) := (hspF l hl).1.mat (.agg [.int .i64, .bool, .mp]) k (by rw [hx]; rfl)
    have hGp : (F l ++ [.cells [.int .i64 x.1, .bool x.2, .mp (some (a.pg k))] .exact, .dead])[a.pg k]? = some (.mp (encA inW (pgs st.lv k)) dp) := by
      rw [List.getElem?_append_left (by rw [hF, List.length_append, hMl]; omega), hlow _ _ hpl, mvH_get, hP]
      have := any_no (a := a) (l := l) (b := a.pg k) fun k' hk' e => by
        obtain ⟨x', hx'⟩ := hin (hl k' hk')
        exact hkl (h.pi _ _ _ _ hx' hx e ▸ hk')
      simp only [Option.map_some, if_neg this]
    have hin2 := move_inner (f := f) (t := t) (H11 := F l) hGp (pgs_asc h.w.lv k) (q := x.1) (s := x.2) (by rw [tl_get0]; rfl)
    unfold state_State_move.s2
    refine (bind_to hm1).trans ?_
    simp only [Option.bind_some, Option.map_some, cond_true, cond_false, List.append_assoc, List.cons_append, List.nil_append, List.length_append, List.length_cons, List.length_nil, Nat.zero_add, rd_t0, rd_t1, rdI_t0, rdI_t1, rdB_t0, rdB_t1, rdM_t0, rdM_t1, rd_c1, rdI_c1, rdB_c1, rdM_c1, rdI_c0, rdB_c0, rdM_c0, wr_t0, wr_t1, wr_c0, wr_c1, setL, List.set, List.getElem?_cons_zero, List.getElem?_cons_succ, un_i, un_b, un_m, un_s, Nat.le_refl, rd_iiib, rd_iiiiii, rd_ibm, rd_iii, rd_iib, rd_ii, rd_3312, rd_iiii, rd_si, rd_33121, rd_33121i, slRow_t0, slRow_t1, sl_c0, sl_c1]
    refine (bind_to hin2).trans ?_
    refine congrArg (fun G => some ((), G)) ?_
    show (F l ++ _).set _ _ = F (l ++ [k])
    rw [hF, hF, rowsK_snoc, List.append_assoc, List.set_append_left _ _ (by rw [hMl]; exact hpl)]
    congr 1
    · apply List.ext_getElem?
      intro b
      by_cases e : a.pg k = b
      · subst e
        rw [set_get (by rw [hMl]; exact hpl), mvH_get, hP, Option.map_some, if_pos (any_yes (by simp))]
        show _ = some (Blk.mp (mvE f t (encA inW (pgs st.lv k))) dp)
        rw [mvE_enc]
      · rw [set_get' e, mvH_get, mvH_get]
        congr 1
        funext y
        simp [e]
    · rw [show bxR a st k = [.cells [.int .i64 x.1, .bool x.2, .mp (some (a.pg k))] .exact, .dead] from by unfold bxR; rw [hx]; rfl]
  · simp only [mhead, Option.bind_some, (hspF (l ++ [k]) (fun y hy => (List.mem_append.1 hy).elim (hl y) fun e => by rw [List.mem_singleton.1 e]; exact hk)).2]
    exact hhd
  · have hany : ∀ b, (l.any fun k => a.pg k == b) = ((st.sp.map Prod.fst).any fun k => a.pg k == b) := fun b => by
      rw [Bool.eq_iff_iff, List.any_eq_true, List.any_eq_true]
      exact ⟨fun ⟨k, hk, e⟩ => ⟨k, hl.subset hk, e⟩, fun ⟨k, hk, e⟩ => ⟨k, hl.symm.subset hk, e⟩⟩
    refine alike_rows (fun _ => 2) hl (hl.nodup_iff.2 (keys_nodup h.w.sp)) (hMl _) (hMl _) _ _ (rowsK_len _ _ hR _) (rowsK_len _ _ hR _) (fun b hb => ?_) (fun k hk j hj => ?_)
    · by_cases e : (l.any fun k => a.pg k == b) = true
      · left
        obtain ⟨k, hk, e2⟩ := List.any_eq_true.1 e
        have e2 : a.pg k = b := by simpa using e2
        subst e2
        obtain ⟨x, hx⟩ := hin (hl.subset hk)
        obtain ⟨dp, hP⟩ := h.pg k x hx
        rw [mvH_get, mvH_get, hP, Option.map_some, Option.map_some, Option.map_some, if_pos (any_yes hk), if_pos (any_yes (hl.subset hk))]
        show some (Blk.mp (mvE f t (encA inW (pgs st.lv k))) dp) = some (Blk.ren _ (Blk.mp (mvE f t (encA inW (pgs st.lv k))) dp))
        rw [mvE_enc, enc_ren]
      · right
        have e' := e
        rw [hany] at e'
        rw [mvH_get, mvH_get]
        cases H0[b]? with
        | none => exact ⟨rfl, rfl⟩
        | some y => simp only [Option.map_some, if_neg e, if_neg e', and_self]
    · obtain ⟨x, hx⟩ := hin (hl.subset hk)
      have hpl := (h.pg k x hx).lt
      rw [rowsK_get (fun _ => 2) _ hR (hl.subset hk) hj, rowsK_get (fun _ => 2) _ hR hk hj]
      have h0 : j = 0 ∨ j = 1 := by have : j < 2 := hj; omega
      rcases h0 with rfl | rfl
      · show some _ = some (Blk.cells [_, _, C.mp (some (kren (fun _ => 2) H0.length l _ (a.pg k)))] _)
        rw [kren_low _ hpl]; rfl
      · rfl
end
end Ev

namespace Ev
open Go (IntKind)

def Sta.moveS (st : Sta) (f t : Int) : Int × Sta :=
  if cnt st.lv f = 0 then (82, st) else if 0 < cnt st.lv t then (82, st) else (0, ⟨st.sp, mv f t st.lv, st.bd, st.wn⟩)
section
variable {H : Heap} {a : SaA} {st : Sta}
theorem st_move (h : StAt H a st) (f t : Int) : ∃ G, state_State_move (some (a.c, 0)) f t H = some (((st.moveS f t).1, ()), G) ∧ Res H a st G a (st.moveS f t).2 := by
  unfold state_State_move Sta.moveS
  simp only [Option.bind_some, h.r1, h.rf.int, (rfOf_ok st.lv).get]
  by_cases h0 : cnt st.lv f = 0
  · rw [if_pos h0, decide_eq_true (show (cnt st.lv f : Int) = 0 by omega)]
    exact ⟨H, rfl, Res.same h (Keep.refl _ _)⟩
  · rw [if_neg h0, decide_eq_false (show ¬ (cnt st.lv f : Int) = 0 by omega)]
    by_cases h1 : 0 < cnt st.lv t
    · rw [if_pos h1, decide_eq_true (show (0 : Int) < (cnt st.lv t : Int) by omega)]
      exact ⟨H, rfl, Res.same h (Keep.refl _ _)⟩
    · rw [if_neg h1, decide_eq_false (show ¬ (0 : Int) < (cnt st.lv t : Int) by omega)]
      simp only [cond_false, h.r0, Option.bind_some]
      have hd := h.push .dead
      have hnd := h.nd
      obtain ⟨G, e1, e2⟩ := move_loop (f := f) (t := t) hd
      have hin : ∀ {k : Int}, k ∈ st.sp.map Prod.fst → ∃ x, afind st.sp k = some x := fun hk => Option.isSome_iff_exists.1 (afind_isSome.2 hk)
      have hMl : (mvH (H ++ [Blk.dead]) a f t (st.sp.map Prod.fst)).length = (H ++ [Blk.dead]).length := by unfold mvH; rw [List.length_mapIdx]
      have hlow : ∀ b, b < (H ++ [Blk.dead]).length → G[b]? = (mvH (H ++ [Blk.dead]) a f t (st.sp.map Prod.fst))[b]? := fun b hb => by rw [e2, List.getElem?_append_left (by rw [hMl]; exact hb)]
      have hkG : Keep (fun b => ∃ id x, afind st.sp id = some x ∧ b = a.pg id) (H ++ [Blk.dead]) G := ⟨by have := congrArg List.length e2; rw [List.length_append, hMl] at this; omega, fun b hb hf => by
        rw [hlow b hb, mvH_get]
        have := any_no (a := a) (l := st.sp.map Prod.fst) (b := b) fun k hk e => by
          obtain ⟨x, hx⟩ := hin hk
          exact hf ⟨k, x, hx, e.symm⟩
        cases (H ++ [Blk.dead])[b]? with
        | none => rfl
        | some y => simp only [Option.map_some, if_neg this]⟩
      have hGp : ∀ id x, afind st.sp id = some x → MpA G (a.pg id) inW (pgs (mv f t st.lv) id) := fun id x hx => by
        obtain ⟨dp, hP⟩ := hd.pg id x hx
        refine ⟨dp, ?_⟩
        rw [hlow _ (get_lt hP), mvH_get, hP, Option.map_some, if_pos (any_yes (afind_isSome.1 (by rw [hx]; rfl))), mv_pgs h.w.lv]
        show some (Blk.mp (mvE f t (encA inW (pgs st.lv id))) dp) = _
        rw [mvE_enc]
      have hno : ∀ b, b ≠ a.c ∨ True → (∀ id x, afind st.sp id = some x → a.pg id ≠ b) → ¬ ∃ id x, afind st.sp id = some x ∧ b = a.pg id := fun b _ hb ⟨id, x, hx, e⟩ => hb id x hx e.symm
      obtain ⟨dr, hR⟩ := hd.rf
      have hGr : G[a.rf]? = some (.mp (encA inW (rfOf st.lv)) dr) := hkG.get hR (hno _ (.inr trivial) fun id x hx => (h.pn id x hx).2.1)
      have hGc : G[a.c]? = some (.cells [.mp (some a.sp), .mp (some a.rf), .mp (some a.bd), .mp (some a.wn)] .exact) := hkG.get hd.c (hno _ (.inr trivial) fun id x hx => mp_ne h.c (h.pg id x hx))
      have hcr : a.c ≠ a.rf := fun e => by obtain ⟨_, hr⟩ := h.rf; have := h.c; rw [e, hr] at this; cases this
      have hset := mset_of hGr t (cnt st.lv f : Int) (w := .one (.int .i64 (cnt st.lv f : Int))) rfl
      have hG1c : (G.set a.rf (.mp (encA inW (ains (rfOf st.lv) t (cnt st.lv f : Int))) dr))[a.c]? = some (.cells [.mp (some a.sp), .mp (some a.rf), .mp (some a.bd), .mp (some a.wn)] .exact) := by rw [set_get' hcr.symm]; exact hGc
      have hG1r : (G.set a.rf (.mp (encA inW (ains (rfOf st.lv) t (cnt st.lv f : Int))) dr))[a.rf]? = some (.mp (encA inW (ains (rfOf st.lv) t (cnt st.lv f : Int))) dr) := set_get (get_lt hGr)
      have hne : f ≠ t := fun e => by rw [e] at h0; omega
      have hras := (rfOf_ok st.lv).asc
      have hrf : adrop (ains (rfOf st.lv) t (cnt st.lv f : Int)) f = rfOf (mv f t st.lv) := (RfOK.mk ((hras.ins _ _).drop _) fun c => by
        rw [afind_drop (hras.ins _ _), afind_ins hras, (rfOf_ok st.lv).find, mv_cnt]
        by_cases e1 : c = t
        · rw [if_pos e1, if_neg (by omega), if_pos e1, if_neg hne, if_neg (by omega)]
          congr 1; omega
        · rw [if_neg e1, if_neg e1]
          by_cases e2 : c = f
          · rw [if_pos e2, if_pos e2]; rfl
          · rw [if_neg e2, if_neg e2]).uniq (rfOf_ok _)
      refine ⟨(G.set a.rf (.mp (encA inW (ains (rfOf st.lv) t (cnt st.lv f : Int))) dr)).set a.rf (.mp (encA inW (adrop (ains (rfOf st.lv) t (cnt st.lv f : Int)) f)) (dr + 1)), (bind_to e1).trans ?_, ?_⟩
      · simp only [rdM_of hGc (o := 0 + 1) rfl, Option.bind_some, MpA.int ⟨_, hGr⟩, (rfOf_ok st.lv).get, hset, rdM_of hG1c (o := 0 + 1) rfl, mdel_of hG1r]
      · have w' : SaW ⟨st.sp, mv f t st.lv, st.bd, st.wn⟩ := ⟨h.w.sp, mv_asc h.w.lv, h.w.bd, h.w.wn, fun y hy => by
          obtain ⟨z, hz, e⟩ := List.mem_map.1 hy
          have : y.1 = z.1 := by rw [← e]; split <;> rfl
          show (afind st.sp (y.1 / 1024)).isSome = true
          rw [this]; exact h.w.own z hz, h.w.ids, h.w.bds, h.w.wns⟩
        have hk2 : Keep (fun b => b = a.rf ∨ ∃ id x, afind st.sp id = some x ∧ b = a.pg id) (H ++ [Blk.dead]) ((G.set a.rf (.mp (encA inW (ains (rfOf st.lv) t (cnt st.lv f : Int))) dr)).set a.rf (.mp (encA inW (adrop (ains (rfOf st.lv) t (cnt st.lv f : Int)) f)) (dr + 1))) :=
          (hkG.mono fun b hb => .inr hb).trans ((Keep.set _ _ _ (.inl rfl)).trans (Keep.set _ _ _ (.inl rfl)))
        refine ⟨hd.lvs w' hk2 (fun b hb => hb) ⟨dr + 1, ?_⟩ fun id x hx => ?_, rfl, ?_, fun b hb => .inl hb⟩
        · rw [set_get (by simpa using get_lt hGr), hrf]
        · exact (hGp id x hx).keep (F := fun b => b = a.rf) (Keep.trans (F := fun b => b = a.rf) (Keep.set _ _ _ rfl) (Keep.set _ _ _ rfl)) (h.pn id x hx).2.1
        · exact (Keep.push _ _ _).trans (hk2.mono fun b hb => hb.elim (fun e => .inr (.inr (.inl e))) fun e => .inr (.inr (.inr (.inr (.inr e)))))
end
theorem cond_tt {α : Type} {c : Bool} {a b : α} (h : c = true) : cond c a b = a := by rw [h]; rfl
theorem cond_ff {α : Type} {c : Bool} {a b : α} (h : c = false) : cond c a b = b := by rw [h]; rfl
/-- What a record does. -/
def Sta.applyS (st : Sta) (x : RecT) : Int × Sta :=
  if x.1 = 4 then st.openS x.2.1 x.2.2.2.2.2.1 [] else
  if x.1 = 3 then st.moveS x.2.2.2.1 x.2.2.2.2.1 else
  if x.1 = 8 then (0, ⟨st.sp, st.lv, ains st.bd x.2.2.2.1 (), st.wn⟩) else
  if x.1 = 9 then (0, ⟨st.sp, st.lv, st.bd, ains st.wn x.2.2.2.1 (if x.2.2.2.2.2.1 > (afind st.wn x.2.2.2.1).getD 0 then x.2.2.2.2.2.1 else (afind st.wn x.2.2.2.1).getD 0)⟩) else
  match afind st.sp x.2.1 with
  | none => (80, st)
  | some s =>
    if x.1 = 1 then (if x.2.2.1 < 0 then (81, st) else if s.1 ≤ x.2.2.1 then (81, st) else (0, ⟨st.sp, ains st.lv (x.2.1 * 1024 + x.2.2.1) x.2.2.2.1, st.bd, st.wn⟩)) else
    if x.1 = 2 then (if (afind (pgs st.lv x.2.1) x.2.2.1).isSome = true then (0, ⟨st.sp, adrop st.lv (x.2.1 * 1024 + x.2.2.1), st.bd, st.wn⟩) else (81, st)) else
    if x.1 = 5 then (0, ⟨adrop st.sp x.2.1, lvOff st.lv x.2.1, st.bd, st.wn⟩) else
    if x.1 = 6 then st.openS x.2.2.2.2.1 s.1 (pgs st.lv x.2.1) else (0, ⟨ains st.sp x.2.1 (s.1, true), st.lv, st.bd, st.wn⟩)
structure GoodR (x : RecT) : Prop where
  k4 : x.1 = 4 → (1 ≤ x.2.1 ∧ x.2.1 ≤ 15) ∧ x.2.2.2.2.2.1 ≤ 1024
  k6 : x.1 = 6 → 1 ≤ x.2.2.2.2.1 ∧ x.2.2.2.2.1 ≤ 15
  k8 : x.1 = 8 → 0 ≤ x.2.2.2.1 ∧ x.2.2.2.1 ≤ 31
  k9 : x.1 = 9 → 0 ≤ x.2.2.2.1 ∧ x.2.2.2.1 ≤ 31
  k1 : x.1 = 1 → 0 ≤ x.2.2.2.1
theorem chk_good {x : RecT} (h : chkR x = true) : GoodR x := by
  unfold chkR at h
  refine ⟨fun e => ?_, fun e => ?_, fun e => ?_, fun e => ?_, fun e => ?_⟩
  all_goals
    simp only [e, inAll, inB] at h
    simp at h
    omega
section
variable {H : Heap} {a : SaA} {st : Sta}
theorem SaW.bd' (w : SaW st) {b : Int} (hb : 0 ≤ b ∧ b ≤ 31) : SaW ⟨st.sp, st.lv, ains st.bd b (), st.wn⟩ :=
  ⟨w.sp, w.lv, w.bd.ins _ _, w.wn, w.own, w.ids, fun y hy => (ains_mem hy).elim (fun e => by rw [e]; exact hb) (w.bds y), w.wns⟩
theorem SaW.wn' (w : SaW st) {b : Int} (hb : 0 ≤ b ∧ b ≤ 31) (v : Int) : SaW ⟨st.sp, st.lv, st.bd, ains st.wn b v⟩ :=
  ⟨w.sp, w.lv, w.bd, w.wn.ins _ _, w.own, w.ids, w.bds, fun y hy => (ains_mem hy).elim (fun e => by rw [e]; exact hb) (w.wns y)⟩
theorem StAt.spoff (h : StAt H a st) {id : Int} (hn : pgs st.lv id = []) {ds : Nat} (hS : H[a.sp]? = some (.mp (encA (spW a.pg) st.sp) ds)) (dc : Nat) : StAt (H.set a.sp (.mp (encA (spW a.pg) (adrop st.sp id)) dc)) a ⟨adrop st.sp id, st.lv, st.bd, st.wn⟩ := by
  have hk := Keep.set (F := fun b => b = a.sp) H a.sp (.mp (encA (spW a.pg) (adrop st.sp id)) dc) rfl
  have hnd := h.nd
  have hs : ∀ {j x}, afind (adrop st.sp id) j = some x → j ≠ id ∧ afind st.sp j = some x := fun {j x} hj => by
    rw [afind_drop h.w.sp] at hj
    by_cases e : j = id
    · rw [if_pos e] at hj; cases hj
    · rw [if_neg e] at hj; exact ⟨e, hj⟩
  refine ⟨⟨h.w.sp.drop _, h.w.lv, h.w.bd, h.w.wn, fun y hy => ?_, fun y hy => h.w.ids y ((adrop_sub _ _).subset hy), h.w.bds, h.w.wns⟩, hk.get h.c (fun e => mp_ne h.c h.sp e.symm), ⟨dc, set_get (get_lt hS)⟩, fun j x hj => (h.pg j x (hs hj).2).keep hk (h.pn j x (hs hj).2).1, h.rf.keep hk (by omega), h.bd.keep hk (by omega), h.wn.keep hk (by omega), hnd, fun j x hj => h.pn j x (hs hj).2, fun j x j' x' hj hj' => h.pi j x j' x' (hs hj).2 (hs hj').2⟩
  show (afind (adrop st.sp id) (y.1 / 1024)).isSome = true
  rw [afind_drop h.w.sp, if_neg, h.w.own y hy]
  intro e
  have : (y.1 % 1024, y.2) ∈ pgs st.lv id := List.mem_map.2 ⟨y, List.mem_filter.2 ⟨hy, decide_eq_true e⟩, rfl⟩
  rw [hn] at this; exact absurd this List.not_mem_nil
theorem StAt.spset (h : StAt H a st) {id : Int} {x : Int × Bool} (hx : afind st.sp id = some x) {ds : Nat} (hS : H[a.sp]? = some (.mp (encA (spW a.pg) st.sp) ds)) (s : Bool) : StAt (H.set a.sp (.mp (encA (spW a.pg) (ains st.sp id (x.1, s))) ds)) a ⟨ains st.sp id (x.1, s), st.lv, st.bd, st.wn⟩ := by
  have hk := Keep.set (F := fun b => b = a.sp) H a.sp (.mp (encA (spW a.pg) (ains st.sp id (x.1, s))) ds) rfl
  have hnd := h.nd
  have hs : ∀ {j y}, afind (ains st.sp id (x.1, s)) j = some y → ∃ z, afind st.sp j = some z := fun {j y} hj => by
    rw [afind_ins h.w.sp] at hj
    by_cases e : j = id
    · exact ⟨x, by rw [e]; exact hx⟩
    · rw [if_neg e] at hj; exact ⟨y, hj⟩
  refine ⟨⟨h.w.sp.ins _ _, h.w.lv, h.w.bd, h.w.wn, fun y hy => ?_, fun y hy => ?_, h.w.bds, h.w.wns⟩, hk.get h.c (fun e => mp_ne h.c h.sp e.symm), ⟨ds, set_get (get_lt hS)⟩, fun j y hj => ?_, h.rf.keep hk (by omega), h.bd.keep hk (by omega), h.wn.keep hk (by omega), hnd, fun j y hj => ?_, fun j y j' y' hj hj' => ?_⟩
  · show (afind (ains st.sp id (x.1, s)) (y.1 / 1024)).isSome = true
    rw [afind_ins h.w.sp]
    split
    · rfl
    · exact h.w.own y hy
  · rcases ains_mem hy with rfl | hy
    · have := h.w.ids _ (afind_mem hx)
      exact this
    · exact h.w.ids y hy
  · obtain ⟨z, hz⟩ := hs hj
    exact (h.pg j z hz).keep hk (h.pn j z hz).1
  · obtain ⟨z, hz⟩ := hs hj
    exact h.pn j z hz
  · obtain ⟨z, hz⟩ := hs hj
    obtain ⟨z', hz'⟩ := hs hj'
    exact h.pi j z j' z' hz hz'
theorem st_apply (h : StAt H a st) {x : RecT} (g : GoodR x) : ∃ G a', state_State_apply (some (a.c, 0)) x H = some (((st.applyS x).1, ()), G) ∧ Res H a st G a' (st.applyS x).2 := by
  obtain ⟨k, id, p, pl, to, n, ⟨⟩⟩ := x
  have h1 := h.push (.cells [.int .i64 k, .int .i64 id, .int .i64 p, .int .i64 pl, .int .i64 to, .int .i64 n] .exact)
  have hk7 := Keep.app (fun _ => False) H [.cells [.int .i64 k, .int .i64 id, .int .i64 p, .int .i64 pl, .int .i64 to, .int .i64 n] .exact, .cells [.int .i64 (spV a.pg id (afind st.sp id)).1, .bool (spV a.pg id (afind st.sp id)).2.1, .mp (spV a.pg id (afind st.sp id)).2.2.1] .exact]
  have h7 := h.keep hk7 fun _ _ hf => hf
  have hres : ∀ {G a' st'}, Res _ a st G a' st' → Res H a st G a' st' := fun r => r.pre hk7
  unfold state_State_apply Sta.applyS
  simp only [Option.bind_some, h1.r0]
  simp only [h1.sp.space, Option.bind_some, Option.map_some, cond_true, cond_false, List.append_assoc, List.cons_append, List.nil_append, List.length_append, List.length_cons, List.length_nil, Nat.zero_add, rd_t0, rd_t1, rdI_t0, rdI_t1, rdB_t0, rdB_t1, rdM_t0, rdM_t1, rd_c1, rdI_c1, rdB_c1, rdM_c1, rdI_c0, rdB_c0, rdM_c0, wr_t0, wr_t1, wr_c0, wr_c1, setL, List.set, List.getElem?_cons_zero, List.getElem?_cons_succ, un_i, un_b, un_m, un_s, Nat.le_refl, rd_iiib, rd_iiiiii, rd_ibm, rd_iii, rd_iib, rd_ii, rd_3312, rd_iiii, rd_si, rd_33121, rd_33121i, slRow_t0, slRow_t1, sl_c0, sl_c1]
  by_cases h4 : k = 4
  · have hm : MpA (H ++ [.cells [.int .i64 k, .int .i64 id, .int .i64 p, .int .i64 pl, .int .i64 to, .int .i64 n] .exact, .cells [.int .i64 (spV a.pg id (afind st.sp id)).1, .bool (spV a.pg id (afind st.sp id)).2.1, .mp (spV a.pg id (afind st.sp id)).2.2.1] .exact, .mp [] 0]) (H.length + (1 + 1)) inW [] := ⟨0, by rw [tl_get1]; rfl⟩
    have h8 : StAt (H ++ [.cells [.int .i64 k, .int .i64 id, .int .i64 p, .int .i64 pl, .int .i64 to, .int .i64 n] .exact, .cells [.int .i64 (spV a.pg id (afind st.sp id)).1, .bool (spV a.pg id (afind st.sp id)).2.1, .mp (spV a.pg id (afind st.sp id)).2.2.1] .exact, .mp [] 0]) a st := h.keep (Keep.app (fun _ => False) _ _) fun _ _ hf => hf
    obtain ⟨G, a', e1, e2⟩ := st_open h8 (g.k4 h4).1 (g.k4 h4).2 hm Asc.nil fun x hx => absurd hx List.not_mem_nil
    rw [if_pos h4]
    simp only [decide_eq_true h4, cond_true]
    exact ⟨G, a', (bind_to e1).trans rfl, e2.pre (Keep.app _ _ _)⟩
  rw [if_neg h4]
  simp only [decide_eq_false h4, cond_false]
  by_cases h3 : k = 3
  · obtain ⟨G, e1, e2⟩ := st_move h7 pl to
    rw [if_pos h3]
    simp only [decide_eq_true h3, cond_true]
    exact ⟨G, a, (bind_to e1).trans rfl, hres e2⟩
  rw [if_neg h3]
  simp only [decide_eq_false h3, cond_false]
  have hnd := h.nd
  by_cases h8 : k = 8
  · obtain ⟨db, hB⟩ := h7.bd
    have hset := mset_of hB pl () (w := .one (.bool true)) rfl
    rw [if_pos h8]
    simp only [decide_eq_true h8, cond_true, h7.r2, Option.bind_some, hset]
    have hk := Keep.set (F := fun b => b = a.bd) (H ++ [.cells [.int .i64 k, .int .i64 id, .int .i64 p, .int .i64 pl, .int .i64 to, .int .i64 n] .exact, .cells [.int .i64 (spV a.pg id (afind st.sp id)).1, .bool (spV a.pg id (afind st.sp id)).2.1, .mp (spV a.pg id (afind st.sp id)).2.2.1] .exact]) a.bd (.mp (encA boW (ains st.bd pl ())) db) rfl
    refine ⟨_, a, rfl, hres ⟨⟨h.w.bd' (g.k8 h8), hk.get h7.c (fun e => mp_ne h7.c h7.bd e.symm), h7.sp.keep hk (by omega), fun j x hj => (h7.pg j x hj).keep hk (h7.pn j x hj).2.2.1, h7.rf.keep hk (by omega), ⟨db, set_get (get_lt hB)⟩, h7.wn.keep hk (by omega), hnd, h7.pn, h7.pi⟩, rfl, hk.mono fun b e => .inr (.inr (.inr (.inl e))), fun b hb => .inl hb⟩⟩
  rw [if_neg h8]
  simp only [decide_eq_false h8, cond_false]
  by_cases h9 : k = 9
  · obtain ⟨dw, hW⟩ := h7.wn
    have hset := mset_of hW pl (if n > (afind st.wn pl).getD 0 then n else (afind st.wn pl).getD 0) (w := .one (.int .i64 (if n > (afind st.wn pl).getD 0 then n else (afind st.wn pl).getD 0))) rfl
    rw [if_pos h9]
    simp only [decide_eq_true h9, cond_true, h7.r3, Option.bind_some]
    simp only [h7.wn.int, Option.bind_some, hset]
    have hk := Keep.set (F := fun b => b = a.wn) (H ++ [.cells [.int .i64 k, .int .i64 id, .int .i64 p, .int .i64 pl, .int .i64 to, .int .i64 n] .exact, .cells [.int .i64 (spV a.pg id (afind st.sp id)).1, .bool (spV a.pg id (afind st.sp id)).2.1, .mp (spV a.pg id (afind st.sp id)).2.2.1] .exact]) a.wn (.mp (encA inW (ains st.wn pl (if n > (afind st.wn pl).getD 0 then n else (afind st.wn pl).getD 0))) dw) rfl
    refine ⟨_, a, rfl, hres ⟨⟨h.w.wn' (g.k9 h9) _, hk.get h7.c (fun e => mp_ne h7.c h7.wn e.symm), h7.sp.keep hk (by omega), fun j x hj => (h7.pg j x hj).keep hk (h7.pn j x hj).2.2.2, h7.rf.keep hk (by omega), h7.bd.keep hk (by omega), ⟨dw, set_get (get_lt hW)⟩, hnd, h7.pn, h7.pi⟩, rfl, hk.mono fun b e => .inr (.inr (.inr (.inr (.inl e)))), fun b hb => .inl hb⟩⟩
  rw [if_neg h9]
  simp only [decide_eq_false h9, cond_false]
  cases hx : afind st.sp id with
  | none =>
    simp only [Option.isSome_none, Bool.not_false, cond_true]
    rw [hx] at h7 hk7
    exact ⟨_, a, rfl, Res.same h hk7⟩
  | some x =>
    rw [hx] at h7 hk7
    simp only [Option.isSome_some, Bool.not_true, cond_false, spV] at h7 hk7 ⊢
    have hkp : ∀ {G : Heap}, Keep (fun b => b = a.rf ∨ b = a.pg id) (H ++ [.cells [.int .i64 k, .int .i64 id, .int .i64 p, .int .i64 pl, .int .i64 to, .int .i64 n] .exact, .cells [.int .i64 x.1, .bool x.2, .mp (some (a.pg id))] .exact]) G → Keep (a.fp st) H G := fun hk => (hk7.mono fun _ hf => hf.elim).trans (hk.mono fun b hb => hb.elim (fun e => .inr (.inr (.inl e))) fun e => .inr (.inr (.inr (.inr (.inr ⟨id, x, hx, e⟩)))))
    have hq := (h.w.ids _ (afind_mem hx)).2.2
    by_cases k1 : k = 1
    · rw [if_pos k1]
      simp only [decide_eq_true k1, cond_true]
      by_cases p0 : p < 0
      · rw [if_pos p0]
        simp only [decide_eq_true p0, cond_true]
        exact ⟨_, a, rfl, Res.same h hk7⟩
      rw [if_neg p0]
      simp only [decide_eq_false p0, cond_false]
      by_cases p1 : x.1 ≤ p
      · rw [if_pos p1]
        exact ⟨_, a, (cond_tt (decide_eq_true p1)).trans rfl, Res.same h hk7⟩
      rw [if_neg p1]
      have hq : x.1 ≤ 1024 := hq
      obtain ⟨G, e1, e2, e3⟩ := st_point h7 hx (p := p) ⟨by omega, by omega⟩ (x3 := pl) (g.k1 k1) x.1 x.2
      exact ⟨G, a, (cond_ff (decide_eq_false p1)).trans ((bind_to e1).trans rfl), ⟨e2, rfl, hkp e3, fun b hb => .inl hb⟩⟩
    rw [if_neg k1]
    simp only [decide_eq_false k1, cond_false]
    by_cases k2 : k = 2
    · rw [if_pos k2]
      simp only [decide_eq_true k2, cond_true]
      simp only [(h7.pg id x hx).int, Option.bind_some]
      cases hp : afind (pgs st.lv id) p with
      | none =>
        simp only [Option.isSome_none, Bool.not_false, cond_true, Bool.false_eq_true, if_false]
        exact ⟨_, a, rfl, Res.same h hk7⟩
      | some v =>
        simp only [Option.isSome_some, Bool.not_true, cond_false, if_true]
        have hpb := pgs_mem (afind_mem hp)
        obtain ⟨G, e1, e2, e3⟩ := st_unpoint h7 hx (p := p) ⟨hpb.1, hpb.2.1⟩ (x3 := -1) (by decide) x.1 x.2
        exact ⟨G, a, (bind_to e1).trans rfl, ⟨e2, rfl, hkp e3, fun b hb => .inl hb⟩⟩
    rw [if_neg k2]
    simp only [decide_eq_false k2, cond_false]
    by_cases k5 : k = 5
    · rw [if_pos k5]
      simp only [decide_eq_true k5, cond_true]
      have hcl := (h7.pg id x hx).clone
      have hb7 : (H ++ [Blk.cells [.int .i64 k, .int .i64 id, .int .i64 p, .int .i64 pl, .int .i64 to, .int .i64 n] .exact, .cells [.int .i64 x.1, .bool x.2, .mp (some (a.pg id))] .exact])[H.length + 1]? = some (.cells [.int .i64 x.1, .bool x.2, .mp (some (a.pg id))] .exact) := by rw [tl_get1]; rfl
      have hr7 : rdI .i64 (H ++ [Blk.cells [.int .i64 k, .int .i64 id, .int .i64 p, .int .i64 pl, .int .i64 to, .int .i64 n] .exact, .cells [.int .i64 x.1, .bool x.2, .mp (some (a.pg id))] .exact]) H.length 1 = some id := rdI_of (by rw [tl_get0]; rfl) rfl
      have hl7 : H.length < (H ++ [Blk.cells [.int .i64 k, .int .i64 id, .int .i64 p, .int .i64 pl, .int .i64 to, .int .i64 n] .exact, .cells [.int .i64 x.1, .bool x.2, .mp (some (a.pg id))] .exact]).length := by simp
      have hg7 : (H ++ [Blk.cells [.int .i64 k, .int .i64 id, .int .i64 p, .int .i64 pl, .int .i64 to, .int .i64 n] .exact, .cells [.int .i64 x.1, .bool x.2, .mp (some (a.pg id))] .exact])[H.length]? = some (.cells [.int .i64 k, .int .i64 id, .int .i64 p, .int .i64 pl, .int .i64 to, .int .i64 n] .exact) := by rw [tl_get0]; rfl
      have hH1 : (H ++ [Blk.cells [.int .i64 k, .int .i64 id, .int .i64 p, .int .i64 pl, .int .i64 to, .int .i64 n] .exact]).length = H.length + 1 := by simp
      generalize H ++ [Blk.cells [.int .i64 k, .int .i64 id, .int .i64 p, .int .i64 pl, .int .i64 to, .int .i64 n] .exact] = H1 at hH1 ⊢
      generalize hH7 : H ++ [Blk.cells [.int .i64 k, .int .i64 id, .int .i64 p, .int .i64 pl, .int .i64 to, .int .i64 n] .exact, .cells [.int .i64 x.1, .bool x.2, .mp (some (a.pg id))] .exact] = H7 at h7 hk7 hkp hcl hb7 hr7 hl7 hg7 ⊢
      have h8 : StAt (H7 ++ [.mp (encA inW (pgs st.lv id)) 0] ++ [.dead]) a st := (h7.push _).push _
      have hrl := h7.rf.lt
      have hpl := (h7.pg id x hx).lt
      obtain ⟨G, e1, e2, e3⟩ := drop_loop (H1 := H1) (r44 := ((some H7.length, ()), H7 ++ [.mp (encA inW (pgs st.lv id)) 0])) (cl := H7.length) h8 hx rfl (by rw [hH1, List.append_assoc, List.getElem?_append_left (get_lt hb7)]; exact hb7) (by rw [List.append_assoc, tl_get0]; rfl) (by omega) (by omega)
      obtain ⟨ds, hS⟩ := e2.sp
      have hk8 : Keep (fun _ => False) H7 (H7 ++ [.mp (encA inW (pgs st.lv id)) 0] ++ [.dead]) := (Keep.push _ _ _).trans (Keep.push _ _ _)
      have hGr : rdI .i64 G H.length 1 = some id := by
        refine rdI_of (cs := [.int .i64 k, .int .i64 id, .int .i64 p, .int .i64 pl, .int .i64 to, .int .i64 n]) (bk := .exact) ?_ rfl
        refine e3.get (hk8.get hg7 fun hf => hf) ?_
        have h1r := h.rf.lt
        have h1p := (h.pg id x hx).lt
        omega
      have hpn : pgs (lvOff st.lv id) id = [] := by
        unfold pgs lvOff
        rw [List.filter_filter]
        have : (st.lv.filter fun y => decide (y.1 / 1024 = id) && !decide (y.1 / 1024 = id)) = [] := by
          rw [List.filter_eq_nil_iff]
          intro y _
          cases decide (y.1 / 1024 = id) <;> simp
        rw [this]; rfl
      refine ⟨_, a, (bind_to hcl).trans ((bind_to e1).trans ?_), ⟨e2.spoff hpn hS (ds + 1), rfl, ?_, fun b hb => ?_⟩⟩
      · simp only [e2.r0, Option.bind_some, hGr, mdel_of hS]
      · exact (hk7.mono fun _ hf => hf.elim).trans ((hk8.mono fun _ hf => hf.elim).trans ((e3.mono fun b hb => hb.elim (fun e => .inr (.inr (.inl e))) fun e => .inr (.inr (.inr (.inr (.inr ⟨id, x, hx, e⟩))))).trans (Keep.set _ _ _ (.inr (.inl rfl)))))
      · rcases hb with e | e | e | e | e | ⟨j, y, hj, e⟩
        · exact .inl (.inl e)
        · exact .inl (.inr (.inl e))
        · exact .inl (.inr (.inr (.inl e)))
        · exact .inl (.inr (.inr (.inr (.inl e))))
        · exact .inl (.inr (.inr (.inr (.inr (.inl e)))))
        · have hj : afind (adrop st.sp id) j = some y := hj
          rw [afind_drop h.w.sp] at hj
          by_cases e2 : j = id
          · rw [if_pos e2] at hj; cases hj
          · rw [if_neg e2] at hj
            exact .inl (.inr (.inr (.inr (.inr (.inr ⟨j, y, hj, e⟩)))))
    rw [if_neg k5]
    simp only [decide_eq_false k5, cond_false]
    by_cases k6 : k = 6
    · rw [if_pos k6]
      simp only [decide_eq_true k6, cond_true]
      obtain ⟨G, a', e1, e2⟩ := st_open h7 (g.k6 k6) hq (h7.pg id x hx) (pgs_asc h.w.lv id) fun y hy => ⟨(pgs_mem hy).1, (pgs_mem hy).2.1⟩
      exact ⟨G, a', (bind_to e1).trans rfl, e2.pre hk7⟩
    rw [if_neg k6]
    simp only [decide_eq_false k6, cond_false]
    have hk8 := Keep.app (fun _ => False) H [.cells [.int .i64 k, .int .i64 id, .int .i64 p, .int .i64 pl, .int .i64 to, .int .i64 n] .exact, .cells [.int .i64 x.1, .bool true, .mp (some (a.pg id))] .exact]
    have h8' := h.keep hk8 fun _ _ hf => hf
    obtain ⟨ds, hS⟩ := h8'.sp
    have hset := mset_of hS id (x.1, true) (w := .agg [.int .i64 x.1, .bool true, .mp (some (a.pg id))]) rfl
    refine ⟨_, a, Eq.trans (bind_to (v := H ++ [.cells [.int .i64 k, .int .i64 id, .int .i64 p, .int .i64 pl, .int .i64 to, .int .i64 n] .exact, .cells [.int .i64 x.1, .bool true, .mp (some (a.pg id))] .exact]) ?_) ?_, ⟨h8'.spset hx hS true, rfl, (hk8.mono fun _ hf => hf.elim).trans (Keep.set _ _ _ (.inr (.inl rfl))), fun b hb => by
      rcases hb with e | e | e | e | e | ⟨j, y, hj, e⟩
      · exact .inl (.inl e)
      · exact .inl (.inr (.inl e))
      · exact .inl (.inr (.inr (.inl e)))
      · exact .inl (.inr (.inr (.inr (.inl e))))
      · exact .inl (.inr (.inr (.inr (.inr (.inl e)))))
      · have hj : afind (ains st.sp id (x.1, true)) j = some y := hj
        rw [afind_ins h.w.sp] at hj
        by_cases e2 : j = id
        · exact .inl (.inr (.inr (.inr (.inr (.inr ⟨id, x, hx, by rw [e, e2]⟩)))))
        · rw [if_neg e2] at hj
          exact .inl (.inr (.inr (.inr (.inr (.inr ⟨j, y, hj, e⟩)))))⟩⟩
    · rfl
    · simp only [h8'.r0, Option.bind_some, Option.bind_some, Option.map_some, cond_true, cond_false, List.append_assoc, List.cons_append, List.nil_append, List.length_append, List.length_cons, List.length_nil, Nat.zero_add, rd_t0, rd_t1, rdI_t0, rdI_t1, rdB_t0, rdB_t1, rdM_t0, rdM_t1, rd_c1, rdI_c1, rdB_c1, rdM_c1, rdI_c0, rdB_c0, rdM_c0, wr_t0, wr_t1, wr_c0, wr_c1, setL, List.set, List.getElem?_cons_zero, List.getElem?_cons_succ, un_i, un_b, un_m, un_s, Nat.le_refl, rd_iiib, rd_iiiiii, rd_ibm, rd_iii, rd_iib, rd_ii, rd_3312, rd_iiii, rd_si, rd_33121, rd_33121i, slRow_t0, slRow_t1, sl_c0, sl_c1, hset]
/-- A record, looked at first. -/
def Sta.doS (st : Sta) (x : RecT) : Int × Sta := if chkR x = true then st.applyS x else (1, st)
theorem st_Apply (h : StAt H a st) (x : RecT) : ∃ G a', state_State_Apply (some (a.c, 0)) x H = some (((st.doS x).1, ()), G) ∧ Res H a st G a' (st.doS x).2 := by
  obtain ⟨k, id, p, pl, to, n, ⟨⟩⟩ := x
  have hk := Keep.app (fun _ => False) H [.cells [.int .i64 k, .int .i64 id, .int .i64 p, .int .i64 pl, .int .i64 to, .int .i64 n] .exact]
  unfold state_State_Apply Sta.doS
  simp only [Option.isNone_some, Option.bind_some, Option.map_some, cond_true, cond_false, List.append_assoc, List.cons_append, List.nil_append, List.length_append, List.length_cons, List.length_nil, Nat.zero_add, rd_t0, rd_t1, rdI_t0, rdI_t1, rdB_t0, rdB_t1, rdM_t0, rdM_t1, rd_c1, rdI_c1, rdB_c1, rdM_c1, rdI_c0, rdB_c0, rdM_c0, wr_t0, wr_t1, wr_c0, wr_c1, setL, List.set, List.getElem?_cons_zero, List.getElem?_cons_succ, un_i, un_b, un_m, un_s, Nat.le_refl, rd_iiib, rd_iiiiii, rd_ibm, rd_iii, rd_iib, rd_ii, rd_3312, rd_iiii, rd_si, rd_33121, rd_33121i, slRow_t0, slRow_t1, sl_c0, sl_c1]
  rw [show rec_Check (k, id, p, pl, to, n, ()) = _ from rec_check_eq _]
  cases hc : chkR (k, id, p, pl, to, n, ()) with
  | false =>
    rw [if_neg (by decide)]
    exact ⟨_, a, rfl, Res.same h hk⟩
  | true =>
    rw [if_pos rfl]
    obtain ⟨G, a', e1, e2⟩ := st_apply (h.keep hk fun _ _ hf => hf) (chk_good hc)
    exact ⟨G, a', (bind_to e1).trans rfl, e2.pre hk⟩
theorem st_Lay (h : StAt H a st) {id p pl : Int} (h0 : 0 ≤ pl) : ∃ G a', state_State_Lay (some (a.c, 0)) id p pl H = some (((st.applyS (1, id, p, pl, 0, 0, ())).1, ()), G) ∧ Res H a st G a' (st.applyS (1, id, p, pl, 0, 0, ())).2 := by
  unfold state_State_Lay
  simp only [Option.isNone_some, cond_false, decide_eq_false (show ¬ pl < 0 by omega)]
  obtain ⟨G, a', e1, e2⟩ := st_apply h (x := (1, id, p, pl, 0, 0, ())) ⟨fun e => by simp at e, fun e => by simp at e, fun e => by simp at e, fun e => by simp at e, fun _ => h0⟩
  exact ⟨G, a', (bind_to e1).trans rfl, e2⟩
end
end Ev

