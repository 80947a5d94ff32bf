/- What the law leans on: texts of this claim, put together. -/
import Derived.Test.YtfmefnejaocopaaEvCore
import Derived.Test.YtfmefnejaocopaaEvLoop
import Derived.Test.YtfmefnejaocopaaEvOpen
import Derived.Test.YtfmefnejaocopaaGRec
import Derived.Test.YtfmefnejaocopaaGRef07
import Derived.Test.YtfmefnejaocopaaGRef08
import Derived.Test.YtfmefnejaocopaaGModel
import Derived.Test.YtfmefnejaocopaaGRef16
import Derived.Test.YtfmefnejaocopaaGLaw17
import Derived.Test.YtfmefnejaocopaaGLaw19
set_option linter.unusedSimpArgs false
set_option linter.unusedVariables false
namespace Ev
open Go (IntKind)

end Ev

namespace Ev
open Go (IntKind)

theorem loop_for {S X : Type} {step : S → Heap → Option ((S ⊕ X) × Heap)} (n : Nat) (st : Nat → S) (hs : Nat → Heap) {x : X} {H' : Heap}
    (h : ∀ i, i < n → step (st i) (hs i) = some (.inl (st (i + 1)), hs (i + 1))) (he : step (st n) (hs n) = some (.inr x, H')) : loopW step (st 0) (hs 0) = some (x, H') := by
  have key : ∀ k i, i + k = n → iter step (k + 1) (st i) (hs i) = some (x, H') := by
    intro k
    induction k with
    | zero => intro i hi; have : i = n := by omega
              subst this; simp only [iter, he]; rfl
    | succ k ih => intro i hi; rw [iter, h i (by omega)]; exact ih (i + 1) (by omega)
  exact loopW_eq (key n 0 (by omega))
/-- The same, from whatever state equals the first one. -/
theorem loop_for' {S X : Type} {step : S → Heap → Option ((S ⊕ X) × Heap)} {s : S} {H : Heap} (n : Nat) (st : Nat → S) (hs : Nat → Heap) {x : X} {H' : Heap} (h0 : st 0 = s) (h1 : hs 0 = H)
    (h : ∀ i, i < n → step (st i) (hs i) = some (.inl (st (i + 1)), hs (i + 1))) (he : step (st n) (hs n) = some (.inr x, H')) : loopW step s H = some (x, H') := by
  rw [← h0, ← h1]; exact loop_for n st hs h he

theorem wrap_succ {i : Nat} (h : i < 9223372036854775807) : IntKind.wrap .i64 ((i : Int) + 1) = ((i + 1 : Nat) : Int) := by
  rw [wrap_i64 (by omega) (by omega)]; omega

theorem bytes_of_cells (s : Bytes) : bytesOf (cellsOf s) = some s := by
  induction s with
  | nil => rfl
  | cons b s ih =>
    show (bytesOf (cellsOf s)).bind _ = _
    rw [ih]; simp
theorem cut_of {cs : List C} {o n : Nat} (h : o + n ≤ cs.length) : cut cs o n = some ((cs.drop o).take n) := by
  unfold cut
  rw [decide_eq_true h, cond_t]
theorem cut_all {cs : List C} {n : Nat} (h : n = cs.length) : cut cs 0 n = some cs := by
  subst h
  rw [cut_of (by omega)]; simp

/-! Heaps at whose end blocks are written out. -/
theorem app_last {H : Heap} {x : Blk} : (H ++ [x])[H.length]? = some x := by simp
theorem app_lt {H : Heap} {x : Blk} {b : Nat} (h : b < H.length) : (H ++ [x])[b]? = H[b]? := List.getElem?_append_left h
theorem wr_of {H : Heap} {b o : Nat} {cs : List C} {bk : BK} {new : List C} (h : H[b]? = some (.cells cs bk)) (hb : bk ≠ .ro) (ho : o + new.length ≤ cs.length) : wr H b o new = some (H.set b (.cells (setL cs o new) bk)) := by
  unfold wr
  simp only [h]
  rw [decide_eq_true hb, decide_eq_true ho]; rfl
theorem rd_agg_of {H : Heap} {b o : Nat} {cs : List C} {bk : BK} {ts : List CT} {x : Tup ts} (h : H[b]? = some (.cells cs bk)) (ho : o + ts.length ≤ cs.length) (hx : Tup.un ts ((cs.drop o).take ts.length) = some x) : rd H (.agg ts) b o = some x := by
  simp only [rd, Heap.row, h, cut_of ho]
  exact hx
end Ev

namespace Ev
open Go (IntKind)

/-- A slice that append has made, or an empty one. -/
structure Grown (H : Heap) (es : Nat) (s : Sl) (cs : List C) : Prop where
  cap : s.cap = s.len
  len : cs.length = s.len * es
  nil : s.p = none → s.len = 0
  blk : ∀ a, s.p = some a → a.2 = 0 ∧ (H[a.1]? = some (.cells cs .loose) ∨ H[a.1]? = some (.cells cs .exact))

theorem Grown.ni (H : Heap) (es : Nat) : Grown H es ⟨none, 0, 0⟩ [] := ⟨rfl, by simp, fun _ => rfl, fun a h => by cases h⟩

theorem Grown.row {H : Heap} {es : Nat} {s : Sl} {cs : List C} (h : Grown H es s cs) : slRow H es s = some cs := by
  unfold slRow
  cases hp : s.p with
  | none =>
    have := h.len
    rw [h.nil hp, Nat.zero_mul] at this
    simp [List.eq_nil_of_length_eq_zero this]
  | some a =>
    obtain ⟨h1, h2⟩ := h.blk a hp
    rcases h2 with h2 | h2 <;> simp only [Heap.row, h2, h1, cut_all h.len.symm]
theorem Grown.str {H : Heap} {s : Sl} {t : Bytes} (h : Grown H 1 s (cellsOf t)) : strOf H s = some t := by
  unfold strOf
  rw [h.row]; exact bytes_of_cells t

/-- The heap behind a growth: the old block is gone if its end is not known. -/
def grownH (H : Heap) (s : Sl) (cs : List C) : Heap :=
  match s.p with
  | none => H ++ [.cells cs .loose]
  | some a => match H[a.1]? with
    | some (.cells _ .loose) => H.set a.1 .dead ++ [.cells cs .loose]
    | _ => H ++ [.cells cs .loose]
theorem grownH_length (H : Heap) (s : Sl) (cs : List C) : (grownH H s cs).length = H.length + 1 := by
  unfold grownH
  split
  · simp
  · split <;> simp
theorem grownH_get {H : Heap} {s : Sl} {cs : List C} {j : Nat} (hj : j < H.length) (ha : ∀ a, s.p = some a → a.1 ≠ j) : (grownH H s cs)[j]? = H[j]? := by
  unfold grownH
  split
  · rw [app_lt hj]
  · rename_i a hp
    split
    · rw [app_lt (by simpa using hj), set_get' (ha a hp)]
    · rw [app_lt hj]
theorem grownH_last (H : Heap) (s : Sl) (cs : List C) : (grownH H s cs)[H.length]? = some (.cells cs .loose) := by
  unfold grownH
  split
  · exact app_last
  · split
    · rw [List.getElem?_append_right (by simp)]; simp
    · exact app_last

theorem Grown.app {H : Heap} {es bytes : Nat} {s : Sl} {cs : List C} (h : Grown H es s cs) (hes : 0 < es) {n : Nat} {new : List C} (hn : 0 < n) (hnew : new.length = n * es) (hb : (s.len + n) * bytes ≤ 35184372088832) (hb2 : s.len + n ≤ 35184372088832) :
    appS H es bytes s n new = some (⟨some (H.length, 0), s.len + n, s.len + n⟩, grownH H s (cs ++ new)) ∧ Grown (grownH H s (cs ++ new)) es ⟨some (H.length, 0), s.len + n, s.len + n⟩ (cs ++ new) := by
  constructor
  · unfold appS
    have h1 : decide (s.len + n ≤ s.cap) = false := decide_eq_false (by rw [h.cap]; omega)
    have h2 : decide ((s.len + n) * bytes ≤ maxRow ∧ s.len + n ≤ maxRow) = true := decide_eq_true (by unfold maxRow; omega)
    rw [h1, cond_f, h2, cond_t, h.row, bind_some]
    have hk : growKill H es s = some (match s.p with
        | none => H
        | some a => match H[a.1]? with
          | some (.cells _ .loose) => H.set a.1 .dead
          | _ => H) := by
      unfold growKill
      cases hp : s.p with
      | none => rfl
      | some a =>
        obtain ⟨g1, g2⟩ := h.blk a hp
        rcases g2 with g2 | g2
        · have : decide (a.2 + s.cap * es = cs.length) = true := decide_eq_true (by rw [g1, h.cap, h.len]; omega)
          simp only [g2, this, cond_t]
        · simp only [g2]
    rw [hk, bind_some]
    unfold grownH
    cases hp : s.p with
    | none => rfl
    | some a =>
      obtain ⟨g1, g2⟩ := h.blk a hp
      rcases g2 with g2 | g2 <;> simp only [g2]
  · refine ⟨rfl, by rw [List.length_append, h.len, hnew, Nat.add_mul], fun hh => by (cases hh), ?_⟩
    rintro a ha
    cases ha
    exact ⟨rfl, .inl (grownH_last H s _)⟩

/-- A block behind does not matter. -/
theorem Grown.mono {H H' : Heap} {es : Nat} {s : Sl} {cs : List C} (h : Grown H es s cs) (hh : ∀ a, s.p = some a → H'[a.1]? = H[a.1]?) : Grown H' es s cs :=
  ⟨h.cap, h.len, h.nil, fun a ha => by rw [hh a ha]; exact h.blk a ha⟩
theorem Grown.lt {H : Heap} {es : Nat} {s : Sl} {cs : List C} (h : Grown H es s cs) {a : Nat × Nat} (ha : s.p = some a) : a.1 < H.length := by
  obtain ⟨_, h2⟩ := h.blk a ha
  rcases h2 with h2 | h2 <;> exact (List.getElem?_eq_some_iff.1 h2).1
theorem Grown.push {H : Heap} {es : Nat} {s : Sl} {cs : List C} (h : Grown H es s cs) (x : Blk) : Grown (H ++ [x]) es s cs :=
  h.mono fun _ ha => app_lt (h.lt ha)

end Ev

namespace Ev
open Go (IntKind)

theorem lt_mul {n i j es : Nat} (hi : i < n) (hj : j < es) : i * es + j < n * es := by
  have : (i + 1) * es ≤ n * es := Nat.mul_le_mul_right _ hi
  rw [Nat.succ_mul] at this; omega
/-- What a step keeps: all but the blocks of F; blocks may be new. -/
structure Keep (F : Nat → Prop) (H H' : Heap) : Prop where
  len : H.length ≤ H'.length
  same : ∀ k, k < H.length → ¬ F k → H'[k]? = H[k]?
theorem Keep.refl (F : Nat → Prop) (H : Heap) : Keep F H H := ⟨Nat.le_refl _, fun _ _ _ => rfl⟩
theorem Keep.trans {F : Nat → Prop} {A B D : Heap} (h : Keep F A B) (k : Keep F B D) : Keep F A D :=
  ⟨Nat.le_trans h.len k.len, fun j hj hf => (k.same j (Nat.lt_of_lt_of_le hj h.len) hf).trans (h.same j hj hf)⟩
theorem Keep.mono {F G : Nat → Prop} {A B : Heap} (h : Keep F A B) (hg : ∀ k, F k → G k) : Keep G A B := ⟨h.len, fun k hk hf => h.same k hk fun x => hf (hg k x)⟩
/-- Blocks that are new do not count. -/
theorem Keep.new {F G : Nat → Prop} {A B : Heap} (h : Keep F A B) (hg : ∀ k, F k → k < A.length → G k) : Keep G A B := ⟨h.len, fun k hk hf => h.same k hk fun x => hf (hg k x hk)⟩
theorem Keep.push (F : Nat → Prop) (H : Heap) (x : Blk) : Keep F H (H ++ [x]) := ⟨by simp, fun _ hk _ => app_lt hk⟩
theorem Keep.set {F : Nat → Prop} (H : Heap) (b : Nat) (x : Blk) (hF : F b) : Keep F H (H.set b x) := ⟨by simp, fun k _ hf => set_get' (fun e => hf (e ▸ hF))⟩
theorem Keep.get {F : Nat → Prop} {A B : Heap} (h : Keep F A B) {k : Nat} {x : Blk} (hk : A[k]? = some x) (hf : ¬ F k) : B[k]? = some x := by
  rw [h.same k (List.getElem?_eq_some_iff.1 hk).1 hf]; exact hk
theorem get_lt {H : Heap} {k : Nat} {x : Blk} (h : H[k]? = some x) : k < H.length := (List.getElem?_eq_some_iff.1 h).1

/-- The cells of a slice. -/
theorem slRow_some {H : Heap} {es : Nat} {s : Sl} {b o : Nat} {row : List C} (hp : s.p = some (b, o)) (h : slRow H es s = some row) : ∃ cs bk, H[b]? = some (.cells cs bk) ∧ o + s.len * es ≤ cs.length ∧ (cs.drop o).take (s.len * es) = row := by
  unfold slRow at h
  rw [hp] at h
  simp only [Heap.row] at h
  split at h
  · rename_i cs bk hb
    unfold cut at h
    by_cases hl : o + s.len * es ≤ cs.length
    · rw [decide_eq_true hl, cond_t] at h
      exact ⟨cs, bk, hb, hl, Option.some.inj h⟩
    · rw [decide_eq_false hl, cond_f] at h; cases h
  · cases h
theorem slRow_len {H : Heap} {es : Nat} {s : Sl} {row : List C} (h : slRow H es s = some row) (hn : s.p = none → s.len = 0) : row.length = s.len * es := by
  cases hp : s.p with
  | none =>
    unfold slRow at h
    rw [hp] at h
    cases h
    rw [hn hp]; simp
  | some a =>
    obtain ⟨cs, bk, _, h2, h3⟩ := slRow_some hp h
    rw [← h3, List.length_take, List.length_drop]; omega
/-- One cell of a slice's row. -/
theorem slRow_cell {H : Heap} {es : Nat} {s : Sl} {row : List C} (h : slRow H es s = some row) {i : Nat} (hi : i < s.len) (hn : s.p = none → s.len = 0) : ∃ b o, s.p = some (b, o) ∧ Sl.at es s (i : Int) = some (b, o + i * es) ∧ ∃ cs bk, H[b]? = some (.cells cs bk) ∧ o + s.len * es ≤ cs.length ∧ ∀ j, j < es → cs[o + i * es + j]? = row[i * es + j]? := by
  cases hp : s.p with
  | none => have := hn hp; omega
  | some a =>
    obtain ⟨cs, bk, h1, h2, h3⟩ := slRow_some hp h
    refine ⟨a.1, a.2, rfl, ?_, cs, bk, h1, h2, ?_⟩
    · cases s; simp only at hp; subst hp; rw [at_of (by omega) (by simpa using hi)]; simp
    · intro j hj
      have hlt : i * es + j < s.len * es := lt_mul hi hj
      rw [← h3, List.getElem?_take, if_pos hlt, List.getElem?_drop, Nat.add_assoc]
theorem slRow_keep {H H' : Heap} {es : Nat} {s : Sl} {row : List C} (h : slRow H es s = some row) (hk : ∀ b o, s.p = some (b, o) → H'[b]? = H[b]?) : slRow H' es s = some row := by
  cases hp : s.p with
  | none => unfold slRow at h ⊢; rw [hp] at h ⊢; exact h
  | some a =>
    have := hk a.1 a.2 hp
    unfold slRow at h ⊢
    rw [hp] at h ⊢
    simp only [Heap.row] at h ⊢
    rw [this]; exact h
end Ev

namespace Ev
open Go (IntKind)

theorem rowsC_get {cts : List CT} : ∀ {rows : List (Tup cts)} {i : Nat} {x : Tup cts} {j : Nat}, rows[i]? = some x → j < cts.length → (rowsOf cts rows)[i * cts.length + j]? = (Tup.mk cts x)[j]?
  | [], _, _, _, h, _ => by simp at h
  | y :: r, 0, x, j, h, hj => by
    simp at h
    subst h
    simp only [rowsOf, List.map_cons, List.flatten_cons, Nat.zero_mul, Nat.zero_add]
    rw [List.getElem?_append_left (by rw [Tup.mk_length]; exact hj)]
  | y :: r, i + 1, x, j, h, hj => by
    have ih := rowsC_get (rows := r) (i := i) (j := j) (by simpa using h) hj
    simp only [rowsOf, List.map_cons, List.flatten_cons] at ih ⊢
    rw [List.getElem?_append_right (by rw [Tup.mk_length, Nat.succ_mul]; omega), Tup.mk_length]
    rw [← ih]
    congr 1
    rw [Nat.succ_mul]; omega
theorem rowsC_length {cts : List CT} : ∀ (rows : List (Tup cts)), (rowsOf cts rows).length = rows.length * cts.length
  | [] => by simp [rowsOf]
  | x :: r => by
    have := rowsC_length r
    simp only [rowsOf, List.map_cons, List.flatten_cons, List.length_append, Tup.mk_length, List.length_cons] at this ⊢
    rw [this, Nat.succ_mul]; omega

def intC (l : List Int) : List C := l.map (C.int .i64)
end Ev

namespace Ev
open Go (IntKind)

/-- A slice whose cells are known. -/
structure Row (H : Heap) (es : Nat) (s : Sl) (row : List C) : Prop where
  row : slRow H es s = some row
  nil : s.p = none → s.len = 0
theorem Row.len {H : Heap} {es : Nat} {s : Sl} {row : List C} (h : Row H es s row) : row.length = s.len * es := slRow_len h.row h.nil
theorem Row.keep {H H' : Heap} {es : Nat} {s : Sl} {row : List C} (h : Row H es s row) {F : Nat → Prop} (k : Keep F H H') (hF : ∀ b o, s.p = some (b, o) → ¬ F b) : Row H' es s row :=
  ⟨slRow_keep h.row fun b o hp => by
    obtain ⟨cs, bk, h1, _, _⟩ := slRow_some hp h.row
    rw [k.get h1 (hF b o hp), h1], h.nil⟩
theorem Row.lt {H : Heap} {es : Nat} {s : Sl} {row : List C} (h : Row H es s row) {b o : Nat} (hp : s.p = some (b, o)) : b < H.length := by
  obtain ⟨cs, bk, h1, _, _⟩ := slRow_some hp h.row
  exact get_lt h1
theorem Row.push {H : Heap} {es : Nat} {s : Sl} {row : List C} (h : Row H es s row) (x : Blk) : Row (H ++ [x]) es s row := h.keep (Keep.push (fun _ => False) H x) fun _ _ _ => id
theorem Row.ni (H : Heap) (es c : Nat) : Row H es ⟨none, 0, c⟩ [] := ⟨rfl, fun _ => rfl⟩
theorem Row.grown {H : Heap} {es : Nat} {s : Sl} {row : List C} (h : Grown H es s row) : Row H es s row := ⟨h.row, h.nil⟩

/-- One number of a slice. -/
theorem Row.int {H : Heap} {s : Sl} {l : List Int} (h : Row H 1 s (intC l)) {i : Nat} (hi : i < l.length) : ∃ b o, s.p = some (b, o) ∧ Sl.at 1 s (i : Int) = some (b, o + i) ∧ rdI .i64 H b (o + i) = some l[i] := by
  have hl := h.len
  simp [intC] at hl
  obtain ⟨b, o, hp, h1, cs, bk, h2, h3, h4⟩ := slRow_cell h.row (i := i) (by omega) h.nil
  refine ⟨b, o, hp, by simpa using h1, rdI_of h2 ?_⟩
  have := h4 0 (by decide)
  simp only [Nat.mul_one, Nat.add_zero] at this
  rw [this]
  simp [intC, hi]
theorem rows_take (cts : List CT) (rows : List (Tup cts)) (n : Nat) : (rowsOf cts rows).take (n * cts.length) = rowsOf cts (rows.take n) := by
  induction rows generalizing n with
  | nil => simp [rowsOf]
  | cons x r ih =>
    cases n with
    | zero => simp [rowsOf]
    | succ n =>
      have := ih n
      simp only [rowsOf, List.map_cons, List.flatten_cons, List.take_succ_cons] at this ⊢
      rw [Nat.succ_mul, Nat.add_comm, List.take_append, List.take_of_length_le (by rw [Tup.mk_length]; omega), Tup.mk_length, Nat.add_sub_cancel_left, this]
theorem came_rows {cts : List CT} {B H : Heap} {s : Sl} (h : Came cts B s H) : ∃ rows : List (Tup cts), Row H cts.length s (rowsOf cts rows) ∧ s.len = rows.length ∧ (∀ x ∈ rows, ∀ c ∈ Tup.mk cts x, wfC c) ∧ ∀ b o, s.p = some (b, o) → b = B.length := by
  rcases h with ⟨rfl, rfl⟩ | ⟨len, rows, rfl, h1, h2, rfl, h3⟩
  · exact ⟨[], ⟨rfl, fun _ => rfl⟩, rfl, fun x hx => absurd hx List.not_mem_nil, fun b o hh => by cases hh⟩
  · refine ⟨rows.take len, ⟨?_, fun hh => by cases hh⟩, by simp; omega, fun x hx => h3 x (List.mem_of_mem_take hx), fun b o hh => by cases hh; rfl⟩
    unfold slRow
    simp only [Heap.row, app_last]
    rw [cut_of (by rw [rowsC_length]; have := Nat.mul_le_mul_right cts.length h1; omega), List.drop_zero, rows_take]
/-- One cell of a row of structs. -/
theorem Row.at {H : Heap} {cts : List CT} {s : Sl} {rows : List (Tup cts)} (h : Row H cts.length s (rowsOf cts rows)) {i : Nat} (hi : i < rows.length) (hpos : 0 < cts.length) : ∃ b o, s.p.isSome ∧ Sl.at cts.length s (i : Int) = some (b, o) ∧ (∃ o', s.p = some (b, o')) ∧ ∃ cs bk, H[b]? = some (.cells cs bk) ∧ o + cts.length ≤ cs.length ∧ (cs.drop o).take cts.length = Tup.mk cts rows[i] := by
  have hl := h.len
  rw [rowsC_length] at hl
  have hsl : s.len = rows.length := Nat.eq_of_mul_eq_mul_right hpos hl.symm
  obtain ⟨b, o, hp, h1, cs, bk, h2, h3, h4⟩ := slRow_cell h.row (i := i) (by omega) h.nil
  have hlt : (i + 1) * cts.length ≤ s.len * cts.length := Nat.mul_le_mul_right _ (by omega)
  rw [Nat.succ_mul] at hlt
  refine ⟨b, o + i * cts.length, by rw [hp]; rfl, h1, ⟨o, hp⟩, cs, bk, h2, by omega, ?_⟩
  apply List.ext_getElem?
  intro j
  rw [List.getElem?_take]
  by_cases hj : j < cts.length
  · rw [if_pos hj, List.getElem?_drop, h4 j hj]
    exact rowsC_get (List.getElem?_eq_getElem hi) hj
  · rw [if_neg hj, List.getElem?_eq_none (by rw [Tup.mk_length]; omega)]
end Ev

namespace Ev
open Go

/-- A loop that counts; the heaps are only known to be there. -/
theorem loop_rise {S X : Type} {step : S → Heap → Option ((S ⊕ X) × Heap)} (n : Nat) (I : Nat → S → Heap → Prop) (Q : X → Heap → Prop)
    (hs : ∀ i y G, i < n → I i y G → (∃ y' G', step y G = some (.inl y', G') ∧ I (i + 1) y' G') ∨ ∃ x G', step y G = some (.inr x, G') ∧ Q x G')
    (he : ∀ y G, I n y G → ∃ x G', step y G = some (.inr x, G') ∧ Q x G') {y : S} {H : Heap} (h0 : I 0 y H) : ∃ x G, loopW step y H = some (x, G) ∧ Q x G := by
  have key : ∀ d i y G, i + d = n → I i y G → ∃ m x G', iter step m y G = some (x, G') ∧ Q x G' := by
    intro d
    induction d with
    | zero =>
      intro i y G hi hI
      have : i = n := by omega
      subst this
      obtain ⟨x, G', g1, g2⟩ := he y G hI
      exact ⟨1, x, G', by rw [iter, g1]; rfl, g2⟩
    | succ d ih =>
      intro i y G hi hI
      rcases hs i y G (by omega) hI with ⟨y', G', g1, g2⟩ | ⟨x, G', g1, g2⟩
      · obtain ⟨m, x, G2, g3, g4⟩ := ih (i + 1) y' G' (by omega) g2
        exact ⟨m + 1, x, G2, by rw [iter, g1]; exact g3, g4⟩
      · exact ⟨1, x, G', by rw [iter, g1]; rfl, g2⟩
  obtain ⟨m, x, G, g1, g2⟩ := key n 0 y H (by omega) h0
  exact ⟨x, G, loopW_eq g1, g2⟩
end Ev

namespace Ev
open Go (IntKind)

section
variable {α : Type}
def Asc (l : List (Int × α)) : Prop := l.Pairwise fun x y => x.1 < y.1
def afind : List (Int × α) → Int → Option α
  | [], _ => none
  | x :: r, k => if x.1 = k then some x.2 else afind r k
def ains : List (Int × α) → Int → α → List (Int × α)
  | [], k, v => [(k, v)]
  | x :: r, k, v => if k < x.1 then (k, v) :: x :: r else if x.1 = k then (k, v) :: r else x :: ains r k v
def adrop : List (Int × α) → Int → List (Int × α)
  | [], _ => []
  | x :: r, k => if x.1 = k then r else x :: adrop r k

theorem Asc.tail {x : Int × α} {l : List (Int × α)} (h : Asc (x :: l)) : Asc l := List.Pairwise.of_cons h
theorem Asc.head {x : Int × α} {l : List (Int × α)} (h : Asc (x :: l)) {y : Int × α} (hy : y ∈ l) : x.1 < y.1 := List.rel_of_pairwise_cons h hy
theorem Asc.nil : Asc ([] : List (Int × α)) := List.Pairwise.nil
theorem afind_none {l : List (Int × α)} {k : Int} (h : ∀ x ∈ l, x.1 ≠ k) : afind l k = none := by
  induction l with
  | nil => rfl
  | cons x l ih => rw [afind, if_neg (h x (by simp))]; exact ih fun y hy => h y (by simp [hy])
theorem afind_mem {l : List (Int × α)} {k : Int} {v : α} (h : afind l k = some v) : (k, v) ∈ l := by
  induction l with
  | nil => cases h
  | cons x l ih =>
    rw [afind] at h
    by_cases e : x.1 = k
    · rw [if_pos e] at h; cases h; rw [← e]; simp
    · rw [if_neg e] at h; exact List.mem_cons_of_mem _ (ih h)
theorem Asc.find {l : List (Int × α)} (h : Asc l) {k : Int} {v : α} (hm : (k, v) ∈ l) : afind l k = some v := by
  induction l with
  | nil => simp at hm
  | cons x l ih =>
    rw [afind]
    rcases List.mem_cons.1 hm with e | hm
    · subst e; rw [if_pos rfl]
    · have := h.head hm
      rw [if_neg (by omega)]
      exact ih h.tail hm
theorem afind_isSome {l : List (Int × α)} {k : Int} : (afind l k).isSome = true ↔ k ∈ l.map Prod.fst := by
  induction l with
  | nil => simp [afind]
  | cons x l ih =>
    rw [afind, List.map_cons, List.mem_cons]
    by_cases e : x.1 = k
    · rw [if_pos e]; simp [e]
    · rw [if_neg e, ih]
      exact ⟨.inr, fun h => h.resolve_left (fun hh => e hh.symm)⟩
theorem ains_mem {l : List (Int × α)} {k : Int} {v : α} {y : Int × α} (h : y ∈ ains l k v) : y = (k, v) ∨ y ∈ l := by
  induction l with
  | nil => exact .inl (by simpa [ains] using h)
  | cons x l ih =>
    rw [ains] at h
    split at h
    · rcases List.mem_cons.1 h with h | h
      · exact .inl h
      · exact .inr h
    · split at h
      · rcases List.mem_cons.1 h with h | h
        · exact .inl h
        · exact .inr (List.mem_cons_of_mem _ h)
      · rcases List.mem_cons.1 h with h | h
        · exact .inr (by simp [h])
        · rcases ih h with h | h
          · exact .inl h
          · exact .inr (List.mem_cons_of_mem _ h)
theorem Asc.ins {l : List (Int × α)} (h : Asc l) (k : Int) (v : α) : Asc (ains l k v) := by
  induction l with
  | nil => exact List.pairwise_singleton _ _
  | cons x l ih =>
    rw [ains]
    by_cases e : k < x.1
    · rw [if_pos e]
      refine List.Pairwise.cons (fun y hy => ?_) h
      rcases List.mem_cons.1 hy with rfl | hy
      · exact e
      · have := h.head hy; show k < y.1; omega
    · rw [if_neg e]
      by_cases e2 : x.1 = k
      · rw [if_pos e2]
        exact List.Pairwise.cons (fun y hy => by have := h.head hy; show k < y.1; omega) h.tail
      · rw [if_neg e2]
        refine List.Pairwise.cons (fun y hy => ?_) (ih h.tail)
        rcases ains_mem hy with rfl | hy
        · show x.1 < k; omega
        · exact h.head hy
theorem Asc.sub {l l' : List (Int × α)} (h : Asc l) (hs : l'.Sublist l) : Asc l' := h.sublist hs
theorem adrop_sub : ∀ (l : List (Int × α)) (k : Int), (adrop l k).Sublist l
  | [], _ => List.Sublist.slnil
  | x :: l, k => by
    rw [adrop]
    split
    · exact List.sublist_cons_self _ _
    · exact (adrop_sub l k).cons_cons _
theorem Asc.drop {l : List (Int × α)} (h : Asc l) (k : Int) : Asc (adrop l k) := h.sub (adrop_sub l k)
theorem afind_ins {l : List (Int × α)} (h : Asc l) (k : Int) (v : α) (k' : Int) : afind (ains l k v) k' = if k' = k then some v else afind l k' := by
  induction l with
  | nil =>
    simp only [ains, afind]
    by_cases e : k = k'
    · rw [if_pos e, if_pos e.symm]
    · rw [if_neg e, if_neg (fun hh => e hh.symm)]
  | cons x l ih =>
    rw [ains]
    by_cases e : k < x.1
    · rw [if_pos e, afind]
      by_cases e2 : k = k'
      · rw [if_pos e2, if_pos e2.symm]
      · rw [if_neg e2, if_neg (fun hh => e2 hh.symm)]
    · rw [if_neg e]
      by_cases e3 : x.1 = k
      · rw [if_pos e3, afind, afind]
        by_cases e2 : k = k'
        · rw [if_pos e2, if_pos e2.symm]
        · rw [if_neg e2, if_neg (fun hh => e2 hh.symm), if_neg (by omega)]
      · rw [if_neg e3, afind, ih h.tail, afind]
        by_cases e2 : x.1 = k'
        · rw [if_pos e2, if_pos e2, if_neg (by omega)]
        · rw [if_neg e2, if_neg e2]
theorem afind_drop {l : List (Int × α)} (h : Asc l) (k : Int) (k' : Int) : afind (adrop l k) k' = if k' = k then none else afind l k' := by
  induction l with
  | nil => simp [adrop, afind]
  | cons x l ih =>
    rw [adrop]
    by_cases e : x.1 = k
    · rw [if_pos e]
      by_cases e2 : k' = k
      · rw [if_pos e2]
        exact afind_none fun y hy => by have := h.head hy; omega
      · rw [if_neg e2, afind, if_neg (by omega)]
    · rw [if_neg e, afind, ih h.tail, afind]
      by_cases e2 : x.1 = k'
      · rw [if_pos e2, if_pos e2, if_neg (by omega)]
      · rw [if_neg e2, if_neg e2]
/-- Two of them that tell the same are the same. -/
theorem asc_ext : ∀ {l l' : List (Int × α)}, Asc l → Asc l' → (∀ k, afind l k = afind l' k) → l = l'
  | [], [], _, _, _ => rfl
  | [], y :: l', _, _, h => by have := h y.1; rw [afind, afind, if_pos rfl] at this; cases this
  | x :: l, [], _, _, h => by have := h x.1; rw [afind, afind, if_pos rfl] at this; cases this
  | x :: l, y :: l', h1, h2, h => by
    have a1 := h x.1
    have a2 := h y.1
    rw [afind, if_pos rfl, afind] at a1
    rw [afind, afind, if_pos rfl] at a2
    have hxy : x.1 = y.1 := by
      by_cases e : y.1 = x.1
      · exact e.symm
      · rw [if_neg e] at a1
        rw [if_neg (fun hh => e hh.symm)] at a2
        have b1 := h2.head (afind_mem a1.symm)
        have b2 := h1.head (afind_mem a2)
        have b1 : y.1 < x.1 := b1
        have b2 : x.1 < y.1 := b2
        omega
    rw [if_pos hxy.symm] at a1
    have hxe : x = y := Prod.ext hxy (Option.some.inj a1)
    subst hxe
    congr 1
    refine asc_ext h1.tail h2.tail fun k => ?_
    have := h k
    rw [afind, afind] at this
    by_cases e : x.1 = k
    · rw [afind_none fun z hz => by have := h1.head hz; omega, afind_none fun z hz => by have := h2.head hz; omega]
    · rwa [if_neg e, if_neg e] at this
theorem ains_length {l : List (Int × α)} {k : Int} {v : α} (hs : Asc l) : (ains l k v).length = if (afind l k).isSome then l.length else l.length + 1 := by
  induction l with
  | nil => simp [ains, afind]
  | cons x l ih =>
    rw [ains]
    by_cases e : k < x.1
    · rw [if_pos e, afind_none (k := k) fun y hy => by
        rcases List.mem_cons.1 hy with rfl | hy
        · omega
        · have := hs.head hy; omega]
      rfl
    · rw [if_neg e]
      by_cases e2 : x.1 = k
      · rw [if_pos e2, afind, if_pos e2]; rfl
      · rw [if_neg e2, List.length_cons, ih hs.tail, afind, if_neg e2, List.length_cons]
        split <;> rfl
theorem adrop_length {l : List (Int × α)} {k : Int} : (adrop l k).length + (if (afind l k).isSome then 1 else 0) = l.length := by
  induction l with
  | nil => rfl
  | cons x l ih =>
    rw [adrop, afind]
    by_cases e : x.1 = k
    · rw [if_pos e, if_pos e]; rfl
    · rw [if_neg e, if_neg e, List.length_cons, List.length_cons, ← ih]; omega

/-- As the heap has it. -/
def encA (f : Int → α → W) (l : List (Int × α)) : MEs := l.map fun x => (x.1, f x.1 x.2)
theorem mfind_enc {f : Int → α → W} : ∀ (l : List (Int × α)) (k : Int), mfind (encA f l) k = (afind l k).map (f k)
  | [], _ => rfl
  | x :: l, k => by
    show (bif decide (x.1 = k) then some (f x.1 x.2) else mfind (encA f l) k) = (if x.1 = k then some x.2 else afind l k).map (f k)
    by_cases e : x.1 = k
    · rw [decide_eq_true e, cond_true, if_pos e, e]; rfl
    · rw [decide_eq_false e, cond_false, if_neg e, mfind_enc l k]
theorem mins_enc {f : Int → α → W} : ∀ (l : List (Int × α)) (k : Int) (v : α), mins (encA f l) k (f k v) = encA f (ains l k v)
  | [], _, _ => rfl
  | x :: l, k, v => by
    show (bif decide (k < x.1) then (k, f k v) :: (x.1, f x.1 x.2) :: encA f l else bif decide (x.1 = k) then (k, f k v) :: encA f l else (x.1, f x.1 x.2) :: mins (encA f l) k (f k v)) = encA f (ains (x :: l) k v)
    rw [ains]
    by_cases e : k < x.1
    · rw [decide_eq_true e, cond_true, if_pos e]; rfl
    · rw [decide_eq_false e, cond_false, if_neg e]
      by_cases e2 : x.1 = k
      · rw [decide_eq_true e2, cond_true, if_pos e2]; rfl
      · rw [decide_eq_false e2, cond_false, if_neg e2, mins_enc l k v]; rfl
theorem mdrop_enc {f : Int → α → W} : ∀ (l : List (Int × α)) (k : Int), mdrop (encA f l) k = encA f (adrop l k)
  | [], _ => rfl
  | x :: l, k => by
    show (bif decide (x.1 = k) then encA f l else (x.1, f x.1 x.2) :: mdrop (encA f l) k) = encA f (adrop (x :: l) k)
    rw [adrop]
    by_cases e : x.1 = k
    · rw [decide_eq_true e, cond_true, if_pos e]
    · rw [decide_eq_false e, cond_false, if_neg e, mdrop_enc l k]; rfl
theorem enc_keys (f : Int → α → W) (l : List (Int × α)) : (encA f l).map Prod.fst = l.map Prod.fst := by
  unfold encA; rw [List.map_map]; rfl
theorem enc_length (f : Int → α → W) (l : List (Int × α)) : (encA f l).length = l.length := by simp [encA]
theorem enc_congr {f g : Int → α → W} {l : List (Int × α)} (h : ∀ x ∈ l, f x.1 x.2 = g x.1 x.2) : encA f l = encA g l := by
  unfold encA
  exact List.map_congr_left fun x hx => by rw [h x hx]
end

/-! In the heap. -/
def MpA {α : Type} (H : Heap) (b : Nat) (f : Int → α → W) (l : List (Int × α)) : Prop := ∃ dc, H[b]? = some (.mp (encA f l) dc)
section
variable {α : Type} {H : Heap} {b : Nat} {f : Int → α → W} {l : List (Int × α)}
theorem MpA.keep (h : MpA H b f l) {F : Nat → Prop} {H' : Heap} (k : Keep F H H') (hb : ¬ F b) : MpA H' b f l := by
  obtain ⟨dc, h⟩ := h
  exact ⟨dc, k.get h hb⟩
theorem MpA.lt (h : MpA H b f l) : b < H.length := by obtain ⟨dc, h⟩ := h; exact get_lt h
theorem mpAt_of {es : MEs} {dc : Nat} (h : H[b]? = some (.mp es dc)) : H.mpAt b = some (es, dc) := by simp [Heap.mpAt, h]
theorem MpA.get (h : MpA H b f l) (ty : Ty) (zero : W) (k : Int) {v : ty.T} (hv : ty.un (((afind l k).map (f k)).getD zero) = some v) : mget H ty zero (some b) k = some (v, (afind l k).isSome) := by
  obtain ⟨dc, h⟩ := h
  simp only [mget, mgetW, mpAt_of h, Option.bind_some, mfind_enc, hv, Option.isSome_map]
theorem MpA.set (h : MpA H b f l) (k : Int) (v : α) : ∃ H', mset H (some b) k (f k v) = some H' ∧ MpA H' b f (ains l k v) ∧ Keep (fun j => j = b) H H' := by
  obtain ⟨dc, h⟩ := h
  refine ⟨H.set b (.mp (encA f (ains l k v)) dc), ?_, ⟨dc, set_get (get_lt h)⟩, Keep.set _ _ _ rfl⟩
  simp only [mset, Option.bind_some, mpAt_of h, mins_enc]
theorem MpA.del (h : MpA H b f l) (k : Int) : ∃ H', mdel H (some b) k = some H' ∧ MpA H' b f (adrop l k) ∧ Keep (fun j => j = b) H H' := by
  obtain ⟨dc, h⟩ := h
  refine ⟨H.set b (.mp (encA f (adrop l k)) (dc + 1)), ?_, ⟨_, set_get (get_lt h)⟩, Keep.set _ _ _ rfl⟩
  simp only [mdel, mpAt_of h, Option.bind_some, mdrop_enc]
theorem MpA.len (h : MpA H b f l) : mlen H (some b) = some (l.length : Int) := by
  obtain ⟨dc, h⟩ := h
  simp only [mlen, mpAt_of h, Option.bind_some, enc_length]
theorem MpA.keys (h : MpA H b f l) : mkeys H (some b) = some (l.map Prod.fst) := by
  obtain ⟨dc, h⟩ := h
  simp only [mkeys, mpAt_of h, Option.bind_some, enc_keys]
theorem MpA.mat (h : MpA H b f l) (ty : Ty) (k : Int) {v : ty.T} (hv : ((afind l k).map (f k)).bind ty.un = some v) : mat H ty (some b) k = some v := by
  obtain ⟨dc, h⟩ := h
  simp only [Ev.mat, mgetW, mpAt_of h, Option.bind_some, mfind_enc, hv]
theorem MpA.clone (h : MpA H b f l) : mclone (some b) H = some ((some H.length, ()), H ++ [.mp (encA f l) 0]) := by
  obtain ⟨dc, h⟩ := h
  simp only [mclone, mpAt_of h, Option.bind_some]
theorem MpA.sorted (h : MpA H b f l) (hl : l.length ≤ 1099511627776) (hk : ∀ x ∈ l, -9223372036854775808 ≤ x.1 ∧ x.1 ≤ 9223372036854775807) :
    ∃ s G, sortedKeys (some (H.length, 0), ()) (H ++ [.cells [.mp (some b)] .exact]) = some ((s, ()), G) ∧ slRow G 1 s = some ((l.map Prod.fst).map (C.int .i64)) ∧ s.len = l.length ∧ (s.p = none → s.len = 0) ∧ (∀ a, s.p = some a → H.length < a.1) ∧ Keep (fun _ => False) H G := by
  have hb := h.lt
  have hkeys : mkeys (H ++ [.cells [.mp (some b)] .exact]) (some b) = some (l.map Prod.fst) := (h.keep (Keep.push (fun _ => False) H _) id).keys
  have hc : (decide ((l.map Prod.fst).length ≤ 1099511627776) && ((l.map Prod.fst).all fun k => decide (-9223372036854775808 ≤ k ∧ k ≤ 9223372036854775807))) = true := by
    rw [decide_eq_true (by simpa using hl), Bool.true_and, List.all_eq_true]
    intro k hk'
    obtain ⟨x, hx, rfl⟩ := List.mem_map.1 hk'
    exact decide_eq_true (hk x hx)
  have e : sortedKeys (some (H.length, 0), ()) (H ++ [.cells [.mp (some b)] .exact]) = keysSl (H ++ [.cells [.mp (some b)] .exact]) (l.map Prod.fst) := by
    simp only [sortedKeys, Option.bind_some, decide_true, cond_true, List.getElem?_append_right (Nat.le_refl _), Nat.sub_self, List.getElem?_cons_zero, hkeys]
  rw [e, keysSl, hc, cond_true]
  by_cases h0 : l = []
  · subst h0
    exact ⟨⟨none, 0, 0⟩, _, rfl, rfl, rfl, fun _ => rfl, fun a ha => (by cases ha), Keep.push _ _ _⟩
  · rw [decide_eq_false (by simpa using h0), cond_false]
    refine ⟨_, _, rfl, ?_, by simp, fun hh => (by cases hh), fun a ha => by cases ha; simp, (Keep.push _ H _).trans (Keep.push _ _ _)⟩
    unfold slRow
    simp only [Heap.row]
    rw [List.getElem?_append_right (Nat.le_refl _), Nat.sub_self]
    simp [cut]
    exact List.take_of_length_le (by simp)
theorem MpA.head (h : MpA H b f l) : ∃ dc, mhead H (some b) = some (l.length, dc) := by
  obtain ⟨dc, h⟩ := h
  exact ⟨dc, by simp only [mhead, mpAt_of h, Option.bind_some, enc_length]⟩
end
end Ev

namespace Ev

theorem renP_id (p : Ptr) : renP (fun b => b) p = p := by cases p <;> rfl
theorem C.ren_id (c : C) : c.ren (fun b => b) = c := by
  cases c with
  | ptr p => simp [C.ren, renP_id]
  | sl es s => simp [C.ren, renP_id]
  | mp r => cases r <;> rfl
  | clo g ps => simp only [C.ren]; congr 1; exact (List.map_congr_left fun p _ => renP_id p).trans (List.map_id' ps)
  | _ => rfl
theorem cs_ren_id (cs : List C) : cs.map (C.ren fun b => b) = cs := (List.map_congr_left fun c _ => C.ren_id c).trans (List.map_id' cs)
theorem W.ren_id (x : W) : x.ren (fun b => b) = x := by
  cases x with
  | one c => simp [W.ren, C.ren_id]
  | agg cs => simp [W.ren, cs_ren_id]
theorem Blk.ren_id (x : Blk) : x.ren (fun b => b) = x := by
  cases x with
  | cells cs bk => simp [Blk.ren, cs_ren_id]
  | dead => rfl
  | mp es dc =>
    simp only [Blk.ren, W.ren_id]
    congr 1
    exact (List.map_congr_left fun x _ => rfl).trans (List.map_id' es)
theorem Alike.refl (H0 H : Heap) : Alike H0 H H :=
  ⟨fun b => b, fun b => b, fun _ => rfl, fun _ => rfl, fun _ _ => rfl, rfl, fun b => .inl (by cases H[b]? with | none => rfl | some x => simp [Blk.ren_id])⟩

/-- A range whose rounds are known in every order. -/
theorem eachW_of {S : Type} {step : Int → S → Heap → Option (S × Heap)} {m : Option Nat} {s : S} {H : Heap} {ks : List Int} {hd : Nat × Nat} (hk : mkeys H m = some ks) (hh : mhead H m = some hd) (hnd : ks.Nodup)
    (st : List Int → S) (F : List Int → Heap) (h0 : st [] = s) (h1 : F [] = H)
    (hs : ∀ (l : List Int) (k : Int), (∀ x ∈ l, x ∈ ks) → l.Nodup → k ∈ ks → k ∉ l → step k (st l) (F l) = some (st (l ++ [k]), F (l ++ [k])) ∧ mhead (F (l ++ [k])) m = some hd)
    (ha : ∀ l : List Int, l.Perm ks → st l = st ks ∧ Alike H (F l) (F ks)) : eachW step m s H = some (st ks, F ks) := by
  have run : ∀ (r l : List Int), (l ++ r).Nodup → (∀ x ∈ l ++ r, x ∈ ks) → runK step m hd r (st l) (F l) = some (st (l ++ r), F (l ++ r)) := by
    intro r
    induction r with
    | nil => intro l _ _; rw [List.append_nil]; rfl
    | cons k r ih =>
      intro l hn hm
      have hn' := List.nodup_append.1 hn
      obtain ⟨g1, g2⟩ := hs l k (fun x hx => hm x (by simp [hx])) hn'.1 (hm k (by simp)) (fun hx => hn'.2.2 k hx k (by simp) rfl)
      simp only [runK, g1]
      show (if mhead (F (l ++ [k])) m = some hd then _ else none) = _
      rw [if_pos g2]
      have := ih (l ++ [k]) (by rw [List.append_assoc]; exact hn) (fun x hx => hm x (by rw [List.append_assoc] at hx; exact hx))
      rw [List.append_assoc] at this
      exact this
  have all : ∀ l : List Int, l.Perm ks → runK step m hd l s H = some (st l, F l) := by
    intro l hl
    have := run l [] (by rw [List.nil_append]; exact hl.nodup_iff.2 hnd) (fun x hx => hl.subset (by simpa using hx))
    rw [List.nil_append, h0, h1] at this
    exact this
  unfold eachW
  simp only [hk, hh, Option.bind_some]
  rw [if_pos ⟨_, all ks (List.Perm.refl _), fun l hl => ⟨_, all l hl, ha l hl⟩⟩]
  exact all ks (List.Perm.refl _)
/-! Rows of blocks that come with each key. -/
section
variable (len : Int → Nat)
/-- Where a key's blocks begin. -/
def kpos : List Int → Int → Nat
  | [], _ => 0
  | x :: l, k => if x = k then 0 else len x + kpos l k
/-- Whose block it is. -/
def kloc : List Int → Nat → Option (Int × Nat)
  | [], _ => none
  | x :: l, n => if n < len x then some (x, n) else kloc l (n - len x)
def ktot : List Int → Nat
  | [] => 0
  | x :: l => len x + ktot l
theorem kloc_pos : ∀ {l : List Int} {k : Int} {j : Nat}, k ∈ l → j < len k → kloc len l (kpos len l k + j) = some (k, j)
  | x :: l, k, j, h, hj => by
    rw [kpos, kloc]
    by_cases e : x = k
    · subst e; rw [if_pos rfl, Nat.zero_add, if_pos hj]
    · rw [if_neg e, if_neg (by omega), show len x + kpos len l k + j - len x = kpos len l k + j by omega]
      exact kloc_pos ((List.mem_cons.1 h).resolve_left (fun hh => e hh.symm)) hj
theorem kpos_loc : ∀ {l : List Int} {n : Nat} {k : Int} {j : Nat}, l.Nodup → kloc len l n = some (k, j) → n = kpos len l k + j ∧ j < len k ∧ k ∈ l
  | x :: l, n, k, j, hn, h => by
    rw [kloc] at h
    rw [List.nodup_cons] at hn
    by_cases e : n < len x
    · rw [if_pos e] at h
      cases h
      rw [kpos, if_pos rfl]
      exact ⟨by omega, e, by simp⟩
    · rw [if_neg e] at h
      obtain ⟨h1, h2, h3⟩ := kpos_loc hn.2 h
      have hx : x ≠ k := fun hh => hn.1 (by rw [hh]; exact h3)
      rw [kpos, if_neg hx]
      exact ⟨by omega, h2, List.mem_cons_of_mem _ h3⟩
theorem kloc_lt : ∀ {l : List Int} {n : Nat}, n < ktot len l ↔ (kloc len l n).isSome = true
  | [], n => by simp [ktot, kloc]
  | x :: l, n => by
    rw [ktot, kloc]
    by_cases e : n < len x
    · rw [if_pos e]; simp; omega
    · rw [if_neg e, ← kloc_lt (l := l)]; omega
theorem ktot_perm {l l' : List Int} (h : l.Perm l') : ktot len l = ktot len l' := by
  induction h with
  | nil => rfl
  | cons x _ ih => rw [ktot, ktot, ih]
  | swap x y l => simp only [ktot]; omega
  | trans _ _ h1 h2 => exact h1.trans h2
theorem kpos_append {l : List Int} {k : Int} (h : k ∉ l) (r : List Int) : kpos len (l ++ k :: r) k = ktot len l := by
  induction l with
  | nil => simp [kpos, ktot]
  | cons x l ih =>
    rw [List.mem_cons] at h
    rw [List.cons_append, kpos, if_neg (fun e => h (.inl e.symm)), ih (fun hh => h (.inr hh)), ktot]
theorem kpos_left {l : List Int} {k : Int} (h : k ∈ l) (r : List Int) : kpos len (l ++ r) k = kpos len l k := by
  induction l with
  | nil => simp at h
  | cons x l ih =>
    rw [List.cons_append, kpos, kpos]
    by_cases e : x = k
    · rw [if_pos e, if_pos e]
    · rw [if_neg e, if_neg e, ih ((List.mem_cons.1 h).resolve_left fun hh => e hh.symm)]
/-- The numbers of one order in the other. -/
def kren (N : Nat) (l l' : List Int) (b : Nat) : Nat :=
  if b < N then b else match kloc len l (b - N) with
    | some (k, j) => N + (kpos len l' k + j)
    | none => b
theorem kren_low {N : Nat} {l l' : List Int} {b : Nat} (h : b < N) : kren len N l l' b = b := by rw [kren, if_pos h]
theorem kren_at {N : Nat} {l l' : List Int} {k : Int} {j : Nat} (h : k ∈ l) (hj : j < len k) : kren len N l l' (N + (kpos len l k + j)) = N + (kpos len l' k + j) := by
  rw [kren, if_neg (by omega), show N + (kpos len l k + j) - N = kpos len l k + j by omega, kloc_pos len h hj]
theorem kren_inv {N : Nat} {l l' : List Int} (hp : l.Perm l') (hn : l.Nodup) (b : Nat) : kren len N l' l (kren len N l l' b) = b := by
  by_cases h : b < N
  · rw [kren_low len h, kren_low len h]
  · cases hk : kloc len l (b - N) with
    | none =>
      have e : kren len N l l' b = b := by rw [kren, if_neg h, hk]
      rw [e]
      have h1 : ¬ b - N < ktot len l := fun hh => by rw [kloc_lt, hk] at hh; cases hh
      rw [ktot_perm len hp] at h1
      cases hk' : kloc len l' (b - N) with
      | none => rw [kren, if_neg h, hk']
      | some q => exact absurd ((kloc_lt len).2 (by rw [hk']; rfl)) h1
    | some q =>
      obtain ⟨k, j⟩ := q
      obtain ⟨h1, h2, h3⟩ := kpos_loc len hn hk
      have e : b = N + (kpos len l k + j) := by omega
      rw [e, kren_at len h3 h2, kren_at len (hp.subset h3) h2]

/-- Blocks that were laid key by key, in two orders. -/
theorem alike_rows {H0 G1 G2 : Heap} {l l' : List Int} (hp : l.Perm l') (hn : l.Nodup) (hl : G1.length = H0.length) (hl2 : G2.length = H0.length) (B1 B2 : Heap) (h1 : B1.length = ktot len l) (h2 : B2.length = ktot len l')
    (hG : ∀ b, b < H0.length → G2[b]? = (G1[b]?).map (Blk.ren (kren len H0.length l l')) ∨ (G1[b]? = H0[b]? ∧ G2[b]? = H0[b]?))
    (hB : ∀ k ∈ l, ∀ j, j < len k → B2[kpos len l' k + j]? = (B1[kpos len l k + j]?).map (Blk.ren (kren len H0.length l l'))) : Alike H0 (G1 ++ B1) (G2 ++ B2) := by
  refine ⟨kren len H0.length l l', kren len H0.length l' l, kren_inv len hp hn, kren_inv len hp.symm (hp.nodup_iff.1 hn), fun b hb => kren_low len hb, ?_, fun b => ?_⟩
  · rw [List.length_append, List.length_append, h1, h2, hl, hl2, ktot_perm len hp]
  · by_cases hb : b < H0.length
    · rw [kren_low len hb, List.getElem?_append_left (by omega), List.getElem?_append_left (by omega)]
      rcases hG b hb with h | ⟨h, h'⟩
      · exact .inl h
      · exact .inr ⟨hb, h, h'⟩
    · left
      cases hk : kloc len l (b - H0.length) with
      | none =>
        have hge : ¬ b - H0.length < ktot len l := fun hh => by rw [kloc_lt, hk] at hh; cases hh
        have hge' := hge
        rw [ktot_perm len hp] at hge'
        rw [kren, if_neg hb, hk]
        simp only
        rw [List.getElem?_eq_none (by rw [List.length_append]; omega), List.getElem?_eq_none (by rw [List.length_append]; omega)]
        rfl
      | some q =>
        obtain ⟨k, j⟩ := q
        obtain ⟨g1, g2, g3⟩ := kpos_loc len hn hk
        have e : b = H0.length + (kpos len l k + j) := by omega
        rw [e, kren_at len g3 g2, List.getElem?_append_right (by omega), List.getElem?_append_right (by omega), hl, hl2, show H0.length + (kpos len l k + j) - H0.length = kpos len l k + j by omega, show H0.length + (kpos len l' k + j) - H0.length = kpos len l' k + j by omega]
        exact hB k g3 j g2
end
end Ev

namespace Ev
open Go (IntKind)

/-- Two with one key, one after the other. -/
theorem ains_drop {α : Type} {l : List (Int × α)} (h : Asc l) (k : Int) (v : α) : ains (adrop l k) k v = ains l k v :=
  asc_ext ((h.drop k).ins k v) (h.ins k v) fun k' => by
    rw [afind_ins (h.drop k), afind_ins h, afind_drop h]
    by_cases e : k' = k
    · rw [if_pos e, if_pos e]
    · rw [if_neg e, if_neg e, if_neg e]
/-- How many keys there may be. -/
theorem asc_bound {α : Type} : ∀ {l : List (Int × α)} {a : Int} {n : Nat}, Asc l → (∀ x ∈ l, a ≤ x.1 ∧ x.1 < a + n) → l.length ≤ n
  | [], _, _, _, _ => Nat.zero_le _
  | x :: l, a, n, h, hb => by
    have h1 := hb x (by simp)
    have ih := asc_bound (l := l) (a := x.1 + 1) (n := (a + n - (x.1 + 1)).toNat) h.tail fun y hy => by
      have h2 := h.head hy
      have h3 := hb y (by simp [hy])
      omega
    rw [List.length_cons]
    omega

/-- The pages of a space. -/
def pgs {α : Type} (lv : List (Int × α)) (id : Int) : List (Int × α) := (lv.filter fun x => decide (x.1 / 1024 = id)).map fun x => (x.1 % 1024, x.2)
section
variable {α : Type} {lv : List (Int × α)}
theorem key_div (id p : Int) (h0 : 0 ≤ p) (h1 : p < 1024) : (id * 1024 + p) / 1024 = id ∧ (id * 1024 + p) % 1024 = p := by omega
theorem pgs_asc (h : Asc lv) (id : Int) : Asc (pgs lv id) := by
  unfold pgs Asc
  rw [List.pairwise_map]
  have h1 : (lv.filter fun x => decide (x.1 / 1024 = id)).Pairwise fun x y => x.1 < y.1 := List.Pairwise.filter _ h
  refine h1.imp_of_mem fun {x y} hx hy hlt => ?_
  have hx := (List.mem_filter.1 hx).2
  have hy := (List.mem_filter.1 hy).2
  simp only [decide_eq_true_eq] at hx hy
  show x.1 % 1024 < y.1 % 1024
  omega
theorem pgs_find (h : Asc lv) (id p : Int) : afind (pgs lv id) p = if 0 ≤ p ∧ p < 1024 then afind lv (id * 1024 + p) else none := by
  cases hf : afind (pgs lv id) p with
  | some v =>
    have := afind_mem hf
    unfold pgs at this
    obtain ⟨x, hx, he⟩ := List.mem_map.1 this
    have hx' := List.mem_filter.1 hx
    simp only [decide_eq_true_eq] at hx'
    have e1 : x.1 % 1024 = p := congrArg Prod.fst he
    have e2 : x.2 = v := congrArg Prod.snd he
    rw [if_pos (by omega)]
    have hk : x.1 = id * 1024 + p := by omega
    exact (h.find (k := id * 1024 + p) (v := v) (by rw [← hk, ← e2]; exact hx'.1)).symm
  | none =>
    by_cases hp : 0 ≤ p ∧ p < 1024
    · rw [if_pos hp]
      cases hf2 : afind lv (id * 1024 + p) with
      | none => rfl
      | some v =>
        have hm := afind_mem hf2
        have : (p, v) ∈ pgs lv id := by
          unfold pgs
          exact List.mem_map.2 ⟨(id * 1024 + p, v), List.mem_filter.2 ⟨hm, by simp; omega⟩, by show ((id * 1024 + p) % 1024, v) = (p, v); rw [(key_div id p hp.1 hp.2).2]⟩
        rw [(pgs_asc h id).find this] at hf
        cases hf
    · rw [if_neg hp]
theorem pgs_ins (h : Asc lv) (id p : Int) (v : α) (h0 : 0 ≤ p ∧ p < 1024) (id' : Int) : pgs (ains lv (id * 1024 + p) v) id' = if id' = id then ains (pgs lv id) p v else pgs lv id' := by
  by_cases e : id' = id
  · subst e
    rw [if_pos rfl]
    refine asc_ext (pgs_asc (h.ins _ _) _) ((pgs_asc h _).ins _ _) fun k => ?_
    rw [pgs_find (h.ins _ _), afind_ins h, afind_ins (pgs_asc h _), pgs_find h]
    by_cases e2 : k = p
    · subst e2; rw [if_pos h0, if_pos rfl, if_pos rfl]
    · rw [if_neg e2]
      by_cases h1 : 0 ≤ k ∧ k < 1024
      · rw [if_pos h1, if_pos h1, if_neg (by omega)]
      · rw [if_neg h1, if_neg h1]
  · rw [if_neg e]
    refine asc_ext (pgs_asc (h.ins _ _) _) (pgs_asc h _) fun k => ?_
    rw [pgs_find (h.ins _ _), afind_ins h, pgs_find h]
    by_cases h1 : 0 ≤ k ∧ k < 1024
    · rw [if_pos h1, if_pos h1, if_neg (by omega)]
    · rw [if_neg h1, if_neg h1]
theorem pgs_drop (h : Asc lv) (id p : Int) (h0 : 0 ≤ p ∧ p < 1024) (id' : Int) : pgs (adrop lv (id * 1024 + p)) id' = if id' = id then adrop (pgs lv id) p else pgs lv id' := by
  by_cases e : id' = id
  · subst e
    rw [if_pos rfl]
    refine asc_ext (pgs_asc (h.drop _) _) ((pgs_asc h _).drop _) fun k => ?_
    rw [pgs_find (h.drop _), afind_drop h, afind_drop (pgs_asc h _), pgs_find h]
    by_cases e2 : k = p
    · subst e2; rw [if_pos h0, if_pos rfl, if_pos rfl]
    · rw [if_neg e2]
      by_cases h1 : 0 ≤ k ∧ k < 1024
      · rw [if_pos h1, if_pos h1, if_neg (by omega)]
      · rw [if_neg h1, if_neg h1]
  · rw [if_neg e]
    refine asc_ext (pgs_asc (h.drop _) _) (pgs_asc h _) fun k => ?_
    rw [pgs_find (h.drop _), afind_drop h, pgs_find h]
    by_cases h1 : 0 ≤ k ∧ k < 1024
    · rw [if_pos h1, if_pos h1, if_neg (by omega)]
    · rw [if_neg h1, if_neg h1]
theorem pgs_mem {id : Int} {x : Int × α} (h : x ∈ pgs lv id) : 0 ≤ x.1 ∧ x.1 < 1024 ∧ (id * 1024 + x.1, x.2) ∈ lv := by
  unfold pgs at h
  obtain ⟨y, hy, rfl⟩ := List.mem_map.1 h
  have hy' := List.mem_filter.1 hy
  simp only [decide_eq_true_eq] at hy'
  refine ⟨by show 0 ≤ y.1 % 1024; omega, by show y.1 % 1024 < 1024; omega, ?_⟩
  have : id * 1024 + y.1 % 1024 = y.1 := by omega
  show (id * 1024 + y.1 % 1024, y.2) ∈ lv
  rw [this]; exact hy'.1
end

/-! Places. -/
def cnt (lv : List (Int × Int)) (c : Int) : Nat := (lv.filter fun x => decide (x.2 = c)).length
theorem cnt_nil (c : Int) : cnt [] c = 0 := rfl
theorem cnt_cons (x : Int × Int) (l : List (Int × Int)) (c : Int) : cnt (x :: l) c = (if x.2 = c then 1 else 0) + cnt l c := by
  unfold cnt
  rw [List.filter_cons]
  by_cases h : x.2 = c
  · rw [if_pos (decide_eq_true h), if_pos h, List.length_cons]; omega
  · rw [if_neg (by simpa using h), if_neg h]; omega
theorem cnt_le (lv : List (Int × Int)) (c : Int) : cnt lv c ≤ lv.length := List.length_filter_le _ _
theorem cnt_drop {lv : List (Int × Int)} {k v : Int} (hv : afind lv k = some v) (c : Int) : cnt (adrop lv k) c + (if v = c then 1 else 0) = cnt lv c := by
  induction lv with
  | nil => cases hv
  | cons x l ih =>
    rw [afind] at hv
    rw [adrop]
    by_cases e : x.1 = k
    · rw [if_pos e] at hv ⊢; cases hv; rw [cnt_cons]; omega
    · rw [if_neg e] at hv ⊢; rw [cnt_cons, cnt_cons, ← ih hv]; omega
theorem cnt_pos {lv : List (Int × Int)} {k v : Int} (hv : afind lv k = some v) : 0 < cnt lv v := by
  have := cnt_drop hv v
  rw [if_pos rfl] at this
  omega

/-- How many stand at each place. -/
structure RfOK (rf lv : List (Int × Int)) : Prop where
  asc : Asc rf
  find : ∀ c, afind rf c = if cnt lv c = 0 then none else some (cnt lv c : Int)
theorem RfOK.uniq {rf rf' lv : List (Int × Int)} (h : RfOK rf lv) (h' : RfOK rf' lv) : rf = rf' := asc_ext h.asc h'.asc fun c => by rw [h.find, h'.find]
theorem RfOK.get {rf lv : List (Int × Int)} (h : RfOK rf lv) (c : Int) : (afind rf c).getD 0 = (cnt lv c : Int) := by
  rw [h.find]
  by_cases e : cnt lv c = 0
  · rw [if_pos e, e]; rfl
  · rw [if_neg e]; rfl
theorem RfOK.nil : RfOK [] [] := ⟨Asc.nil, fun c => by rw [cnt_nil, if_pos rfl]; rfl⟩
/-- One more, one less. -/
theorem RfOK.more {rf lv lv' : List (Int × Int)} (h : RfOK rf lv) {v : Int} (hc : ∀ c, cnt lv' c = cnt lv c + (if v = c then 1 else 0)) : RfOK (ains rf v ((cnt lv v : Int) + 1)) lv' :=
  ⟨h.asc.ins _ _, fun c => by
    rw [afind_ins h.asc, hc, h.find]
    by_cases e : c = v
    · subst e; rw [if_pos rfl, if_pos rfl, if_neg (by omega)]; congr 1
    · have hv : (if v = c then 1 else 0) = 0 := if_neg fun hh => e hh.symm
      rw [if_neg e, hv]; rfl⟩
theorem RfOK.less {rf lv lv' : List (Int × Int)} (h : RfOK rf lv) {v : Int} (hc : ∀ c, cnt lv' c + (if v = c then 1 else 0) = cnt lv c) :
    RfOK (if cnt lv' v = 0 then adrop (ains rf v (cnt lv' v : Int)) v else ains rf v (cnt lv' v : Int)) lv' := by
  by_cases e0 : cnt lv' v = 0
  · rw [if_pos e0]
    refine ⟨(h.asc.ins _ _).drop _, fun c => ?_⟩
    rw [afind_drop (h.asc.ins _ _), afind_ins h.asc, h.find]
    have := hc c
    by_cases e : c = v
    · subst e; rw [if_pos rfl, if_pos e0]
    · rw [if_neg e, if_neg e]
      rw [if_neg (fun hh => e hh.symm)] at this
      rw [← this]; rfl
  · rw [if_neg e0]
    refine ⟨h.asc.ins _ _, fun c => ?_⟩
    rw [afind_ins h.asc, h.find]
    have := hc c
    by_cases e : c = v
    · subst e; rw [if_pos rfl, if_neg e0]
    · rw [if_neg e]
      rw [if_neg (fun hh => e hh.symm)] at this
      rw [← this]; rfl
/-- The table of a list. -/
def rfOf : List (Int × Int) → List (Int × Int)
  | [] => []
  | x :: l => ains (rfOf l) x.2 ((cnt l x.2 : Int) + 1)
theorem rfOf_ok : ∀ lv : List (Int × Int), RfOK (rfOf lv) lv
  | [] => RfOK.nil
  | x :: l => (rfOf_ok l).more fun c => by rw [cnt_cons]; omega

structure Sta where
  sp : List (Int × Int × Bool)
  lv : List (Int × Int)
  bd : List (Int × Unit)
  wn : List (Int × Int)

structure SaW (st : Sta) : Prop where
  sp : Asc st.sp
  lv : Asc st.lv
  bd : Asc st.bd
  wn : Asc st.wn
  own : ∀ x ∈ st.lv, (afind st.sp (x.1 / 1024)).isSome = true
  ids : ∀ x ∈ st.sp, 1 ≤ x.1 ∧ x.1 ≤ 15 ∧ x.2.1 ≤ 1024
  bds : ∀ x ∈ st.bd, 0 ≤ x.1 ∧ x.1 ≤ 31
  wns : ∀ x ∈ st.wn, 0 ≤ x.1 ∧ x.1 ≤ 31
theorem SaW.lvs {st : Sta} (w : SaW st) : ∀ x ∈ st.lv, 1024 ≤ x.1 ∧ x.1 < 1024 + 15360 := by
  intro x hx
  obtain ⟨v, hv⟩ := Option.isSome_iff_exists.1 (w.own x hx)
  have := w.ids _ (afind_mem hv)
  have h1 : 1 ≤ x.1 / 1024 ∧ x.1 / 1024 ≤ 15 := ⟨this.1, this.2.1⟩
  omega
theorem SaW.many {st : Sta} (w : SaW st) : st.lv.length ≤ 15360 := asc_bound w.lv w.lvs
theorem SaW.few {st : Sta} (w : SaW st) : st.sp.length ≤ 15 := asc_bound (a := 1) w.sp fun x hx => by have := w.ids x hx; omega
theorem SaW.pgl {st : Sta} (w : SaW st) (id : Int) : (pgs st.lv id).length ≤ 1024 := asc_bound (a := 0) (pgs_asc w.lv id) fun x hx => by have := pgs_mem hx; omega
end Ev

namespace Ev
open Go (IntKind)

theorem tl_get0 (H t : Heap) : (H ++ t)[H.length]? = t[0]? := by rw [List.getElem?_append_right (Nat.le_refl _), Nat.sub_self]
theorem tl_get1 (H t : Heap) (i : Nat) : (H ++ t)[H.length + i]? = t[i]? := by rw [List.getElem?_append_right (by omega), Nat.add_sub_cancel_left]
theorem rd_at {H G : Heap} {b c : Nat} (h : H[b]? = G[c]?) (ty : Ty) (o : Nat) : rd H ty b o = rd G ty c o := by
  cases ty with
  | one t => show (H.cell b o).bind _ = (G.cell c o).bind _; unfold Heap.cell; rw [h]
  | agg ts => show (H.row b o _).bind _ = (G.row c o _).bind _; unfold Heap.row; rw [h]
section
variable (H t : Heap) (i o : Nat) (k : IntKind)
theorem rd_t0 (ty : Ty) : rd (H ++ t) ty H.length o = rd t ty 0 o := rd_at (tl_get0 H t) ty o
theorem rd_t1 (ty : Ty) : rd (H ++ t) ty (H.length + i) o = rd t ty i o := rd_at (tl_get1 H t i) ty o
theorem rdI_t0 : rdI k (H ++ t) H.length o = rdI k t 0 o := rd_t0 H t o _
theorem rdI_t1 : rdI k (H ++ t) (H.length + i) o = rdI k t i o := rd_t1 H t i o _
theorem rdB_t0 : rdB (H ++ t) H.length o = rdB t 0 o := rd_t0 H t o _
theorem rdB_t1 : rdB (H ++ t) (H.length + i) o = rdB t i o := rd_t1 H t i o _
theorem rdM_t0 : rdM (H ++ t) H.length o = rdM t 0 o := rd_t0 H t o _
theorem rdM_t1 : rdM (H ++ t) (H.length + i) o = rdM t i o := rd_t1 H t i o _
theorem wr_t1 (new : List C) : wr (H ++ t) (H.length + i) o new = (wr t i o new).map fun t' => H ++ t' := by
  unfold wr
  rw [tl_get1]
  cases h : t[i]? with
  | none => rfl
  | some x =>
    cases x with
    | cells cs bk =>
      simp only
      cases (decide (bk ≠ .ro) && decide (o + new.length ≤ cs.length)) with
      | false => rfl
      | true =>
        simp only [cond_true, Option.map_some]
        rw [List.set_append_right _ _ (by omega), Nat.add_sub_cancel_left]
    | _ => rfl
theorem wr_t0 (new : List C) : wr (H ++ t) H.length o new = (wr t 0 o new).map fun t' => H ++ t' := wr_t1 H t 0 o new
end
section
variable (x : Blk) (t : Heap) (i o : Nat) (k : IntKind) (cs : List C) (bk : BK)
theorem rd_c1 (ty : Ty) : rd (x :: t) ty (i + 1) o = rd t ty i o := rd_at List.getElem?_cons_succ ty o
theorem rdI_c1 : rdI k (x :: t) (i + 1) o = rdI k t i o := rd_c1 x t i o _
theorem rdB_c1 : rdB (x :: t) (i + 1) o = rdB t i o := rd_c1 x t i o _
theorem rdM_c1 : rdM (x :: t) (i + 1) o = rdM t i o := rd_c1 x t i o _
theorem rdI_c0 : rdI k (.cells cs bk :: t) 0 o = (cs[o]?).bind (CT.un (.int k)) := rfl
theorem rdB_c0 : rdB (.cells cs bk :: t) 0 o = (cs[o]?).bind (CT.un .bool) := rfl
theorem rdM_c0 : rdM (.cells cs bk :: t) 0 o = (cs[o]?).bind (CT.un .mp) := rfl
theorem wr_c1 (new : List C) : wr (x :: t) (i + 1) o new = (wr t i o new).map fun t' => x :: t' := by
  have := wr_t1 [x] t i o new
  rw [show [x].length + i = i + 1 from Nat.add_comm _ _] at this
  exact this
theorem wr_c0 (new : List C) (h : o + new.length ≤ cs.length) : wr (.cells cs .exact :: t) 0 o new = some (.cells (setL cs o new) .exact :: t) := by
  unfold wr
  simp only [List.getElem?_cons_zero]
  rw [decide_eq_true h]; rfl
theorem un_i (n : Int) : CT.un (.int .i64) (.int .i64 n) = some n := rfl
theorem un_b (n : Bool) : CT.un .bool (.bool n) = some n := rfl
theorem un_m (n : Option Nat) : CT.un .mp (.mp n) = some n := rfl
theorem un_s (n : Bytes) : CT.un .str (.str n) = some n := rfl
theorem un_sl1 (n : Sl) : CT.un (.sl 1) (.sl 1 n) = some n := rfl
theorem un_sl2 (n : Sl) : CT.un (.sl 2) (.sl 2 n) = some n := rfl
theorem un_sl3 (n : Sl) : CT.un (.sl 3) (.sl 3 n) = some n := rfl
end
theorem rd_iiib (t : Heap) (bk : BK) (x0 : Int) (x1 : Int) (x2 : Int) (x3 : Bool) : rd (.cells [.int .i64 x0, .int .i64 x1, .int .i64 x2, .bool x3] bk :: t) (.agg [.int .i64, .int .i64, .int .i64, .bool]) 0 0 = (some (x0, x1, x2, x3, ()) : Option (Int × Int × Int × Bool × Unit)) := rfl
theorem rd_iiiiii (t : Heap) (bk : BK) (x0 : Int) (x1 : Int) (x2 : Int) (x3 : Int) (x4 : Int) (x5 : Int) : rd (.cells [.int .i64 x0, .int .i64 x1, .int .i64 x2, .int .i64 x3, .int .i64 x4, .int .i64 x5] bk :: t) (.agg [.int .i64, .int .i64, .int .i64, .int .i64, .int .i64, .int .i64]) 0 0 = (some (x0, x1, x2, x3, x4, x5, ()) : Option (Int × Int × Int × Int × Int × Int × Unit)) := rfl
theorem rd_ibm (t : Heap) (bk : BK) (x0 : Int) (x1 : Bool) (x2 : Option Nat) : rd (.cells [.int .i64 x0, .bool x1, .mp x2] bk :: t) (.agg [.int .i64, .bool, .mp]) 0 0 = (some (x0, x1, x2, ()) : Option (Int × Bool × Option Nat × Unit)) := rfl
theorem rd_iii (t : Heap) (bk : BK) (x0 : Int) (x1 : Int) (x2 : Int) : rd (.cells [.int .i64 x0, .int .i64 x1, .int .i64 x2] bk :: t) (.agg [.int .i64, .int .i64, .int .i64]) 0 0 = (some (x0, x1, x2, ()) : Option (Int × Int × Int × Unit)) := rfl
theorem rd_iib (t : Heap) (bk : BK) (x0 : Int) (x1 : Int) (x2 : Bool) : rd (.cells [.int .i64 x0, .int .i64 x1, .bool x2] bk :: t) (.agg [.int .i64, .int .i64, .bool]) 0 0 = (some (x0, x1, x2, ()) : Option (Int × Int × Bool × Unit)) := rfl
theorem rd_ii (t : Heap) (bk : BK) (x0 : Int) (x1 : Int) : rd (.cells [.int .i64 x0, .int .i64 x1] bk :: t) (.agg [.int .i64, .int .i64]) 0 0 = (some (x0, x1, ()) : Option (Int × Int × Unit)) := rfl
theorem rd_3312 (t : Heap) (bk : BK) (x0 : Sl) (x1 : Sl) (x2 : Sl) (x3 : Sl) : rd (.cells [.sl 3 x0, .sl 3 x1, .sl 1 x2, .sl 2 x3] bk :: t) (.agg [.sl 3, .sl 3, .sl 1, .sl 2]) 0 0 = (some (x0, x1, x2, x3, ()) : Option (Sl × Sl × Sl × Sl × Unit)) := rfl
theorem rd_iiii (t : Heap) (bk : BK) (x0 : Int) (x1 : Int) (x2 : Int) (x3 : Int) : rd (.cells [.int .i64 x0, .int .i64 x1, .int .i64 x2, .int .i64 x3] bk :: t) (.agg [.int .i64, .int .i64, .int .i64, .int .i64]) 0 0 = (some (x0, x1, x2, x3, ()) : Option (Int × Int × Int × Int × Unit)) := rfl
theorem rd_si (t : Heap) (bk : BK) (x0 : Bytes) (x1 : Int) : rd (.cells [.str x0, .int .i64 x1] bk :: t) (.agg [.str, .int .i64]) 0 0 = (some (x0, x1, ()) : Option (Bytes × Int × Unit)) := rfl
theorem rd_33121 (t : Heap) (bk : BK) (x0 : Sl) (x1 : Sl) (x2 : Sl) (x3 : Sl) (x4 : Sl) : rd (.cells [.sl 3 x0, .sl 3 x1, .sl 1 x2, .sl 2 x3, .sl 1 x4] bk :: t) (.agg [.sl 3, .sl 3, .sl 1, .sl 2, .sl 1]) 0 0 = (some (x0, x1, x2, x3, x4, ()) : Option (Sl × Sl × Sl × Sl × Sl × Unit)) := rfl
theorem rd_33121i (t : Heap) (bk : BK) (x0 : Sl) (x1 : Sl) (x2 : Sl) (x3 : Sl) (x4 : Sl) (x5 : Int) : rd (.cells [.sl 3 x0, .sl 3 x1, .sl 1 x2, .sl 2 x3, .sl 1 x4, .int .i64 x5] bk :: t) (.agg [.sl 3, .sl 3, .sl 1, .sl 2, .sl 1, .int .i64]) 0 0 = (some (x0, x1, x2, x3, x4, x5, ()) : Option (Sl × Sl × Sl × Sl × Sl × Int × Unit)) := rfl
theorem Keep.app (F : Nat → Prop) (H t : Heap) : Keep F H (H ++ t) := ⟨by simp, fun _ hk _ => List.getElem?_append_left hk⟩
theorem slRow_t1 (H t : Heap) (es i o n c : Nat) : slRow (H ++ t) es ⟨some (H.length + i, o), n, c⟩ = slRow t es ⟨some (i, o), n, c⟩ := by
  simp only [slRow, Heap.row, tl_get1]
theorem slRow_t0 (H t : Heap) (es o n c : Nat) : slRow (H ++ t) es ⟨some (H.length, o), n, c⟩ = slRow t es ⟨some (0, o), n, c⟩ := slRow_t1 H t es 0 o n c
theorem sl_c1 (x : Blk) (t : Heap) (es i o n c : Nat) : slRow (x :: t) es ⟨some (i + 1, o), n, c⟩ = slRow t es ⟨some (i, o), n, c⟩ := rfl
theorem sl_c0 (t : Heap) (cs : List C) (bk : BK) {es : Nat} (h : es = cs.length) : slRow (.cells cs bk :: t) es ⟨some (0, 0), 1, 1⟩ = some cs := by
  show cut cs 0 (1 * es) = some cs
  exact cut_all (by omega)
end Ev

namespace Ev
open Go (IntKind)

theorem Keep.trans2 {F G : Nat → Prop} {A B D : Heap} (h : Keep F A B) (k : Keep G B D) (hg : ∀ b, b < A.length → G b → F b) : Keep F A D :=
  ⟨Nat.le_trans h.len k.len, fun j hj hf => (k.same j (Nat.lt_of_lt_of_le hj h.len) fun g => hf (hg j hj g)).trans (h.same j hj hf)⟩
/-- What has come of s0 in H: only its own block may have changed. -/
structure Em (H : Heap) (s0 : Sl) (es : Nat) (G : Heap) (s : Sl) (cs : List C) : Prop where
  g : Grown G es s cs
  k : Keep (fun b => ∃ o, s0.p = some (b, o)) H G
  o : ∀ a, s.p = some a → H.length ≤ a.1 ∨ ∃ o, s0.p = some (a.1, o)
section
variable {H : Heap} {s0 : Sl} {es : Nat} {G : Heap} {s : Sl} {cs : List C}
theorem Em.start (h : Grown H es s0 cs) : Em H s0 es H s0 cs := ⟨h, Keep.refl _ _, fun a ha => .inr ⟨a.2, ha⟩⟩
theorem Em.keep (h : Em H s0 es G s cs) {F : Nat → Prop} {G' : Heap} (k : Keep F G G') (hF : ∀ b, F b → H.length ≤ b ∧ ∀ o, s.p ≠ some (b, o)) : Em H s0 es G' s cs :=
  ⟨h.g.mono fun a ha => k.same _ (h.g.lt ha) fun hf => (hF _ hf).2 a.2 ha, h.k.trans2 k fun b hb hf => absurd (hF b hf).1 (by omega), h.o⟩
theorem Em.push (h : Em H s0 es G s cs) (t : Heap) : Em H s0 es (G ++ t) s cs := h.keep (Keep.app (fun _ => False) G t) fun _ hf => hf.elim
theorem grownH_keep (G : Heap) (s : Sl) (cs : List C) : Keep (fun b => ∃ o, s.p = some (b, o)) G (grownH G s cs) :=
  ⟨by rw [grownH_length]; omega, fun _ hk hf => grownH_get hk fun a ha e => hf ⟨a.2, by rw [ha, ← e]⟩⟩
theorem Em.app (h : Em H s0 es G s cs) (hes : 0 < es) {new : List C} (hnew : new.length = es) {bytes : Nat} (hb : (s.len + 1) * bytes ≤ 35184372088832) (hb2 : s.len + 1 ≤ 35184372088832) :
    ∃ s' G', appS G es bytes s 1 new = some (s', G') ∧ Em H s0 es G' s' (cs ++ new) ∧ s'.len = s.len + 1 ∧ Keep (fun b => ∃ o, s.p = some (b, o)) G G' ∧ ∀ a, s'.p = some a → a.1 = G.length := by
  obtain ⟨h1, h2⟩ := h.g.app hes (n := 1) Nat.one_pos (by omega) hb hb2 (new := new)
  refine ⟨_, _, h1, ⟨h2, h.k.trans2 (grownH_keep _ _ _) fun b hb => ?_, fun a ha => ?_⟩, rfl, grownH_keep _ _ _, fun a ha => by cases ha; rfl⟩
  · rintro ⟨o, ho⟩
    rcases h.o _ ho with hh | hh
    · exact absurd hh (by simp only; omega)
    · exact hh
  · cases ha
    exact .inl h.k.len
theorem Em.calm (h : Em H s0 es G s cs) (h0 : s0.p = none) : Keep (fun _ => False) H G := h.k.mono fun b ⟨o, ho⟩ => by rw [h0] at ho; cases ho
theorem Em.then {G' : Heap} {s' : Sl} {cs' : List C} (h : Em H s0 es G s cs) (h' : Em G s es G' s' cs') : Em H s0 es G' s' cs' :=
  ⟨h'.g, h.k.trans2 h'.k fun b hb ⟨o, ho⟩ => (h.o _ ho).elim (fun hh => absurd hh (by simp only; omega)) id, fun a ha => (h'.o a ha).elim (fun hh => .inl (Nat.le_trans h.k.len hh)) fun ⟨o, ho⟩ => h.o (a.1, o) ho⟩
theorem Em.get (h : Em H s0 es G s cs) {b : Nat} {x : Blk} (hb : H[b]? = some x) (h0 : ∀ o, s0.p ≠ some (b, o)) : G[b]? = some x := h.k.get hb fun ⟨o, ho⟩ => h0 o ho
theorem Em.row (h : Em H s0 es G s cs) {es' : Nat} {s' : Sl} {row : List C} (hr : Row H es' s' row) (h0 : ∀ b o o', s'.p = some (b, o) → s0.p ≠ some (b, o')) : Row G es' s' row := hr.keep h.k fun b o hp ⟨o', ho'⟩ => h0 b o o' hp ho'
end
theorem take_snoc {α : Type} {l : List α} {i : Nat} (h : i < l.length) : l.take (i + 1) = l.take i ++ [l[i]] := by
  rw [List.take_succ_eq_append_getElem h]
theorem bind_to {α β : Type} {x : Option α} {v : α} (h : x = some v) {f : α → Option β} : x.bind f = f v := by rw [h]; rfl
/-- The same, with several rows a round. -/
theorem emitN {α : Type} {H : Heap} {s0 : Sl} {es : Nat} {step : Sl × Int × Unit → Heap → Option (((Sl × Int × Unit) ⊕ (Sl × Unit)) × Heap)} (l : List α) (f : α → List C) (m : α → Nat) {cs0 : List C} (h0 : Em H s0 es H s0 cs0)
    (hs : ∀ (i : Nat) (hi : i < l.length) s G cs, Em H s0 es G s cs → s.len = s0.len + ((l.take i).map m).sum → ∃ s' G', step (s, (i : Int), ()) G = some (.inl (s', ((i + 1 : Nat) : Int), ()), G') ∧ Em H s0 es G' s' (cs ++ f l[i]) ∧ s'.len = s.len + m l[i])
    (he : ∀ s G cs, Em H s0 es G s cs → step (s, (l.length : Int), ()) G = some (.inr (s, ()), G)) :
    ∃ s G, loopW step (s0, 0, ()) H = some ((s, ()), G) ∧ Em H s0 es G s (cs0 ++ (l.map f).flatten) ∧ s.len = s0.len + (l.map m).sum := by
  obtain ⟨x, G, g1, s, rfl, g2⟩ := loop_rise (step := step) l.length (fun i y G => ∃ s, y = (s, (i : Int), ()) ∧ Em H s0 es G s (cs0 ++ ((l.take i).map f).flatten) ∧ s.len = s0.len + ((l.take i).map m).sum) (fun x G => ∃ s, x = (s, ()) ∧ Em H s0 es G s (cs0 ++ (l.map f).flatten) ∧ s.len = s0.len + (l.map m).sum)
    (fun i y G hi ⟨s, hy, hE, hn⟩ => by
      subst hy
      obtain ⟨s', G', g1, g2, g3⟩ := hs i hi s G _ hE hn
      refine .inl ⟨_, G', g1, s', rfl, ?_, ?_⟩
      · rw [take_snoc hi, List.map_append, List.flatten_append, ← List.append_assoc]
        simpa using g2
      · rw [take_snoc hi, List.map_append, List.sum_append, g3, hn]
        simp; omega)
    (fun y G ⟨s, hy, hE, hn⟩ => by
      subst hy
      rw [List.take_length] at hE hn
      exact ⟨_, G, he s G _ hE, s, rfl, hE, hn⟩) (y := (s0, 0, ())) (H := H) ⟨s0, rfl, by simpa using h0, by simp⟩
  exact ⟨s, G, g1, g2⟩
theorem ptrs_of : ∀ (n : Nat) (x : Ptrs n), Ptrs.of n (Ptrs.list n x) = some x
  | 0, () => rfl
  | n + 1, (p, x) => by
    show (Ptrs.of n (Ptrs.list n x)).bind _ = _
    rw [ptrs_of n x]; rfl
theorem un_of (t : CT) (x : t.T) : t.un (t.mk x) = some x := by
  cases t with
  | int k =>
    show (bif decide (k = k) then some x else none) = _
    rw [decide_eq_true rfl]; rfl
  | sl es =>
    show (bif decide (es = es) then some x else none) = _
    rw [decide_eq_true rfl]; rfl
  | fn g =>
    show (bif decide (g = g) then some () else none) = _
    rw [decide_eq_true rfl]; rfl
  | clo g n =>
    show (bif decide (g = g) then Ptrs.of n (Ptrs.list n x) else none) = _
    rw [decide_eq_true rfl]; exact ptrs_of n x
  | _ => rfl
theorem tup_un_of : ∀ (ts : List CT) (x : Tup ts), Tup.un ts (Tup.mk ts x) = some x
  | [], () => rfl
  | t :: r, (y, x) => by
    show (t.un (t.mk y)).bind _ = _
    rw [un_of]
    show (Tup.un r (Tup.mk r x)).bind _ = _
    rw [tup_un_of r x]; rfl
/-- One of a row of structs. -/
theorem Row.rd {H : Heap} {cts : List CT} {s : Sl} {rows : List (Tup cts)} (h : Row H cts.length s (rowsOf cts rows)) {i : Nat} (hi : i < rows.length) (hpos : 0 < cts.length) : ∃ b o, Sl.at cts.length s (i : Int) = some (b, o) ∧ rd H (.agg cts) b o = some rows[i] ∧ (∃ o', s.p = some (b, o')) ∧ ∃ cs bk, H[b]? = some (.cells cs bk) ∧ o + cts.length ≤ cs.length ∧ (cs.drop o).take cts.length = Tup.mk cts rows[i] := by
  obtain ⟨b, o, _, h1, h2, cs, bk, h3, h4, h5⟩ := h.at hi hpos
  exact ⟨b, o, h1, rd_agg_of h3 h4 (by rw [h5]; exact tup_un_of _ _), h2, cs, bk, h3, h4, h5⟩
end Ev

namespace Ev
open Go (IntKind)

def WP {α : Type} (x : Option α) (Q : α → Prop) : Prop := ∃ v, x = some v ∧ Q v
section
variable {α β : Type} {x : Option α} {f : α → Option β} {Q : β → Prop} {P : α → Prop}
theorem wp_some {Q : α → Prop} {v : α} (h : Q v) : WP (some v) Q := ⟨v, rfl, h⟩
theorem wp_bind (h : WP x fun v => WP (f v) Q) : WP (x.bind f) Q := by obtain ⟨v, rfl, h⟩ := h; exact h
theorem wp_seq (P : α → Prop) (h : WP x P) (k : ∀ v, P v → WP (f v) Q) : WP (x.bind f) Q := by obtain ⟨v, rfl, h⟩ := h; exact k v h
theorem wp_to {v : α} (h : x = some v) (k : WP (f v) Q) : WP (x.bind f) Q := by rw [h]; exact k
theorem wp_mono {Q' : α → Prop} (h : WP x P) (k : ∀ v, P v → Q' v) : WP x Q' := by obtain ⟨v, h1, h2⟩ := h; exact ⟨v, h1, k v h2⟩
theorem wp_t {c : Bool} {a b : Option α} (h : c = true) (k : WP a P) : WP (cond c a b) P := by rw [h]; exact k
theorem wp_f {c : Bool} {a b : Option α} (h : c = false) (k : WP b P) : WP (cond c a b) P := by rw [h]; exact k
theorem wp_c {c : Bool} {a b : Option α} (h : c = true → WP a P) (k : c = false → WP b P) : WP (cond c a b) P := by
  cases c with
  | true => exact h rfl
  | false => exact k rfl
/-- Either way. -/
theorem wp_if {c : Bool} {p : Prop} [Decidable p] {a b : Option α} (e : c = decide p) (h : p → WP a P) (k : ¬ p → WP b P) : WP (cond c a b) P := by
  rw [e]
  by_cases hp : p
  · rw [decide_eq_true hp]; exact h hp
  · rw [decide_eq_false hp]; exact k hp
theorem wp_ite {α : Type} {p : Prop} [Decidable p] {a b : Option α} {Q : α → Prop} (h : p) (k : WP a Q) : WP (if p then a else b) Q := by rw [if_pos h]; exact k
end
section
variable {S X : Type} {step : S → Heap → Option ((S ⊕ X) × Heap)}
theorem wp_rise (n : Nat) (I : Nat → S → Heap → Prop) (P : X → Heap → Prop) (hs : ∀ i y G, i < n → I i y G → WP (step y G) fun r => Sum.elim (fun y' => I (i + 1) y' r.2) (fun x => P x r.2) r.1)
    (he : ∀ y G, I n y G → WP (step y G) fun r => Sum.elim (fun _ => False) (fun x => P x r.2) r.1) {y : S} {H : Heap} (h0 : I 0 y H) : WP (loopW step y H) fun r => P r.1 r.2 := by
  obtain ⟨x, G, g1, g2⟩ := loop_rise (step := step) n I P (fun i y G hi hI => by
      obtain ⟨⟨r, G'⟩, e1, e2⟩ := hs i y G hi hI
      cases r with
      | inl y' => exact .inl ⟨y', G', e1, e2⟩
      | inr x => exact .inr ⟨x, G', e1, e2⟩)
    (fun y G hI => by
      obtain ⟨⟨r, G'⟩, e1, e2⟩ := he y G hI
      cases r with
      | inl y' => exact e2.elim
      | inr x => exact ⟨x, G', e1, e2⟩) h0
  exact ⟨(x, G), g1, g2⟩
end
section
variable {H : Heap} {s0 : Sl} {es : Nat} {G : Heap} {s : Sl} {cs : List C}
/-- A row that was just laid is put behind a slice. -/
theorem wp_app {β : Type} {f : Sl × Heap → Option β} {Q : β → Prop} (hE : Em H s0 es G s cs) {new : List C} (hnew : es = new.length) (hes : 0 < es) {bytes : Nat} (hb : (s.len + 1) * bytes ≤ 35184372088832 ∧ s.len + 1 ≤ 35184372088832)
    (k : ∀ s' G', Em H s0 es G' s' (cs ++ new) → s'.len = s.len + 1 → WP (f (s', G')) Q) :
    WP ((slRow (G ++ [.cells new .exact]) es ⟨some (G.length, 0), 1, 1⟩).bind fun c => (appS (G ++ [.cells new .exact]) es bytes s 1 c).bind f) Q := by
  obtain ⟨s', G', e1, e2, e3, _⟩ := (hE.push [.cells new .exact]).app hes hnew.symm hb.1 hb.2
  have h1 : slRow (G ++ [.cells new .exact]) es ⟨some (G.length, 0), 1, 1⟩ = some new := by
    rw [slRow_t0]; exact sl_c0 [] new .exact hnew
  exact wp_to h1 (wp_to e1 (k s' G' e2 e3))
/-- The same; other blocks stay. -/
theorem wp_appk {β : Type} {f : Sl × Heap → Option β} {Q : β → Prop} (hE : Em H s0 es G s cs) {new : List C} (hnew : es = new.length) (hes : 0 < es) {bytes : Nat} (hb : (s.len + 1) * bytes ≤ 35184372088832 ∧ s.len + 1 ≤ 35184372088832)
    (k : ∀ s' G', Em H s0 es G' s' (cs ++ new) → s'.len = s.len + 1 → (∀ b x, G[b]? = some x → (∀ o, s.p ≠ some (b, o)) → G'[b]? = some x) → (∀ b o, s'.p = some (b, o) → G.length < b) → WP (f (s', G')) Q) :
    WP ((slRow (G ++ [.cells new .exact]) es ⟨some (G.length, 0), 1, 1⟩).bind fun c => (appS (G ++ [.cells new .exact]) es bytes s 1 c).bind f) Q := by
  obtain ⟨s', G', e1, e2, e3, e4, e5⟩ := (hE.push [.cells new .exact]).app hes hnew.symm hb.1 hb.2
  have h1 : slRow (G ++ [.cells new .exact]) es ⟨some (G.length, 0), 1, 1⟩ = some new := by
    rw [slRow_t0]; exact sl_c0 [] new .exact hnew
  refine wp_to h1 (wp_to e1 (k s' G' e2 e3 (fun b x hx ho => ?_) fun b o hp => ?_))
  · exact e4.get (by rw [List.getElem?_append_left (get_lt hx)]; exact hx) fun ⟨o, hp⟩ => ho o hp
  · have := e5 _ hp
    simp only [List.length_append, List.length_cons, List.length_nil] at this
    omega
end
end Ev

namespace Ev
open Go (IntKind)

abbrev RecT := Int × Int × Int × Int × Int × Int × Unit
def recB (x : RecT) : Blk := .cells [.int .i64 x.1, .int .i64 x.2.1, .int .i64 x.2.2.1, .int .i64 x.2.2.2.1, .int .i64 x.2.2.2.2.1, .int .i64 x.2.2.2.2.2.1] .exact
def inB (n lo hi : Int) : Bool := decide (lo ≤ n ∧ n ≤ hi)
def inAll : List Int → List Int → List Int → Bool
  | v :: vs, l :: ls, m :: ms => inB v l m && inAll vs ls ms
  | _, _, _ => true
def chkR (x : RecT) : Bool :=
  if x.1 = 1 then inAll [x.2.1, x.2.2.1, x.2.2.2.1] [1, 0, 0] [15, 1023, 511] && decide (x.2.2.2.2.1 = 0 ∧ x.2.2.2.2.2.1 = 0) else
  if x.1 = 2 then inAll [x.2.1, x.2.2.1] [1, 0] [15, 1023] && decide (x.2.2.2.1 = 0 ∧ x.2.2.2.2.1 = 0 ∧ x.2.2.2.2.2.1 = 0) else
  if x.1 = 3 then inAll [x.2.2.2.1, x.2.2.2.2.1] [0, 0] [511, 511] && decide (x.2.1 = 0 ∧ x.2.2.1 = 0 ∧ x.2.2.2.2.2.1 = 0) else
  if x.1 = 4 then inAll [x.2.1, x.2.2.2.2.2.1] [1, 1] [15, 1024] && decide (x.2.2.1 = 0 ∧ x.2.2.2.1 = 0 ∧ x.2.2.2.2.1 = 0) else
  if x.1 = 5 ∨ x.1 = 7 then inAll [x.2.1] [1] [15] && decide (x.2.2.1 = 0 ∧ x.2.2.2.1 = 0 ∧ x.2.2.2.2.1 = 0 ∧ x.2.2.2.2.2.1 = 0) else
  if x.1 = 6 then inAll [x.2.1, x.2.2.2.2.1] [1, 1] [15, 15] && decide (x.2.2.1 = 0 ∧ x.2.2.2.1 = 0 ∧ x.2.2.2.2.2.1 = 0) else
  if x.1 = 8 then inAll [x.2.2.2.1] [0] [31] && decide (x.2.1 = 0 ∧ x.2.2.1 = 0 ∧ x.2.2.2.2.1 = 0 ∧ x.2.2.2.2.2.1 = 0) else
  if x.1 = 9 then inAll [x.2.2.2.1, x.2.2.2.2.2.1] [0, 0] [31, 1073741824] && decide (x.2.1 = 0 ∧ x.2.2.1 = 0 ∧ x.2.2.2.2.1 = 0) else false

theorem inAll_iff : ∀ {vs ls ms : List Int}, ls.length = vs.length → ms.length = vs.length → (inAll vs ls ms = true ↔ ∀ i (h : i < vs.length) (h1 : i < ls.length) (h2 : i < ms.length), ls[i] ≤ vs[i] ∧ vs[i] ≤ ms[i])
  | [], [], [], _, _ => by simp [inAll]
  | v :: vs, l :: ls, m :: ms, h1, h2 => by
    have ih := inAll_iff (vs := vs) (ls := ls) (ms := ms) (by simpa using h1) (by simpa using h2)
    simp only [inAll, Bool.and_eq_true, ih, inB, decide_eq_true_eq]
    constructor
    · rintro ⟨a, b⟩ i hi hi1 hi2
      cases i with
      | zero => exact a
      | succ i => exact b i (by simpa using hi) (by simpa using hi1) (by simpa using hi2)
    · intro h
      exact ⟨h 0 (by simp) (by simp) (by simp), fun i a b c => h (i + 1) (by simpa using a) (by simpa using b) (by simpa using c)⟩
  | [], _ :: _, _, h, _ => by simp at h
  | [], [], _ :: _, _, h => by simp at h
  | _ :: _, [], _, h, _ => by simp at h
  | _ :: _, _ :: _, [], _, h => by simp at h

def i64B (l : List Int) : Blk := .cells (l.map (C.int .i64)) .exact
/-! The reference's. -/
theorem check_of {x y : RecT} {vs ls ms : List Int} (hl : ls.length = vs.length) (hm : ms.length = vs.length) {Z : Blk}
    (hrow : ref07_row x [recB x] = some ((⟨some (2, 0), vs.length, vs.length⟩, ⟨some (3, 0), vs.length, vs.length⟩, ⟨some (4, 0), vs.length, vs.length⟩, true, ()), [recB x, recB x, i64B vs, i64B ls, i64B ms]))
    (hof : ref07_of x.1 ⟨some (2, 0), vs.length, vs.length⟩ [recB x, recB x, i64B vs, i64B ls, i64B ms] = some ((y, ()), [recB x, recB x, i64B vs, i64B ls, i64B ms, Z])) (hv : vs.length ≤ 3) :
    ref07_Check x = some ((decide (y.1 = x.1) && (decide (y.2.1 = x.2.1) && (decide (y.2.2.1 = x.2.2.1) && (decide (y.2.2.2.1 = x.2.2.2.1) && (decide (y.2.2.2.2.1 = x.2.2.2.2.1) && (decide (y.2.2.2.2.2.1 = x.2.2.2.2.2.1) && true)))))) && inAll vs ls ms, ()) := by
  unfold ref07_Check ref07_Check.on
  have q1 : ([] : Heap) ++ [Blk.cells [.int .i64 x.1, .int .i64 x.2.1, .int .i64 x.2.2.1, .int .i64 x.2.2.2.1, .int .i64 x.2.2.2.2.1, .int .i64 x.2.2.2.2.2.1] .exact] = [recB x] := rfl
  have r1 : @Eq (Option RecT) (rd [recB x] (.agg [.int .i64, .int .i64, .int .i64, .int .i64, .int .i64, .int .i64]) ([] : Heap).length 0) (some x) := rfl
  have r2 : rdI .i64 [recB x, recB x, i64B vs, i64B ls, i64B ms] ([] : Heap).length 0 = some x.1 := rfl
  have r3 : @Eq (Option RecT) (rd [recB x, recB x, i64B vs, i64B ls, i64B ms] (.agg [.int .i64, .int .i64, .int .i64, .int .i64, .int .i64, .int .i64]) ([] : Heap).length 0) (some x) := rfl
  have r4 : @Eq (Option RecT) (rd [recB x, recB x, i64B vs, i64B ls, i64B ms, Z] (.agg [.int .i64, .int .i64, .int .i64, .int .i64, .int .i64, .int .i64]) ([] : Heap).length 0) (some x) := rfl
  have ex : (x.1, x.2.1, x.2.2.1, x.2.2.2.1, x.2.2.2.2.1, x.2.2.2.2.2.1, ()) = x := rfl
  have hiff := inAll_iff hl hm
  obtain ⟨w, G, l1, lw⟩ := loop_rise (step := ref07_Check.s1 ((⟨some (2, 0), vs.length, vs.length⟩, ⟨some (3, 0), vs.length, vs.length⟩, ⟨some (4, 0), vs.length, vs.length⟩, true, ()), [recB x, recB x, i64B vs, i64B ls, i64B ms])) vs.length
    (fun i z G => z = ((i : Int), ()) ∧ G = [recB x, recB x, i64B vs, i64B ls, i64B ms, Z] ∧ ∀ j (h : j < i) (h0 : j < vs.length) (h1 : j < ls.length) (h2 : j < ms.length), ls[j] ≤ vs[j] ∧ vs[j] ≤ ms[j])
    (fun w _ => w = if inAll vs ls ms then .inl () else .inr (false, ()))
    (by
      rintro i _ _ hi ⟨rfl, rfl, hj⟩
      have hat : ∀ c, Sl.at 1 ⟨some (c, 0), vs.length, vs.length⟩ (i : Int) = some (c, i) := fun c => by rw [at_of (by omega) (by show (i : Int) < (vs.length : Int); omega), Int.toNat_natCast, Nat.mul_one, Nat.zero_add]
      have g1 : rdI .i64 [recB x, recB x, i64B vs, i64B ls, i64B ms, Z] 2 i = some vs[i] := rdI_of (H := [recB x, recB x, i64B vs, i64B ls, i64B ms, Z]) (b := 2) rfl (by simp [hi])
      have g2 : rdI .i64 [recB x, recB x, i64B vs, i64B ls, i64B ms, Z] 3 i = some (ls[i]'(by omega)) := rdI_of (H := [recB x, recB x, i64B vs, i64B ls, i64B ms, Z]) (b := 3) rfl (by simp [hl, hi])
      have g3 : rdI .i64 [recB x, recB x, i64B vs, i64B ls, i64B ms, Z] 4 i = some (ms[i]'(by omega)) := rdI_of (H := [recB x, recB x, i64B vs, i64B ls, i64B ms, Z]) (b := 4) rfl (by simp [hm, hi])
      have hno : ∀ (h : ¬ (ls[i]'(by omega) ≤ vs[i] ∧ vs[i] ≤ ms[i]'(by omega))), inAll vs ls ms = false := fun h => by
        cases hb : inAll vs ls ms with
        | false => rfl
        | true => exact absurd (hiff.1 hb i hi (by omega) (by omega)) h
      by_cases c1 : vs[i] < (ls[i]'(by omega))
      · refine .inr ⟨.inr (false, ()), [recB x, recB x, i64B vs, i64B ls, i64B ms, Z], ?_, by rw [hno (by omega)]; rfl⟩
        unfold ref07_Check.s1
        simp only [decide_eq_true (show (i : Int) < (vs.length : Int) by omega), cond_t, hat, bind_some, g1, g2, decide_eq_true c1]
      · by_cases c2 : (ms[i]'(by omega)) < vs[i]
        · refine .inr ⟨.inr (false, ()), [recB x, recB x, i64B vs, i64B ls, i64B ms, Z], ?_, by rw [hno (by omega)]; rfl⟩
          unfold ref07_Check.s1
          simp only [decide_eq_true (show (i : Int) < (vs.length : Int) by omega), cond_t, hat, bind_some, g1, g2, g3, decide_eq_false c1, cond_f, decide_eq_true c2]
        · refine .inl ⟨_, [recB x, recB x, i64B vs, i64B ls, i64B ms, Z], ?_, rfl, rfl, fun j h h0 h1 h2 => ?_⟩
          · unfold ref07_Check.s1
            simp only [decide_eq_true (show (i : Int) < (vs.length : Int) by omega), cond_t, hat, bind_some, g1, g2, g3, decide_eq_false c1, cond_f, decide_eq_false c2, wrap_succ (show i < 9223372036854775807 by omega)]
          · by_cases e : j = i
            · subst e; omega
            · exact hj j (by omega) h0 h1 h2)
    (by
      rintro _ _ ⟨rfl, rfl, hj⟩
      refine ⟨.inl (), [recB x, recB x, i64B vs, i64B ls, i64B ms, Z], ?_, by rw [hiff.2 fun j h h1 h2 => hj j h h h1 h2]; rfl⟩
      unfold ref07_Check.s1
      simp only [decide_eq_false (show ¬ (vs.length : Int) < (vs.length : Int) by omega), cond_f])
    (y := (((0 : Nat) : Int), ())) (H := [recB x, recB x, i64B vs, i64B ls, i64B ms, Z]) ⟨rfl, rfl, fun j h => absurd h (Nat.not_lt_zero _)⟩
  have l1' : loopW (ref07_Check.s1 ((⟨some (2, 0), vs.length, vs.length⟩, ⟨some (3, 0), vs.length, vs.length⟩, ⟨some (4, 0), vs.length, vs.length⟩, true, ()), [recB x, recB x, i64B vs, i64B ls, i64B ms])) (0, ()) [recB x, recB x, i64B vs, i64B ls, i64B ms, Z] = some (w, G) := l1
  simp only [q1, r1, bind_some, ex, hrow, Bool.not_true, cond_f, r2, r3, hof, r4, if_true, l1']
  cases hb : (decide (y.1 = x.1) && (decide (y.2.1 = x.2.1) && (decide (y.2.2.1 = x.2.2.1) && (decide (y.2.2.2.1 = x.2.2.2.1) && (decide (y.2.2.2.2.1 = x.2.2.2.2.1) && (decide (y.2.2.2.2.2.1 = x.2.2.2.2.2.1) && true)))))) with
  | false => rfl
  | true =>
    rw [lw]
    cases inAll vs ls ms <;> rfl

theorem dd (a b : Int) : decide (a = b) = decide (b = a) := by
  by_cases h : a = b
  · rw [decide_eq_true h, decide_eq_true h.symm]
  · rw [decide_eq_false h, decide_eq_false (fun e => h e.symm)]
theorem ds (a : Int) : decide (a = a) = true := decide_eq_true rfl

theorem ref07_check_eq (x : RecT) : ref07_Check x = some (chkR x, ()) := by
  obtain ⟨k, a, b, c, d, e, u⟩ := x
  unfold chkR
  simp only
  by_cases h1 : k = 1
  · subst h1; rw [check_of (vs := [a, b, c]) (ls := [1, 0, 0]) (ms := [15, 1023, 511]) rfl rfl rfl rfl (by simp)]
    rw [if_pos rfl, Bool.and_comm]; simp [dd 0]
  rw [if_neg h1]
  by_cases h2 : k = 2
  · subst h2; rw [check_of (vs := [a, b]) (ls := [1, 0]) (ms := [15, 1023]) rfl rfl rfl rfl (by simp)]
    rw [if_pos rfl, Bool.and_comm]; simp [dd 0]
  rw [if_neg h2]
  by_cases h3 : k = 3
  · subst h3; rw [check_of (vs := [c, d]) (ls := [0, 0]) (ms := [511, 511]) rfl rfl rfl rfl (by simp)]
    rw [if_pos rfl, Bool.and_comm]; simp [dd 0]
  rw [if_neg h3]
  by_cases h4 : k = 4
  · subst h4; rw [check_of (vs := [a, e]) (ls := [1, 1]) (ms := [15, 1024]) rfl rfl rfl rfl (by simp)]
    rw [if_pos rfl, Bool.and_comm]; simp [dd 0]
  rw [if_neg h4]
  by_cases h5 : k = 5
  · subst h5; rw [check_of (vs := [a]) (ls := [1]) (ms := [15]) rfl rfl rfl rfl (by simp)]
    rw [if_pos (.inl rfl), Bool.and_comm]; simp [dd 0]
  by_cases h7 : k = 7
  · subst h7; rw [check_of (vs := [a]) (ls := [1]) (ms := [15]) rfl rfl rfl rfl (by simp)]
    rw [if_pos (.inr rfl), Bool.and_comm]; simp [dd 0]
  rw [if_neg (by simp [h5, h7])]
  by_cases h6 : k = 6
  · subst h6; rw [check_of (vs := [a, d]) (ls := [1, 1]) (ms := [15, 15]) rfl rfl rfl rfl (by simp)]
    rw [if_pos rfl, Bool.and_comm]; simp [dd 0]
  rw [if_neg h6]
  by_cases h8 : k = 8
  · subst h8; rw [check_of (vs := [c]) (ls := [0]) (ms := [31]) rfl rfl rfl rfl (by simp)]
    rw [if_pos rfl, Bool.and_comm]; simp [dd 0]
  rw [if_neg h8]
  by_cases h9 : k = 9
  · subst h9; rw [check_of (vs := [c, e]) (ls := [0, 0]) (ms := [31, 1073741824]) rfl rfl rfl rfl (by simp)]
    rw [if_pos rfl, Bool.and_comm]; simp [dd 0]
  rw [if_neg h9]
  have hr : ∃ R, ref07_row (k, a, b, c, d, e, u) [recB (k, a, b, c, d, e, u)] = some ((⟨none, 0, 0⟩, ⟨none, 0, 0⟩, ⟨none, 0, 0⟩, false, ()), R) := by
    have r1' : rdI .i64 ([recB (k, a, b, c, d, e, u)] ++ [recB (k, a, b, c, d, e, u)]) [recB (k, a, b, c, d, e, u)].length 0 = some k := rfl
    have q2 : [recB (k, a, b, c, d, e, u)] ++ [Blk.cells [.int .i64 k, .int .i64 a, .int .i64 b, .int .i64 c, .int .i64 d, .int .i64 e] .exact] = [recB (k, a, b, c, d, e, u)] ++ [recB (k, a, b, c, d, e, u)] := rfl
    refine ⟨[recB (k, a, b, c, d, e, u)] ++ [recB (k, a, b, c, d, e, u)], ?_⟩
    unfold ref07_row
    simp only [q2, bind_some, r1', decide_eq_false h1, decide_eq_false h2, decide_eq_false h3, decide_eq_false h4, decide_eq_false h5, decide_eq_false h6, decide_eq_false h7, decide_eq_false h8, decide_eq_false h9, cond_f]
  obtain ⟨R, hr⟩ := hr
  unfold ref07_Check ref07_Check.on
  have q1 : ([] : Heap) ++ [Blk.cells [.int .i64 k, .int .i64 a, .int .i64 b, .int .i64 c, .int .i64 d, .int .i64 e] .exact] = [recB (k, a, b, c, d, e, u)] := rfl
  have r1 : @Eq (Option RecT) (rd [recB (k, a, b, c, d, e, u)] (.agg [.int .i64, .int .i64, .int .i64, .int .i64, .int .i64, .int .i64]) ([] : Heap).length 0) (some (k, a, b, c, d, e, u)) := rfl
  have hr' : ref07_row (k, a, b, c, d, e, ()) [recB (k, a, b, c, d, e, u)] = some ((⟨none, 0, 0⟩, ⟨none, 0, 0⟩, ⟨none, 0, 0⟩, false, ()), R) := hr
  simp only [q1, r1, bind_some, hr', Bool.not_false, cond_t]

/-! The program's. -/
def ptrB (l : List Nat) : Blk := .cells (l.map fun o => C.ptr (some (0, o))) .exact
def zeros (vs : List Int) : List Int := vs.map fun _ => 0
theorem check_loop {x : RecT} {l : List Nat} {vs ms : List Int} (hl : l.length = vs.length) (hm : ms.length = vs.length) (hv : vs.length ≤ 3) (hf : ∀ i (h : i < vs.length), rdI .i64 [recB x] 0 (l[i]'(by omega)) = some vs[i]) (G0 : Heap) :
    loopW (rec_Check.s1 ((⟨some (1, 0), vs.length, vs.length⟩, ⟨some (2, 0), vs.length, vs.length⟩, ()), G0)) (0, ()) [recB x, ptrB l, i64B ms] = some (if inAll vs (zeros vs) ms then .inl () else .inr (false, ()), [recB x, ptrB l, i64B ms]) := by
  have hz : (zeros vs).length = vs.length := by simp [zeros]
  have hiff := inAll_iff hz hm
  obtain ⟨w, G, l1, rfl, rfl⟩ := loop_rise (step := rec_Check.s1 ((⟨some (1, 0), vs.length, vs.length⟩, ⟨some (2, 0), vs.length, vs.length⟩, ()), G0)) vs.length
    (fun i z G => z = ((i : Int), ()) ∧ G = [recB x, ptrB l, i64B ms] ∧ ∀ j (h : j < i) (h0 : j < vs.length) (h2 : j < ms.length), 0 ≤ vs[j] ∧ vs[j] ≤ ms[j])
    (fun w G => w = (if inAll vs (zeros vs) ms then .inl () else .inr (false, ())) ∧ G = [recB x, ptrB l, i64B ms])
    (by
      rintro i _ _ hi ⟨rfl, rfl, hj⟩
      have hat : ∀ c, Sl.at 1 ⟨some (c, 0), vs.length, vs.length⟩ (i : Int) = some (c, i) := fun c => by rw [at_of (by omega) (by show (i : Int) < (vs.length : Int); omega), Int.toNat_natCast, Nat.mul_one, Nat.zero_add]
      have g1 : rdP [recB x, ptrB l, i64B ms] 1 i = some (some (0, l[i]'(by omega))) := rdP_of (H := [recB x, ptrB l, i64B ms]) (b := 1) rfl (by simp [hl, hi])
      have g2 : rdI .i64 [recB x, ptrB l, i64B ms] 0 (l[i]'(by omega)) = some vs[i] := hf i hi
      have g3 : rdI .i64 [recB x, ptrB l, i64B ms] 2 i = some (ms[i]'(by omega)) := rdI_of (H := [recB x, ptrB l, i64B ms]) (b := 2) rfl (by simp [hm, hi])
      have hin : rec_in vs[i] 0 (ms[i]'(by omega)) = some (inB vs[i] 0 (ms[i]'(by omega)), ()) := by
        unfold rec_in rec_in.on inB
        by_cases c1 : (0 : Int) ≤ vs[i]
        · rw [decide_eq_true c1, cond_t]; simp [c1]
        · rw [decide_eq_false c1, cond_f]; simp [c1]
      by_cases c : 0 ≤ vs[i] ∧ vs[i] ≤ ms[i]'(by omega)
      · refine .inl ⟨_, [recB x, ptrB l, i64B ms], ?_, rfl, rfl, fun j h h0 h2 => ?_⟩
        · unfold rec_Check.s1
          simp only [decide_eq_true (show (i : Int) < (vs.length : Int) by omega), cond_t, hat, bind_some, g1, g2, g3, hin, inB, decide_eq_true c, Bool.not_true, cond_f, wrap_succ (show i < 9223372036854775807 by omega)]
        · by_cases e : j = i
          · subst e; exact c
          · exact hj j (by omega) h0 h2
      · have hno : inAll vs (zeros vs) ms = false := by
          cases hb : inAll vs (zeros vs) ms with
          | false => rfl
          | true =>
            have := hiff.1 hb i hi (by omega) (by omega)
            simp only [zeros, List.getElem_map] at this
            exact absurd this c
        refine .inr ⟨.inr (false, ()), [recB x, ptrB l, i64B ms], ?_, by rw [hno]; rfl, rfl⟩
        unfold rec_Check.s1
        simp only [decide_eq_true (show (i : Int) < (vs.length : Int) by omega), cond_t, hat, bind_some, g1, g2, g3, hin, inB, decide_eq_false c, Bool.not_false])
    (by
      rintro _ _ ⟨rfl, rfl, hj⟩
      refine ⟨.inl (), [recB x, ptrB l, i64B ms], ?_, by rw [hiff.2 fun j h h1 h2 => by simpa [zeros] using hj j h h h2]; rfl, rfl⟩
      unfold rec_Check.s1
      simp only [decide_eq_false (show ¬ (vs.length : Int) < (vs.length : Int) by omega), cond_f])
    (y := (((0 : Nat) : Int), ())) (H := [recB x, ptrB l, i64B ms]) ⟨rfl, rfl, fun j h => absurd h (Nat.not_lt_zero _)⟩
  exact l1

theorem check2_of {x y : RecT} {l : List Nat} {vs ms : List Int} (hl : l.length = vs.length) (hm : ms.length = vs.length) (hv : vs.length ≤ 3) (hv0 : 0 < vs.length) (hf : ∀ i (h : i < vs.length), rdI .i64 [recB x] 0 (l[i]'(by omega)) = some vs[i])
    (hr : rec_fields (some (0, 0)) [recB x] = some ((⟨some (1, 0), vs.length, vs.length⟩, ⟨some (2, 0), vs.length, vs.length⟩, ()), [recB x, ptrB l, i64B ms]))
    (hy : loopW (rec_Check.s2 ((⟨some (1, 0), vs.length, vs.length⟩, ⟨some (2, 0), vs.length, vs.length⟩, ()), [recB x, ptrB l, i64B ms])) (0, ()) [recB x, ptrB l, i64B ms] = some ((), [recB y, ptrB l, i64B ms])) (hy1 : y.1 = x.1) :
    rec_Check x = some (inAll vs (zeros vs) ms && ((decide (8 ≤ x.1 ∨ x.1 = 3 ∨ 1 ≤ x.2.1) && !decide (x.1 = 4 ∧ x.2.2.2.2.2.1 < 1) && !decide (x.1 = 6 ∧ x.2.2.2.2.1 < 1)) && (decide (y.2.1 = 0) && (decide (y.2.2.1 = 0) && (decide (y.2.2.2.1 = 0) && (decide (y.2.2.2.2.1 = 0) && (decide (y.2.2.2.2.2.1 = 0) && true)))))), ()) := by
  unfold rec_Check rec_Check.on
  have q1 : ([] : Heap) ++ [Blk.cells [.int .i64 x.1, .int .i64 x.2.1, .int .i64 x.2.2.1, .int .i64 x.2.2.2.1, .int .i64 x.2.2.2.2.1, .int .i64 x.2.2.2.2.2.1] .exact] = [recB x] := rfl
  have hr' : rec_fields (some (([] : Heap).length, 0)) [recB x] = some ((⟨some (1, 0), vs.length, vs.length⟩, ⟨some (2, 0), vs.length, vs.length⟩, ()), [recB x, ptrB l, i64B ms]) := hr
  have c0 : rdI .i64 [recB x, ptrB l, i64B ms] 0 0 = some x.1 := rfl
  have c1 : rdI .i64 [recB x, ptrB l, i64B ms] 0 1 = some x.2.1 := rfl
  have c4 : rdI .i64 [recB x, ptrB l, i64B ms] 0 4 = some x.2.2.2.2.1 := rfl
  have c5 : rdI .i64 [recB x, ptrB l, i64B ms] 0 5 = some x.2.2.2.2.2.1 := rfl
  have d0 : rdI .i64 [recB y, ptrB l, i64B ms] 0 0 = some y.1 := rfl
  have d1 : @Eq (Option RecT) (rd [recB y, ptrB l, i64B ms] (.agg [.int .i64, .int .i64, .int .i64, .int .i64, .int .i64, .int .i64]) 0 0) (some y) := rfl
  simp only [q1, hr', bind_some, check_loop hl hm hv hf]
  cases inAll vs (zeros vs) ms with
  | false => rfl
  | true =>
    simp only [List.length_nil, if_true, Sum.elim_inl, c0, c1, c4, c5, bind_some, Option.isNone_some, cond_f]
    have fin : (loopW (rec_Check.s2 ((⟨some (1, 0), vs.length, vs.length⟩, ⟨some (2, 0), vs.length, vs.length⟩, ()), [recB x, ptrB l, i64B ms])) (0, ()) [recB x, ptrB l, i64B ms]) = some ((), [recB y, ptrB l, i64B ms]) := hy
    by_cases e8 : 8 ≤ x.1
    · have n4 : ¬ x.1 = 4 := by omega
      have n6 : ¬ x.1 = 6 := by omega
      simp [c0, c1, c4, c5, hy1, e8, n4, n6, fin, d0, d1, cond_t, cond_f, bind_some]
    · by_cases e3 : x.1 = 3
      · have n4 : ¬ x.1 = 4 := by omega
        have n6 : ¬ x.1 = 6 := by omega
        simp [c0, c1, c4, c5, hy1, e8, e3, n4, n6, fin, d0, d1, cond_t, cond_f, bind_some]
      · by_cases e1 : 1 ≤ x.2.1
        · by_cases e4 : x.1 = 4
          · have n6 : ¬ x.1 = 6 := by omega
            by_cases e5 : x.2.2.2.2.2.1 < 1
            · simp [c0, c1, c4, c5, hy1, e8, e3, e1, e4, e5, cond_t, cond_f, bind_some]
            · simp [c0, c1, c4, c5, hy1, e8, e3, e1, e4, e5, n6, fin, d0, d1, cond_t, cond_f, bind_some]
          · by_cases e6 : x.1 = 6
            · by_cases e5 : x.2.2.2.2.1 < 1
              · simp [c0, c1, c4, c5, hy1, e8, e3, e1, e4, e5, e6, cond_t, cond_f, bind_some]
              · simp [c0, c1, c4, c5, hy1, e8, e3, e1, e4, e5, e6, fin, d0, d1, cond_t, cond_f, bind_some]
            · simp [c0, c1, c4, c5, hy1, e8, e3, e1, e4, e6, fin, d0, d1, cond_t, cond_f, bind_some]
        · simp [c0, c1, c4, c5, hy1, e8, e3, e1, cond_t, cond_f, bind_some]

set_option maxHeartbeats 1000000 in
theorem rec_check_eq (x : RecT) : rec_Check x = some (chkR x, ()) := by
  obtain ⟨k, a, b, c, d, e, u⟩ := x
  unfold chkR
  simp only
  by_cases h1 : k = 1
  · subst h1
    rw [check2_of (x := (1, a, b, c, d, e, u)) (y := (1, 0, 0, 0, d, e, u)) (l := [1, 2, 3]) (vs := [a, b, c]) (ms := [15, 1023, 511]) rfl rfl (by simp) (by simp) (fun i hi => by match i, hi with | 0, _ => rfl | 1, _ => rfl | 2, _ => rfl) rfl (loopW_eq (n := 4) rfl) rfl]
    simp [inAll, inB, zeros]
    by_cases e1 : 1 ≤ a
    · have e0 : 0 ≤ a := by omega
      simp [e1, e0, Bool.and_assoc]
    · simp [e1]
  rw [if_neg h1]
  by_cases h2 : k = 2
  · subst h2
    rw [check2_of (x := (2, a, b, c, d, e, u)) (y := (2, 0, 0, c, d, e, u)) (l := [1, 2]) (vs := [a, b]) (ms := [15, 1023]) rfl rfl (by simp) (by simp) (fun i hi => by match i, hi with | 0, _ => rfl | 1, _ => rfl) rfl (loopW_eq (n := 4) rfl) rfl]
    simp [inAll, inB, zeros]
    by_cases e1 : 1 ≤ a
    · have e0 : 0 ≤ a := by omega
      simp [e1, e0, Bool.and_assoc]
    · simp [e1]
  rw [if_neg h2]
  by_cases h3 : k = 3
  · subst h3
    rw [check2_of (x := (3, a, b, c, d, e, u)) (y := (3, a, b, 0, 0, e, u)) (l := [3, 4]) (vs := [c, d]) (ms := [511, 511]) rfl rfl (by simp) (by simp) (fun i hi => by match i, hi with | 0, _ => rfl | 1, _ => rfl) rfl (loopW_eq (n := 4) rfl) rfl]
    simp [inAll, inB, zeros]
  rw [if_neg h3]
  by_cases h4 : k = 4
  · subst h4
    rw [check2_of (x := (4, a, b, c, d, e, u)) (y := (4, 0, b, c, d, 0, u)) (l := [1, 5]) (vs := [a, e]) (ms := [15, 1024]) rfl rfl (by simp) (by simp) (fun i hi => by match i, hi with | 0, _ => rfl | 1, _ => rfl) rfl (loopW_eq (n := 4) rfl) rfl]
    simp [inAll, inB, zeros]
    by_cases e1 : 1 ≤ a
    · have e0 : 0 ≤ a := by omega
      by_cases e2 : 1 ≤ e
      · have e3 : 0 ≤ e := by omega
        have e4 : ¬ e < 1 := by omega
        simp [e1, e0, e2, e3, e4, Bool.and_assoc]
      · have e4 : e < 1 := by omega
        simp [e2, e4]
    · simp [e1]
  rw [if_neg h4]
  by_cases h5 : k = 5
  · subst h5
    rw [check2_of (x := (5, a, b, c, d, e, u)) (y := (5, 0, b, c, d, e, u)) (l := [1]) (vs := [a]) (ms := [15]) rfl rfl (by simp) (by simp) (fun i hi => by match i, hi with | 0, _ => rfl) rfl (loopW_eq (n := 4) rfl) rfl]
    simp [inAll, inB, zeros]
    by_cases e1 : 1 ≤ a
    · have e0 : 0 ≤ a := by omega
      simp [e1, e0, Bool.and_assoc]
    · simp [e1]
  by_cases h7 : k = 7
  · subst h7
    rw [check2_of (x := (7, a, b, c, d, e, u)) (y := (7, 0, b, c, d, e, u)) (l := [1]) (vs := [a]) (ms := [15]) rfl rfl (by simp) (by simp) (fun i hi => by match i, hi with | 0, _ => rfl) rfl (loopW_eq (n := 4) rfl) rfl]
    simp [inAll, inB, zeros]
    by_cases e1 : 1 ≤ a
    · have e0 : 0 ≤ a := by omega
      simp [e1, e0, Bool.and_assoc]
    · simp [e1]
  rw [if_neg (by simp [h5, h7])]
  by_cases h6 : k = 6
  · subst h6
    rw [check2_of (x := (6, a, b, c, d, e, u)) (y := (6, 0, b, c, 0, e, u)) (l := [1, 4]) (vs := [a, d]) (ms := [15, 15]) rfl rfl (by simp) (by simp) (fun i hi => by match i, hi with | 0, _ => rfl | 1, _ => rfl) rfl (loopW_eq (n := 4) rfl) rfl]
    simp [inAll, inB, zeros]
    by_cases e1 : 1 ≤ a
    · have e0 : 0 ≤ a := by omega
      by_cases e2 : 1 ≤ d
      · have e3 : 0 ≤ d := by omega
        have e4 : ¬ d < 1 := by omega
        simp [e1, e0, e2, e3, e4, Bool.and_assoc]
      · have e4 : d < 1 := by omega
        simp [e2, e4]
    · simp [e1]
  rw [if_neg h6]
  by_cases h8 : k = 8
  · subst h8
    rw [check2_of (x := (8, a, b, c, d, e, u)) (y := (8, a, b, 0, d, e, u)) (l := [3]) (vs := [c]) (ms := [31]) rfl rfl (by simp) (by simp) (fun i hi => by match i, hi with | 0, _ => rfl) rfl (loopW_eq (n := 4) rfl) rfl]
    simp [inAll, inB, zeros]
  rw [if_neg h8]
  by_cases h9 : k = 9
  · subst h9
    rw [check2_of (x := (9, a, b, c, d, e, u)) (y := (9, a, b, 0, d, 0, u)) (l := [3, 5]) (vs := [c, e]) (ms := [31, 1073741824]) rfl rfl (by simp) (by simp) (fun i hi => by match i, hi with | 0, _ => rfl | 1, _ => rfl) rfl (loopW_eq (n := 4) rfl) rfl]
    simp [inAll, inB, zeros]
  rw [if_neg h9]
  have hr : rec_fields (some (0, 0)) [recB (k, a, b, c, d, e, u)] = some ((⟨none, 0, 0⟩, ⟨none, 0, 0⟩, ()), [recB (k, a, b, c, d, e, u)]) := by
    have r1' : rdI .i64 [recB (k, a, b, c, d, e, u)] 0 0 = some k := rfl
    unfold rec_fields
    simp only [List.length_nil, bind_some, r1', decide_eq_false h1, decide_eq_false h2, decide_eq_false h3, decide_eq_false h4, decide_eq_false h5, decide_eq_false h6, decide_eq_false h7, decide_eq_false h8, decide_eq_false h9, cond_f]
  unfold rec_Check rec_Check.on
  have q1 : ([] : Heap) ++ [Blk.cells [.int .i64 k, .int .i64 a, .int .i64 b, .int .i64 c, .int .i64 d, .int .i64 e] .exact] = [recB (k, a, b, c, d, e, u)] := rfl
  have l1 : loopW (rec_Check.s1 ((⟨none, 0, 0⟩, ⟨none, 0, 0⟩, ()), [recB (k, a, b, c, d, e, u)])) (0, ()) [recB (k, a, b, c, d, e, u)] = some (.inl (), [recB (k, a, b, c, d, e, u)]) := loopW_eq (n := 1) rfl
  have c0 : rdI .i64 [recB (k, a, b, c, d, e, u)] 0 0 = some k := rfl
  have c1 : rdI .i64 [recB (k, a, b, c, d, e, u)] 0 1 = some a := rfl
  simp only [q1, hr, bind_some, l1, Sum.elim_inl, List.length_nil, c0, c1]
  by_cases e8 : 8 ≤ k
  · simp [e8, cond_t, bind_some]
  · simp [e8, h3, cond_f, bind_some]
end Ev

namespace Ev
open Go (IntKind)

theorem rdM_of {H : Heap} {b o : Nat} {cs : List C} {bk : BK} {n : Option Nat} (h : H[b]? = some (.cells cs bk)) (hc : cs[o]? = some (.mp n)) : rdM H b o = some n := by
  show (H.cell b o).bind (CT.un .mp) = some n
  rw [cell_of h hc]; rfl

def inW (_ : Int) (v : Int) : W := .one (.int .i64 v)
def boW (_ : Int) (_ : Unit) : W := .one (.bool true)
def spW (pg : Int → Nat) (id : Int) (x : Int × Bool) : W := .agg [.int .i64 x.1, .bool x.2, .mp (some (pg id))]
structure SaA where
  c : Nat
  sp : Nat
  rf : Nat
  bd : Nat
  wn : Nat
  pg : Int → Nat
section
variable {H : Heap} {a : SaA} {st : Sta}
theorem mp_ne {b c : Nat} {cs : List C} {bk : BK} {α : Type} {f : Int → α → W} {l : List (Int × α)} (h : H[c]? = some (.cells cs bk)) (hm : MpA H b f l) : b ≠ c := by
  rintro rfl
  obtain ⟨dc, hm⟩ := hm
  rw [h] at hm; cases hm

/-- A number out of a map of numbers. -/
theorem MpA.int {b : Nat} {l : List (Int × Int)} (h : MpA H b inW l) (k : Int) : mget H (.one (.int .i64)) (.one (.int .i64 0)) (some b) k = some ((afind l k).getD 0, (afind l k).isSome) := by
  refine h.get (.one (.int .i64)) _ k ?_
  cases afind l k <;> rfl
theorem MpA.bool {b : Nat} {l : List (Int × Unit)} (h : MpA H b boW l) (k : Int) : mget H (.one .bool) (.one (.bool false)) (some b) k = some ((afind l k).isSome, (afind l k).isSome) := by
  refine h.get (.one .bool) _ k ?_
  cases afind l k <;> rfl
def spV (pg : Int → Nat) (id : Int) : Option (Int × Bool) → Int × Bool × Option Nat × Unit
  | some x => (x.1, x.2, some (pg id), ())
  | none => (0, false, none, ())
theorem MpA.space {b : Nat} {pg : Int → Nat} {l : List (Int × Int × Bool)} (h : MpA H b (spW pg) l) (k : Int) : mget H (.agg [.int .i64, .bool, .mp]) (.agg [.int .i64 0, .bool false, .mp none]) (some b) k = some (spV pg k (afind l k), (afind l k).isSome) := by
  refine h.get (.agg [.int .i64, .bool, .mp]) _ k ?_
  cases afind l k <;> rfl
theorem mget_nil (ty : Ty) (zero : W) (k : Int) {v : ty.T} (hv : ty.un zero = some v) : mget H ty zero none k = some (v, false) := by
  simp only [mget, mgetW, Option.bind_some, Option.getD_none, hv]; rfl

theorem pgs_none (w : SaW st) {id : Int} (hn : afind st.sp id = none) : pgs st.lv id = [] := by
  unfold pgs
  have : (st.lv.filter fun x => decide (x.1 / 1024 = id)) = [] := by
    rw [List.filter_eq_nil_iff]
    intro x hx hd
    have hd := of_decide_eq_true hd
    have := w.own x hx
    rw [hd, hn] at this; cases this
  rw [this]; rfl
/-- What is told of a space. -/
def spI (st : Sta) (id : Int) : Int × Int × Int × Bool × Unit :=
  match afind st.sp id with
  | some x => (id, x.1, ((pgs st.lv id).length : Int), x.2, ())
  | none => (0, 0, 0, false, ())
end
end Ev

namespace Ev
open Go (IntKind)

abbrev ctI : List CT := [.int .i64, .int .i64, .int .i64, .bool]
def infos (st : Sta) : List (Tup ctI) := st.sp.map fun x => spI st x.1
section
variable {H : Heap} {a : SaA} {st : Sta}
theorem sp_keys (w : SaW st) : st.sp.length ≤ 1099511627776 ∧ ∀ x ∈ st.sp, -9223372036854775808 ≤ x.1 ∧ x.1 ≤ 9223372036854775807 :=
  ⟨by have := w.few; omega, fun x hx => by have := w.ids x hx; omega⟩
theorem pgs_len (lv : List (Int × Int)) (id : Int) : (pgs lv id).length = (lv.filter fun x => decide (x.1 / 1024 = id)).length := by unfold pgs; rw [List.length_map]
theorem sum_one {l : List (Int × Int × Bool)} (hs : Asc l) (f g : Int → Nat) {k : Int} {x : Int × Bool} (hk : afind l k = some x) (hg : ∀ j, g j = f j + (if k = j then 1 else 0)) : (l.map fun x => g x.1).sum = (l.map fun x => f x.1).sum + 1 := by
  induction l with
  | nil => cases hk
  | cons y l ih =>
    rw [List.map_cons, List.map_cons, List.sum_cons, List.sum_cons, hg]
    rw [afind] at hk
    by_cases e : y.1 = k
    · rw [if_pos e.symm]
      have : (l.map fun x => g x.1) = l.map fun x => f x.1 := List.map_congr_left fun z hz => by
        have := hs.head hz
        rw [hg, if_neg (by omega)]; rfl
      rw [this]; omega
    · rw [if_neg e] at hk
      rw [if_neg (fun hh => e hh.symm), ih hs.tail hk]; omega
theorem pages_sum {sp : List (Int × Int × Bool)} (hs : Asc sp) : ∀ {lv : List (Int × Int)}, (∀ x ∈ lv, (afind sp (x.1 / 1024)).isSome = true) → (sp.map fun x => (pgs lv x.1).length).sum = lv.length
  | [], _ => by
    induction sp with
    | nil => rfl
    | cons y l ih => rw [List.map_cons, List.sum_cons, ih hs.tail (fun _ hx => absurd hx List.not_mem_nil)]; rfl
  | z :: lv, h => by
    obtain ⟨x, hx⟩ := Option.isSome_iff_exists.1 (h z (by simp))
    rw [sum_one hs (fun j => (pgs lv j).length) (fun j => (pgs (z :: lv) j).length) hx fun j => by
      simp only [pgs_len, List.filter_cons]
      by_cases e : z.1 / 1024 = j
      · rw [if_pos (decide_eq_true e), if_pos e, List.length_cons]
      · rw [if_neg (by simpa using e), if_neg e]; rfl, pages_sum hs fun y hy => h y (by simp [hy]), List.length_cons]
theorem sum_take_le (l : List Nat) (i : Nat) : (l.take i).sum ≤ l.sum := by
  have : l.sum = (l.take i).sum + (l.drop i).sum := by rw [← List.sum_append, List.take_append_drop]
  omega
theorem spI_at (st : Sta) {id : Int} {x : Int × Bool} (h : afind st.sp id = some x) : spI st id = (id, x.1, ((pgs st.lv id).length : Int), x.2, ()) := by unfold spI; rw [h]
end
end Ev

namespace Ev
open Go (IntKind)

section
variable {α : Type} {H : Heap} {b : Nat} {f : Int → α → W} {l : List (Int × α)} {dc : Nat}
theorem mset_of (h : H[b]? = some (.mp (encA f l) dc)) (k : Int) (v : α) {w : W} (hw : w = f k v) : mset H (some b) k w = some (H.set b (.mp (encA f (ains l k v)) dc)) := by
  subst hw
  simp only [mset, Option.bind_some, mpAt_of h, mins_enc]
theorem mdel_of (h : H[b]? = some (.mp (encA f l) dc)) (k : Int) : mdel H (some b) k = some (H.set b (.mp (encA f (adrop l k)) (dc + 1))) := by
  simp only [mdel, mpAt_of h, Option.bind_some, mdrop_enc]
end
section
variable {H H' : Heap} {a : SaA} {st : Sta}
theorem MpA.ne {α β : Type} {b b' : Nat} {f : Int → α → W} {g : Int → β → W} {l : List (Int × α)} {l' : List (Int × β)} (_ : MpA H b f l) (_ : MpA H b' g l') (h : b ≠ b') : b ≠ b' := h
theorem SaW.key (w : SaW st) {id p : Int} {x : Int × Bool} (hx : afind st.sp id = some x) (hp : 0 ≤ p ∧ p < 1024) (v : Int) : SaW ⟨st.sp, ains st.lv (id * 1024 + p) v, st.bd, st.wn⟩ :=
  ⟨w.sp, w.lv.ins _ _, w.bd, w.wn, fun y hy => by
    rcases ains_mem hy with rfl | hy
    · show (afind st.sp ((id * 1024 + p) / 1024)).isSome = true
      rw [(key_div id p hp.1 hp.2).1, hx]; rfl
    · exact w.own y hy, w.ids, w.bds, w.wns⟩
theorem SaW.less (w : SaW st) (k : Int) : SaW ⟨st.sp, adrop st.lv k, st.bd, st.wn⟩ :=
  ⟨w.sp, w.lv.drop _, w.bd, w.wn, fun y hy => w.own y ((adrop_sub _ _).subset hy), w.ids, w.bds, w.wns⟩
theorem set2_keep (H : Heap) (b1 b2 : Nat) (x1 x2 : Blk) : Keep (fun b => b = b1 ∨ b = b2) H ((H.set b1 x1).set b2 x2) := (Keep.set _ _ _ (.inl rfl)).trans (Keep.set _ _ _ (.inr rfl))
end
end Ev

namespace Ev
open Go (IntKind)

/-! Plain: many keys away; many keys in. -/
/-- Without a space. -/
def lvOff (lv : List (Int × Int)) (id : Int) : List (Int × Int) := lv.filter fun x => !decide (x.1 / 1024 = id)
theorem lvOff_asc {lv : List (Int × Int)} (h : Asc lv) (id : Int) : Asc (lvOff lv id) := h.sub List.filter_sublist
theorem set_same {H : Heap} {b : Nat} {x : Blk} (h : H[b]? = some x) : H.set b x = H := by
  apply List.ext_getElem?
  intro j
  by_cases e : b = j
  · subst e; rw [set_get (get_lt h), h]
  · rw [set_get' e]
theorem keys_nodup {α : Type} {l : List (Int × α)} (h : Asc l) : (l.map Prod.fst).Nodup := by
  unfold Asc at h
  exact (List.pairwise_map.2 (h.imp fun hlt => by omega))
end Ev

namespace Ev
open Go (IntKind)

theorem cnt_append (A B : List (Int × Int)) (c : Int) : cnt (A ++ B) c = cnt A c + cnt B c := by unfold cnt; rw [List.filter_append, List.length_append]
theorem nodup_len : ∀ {l ks : List Int}, l.Nodup → (∀ x ∈ l, x ∈ ks) → l.length ≤ ks.length
  | [], _, _, _ => Nat.zero_le _
  | x :: l, ks, hn, h => by
    rw [List.nodup_cons] at hn
    have hx := h x (by simp)
    have := nodup_len (l := l) (ks := ks.erase x) hn.2 fun y hy => (List.mem_erase_of_ne (fun e => hn.1 (by rw [← e]; exact hy))).2 (h y (by simp [hy]))
    rw [List.length_erase_of_mem hx] at this
    have h0 : 0 < ks.length := List.length_pos_of_mem hx
    rw [List.length_cons]; omega
/-- Another's pages in. -/
def insAll (id : Int) (lv : List (Int × Int)) (P : List (Int × Int)) : List (Int × Int) := P.foldl (fun lv x => ains lv (id * 1024 + x.1) x.2) lv
theorem insAll_asc {id : Int} : ∀ {P lv : List (Int × Int)}, Asc lv → Asc (insAll id lv P)
  | [], _, h => h
  | x :: P, lv, h => insAll_asc (P := P) (lv := ains lv (id * 1024 + x.1) x.2) (h.ins _ _)
theorem insAll_find {id : Int} (j : Int) : ∀ {P lv : List (Int × Int)}, Asc lv → Asc P → afind (insAll id lv P) j = (afind P (j - id * 1024)).or (afind lv j)
  | [], lv, _, _ => rfl
  | x :: P, lv, h, hP => by
    show afind (insAll id (ains lv (id * 1024 + x.1) x.2) P) j = _
    rw [insAll_find j (h.ins _ _) hP.tail, afind_ins h]
    show _ = (if x.1 = j - id * 1024 then some x.2 else afind P (j - id * 1024)).or (afind lv j)
    by_cases e : j = id * 1024 + x.1
    · rw [if_pos e, if_pos (by omega), afind_none fun y hy => by have := hP.head hy; omega]; rfl
    · rw [if_neg e, if_neg (by omega)]
section
variable {H H0 : Heap} {a : SaA} {st : Sta}
theorem free_keys (w : SaW st) {id : Int} (hn : afind st.sp id = none) {p : Int} (hp : 0 ≤ p ∧ p < 1024) : afind st.lv (id * 1024 + p) = none := by
  have := pgs_find w.lv id p
  rw [pgs_none w hn, if_pos hp] at this
  exact this.symm
def Sta.openS (st : Sta) (id q : Int) (P : List (Int × Int)) : Int × Sta :=
  if (afind st.sp id).isSome = true then (80, st) else (0, ⟨ains st.sp id (q, false), insAll id st.lv P, st.bd, st.wn⟩)
end
end Ev

namespace Ev
open Go (IntKind)

section
variable (len : Int → Nat) (R : Int → List Blk)
def rowsK (l : List Int) : Heap := (l.map R).flatten
theorem rowsK_snoc (l : List Int) (k : Int) : rowsK R (l ++ [k]) = rowsK R l ++ R k := by simp [rowsK]
theorem rowsK_len (hR : ∀ k, (R k).length = len k) : ∀ l : List Int, (rowsK R l).length = ktot len l
  | [] => rfl
  | x :: l => by
    have := rowsK_len hR l
    unfold rowsK at this ⊢
    rw [List.map_cons, List.flatten_cons, List.length_append, hR, this]; rfl
theorem rowsK_get (hR : ∀ k, (R k).length = len k) : ∀ {l : List Int} {k : Int} {j : Nat}, k ∈ l → j < len k → (rowsK R l)[kpos len l k + j]? = (R k)[j]?
  | x :: l, k, j, h, hj => by
    have ih := rowsK_get hR (l := l) (k := k) (j := j)
    unfold rowsK at ih ⊢
    rw [List.map_cons, List.flatten_cons, kpos]
    by_cases e : x = k
    · subst e
      rw [if_pos rfl, Nat.zero_add, List.getElem?_append_left (by rw [hR]; exact hj)]
    · rw [if_neg e, List.getElem?_append_right (by rw [hR]; omega), hR, show len x + kpos len l k + j - len x = kpos len l k + j by omega]
      exact ih ((List.mem_cons.1 h).resolve_left fun hh => e hh.symm) hj
end

/-! Plain. -/
def mv (f t : Int) (P : List (Int × Int)) : List (Int × Int) := P.map fun x => if x.2 = f then (x.1, t) else x
theorem asc_map {α β : Type} {l : List (Int × α)} (h : Asc l) (g : Int × α → Int × β) (hg : ∀ x, (g x).1 = x.1) : Asc (l.map g) := by
  unfold Asc at *
  rw [List.pairwise_map]
  exact h.imp fun {x y} hlt => by rw [hg, hg]; exact hlt
theorem mv_asc {f t : Int} {P : List (Int × Int)} (h : Asc P) : Asc (mv f t P) := asc_map h _ fun x => by split <;> rfl
end Ev

namespace Ev
open Go (IntKind)

def Sta.moveS (st : Sta) (f t : Int) : Int × Sta :=
  if cnt st.lv f = 0 then (82, st) else if 0 < cnt st.lv t then (82, st) else (0, ⟨st.sp, mv f t st.lv, st.bd, st.wn⟩)
/-- What a record does. -/
def Sta.applyS (st : Sta) (x : RecT) : Int × Sta :=
  if x.1 = 4 then st.openS x.2.1 x.2.2.2.2.2.1 [] else
  if x.1 = 3 then st.moveS x.2.2.2.1 x.2.2.2.2.1 else
  if x.1 = 8 then (0, ⟨st.sp, st.lv, ains st.bd x.2.2.2.1 (), st.wn⟩) else
  if x.1 = 9 then (0, ⟨st.sp, st.lv, st.bd, ains st.wn x.2.2.2.1 (if x.2.2.2.2.2.1 > (afind st.wn x.2.2.2.1).getD 0 then x.2.2.2.2.2.1 else (afind st.wn x.2.2.2.1).getD 0)⟩) else
  match afind st.sp x.2.1 with
  | none => (80, st)
  | some s =>
    if x.1 = 1 then (if x.2.2.1 < 0 then (81, st) else if s.1 ≤ x.2.2.1 then (81, st) else (0, ⟨st.sp, ains st.lv (x.2.1 * 1024 + x.2.2.1) x.2.2.2.1, st.bd, st.wn⟩)) else
    if x.1 = 2 then (if (afind (pgs st.lv x.2.1) x.2.2.1).isSome = true then (0, ⟨st.sp, adrop st.lv (x.2.1 * 1024 + x.2.2.1), st.bd, st.wn⟩) else (81, st)) else
    if x.1 = 5 then (0, ⟨adrop st.sp x.2.1, lvOff st.lv x.2.1, st.bd, st.wn⟩) else
    if x.1 = 6 then st.openS x.2.2.2.2.1 s.1 (pgs st.lv x.2.1) else (0, ⟨ains st.sp x.2.1 (s.1, true), st.lv, st.bd, st.wn⟩)
structure GoodR (x : RecT) : Prop where
  k4 : x.1 = 4 → (1 ≤ x.2.1 ∧ x.2.1 ≤ 15) ∧ x.2.2.2.2.2.1 ≤ 1024
  k6 : x.1 = 6 → 1 ≤ x.2.2.2.2.1 ∧ x.2.2.2.2.1 ≤ 15
  k8 : x.1 = 8 → 0 ≤ x.2.2.2.1 ∧ x.2.2.2.1 ≤ 31
  k9 : x.1 = 9 → 0 ≤ x.2.2.2.1 ∧ x.2.2.2.1 ≤ 31
  k1 : x.1 = 1 → 0 ≤ x.2.2.2.1
theorem chk_good {x : RecT} (h : chkR x = true) : GoodR x := by
  unfold chkR at h
  refine ⟨fun e => ?_, fun e => ?_, fun e => ?_, fun e => ?_, fun e => ?_⟩
  all_goals
    simp only [e, inAll, inB] at h
    simp at h
    omega
section
variable {H : Heap} {a : SaA} {st : Sta}
theorem SaW.bd' (w : SaW st) {b : Int} (hb : 0 ≤ b ∧ b ≤ 31) : SaW ⟨st.sp, st.lv, ains st.bd b (), st.wn⟩ :=
  ⟨w.sp, w.lv, w.bd.ins _ _, w.wn, w.own, w.ids, fun y hy => (ains_mem hy).elim (fun e => by rw [e]; exact hb) (w.bds y), w.wns⟩
theorem SaW.wn' (w : SaW st) {b : Int} (hb : 0 ≤ b ∧ b ≤ 31) (v : Int) : SaW ⟨st.sp, st.lv, st.bd, ains st.wn b v⟩ :=
  ⟨w.sp, w.lv, w.bd, w.wn.ins _ _, w.own, w.ids, w.bds, fun y hy => (ains_mem hy).elim (fun e => by rw [e]; exact hb) (w.wns y)⟩
/-- A record, looked at first. -/
def Sta.doS (st : Sta) (x : RecT) : Int × Sta := if chkR x = true then st.applyS x else (1, st)
end
end Ev

namespace Ev
open Go (IntKind)

end Ev

namespace Ev
open Go (IntKind)

/-- Where a clone lies, in the order l. -/
def cloP (N0 : Nat) (l : List Int) (k : Int) : Nat := N0 + (kpos (fun _ => 2) l k + 1)
def cloR {β : Type} (N0 : Nat) (g : Int → β → W) (P : Int → List (Int × β)) (sp : List (Int × Int × Bool)) (l : List Int) (k : Int) : List Blk :=
  [.cells [.int .i64 ((afind sp k).getD (0, false)).1, .bool ((afind sp k).getD (0, false)).2, .mp (some (cloP N0 l k))] .exact, .mp (encA g (P k)) 0]
/-- The spaces of a list. -/
def spL (sp : List (Int × Int × Bool)) (l : List Int) : List (Int × Int × Bool) := sp.filter fun x => decide (x.1 ∈ l)
theorem spL_asc {sp : List (Int × Int × Bool)} (h : Asc sp) (l : List Int) : Asc (spL sp l) := h.sub List.filter_sublist
theorem spL_find {sp : List (Int × Int × Bool)} (h : Asc sp) (l : List Int) (k : Int) : afind (spL sp l) k = if k ∈ l then afind sp k else none := by
  cases hf : afind (spL sp l) k with
  | some v =>
    have := List.mem_filter.1 (afind_mem hf)
    rw [if_pos (of_decide_eq_true this.2), h.find this.1]
  | none =>
    by_cases e : k ∈ l
    · rw [if_pos e]
      cases hs : afind sp k with
      | none => rfl
      | some v =>
        have := (spL_asc h l).find (List.mem_filter.2 ⟨afind_mem hs, decide_eq_true e⟩)
        rw [hf] at this; cases this
    · rw [if_neg e]
theorem clone_loop {β : Type} {g : Int → β → W} (hg : ∀ (π : Nat → Nat) (j : Int) (v : β), (g j v).ren π = g j v) {H0 : Heap} {m N : Nat} {pg : Int → Nat} {sp : List (Int × Int × Bool)} (hsp : Asc sp) {P : Int → List (Int × β)} (hm : MpA H0 m (spW pg) sp)
    (hP : ∀ id x, afind sp id = some x → MpA H0 (pg id) g (P id)) (hN : H0[N]? = some (.mp [] 0)) (hne : m ≠ N) (hpn : ∀ id x, afind sp id = some x → pg id ≠ N) {step : Int → Unit → Heap → Option (Unit × Heap)}
    (hstep : ∀ k x G, afind sp k = some x → MpA G m (spW pg) sp → MpA G (pg k) g (P k) → (∀ b, b < H0.length → b ≠ N → G[b]? = H0[b]?) → H0.length ≤ G.length →
      step k () G = (mset (G ++ [.cells [.int .i64 x.1, .bool x.2, .mp (some (G.length + 1))] .exact, .mp (encA g (P k)) 0]) (some N) k (.agg [.int .i64 x.1, .bool x.2, .mp (some (G.length + 1))])).bind fun H' => some ((), H')) :
    ∃ G pg', eachW step (some m) () H0 = some ((), G) ∧ (∀ b, b < H0.length → b ≠ N → G[b]? = H0[b]?) ∧ H0.length ≤ G.length ∧ MpA G N (spW pg') sp ∧ (∀ id x, afind sp id = some x → MpA G (pg' id) g (P id) ∧ H0.length ≤ pg' id) ∧
      ∀ id x id' x', afind sp id = some x → afind sp id' = some x' → pg' id = pg' id' → id = id' := by
  have hNl := get_lt hN
  have hin : ∀ {k : Int}, k ∈ sp.map Prod.fst → ∃ x, afind sp k = some x := fun hk => Option.isSome_iff_exists.1 (afind_isSome.2 hk)
  let F : List Int → Heap := fun l => H0.set N (.mp (encA (spW (cloP H0.length l)) (spL sp l)) 0) ++ rowsK (cloR H0.length g P sp l) l
  have hF : ∀ l, F l = H0.set N (.mp (encA (spW (cloP H0.length l)) (spL sp l)) 0) ++ rowsK (cloR H0.length g P sp l) l := fun _ => rfl
  have hR : ∀ l k, (cloR H0.length g P sp l k).length = (fun _ : Int => 2) k := fun _ _ => rfl
  have hRl : ∀ l l', (rowsK (cloR H0.length g P sp l) l').length = 2 * l'.length := fun l l' => by
    rw [rowsK_len _ _ (hR l)]
    induction l' with
    | nil => rfl
    | cons x l' ih => rw [ktot, ih, List.length_cons]; omega
  have hlow : ∀ l b, b < H0.length → b ≠ N → (F l)[b]? = H0[b]? := fun l b hb hbn => by rw [hF, List.getElem?_append_left (by simpa using hb), set_get' (Ne.symm hbn)]
  have hFN : ∀ l, (F l)[N]? = some (.mp (encA (spW (cloP H0.length l)) (spL sp l)) 0) := fun l => by rw [hF, List.getElem?_append_left (by simpa using hNl), set_get hNl]
  have hkt : ∀ l : List Int, ktot (fun _ => 2) l = 2 * l.length := fun l => by
    induction l with
    | nil => rfl
    | cons x l' ih => rw [ktot, ih, List.length_cons]; omega
  have hF0 : F [] = H0 := by
    rw [hF]
    have e : spL sp [] = [] := by unfold spL; rw [List.filter_eq_nil_iff]; intro x _ hh; simp at hh
    rw [e]
    show H0.set N (.mp [] 0) ++ [] = H0
    rw [List.append_nil, set_same hN]
  have hrow : ∀ l k j, k ∈ l → j < 2 → (F l)[H0.length + (kpos (fun _ => 2) l k + j)]? = (cloR H0.length g P sp l k)[j]? := fun l k j hk hj => by
    rw [hF, List.getElem?_append_right (by simp), List.length_set, Nat.add_sub_cancel_left, rowsK_get (fun _ => 2) _ (hR l) hk hj]
  obtain ⟨dc, hhd⟩ := hm.head
  have hmF : ∀ l, MpA (F l) m (spW pg) sp ∧ (F l).mpAt m = H0.mpAt m := fun l => by
    have e := hlow l m hm.lt hne
    exact ⟨by obtain ⟨dc, hd⟩ := hm; exact ⟨dc, by rw [e]; exact hd⟩, by unfold Heap.mpAt; rw [e]⟩
  have hFl : ∀ l, (F l).length = H0.length + 2 * l.length := fun l => by rw [hF, List.length_append, List.length_set, hRl]
  have hall : spL sp (sp.map Prod.fst) = sp := List.filter_eq_self.2 fun x hx => decide_eq_true (List.mem_map.2 ⟨x, hx, rfl⟩)
  refine ⟨F (sp.map Prod.fst), cloP H0.length (sp.map Prod.fst), ?_, hlow _, by rw [hFl]; omega, ⟨0, by rw [hFN, hall]⟩, fun id x hx => ?_, fun id x id' x' hx hx' e => ?_⟩
  · refine eachW_of (ks := sp.map Prod.fst) hm.keys hhd (keys_nodup hsp) (fun _ => ()) F rfl hF0 (fun l k hl hn hk hkl => ⟨?_, ?_⟩) (fun l hl => ⟨rfl, ?_⟩)
    · obtain ⟨x, hx⟩ := hin hk
      have hpl : MpA (F l) (pg k) g (P k) := by
        obtain ⟨dp, hd⟩ := hP k x hx
        exact ⟨dp, by rw [hlow l _ (get_lt hd) (hpn k x hx)]; exact hd⟩
      rw [hstep k x (F l) hx (hmF l).1 hpl (hlow l) (by rw [hFl]; omega)]
      have hNF : (F l ++ [.cells [.int .i64 x.1, .bool x.2, .mp (some ((F l).length + 1))] .exact, .mp (encA g (P k)) 0])[N]? = some (.mp (encA (spW (cloP H0.length (l ++ [k]))) (spL sp l)) 0) := by
        have e0 : encA (spW (cloP H0.length l)) (spL sp l) = encA (spW (cloP H0.length (l ++ [k]))) (spL sp l) := enc_congr fun y hy => by
          have hyl := of_decide_eq_true (List.mem_filter.1 hy).2
          unfold spW cloP
          rw [kpos_left _ hyl]
        rw [List.getElem?_append_left (by rw [hFl]; omega), hFN, e0]
      have hpk : (F l).length + 1 = cloP H0.length (l ++ [k]) k := by
        unfold cloP
        rw [kpos_append _ hkl, hkt, hFl]; omega
      have hset := mset_of hNF k x (w := .agg [.int .i64 x.1, .bool x.2, .mp (some ((F l).length + 1))]) (by unfold spW; rw [hpk])
      simp only [hset, Option.bind_some]
      refine congrArg (fun G => some ((), G)) ?_
      have hsl : ains (spL sp l) k x = spL sp (l ++ [k]) := asc_ext ((spL_asc hsp l).ins _ _) (spL_asc hsp _) fun k' => by
        rw [afind_ins (spL_asc hsp l), spL_find hsp, spL_find hsp]
        by_cases e : k' = k
        · rw [if_pos e, e, if_pos (by simp), hx]
        · rw [if_neg e]
          by_cases e2 : k' ∈ l
          · rw [if_pos e2, if_pos (by simp [e2])]
          · rw [if_neg e2, if_neg (by simp [e, e2])]
      rw [hsl, hpk, hF, hF, List.append_assoc, List.set_append_left _ _ (by simpa using hNl), List.set_set, rowsK_snoc]
      congr 1
      have e1 : rowsK (cloR H0.length g P sp (l ++ [k])) l = rowsK (cloR H0.length g P sp l) l := by
        exact congrArg List.flatten (List.map_congr_left fun y hy => by unfold cloR cloP; rw [kpos_left _ hy])
      rw [e1]
      congr 1
      unfold cloR
      rw [hx]; rfl
    · simp only [mhead, Option.bind_some, (hmF (l ++ [k])).2]
      exact hhd
    · have hnd := hl.nodup_iff.2 (keys_nodup hsp)
      have hkr : ∀ k ∈ l, kren (fun _ => 2) H0.length l (sp.map Prod.fst) (cloP H0.length l k) = cloP H0.length (sp.map Prod.fst) k := fun k hk => kren_at (fun _ => 2) hk (by omega)
      refine alike_rows (fun _ => 2) hl hnd (List.length_set ..) (List.length_set ..) _ _ (rowsK_len _ _ (hR _) _) (rowsK_len _ _ (hR _) _) (fun b hb => ?_) (fun k hk j hj => ?_)
      · by_cases e : b = N
        · subst e
          left
          rw [set_get hNl, set_get hNl, hall, show spL sp l = sp from List.filter_eq_self.2 fun x hx => decide_eq_true (hl.symm.subset (List.mem_map.2 ⟨x, hx, rfl⟩))]
          show some (Blk.mp _ 0) = some (Blk.mp ((encA (spW (cloP H0.length l)) sp).map fun x : Int × W => (x.1, W.ren (kren (fun _ => 2) H0.length l (sp.map Prod.fst)) x.2)) 0)
          unfold encA
          rw [List.map_map]
          congr 2
          refine List.map_congr_left fun x hx => ?_
          show (x.1, spW (cloP H0.length (sp.map Prod.fst)) x.1 x.2) = (x.1, W.ren (kren (fun _ => 2) H0.length l (sp.map Prod.fst)) (spW (cloP H0.length l) x.1 x.2))
          unfold spW
          show _ = (x.1, W.agg [.int .i64 x.2.1, .bool x.2.2, .mp (some (kren (fun _ => 2) H0.length l (sp.map Prod.fst) (cloP H0.length l x.1)))])
          rw [hkr x.1 (hl.symm.subset (List.mem_map.2 ⟨x, hx, rfl⟩))]
        · right
          rw [set_get' (Ne.symm e), set_get' (Ne.symm e)]; exact ⟨rfl, rfl⟩
      · rw [rowsK_get (fun _ => 2) _ (hR _) (hl.subset hk) hj, rowsK_get (fun _ => 2) _ (hR _) hk hj]
        have h0 : j = 0 ∨ j = 1 := by have : j < 2 := hj; omega
        rcases h0 with rfl | rfl
        · show some (Blk.cells [_, _, C.mp (some (cloP H0.length (sp.map Prod.fst) k))] _) = some (Blk.cells [_, _, C.mp (some (kren (fun _ => 2) H0.length l _ (cloP H0.length l k)))] _)
          rw [hkr k hk]; rfl
        · show some (Blk.mp (encA g (P k)) 0) = some (Blk.mp ((encA g (P k)).map fun x : Int × W => (x.1, W.ren (kren (fun _ => 2) H0.length l (sp.map Prod.fst)) x.2)) 0)
          unfold encA
          rw [List.map_map]
          congr 2
          refine List.map_congr_left fun x hx => ?_
          show (x.1, g x.1 x.2) = (x.1, W.ren (kren (fun _ => 2) H0.length l (sp.map Prod.fst)) (g x.1 x.2))
          rw [hg]
  · have hk : id ∈ sp.map Prod.fst := afind_isSome.1 (by rw [hx]; rfl)
    refine ⟨⟨0, ?_⟩, by unfold cloP; omega⟩
    exact hrow _ id 1 hk (by decide)
  · have hk : id ∈ sp.map Prod.fst := afind_isSome.1 (by rw [hx]; rfl)
    have hk' : id' ∈ sp.map Prod.fst := afind_isSome.1 (by rw [hx']; rfl)
    have h1 := kloc_pos (fun _ => 2) hk (j := 1) (by decide)
    have h2 := kloc_pos (fun _ => 2) hk' (j := 1) (by decide)
    unfold cloP at e
    rw [show kpos (fun _ => 2) (sp.map Prod.fst) id + 1 = kpos (fun _ => 2) (sp.map Prod.fst) id' + 1 by omega, h2] at h1
    cases h1; rfl
end Ev

namespace Ev
open Go (IntKind)

section
variable {α : Type}
/-- Is it put, once l was looked at? -/
def putI (k : Int) (l : List (Int × α)) : Bool := l.any fun x => decide (k ≤ x.1)
def outI (k : Int) (v : α) (l : List (Int × α)) : List (Int × α) := if putI k l = true then ains l k v else l
theorem ains_snoc {l : List (Int × α)} {k : Int} (v : α) (h : ∀ x ∈ l, x.1 < k) : ains l k v = l ++ [(k, v)] := by
  induction l with
  | nil => rfl
  | cons x l ih =>
    have := h x (by simp)
    rw [ains, if_neg (by omega), if_neg (by omega), ih fun y hy => h y (by simp [hy])]; rfl
theorem ains_app {l : List (Int × α)} {k : Int} (v : α) {x : Int × α} (h : Asc (l ++ [x])) (hp : putI k l = true) : ains (l ++ [x]) k v = ains l k v ++ (if x.1 = k then [] else [x]) := by
  induction l with
  | nil => cases hp
  | cons y l ih =>
    have hyx : y.1 < x.1 := h.head (by simp)
    rw [List.cons_append, ains, ains]
    by_cases e : k < y.1
    · rw [if_pos e, if_pos e, if_neg (by omega)]; rfl
    · rw [if_neg e, if_neg e]
      by_cases e2 : y.1 = k
      · rw [if_pos e2, if_pos e2, if_neg (by omega)]; rfl
      · rw [if_neg e2, if_neg e2]
        have hp' : putI k l = true := by
          unfold putI at hp ⊢
          rw [List.any_cons, Bool.or_eq_true] at hp
          exact hp.resolve_left (by simp; omega)
        rw [ih h.tail hp']; rfl
theorem putI_false {k : Int} {l : List (Int × α)} (h : putI k l = false) : ∀ x ∈ l, x.1 < k := fun x hx => by
  unfold putI at h
  rw [List.any_eq_false] at h
  have := h x hx
  simp at this; exact this
/-- One more is looked at. -/
theorem outI_snoc {l : List (Int × α)} {k : Int} (v : α) {x : Int × α} (h : Asc (l ++ [x])) :
    putI k (l ++ [x]) = (putI k l || decide (k ≤ x.1)) ∧ outI k v (l ++ [x]) = outI k v l ++ (if putI k l = false ∧ k ≤ x.1 then [(k, v)] else []) ++ (if x.1 = k then [] else [x]) := by
  have h1 : putI k (l ++ [x]) = (putI k l || decide (k ≤ x.1)) := by unfold putI; rw [List.any_append]; simp
  refine ⟨h1, ?_⟩
  unfold outI
  rw [h1]
  cases hp : putI k l with
  | true =>
    rw [Bool.true_or, if_pos rfl, if_pos rfl, if_neg (fun hh => by cases hh.1), List.append_nil, ains_app v h hp]
  | false =>
    have hl := putI_false hp
    rw [Bool.false_or]
    by_cases e : k ≤ x.1
    · rw [if_pos (decide_eq_true e), if_neg (by decide), if_pos ⟨rfl, e⟩]
      clear h1 hp h
      induction l with
      | nil =>
        show ains [x] k v = [(k, v)] ++ _
        rw [ains]
        by_cases e2 : k < x.1
        · rw [if_pos e2, if_neg (by omega)]; rfl
        · rw [if_neg e2, if_pos (by omega), if_pos (by omega)]; rfl
      | cons y l ih =>
        have := hl y (by simp)
        rw [List.cons_append, ains, if_neg (by omega), if_neg (by omega), ih fun z hz => hl z (by simp [hz])]; rfl
    · rw [decide_eq_false e, if_neg (by decide), if_neg (by decide), if_neg (fun hh => e hh.2), List.append_nil, if_neg (by omega)]
theorem outI_all (k : Int) (v : α) (l : List (Int × α)) : (outI k v l ++ if putI k l = false then [(k, v)] else []) = ains l k v := by
  unfold outI
  cases hp : putI k l with
  | true => rw [if_pos rfl, if_neg (by decide), List.append_nil]
  | false => rw [if_neg (by decide), if_pos rfl, ains_snoc v (putI_false hp)]
end
section
variable {H : Heap} {s0 : Sl} {es : Nat} {G : Heap} {s : Sl} {cs : List C}
theorem Em.add (h : Em H s0 es G s cs) (t : Heap) (hes : 0 < es) {new : List C} (hnew : new.length = es) {bytes : Nat} (hb : (s.len + 1) * bytes ≤ 35184372088832) (hb2 : s.len + 1 ≤ 35184372088832) :
    ∃ s' G', appS (G ++ t) es bytes s 1 new = some (s', G') ∧ Em H s0 es G' s' (cs ++ new) ∧ s'.len = s.len + 1 ∧ ∀ b, b < (G ++ t).length → (∀ o, s.p ≠ some (b, o)) → G'[b]? = (G ++ t)[b]? := by
  obtain ⟨s', G', h1, h2, h3, h4, _⟩ := (h.push t).app hes hnew hb hb2
  exact ⟨s', G', h1, h2, h3, fun b hb ho => h4.same b hb fun ⟨o, hp⟩ => ho o hp⟩
/-- A loop that puts out rows, and knows of one thing whether it is put. -/
theorem emitI {cts : List CT} {step : Sl × Bool × Int × Unit → Heap → Option (((Sl × Bool × Int × Unit) ⊕ (Sl × Bool × Unit)) × Heap)} (n : Nat) (out : Nat → List (Tup cts)) (put : Nat → Bool) (h0 : Em H s0 es H s0 []) (hz : s0.len = 0) (ho : out 0 = []) (hp : put 0 = false)
    (hs : ∀ i, i < n → ∀ s G, Em H s0 es G s (rowsOf cts (out i)) → s.len = (out i).length → ∃ s' G', step (s, put i, (i : Int), ()) G = some (.inl (s', put (i + 1), ((i + 1 : Nat) : Int), ()), G') ∧ Em H s0 es G' s' (rowsOf cts (out (i + 1))) ∧ s'.len = (out (i + 1)).length)
    (he : ∀ s G, Em H s0 es G s (rowsOf cts (out n)) → step (s, put n, (n : Int), ()) G = some (.inr (s, put n, ()), G)) :
    ∃ s G, loopW step (s0, false, 0, ()) H = some ((s, put n, ()), G) ∧ Em H s0 es G s (rowsOf cts (out n)) ∧ s.len = (out n).length := by
  obtain ⟨x, G, g1, s, rfl, g2⟩ := loop_rise (step := step) n (fun i y G => ∃ s, y = (s, put i, (i : Int), ()) ∧ Em H s0 es G s (rowsOf cts (out i)) ∧ s.len = (out i).length) (fun x G => ∃ s, x = (s, put n, ()) ∧ Em H s0 es G s (rowsOf cts (out n)) ∧ s.len = (out n).length)
    (fun i y G hi ⟨s, hy, hE, hn⟩ => by
      subst hy
      obtain ⟨s', G', g1, g2, g3⟩ := hs i hi s G hE hn
      exact .inl ⟨_, G', g1, s', rfl, g2, g3⟩)
    (fun y G ⟨s, hy, hE, hn⟩ => by
      subst hy
      exact ⟨_, G, he s G hE, s, rfl, hE, hn⟩) (y := (s0, false, 0, ())) (H := H) ⟨s0, by rw [hp]; rfl, by rw [ho]; exact h0, by rw [ho, hz]; rfl⟩
  exact ⟨s, G, g1, g2⟩
end
end Ev

namespace Ev
open Go (IntKind)

theorem rowsOf_append' {cts : List CT} (l l' : List (Tup cts)) : rowsOf cts (l ++ l') = rowsOf cts l ++ rowsOf cts l' := by simp [rowsOf]
abbrev ctP : List CT := [.int .i64, .int .i64, .bool]
abbrev ctL : List CT := [.int .i64, .int .i64, .int .i64]
abbrev ctW : List CT := [.int .i64, .int .i64]
abbrev RfV := Sl × Sl × Sl × Sl × Unit
def rsp (x : Int × Int × Bool) : Tup ctP := (x.1, x.2.1, x.2.2, ())
def rlv (x : Int × Int) : Tup ctL := (x.1 / 1024, x.1 % 1024, x.2, ())
def rwn (x : Int × Int) : Tup ctW := (x.1, x.2, ())
structure RfAt (G : Heap) (v : RfV) (st : Sta) : Prop where
  w : SaW st
  sp : Row G 3 v.1 (rowsOf ctP (st.sp.map rsp))
  lv : Row G 3 v.2.1 (rowsOf ctL (st.lv.map rlv))
  bd : Row G 1 v.2.2.1 (intC (st.bd.map Prod.fst))
  wn : Row G 2 v.2.2.2.1 (rowsOf ctW (st.wn.map rwn))
  spl : v.1.len = st.sp.length
  lvl : v.2.1.len = st.lv.length
  bdl : v.2.2.1.len = st.bd.length
  wnl : v.2.2.2.1.len = st.wn.length
/-- Its blocks. -/
def blkV (v : RfV) (b : Nat) : Prop := (∃ o, v.1.p = some (b, o)) ∨ (∃ o, v.2.1.p = some (b, o)) ∨ (∃ o, v.2.2.1.p = some (b, o)) ∨ ∃ o, v.2.2.2.1.p = some (b, o)
section
variable {H G : Heap} {v v' : RfV} {st st' : Sta}
theorem RfAt.keep (h : RfAt H v st) {F : Nat → Prop} (k : Keep F H G) (hF : ∀ b, blkV v b → ¬ F b) : RfAt G v st :=
  ⟨h.w, h.sp.keep k fun b o hp => hF b (.inl ⟨o, hp⟩), h.lv.keep k fun b o hp => hF b (.inr (.inl ⟨o, hp⟩)), h.bd.keep k fun b o hp => hF b (.inr (.inr (.inl ⟨o, hp⟩))), h.wn.keep k fun b o hp => hF b (.inr (.inr (.inr ⟨o, hp⟩))), h.spl, h.lvl, h.bdl, h.wnl⟩
theorem RfAt.lt (h : RfAt H v st) {b : Nat} (hb : blkV v b) : b < H.length := by
  rcases hb with ⟨o, hp⟩ | ⟨o, hp⟩ | ⟨o, hp⟩ | ⟨o, hp⟩
  · exact h.sp.lt hp
  · exact h.lv.lt hp
  · exact h.bd.lt hp
  · exact h.wn.lt hp
/-- What has come of it. -/
structure RRes (H : Heap) (v : RfV) (G : Heap) (v' : RfV) (st' : Sta) : Prop where
  s : RfAt G v' st'
  k : Keep (fun _ => False) H G
  n : ∀ b, blkV v' b → blkV v b ∨ H.length ≤ b
def vC (v : RfV) : List C := [.sl 3 v.1, .sl 3 v.2.1, .sl 1 v.2.2.1, .sl 2 v.2.2.2.1]
/-- The box of a state, and the box of what is told. -/
theorem fin4 {b1 b2 : Nat} {cs : List C} (h1 : b1 < G.length) (h2 : G[b2]? = some (.cells cs .exact)) (hl : cs.length = 4) (hne : b1 ≠ b2) (v : RfV) :
    rd (G.set b1 (.cells (vC v) .exact)) (.agg [.sl 3, .sl 3, .sl 1, .sl 2]) b1 0 = (some v : Option RfV) ∧
    wr (G.set b1 (.cells (vC v) .exact)) b2 0 [.sl 3 v.1, .sl 3 v.2.1, .sl 1 v.2.2.1, .sl 2 v.2.2.2.1] = some ((G.set b1 (.cells (vC v) .exact)).set b2 (.cells (vC v) .exact)) ∧
    rd ((G.set b1 (.cells (vC v) .exact)).set b2 (.cells (vC v) .exact)) (.agg [.sl 3, .sl 3, .sl 1, .sl 2]) b2 0 = (some v : Option RfV) := by
  have g2 := get_lt h2
  refine ⟨rd_agg_of (set_get h1) (by simp [vC]) rfl, ?_, rd_agg_of (set_get (by simpa using g2)) (by simp [vC]) rfl⟩
  have := wr_of (H := G.set b1 (.cells (vC v) .exact)) (b := b2) (o := 0) (cs := cs) (bk := .exact) (new := [.sl 3 v.1, .sl 3 v.2.1, .sl 1 v.2.2.1, .sl 2 v.2.2.2.1]) (by rw [set_get' hne]; exact h2) (by decide) (by rw [hl]; exact Nat.le_refl 4)
  rw [this]
  obtain ⟨c0, c1, c2, c3, rfl⟩ : ∃ c0 c1 c2 c3, cs = [c0, c1, c2, c3] := by
    match cs, hl with
    | [c0, c1, c2, c3], _ => exact ⟨c0, c1, c2, c3, rfl⟩
  rfl
theorem RfAt.box (h : RfAt H v st) (t : Heap) (ht : t[0]? = some (.cells (vC v) .exact)) {s0 : Sl} {es : Nat} {s : Sl} {cs : List C} (hs0 : ∀ a, s0.p = some a → H.length < a.1) (hE : Em (H ++ t) s0 es G s cs) :
    RfAt G v st ∧ G[H.length]? = some (.cells (vC v) .exact) := by
  have ho : ∀ b, b ≤ H.length → ∀ o, s0.p ≠ some (b, o) := fun b hb o hp => by have := hs0 _ hp; simp only at this; omega
  exact ⟨(h.keep (Keep.app (fun _ => False) H t) fun _ _ hf => hf).keep hE.k fun b hb ⟨o, hp⟩ => ho b (by have := h.lt hb; omega) o hp, hE.get (by rw [tl_get0]; exact ht) (ho _ (Nat.le_refl _))⟩
theorem outI_len {α : Type} {l : List (Int × α)} (h : Asc l) (k : Int) (v : α) : (outI k v l).length ≤ l.length + 1 := by
  unfold outI
  split
  · rw [ains_length h]; split <;> omega
  · omega
theorem tup3 {a b c d e : Int} (h1 : a = c) (h2 : b = d) : ((a, b, e, ()) : Tup ctL) = (c, d, e, ()) := by subst h1; subst h2; rfl
/-- The second half of a round: the leaf that stands there, unless it is the same page's. -/
def withB (x1l g : Nat) (i : Int) (p24 : (Sl × Bool × Unit) × Heap) : Option (((Sl × Bool × Int × Unit) ⊕ (Sl × Bool × Unit)) × Heap) :=
 ((rdI .i64 p24.2 g 0).bind fun (v25 : Int) => (rdI .i64 p24.2 x1l 0).bind fun (v26 : Int) =>
  cond (!decide (v25 = v26)) (some ((true, ()), p24.2)) ((rdI .i64 p24.2 g 1).bind fun (v27 : Int) => (rdI .i64 p24.2 x1l 1).bind fun (v28 : Int) => some (((!decide (v27 = v28)), ()), p24.2)) : Option ((Bool × Unit) × Heap)).bind fun (p29 : (Bool × Unit) × Heap) =>
 cond p29.1.1 (Option.bind (α := (Int × Int × Int × Unit)) (rd p29.2 (.agg [.int .i64, .int .i64, .int .i64]) g 0) fun (v30 : (Int × Int × Int × Unit)) =>
  (appS (p29.2 ++ [.cells [.int .i64 v30.1, .int .i64 v30.2.1, .int .i64 v30.2.2.1] .exact]) 3 24 p24.1.1 1 [.int .i64 v30.1, .int .i64 v30.2.1, .int .i64 v30.2.2.1]).bind fun (p33 : (Sl × Heap)) =>
  some (Sum.inl (p33.1, p24.1.2.1, i, ()), p33.2)) (some (Sum.inl (p24.1.1, p24.1.2.1, i, ()), p29.2))
theorem withB_eq {K G2 : Heap} {s0 s2 : Sl} {cs : List C} {x1l g : Nat} {i : Int} {put : Bool} {a b c id p pl : Int} (hE : Em K s0 3 G2 s2 cs) (hg : G2[g]? = some (.cells [.int .i64 a, .int .i64 b, .int .i64 c] .exact)) (hl : G2[x1l]? = some (.cells [.int .i64 id, .int .i64 p, .int .i64 pl] .exact)) (hn : s2.len ≤ 100000) :
    ∃ s' G', withB x1l g i ((s2, put, ()), G2) = some (.inl (s', put, i, ()), G') ∧ Em K s0 3 G' s' (cs ++ if a = id ∧ b = p then [] else [.int .i64 a, .int .i64 b, .int .i64 c]) ∧ s'.len = s2.len + if a = id ∧ b = p then 0 else 1 := by
  obtain ⟨s', G', e1, e2, e3, _⟩ := hE.add [.cells [.int .i64 a, .int .i64 b, .int .i64 c] .exact] (by decide) (new := [.int .i64 a, .int .i64 b, .int .i64 c]) (bytes := 24) rfl (by omega) (by omega)
  have hr : rd G2 (.agg [.int .i64, .int .i64, .int .i64]) g 0 = (some (a, b, c, ()) : Option (Int × Int × Int × Unit)) := rd_agg_of hg (by simp) rfl
  unfold withB
  simp only [rdI_of hg (o := 0) rfl, rdI_of hg (o := 1) rfl, rdI_of hl (o := 0) rfl, rdI_of hl (o := 1) rfl, Option.bind_some]
  by_cases h1 : a = id
  · simp only [decide_eq_true h1, Bool.not_true, cond_false, Option.bind_some]
    by_cases h2 : b = p
    · simp only [decide_eq_true h2, Bool.not_true, cond_false]
      rw [if_pos ⟨h1, h2⟩, if_pos ⟨h1, h2⟩, List.append_nil]
      exact ⟨s2, G2, rfl, hE, rfl⟩
    · simp only [decide_eq_false h2, Bool.not_false, cond_true, hr, Option.bind_some, e1]
      rw [if_neg (fun hh => h2 hh.2), if_neg (fun hh => h2 hh.2)]
      exact ⟨s', G', rfl, e2, e3⟩
  · simp only [decide_eq_false h1, Bool.not_false, cond_true, hr, Option.bind_some, e1]
    rw [if_neg (fun hh => h1 hh.1), if_neg (fun hh => h1 hh.1)]
    exact ⟨s', G', rfl, e2, e3⟩
/-- One round of putting a leaf in. -/
theorem with_step (h : RfAt H v st) {id p pl : Int} (hp : 0 ≤ p ∧ p < 1024) {H1 : Heap} (hH1 : H1.length = H.length + 1) {t : Heap} (ht : t[0]? = some (.cells (vC v) .exact)) (ht1 : t[1]? = some (.cells [.int .i64 id, .int .i64 p, .int .i64 pl] .exact)) {s0 : Sl} (hs0 : ∀ a, s0.p = some a → H.length + 1 < a.1)
    {i : Nat} (hi : i < st.lv.length) {s : Sl} (hE : Em (H ++ t) s0 3 G s (rowsOf ctL ((outI (id * 1024 + p) pl (st.lv.take i)).map rlv))) (hn : s.len = (outI (id * 1024 + p) pl (st.lv.take i)).length) :
    ∃ s' G', ref08_State_with.s1 H H1 (s, putI (id * 1024 + p) (st.lv.take i), (i : Int), ()) G = some (.inl (s', putI (id * 1024 + p) (st.lv.take (i + 1)), ((i + 1 : Nat) : Int), ()), G') ∧
      Em (H ++ t) s0 3 G' s' (rowsOf ctL ((outI (id * 1024 + p) pl (st.lv.take (i + 1))).map rlv)) ∧ s'.len = (outI (id * 1024 + p) pl (st.lv.take (i + 1))).length := by
  obtain ⟨hG, hbox⟩ := h.box t ht (fun a ha => by have := hs0 a ha; omega) hE
  have hleaf : G[H.length + 1]? = some (.cells [.int .i64 id, .int .i64 p, .int .i64 pl] .exact) := hE.get (by rw [tl_get1]; exact ht1) fun o ho => by have := hs0 _ ho; simp only at this; omega
  have hlm : (st.lv.map rlv).length = st.lv.length := List.length_map _
  obtain ⟨b0, o0, r1, r2, _⟩ := Row.rd (cts := ctL) (rows := st.lv.map rlv) hG.lv (i := i) (by omega) (by decide)
  have r1 : Sl.at 3 v.2.1 (i : Int) = some (b0, o0) := r1
  have hx : (st.lv.map rlv)[i]'(by omega) = rlv st.lv[i] := List.getElem_map _
  rw [hx] at r2
  obtain ⟨x, hxx⟩ : ∃ x, x = st.lv[i] := ⟨_, rfl⟩
  have htk := take_snoc hi
  rw [← hxx] at htk r2
  have hmany := h.w.many
  obtain ⟨u1, u2⟩ := outI_snoc (k := id * 1024 + p) pl (l := st.lv.take i) (x := x) (by rw [← htk]; exact h.w.lv.sub (List.take_sublist _ _))
  have hol := outI_len (h.w.lv.sub (List.take_sublist i st.lv)) (id * 1024 + p) pl
  rw [List.length_take] at hol
  rw [htk, u1, u2]
  generalize outI (id * 1024 + p) pl (st.lv.take i) = out at hE hn hol ⊢
  generalize putI (id * 1024 + p) (st.lv.take i) = put at ⊢
  obtain ⟨new, hnew⟩ : ∃ new, new = out ++ (if put = false ∧ id * 1024 + p ≤ x.1 then [(id * 1024 + p, pl)] else []) ++ (if x.1 = id * 1024 + p then [] else [x]) := ⟨_, rfl⟩
  rw [← hnew]
  have r2' : rd G (.agg [.int .i64, .int .i64, .int .i64]) b0 o0 = (some (x.1 / 1024, x.1 % 1024, x.2, ()) : Option (Int × Int × Int × Unit)) := r2
  have hd : decide ((i : Int) < (v.2.1.len : Int)) = true := decide_eq_true (by rw [h.lvl]; omega)
  have hv : rdSl 3 G H.length 1 = some v.2.1 := rdSl_of hbox rfl
  have hGl : H.length + 1 < G.length := get_lt hleaf
  have l0 : ∀ (u : Heap), rdI .i64 (G ++ u) (H.length + 1) 0 = some id := fun u => rdI_of (by rw [List.getElem?_append_left hGl]; exact hleaf) rfl
  have l1 : ∀ (u : Heap), rdI .i64 (G ++ u) (H.length + 1) 1 = some p := fun u => rdI_of (by rw [List.getElem?_append_left hGl]; exact hleaf) rfl
  have l2 : ∀ (u : Heap), rd (G ++ u) (.agg [.int .i64, .int .i64, .int .i64]) (H.length + 1) 0 = (some (id, p, pl, ()) : Option (Int × Int × Int × Unit)) := fun u => rd_agg_of (by rw [List.getElem?_append_left hGl]; exact hleaf) (by simp) rfl
  unfold ref08_State_with.s1
  simp only [hv, hd, cond_true, Option.bind_some, r1]
  simp only [r2', hH1, Option.bind_some, Option.map_some, cond_true, cond_false, List.append_assoc, List.cons_append, List.nil_append, List.length_append, List.length_cons, List.length_nil, Nat.zero_add, rd_t0, rd_t1, rdI_t0, rdI_t1, rdB_t0, rdB_t1, rdM_t0, rdM_t1, rd_c1, rdI_c1, rdB_c1, rdM_c1, rdI_c0, rdB_c0, rdM_c0, wr_t0, wr_t1, wr_c0, wr_c1, setL, List.set, List.getElem?_cons_zero, List.getElem?_cons_succ, un_i, un_b, un_m, un_s, un_sl1, un_sl2, un_sl3, Nat.le_refl, rd_iiib, rd_iiiiii, rd_ibm, rd_iii, rd_iib, rd_ii, rd_3312, rd_iiii, rd_si, rd_33121, rd_33121i, slRow_t0, slRow_t1, sl_c0, sl_c1]
  simp only [l0, l1, l2, Option.bind_some]
  have hk : (if x.1 = id * 1024 + p then ([] : List (Int × Int)) else [x]) = if x.1 / 1024 = id ∧ x.1 % 1024 = p then [] else [x] := by
    by_cases e : x.1 = id * 1024 + p
    · rw [if_pos e, if_pos (by omega)]
    · rw [if_neg e, if_neg (by omega)]
  have hrows : ∀ (c : Bool), rowsOf ctL ((out ++ (if c = true then [(id * 1024 + p, pl)] else []) ++ if x.1 / 1024 = id ∧ x.1 % 1024 = p then [] else [x]).map rlv) = (rowsOf ctL (out.map rlv) ++ if c = true then [.int .i64 id, .int .i64 p, .int .i64 pl] else []) ++ if x.1 / 1024 = id ∧ x.1 % 1024 = p then [] else [.int .i64 (x.1 / 1024), .int .i64 (x.1 % 1024), .int .i64 x.2] := fun c => by
    rw [List.map_append, List.map_append, rowsOf_append', rowsOf_append']
    congr 1
    · congr 1
      cases c
      · rfl
      · show rowsOf ctL [rlv (id * 1024 + p, pl)] = _
        rw [show rlv (id * 1024 + p, pl) = (id, p, pl, ()) from tup3 (key_div id p hp.1 hp.2).1 (key_div id p hp.1 hp.2).2]; rfl
    · by_cases e : x.1 / 1024 = id ∧ x.1 % 1024 = p
      · rw [if_pos e, if_pos e]; rfl
      · rw [if_neg e, if_neg e]; rfl
  have hsl : ∀ b, G.length ≤ b → ∀ o, s.p ≠ some (b, o) := fun b hb o hp => by have := hE.g.lt hp; simp only at this; omega
  have hleafs : ∀ o, s.p ≠ some (H.length + 1, o) := fun o hp => by
    rcases hE.o _ hp with hh | ⟨o', hh⟩
    · have : t.length ≥ 2 := by have := (List.getElem?_eq_some_iff.1 ht1).1; omega
      simp only [List.length_append] at hh; omega
    · have := hs0 _ hh; simp only at this; omega
  obtain ⟨sT, GT, t1, t2, t3, t4⟩ := hE.add [.cells [.int .i64 (x.1 / 1024), .int .i64 (x.1 % 1024), .int .i64 x.2] .exact, .cells [.int .i64 id, .int .i64 p, .int .i64 pl] .exact] (by decide) (new := [.int .i64 id, .int .i64 p, .int .i64 pl]) (bytes := 24) rfl (by omega) (by omega)
  have t5 : GT[G.length]? = some (.cells [.int .i64 (x.1 / 1024), .int .i64 (x.1 % 1024), .int .i64 x.2] .exact) := by rw [t4 _ (by simp) (hsl _ (Nat.le_refl _)), tl_get0]; rfl
  have t6 : GT[H.length + 1]? = some (.cells [.int .i64 id, .int .i64 p, .int .i64 pl] .exact) := by rw [t4 _ (by simp; omega) hleafs, List.getElem?_append_left hGl]; exact hleaf
  obtain ⟨sT', GT', w1, w2, w3⟩ := withB_eq (put := true) (i := ((i + 1 : Nat) : Int)) t2 t5 t6 (by omega)
  have hEF := hE.push [.cells [.int .i64 (x.1 / 1024), .int .i64 (x.1 % 1024), .int .i64 x.2] .exact]
  obtain ⟨sF', GF', z1, z2, z3⟩ := withB_eq (put := put) (i := ((i + 1 : Nat) : Int)) (x1l := H.length + 1) (g := G.length) (a := x.1 / 1024) (b := x.1 % 1024) (c := x.2) (id := id) (p := p) (pl := pl) hEF (by rw [tl_get0]; rfl) (by rw [List.getElem?_append_left hGl]; exact hleaf) (by omega)
  have hlen : ∀ c : Bool, (out ++ (if c = true then [(id * 1024 + p, pl)] else []) ++ if x.1 / 1024 = id ∧ x.1 % 1024 = p then [] else [x]).length = out.length + (if c = true then 1 else 0) + if x.1 / 1024 = id ∧ x.1 % 1024 = p then 0 else 1 := fun c => by
    rw [List.length_append, List.length_append]
    congr 1
    · cases c <;> rfl
    · split <;> rfl
  have hT : put = false → id * 1024 + p ≤ x.1 → ∃ s' G', withB (H.length + 1) G.length ((i + 1 : Nat) : Int) ((sT, true, ()), GT) = some (.inl (s', (put || decide (id * 1024 + p ≤ x.1)), ((i + 1 : Nat) : Int), ()), G') ∧
      Em (H ++ t) s0 3 G' s' (rowsOf ctL (new.map rlv)) ∧ s'.len = new.length := fun e1 e2 => by
    have h1 := hrows true
    have h2 := hlen true
    rw [hnew, if_pos ⟨e1, e2⟩, hk, e1, decide_eq_true e2]
    rw [if_pos rfl] at h1 h2
    rw [h1, h2, if_pos rfl, if_pos rfl]
    exact ⟨sT', GT', w1, w2, by omega⟩
  have hF : ¬ (put = false ∧ id * 1024 + p ≤ x.1) → ∃ s' G', withB (H.length + 1) G.length ((i + 1 : Nat) : Int) ((s, put, ()), G ++ [.cells [.int .i64 (x.1 / 1024), .int .i64 (x.1 % 1024), .int .i64 x.2] .exact]) = some (.inl (s', (put || decide (id * 1024 + p ≤ x.1)), ((i + 1 : Nat) : Int), ()), G') ∧
      Em (H ++ t) s0 3 G' s' (rowsOf ctL (new.map rlv)) ∧ s'.len = new.length := fun e => by
    have h1 := hrows false
    have h2 := hlen false
    have e3 : (put || decide (id * 1024 + p ≤ x.1)) = put := by
      cases put with
      | true => rfl
      | false => rw [decide_eq_false (fun hh => e ⟨rfl, hh⟩)]; rfl
    rw [hnew, if_neg e, hk, e3]
    have nf : ¬ false = true := by decide
    rw [if_neg nf, if_neg nf] at h1 h2
    rw [h1, h2, List.append_nil]
    exact ⟨sF', GF', z1, z2, by omega⟩
  simp only [wrap_succ (show i < 9223372036854775807 by omega)]
  cases hput : put with
  | true =>
    rw [hput] at hF
    obtain ⟨s', G', y1, y2⟩ := hF (fun hh => by cases hh.1)
    simp only [Bool.not_true, cond_false, Option.bind_some]
    exact ⟨s', G', y1, y2⟩
  | false =>
    rw [hput] at hF hT
    by_cases h1 : id < x.1 / 1024
    · obtain ⟨s', G', y1, y2⟩ := hT rfl (by omega)
      simp only [decide_eq_true h1, Bool.not_false, cond_true, Option.bind_some, l2, Option.bind_some, Option.map_some, cond_true, cond_false, List.append_assoc, List.cons_append, List.nil_append, List.length_append, List.length_cons, List.length_nil, Nat.zero_add, rd_t0, rd_t1, rdI_t0, rdI_t1, rdB_t0, rdB_t1, rdM_t0, rdM_t1, rd_c1, rdI_c1, rdB_c1, rdM_c1, rdI_c0, rdB_c0, rdM_c0, wr_t0, wr_t1, wr_c0, wr_c1, setL, List.set, List.getElem?_cons_zero, List.getElem?_cons_succ, un_i, un_b, un_m, un_s, un_sl1, un_sl2, un_sl3, Nat.le_refl, rd_iiib, rd_iiiiii, rd_ibm, rd_iii, rd_iib, rd_ii, rd_3312, rd_iiii, rd_si, rd_33121, rd_33121i, slRow_t0, slRow_t1, sl_c0, sl_c1, t1]
      exact ⟨s', G', y1, y2⟩
    · by_cases h2 : x.1 / 1024 = id
      · by_cases h3 : p ≤ x.1 % 1024
        · obtain ⟨s', G', y1, y2⟩ := hT rfl (by omega)
          simp only [decide_eq_false h1, decide_eq_true h2, decide_eq_true h3, Bool.not_false, cond_true, cond_false, Option.bind_some, l2, Option.bind_some, Option.map_some, cond_true, cond_false, List.append_assoc, List.cons_append, List.nil_append, List.length_append, List.length_cons, List.length_nil, Nat.zero_add, rd_t0, rd_t1, rdI_t0, rdI_t1, rdB_t0, rdB_t1, rdM_t0, rdM_t1, rd_c1, rdI_c1, rdB_c1, rdM_c1, rdI_c0, rdB_c0, rdM_c0, wr_t0, wr_t1, wr_c0, wr_c1, setL, List.set, List.getElem?_cons_zero, List.getElem?_cons_succ, un_i, un_b, un_m, un_s, un_sl1, un_sl2, un_sl3, Nat.le_refl, rd_iiib, rd_iiiiii, rd_ibm, rd_iii, rd_iib, rd_ii, rd_3312, rd_iiii, rd_si, rd_33121, rd_33121i, slRow_t0, slRow_t1, sl_c0, sl_c1, t1]
          exact ⟨s', G', y1, y2⟩
        · obtain ⟨s', G', y1, y2⟩ := hF (fun hh => h3 (by have := hh.2; omega))
          simp only [decide_eq_false h1, decide_eq_true h2, decide_eq_false h3, Bool.not_false, cond_true, cond_false, Option.bind_some]
          exact ⟨s', G', y1, y2⟩
      · obtain ⟨s', G', y1, y2⟩ := hF (fun hh => by have := hh.2; omega)
        simp only [decide_eq_false h1, decide_eq_false h2, Bool.not_false, cond_true, cond_false, Option.bind_some]
        exact ⟨s', G', y1, y2⟩
/-- What a method leaves, once the boxes are written. -/
theorem rf_done (h : RfAt H v st) {t : Heap} {r : Nat} (hr : 0 < r) (hrt : r < t.length) {s0 sF : Sl} (hs0 : ∀ a, s0.p = some a → H.length + r < a.1) {es : Nat} {GF : Heap} {cs : List C} (hE : Em (H ++ t) s0 es GF sF cs)
    (hv : RfAt GF v' st') (hb : ∀ b, blkV v' b → blkV v b ∨ ∃ o, sF.p = some (b, o)) (x y : Blk) : RRes H v ((GF.set H.length x).set (H.length + r) y) v' st' := by
  have hoff : ∀ b, blkV v' b → b ≠ H.length ∧ b ≠ H.length + r ∧ (blkV v b ∨ H.length ≤ b) := fun b hbb => by
    rcases hb b hbb with hv | ⟨o, ho⟩
    · have := h.lt hv
      exact ⟨by omega, by omega, .inl hv⟩
    · rcases hE.o _ ho with hh | ⟨o', hh⟩
      · simp only [List.length_append] at hh
        exact ⟨by omega, by omega, .inr (by omega)⟩
      · have := hs0 _ hh
        simp only at this
        exact ⟨by omega, by omega, .inr (by omega)⟩
  refine ⟨hv.keep (set2_keep GF H.length (H.length + r) x y) fun b hbb hh => ?_, ⟨?_, fun b hbb _ => ?_⟩, fun b hbb => (hoff b hbb).2.2⟩
  · have := hoff b hbb
    omega
  · have := hE.k.len
    simp only [List.length_set, List.length_append] at this ⊢
    omega
  · rw [set_get' (by omega), set_get' (by omega), hE.k.same b (by simp only [List.length_append]; omega) fun ⟨o, ho⟩ => by have := hs0 _ ho; simp only at this; omega, List.getElem?_append_left hbb]
theorem rf_with (h : RfAt H v st) {id p pl : Int} (hp : 0 ≤ p ∧ p < 1024) {x : Int × Bool} (hx : afind st.sp id = some x) : ∃ v' G, ref08_State_with v (id, p, pl, ()) H = some ((v', ()), G) ∧ RRes H v G v' ⟨st.sp, ains st.lv (id * 1024 + p) pl, st.bd, st.wn⟩ := by
  have hmany := h.w.many
  generalize ht : [Blk.cells (vC v) .exact, .cells [.int .i64 id, .int .i64 p, .int .i64 pl] .exact, .cells [.sl 3 Sl.nil, .sl 3 Sl.nil, .sl 1 Sl.nil, .sl 2 Sl.nil] .exact, .cells [] .exact] = t
  have ht0 : t[0]? = some (.cells (vC v) .exact) := by rw [← ht]; rfl
  have ht1 : t[1]? = some (.cells [.int .i64 id, .int .i64 p, .int .i64 pl] .exact) := by rw [← ht]; rfl
  have ht2 : t[2]? = some (.cells [.sl 3 Sl.nil, .sl 3 Sl.nil, .sl 1 Sl.nil, .sl 2 Sl.nil] .exact) := by rw [← ht]; rfl
  have ht3 : t[3]? = some (.cells [] .exact) := by rw [← ht]; rfl
  have htl : t.length = 4 := by rw [← ht]; rfl
  have hs0 : ∀ a, (⟨some (H.length + 3, 0), 0, 0⟩ : Sl).p = some a → H.length + 2 < a.1 := fun a ha => by cases ha; simp only; omega
  have h0 : Em (H ++ t) ⟨some (H.length + 3, 0), 0, 0⟩ 3 (H ++ t) ⟨some (H.length + 3, 0), 0, 0⟩ [] := Em.start ⟨rfl, rfl, fun hh => (by cases hh), fun a ha => by cases ha; exact ⟨rfl, .inr (by rw [tl_get1]; exact ht3)⟩⟩
  obtain ⟨s, G, g1, g2, g3⟩ := emitI (cts := ctL) (step := ref08_State_with.s1 H (H ++ [.cells (vC v) .exact])) st.lv.length (fun i => (outI (id * 1024 + p) pl (st.lv.take i)).map rlv) (fun i => putI (id * 1024 + p) (st.lv.take i)) h0 rfl rfl rfl
    (fun i hi s G hE hn => by
      obtain ⟨s', G', r1, r2, r3⟩ := with_step h hp (pl := pl) (H1 := H ++ [.cells (vC v) .exact]) (by simp) ht0 ht1 (fun a ha => by have := hs0 a ha; omega) hi hE (by rw [hn, List.length_map])
      exact ⟨s', G', r1, r2, by rw [r3, List.length_map]⟩)
    (fun s G hE => by
      obtain ⟨_, hbox⟩ := h.box t ht0 (fun a ha => by have := hs0 a ha; omega) hE
      have hv : rdSl 3 G H.length 1 = some v.2.1 := rdSl_of hbox rfl
      unfold ref08_State_with.s1
      simp only [hv, Option.bind_some, decide_eq_false (show ¬ (st.lv.length : Int) < (v.2.1.len : Int) by rw [h.lvl]; omega), cond_false])
  rw [List.take_length] at g1 g2 g3
  have done : ∀ sF GF, Em (H ++ t) ⟨some (H.length + 3, 0), 0, 0⟩ 3 GF sF (rowsOf ctL ((ains st.lv (id * 1024 + p) pl).map rlv)) → sF.len = (ains st.lv (id * 1024 + p) pl).length →
      ∃ v' G', ((wr GF H.length 1 [.sl 3 sF]).bind fun (H39 : Heap) => Option.bind (α := RfV) (rd H39 (.agg [.sl 3, .sl 3, .sl 1, .sl 2]) H.length 0) fun v40 => (wr H39 (H.length + 2) 0 [.sl 3 v40.1, .sl 3 v40.2.1, .sl 1 v40.2.2.1, .sl 2 v40.2.2.2.1]).bind fun (H41 : Heap) =>
        Option.bind (α := RfV) (rd H41 (.agg [.sl 3, .sl 3, .sl 1, .sl 2]) (H.length + 2) 0) fun v42 => some ((v42, ()), H41)) = some ((v', ()), G') ∧ RRes H v G' v' ⟨st.sp, ains st.lv (id * 1024 + p) pl, st.bd, st.wn⟩ := fun sF GF hE hl => by
    obtain ⟨hG, hbox⟩ := h.box t ht0 (fun a ha => by have := hs0 a ha; omega) hE
    have hres : GF[H.length + 2]? = some (.cells [.sl 3 Sl.nil, .sl 3 Sl.nil, .sl 1 Sl.nil, .sl 2 Sl.nil] .exact) := hE.get (by rw [tl_get1]; exact ht2) fun o ho => by have := hs0 _ ho; simp only at this; omega
    obtain ⟨f1, f2, f3⟩ := fin4 (G := GF) (get_lt hbox) hres rfl (by omega) (v.1, sF, v.2.2.1, v.2.2.2.1, ())
    have hw : wr GF H.length 1 [.sl 3 sF] = some (GF.set H.length (.cells (vC (v.1, sF, v.2.2.1, v.2.2.2.1, ())) .exact)) := wr1_of hbox (by decide) (by simp [vC])
    refine ⟨(v.1, sF, v.2.2.1, v.2.2.2.1, ()), _, (bind_to hw).trans ((bind_to f1).trans ((bind_to f2).trans ((bind_to f3).trans rfl))), rf_done (v' := (v.1, sF, v.2.2.1, v.2.2.2.1, ())) h (by omega) (by omega) hs0 hE ⟨h.w.key hx hp pl, hG.sp, Row.grown hE.g, hG.bd, hG.wn, hG.spl, hl, hG.bdl, hG.wnl⟩ (fun b hb => ?_) _ _⟩
    rcases hb with hb | hb | hb | hb
    · exact .inl (.inl hb)
    · exact .inr hb
    · exact .inl (.inr (.inr (.inl hb)))
    · exact .inl (.inr (.inr (.inr hb)))
  have hall := outI_all (id * 1024 + p) pl st.lv
  subst ht
  unfold ref08_State_with
  simp only [List.append_assoc, List.cons_append, List.nil_append, List.length_append, List.length_cons, List.length_nil, Nat.zero_add]
  cases hput : putI (id * 1024 + p) st.lv with
  | true =>
    rw [hput] at g1 hall
    rw [if_neg (by decide), List.append_nil] at hall
    rw [hall] at g2 g3
    rw [List.length_map] at g3
    obtain ⟨v', G', d1, d2⟩ := done s G g2 g3
    exact ⟨v', G', (bind_to g1).trans d1, d2⟩
  | false =>
    rw [hput] at g1 hall
    rw [if_pos rfl] at hall
    have hleaf : G[H.length + 1]? = some (.cells [.int .i64 id, .int .i64 p, .int .i64 pl] .exact) := g2.get (by rw [tl_get1]; rfl) fun o ho => by have := hs0 _ ho; simp only at this; omega
    have hol := outI_len h.w.lv (id * 1024 + p) pl
    rw [List.length_map] at g3
    obtain ⟨s', G', u1, u2, u3, _⟩ := g2.add [.cells [.int .i64 id, .int .i64 p, .int .i64 pl] .exact] (by decide) (new := [.int .i64 id, .int .i64 p, .int .i64 pl]) (bytes := 24) rfl (by omega) (by omega)
    have e1 : rowsOf ctL ((ains st.lv (id * 1024 + p) pl).map rlv) = rowsOf ctL ((outI (id * 1024 + p) pl st.lv).map rlv) ++ [.int .i64 id, .int .i64 p, .int .i64 pl] := by
      rw [← hall, List.map_append, rowsOf_append']
      congr 1
      show rowsOf ctL [rlv (id * 1024 + p, pl)] = _
      rw [show rlv (id * 1024 + p, pl) = (id, p, pl, ()) from tup3 (key_div id p hp.1 hp.2).1 (key_div id p hp.1 hp.2).2]; rfl
    have e2 : s'.len = (ains st.lv (id * 1024 + p) pl).length := by rw [u3, g3, ← hall, List.length_append]; rfl
    obtain ⟨v', G2, d1, d2⟩ := done s' G' (by rw [e1]; exact u2) e2
    refine ⟨v', G2, (bind_to g1).trans ?_, d2⟩
    have l2 : rd G (.agg [.int .i64, .int .i64, .int .i64]) (H.length + 1) 0 = (some (id, p, pl, ()) : Option (Int × Int × Int × Unit)) := rd_agg_of hleaf (by simp) rfl
    simp only [Bool.not_false, cond_true, l2, Option.bind_some, Option.map_some, cond_true, cond_false, List.append_assoc, List.cons_append, List.nil_append, List.length_append, List.length_cons, List.length_nil, Nat.zero_add, rd_t0, rd_t1, rdI_t0, rdI_t1, rdB_t0, rdB_t1, rdM_t0, rdM_t1, rd_c1, rdI_c1, rdB_c1, rdM_c1, rdI_c0, rdB_c0, rdM_c0, wr_t0, wr_t1, wr_c0, wr_c1, setL, List.set, List.getElem?_cons_zero, List.getElem?_cons_succ, un_i, un_b, un_m, un_s, un_sl1, un_sl2, un_sl3, Nat.le_refl, rd_iiib, rd_iiiiii, rd_ibm, rd_iii, rd_iib, rd_ii, rd_3312, rd_iiii, rd_si, rd_33121, rd_33121i, slRow_t0, slRow_t1, sl_c0, sl_c1]
    exact (bind_to u1).trans d1
end
end Ev

namespace Ev
open Go (IntKind)

/-- Does a leaf stay? -/
def stayL (id p : Int) (x : Int × Int) : Bool := !(decide (x.1 / 1024 = id) && (decide (p < 0) || decide (x.1 % 1024 = p)))
section
variable {H G : Heap} {v : RfV} {lv : List (Int × Int)}
theorem without_step {K : Heap} {s0 : Sl} (hrow : Row K 3 v.2.1 (rowsOf ctL (lv.map rlv))) (hl : v.2.1.len = lv.length) {id p : Int} (hb : K[H.length]? = some (.cells (vC v) .exact)) (hb0 : ∀ o, s0.p ≠ some (H.length, o)) (hv0 : ∀ b o o', v.2.1.p = some (b, o) → s0.p ≠ some (b, o'))
    {i : Nat} (hi : i < lv.length) (hm : lv.length ≤ 20000) {s : Sl} {cs : List C} (hE : Em K s0 3 G s cs) (hn : s.len ≤ 20000) :
    ∃ s' G', ref08_State_without.s1 id p H (s, (i : Int), ()) G = some (.inl (s', ((i + 1 : Nat) : Int), ()), G') ∧ Em K s0 3 G' s' (cs ++ if stayL id p lv[i] = true then Tup.mk ctL (rlv lv[i]) else []) ∧ s'.len = s.len + if stayL id p lv[i] = true then 1 else 0 := by
  have hbox := hE.get hb hb0
  have hr := hE.row hrow hv0
  have hlm : (lv.map rlv).length = lv.length := List.length_map _
  obtain ⟨b0, o0, r1, r2, _⟩ := Row.rd (cts := ctL) (rows := lv.map rlv) hr (i := i) (by omega) (by decide)
  have r1 : Sl.at 3 v.2.1 (i : Int) = some (b0, o0) := r1
  have hx : (lv.map rlv)[i]'(by omega) = rlv lv[i] := List.getElem_map _
  rw [hx] at r2
  generalize lv[i] = x at r2 ⊢
  have r2' : rd G (.agg [.int .i64, .int .i64, .int .i64]) b0 o0 = (some (x.1 / 1024, x.1 % 1024, x.2, ()) : Option (Int × Int × Int × Unit)) := r2
  have hd : decide ((i : Int) < (v.2.1.len : Int)) = true := decide_eq_true (by rw [hl]; omega)
  have hv : rdSl 3 G H.length 1 = some v.2.1 := rdSl_of hbox rfl
  obtain ⟨sT, GT, t1, t2, t3, _⟩ := hE.add [.cells [.int .i64 (x.1 / 1024), .int .i64 (x.1 % 1024), .int .i64 x.2] .exact, .cells [.int .i64 (x.1 / 1024), .int .i64 (x.1 % 1024), .int .i64 x.2] .exact] (by decide) (new := [.int .i64 (x.1 / 1024), .int .i64 (x.1 % 1024), .int .i64 x.2]) (bytes := 24) rfl (by omega) (by omega)
  have hEF := hE.push [.cells [.int .i64 (x.1 / 1024), .int .i64 (x.1 % 1024), .int .i64 x.2] .exact]
  unfold ref08_State_without.s1
  simp only [hv, hd, cond_true, Option.bind_some, r1]
  simp only [r2', Option.bind_some, Option.map_some, cond_true, cond_false, List.append_assoc, List.cons_append, List.nil_append, List.length_append, List.length_cons, List.length_nil, Nat.zero_add, rd_t0, rd_t1, rdI_t0, rdI_t1, rdB_t0, rdB_t1, rdM_t0, rdM_t1, rd_c1, rdI_c1, rdB_c1, rdM_c1, rdI_c0, rdB_c0, rdM_c0, wr_t0, wr_t1, wr_c0, wr_c1, setL, List.set, List.getElem?_cons_zero, List.getElem?_cons_succ, un_i, un_b, un_m, un_s, un_sl1, un_sl2, un_sl3, Nat.le_refl, rd_iiib, rd_iiiiii, rd_ibm, rd_iii, rd_iib, rd_ii, rd_3312, rd_iiii, rd_si, rd_33121, rd_33121i, slRow_t0, slRow_t1, sl_c0, sl_c1, wrap_succ (show i < 9223372036854775807 by omega)]
  by_cases h1 : x.1 / 1024 = id
  · by_cases h2 : 0 ≤ p
    · by_cases h3 : x.1 % 1024 = p
      · have hs : stayL id p x = false := by unfold stayL; rw [decide_eq_true h1, decide_eq_true h3]; simp
        simp only [decide_eq_true h1, decide_eq_true h2, decide_eq_true h3, Bool.not_true, cond_true, cond_false, Option.bind_some, hs, Bool.false_eq_true, if_false, List.append_nil]
        exact ⟨_, _, rfl, hEF, rfl⟩
      · have hs : stayL id p x = true := by unfold stayL; rw [decide_eq_true h1, decide_eq_false h3, decide_eq_false (show ¬ p < 0 by omega)]; rfl
        simp only [decide_eq_true h1, decide_eq_true h2, decide_eq_false h3, Bool.not_true, Bool.not_false, cond_true, cond_false, Option.bind_some, hs, if_true, Option.bind_some, Option.map_some, cond_true, cond_false, List.append_assoc, List.cons_append, List.nil_append, List.length_append, List.length_cons, List.length_nil, Nat.zero_add, rd_t0, rd_t1, rdI_t0, rdI_t1, rdB_t0, rdB_t1, rdM_t0, rdM_t1, rd_c1, rdI_c1, rdB_c1, rdM_c1, rdI_c0, rdB_c0, rdM_c0, wr_t0, wr_t1, wr_c0, wr_c1, setL, List.set, List.getElem?_cons_zero, List.getElem?_cons_succ, un_i, un_b, un_m, un_s, un_sl1, un_sl2, un_sl3, Nat.le_refl, rd_iiib, rd_iiiiii, rd_ibm, rd_iii, rd_iib, rd_ii, rd_3312, rd_iiii, rd_si, rd_33121, rd_33121i, slRow_t0, slRow_t1, sl_c0, sl_c1, t1]
        exact ⟨_, _, rfl, t2, t3⟩
    · have hs : stayL id p x = false := by unfold stayL; rw [decide_eq_true h1, decide_eq_true (show p < 0 by omega)]; simp
      simp only [decide_eq_true h1, decide_eq_false h2, Bool.not_true, cond_true, cond_false, Option.bind_some, hs, Bool.false_eq_true, if_false, List.append_nil]
      exact ⟨_, _, rfl, hEF, rfl⟩
  · have hs : stayL id p x = true := by unfold stayL; rw [decide_eq_false h1]; rfl
    simp only [decide_eq_false h1, Bool.not_false, cond_true, Option.bind_some, hs, if_true, Option.bind_some, Option.map_some, cond_true, cond_false, List.append_assoc, List.cons_append, List.nil_append, List.length_append, List.length_cons, List.length_nil, Nat.zero_add, rd_t0, rd_t1, rdI_t0, rdI_t1, rdB_t0, rdB_t1, rdM_t0, rdM_t1, rd_c1, rdI_c1, rdB_c1, rdM_c1, rdI_c0, rdB_c0, rdM_c0, wr_t0, wr_t1, wr_c0, wr_c1, setL, List.set, List.getElem?_cons_zero, List.getElem?_cons_succ, un_i, un_b, un_m, un_s, un_sl1, un_sl2, un_sl3, Nat.le_refl, rd_iiib, rd_iiiiii, rd_ibm, rd_iii, rd_iib, rd_ii, rd_3312, rd_iiii, rd_si, rd_33121, rd_33121i, slRow_t0, slRow_t1, sl_c0, sl_c1, t1]
    exact ⟨_, _, rfl, t2, t3⟩
theorem stay_rows (id p : Int) : ∀ lv : List (Int × Int), (lv.map fun x => if stayL id p x = true then Tup.mk ctL (rlv x) else []).flatten = rowsOf ctL ((lv.filter (stayL id p)).map rlv) ∧ (lv.map fun x => if stayL id p x = true then 1 else 0).sum = (lv.filter (stayL id p)).length
  | [] => ⟨rfl, rfl⟩
  | x :: lv => by
    obtain ⟨h1, h2⟩ := stay_rows id p lv
    rw [List.map_cons, List.flatten_cons, h1, List.map_cons, List.sum_cons, h2, List.filter_cons]
    by_cases e : stayL id p x = true
    · rw [if_pos e, if_pos e, if_pos e, List.length_cons]
      exact ⟨rfl, by omega⟩
    · rw [if_neg e, if_neg e, if_neg e]
      exact ⟨rfl, by omega⟩
theorem sum_ones (id p : Int) : ∀ lv : List (Int × Int), (lv.map fun x => if stayL id p x = true then 1 else 0).sum ≤ lv.length
  | [] => Nat.le_refl _
  | x :: lv => by
    have := sum_ones id p lv
    rw [List.map_cons, List.sum_cons, List.length_cons]
    split <;> omega
/-- Leaves away: the others' slice. -/
theorem rf_without (hrow : Row H 3 v.2.1 (rowsOf ctL (lv.map rlv))) (hl : v.2.1.len = lv.length) (hm : lv.length ≤ 19000) (id p : Int) : ∃ s G, ref08_State_without v id p H = some (((v.1, s, v.2.2.1, v.2.2.2.1, ()), ()), G) ∧
    Row G 3 s (rowsOf ctL ((lv.filter (stayL id p)).map rlv)) ∧ s.len = (lv.filter (stayL id p)).length ∧ Keep (fun _ => False) H G ∧ ∀ b o, s.p = some (b, o) → H.length + 2 ≤ b := by
  generalize ht : [Blk.cells (vC v) .exact, .cells [.sl 3 Sl.nil, .sl 3 Sl.nil, .sl 1 Sl.nil, .sl 2 Sl.nil] .exact, .cells [] .exact] = t
  have ht0 : (H ++ t)[H.length]? = some (.cells (vC v) .exact) := by rw [tl_get0, ← ht]; rfl
  have ht1 : (H ++ t)[H.length + 1]? = some (.cells [.sl 3 Sl.nil, .sl 3 Sl.nil, .sl 1 Sl.nil, .sl 2 Sl.nil] .exact) := by rw [tl_get1, ← ht]; rfl
  have ht2 : (H ++ t)[H.length + 2]? = some (.cells [] .exact) := by rw [tl_get1, ← ht]; rfl
  have htl : t.length = 3 := by rw [← ht]; rfl
  have hoff : ∀ b, b < H.length + 2 → ∀ o, (⟨some (H.length + 2, 0), 0, 0⟩ : Sl).p ≠ some (b, o) := fun b hb o hh => by cases hh; omega
  have hrow1 : Row (H ++ t) 3 v.2.1 (rowsOf ctL (lv.map rlv)) := hrow.keep (Keep.app (fun _ => False) H t) fun _ _ _ hf => hf
  have h0 : Em (H ++ t) ⟨some (H.length + 2, 0), 0, 0⟩ 3 (H ++ t) ⟨some (H.length + 2, 0), 0, 0⟩ [] := Em.start ⟨rfl, rfl, fun hh => (by cases hh), fun a ha => by cases ha; exact ⟨rfl, .inr ht2⟩⟩
  obtain ⟨s, G, g1, g2, g3⟩ := emitN (step := ref08_State_without.s1 id p H) lv (fun x => if stayL id p x = true then Tup.mk ctL (rlv x) else []) (fun x => if stayL id p x = true then 1 else 0) h0
    (fun i hi s G cs hE hn => without_step hrow1 hl ht0 (hoff _ (by omega)) (fun b o o' hp => hoff b (by have := hrow.lt hp; omega) o') hi (by omega) hE (by
      have h1 := sum_take_le (lv.map fun x => if stayL id p x = true then 1 else 0) i
      have h2 := sum_ones id p lv
      rw [← List.map_take] at h1
      rw [hn]; simp only; omega))
    (fun s G cs hE => by
      have hv : rdSl 3 G H.length 1 = some v.2.1 := rdSl_of (hE.get ht0 (hoff _ (by omega))) rfl
      unfold ref08_State_without.s1
      simp only [hv, Option.bind_some, decide_eq_false (show ¬ (lv.length : Int) < (v.2.1.len : Int) by rw [hl]; omega), cond_false])
  rw [List.nil_append, (stay_rows id p lv).1] at g2
  rw [(stay_rows id p lv).2] at g3
  have hbox := g2.get ht0 (hoff _ (by omega))
  have hres := g2.get ht1 (hoff _ (by omega))
  obtain ⟨f1, f2, f3⟩ := fin4 (G := G) (get_lt hbox) hres rfl (by omega) (v.1, s, v.2.2.1, v.2.2.2.1, ())
  have hw : wr G H.length 1 [.sl 3 s] = some (G.set H.length (.cells (vC (v.1, s, v.2.2.1, v.2.2.2.1, ())) .exact)) := wr1_of hbox (by decide) (by simp [vC])
  have hso : ∀ b o, s.p = some (b, o) → H.length + 2 ≤ b := fun b o hp => by
    rcases g2.o _ hp with hh | ⟨o', hh⟩
    · simp only [List.length_append] at hh; omega
    · have hh : some (H.length + 2, 0) = some (b, o') := hh
      cases hh; omega
  have kf : Keep (fun b => b = H.length ∨ b = H.length + 1) G ((G.set H.length (.cells (vC (v.1, s, v.2.2.1, v.2.2.2.1, ())) .exact)).set (H.length + 1) (.cells (vC (v.1, s, v.2.2.1, v.2.2.2.1, ())) .exact)) := set2_keep _ _ _ _ _
  subst ht
  refine ⟨s, _, ?_, (Row.grown g2.g).keep kf fun b o hp hh => by have := hso b o hp; omega, by rw [g3]; exact Nat.zero_add _, ?_, hso⟩
  · unfold ref08_State_without
    simp only [List.append_assoc, List.cons_append, List.nil_append, List.length_append, List.length_cons, List.length_nil, Nat.zero_add]
    exact (bind_to g1).trans ((bind_to hw).trans ((bind_to f1).trans ((bind_to f2).trans ((bind_to f3).trans rfl))))
  · refine ⟨by have h1 := g2.k.len; have h2 := kf.len; simp only [List.length_append] at h1; omega, fun b hb _ => ?_⟩
    have hne : ¬ (b = H.length ∨ b = H.length + 1) := by omega
    have hbG : b < G.length := by have h1 := g2.k.len; simp only [List.length_append] at h1; omega
    rw [kf.same b hbG hne, g2.k.same b (by simp only [List.length_append]; omega) (fun ⟨o, ho⟩ => hoff b (by omega) o ho), List.getElem?_append_left hb]
end
theorem stay_off (lv : List (Int × Int)) (id : Int) {p : Int} (hp : p < 0) : lv.filter (stayL id p) = lvOff lv id := by
  unfold lvOff
  congr 1
  funext x
  unfold stayL
  rw [decide_eq_true hp]; simp
theorem adrop_filter {α : Type} {l : List (Int × α)} (h : Asc l) (k : Int) : l.filter (fun x => !decide (x.1 = k)) = adrop l k := by
  induction l with
  | nil => rfl
  | cons x l ih =>
    rw [adrop, List.filter_cons]
    by_cases e : x.1 = k
    · rw [if_neg (by simp [e]), if_pos e]
      exact List.filter_eq_self.2 fun y hy => by have := h.head hy; simp; omega
    · rw [if_pos (by simp [e]), if_neg e, ih h.tail]
theorem stay_drop {lv : List (Int × Int)} (h : Asc lv) (id : Int) {p : Int} (hp : 0 ≤ p ∧ p < 1024) : lv.filter (stayL id p) = adrop lv (id * 1024 + p) := by
  rw [← adrop_filter h]
  congr 1
  funext x
  unfold stayL
  rw [decide_eq_false (show ¬ p < 0 by omega)]
  by_cases e : x.1 = id * 1024 + p
  · rw [decide_eq_true e, decide_eq_true (show x.1 / 1024 = id by omega), decide_eq_true (show x.1 % 1024 = p by omega)]; rfl
  · rw [decide_eq_false e]
    by_cases e1 : x.1 / 1024 = id
    · rw [decide_eq_false (show ¬ x.1 % 1024 = p by omega)]; simp
    · rw [decide_eq_false e1]; rfl
end Ev

namespace Ev
open Go (IntKind)

section
variable {H G : Heap} {v : RfV} {st : Sta}
theorem rf_find (h : RfAt H v st) (id : Int) : ∃ r, ref08_State_find v id H = some ((r, ()), H ++ [.cells (vC v) .exact]) ∧ (afind st.sp id = none → r = -1) ∧ ∀ x, afind st.sp id = some x → ∃ i : Nat, r = (i : Int) ∧ ∃ hi : i < st.sp.length, st.sp[i] = (id, x) := by
  have hH := h.keep (Keep.app (fun _ => False) H [.cells (vC v) .exact]) fun _ _ hf => hf
  have hv : rdSl 3 (H ++ [.cells (vC v) .exact]) H.length 0 = some v.1 := rdSl_of (by rw [tl_get0]; rfl) rfl
  have hlm : (st.sp.map rsp).length = st.sp.length := List.length_map _
  have hfew := h.w.few
  obtain ⟨x, G, g1, rfl, g2⟩ := loop_rise (step := ref08_State_find.s1 id H) st.sp.length (fun i y G => y = ((i : Int), ()) ∧ G = H ++ [.cells (vC v) .exact] ∧ ∀ j (hj : j < st.sp.length), j < i → st.sp[j].1 ≠ id)
    (fun x G => G = H ++ [.cells (vC v) .exact] ∧ ((x = .inl () ∧ afind st.sp id = none) ∨ ∃ i : Nat, x = .inr ((i : Int), ()) ∧ ∃ hi : i < st.sp.length, st.sp[i].1 = id))
    (fun i y G hi ⟨hy, hG, hj⟩ => by
      subst hy hG
      obtain ⟨b0, o0, r1, r2, _, cs, bk, r3, r4, r5⟩ := Row.rd (cts := ctP) (rows := st.sp.map rsp) hH.sp (i := i) (by omega) (by decide)
      have r1 : Sl.at 3 v.1 (i : Int) = some (b0, o0) := r1
      have hx : (st.sp.map rsp)[i]'(by omega) = rsp st.sp[i] := List.getElem_map _
      rw [hx] at r5
      have r6 : rdI .i64 (H ++ [.cells (vC v) .exact]) b0 o0 = some st.sp[i].1 := by
        refine rdI_of r3 ?_
        have := congrArg (fun l => l[0]?) r5
        simp only [List.getElem?_take, List.getElem?_drop] at this
        have h2 : cs[o0]? = (Tup.mk ctP (rsp st.sp[i]))[0]? := by simpa using this
        exact h2
      have hd : decide ((i : Int) < (v.1.len : Int)) = true := decide_eq_true (by rw [h.spl]; omega)
      by_cases e : st.sp[i].1 = id
      · right
        refine ⟨_, _, ?_, rfl, .inr ⟨i, rfl, hi, e⟩⟩
        unfold ref08_State_find.s1
        simp only [hv, hd, cond_true, Option.bind_some, r1, r6, decide_eq_true e]
      · left
        refine ⟨_, _, ?_, rfl, rfl, fun j hjl hji => ?_⟩
        · unfold ref08_State_find.s1
          simp only [hv, hd, cond_true, Option.bind_some, r1, r6, decide_eq_false e, cond_false]
          rw [wrap_succ (by omega)]
        · by_cases e2 : j = i
          · subst e2; exact e
          · exact hj j hjl (by omega))
    (fun y G ⟨hy, hG, hj⟩ => by
      subst hy hG
      refine ⟨_, _, ?_, rfl, .inl ⟨rfl, afind_none fun x hx e => ?_⟩⟩
      · unfold ref08_State_find.s1
        simp only [hv, Option.bind_some, decide_eq_false (show ¬ (st.sp.length : Int) < (v.1.len : Int) by rw [h.spl]; omega), cond_false]
      · obtain ⟨j, hj1, rfl⟩ := List.getElem_of_mem hx
        exact hj j hj1 hj1 e) (y := (0, ())) (H := H ++ [.cells (vC v) .exact]) ⟨rfl, rfl, fun j _ hj => absurd hj (Nat.not_lt_zero _)⟩
  have hg : ∀ r, Sum.elim (fun _ => some (((-1 : Int), ()), H ++ [Blk.cells (vC v) .exact])) (fun z : Int × Unit => some ((z.1, ()), H ++ [Blk.cells (vC v) .exact])) x = some ((r, ()), H ++ [Blk.cells (vC v) .exact]) → ref08_State_find v id H = some ((r, ()), H ++ [.cells (vC v) .exact]) := fun r hr => by
    unfold ref08_State_find
    exact (bind_to g1).trans hr
  rcases g2 with ⟨rfl, hn⟩ | ⟨i, rfl, hi, he⟩
  · exact ⟨-1, hg _ rfl, fun _ => rfl, fun x hx => by rw [hn] at hx; cases hx⟩
  · have hf := h.w.sp.find (k := st.sp[i].1) (v := st.sp[i].2) (List.getElem_mem hi)
    rw [he] at hf
    exact ⟨(i : Int), hg _ rfl, fun hn => (by rw [hf] at hn; cases hn), fun x hx => by
      rw [hf] at hx
      cases hx
      exact ⟨i, rfl, hi, by rw [← he]⟩⟩
theorem row_int {K : Heap} {cts : List CT} {s : Sl} {rows : List (Tup cts)} (h : Row K cts.length s (rowsOf cts rows)) {i : Nat} (hi : i < rows.length) (hpos : 0 < cts.length) {j : Nat} {n : Int} (hj : j < cts.length) (hn : (Tup.mk cts rows[i])[j]? = some (.int .i64 n)) :
    ∃ b o, Sl.at cts.length s (i : Int) = some (b, o) ∧ rdI .i64 K b (o + j) = some n := by
  obtain ⟨b, o, r1, _, _, cs, bk, r3, r4, r5⟩ := h.rd hi hpos
  refine ⟨b, o, r1, rdI_of r3 ?_⟩
  have := congrArg (fun l => l[j]?) r5
  simp only [List.getElem?_take, List.getElem?_drop, if_pos hj, hn] at this
  exact this
theorem rf_refs (h : RfAt H v st) (c : Int) : ref08_State_Refs v c H = some (((cnt st.lv c : Int), ()), H ++ [.cells (vC v) .exact]) := by
  have hH := h.keep (Keep.app (fun _ => False) H [.cells (vC v) .exact]) fun _ _ hf => hf
  have hv : rdSl 3 (H ++ [.cells (vC v) .exact]) H.length 1 = some v.2.1 := rdSl_of (by rw [tl_get0]; rfl) rfl
  have hlm : (st.lv.map rlv).length = st.lv.length := List.length_map _
  have hmany := h.w.many
  have g1 : loopW (ref08_State_Refs.s1 c H) (0, 0, ()) (H ++ [.cells (vC v) .exact]) = some (((cnt st.lv c : Int), ()), H ++ [.cells (vC v) .exact]) := by
    refine loop_for' st.lv.length (fun i => ((cnt (st.lv.take i) c : Int), (i : Int), ())) (fun _ => H ++ [.cells (vC v) .exact]) rfl rfl (fun i hi => ?_) ?_
    · have hx : (st.lv.map rlv)[i]'(by omega) = rlv st.lv[i] := List.getElem_map _
      obtain ⟨b0, o0, r1, r2⟩ := row_int (cts := ctL) (rows := st.lv.map rlv) hH.lv (i := i) (by omega) (by decide) (j := 2) (n := st.lv[i].2) (by decide) (by rw [hx]; rfl)
      have r1 : Sl.at 3 v.2.1 (i : Int) = some (b0, o0) := r1
      have hd : decide ((i : Int) < (v.2.1.len : Int)) = true := decide_eq_true (by rw [h.lvl]; omega)
      have hc := cnt_le (st.lv.take i) c
      rw [List.length_take] at hc
      unfold ref08_State_Refs.s1
      simp only [hv, hd, cond_true, Option.bind_some, r1, r2]
      rw [take_snoc hi, cnt_append, cnt_cons, cnt_nil, wrap_succ (by omega), wrap_succ (by omega)]
      by_cases e : st.lv[i].2 = c
      · rw [decide_eq_true e, if_pos e]; rfl
      · rw [decide_eq_false e, if_neg e]; rfl
    · unfold ref08_State_Refs.s1
      simp only [hv, Option.bind_some, decide_eq_false (show ¬ (st.lv.length : Int) < (v.2.1.len : Int) by rw [h.lvl]; omega), cond_false, List.take_length]
  unfold ref08_State_Refs
  exact (bind_to g1).trans rfl
theorem pgs_snoc (l : List (Int × Int)) (x : Int × Int) (id : Int) : (pgs (l ++ [x]) id).length = (pgs l id).length + if x.1 / 1024 = id then 1 else 0 := by
  rw [pgs_len, pgs_len, List.filter_append, List.length_append, List.filter_cons]
  by_cases e : x.1 / 1024 = id
  · rw [if_pos (decide_eq_true e), if_pos e]; rfl
  · rw [if_neg (by simpa using e), if_neg e]; rfl
theorem rf_pages (h : RfAt H v st) (id : Int) : ref08_State_Pages v id H = some ((((pgs st.lv id).length : Int), ()), H ++ [.cells (vC v) .exact]) := by
  have hH := h.keep (Keep.app (fun _ => False) H [.cells (vC v) .exact]) fun _ _ hf => hf
  have hv : rdSl 3 (H ++ [.cells (vC v) .exact]) H.length 1 = some v.2.1 := rdSl_of (by rw [tl_get0]; rfl) rfl
  have hlm : (st.lv.map rlv).length = st.lv.length := List.length_map _
  have hmany := h.w.many
  have g1 : loopW (ref08_State_Pages.s1 id H) (0, 0, ()) (H ++ [.cells (vC v) .exact]) = some ((((pgs st.lv id).length : Int), ()), H ++ [.cells (vC v) .exact]) := by
    refine loop_for' st.lv.length (fun i => (((pgs (st.lv.take i) id).length : Int), (i : Int), ())) (fun _ => H ++ [.cells (vC v) .exact]) rfl rfl (fun i hi => ?_) ?_
    · have hx : (st.lv.map rlv)[i]'(by omega) = rlv st.lv[i] := List.getElem_map _
      obtain ⟨b0, o0, r1, r2⟩ := row_int (cts := ctL) (rows := st.lv.map rlv) hH.lv (i := i) (by omega) (by decide) (j := 0) (n := st.lv[i].1 / 1024) (by decide) (by rw [hx]; rfl)
      have r1 : Sl.at 3 v.2.1 (i : Int) = some (b0, o0) := r1
      have hd : decide ((i : Int) < (v.2.1.len : Int)) = true := decide_eq_true (by rw [h.lvl]; omega)
      have hc : (pgs (st.lv.take i) id).length ≤ (st.lv.take i).length := by rw [pgs_len]; exact List.length_filter_le _ _
      rw [List.length_take] at hc
      rw [Nat.add_zero] at r2
      unfold ref08_State_Pages.s1
      simp only [hv, hd, cond_true, Option.bind_some, r1, r2]
      rw [take_snoc hi, pgs_snoc, wrap_succ (by omega), wrap_succ (by omega)]
      by_cases e : st.lv[i].1 / 1024 = id
      · rw [decide_eq_true e, if_pos e]; rfl
      · rw [decide_eq_false e, if_neg e]; rfl
    · unfold ref08_State_Pages.s1
      simp only [hv, Option.bind_some, decide_eq_false (show ¬ (st.lv.length : Int) < (v.2.1.len : Int) by rw [h.lvl]; omega), cond_false, List.take_length]
  unfold ref08_State_Pages
  exact (bind_to g1).trans rfl
end
end Ev

namespace Ev
open Go (IntKind)

section
variable {H G : Heap} {v : RfV} {st : Sta}
theorem rf_get (h : RfAt H v st) (id p : Int) : ∃ G, ref08_State_Get v id p H = some (((afind (pgs st.lv id) p).getD 0, (afind (pgs st.lv id) p).isSome, ()), G) ∧ Keep (fun _ => False) H G := by
  have hk0 := Keep.app (fun _ => False) H [.cells (vC v) .exact]
  have hH := h.keep hk0 fun _ _ hf => hf
  have hb0 : (H ++ [Blk.cells (vC v) .exact])[H.length]? = some (.cells (vC v) .exact) := by rw [tl_get0]; rfl
  have hlm : (st.lv.map rlv).length = st.lv.length := List.length_map _
  have hmany := h.w.many
  obtain ⟨x, G, g1, g2, g3⟩ := loop_rise (step := ref08_State_Get.s1 id p H) st.lv.length (fun i y G => y = ((i : Int), ()) ∧ Keep (fun _ => False) (H ++ [.cells (vC v) .exact]) G ∧ ∀ j (hj : j < st.lv.length), j < i → ¬ (st.lv[j].1 / 1024 = id ∧ st.lv[j].1 % 1024 = p))
    (fun x G => Keep (fun _ => False) (H ++ [.cells (vC v) .exact]) G ∧ ((x = .inl () ∧ afind (pgs st.lv id) p = none) ∨ ∃ c, x = .inr (c, true, ()) ∧ afind (pgs st.lv id) p = some c))
    (fun i y G hi ⟨hy, hk, hj⟩ => by
      subst hy
      have hG := hH.keep hk fun _ _ hf => hf
      have hv : rdSl 3 G H.length 1 = some v.2.1 := rdSl_of (hk.get hb0 fun hf => hf) rfl
      obtain ⟨b0, o0, r1, r2, _⟩ := Row.rd (cts := ctL) (rows := st.lv.map rlv) hG.lv (i := i) (by omega) (by decide)
      have r1 : Sl.at 3 v.2.1 (i : Int) = some (b0, o0) := r1
      have hx : (st.lv.map rlv)[i]'(by omega) = rlv st.lv[i] := List.getElem_map _
      rw [hx] at r2
      have r2' : rd G (.agg [.int .i64, .int .i64, .int .i64]) b0 o0 = (some (st.lv[i].1 / 1024, st.lv[i].1 % 1024, st.lv[i].2, ()) : Option (Int × Int × Int × Unit)) := r2
      have hd : decide ((i : Int) < (v.2.1.len : Int)) = true := decide_eq_true (by rw [h.lvl]; omega)
      have hk2 := hk.trans (Keep.app (fun _ => False) G [.cells [.int .i64 (st.lv[i].1 / 1024), .int .i64 (st.lv[i].1 % 1024), .int .i64 st.lv[i].2] .exact])
      have hno : ¬ (st.lv[i].1 / 1024 = id ∧ st.lv[i].1 % 1024 = p) → ∀ j (hj : j < st.lv.length), j < i + 1 → ¬ (st.lv[j].1 / 1024 = id ∧ st.lv[j].1 % 1024 = p) := fun e j hjl hji => by
        by_cases e2 : j = i
        · subst e2; exact e
        · exact hj j hjl (by omega)
      unfold ref08_State_Get.s1
      simp only [hv, hd, cond_true, Option.bind_some, r1]
      simp only [r2', Option.bind_some, Option.map_some, cond_true, cond_false, List.append_assoc, List.cons_append, List.nil_append, List.length_append, List.length_cons, List.length_nil, Nat.zero_add, rd_t0, rd_t1, rdI_t0, rdI_t1, rdB_t0, rdB_t1, rdM_t0, rdM_t1, rd_c1, rdI_c1, rdB_c1, rdM_c1, rdI_c0, rdB_c0, rdM_c0, wr_t0, wr_t1, wr_c0, wr_c1, setL, List.set, List.getElem?_cons_zero, List.getElem?_cons_succ, un_i, un_b, un_m, un_s, un_sl1, un_sl2, un_sl3, Nat.le_refl, rd_iiib, rd_iiiiii, rd_ibm, rd_iii, rd_iib, rd_ii, rd_3312, rd_iiii, rd_si, rd_33121, rd_33121i, slRow_t0, slRow_t1, sl_c0, sl_c1, wrap_succ (show i < 9223372036854775807 by omega)]
      by_cases e1 : st.lv[i].1 / 1024 = id
      · by_cases e2 : st.lv[i].1 % 1024 = p
        · right
          simp only [decide_eq_true e1, decide_eq_true e2, cond_true]
          refine ⟨_, _, rfl, hk2, .inr ⟨st.lv[i].2, rfl, ?_⟩⟩
          have hf := h.w.lv.find (k := st.lv[i].1) (v := st.lv[i].2) (List.getElem_mem hi)
          rw [pgs_find h.w.lv, if_pos (by omega), show id * 1024 + p = st.lv[i].1 by omega]
          exact hf
        · left
          simp only [decide_eq_true e1, decide_eq_false e2, cond_true, cond_false]
          exact ⟨_, _, rfl, rfl, hk2, hno fun hh => e2 hh.2⟩
      · left
        simp only [decide_eq_false e1, cond_false]
        exact ⟨_, _, rfl, rfl, hk2, hno fun hh => e1 hh.1⟩)
    (fun y G ⟨hy, hk, hj⟩ => by
      subst hy
      have hv : rdSl 3 G H.length 1 = some v.2.1 := rdSl_of (hk.get hb0 fun hf => hf) rfl
      refine ⟨_, _, ?_, hk, .inl ⟨rfl, afind_none fun y hy e => ?_⟩⟩
      · unfold ref08_State_Get.s1
        simp only [hv, Option.bind_some, decide_eq_false (show ¬ (st.lv.length : Int) < (v.2.1.len : Int) by rw [h.lvl]; omega), cond_false]
      · have hm := pgs_mem hy
        obtain ⟨j, hj1, hj2⟩ := List.getElem_of_mem hm.2.2
        refine hj j hj1 hj1 ?_
        rw [hj2]
        simp only
        omega) (y := (0, ())) (H := H ++ [.cells (vC v) .exact]) ⟨rfl, Keep.refl _ _, fun j _ hj => absurd hj (Nat.not_lt_zero _)⟩
  refine ⟨G, ?_, hk0.trans g2⟩
  unfold ref08_State_Get
  refine (bind_to g1).trans ?_
  rcases g3 with ⟨rfl, hn⟩ | ⟨c, rfl, hc⟩
  · rw [hn]; rfl
  · rw [hc]; rfl
theorem rf_snoc (l : List (Int × Int)) (x : Int × Int) : (rfOf (l ++ [x])).length = (rfOf l).length + if cnt l x.2 = 0 then 1 else 0 := by
  have e : ains (rfOf l) x.2 ((cnt l x.2 : Int) + 1) = rfOf (l ++ [x]) := ((rfOf_ok l).more (lv' := l ++ [x]) fun c => by rw [cnt_append, cnt_cons, cnt_nil]; omega).uniq (rfOf_ok _)
  rw [← e, ains_length (rfOf_ok l).asc, (rfOf_ok l).find]
  by_cases h0 : cnt l x.2 = 0
  · rw [if_pos h0, if_pos h0]; rfl
  · rw [if_neg h0, if_neg h0]; rfl
theorem rf_live (h : RfAt H v st) : ref08_State_Live v H = some ((((rfOf st.lv).length : Int), ()), H ++ [.cells (vC v) .exact]) := by
  have hH := h.keep (Keep.app (fun _ => False) H [.cells (vC v) .exact]) fun _ _ hf => hf
  have hv : rdSl 3 (H ++ [.cells (vC v) .exact]) H.length 1 = some v.2.1 := rdSl_of (by rw [tl_get0]; rfl) rfl
  have hlm : (st.lv.map rlv).length = st.lv.length := List.length_map _
  have hmany := h.w.many
  have row : ∀ i (hi : i < st.lv.length), ∃ b o, Sl.at 3 v.2.1 (i : Int) = some (b, o) ∧ rdI .i64 (H ++ [.cells (vC v) .exact]) b (o + 2) = some st.lv[i].2 := fun i hi => by
    have hx : (st.lv.map rlv)[i]'(by omega) = rlv st.lv[i] := List.getElem_map _
    exact row_int (cts := ctL) (rows := st.lv.map rlv) hH.lv (i := i) (by omega) (by decide) (j := 2) (n := st.lv[i].2) (by decide) (by rw [hx]; rfl)
  have hle : ∀ i, (rfOf (st.lv.take i)).length ≤ i := fun i => by
    induction i with
    | zero => exact Nat.le_refl _
    | succ i ih =>
      by_cases hi : i < st.lv.length
      · rw [take_snoc hi, rf_snoc]; split <;> omega
      · rw [List.take_of_length_le (by omega)]
        rw [List.take_of_length_le (by omega)] at ih
        omega
  have inner : ∀ (c i : Nat) (hi : i < st.lv.length), loopW (ref08_State_Live.s1 H ((c : Int), (i : Int), ())) (true, 0, ()) (H ++ [.cells (vC v) .exact]) = some ((decide (cnt (st.lv.take i) st.lv[i].2 = 0), ()), H ++ [.cells (vC v) .exact]) := fun c i hi => by
    obtain ⟨b1, o1, r1, r2⟩ := row i hi
    refine loop_for' i (fun j => (decide (cnt (st.lv.take j) st.lv[i].2 = 0), (j : Int), ())) (fun _ => H ++ [.cells (vC v) .exact]) rfl rfl (fun j hj => ?_) ?_
    · obtain ⟨b2, o2, r3, r4⟩ := row j (by omega)
      have hw := wrap_succ (show j < 9223372036854775807 by omega)
      unfold ref08_State_Live.s1
      simp only [decide_eq_true (show (j : Int) < (i : Int) by omega), cond_true]
      rw [take_snoc (show j < st.lv.length by omega), cnt_append, cnt_cons, cnt_nil]
      by_cases e : cnt (st.lv.take j) st.lv[i].2 = 0
      · rw [decide_eq_true e, cond_true]
        simp only [hv, Option.bind_some, r1, r2, r3, r4, hw]
        by_cases e2 : st.lv[j].2 = st.lv[i].2
        · rw [decide_eq_true e2, if_pos e2, decide_eq_false (by omega)]; rfl
        · rw [decide_eq_false e2, if_neg e2, decide_eq_true (by omega)]; rfl
      · rw [decide_eq_false e, cond_false, hw, decide_eq_false (by omega)]
    · unfold ref08_State_Live.s1
      simp only [decide_eq_false (show ¬ (i : Int) < (i : Int) by omega), cond_false]
  have g1 : loopW (ref08_State_Live.s2 H) (0, 0, ()) (H ++ [.cells (vC v) .exact]) = some ((((rfOf st.lv).length : Int), ()), H ++ [.cells (vC v) .exact]) := by
    refine loop_for' st.lv.length (fun i => (((rfOf (st.lv.take i)).length : Int), (i : Int), ())) (fun _ => H ++ [.cells (vC v) .exact]) rfl rfl (fun i hi => ?_) ?_
    · have h1 := hle i
      unfold ref08_State_Live.s2
      simp only [hv, Option.bind_some, decide_eq_true (show (i : Int) < (v.2.1.len : Int) by rw [h.lvl]; omega), cond_true, inner _ i hi]
      rw [take_snoc hi, rf_snoc, wrap_succ (by omega), wrap_succ (by omega)]
      by_cases e : cnt (st.lv.take i) st.lv[i].2 = 0
      · rw [decide_eq_true e, if_pos e]; rfl
      · rw [decide_eq_false e, if_neg e]; rfl
    · unfold ref08_State_Live.s2
      simp only [hv, Option.bind_some, decide_eq_false (show ¬ (st.lv.length : Int) < (v.2.1.len : Int) by rw [h.lvl]; omega), cond_false, List.take_length]
  unfold ref08_State_Live
  exact (bind_to g1).trans rfl
end
end Ev

namespace Ev
open Go (IntKind)

section
variable {α : Type}
def putS (k : Int) (l : List (Int × α)) : Bool := l.any fun x => decide (k < x.1)
def outS (k : Int) (v : α) (l : List (Int × α)) : List (Int × α) := if putS k l = true then ains l k v else adrop l k
theorem putS_false {k : Int} {l : List (Int × α)} (h : putS k l = false) : ∀ x ∈ l, x.1 ≤ k := fun x hx => by
  unfold putS at h
  rw [List.any_eq_false] at h
  have := h x hx
  simp at this; exact this
theorem putS_putI {k : Int} {l : List (Int × α)} (h : putS k l = true) : putI k l = true := by
  unfold putS at h
  unfold putI
  rw [List.any_eq_true] at h ⊢
  obtain ⟨x, hx, hk⟩ := h
  simp only [decide_eq_true_eq] at hk
  exact ⟨x, hx, by simp; omega⟩
theorem adrop_snoc {l : List (Int × α)} {k : Int} {x : Int × α} (h : Asc (l ++ [x])) : adrop (l ++ [x]) k = adrop l k ++ if x.1 = k then [] else [x] := by
  have hl : Asc l := h.sub (List.sublist_append_left _ _)
  rw [← adrop_filter h, ← adrop_filter hl, List.filter_append, List.filter_cons]
  congr 1
  by_cases e : x.1 = k
  · rw [if_neg (by simp [e]), if_pos e]; rfl
  · rw [if_pos (by simp [e]), if_neg e]; rfl
theorem adrop_lt {l : List (Int × α)} {k : Int} (h : Asc l) (hk : ∀ x ∈ l, x.1 ≤ k) : ∀ x ∈ adrop l k, x.1 < k := fun x hx => by
  rw [← adrop_filter h] at hx
  have := List.mem_filter.1 hx
  have h1 := hk x this.1
  have h2 := this.2
  simp only [Bool.not_eq_true', decide_eq_false_iff_not] at h2
  omega
theorem putI_no {l : List (Int × α)} {k : Int} (hk : ∀ x ∈ l, x.1 < k) : putI k l = false := by
  unfold putI
  rw [List.any_eq_false]
  intro x hx
  have := hk x hx
  simp; omega
theorem outS_snoc {l : List (Int × α)} {k : Int} (v : α) {x : Int × α} (h : Asc (l ++ [x])) :
    putS k (l ++ [x]) = (putS k l || decide (k < x.1)) ∧ outS k v (l ++ [x]) = outS k v l ++ (if putS k l = false ∧ k < x.1 then [(k, v)] else []) ++ (if x.1 = k then [] else [x]) := by
  have h1 : putS k (l ++ [x]) = (putS k l || decide (k < x.1)) := by unfold putS; rw [List.any_append]; simp
  refine ⟨h1, ?_⟩
  have hl : Asc l := h.sub (List.sublist_append_left _ _)
  unfold outS
  rw [h1]
  cases hp : putS k l with
  | true => rw [Bool.true_or, if_pos rfl, if_pos rfl, if_neg (fun hh => absurd hh.1 (by decide)), List.append_nil, ains_app v h (putS_putI hp)]
  | false =>
    have hle := putS_false hp
    have nf : ¬ false = true := by decide
    rw [Bool.false_or, if_neg nf]
    by_cases e : k < x.1
    · rw [if_pos (decide_eq_true e), if_pos ⟨rfl, e⟩, if_neg (by omega), ← ains_drop h, adrop_snoc h, if_neg (by omega)]
      have hd := adrop_lt hl hle
      have ha : Asc (adrop l k ++ [x]) := by
        have := h.drop k
        rwa [adrop_snoc h, if_neg (by omega)] at this
      obtain ⟨u1, u2⟩ := outI_snoc (k := k) v ha
      have h2 := putI_no hd
      have h3 : k ≤ x.1 := by omega
      unfold outI at u2
      rw [u1, h2, Bool.false_or, if_pos (decide_eq_true h3), if_neg nf, if_pos ⟨rfl, h3⟩, if_neg (by omega)] at u2
      exact u2
    · rw [decide_eq_false e, if_neg nf, if_neg (fun hh => e hh.2), List.append_nil, adrop_snoc h]
theorem outS_all {l : List (Int × α)} (h : Asc l) (k : Int) (v : α) : (outS k v l ++ if putS k l = false then [(k, v)] else []) = ains l k v := by
  unfold outS
  cases hp : putS k l with
  | true => rw [if_pos rfl, if_neg (by decide), List.append_nil]
  | false => rw [if_neg (by decide), if_pos rfl, ← ains_drop h, ains_snoc v (adrop_lt h (putS_false hp))]
theorem outS_len {l : List (Int × α)} (h : Asc l) (k : Int) (v : α) : (outS k v l).length ≤ l.length + 1 := by
  unfold outS
  split
  · rw [ains_length h]; split <;> omega
  · have := adrop_length (l := l) (k := k); omega
end
theorem pgs_take (lv : List (Int × Int)) (id : Int) {i : Nat} (hi : i < lv.length) : pgs (lv.take (i + 1)) id = pgs (lv.take i) id ++ if lv[i].1 / 1024 = id then [(lv[i].1 % 1024, lv[i].2)] else [] := by
  rw [take_snoc hi]
  unfold pgs
  rw [List.filter_append, List.map_append, List.filter_cons]
  by_cases e : lv[i].1 / 1024 = id
  · rw [if_pos (decide_eq_true e), if_pos e]; rfl
  · rw [if_neg (by simpa using e), if_neg e]; rfl
theorem insAll_snoc (id : Int) (lv P : List (Int × Int)) (x : Int × Int) : insAll id lv (P ++ [x]) = ains (insAll id lv P) (id * 1024 + x.1) x.2 := by unfold insAll; rw [List.foldl_append]; rfl
end Ev

namespace Ev
open Go (IntKind)

section
variable {H G : Heap} {v v' : RfV} {st st' : Sta}
/-- The end of a method: one slice is put into the box of the state, and that is told. -/
theorem wp_fin {b1 b2 j : Nat} {c : C} {cs : List C} (h1 : G[b1]? = some (.cells (vC v) .exact)) (h2 : G[b2]? = some (.cells cs .exact)) (hl : cs.length = 4) (hne : b1 ≠ b2) (hj : j < 4) (hc : (vC v).set j c = vC v') {Q : (RfV × Unit) × Heap → Prop}
    (k : Q ((v', ()), (G.set b1 (.cells (vC v') .exact)).set b2 (.cells (vC v') .exact))) :
    WP ((wr G b1 j [c]).bind fun (H39 : Heap) => Option.bind (α := RfV) (rd H39 (.agg [.sl 3, .sl 3, .sl 1, .sl 2]) b1 0) fun v40 => (wr H39 b2 0 [.sl 3 v40.1, .sl 3 v40.2.1, .sl 1 v40.2.2.1, .sl 2 v40.2.2.2.1]).bind fun (H41 : Heap) =>
        Option.bind (α := RfV) (rd H41 (.agg [.sl 3, .sl 3, .sl 1, .sl 2]) b2 0) fun v42 => some ((v42, ()), H41)) Q := by
  obtain ⟨f1, f2, f3⟩ := fin4 (G := G) (get_lt h1) h2 hl hne v'
  have hw : wr G b1 j [c] = some (G.set b1 (.cells (vC v') .exact)) := by rw [wr1_of h1 (by decide) (by simp [vC]; omega), hc]
  exact wp_to hw (wp_to f1 (wp_to f2 (wp_to f3 (wp_some k))))
theorem rd3_of {cts : List CT} {b : Nat} {x : Tup cts} (h : G[b]? = some (.cells (Tup.mk cts x) .exact)) (hl : (Tup.mk cts x).length = cts.length) : rd G (.agg cts) b 0 = some x :=
  rd_agg_of h (by omega) (by rw [List.drop_zero, ← hl, List.take_length]; exact tup_un_of _ _)
theorem made_step (h : RfAt H v st) {id q : Int} {b : Bool} {H1 : Heap} (hH1 : H1.length = H.length + 1) {t : Heap} (ht : t[0]? = some (.cells (vC v) .exact)) (ht1 : t[1]? = some (.cells [.int .i64 id, .int .i64 q, .bool b] .exact)) {s0 : Sl} (hs0 : ∀ a, s0.p = some a → H.length + 1 < a.1)
    {i : Nat} (hi : i < st.sp.length) {s : Sl} (hE : Em (H ++ t) s0 3 G s (rowsOf ctP ((outS id (q, b) (st.sp.take i)).map rsp))) (hn : s.len = (outS id (q, b) (st.sp.take i)).length) :
    WP (ref08_State_made.s1 H H1 (s, putS id (st.sp.take i), (i : Int), ()) G) fun r => Sum.elim (fun y => ∃ s', y = (s', putS id (st.sp.take (i + 1)), ((i + 1 : Nat) : Int), ()) ∧
      Em (H ++ t) s0 3 r.2 s' (rowsOf ctP ((outS id (q, b) (st.sp.take (i + 1))).map rsp)) ∧ s'.len = (outS id (q, b) (st.sp.take (i + 1))).length) (fun _ => False) r.1 := by
  have see : ∀ {G : Heap} {s : Sl} {cs : List C}, Em (H ++ t) s0 3 G s cs → rdSl 3 G H.length 0 = some v.1 ∧ (∃ b0 o0, Sl.at 3 v.1 (i : Int) = some (b0, o0) ∧ rdI .i64 G b0 o0 = some st.sp[i].1 ∧ rd G (.agg ctP) b0 o0 = some (rsp st.sp[i])) ∧ rd G (.agg ctP) (H.length + 1) 0 = some (id, q, b, ()) ∧ rdI .i64 G (H.length + 1) 0 = some id := fun {G s cs} hE => by
    obtain ⟨hG, hbox⟩ := h.box t ht (fun a ha => by have := hs0 a ha; omega) hE
    have hleaf : G[H.length + 1]? = some (.cells [.int .i64 id, .int .i64 q, .bool b] .exact) := hE.get (by rw [tl_get1]; exact ht1) fun o ho => by have := hs0 _ ho; simp only at this; omega
    have hlm : (st.sp.map rsp).length = st.sp.length := List.length_map _
    have hx : (st.sp.map rsp)[i]'(by omega) = rsp st.sp[i] := List.getElem_map _
    obtain ⟨b0, o0, r1, r2, _⟩ := Row.rd (cts := ctP) (rows := st.sp.map rsp) hG.sp (i := i) (by omega) (by decide)
    obtain ⟨b1, o1, r3, r4⟩ := row_int (cts := ctP) (rows := st.sp.map rsp) hG.sp (i := i) (by omega) (by decide) (j := 0) (n := st.sp[i].1) (by decide) (by rw [hx]; rfl)
    rw [r1] at r3
    cases r3
    rw [hx] at r2
    exact ⟨rdSl_of hbox rfl, ⟨b0, o0, r1, r4, r2⟩, rd3_of (cts := ctP) (x := (id, q, b, ())) hleaf rfl, rdI_of hleaf rfl⟩
  obtain ⟨hv, ⟨b0, o0, r1, r2, r3⟩, l1, l2⟩ := see hE
  have hsee : ∀ {G : Heap} {s : Sl} {cs : List C}, Em (H ++ t) s0 3 G s cs → rdSl 3 G H.length 0 = some v.1 ∧ rdI .i64 G b0 o0 = some st.sp[i].1 ∧ rd G (.agg ctP) b0 o0 = some (rsp st.sp[i]) ∧ rdI .i64 G (H.length + 1) 0 = some id := fun hE' => by
    obtain ⟨q1, ⟨b2, o2, q2, q3, q4⟩, _, q5⟩ := see hE'
    rw [r1] at q2
    cases q2
    exact ⟨q1, q3, q4, q5⟩
  clear see
  obtain ⟨x, hxx⟩ : ∃ x, x = st.sp[i] := ⟨_, rfl⟩
  rw [← hxx] at r2
  simp only [← hxx] at hsee
  have htk := take_snoc hi
  rw [← hxx] at htk
  have hfew := h.w.few
  obtain ⟨u1, u2⟩ := outS_snoc (k := id) (q, b) (l := st.sp.take i) (x := x) (by rw [← htk]; exact h.w.sp.sub (List.take_sublist _ _))
  have hol := outS_len (h.w.sp.sub (List.take_sublist i st.sp)) id (q, b)
  rw [List.length_take] at hol
  rw [htk, u1, u2]
  generalize outS id (q, b) (st.sp.take i) = out at hE hn hol ⊢
  generalize putS id (st.sp.take i) = put at ⊢
  have hw := wrap_succ (show i < 9223372036854775807 by omega)
  unfold ref08_State_made.s1
  refine wp_to hv (wp_t (decide_eq_true (by rw [h.spl]; exact Int.ofNat_lt.2 hi)) ?_)
  refine wp_seq (fun p => p.1.2.1 = (put || decide (id < x.1)) ∧ Em (H ++ t) s0 3 p.2 p.1.1 (rowsOf ctP ((out ++ if put = false ∧ id < x.1 then [(id, q, b)] else []).map rsp)) ∧ p.1.1.len = (out ++ if put = false ∧ id < x.1 then [(id, q, b)] else []).length) ?_ ?_
  · refine wp_seq (fun p => p = ((!put && decide (id < x.1), ()), G)) ?_ ?_
    · refine wp_c (fun e => ?_) (fun e => ?_)
      · rw [hH1]
        refine wp_to hv (wp_to r1 (wp_to r2 (wp_to l2 (wp_some ?_))))
        rw [show (!put) = true from e]; rfl
      · exact wp_some (by rw [show (!put) = false from e]; rfl)
    · rintro _ rfl
      refine wp_if (p := put = false ∧ id < x.1) (by cases put <;> simp) (fun e => ?_) (fun e => ?_)
      · rw [hH1]
        refine wp_to l1 ?_
        refine wp_app hE rfl (by decide) (by omega) fun s' G' hE' hn' => wp_some ⟨?_, ?_, ?_⟩
        · rw [e.1, decide_eq_true e.2]; rfl
        · rw [if_pos e, List.map_append, rowsOf_append']; exact hE'
        · rw [if_pos e, List.length_append, ← hn]; exact hn'
      · refine wp_some ⟨?_, ?_, ?_⟩
        · show put = _
          cases put with
          | true => rfl
          | false => rw [decide_eq_false (fun hh => e ⟨rfl, hh⟩)]; rfl
        · rw [if_neg e, List.append_nil]; exact hE
        · rw [if_neg e, List.append_nil]; exact hn
  · rintro ⟨⟨s1, put1, ⟨⟩⟩, G1⟩ ⟨rfl, hE1, hn1⟩
    have hE1 : Em (H ++ t) s0 3 G1 s1 (rowsOf ctP ((out ++ if put = false ∧ id < x.1 then [(id, q, b)] else []).map rsp)) := hE1
    have hn1 : s1.len = (out ++ if put = false ∧ id < x.1 then [(id, q, b)] else []).length := hn1
    obtain ⟨q1, q2, q3, q4⟩ := hsee hE1
    have hl1 : s1.len ≤ out.length + 1 := by rw [hn1, List.length_append]; split <;> simp
    rw [hH1]
    refine wp_to q1 (wp_to r1 (wp_to q2 (wp_to q4 ?_)))
    refine wp_if (p := ¬ x.1 = id) (by simp) (fun e => ?_) (fun e => ?_)
    · refine wp_to q1 (wp_to r1 (wp_to q3 ?_))
      refine wp_app hE1 rfl (by decide) (by omega) fun s' G' hE' hn' => wp_some ⟨s', ?_, ?_, ?_⟩
      · simp only [hw]
      · rw [if_neg e, List.map_append, rowsOf_append']; exact hE'
      · rw [if_neg e, List.length_append, ← hn1]; exact hn'
    · have e' : x.1 = id := by simpa using e
      refine wp_some ⟨s1, ?_, ?_, ?_⟩
      · simp only [hw]
      · rw [if_pos e', List.append_nil]; exact hE1
      · rw [if_pos e', List.append_nil]; exact hn1
theorem SaW.spi (w : SaW st) {id : Int} (hid : 1 ≤ id ∧ id ≤ 15) {q : Int} (hq : q ≤ 1024) (b : Bool) : SaW ⟨ains st.sp id (q, b), st.lv, st.bd, st.wn⟩ :=
  ⟨w.sp.ins _ _, w.lv, w.bd, w.wn, fun y hy => by
    show (afind (ains st.sp id (q, b)) (y.1 / 1024)).isSome = true
    rw [afind_ins w.sp]
    split
    · rfl
    · exact w.own y hy,
   fun y hy => (ains_mem hy).elim (fun e => by rw [e]; exact ⟨hid.1, hid.2, hq⟩) (w.ids y), w.bds, w.wns⟩
theorem rf_made (h : RfAt H v st) {id q : Int} (b : Bool) (hid : 1 ≤ id ∧ id ≤ 15) (hq : q ≤ 1024) : WP (ref08_State_made v (id, q, b, ()) H) fun r => RRes H v r.2 r.1.1 ⟨ains st.sp id (q, b), st.lv, st.bd, st.wn⟩ := by
  have hfew := h.w.few
  generalize ht : [Blk.cells [.sl 3 v.1, .sl 3 v.2.1, .sl 1 v.2.2.1, .sl 2 v.2.2.2.1] .exact, .cells [.int .i64 id, .int .i64 q, .bool b] .exact, .cells [.sl 3 Sl.nil, .sl 3 Sl.nil, .sl 1 Sl.nil, .sl 2 Sl.nil] .exact, .cells [] .exact] = t
  have ht0 : t[0]? = some (.cells (vC v) .exact) := by rw [← ht]; rfl
  have ht1 : t[1]? = some (.cells [.int .i64 id, .int .i64 q, .bool b] .exact) := by rw [← ht]; rfl
  have ht2 : t[2]? = some (.cells [.sl 3 Sl.nil, .sl 3 Sl.nil, .sl 1 Sl.nil, .sl 2 Sl.nil] .exact) := by rw [← ht]; rfl
  have ht3 : t[3]? = some (.cells [] .exact) := by rw [← ht]; rfl
  have htl : t.length = 4 := by rw [← ht]; rfl
  have hs0 : ∀ a, (⟨some (H.length + 3, 0), 0, 0⟩ : Sl).p = some a → H.length + 2 < a.1 := fun a ha => by cases ha; simp only; omega
  have h0 : Em (H ++ t) ⟨some (H.length + 3, 0), 0, 0⟩ 3 (H ++ t) ⟨some (H.length + 3, 0), 0, 0⟩ [] := Em.start ⟨rfl, rfl, fun hh => (by cases hh), fun a ha => by cases ha; exact ⟨rfl, .inr (by rw [tl_get1]; exact ht3)⟩⟩
  have done : ∀ sF GF, Em (H ++ t) ⟨some (H.length + 3, 0), 0, 0⟩ 3 GF sF (rowsOf ctP ((ains st.sp id (q, b)).map rsp)) → sF.len = (ains st.sp id (q, b)).length →
      WP ((wr GF H.length 0 [.sl 3 sF]).bind fun (H39 : Heap) => Option.bind (α := RfV) (rd H39 (.agg [.sl 3, .sl 3, .sl 1, .sl 2]) H.length 0) fun v40 => (wr H39 (H.length + 2) 0 [.sl 3 v40.1, .sl 3 v40.2.1, .sl 1 v40.2.2.1, .sl 2 v40.2.2.2.1]).bind fun (H41 : Heap) =>
        Option.bind (α := RfV) (rd H41 (.agg [.sl 3, .sl 3, .sl 1, .sl 2]) (H.length + 2) 0) fun v42 => some ((v42, ()), H41)) fun r => RRes H v r.2 r.1.1 ⟨ains st.sp id (q, b), st.lv, st.bd, st.wn⟩ := fun sF GF hE hl => by
    obtain ⟨hG, hbox⟩ := h.box t ht0 (fun a ha => by have := hs0 a ha; omega) hE
    have hres : GF[H.length + 2]? = some (.cells [.sl 3 Sl.nil, .sl 3 Sl.nil, .sl 1 Sl.nil, .sl 2 Sl.nil] .exact) := hE.get (by rw [tl_get1]; exact ht2) fun o ho => by have := hs0 _ ho; simp only at this; omega
    refine wp_fin (v' := (sF, v.2.1, v.2.2.1, v.2.2.2.1, ())) hbox hres rfl (by omega) (by decide) rfl ?_
    refine rf_done (v' := (sF, v.2.1, v.2.2.1, v.2.2.2.1, ())) h (by omega) (by omega) hs0 hE ⟨h.w.spi hid hq b, Row.grown hE.g, hG.lv, hG.bd, hG.wn, hl, hG.lvl, hG.bdl, hG.wnl⟩ (fun b hb => ?_) _ _
    rcases hb with hb | hb | hb | hb
    · exact .inr hb
    · exact .inl (.inr (.inl hb))
    · exact .inl (.inr (.inr (.inl hb)))
    · exact .inl (.inr (.inr (.inr hb)))
  have hall := outS_all h.w.sp id (q, b)
  unfold ref08_State_made
  simp only [List.append_assoc, List.cons_append, List.nil_append, List.length_append, List.length_cons, List.length_nil, Nat.zero_add]
  rw [ht]
  refine wp_seq _ (wp_rise st.sp.length (fun i y G => ∃ s, y = (s, putS id (st.sp.take i), (i : Int), ()) ∧ Em (H ++ t) ⟨some (H.length + 3, 0), 0, 0⟩ 3 G s (rowsOf ctP ((outS id (q, b) (st.sp.take i)).map rsp)) ∧ s.len = (outS id (q, b) (st.sp.take i)).length)
    (fun x G => ∃ s, x = (s, putS id st.sp, ()) ∧ Em (H ++ t) ⟨some (H.length + 3, 0), 0, 0⟩ 3 G s (rowsOf ctP ((outS id (q, b) st.sp).map rsp)) ∧ s.len = (outS id (q, b) st.sp).length) ?_ ?_ ?_) ?_
  · rintro i y G hi ⟨s, rfl, hE, hn⟩
    exact wp_mono (made_step h (by simp) ht0 ht1 (fun a ha => by have := hs0 a ha; omega) hi hE hn) fun r hr => by
      obtain ⟨r, G'⟩ := r
      cases r with
      | inl y => exact hr
      | inr x => exact hr.elim
  · rintro y G ⟨s, rfl, hE, hn⟩
    rw [List.take_length] at hE hn ⊢
    obtain ⟨_, hbox⟩ := h.box t ht0 (fun a ha => by have := hs0 a ha; omega) hE
    have hv : rdSl 3 G H.length 0 = some v.1 := rdSl_of hbox rfl
    unfold ref08_State_made.s1
    exact wp_to hv (wp_f (decide_eq_false (by rw [h.spl]; exact Int.lt_irrefl _)) (wp_some ⟨s, rfl, hE, hn⟩))
  · exact ⟨_, rfl, h0, rfl⟩
  · rintro ⟨⟨s, pt, ⟨⟩⟩, G⟩ ⟨s', hs, hE, hn⟩
    cases hs
    refine wp_c (fun e => ?_) (fun e => ?_)
    · have e : putS id st.sp = false := by simpa using e
      rw [if_pos e] at hall
      have hleaf : G[H.length + 1]? = some (.cells [.int .i64 id, .int .i64 q, .bool b] .exact) := hE.get (by rw [tl_get1]; exact ht1) fun o ho => by have := hs0 _ ho; simp only at this; omega
      have hol := outS_len h.w.sp id (q, b)
      have l2 : rd G (.agg ctP) (H.length + 1) 0 = some (id, q, b, ()) := rd3_of (cts := ctP) (x := (id, q, b, ())) hleaf rfl
      refine wp_to l2 ?_
      refine wp_app hE rfl (by decide) (by omega) fun s' G' hE' hn' => done s' G' ?_ ?_
      · rw [← hall, List.map_append, rowsOf_append']; exact hE'
      · rw [← hall, List.length_append, ← hn]; exact hn'
    · have e : ¬ putS id st.sp = false := by simpa using e
      rw [if_neg e, List.append_nil] at hall
      rw [hall] at hE hn
      exact done s G hE hn
end
end Ev

namespace Ev
open Go (IntKind)

theorem intC_append (l l' : List Int) : intC (l ++ l') = intC l ++ intC l' := by simp [intC]
theorem SaW.fewb {st : Sta} (w : SaW st) : st.bd.length ≤ 32 := asc_bound (a := 0) w.bd fun x hx => by have := w.bds x hx; omega
theorem SaW.feww {st : Sta} (w : SaW st) : st.wn.length ≤ 32 := asc_bound (a := 0) w.wn fun x hx => by have := w.wns x hx; omega
section
variable {H G : Heap} {v v' : RfV} {st st' : Sta}
theorem bad_step (h : RfAt H v st) {k : Int} {t : Heap} (ht : t[0]? = some (.cells (vC v) .exact)) {s0 : Sl} (hs0 : ∀ a, s0.p = some a → H.length < a.1)
    {i : Nat} (hi : i < st.bd.length) {s : Sl} (hE : Em (H ++ t) s0 1 G s (intC ((outI k () (st.bd.take i)).map Prod.fst))) (hn : s.len = (outI k () (st.bd.take i)).length) :
    WP (ref08_State_bad.s1 k H (s, putI k (st.bd.take i), (i : Int), ()) G) fun r => Sum.elim (fun y => ∃ s', y = (s', putI k (st.bd.take (i + 1)), ((i + 1 : Nat) : Int), ()) ∧
      Em (H ++ t) s0 1 r.2 s' (intC ((outI k () (st.bd.take (i + 1))).map Prod.fst)) ∧ s'.len = (outI k () (st.bd.take (i + 1))).length) (fun _ => False) r.1 := by
  have hll : (st.bd.map Prod.fst).length = st.bd.length := List.length_map _
  have hx : (st.bd.map Prod.fst)[i]'(by omega) = st.bd[i].1 := List.getElem_map _
  have see : ∀ {G : Heap} {s : Sl} {cs : List C}, Em (H ++ t) s0 1 G s cs → rdSl 1 G H.length 2 = some v.2.2.1 ∧ (∃ b0 o0, Sl.at 1 v.2.2.1 (i : Int) = some (b0, o0) ∧ rdI .i64 G b0 o0 = some st.bd[i].1) := fun {G s cs} hE => by
    obtain ⟨hG, hbox⟩ := h.box t ht hs0 hE
    obtain ⟨b0, o0, _, r1, r2⟩ := hG.bd.int (i := i) (by omega)
    rw [hx] at r2
    exact ⟨rdSl_of hbox rfl, b0, o0 + i, r1, r2⟩
  obtain ⟨hv, b0, o0, r1, r2⟩ := see hE
  have hsee : ∀ {G : Heap} {s : Sl} {cs : List C}, Em (H ++ t) s0 1 G s cs → rdSl 1 G H.length 2 = some v.2.2.1 ∧ rdI .i64 G b0 o0 = some st.bd[i].1 := fun hE' => by
    obtain ⟨q1, b2, o2, q2, q3⟩ := see hE'
    rw [r1] at q2
    cases q2
    exact ⟨q1, q3⟩
  clear see
  obtain ⟨x, hxx⟩ : ∃ x, x = st.bd[i] := ⟨_, rfl⟩
  rw [← hxx] at r2
  simp only [← hxx] at hsee
  have htk := take_snoc hi
  rw [← hxx] at htk
  have hfew := h.w.fewb
  obtain ⟨u1, u2⟩ := outI_snoc (k := k) () (l := st.bd.take i) (x := x) (by rw [← htk]; exact h.w.bd.sub (List.take_sublist _ _))
  have hol := outI_len (h.w.bd.sub (List.take_sublist i st.bd)) k ()
  rw [List.length_take] at hol
  rw [htk, u1, u2]
  generalize outI k () (st.bd.take i) = out at hE hn hol ⊢
  generalize putI k (st.bd.take i) = put at ⊢
  have hw := wrap_succ (show i < 9223372036854775807 by omega)
  unfold ref08_State_bad.s1
  refine wp_to hv (wp_t (decide_eq_true (by rw [h.bdl]; exact Int.ofNat_lt.2 hi)) ?_)
  refine wp_seq (fun p => p.1.2.1 = (put || decide (k ≤ x.1)) ∧ Em (H ++ t) s0 1 p.2 p.1.1 (intC ((out ++ if put = false ∧ k ≤ x.1 then [(k, ())] else []).map Prod.fst)) ∧ p.1.1.len = (out ++ if put = false ∧ k ≤ x.1 then [(k, ())] else []).length) ?_ ?_
  · refine wp_seq (fun p => p = ((!put && decide (k ≤ x.1), ()), G)) ?_ ?_
    · refine wp_c (fun e => ?_) (fun e => ?_)
      · refine wp_to hv (wp_to r1 (wp_to r2 (wp_some ?_)))
        rw [show (!put) = true from e]; rfl
      · exact wp_some (by rw [show (!put) = false from e]; rfl)
    · rintro _ rfl
      refine wp_if (p := put = false ∧ k ≤ x.1) (by cases put <;> simp) (fun e => ?_) (fun e => ?_)
      · refine wp_app hE rfl (by decide) (by omega) fun s' G' hE' hn' => wp_some ⟨?_, ?_, ?_⟩
        · rw [e.1, decide_eq_true e.2]; rfl
        · rw [if_pos e, List.map_append, intC_append]; exact hE'
        · rw [if_pos e, List.length_append, ← hn]; exact hn'
      · refine wp_some ⟨?_, ?_, ?_⟩
        · show put = _
          cases put with
          | true => rfl
          | false => rw [decide_eq_false (fun hh => e ⟨rfl, hh⟩)]; rfl
        · rw [if_neg e, List.append_nil]; exact hE
        · rw [if_neg e, List.append_nil]; exact hn
  · rintro ⟨⟨s1, put1, ⟨⟩⟩, G1⟩ ⟨rfl, hE1, hn1⟩
    have hE1 : Em (H ++ t) s0 1 G1 s1 (intC ((out ++ if put = false ∧ k ≤ x.1 then [(k, ())] else []).map Prod.fst)) := hE1
    have hn1 : s1.len = (out ++ if put = false ∧ k ≤ x.1 then [(k, ())] else []).length := hn1
    obtain ⟨q1, q2⟩ := hsee hE1
    have hl1 : s1.len ≤ out.length + 1 := by rw [hn1, List.length_append]; split <;> simp
    refine wp_to q1 (wp_to r1 (wp_to q2 ?_))
    refine wp_if (p := ¬ x.1 = k) (by simp) (fun e => ?_) (fun e => ?_)
    · refine wp_to q1 (wp_to r1 (wp_to q2 ?_))
      refine wp_app hE1 rfl (by decide) (by omega) fun s' G' hE' hn' => wp_some ⟨s', ?_, ?_, ?_⟩
      · simp only [hw]
      · rw [if_neg e, List.map_append, intC_append]; exact hE'
      · rw [if_neg e, List.length_append, ← hn1]; exact hn'
    · have e' : x.1 = k := by simpa using e
      refine wp_some ⟨s1, ?_, ?_, ?_⟩
      · simp only [hw]
      · rw [if_pos e', List.append_nil]; exact hE1
      · rw [if_pos e', List.append_nil]; exact hn1
theorem rf_bad (h : RfAt H v st) {k : Int} (hk : 0 ≤ k ∧ k ≤ 31) : WP (ref08_State_bad v k H) fun r => RRes H v r.2 r.1.1 ⟨st.sp, st.lv, ains st.bd k (), st.wn⟩ := by
  have hfew := h.w.fewb
  generalize ht : [Blk.cells [.sl 3 v.1, .sl 3 v.2.1, .sl 1 v.2.2.1, .sl 2 v.2.2.2.1] .exact, .cells [.sl 3 Sl.nil, .sl 3 Sl.nil, .sl 1 Sl.nil, .sl 2 Sl.nil] .exact, .cells [] .exact] = t
  have ht0 : t[0]? = some (.cells (vC v) .exact) := by rw [← ht]; rfl
  have ht2 : t[1]? = some (.cells [.sl 3 Sl.nil, .sl 3 Sl.nil, .sl 1 Sl.nil, .sl 2 Sl.nil] .exact) := by rw [← ht]; rfl
  have ht3 : t[2]? = some (.cells [] .exact) := by rw [← ht]; rfl
  have htl : t.length = 3 := by rw [← ht]; rfl
  have hs0 : ∀ a, (⟨some (H.length + 2, 0), 0, 0⟩ : Sl).p = some a → H.length + 1 < a.1 := fun a ha => by cases ha; simp only; omega
  have h0 : Em (H ++ t) ⟨some (H.length + 2, 0), 0, 0⟩ 1 (H ++ t) ⟨some (H.length + 2, 0), 0, 0⟩ [] := Em.start ⟨rfl, rfl, fun hh => (by cases hh), fun a ha => by cases ha; exact ⟨rfl, .inr (by rw [tl_get1]; exact ht3)⟩⟩
  have done : ∀ sF GF, Em (H ++ t) ⟨some (H.length + 2, 0), 0, 0⟩ 1 GF sF (intC ((ains st.bd k ()).map Prod.fst)) → sF.len = (ains st.bd k ()).length →
      WP ((wr GF H.length 2 [.sl 1 sF]).bind fun (H39 : Heap) => Option.bind (α := RfV) (rd H39 (.agg [.sl 3, .sl 3, .sl 1, .sl 2]) H.length 0) fun v40 => (wr H39 (H.length + 1) 0 [.sl 3 v40.1, .sl 3 v40.2.1, .sl 1 v40.2.2.1, .sl 2 v40.2.2.2.1]).bind fun (H41 : Heap) =>
        Option.bind (α := RfV) (rd H41 (.agg [.sl 3, .sl 3, .sl 1, .sl 2]) (H.length + 1) 0) fun v42 => some ((v42, ()), H41)) fun r => RRes H v r.2 r.1.1 ⟨st.sp, st.lv, ains st.bd k (), st.wn⟩ := fun sF GF hE hl => by
    obtain ⟨hG, hbox⟩ := h.box t ht0 (fun a ha => by have := hs0 a ha; omega) hE
    have hres : GF[H.length + 1]? = some (.cells [.sl 3 Sl.nil, .sl 3 Sl.nil, .sl 1 Sl.nil, .sl 2 Sl.nil] .exact) := hE.get (by rw [tl_get1]; exact ht2) fun o ho => by have := hs0 _ ho; simp only at this; omega
    refine wp_fin (v' := (v.1, v.2.1, sF, v.2.2.2.1, ())) hbox hres rfl (by omega) (by decide) rfl ?_
    refine rf_done (v' := (v.1, v.2.1, sF, v.2.2.2.1, ())) h (by omega) (by omega) hs0 hE ⟨h.w.bd' hk, hG.sp, hG.lv, Row.grown hE.g, hG.wn, hG.spl, hG.lvl, hl, hG.wnl⟩ (fun b hb => ?_) _ _
    rcases hb with hb | hb | hb | hb
    · exact .inl (.inl hb)
    · exact .inl (.inr (.inl hb))
    · exact .inr hb
    · exact .inl (.inr (.inr (.inr hb)))
  have hall := outI_all k () st.bd
  unfold ref08_State_bad
  simp only [List.append_assoc, List.cons_append, List.nil_append, List.length_append, List.length_cons, List.length_nil, Nat.zero_add]
  rw [ht]
  refine wp_seq _ (wp_rise st.bd.length (fun i y G => ∃ s, y = (s, putI k (st.bd.take i), (i : Int), ()) ∧ Em (H ++ t) ⟨some (H.length + 2, 0), 0, 0⟩ 1 G s (intC ((outI k () (st.bd.take i)).map Prod.fst)) ∧ s.len = (outI k () (st.bd.take i)).length)
    (fun x G => ∃ s, x = (s, putI k st.bd, ()) ∧ Em (H ++ t) ⟨some (H.length + 2, 0), 0, 0⟩ 1 G s (intC ((outI k () st.bd).map Prod.fst)) ∧ s.len = (outI k () st.bd).length) ?_ ?_ ?_) ?_
  · rintro i y G hi ⟨s, rfl, hE, hn⟩
    exact wp_mono (bad_step h ht0 (fun a ha => by have := hs0 a ha; omega) hi hE hn) fun r hr => by
      obtain ⟨r, G'⟩ := r
      cases r with
      | inl y => exact hr
      | inr x => exact hr.elim
  · rintro y G ⟨s, rfl, hE, hn⟩
    rw [List.take_length] at hE hn ⊢
    obtain ⟨_, hbox⟩ := h.box t ht0 (fun a ha => by have := hs0 a ha; omega) hE
    have hv : rdSl 1 G H.length 2 = some v.2.2.1 := rdSl_of hbox rfl
    unfold ref08_State_bad.s1
    exact wp_to hv (wp_f (decide_eq_false (by rw [h.bdl]; exact Int.lt_irrefl _)) (wp_some ⟨s, rfl, hE, hn⟩))
  · exact ⟨_, rfl, h0, rfl⟩
  · rintro ⟨⟨s, pt, ⟨⟩⟩, G⟩ ⟨s', hs, hE, hn⟩
    cases hs
    refine wp_c (fun e => ?_) (fun e => ?_)
    · have e : putI k st.bd = false := by simpa using e
      rw [if_pos e] at hall
      have hol := outI_len h.w.bd k ()
      refine wp_app hE rfl (by decide) (by omega) fun s' G' hE' hn' => done s' G' ?_ ?_
      · rw [← hall, List.map_append, intC_append]; exact hE'
      · rw [← hall, List.length_append, ← hn]; exact hn'
    · have e : ¬ putI k st.bd = false := by simpa using e
      rw [if_neg e, List.append_nil] at hall
      rw [hall] at hE hn
      exact done s G hE hn
end
end Ev

