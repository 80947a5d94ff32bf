/- What the law leans on: texts of this claim, put together. -/
import Derived.Test.YtfmefnejaocopaaEvCore
import Derived.Test.YtfmefnejaocopaaEvLoop
import Derived.Test.YtfmefnejaocopaaEvOpen
import Derived.Test.YtfmefnejaocopaaGRec
import Derived.Test.YtfmefnejaocopaaGRef07
import Derived.Test.YtfmefnejaocopaaGRef08
import Derived.Test.YtfmefnejaocopaaGModel
import Derived.Test.YtfmefnejaocopaaGRef16
import Derived.Test.YtfmefnejaocopaaGLaw17
import Derived.Test.YtfmefnejaocopaaGLaw19
set_option linter.unusedSimpArgs false
set_option linter.unusedVariables false
namespace Ev
open Go (IntKind)

end Ev

namespace Ev
open Go (IntKind)

theorem wrap_succ {i : Nat} (h : i < 9223372036854775807) : IntKind.wrap .i64 ((i : Int) + 1) = ((i + 1 : Nat) : Int) := by
  rw [wrap_i64 (by omega) (by omega)]; omega

theorem bytes_of_cells (s : Bytes) : bytesOf (cellsOf s) = some s := by
  induction s with
  | nil => rfl
  | cons b s ih =>
    show (bytesOf (cellsOf s)).bind _ = _
    rw [ih]; simp
theorem cut_of {cs : List C} {o n : Nat} (h : o + n ≤ cs.length) : cut cs o n = some ((cs.drop o).take n) := by
  unfold cut
  rw [decide_eq_true h, cond_t]
theorem cut_all {cs : List C} {n : Nat} (h : n = cs.length) : cut cs 0 n = some cs := by
  subst h
  rw [cut_of (by omega)]; simp

/-! Heaps at whose end blocks are written out. -/
theorem app_last {H : Heap} {x : Blk} : (H ++ [x])[H.length]? = some x := by simp
theorem app_lt {H : Heap} {x : Blk} {b : Nat} (h : b < H.length) : (H ++ [x])[b]? = H[b]? := List.getElem?_append_left h
theorem rd_agg_of {H : Heap} {b o : Nat} {cs : List C} {bk : BK} {ts : List CT} {x : Tup ts} (h : H[b]? = some (.cells cs bk)) (ho : o + ts.length ≤ cs.length) (hx : Tup.un ts ((cs.drop o).take ts.length) = some x) : rd H (.agg ts) b o = some x := by
  simp only [rd, Heap.row, h, cut_of ho]
  exact hx
end Ev

namespace Ev
open Go (IntKind)

/-- A slice that append has made, or an empty one. -/
structure Grown (H : Heap) (es : Nat) (s : Sl) (cs : List C) : Prop where
  cap : s.cap = s.len
  len : cs.length = s.len * es
  nil : s.p = none → s.len = 0
  blk : ∀ a, s.p = some a → a.2 = 0 ∧ (H[a.1]? = some (.cells cs .loose) ∨ H[a.1]? = some (.cells cs .exact))

theorem Grown.ni (H : Heap) (es : Nat) : Grown H es ⟨none, 0, 0⟩ [] := ⟨rfl, by simp, fun _ => rfl, fun a h => by cases h⟩

theorem Grown.row {H : Heap} {es : Nat} {s : Sl} {cs : List C} (h : Grown H es s cs) : slRow H es s = some cs := by
  unfold slRow
  cases hp : s.p with
  | none =>
    have := h.len
    rw [h.nil hp, Nat.zero_mul] at this
    simp [List.eq_nil_of_length_eq_zero this]
  | some a =>
    obtain ⟨h1, h2⟩ := h.blk a hp
    rcases h2 with h2 | h2 <;> simp only [Heap.row, h2, h1, cut_all h.len.symm]
theorem Grown.str {H : Heap} {s : Sl} {t : Bytes} (h : Grown H 1 s (cellsOf t)) : strOf H s = some t := by
  unfold strOf
  rw [h.row]; exact bytes_of_cells t

/-- The heap behind a growth: the old block is gone if its end is not known. -/
def grownH (H : Heap) (s : Sl) (cs : List C) : Heap :=
  match s.p with
  | none => H ++ [.cells cs .loose]
  | some a => match H[a.1]? with
    | some (.cells _ .loose) => H.set a.1 .dead ++ [.cells cs .loose]
    | _ => H ++ [.cells cs .loose]
theorem grownH_length (H : Heap) (s : Sl) (cs : List C) : (grownH H s cs).length = H.length + 1 := by
  unfold grownH
  split
  · simp
  · split <;> simp
theorem grownH_get {H : Heap} {s : Sl} {cs : List C} {j : Nat} (hj : j < H.length) (ha : ∀ a, s.p = some a → a.1 ≠ j) : (grownH H s cs)[j]? = H[j]? := by
  unfold grownH
  split
  · rw [app_lt hj]
  · rename_i a hp
    split
    · rw [app_lt (by simpa using hj), set_get' (ha a hp)]
    · rw [app_lt hj]
theorem grownH_last (H : Heap) (s : Sl) (cs : List C) : (grownH H s cs)[H.length]? = some (.cells cs .loose) := by
  unfold grownH
  split
  · exact app_last
  · split
    · rw [List.getElem?_append_right (by simp)]; simp
    · exact app_last

theorem Grown.app {H : Heap} {es bytes : Nat} {s : Sl} {cs : List C} (h : Grown H es s cs) (hes : 0 < es) {n : Nat} {new : List C} (hn : 0 < n) (hnew : new.length = n * es) (hb : (s.len + n) * bytes ≤ 35184372088832) (hb2 : s.len + n ≤ 35184372088832) :
    appS H es bytes s n new = some (⟨some (H.length, 0), s.len + n, s.len + n⟩, grownH H s (cs ++ new)) ∧ Grown (grownH H s (cs ++ new)) es ⟨some (H.length, 0), s.len + n, s.len + n⟩ (cs ++ new) := by
  constructor
  · unfold appS
    have h1 : decide (s.len + n ≤ s.cap) = false := decide_eq_false (by rw [h.cap]; omega)
    have h2 : decide ((s.len + n) * bytes ≤ maxRow ∧ s.len + n ≤ maxRow) = true := decide_eq_true (by unfold maxRow; omega)
    rw [h1, cond_f, h2, cond_t, h.row, bind_some]
    have hk : growKill H es s = some (match s.p with
        | none => H
        | some a => match H[a.1]? with
          | some (.cells _ .loose) => H.set a.1 .dead
          | _ => H) := by
      unfold growKill
      cases hp : s.p with
      | none => rfl
      | some a =>
        obtain ⟨g1, g2⟩ := h.blk a hp
        rcases g2 with g2 | g2
        · have : decide (a.2 + s.cap * es = cs.length) = true := decide_eq_true (by rw [g1, h.cap, h.len]; omega)
          simp only [g2, this, cond_t]
        · simp only [g2]
    rw [hk, bind_some]
    unfold grownH
    cases hp : s.p with
    | none => rfl
    | some a =>
      obtain ⟨g1, g2⟩ := h.blk a hp
      rcases g2 with g2 | g2 <;> simp only [g2]
  · refine ⟨rfl, by rw [List.length_append, h.len, hnew, Nat.add_mul], fun hh => by (cases hh), ?_⟩
    rintro a ha
    cases ha
    exact ⟨rfl, .inl (grownH_last H s _)⟩

/-- A block behind does not matter. -/
theorem Grown.mono {H H' : Heap} {es : Nat} {s : Sl} {cs : List C} (h : Grown H es s cs) (hh : ∀ a, s.p = some a → H'[a.1]? = H[a.1]?) : Grown H' es s cs :=
  ⟨h.cap, h.len, h.nil, fun a ha => by rw [hh a ha]; exact h.blk a ha⟩
theorem Grown.lt {H : Heap} {es : Nat} {s : Sl} {cs : List C} (h : Grown H es s cs) {a : Nat × Nat} (ha : s.p = some a) : a.1 < H.length := by
  obtain ⟨_, h2⟩ := h.blk a ha
  rcases h2 with h2 | h2 <;> exact (List.getElem?_eq_some_iff.1 h2).1
theorem Grown.push {H : Heap} {es : Nat} {s : Sl} {cs : List C} (h : Grown H es s cs) (x : Blk) : Grown (H ++ [x]) es s cs :=
  h.mono fun _ ha => app_lt (h.lt ha)

end Ev

namespace Ev
open Go (IntKind)

theorem lt_mul {n i j es : Nat} (hi : i < n) (hj : j < es) : i * es + j < n * es := by
  have : (i + 1) * es ≤ n * es := Nat.mul_le_mul_right _ hi
  rw [Nat.succ_mul] at this; omega
/-- What a step keeps: all but the blocks of F; blocks may be new. -/
structure Keep (F : Nat → Prop) (H H' : Heap) : Prop where
  len : H.length ≤ H'.length
  same : ∀ k, k < H.length → ¬ F k → H'[k]? = H[k]?
theorem Keep.refl (F : Nat → Prop) (H : Heap) : Keep F H H := ⟨Nat.le_refl _, fun _ _ _ => rfl⟩
theorem Keep.trans {F : Nat → Prop} {A B D : Heap} (h : Keep F A B) (k : Keep F B D) : Keep F A D :=
  ⟨Nat.le_trans h.len k.len, fun j hj hf => (k.same j (Nat.lt_of_lt_of_le hj h.len) hf).trans (h.same j hj hf)⟩
theorem Keep.mono {F G : Nat → Prop} {A B : Heap} (h : Keep F A B) (hg : ∀ k, F k → G k) : Keep G A B := ⟨h.len, fun k hk hf => h.same k hk fun x => hf (hg k x)⟩
/-- Blocks that are new do not count. -/
theorem Keep.new {F G : Nat → Prop} {A B : Heap} (h : Keep F A B) (hg : ∀ k, F k → k < A.length → G k) : Keep G A B := ⟨h.len, fun k hk hf => h.same k hk fun x => hf (hg k x hk)⟩
theorem Keep.push (F : Nat → Prop) (H : Heap) (x : Blk) : Keep F H (H ++ [x]) := ⟨by simp, fun _ hk _ => app_lt hk⟩
theorem Keep.set {F : Nat → Prop} (H : Heap) (b : Nat) (x : Blk) (hF : F b) : Keep F H (H.set b x) := ⟨by simp, fun k _ hf => set_get' (fun e => hf (e ▸ hF))⟩
theorem Keep.get {F : Nat → Prop} {A B : Heap} (h : Keep F A B) {k : Nat} {x : Blk} (hk : A[k]? = some x) (hf : ¬ F k) : B[k]? = some x := by
  rw [h.same k (List.getElem?_eq_some_iff.1 hk).1 hf]; exact hk
theorem get_lt {H : Heap} {k : Nat} {x : Blk} (h : H[k]? = some x) : k < H.length := (List.getElem?_eq_some_iff.1 h).1

/-- The cells of a slice. -/
theorem slRow_some {H : Heap} {es : Nat} {s : Sl} {b o : Nat} {row : List C} (hp : s.p = some (b, o)) (h : slRow H es s = some row) : ∃ cs bk, H[b]? = some (.cells cs bk) ∧ o + s.len * es ≤ cs.length ∧ (cs.drop o).take (s.len * es) = row := by
  unfold slRow at h
  rw [hp] at h
  simp only [Heap.row] at h
  split at h
  · rename_i cs bk hb
    unfold cut at h
    by_cases hl : o + s.len * es ≤ cs.length
    · rw [decide_eq_true hl, cond_t] at h
      exact ⟨cs, bk, hb, hl, Option.some.inj h⟩
    · rw [decide_eq_false hl, cond_f] at h; cases h
  · cases h
theorem slRow_len {H : Heap} {es : Nat} {s : Sl} {row : List C} (h : slRow H es s = some row) (hn : s.p = none → s.len = 0) : row.length = s.len * es := by
  cases hp : s.p with
  | none =>
    unfold slRow at h
    rw [hp] at h
    cases h
    rw [hn hp]; simp
  | some a =>
    obtain ⟨cs, bk, _, h2, h3⟩ := slRow_some hp h
    rw [← h3, List.length_take, List.length_drop]; omega
/-- One cell of a slice's row. -/
theorem slRow_cell {H : Heap} {es : Nat} {s : Sl} {row : List C} (h : slRow H es s = some row) {i : Nat} (hi : i < s.len) (hn : s.p = none → s.len = 0) : ∃ b o, s.p = some (b, o) ∧ Sl.at es s (i : Int) = some (b, o + i * es) ∧ ∃ cs bk, H[b]? = some (.cells cs bk) ∧ o + s.len * es ≤ cs.length ∧ ∀ j, j < es → cs[o + i * es + j]? = row[i * es + j]? := by
  cases hp : s.p with
  | none => have := hn hp; omega
  | some a =>
    obtain ⟨cs, bk, h1, h2, h3⟩ := slRow_some hp h
    refine ⟨a.1, a.2, rfl, ?_, cs, bk, h1, h2, ?_⟩
    · cases s; simp only at hp; subst hp; rw [at_of (by omega) (by simpa using hi)]; simp
    · intro j hj
      have hlt : i * es + j < s.len * es := lt_mul hi hj
      rw [← h3, List.getElem?_take, if_pos hlt, List.getElem?_drop, Nat.add_assoc]
theorem slRow_keep {H H' : Heap} {es : Nat} {s : Sl} {row : List C} (h : slRow H es s = some row) (hk : ∀ b o, s.p = some (b, o) → H'[b]? = H[b]?) : slRow H' es s = some row := by
  cases hp : s.p with
  | none => unfold slRow at h ⊢; rw [hp] at h ⊢; exact h
  | some a =>
    have := hk a.1 a.2 hp
    unfold slRow at h ⊢
    rw [hp] at h ⊢
    simp only [Heap.row] at h ⊢
    rw [this]; exact h
end Ev

namespace Ev
open Go (IntKind)

theorem rowsC_get {cts : List CT} : ∀ {rows : List (Tup cts)} {i : Nat} {x : Tup cts} {j : Nat}, rows[i]? = some x → j < cts.length → (rowsOf cts rows)[i * cts.length + j]? = (Tup.mk cts x)[j]?
  | [], _, _, _, h, _ => by simp at h
  | y :: r, 0, x, j, h, hj => by
    simp at h
    subst h
    simp only [rowsOf, List.map_cons, List.flatten_cons, Nat.zero_mul, Nat.zero_add]
    rw [List.getElem?_append_left (by rw [Tup.mk_length]; exact hj)]
  | y :: r, i + 1, x, j, h, hj => by
    have ih := rowsC_get (rows := r) (i := i) (j := j) (by simpa using h) hj
    simp only [rowsOf, List.map_cons, List.flatten_cons] at ih ⊢
    rw [List.getElem?_append_right (by rw [Tup.mk_length, Nat.succ_mul]; omega), Tup.mk_length]
    rw [← ih]
    congr 1
    rw [Nat.succ_mul]; omega
theorem rowsC_length {cts : List CT} : ∀ (rows : List (Tup cts)), (rowsOf cts rows).length = rows.length * cts.length
  | [] => by simp [rowsOf]
  | x :: r => by
    have := rowsC_length r
    simp only [rowsOf, List.map_cons, List.flatten_cons, List.length_append, Tup.mk_length, List.length_cons] at this ⊢
    rw [this, Nat.succ_mul]; omega

def intC (l : List Int) : List C := l.map (C.int .i64)
end Ev

namespace Ev
open Go (IntKind)

/-- A slice whose cells are known. -/
structure Row (H : Heap) (es : Nat) (s : Sl) (row : List C) : Prop where
  row : slRow H es s = some row
  nil : s.p = none → s.len = 0
theorem Row.len {H : Heap} {es : Nat} {s : Sl} {row : List C} (h : Row H es s row) : row.length = s.len * es := slRow_len h.row h.nil
theorem Row.keep {H H' : Heap} {es : Nat} {s : Sl} {row : List C} (h : Row H es s row) {F : Nat → Prop} (k : Keep F H H') (hF : ∀ b o, s.p = some (b, o) → ¬ F b) : Row H' es s row :=
  ⟨slRow_keep h.row fun b o hp => by
    obtain ⟨cs, bk, h1, _, _⟩ := slRow_some hp h.row
    rw [k.get h1 (hF b o hp), h1], h.nil⟩
theorem Row.lt {H : Heap} {es : Nat} {s : Sl} {row : List C} (h : Row H es s row) {b o : Nat} (hp : s.p = some (b, o)) : b < H.length := by
  obtain ⟨cs, bk, h1, _, _⟩ := slRow_some hp h.row
  exact get_lt h1
theorem Row.push {H : Heap} {es : Nat} {s : Sl} {row : List C} (h : Row H es s row) (x : Blk) : Row (H ++ [x]) es s row := h.keep (Keep.push (fun _ => False) H x) fun _ _ _ => id
theorem Row.ni (H : Heap) (es c : Nat) : Row H es ⟨none, 0, c⟩ [] := ⟨rfl, fun _ => rfl⟩
theorem Row.grown {H : Heap} {es : Nat} {s : Sl} {row : List C} (h : Grown H es s row) : Row H es s row := ⟨h.row, h.nil⟩

/-- One number of a slice. -/
theorem Row.int {H : Heap} {s : Sl} {l : List Int} (h : Row H 1 s (intC l)) {i : Nat} (hi : i < l.length) : ∃ b o, s.p = some (b, o) ∧ Sl.at 1 s (i : Int) = some (b, o + i) ∧ rdI .i64 H b (o + i) = some l[i] := by
  have hl := h.len
  simp [intC] at hl
  obtain ⟨b, o, hp, h1, cs, bk, h2, h3, h4⟩ := slRow_cell h.row (i := i) (by omega) h.nil
  refine ⟨b, o, hp, by simpa using h1, rdI_of h2 ?_⟩
  have := h4 0 (by decide)
  simp only [Nat.mul_one, Nat.add_zero] at this
  rw [this]
  simp [intC, hi]
theorem rows_take (cts : List CT) (rows : List (Tup cts)) (n : Nat) : (rowsOf cts rows).take (n * cts.length) = rowsOf cts (rows.take n) := by
  induction rows generalizing n with
  | nil => simp [rowsOf]
  | cons x r ih =>
    cases n with
    | zero => simp [rowsOf]
    | succ n =>
      have := ih n
      simp only [rowsOf, List.map_cons, List.flatten_cons, List.take_succ_cons] at this ⊢
      rw [Nat.succ_mul, Nat.add_comm, List.take_append, List.take_of_length_le (by rw [Tup.mk_length]; omega), Tup.mk_length, Nat.add_sub_cancel_left, this]
theorem came_rows {cts : List CT} {B H : Heap} {s : Sl} (h : Came cts B s H) : ∃ rows : List (Tup cts), Row H cts.length s (rowsOf cts rows) ∧ s.len = rows.length ∧ (∀ x ∈ rows, ∀ c ∈ Tup.mk cts x, wfC c) ∧ ∀ b o, s.p = some (b, o) → b = B.length := by
  rcases h with ⟨rfl, rfl⟩ | ⟨len, rows, rfl, h1, h2, rfl, h3⟩
  · exact ⟨[], ⟨rfl, fun _ => rfl⟩, rfl, fun x hx => absurd hx List.not_mem_nil, fun b o hh => by cases hh⟩
  · refine ⟨rows.take len, ⟨?_, fun hh => by cases hh⟩, by simp; omega, fun x hx => h3 x (List.mem_of_mem_take hx), fun b o hh => by cases hh; rfl⟩
    unfold slRow
    simp only [Heap.row, app_last]
    rw [cut_of (by rw [rowsC_length]; have := Nat.mul_le_mul_right cts.length h1; omega), List.drop_zero, rows_take]
/-- One cell of a row of structs. -/
theorem Row.at {H : Heap} {cts : List CT} {s : Sl} {rows : List (Tup cts)} (h : Row H cts.length s (rowsOf cts rows)) {i : Nat} (hi : i < rows.length) (hpos : 0 < cts.length) : ∃ b o, s.p.isSome ∧ Sl.at cts.length s (i : Int) = some (b, o) ∧ (∃ o', s.p = some (b, o')) ∧ ∃ cs bk, H[b]? = some (.cells cs bk) ∧ o + cts.length ≤ cs.length ∧ (cs.drop o).take cts.length = Tup.mk cts rows[i] := by
  have hl := h.len
  rw [rowsC_length] at hl
  have hsl : s.len = rows.length := Nat.eq_of_mul_eq_mul_right hpos hl.symm
  obtain ⟨b, o, hp, h1, cs, bk, h2, h3, h4⟩ := slRow_cell h.row (i := i) (by omega) h.nil
  have hlt : (i + 1) * cts.length ≤ s.len * cts.length := Nat.mul_le_mul_right _ (by omega)
  rw [Nat.succ_mul] at hlt
  refine ⟨b, o + i * cts.length, by rw [hp]; rfl, h1, ⟨o, hp⟩, cs, bk, h2, by omega, ?_⟩
  apply List.ext_getElem?
  intro j
  rw [List.getElem?_take]
  by_cases hj : j < cts.length
  · rw [if_pos hj, List.getElem?_drop, h4 j hj]
    exact rowsC_get (List.getElem?_eq_getElem hi) hj
  · rw [if_neg hj, List.getElem?_eq_none (by rw [Tup.mk_length]; omega)]
end Ev

namespace Ev
open Go

/-- A loop that counts; the heaps are only known to be there. -/
theorem loop_rise {S X : Type} {step : S → Heap → Option ((S ⊕ X) × Heap)} (n : Nat) (I : Nat → S → Heap → Prop) (Q : X → Heap → Prop)
    (hs : ∀ i y G, i < n → I i y G → (∃ y' G', step y G = some (.inl y', G') ∧ I (i + 1) y' G') ∨ ∃ x G', step y G = some (.inr x, G') ∧ Q x G')
    (he : ∀ y G, I n y G → ∃ x G', step y G = some (.inr x, G') ∧ Q x G') {y : S} {H : Heap} (h0 : I 0 y H) : ∃ x G, loopW step y H = some (x, G) ∧ Q x G := by
  have key : ∀ d i y G, i + d = n → I i y G → ∃ m x G', iter step m y G = some (x, G') ∧ Q x G' := by
    intro d
    induction d with
    | zero =>
      intro i y G hi hI
      have : i = n := by omega
      subst this
      obtain ⟨x, G', g1, g2⟩ := he y G hI
      exact ⟨1, x, G', by rw [iter, g1]; rfl, g2⟩
    | succ d ih =>
      intro i y G hi hI
      rcases hs i y G (by omega) hI with ⟨y', G', g1, g2⟩ | ⟨x, G', g1, g2⟩
      · obtain ⟨m, x, G2, g3, g4⟩ := ih (i + 1) y' G' (by omega) g2
        exact ⟨m + 1, x, G2, by rw [iter, g1]; exact g3, g4⟩
      · exact ⟨1, x, G', by rw [iter, g1]; rfl, g2⟩
  obtain ⟨m, x, G, g1, g2⟩ := key n 0 y H (by omega) h0
  exact ⟨x, G, loopW_eq g1, g2⟩
end Ev

namespace Ev
open Go (IntKind)

section
variable {α : Type}
def Asc (l : List (Int × α)) : Prop := l.Pairwise fun x y => x.1 < y.1
def afind : List (Int × α) → Int → Option α
  | [], _ => none
  | x :: r, k => if x.1 = k then some x.2 else afind r k
def ains : List (Int × α) → Int → α → List (Int × α)
  | [], k, v => [(k, v)]
  | x :: r, k, v => if k < x.1 then (k, v) :: x :: r else if x.1 = k then (k, v) :: r else x :: ains r k v
def adrop : List (Int × α) → Int → List (Int × α)
  | [], _ => []
  | x :: r, k => if x.1 = k then r else x :: adrop r k

theorem Asc.tail {x : Int × α} {l : List (Int × α)} (h : Asc (x :: l)) : Asc l := List.Pairwise.of_cons h
theorem Asc.head {x : Int × α} {l : List (Int × α)} (h : Asc (x :: l)) {y : Int × α} (hy : y ∈ l) : x.1 < y.1 := List.rel_of_pairwise_cons h hy
theorem Asc.nil : Asc ([] : List (Int × α)) := List.Pairwise.nil
theorem afind_none {l : List (Int × α)} {k : Int} (h : ∀ x ∈ l, x.1 ≠ k) : afind l k = none := by
  induction l with
  | nil => rfl
  | cons x l ih => rw [afind, if_neg (h x (by simp))]; exact ih fun y hy => h y (by simp [hy])
theorem afind_mem {l : List (Int × α)} {k : Int} {v : α} (h : afind l k = some v) : (k, v) ∈ l := by
  induction l with
  | nil => cases h
  | cons x l ih =>
    rw [afind] at h
    by_cases e : x.1 = k
    · rw [if_pos e] at h; cases h; rw [← e]; simp
    · rw [if_neg e] at h; exact List.mem_cons_of_mem _ (ih h)
theorem Asc.find {l : List (Int × α)} (h : Asc l) {k : Int} {v : α} (hm : (k, v) ∈ l) : afind l k = some v := by
  induction l with
  | nil => simp at hm
  | cons x l ih =>
    rw [afind]
    rcases List.mem_cons.1 hm with e | hm
    · subst e; rw [if_pos rfl]
    · have := h.head hm
      rw [if_neg (by omega)]
      exact ih h.tail hm
theorem afind_isSome {l : List (Int × α)} {k : Int} : (afind l k).isSome = true ↔ k ∈ l.map Prod.fst := by
  induction l with
  | nil => simp [afind]
  | cons x l ih =>
    rw [afind, List.map_cons, List.mem_cons]
    by_cases e : x.1 = k
    · rw [if_pos e]; simp [e]
    · rw [if_neg e, ih]
      exact ⟨.inr, fun h => h.resolve_left (fun hh => e hh.symm)⟩
theorem ains_mem {l : List (Int × α)} {k : Int} {v : α} {y : Int × α} (h : y ∈ ains l k v) : y = (k, v) ∨ y ∈ l := by
  induction l with
  | nil => exact .inl (by simpa [ains] using h)
  | cons x l ih =>
    rw [ains] at h
    split at h
    · rcases List.mem_cons.1 h with h | h
      · exact .inl h
      · exact .inr h
    · split at h
      · rcases List.mem_cons.1 h with h | h
        · exact .inl h
        · exact .inr (List.mem_cons_of_mem _ h)
      · rcases List.mem_cons.1 h with h | h
        · exact .inr (by simp [h])
        · rcases ih h with h | h
          · exact .inl h
          · exact .inr (List.mem_cons_of_mem _ h)
theorem Asc.ins {l : List (Int × α)} (h : Asc l) (k : Int) (v : α) : Asc (ains l k v) := by
  induction l with
  | nil => exact List.pairwise_singleton _ _
  | cons x l ih =>
    rw [ains]
    by_cases e : k < x.1
    · rw [if_pos e]
      refine List.Pairwise.cons (fun y hy => ?_) h
      rcases List.mem_cons.1 hy with rfl | hy
      · exact e
      · have := h.head hy; show k < y.1; omega
    · rw [if_neg e]
      by_cases e2 : x.1 = k
      · rw [if_pos e2]
        exact List.Pairwise.cons (fun y hy => by have := h.head hy; show k < y.1; omega) h.tail
      · rw [if_neg e2]
        refine List.Pairwise.cons (fun y hy => ?_) (ih h.tail)
        rcases ains_mem hy with rfl | hy
        · show x.1 < k; omega
        · exact h.head hy
theorem Asc.sub {l l' : List (Int × α)} (h : Asc l) (hs : l'.Sublist l) : Asc l' := h.sublist hs
theorem adrop_sub : ∀ (l : List (Int × α)) (k : Int), (adrop l k).Sublist l
  | [], _ => List.Sublist.slnil
  | x :: l, k => by
    rw [adrop]
    split
    · exact List.sublist_cons_self _ _
    · exact (adrop_sub l k).cons_cons _
theorem Asc.drop {l : List (Int × α)} (h : Asc l) (k : Int) : Asc (adrop l k) := h.sub (adrop_sub l k)
theorem afind_ins {l : List (Int × α)} (h : Asc l) (k : Int) (v : α) (k' : Int) : afind (ains l k v) k' = if k' = k then some v else afind l k' := by
  induction l with
  | nil =>
    simp only [ains, afind]
    by_cases e : k = k'
    · rw [if_pos e, if_pos e.symm]
    · rw [if_neg e, if_neg (fun hh => e hh.symm)]
  | cons x l ih =>
    rw [ains]
    by_cases e : k < x.1
    · rw [if_pos e, afind]
      by_cases e2 : k = k'
      · rw [if_pos e2, if_pos e2.symm]
      · rw [if_neg e2, if_neg (fun hh => e2 hh.symm)]
    · rw [if_neg e]
      by_cases e3 : x.1 = k
      · rw [if_pos e3, afind, afind]
        by_cases e2 : k = k'
        · rw [if_pos e2, if_pos e2.symm]
        · rw [if_neg e2, if_neg (fun hh => e2 hh.symm), if_neg (by omega)]
      · rw [if_neg e3, afind, ih h.tail, afind]
        by_cases e2 : x.1 = k'
        · rw [if_pos e2, if_pos e2, if_neg (by omega)]
        · rw [if_neg e2, if_neg e2]
theorem afind_drop {l : List (Int × α)} (h : Asc l) (k : Int) (k' : Int) : afind (adrop l k) k' = if k' = k then none else afind l k' := by
  induction l with
  | nil => simp [adrop, afind]
  | cons x l ih =>
    rw [adrop]
    by_cases e : x.1 = k
    · rw [if_pos e]
      by_cases e2 : k' = k
      · rw [if_pos e2]
        exact afind_none fun y hy => by have := h.head hy; omega
      · rw [if_neg e2, afind, if_neg (by omega)]
    · rw [if_neg e, afind, ih h.tail, afind]
      by_cases e2 : x.1 = k'
      · rw [if_pos e2, if_pos e2, if_neg (by omega)]
      · rw [if_neg e2, if_neg e2]
/-- Two of them that tell the same are the same. -/
theorem asc_ext : ∀ {l l' : List (Int × α)}, Asc l → Asc l' → (∀ k, afind l k = afind l' k) → l = l'
  | [], [], _, _, _ => rfl
  | [], y :: l', _, _, h => by have := h y.1; rw [afind, afind, if_pos rfl] at this; cases this
  | x :: l, [], _, _, h => by have := h x.1; rw [afind, afind, if_pos rfl] at this; cases this
  | x :: l, y :: l', h1, h2, h => by
    have a1 := h x.1
    have a2 := h y.1
    rw [afind, if_pos rfl, afind] at a1
    rw [afind, afind, if_pos rfl] at a2
    have hxy : x.1 = y.1 := by
      by_cases e : y.1 = x.1
      · exact e.symm
      · rw [if_neg e] at a1
        rw [if_neg (fun hh => e hh.symm)] at a2
        have b1 := h2.head (afind_mem a1.symm)
        have b2 := h1.head (afind_mem a2)
        have b1 : y.1 < x.1 := b1
        have b2 : x.1 < y.1 := b2
        omega
    rw [if_pos hxy.symm] at a1
    have hxe : x = y := Prod.ext hxy (Option.some.inj a1)
    subst hxe
    congr 1
    refine asc_ext h1.tail h2.tail fun k => ?_
    have := h k
    rw [afind, afind] at this
    by_cases e : x.1 = k
    · rw [afind_none fun z hz => by have := h1.head hz; omega, afind_none fun z hz => by have := h2.head hz; omega]
    · rwa [if_neg e, if_neg e] at this
/-- As the heap has it. -/
def encA (f : Int → α → W) (l : List (Int × α)) : MEs := l.map fun x => (x.1, f x.1 x.2)
theorem mfind_enc {f : Int → α → W} : ∀ (l : List (Int × α)) (k : Int), mfind (encA f l) k = (afind l k).map (f k)
  | [], _ => rfl
  | x :: l, k => by
    show (bif decide (x.1 = k) then some (f x.1 x.2) else mfind (encA f l) k) = (if x.1 = k then some x.2 else afind l k).map (f k)
    by_cases e : x.1 = k
    · rw [decide_eq_true e, cond_true, if_pos e, e]; rfl
    · rw [decide_eq_false e, cond_false, if_neg e, mfind_enc l k]
theorem mins_enc {f : Int → α → W} : ∀ (l : List (Int × α)) (k : Int) (v : α), mins (encA f l) k (f k v) = encA f (ains l k v)
  | [], _, _ => rfl
  | x :: l, k, v => by
    show (bif decide (k < x.1) then (k, f k v) :: (x.1, f x.1 x.2) :: encA f l else bif decide (x.1 = k) then (k, f k v) :: encA f l else (x.1, f x.1 x.2) :: mins (encA f l) k (f k v)) = encA f (ains (x :: l) k v)
    rw [ains]
    by_cases e : k < x.1
    · rw [decide_eq_true e, cond_true, if_pos e]; rfl
    · rw [decide_eq_false e, cond_false, if_neg e]
      by_cases e2 : x.1 = k
      · rw [decide_eq_true e2, cond_true, if_pos e2]; rfl
      · rw [decide_eq_false e2, cond_false, if_neg e2, mins_enc l k v]; rfl
theorem mdrop_enc {f : Int → α → W} : ∀ (l : List (Int × α)) (k : Int), mdrop (encA f l) k = encA f (adrop l k)
  | [], _ => rfl
  | x :: l, k => by
    show (bif decide (x.1 = k) then encA f l else (x.1, f x.1 x.2) :: mdrop (encA f l) k) = encA f (adrop (x :: l) k)
    rw [adrop]
    by_cases e : x.1 = k
    · rw [decide_eq_true e, cond_true, if_pos e]
    · rw [decide_eq_false e, cond_false, if_neg e, mdrop_enc l k]; rfl
theorem enc_keys (f : Int → α → W) (l : List (Int × α)) : (encA f l).map Prod.fst = l.map Prod.fst := by
  unfold encA; rw [List.map_map]; rfl
theorem enc_length (f : Int → α → W) (l : List (Int × α)) : (encA f l).length = l.length := by simp [encA]
theorem enc_congr {f g : Int → α → W} {l : List (Int × α)} (h : ∀ x ∈ l, f x.1 x.2 = g x.1 x.2) : encA f l = encA g l := by
  unfold encA
  exact List.map_congr_left fun x hx => by rw [h x hx]
end

/-! In the heap. -/
def MpA {α : Type} (H : Heap) (b : Nat) (f : Int → α → W) (l : List (Int × α)) : Prop := ∃ dc, H[b]? = some (.mp (encA f l) dc)
section
variable {α : Type} {H : Heap} {b : Nat} {f : Int → α → W} {l : List (Int × α)}
theorem MpA.keep (h : MpA H b f l) {F : Nat → Prop} {H' : Heap} (k : Keep F H H') (hb : ¬ F b) : MpA H' b f l := by
  obtain ⟨dc, h⟩ := h
  exact ⟨dc, k.get h hb⟩
theorem MpA.lt (h : MpA H b f l) : b < H.length := by obtain ⟨dc, h⟩ := h; exact get_lt h
theorem mpAt_of {es : MEs} {dc : Nat} (h : H[b]? = some (.mp es dc)) : H.mpAt b = some (es, dc) := by simp [Heap.mpAt, h]
theorem MpA.get (h : MpA H b f l) (ty : Ty) (zero : W) (k : Int) {v : ty.T} (hv : ty.un (((afind l k).map (f k)).getD zero) = some v) : mget H ty zero (some b) k = some (v, (afind l k).isSome) := by
  obtain ⟨dc, h⟩ := h
  simp only [mget, mgetW, mpAt_of h, Option.bind_some, mfind_enc, hv, Option.isSome_map]
theorem MpA.set (h : MpA H b f l) (k : Int) (v : α) : ∃ H', mset H (some b) k (f k v) = some H' ∧ MpA H' b f (ains l k v) ∧ Keep (fun j => j = b) H H' := by
  obtain ⟨dc, h⟩ := h
  refine ⟨H.set b (.mp (encA f (ains l k v)) dc), ?_, ⟨dc, set_get (get_lt h)⟩, Keep.set _ _ _ rfl⟩
  simp only [mset, Option.bind_some, mpAt_of h, mins_enc]
theorem MpA.del (h : MpA H b f l) (k : Int) : ∃ H', mdel H (some b) k = some H' ∧ MpA H' b f (adrop l k) ∧ Keep (fun j => j = b) H H' := by
  obtain ⟨dc, h⟩ := h
  refine ⟨H.set b (.mp (encA f (adrop l k)) (dc + 1)), ?_, ⟨_, set_get (get_lt h)⟩, Keep.set _ _ _ rfl⟩
  simp only [mdel, mpAt_of h, Option.bind_some, mdrop_enc]
theorem MpA.len (h : MpA H b f l) : mlen H (some b) = some (l.length : Int) := by
  obtain ⟨dc, h⟩ := h
  simp only [mlen, mpAt_of h, Option.bind_some, enc_length]
theorem MpA.keys (h : MpA H b f l) : mkeys H (some b) = some (l.map Prod.fst) := by
  obtain ⟨dc, h⟩ := h
  simp only [mkeys, mpAt_of h, Option.bind_some, enc_keys]
theorem MpA.mat (h : MpA H b f l) (ty : Ty) (k : Int) {v : ty.T} (hv : ((afind l k).map (f k)).bind ty.un = some v) : mat H ty (some b) k = some v := by
  obtain ⟨dc, h⟩ := h
  simp only [Ev.mat, mgetW, mpAt_of h, Option.bind_some, mfind_enc, hv]
theorem MpA.clone (h : MpA H b f l) : mclone (some b) H = some ((some H.length, ()), H ++ [.mp (encA f l) 0]) := by
  obtain ⟨dc, h⟩ := h
  simp only [mclone, mpAt_of h, Option.bind_some]
theorem MpA.sorted (h : MpA H b f l) (hl : l.length ≤ 1099511627776) (hk : ∀ x ∈ l, -9223372036854775808 ≤ x.1 ∧ x.1 ≤ 9223372036854775807) :
    ∃ s G, sortedKeys (some (H.length, 0), ()) (H ++ [.cells [.mp (some b)] .exact]) = some ((s, ()), G) ∧ slRow G 1 s = some ((l.map Prod.fst).map (C.int .i64)) ∧ s.len = l.length ∧ (s.p = none → s.len = 0) ∧ (∀ a, s.p = some a → H.length < a.1) ∧ Keep (fun _ => False) H G := by
  have hb := h.lt
  have hkeys : mkeys (H ++ [.cells [.mp (some b)] .exact]) (some b) = some (l.map Prod.fst) := (h.keep (Keep.push (fun _ => False) H _) id).keys
  have hc : (decide ((l.map Prod.fst).length ≤ 1099511627776) && ((l.map Prod.fst).all fun k => decide (-9223372036854775808 ≤ k ∧ k ≤ 9223372036854775807))) = true := by
    rw [decide_eq_true (by simpa using hl), Bool.true_and, List.all_eq_true]
    intro k hk'
    obtain ⟨x, hx, rfl⟩ := List.mem_map.1 hk'
    exact decide_eq_true (hk x hx)
  have e : sortedKeys (some (H.length, 0), ()) (H ++ [.cells [.mp (some b)] .exact]) = keysSl (H ++ [.cells [.mp (some b)] .exact]) (l.map Prod.fst) := by
    simp only [sortedKeys, Option.bind_some, decide_true, cond_true, List.getElem?_append_right (Nat.le_refl _), Nat.sub_self, List.getElem?_cons_zero, hkeys]
  rw [e, keysSl, hc, cond_true]
  by_cases h0 : l = []
  · subst h0
    exact ⟨⟨none, 0, 0⟩, _, rfl, rfl, rfl, fun _ => rfl, fun a ha => (by cases ha), Keep.push _ _ _⟩
  · rw [decide_eq_false (by simpa using h0), cond_false]
    refine ⟨_, _, rfl, ?_, by simp, fun hh => (by cases hh), fun a ha => by cases ha; simp, (Keep.push _ H _).trans (Keep.push _ _ _)⟩
    unfold slRow
    simp only [Heap.row]
    rw [List.getElem?_append_right (Nat.le_refl _), Nat.sub_self]
    simp [cut]
    exact List.take_of_length_le (by simp)
theorem MpA.head (h : MpA H b f l) : ∃ dc, mhead H (some b) = some (l.length, dc) := by
  obtain ⟨dc, h⟩ := h
  exact ⟨dc, by simp only [mhead, mpAt_of h, Option.bind_some, enc_length]⟩
end
end Ev

namespace Ev

theorem renP_id (p : Ptr) : renP (fun b => b) p = p := by cases p <;> rfl
theorem C.ren_id (c : C) : c.ren (fun b => b) = c := by
  cases c with
  | ptr p => simp [C.ren, renP_id]
  | sl es s => simp [C.ren, renP_id]
  | mp r => cases r <;> rfl
  | clo g ps => simp only [C.ren]; congr 1; exact (List.map_congr_left fun p _ => renP_id p).trans (List.map_id' ps)
  | _ => rfl
theorem cs_ren_id (cs : List C) : cs.map (C.ren fun b => b) = cs := (List.map_congr_left fun c _ => C.ren_id c).trans (List.map_id' cs)
theorem W.ren_id (x : W) : x.ren (fun b => b) = x := by
  cases x with
  | one c => simp [W.ren, C.ren_id]
  | agg cs => simp [W.ren, cs_ren_id]
theorem Blk.ren_id (x : Blk) : x.ren (fun b => b) = x := by
  cases x with
  | cells cs bk => simp [Blk.ren, cs_ren_id]
  | dead => rfl
  | mp es dc =>
    simp only [Blk.ren, W.ren_id]
    congr 1
    exact (List.map_congr_left fun x _ => rfl).trans (List.map_id' es)
theorem Alike.refl (H0 H : Heap) : Alike H0 H H :=
  ⟨fun b => b, fun b => b, fun _ => rfl, fun _ => rfl, fun _ _ => rfl, rfl, fun b => .inl (by cases H[b]? with | none => rfl | some x => simp [Blk.ren_id])⟩

/-- A range whose rounds are known in every order. -/
theorem eachW_of {S : Type} {step : Int → S → Heap → Option (S × Heap)} {m : Option Nat} {s : S} {H : Heap} {ks : List Int} {hd : Nat × Nat} (hk : mkeys H m = some ks) (hh : mhead H m = some hd) (hnd : ks.Nodup)
    (st : List Int → S) (F : List Int → Heap) (h0 : st [] = s) (h1 : F [] = H)
    (hs : ∀ (l : List Int) (k : Int), (∀ x ∈ l, x ∈ ks) → l.Nodup → k ∈ ks → k ∉ l → step k (st l) (F l) = some (st (l ++ [k]), F (l ++ [k])) ∧ mhead (F (l ++ [k])) m = some hd)
    (ha : ∀ l : List Int, l.Perm ks → st l = st ks ∧ Alike H (F l) (F ks)) : eachW step m s H = some (st ks, F ks) := by
  have run : ∀ (r l : List Int), (l ++ r).Nodup → (∀ x ∈ l ++ r, x ∈ ks) → runK step m hd r (st l) (F l) = some (st (l ++ r), F (l ++ r)) := by
    intro r
    induction r with
    | nil => intro l _ _; rw [List.append_nil]; rfl
    | cons k r ih =>
      intro l hn hm
      have hn' := List.nodup_append.1 hn
      obtain ⟨g1, g2⟩ := hs l k (fun x hx => hm x (by simp [hx])) hn'.1 (hm k (by simp)) (fun hx => hn'.2.2 k hx k (by simp) rfl)
      simp only [runK, g1]
      show (if mhead (F (l ++ [k])) m = some hd then _ else none) = _
      rw [if_pos g2]
      have := ih (l ++ [k]) (by rw [List.append_assoc]; exact hn) (fun x hx => hm x (by rw [List.append_assoc] at hx; exact hx))
      rw [List.append_assoc] at this
      exact this
  have all : ∀ l : List Int, l.Perm ks → runK step m hd l s H = some (st l, F l) := by
    intro l hl
    have := run l [] (by rw [List.nil_append]; exact hl.nodup_iff.2 hnd) (fun x hx => hl.subset (by simpa using hx))
    rw [List.nil_append, h0, h1] at this
    exact this
  unfold eachW
  simp only [hk, hh, Option.bind_some]
  rw [if_pos ⟨_, all ks (List.Perm.refl _), fun l hl => ⟨_, all l hl, ha l hl⟩⟩]
  exact all ks (List.Perm.refl _)
/-! Rows of blocks that come with each key. -/
section
variable (len : Int → Nat)
/-- Where a key's blocks begin. -/
def kpos : List Int → Int → Nat
  | [], _ => 0
  | x :: l, k => if x = k then 0 else len x + kpos l k
/-- Whose block it is. -/
def kloc : List Int → Nat → Option (Int × Nat)
  | [], _ => none
  | x :: l, n => if n < len x then some (x, n) else kloc l (n - len x)
def ktot : List Int → Nat
  | [] => 0
  | x :: l => len x + ktot l
theorem kloc_pos : ∀ {l : List Int} {k : Int} {j : Nat}, k ∈ l → j < len k → kloc len l (kpos len l k + j) = some (k, j)
  | x :: l, k, j, h, hj => by
    rw [kpos, kloc]
    by_cases e : x = k
    · subst e; rw [if_pos rfl, Nat.zero_add, if_pos hj]
    · rw [if_neg e, if_neg (by omega), show len x + kpos len l k + j - len x = kpos len l k + j by omega]
      exact kloc_pos ((List.mem_cons.1 h).resolve_left (fun hh => e hh.symm)) hj
theorem kpos_loc : ∀ {l : List Int} {n : Nat} {k : Int} {j : Nat}, l.Nodup → kloc len l n = some (k, j) → n = kpos len l k + j ∧ j < len k ∧ k ∈ l
  | x :: l, n, k, j, hn, h => by
    rw [kloc] at h
    rw [List.nodup_cons] at hn
    by_cases e : n < len x
    · rw [if_pos e] at h
      cases h
      rw [kpos, if_pos rfl]
      exact ⟨by omega, e, by simp⟩
    · rw [if_neg e] at h
      obtain ⟨h1, h2, h3⟩ := kpos_loc hn.2 h
      have hx : x ≠ k := fun hh => hn.1 (by rw [hh]; exact h3)
      rw [kpos, if_neg hx]
      exact ⟨by omega, h2, List.mem_cons_of_mem _ h3⟩
theorem kloc_lt : ∀ {l : List Int} {n : Nat}, n < ktot len l ↔ (kloc len l n).isSome = true
  | [], n => by simp [ktot, kloc]
  | x :: l, n => by
    rw [ktot, kloc]
    by_cases e : n < len x
    · rw [if_pos e]; simp; omega
    · rw [if_neg e, ← kloc_lt (l := l)]; omega
theorem ktot_perm {l l' : List Int} (h : l.Perm l') : ktot len l = ktot len l' := by
  induction h with
  | nil => rfl
  | cons x _ ih => rw [ktot, ktot, ih]
  | swap x y l => simp only [ktot]; omega
  | trans _ _ h1 h2 => exact h1.trans h2
theorem kpos_append {l : List Int} {k : Int} (h : k ∉ l) (r : List Int) : kpos len (l ++ k :: r) k = ktot len l := by
  induction l with
  | nil => simp [kpos, ktot]
  | cons x l ih =>
    rw [List.mem_cons] at h
    rw [List.cons_append, kpos, if_neg (fun e => h (.inl e.symm)), ih (fun hh => h (.inr hh)), ktot]
theorem kpos_left {l : List Int} {k : Int} (h : k ∈ l) (r : List Int) : kpos len (l ++ r) k = kpos len l k := by
  induction l with
  | nil => simp at h
  | cons x l ih =>
    rw [List.cons_append, kpos, kpos]
    by_cases e : x = k
    · rw [if_pos e, if_pos e]
    · rw [if_neg e, if_neg e, ih ((List.mem_cons.1 h).resolve_left fun hh => e hh.symm)]
/-- The numbers of one order in the other. -/
def kren (N : Nat) (l l' : List Int) (b : Nat) : Nat :=
  if b < N then b else match kloc len l (b - N) with
    | some (k, j) => N + (kpos len l' k + j)
    | none => b
theorem kren_low {N : Nat} {l l' : List Int} {b : Nat} (h : b < N) : kren len N l l' b = b := by rw [kren, if_pos h]
theorem kren_at {N : Nat} {l l' : List Int} {k : Int} {j : Nat} (h : k ∈ l) (hj : j < len k) : kren len N l l' (N + (kpos len l k + j)) = N + (kpos len l' k + j) := by
  rw [kren, if_neg (by omega), show N + (kpos len l k + j) - N = kpos len l k + j by omega, kloc_pos len h hj]
theorem kren_inv {N : Nat} {l l' : List Int} (hp : l.Perm l') (hn : l.Nodup) (b : Nat) : kren len N l' l (kren len N l l' b) = b := by
  by_cases h : b < N
  · rw [kren_low len h, kren_low len h]
  · cases hk : kloc len l (b - N) with
    | none =>
      have e : kren len N l l' b = b := by rw [kren, if_neg h, hk]
      rw [e]
      have h1 : ¬ b - N < ktot len l := fun hh => by rw [kloc_lt, hk] at hh; cases hh
      rw [ktot_perm len hp] at h1
      cases hk' : kloc len l' (b - N) with
      | none => rw [kren, if_neg h, hk']
      | some q => exact absurd ((kloc_lt len).2 (by rw [hk']; rfl)) h1
    | some q =>
      obtain ⟨k, j⟩ := q
      obtain ⟨h1, h2, h3⟩ := kpos_loc len hn hk
      have e : b = N + (kpos len l k + j) := by omega
      rw [e, kren_at len h3 h2, kren_at len (hp.subset h3) h2]

/-- Blocks that were laid key by key, in two orders. -/
theorem alike_rows {H0 G1 G2 : Heap} {l l' : List Int} (hp : l.Perm l') (hn : l.Nodup) (hl : G1.length = H0.length) (hl2 : G2.length = H0.length) (B1 B2 : Heap) (h1 : B1.length = ktot len l) (h2 : B2.length = ktot len l')
    (hG : ∀ b, b < H0.length → G2[b]? = (G1[b]?).map (Blk.ren (kren len H0.length l l')) ∨ (G1[b]? = H0[b]? ∧ G2[b]? = H0[b]?))
    (hB : ∀ k ∈ l, ∀ j, j < len k → B2[kpos len l' k + j]? = (B1[kpos len l k + j]?).map (Blk.ren (kren len H0.length l l'))) : Alike H0 (G1 ++ B1) (G2 ++ B2) := by
  refine ⟨kren len H0.length l l', kren len H0.length l' l, kren_inv len hp hn, kren_inv len hp.symm (hp.nodup_iff.1 hn), fun b hb => kren_low len hb, ?_, fun b => ?_⟩
  · rw [List.length_append, List.length_append, h1, h2, hl, hl2, ktot_perm len hp]
  · by_cases hb : b < H0.length
    · rw [kren_low len hb, List.getElem?_append_left (by omega), List.getElem?_append_left (by omega)]
      rcases hG b hb with h | ⟨h, h'⟩
      · exact .inl h
      · exact .inr ⟨hb, h, h'⟩
    · left
      cases hk : kloc len l (b - H0.length) with
      | none =>
        have hge : ¬ b - H0.length < ktot len l := fun hh => by rw [kloc_lt, hk] at hh; cases hh
        have hge' := hge
        rw [ktot_perm len hp] at hge'
        rw [kren, if_neg hb, hk]
        simp only
        rw [List.getElem?_eq_none (by rw [List.length_append]; omega), List.getElem?_eq_none (by rw [List.length_append]; omega)]
        rfl
      | some q =>
        obtain ⟨k, j⟩ := q
        obtain ⟨g1, g2, g3⟩ := kpos_loc len hn hk
        have e : b = H0.length + (kpos len l k + j) := by omega
        rw [e, kren_at len g3 g2, List.getElem?_append_right (by omega), List.getElem?_append_right (by omega), hl, hl2, show H0.length + (kpos len l k + j) - H0.length = kpos len l k + j by omega, show H0.length + (kpos len l' k + j) - H0.length = kpos len l' k + j by omega]
        exact hB k g3 j g2
end
end Ev

namespace Ev
open Go (IntKind)

/-- How many keys there may be. -/
theorem asc_bound {α : Type} : ∀ {l : List (Int × α)} {a : Int} {n : Nat}, Asc l → (∀ x ∈ l, a ≤ x.1 ∧ x.1 < a + n) → l.length ≤ n
  | [], _, _, _, _ => Nat.zero_le _
  | x :: l, a, n, h, hb => by
    have h1 := hb x (by simp)
    have ih := asc_bound (l := l) (a := x.1 + 1) (n := (a + n - (x.1 + 1)).toNat) h.tail fun y hy => by
      have h2 := h.head hy
      have h3 := hb y (by simp [hy])
      omega
    rw [List.length_cons]
    omega

/-- The pages of a space. -/
def pgs {α : Type} (lv : List (Int × α)) (id : Int) : List (Int × α) := (lv.filter fun x => decide (x.1 / 1024 = id)).map fun x => (x.1 % 1024, x.2)
section
variable {α : Type} {lv : List (Int × α)}
theorem key_div (id p : Int) (h0 : 0 ≤ p) (h1 : p < 1024) : (id * 1024 + p) / 1024 = id ∧ (id * 1024 + p) % 1024 = p := by omega
theorem pgs_asc (h : Asc lv) (id : Int) : Asc (pgs lv id) := by
  unfold pgs Asc
  rw [List.pairwise_map]
  have h1 : (lv.filter fun x => decide (x.1 / 1024 = id)).Pairwise fun x y => x.1 < y.1 := List.Pairwise.filter _ h
  refine h1.imp_of_mem fun {x y} hx hy hlt => ?_
  have hx := (List.mem_filter.1 hx).2
  have hy := (List.mem_filter.1 hy).2
  simp only [decide_eq_true_eq] at hx hy
  show x.1 % 1024 < y.1 % 1024
  omega
theorem pgs_find (h : Asc lv) (id p : Int) : afind (pgs lv id) p = if 0 ≤ p ∧ p < 1024 then afind lv (id * 1024 + p) else none := by
  cases hf : afind (pgs lv id) p with
  | some v =>
    have := afind_mem hf
    unfold pgs at this
    obtain ⟨x, hx, he⟩ := List.mem_map.1 this
    have hx' := List.mem_filter.1 hx
    simp only [decide_eq_true_eq] at hx'
    have e1 : x.1 % 1024 = p := congrArg Prod.fst he
    have e2 : x.2 = v := congrArg Prod.snd he
    rw [if_pos (by omega)]
    have hk : x.1 = id * 1024 + p := by omega
    exact (h.find (k := id * 1024 + p) (v := v) (by rw [← hk, ← e2]; exact hx'.1)).symm
  | none =>
    by_cases hp : 0 ≤ p ∧ p < 1024
    · rw [if_pos hp]
      cases hf2 : afind lv (id * 1024 + p) with
      | none => rfl
      | some v =>
        have hm := afind_mem hf2
        have : (p, v) ∈ pgs lv id := by
          unfold pgs
          exact List.mem_map.2 ⟨(id * 1024 + p, v), List.mem_filter.2 ⟨hm, by simp; omega⟩, by show ((id * 1024 + p) % 1024, v) = (p, v); rw [(key_div id p hp.1 hp.2).2]⟩
        rw [(pgs_asc h id).find this] at hf
        cases hf
    · rw [if_neg hp]
theorem pgs_ins (h : Asc lv) (id p : Int) (v : α) (h0 : 0 ≤ p ∧ p < 1024) (id' : Int) : pgs (ains lv (id * 1024 + p) v) id' = if id' = id then ains (pgs lv id) p v else pgs lv id' := by
  by_cases e : id' = id
  · subst e
    rw [if_pos rfl]
    refine asc_ext (pgs_asc (h.ins _ _) _) ((pgs_asc h _).ins _ _) fun k => ?_
    rw [pgs_find (h.ins _ _), afind_ins h, afind_ins (pgs_asc h _), pgs_find h]
    by_cases e2 : k = p
    · subst e2; rw [if_pos h0, if_pos rfl, if_pos rfl]
    · rw [if_neg e2]
      by_cases h1 : 0 ≤ k ∧ k < 1024
      · rw [if_pos h1, if_pos h1, if_neg (by omega)]
      · rw [if_neg h1, if_neg h1]
  · rw [if_neg e]
    refine asc_ext (pgs_asc (h.ins _ _) _) (pgs_asc h _) fun k => ?_
    rw [pgs_find (h.ins _ _), afind_ins h, pgs_find h]
    by_cases h1 : 0 ≤ k ∧ k < 1024
    · rw [if_pos h1, if_pos h1, if_neg (by omega)]
    · rw [if_neg h1, if_neg h1]
theorem pgs_drop (h : Asc lv) (id p : Int) (h0 : 0 ≤ p ∧ p < 1024) (id' : Int) : pgs (adrop lv (id * 1024 + p)) id' = if id' = id then adrop (pgs lv id) p else pgs lv id' := by
  by_cases e : id' = id
  · subst e
    rw [if_pos rfl]
    refine asc_ext (pgs_asc (h.drop _) _) ((pgs_asc h _).drop _) fun k => ?_
    rw [pgs_find (h.drop _), afind_drop h, afind_drop (pgs_asc h _), pgs_find h]
    by_cases e2 : k = p
    · subst e2; rw [if_pos h0, if_pos rfl, if_pos rfl]
    · rw [if_neg e2]
      by_cases h1 : 0 ≤ k ∧ k < 1024
      · rw [if_pos h1, if_pos h1, if_neg (by omega)]
      · rw [if_neg h1, if_neg h1]
  · rw [if_neg e]
    refine asc_ext (pgs_asc (h.drop _) _) (pgs_asc h _) fun k => ?_
    rw [pgs_find (h.drop _), afind_drop h, pgs_find h]
    by_cases h1 : 0 ≤ k ∧ k < 1024
    · rw [if_pos h1, if_pos h1, if_neg (by omega)]
    · rw [if_neg h1, if_neg h1]
theorem pgs_mem {id : Int} {x : Int × α} (h : x ∈ pgs lv id) : 0 ≤ x.1 ∧ x.1 < 1024 ∧ (id * 1024 + x.1, x.2) ∈ lv := by
  unfold pgs at h
  obtain ⟨y, hy, rfl⟩ := List.mem_map.1 h
  have hy' := List.mem_filter.1 hy
  simp only [decide_eq_true_eq] at hy'
  refine ⟨by show 0 ≤ y.1 % 1024; omega, by show y.1 % 1024 < 1024; omega, ?_⟩
  have : id * 1024 + y.1 % 1024 = y.1 := by omega
  show (id * 1024 + y.1 % 1024, y.2) ∈ lv
  rw [this]; exact hy'.1
end

/-! Places. -/
def cnt (lv : List (Int × Int)) (c : Int) : Nat := (lv.filter fun x => decide (x.2 = c)).length
theorem cnt_nil (c : Int) : cnt [] c = 0 := rfl
theorem cnt_cons (x : Int × Int) (l : List (Int × Int)) (c : Int) : cnt (x :: l) c = (if x.2 = c then 1 else 0) + cnt l c := by
  unfold cnt
  rw [List.filter_cons]
  by_cases h : x.2 = c
  · rw [if_pos (decide_eq_true h), if_pos h, List.length_cons]; omega
  · rw [if_neg (by simpa using h), if_neg h]; omega
theorem cnt_drop {lv : List (Int × Int)} {k v : Int} (hv : afind lv k = some v) (c : Int) : cnt (adrop lv k) c + (if v = c then 1 else 0) = cnt lv c := by
  induction lv with
  | nil => cases hv
  | cons x l ih =>
    rw [afind] at hv
    rw [adrop]
    by_cases e : x.1 = k
    · rw [if_pos e] at hv ⊢; cases hv; rw [cnt_cons]; omega
    · rw [if_neg e] at hv ⊢; rw [cnt_cons, cnt_cons, ← ih hv]; omega
theorem cnt_pos {lv : List (Int × Int)} {k v : Int} (hv : afind lv k = some v) : 0 < cnt lv v := by
  have := cnt_drop hv v
  rw [if_pos rfl] at this
  omega

/-- How many stand at each place. -/
structure RfOK (rf lv : List (Int × Int)) : Prop where
  asc : Asc rf
  find : ∀ c, afind rf c = if cnt lv c = 0 then none else some (cnt lv c : Int)
theorem RfOK.get {rf lv : List (Int × Int)} (h : RfOK rf lv) (c : Int) : (afind rf c).getD 0 = (cnt lv c : Int) := by
  rw [h.find]
  by_cases e : cnt lv c = 0
  · rw [if_pos e, e]; rfl
  · rw [if_neg e]; rfl
theorem RfOK.nil : RfOK [] [] := ⟨Asc.nil, fun c => by rw [cnt_nil, if_pos rfl]; rfl⟩
/-- One more, one less. -/
theorem RfOK.more {rf lv lv' : List (Int × Int)} (h : RfOK rf lv) {v : Int} (hc : ∀ c, cnt lv' c = cnt lv c + (if v = c then 1 else 0)) : RfOK (ains rf v ((cnt lv v : Int) + 1)) lv' :=
  ⟨h.asc.ins _ _, fun c => by
    rw [afind_ins h.asc, hc, h.find]
    by_cases e : c = v
    · subst e; rw [if_pos rfl, if_pos rfl, if_neg (by omega)]; congr 1
    · have hv : (if v = c then 1 else 0) = 0 := if_neg fun hh => e hh.symm
      rw [if_neg e, hv]; rfl⟩
theorem RfOK.less {rf lv lv' : List (Int × Int)} (h : RfOK rf lv) {v : Int} (hc : ∀ c, cnt lv' c + (if v = c then 1 else 0) = cnt lv c) :
    RfOK (if cnt lv' v = 0 then adrop (ains rf v (cnt lv' v : Int)) v else ains rf v (cnt lv' v : Int)) lv' := by
  by_cases e0 : cnt lv' v = 0
  · rw [if_pos e0]
    refine ⟨(h.asc.ins _ _).drop _, fun c => ?_⟩
    rw [afind_drop (h.asc.ins _ _), afind_ins h.asc, h.find]
    have := hc c
    by_cases e : c = v
    · subst e; rw [if_pos rfl, if_pos e0]
    · rw [if_neg e, if_neg e]
      rw [if_neg (fun hh => e hh.symm)] at this
      rw [← this]; rfl
  · rw [if_neg e0]
    refine ⟨h.asc.ins _ _, fun c => ?_⟩
    rw [afind_ins h.asc, h.find]
    have := hc c
    by_cases e : c = v
    · subst e; rw [if_pos rfl, if_neg e0]
    · rw [if_neg e]
      rw [if_neg (fun hh => e hh.symm)] at this
      rw [← this]; rfl
/-- The table of a list. -/
def rfOf : List (Int × Int) → List (Int × Int)
  | [] => []
  | x :: l => ains (rfOf l) x.2 ((cnt l x.2 : Int) + 1)
theorem rfOf_ok : ∀ lv : List (Int × Int), RfOK (rfOf lv) lv
  | [] => RfOK.nil
  | x :: l => (rfOf_ok l).more fun c => by rw [cnt_cons]; omega

structure Sta where
  sp : List (Int × Int × Bool)
  lv : List (Int × Int)
  bd : List (Int × Unit)
  wn : List (Int × Int)

structure SaW (st : Sta) : Prop where
  sp : Asc st.sp
  lv : Asc st.lv
  bd : Asc st.bd
  wn : Asc st.wn
  own : ∀ x ∈ st.lv, (afind st.sp (x.1 / 1024)).isSome = true
  ids : ∀ x ∈ st.sp, 1 ≤ x.1 ∧ x.1 ≤ 15 ∧ x.2.1 ≤ 1024
  bds : ∀ x ∈ st.bd, 0 ≤ x.1 ∧ x.1 ≤ 31
  wns : ∀ x ∈ st.wn, 0 ≤ x.1 ∧ x.1 ≤ 31
theorem SaW.lvs {st : Sta} (w : SaW st) : ∀ x ∈ st.lv, 1024 ≤ x.1 ∧ x.1 < 1024 + 15360 := by
  intro x hx
  obtain ⟨v, hv⟩ := Option.isSome_iff_exists.1 (w.own x hx)
  have := w.ids _ (afind_mem hv)
  have h1 : 1 ≤ x.1 / 1024 ∧ x.1 / 1024 ≤ 15 := ⟨this.1, this.2.1⟩
  omega
theorem SaW.many {st : Sta} (w : SaW st) : st.lv.length ≤ 15360 := asc_bound w.lv w.lvs
theorem SaW.few {st : Sta} (w : SaW st) : st.sp.length ≤ 15 := asc_bound (a := 1) w.sp fun x hx => by have := w.ids x hx; omega
theorem SaW.pgl {st : Sta} (w : SaW st) (id : Int) : (pgs st.lv id).length ≤ 1024 := asc_bound (a := 0) (pgs_asc w.lv id) fun x hx => by have := pgs_mem hx; omega
end Ev

namespace Ev
open Go (IntKind)

theorem tl_get0 (H t : Heap) : (H ++ t)[H.length]? = t[0]? := by rw [List.getElem?_append_right (Nat.le_refl _), Nat.sub_self]
theorem tl_get1 (H t : Heap) (i : Nat) : (H ++ t)[H.length + i]? = t[i]? := by rw [List.getElem?_append_right (by omega), Nat.add_sub_cancel_left]
theorem rd_at {H G : Heap} {b c : Nat} (h : H[b]? = G[c]?) (ty : Ty) (o : Nat) : rd H ty b o = rd G ty c o := by
  cases ty with
  | one t => show (H.cell b o).bind _ = (G.cell c o).bind _; unfold Heap.cell; rw [h]
  | agg ts => show (H.row b o _).bind _ = (G.row c o _).bind _; unfold Heap.row; rw [h]
section
variable (H t : Heap) (i o : Nat) (k : IntKind)
theorem rd_t0 (ty : Ty) : rd (H ++ t) ty H.length o = rd t ty 0 o := rd_at (tl_get0 H t) ty o
theorem rd_t1 (ty : Ty) : rd (H ++ t) ty (H.length + i) o = rd t ty i o := rd_at (tl_get1 H t i) ty o
theorem rdI_t0 : rdI k (H ++ t) H.length o = rdI k t 0 o := rd_t0 H t o _
theorem rdI_t1 : rdI k (H ++ t) (H.length + i) o = rdI k t i o := rd_t1 H t i o _
theorem rdB_t0 : rdB (H ++ t) H.length o = rdB t 0 o := rd_t0 H t o _
theorem rdB_t1 : rdB (H ++ t) (H.length + i) o = rdB t i o := rd_t1 H t i o _
theorem rdM_t0 : rdM (H ++ t) H.length o = rdM t 0 o := rd_t0 H t o _
theorem rdM_t1 : rdM (H ++ t) (H.length + i) o = rdM t i o := rd_t1 H t i o _
theorem wr_t1 (new : List C) : wr (H ++ t) (H.length + i) o new = (wr t i o new).map fun t' => H ++ t' := by
  unfold wr
  rw [tl_get1]
  cases h : t[i]? with
  | none => rfl
  | some x =>
    cases x with
    | cells cs bk =>
      simp only
      cases (decide (bk ≠ .ro) && decide (o + new.length ≤ cs.length)) with
      | false => rfl
      | true =>
        simp only [cond_true, Option.map_some]
        rw [List.set_append_right _ _ (by omega), Nat.add_sub_cancel_left]
    | _ => rfl
theorem wr_t0 (new : List C) : wr (H ++ t) H.length o new = (wr t 0 o new).map fun t' => H ++ t' := wr_t1 H t 0 o new
end
section
variable (x : Blk) (t : Heap) (i o : Nat) (k : IntKind) (cs : List C) (bk : BK)
theorem rd_c1 (ty : Ty) : rd (x :: t) ty (i + 1) o = rd t ty i o := rd_at List.getElem?_cons_succ ty o
theorem rdI_c1 : rdI k (x :: t) (i + 1) o = rdI k t i o := rd_c1 x t i o _
theorem rdB_c1 : rdB (x :: t) (i + 1) o = rdB t i o := rd_c1 x t i o _
theorem rdM_c1 : rdM (x :: t) (i + 1) o = rdM t i o := rd_c1 x t i o _
theorem rdI_c0 : rdI k (.cells cs bk :: t) 0 o = (cs[o]?).bind (CT.un (.int k)) := rfl
theorem rdB_c0 : rdB (.cells cs bk :: t) 0 o = (cs[o]?).bind (CT.un .bool) := rfl
theorem rdM_c0 : rdM (.cells cs bk :: t) 0 o = (cs[o]?).bind (CT.un .mp) := rfl
theorem wr_c1 (new : List C) : wr (x :: t) (i + 1) o new = (wr t i o new).map fun t' => x :: t' := by
  have := wr_t1 [x] t i o new
  rw [show [x].length + i = i + 1 from Nat.add_comm _ _] at this
  exact this
theorem wr_c0 (new : List C) (h : o + new.length ≤ cs.length) : wr (.cells cs .exact :: t) 0 o new = some (.cells (setL cs o new) .exact :: t) := by
  unfold wr
  simp only [List.getElem?_cons_zero]
  rw [decide_eq_true h]; rfl
theorem un_i (n : Int) : CT.un (.int .i64) (.int .i64 n) = some n := rfl
theorem un_b (n : Bool) : CT.un .bool (.bool n) = some n := rfl
theorem un_m (n : Option Nat) : CT.un .mp (.mp n) = some n := rfl
theorem un_s (n : Bytes) : CT.un .str (.str n) = some n := rfl
theorem un_sl1 (n : Sl) : CT.un (.sl 1) (.sl 1 n) = some n := rfl
theorem un_sl2 (n : Sl) : CT.un (.sl 2) (.sl 2 n) = some n := rfl
theorem un_sl3 (n : Sl) : CT.un (.sl 3) (.sl 3 n) = some n := rfl
end
theorem rd_iiib (t : Heap) (bk : BK) (x0 : Int) (x1 : Int) (x2 : Int) (x3 : Bool) : rd (.cells [.int .i64 x0, .int .i64 x1, .int .i64 x2, .bool x3] bk :: t) (.agg [.int .i64, .int .i64, .int .i64, .bool]) 0 0 = (some (x0, x1, x2, x3, ()) : Option (Int × Int × Int × Bool × Unit)) := rfl
theorem rd_iiiiii (t : Heap) (bk : BK) (x0 : Int) (x1 : Int) (x2 : Int) (x3 : Int) (x4 : Int) (x5 : Int) : rd (.cells [.int .i64 x0, .int .i64 x1, .int .i64 x2, .int .i64 x3, .int .i64 x4, .int .i64 x5] bk :: t) (.agg [.int .i64, .int .i64, .int .i64, .int .i64, .int .i64, .int .i64]) 0 0 = (some (x0, x1, x2, x3, x4, x5, ()) : Option (Int × Int × Int × Int × Int × Int × Unit)) := rfl
theorem rd_ibm (t : Heap) (bk : BK) (x0 : Int) (x1 : Bool) (x2 : Option Nat) : rd (.cells [.int .i64 x0, .bool x1, .mp x2] bk :: t) (.agg [.int .i64, .bool, .mp]) 0 0 = (some (x0, x1, x2, ()) : Option (Int × Bool × Option Nat × Unit)) := rfl
theorem rd_iii (t : Heap) (bk : BK) (x0 : Int) (x1 : Int) (x2 : Int) : rd (.cells [.int .i64 x0, .int .i64 x1, .int .i64 x2] bk :: t) (.agg [.int .i64, .int .i64, .int .i64]) 0 0 = (some (x0, x1, x2, ()) : Option (Int × Int × Int × Unit)) := rfl
theorem rd_iib (t : Heap) (bk : BK) (x0 : Int) (x1 : Int) (x2 : Bool) : rd (.cells [.int .i64 x0, .int .i64 x1, .bool x2] bk :: t) (.agg [.int .i64, .int .i64, .bool]) 0 0 = (some (x0, x1, x2, ()) : Option (Int × Int × Bool × Unit)) := rfl
theorem rd_ii (t : Heap) (bk : BK) (x0 : Int) (x1 : Int) : rd (.cells [.int .i64 x0, .int .i64 x1] bk :: t) (.agg [.int .i64, .int .i64]) 0 0 = (some (x0, x1, ()) : Option (Int × Int × Unit)) := rfl
theorem rd_3312 (t : Heap) (bk : BK) (x0 : Sl) (x1 : Sl) (x2 : Sl) (x3 : Sl) : rd (.cells [.sl 3 x0, .sl 3 x1, .sl 1 x2, .sl 2 x3] bk :: t) (.agg [.sl 3, .sl 3, .sl 1, .sl 2]) 0 0 = (some (x0, x1, x2, x3, ()) : Option (Sl × Sl × Sl × Sl × Unit)) := rfl
theorem rd_iiii (t : Heap) (bk : BK) (x0 : Int) (x1 : Int) (x2 : Int) (x3 : Int) : rd (.cells [.int .i64 x0, .int .i64 x1, .int .i64 x2, .int .i64 x3] bk :: t) (.agg [.int .i64, .int .i64, .int .i64, .int .i64]) 0 0 = (some (x0, x1, x2, x3, ()) : Option (Int × Int × Int × Int × Unit)) := rfl
theorem rd_si (t : Heap) (bk : BK) (x0 : Bytes) (x1 : Int) : rd (.cells [.str x0, .int .i64 x1] bk :: t) (.agg [.str, .int .i64]) 0 0 = (some (x0, x1, ()) : Option (Bytes × Int × Unit)) := rfl
theorem rd_33121 (t : Heap) (bk : BK) (x0 : Sl) (x1 : Sl) (x2 : Sl) (x3 : Sl) (x4 : Sl) : rd (.cells [.sl 3 x0, .sl 3 x1, .sl 1 x2, .sl 2 x3, .sl 1 x4] bk :: t) (.agg [.sl 3, .sl 3, .sl 1, .sl 2, .sl 1]) 0 0 = (some (x0, x1, x2, x3, x4, ()) : Option (Sl × Sl × Sl × Sl × Sl × Unit)) := rfl
theorem rd_33121i (t : Heap) (bk : BK) (x0 : Sl) (x1 : Sl) (x2 : Sl) (x3 : Sl) (x4 : Sl) (x5 : Int) : rd (.cells [.sl 3 x0, .sl 3 x1, .sl 1 x2, .sl 2 x3, .sl 1 x4, .int .i64 x5] bk :: t) (.agg [.sl 3, .sl 3, .sl 1, .sl 2, .sl 1, .int .i64]) 0 0 = (some (x0, x1, x2, x3, x4, x5, ()) : Option (Sl × Sl × Sl × Sl × Sl × Int × Unit)) := rfl
theorem Keep.app (F : Nat → Prop) (H t : Heap) : Keep F H (H ++ t) := ⟨by simp, fun _ hk _ => List.getElem?_append_left hk⟩
theorem slRow_t1 (H t : Heap) (es i o n c : Nat) : slRow (H ++ t) es ⟨some (H.length + i, o), n, c⟩ = slRow t es ⟨some (i, o), n, c⟩ := by
  simp only [slRow, Heap.row, tl_get1]
theorem slRow_t0 (H t : Heap) (es o n c : Nat) : slRow (H ++ t) es ⟨some (H.length, o), n, c⟩ = slRow t es ⟨some (0, o), n, c⟩ := slRow_t1 H t es 0 o n c
theorem sl_c1 (x : Blk) (t : Heap) (es i o n c : Nat) : slRow (x :: t) es ⟨some (i + 1, o), n, c⟩ = slRow t es ⟨some (i, o), n, c⟩ := rfl
theorem sl_c0 (t : Heap) (cs : List C) (bk : BK) {es : Nat} (h : es = cs.length) : slRow (.cells cs bk :: t) es ⟨some (0, 0), 1, 1⟩ = some cs := by
  show cut cs 0 (1 * es) = some cs
  exact cut_all (by omega)
end Ev

namespace Ev
open Go (IntKind)

theorem Keep.trans2 {F G : Nat → Prop} {A B D : Heap} (h : Keep F A B) (k : Keep G B D) (hg : ∀ b, b < A.length → G b → F b) : Keep F A D :=
  ⟨Nat.le_trans h.len k.len, fun j hj hf => (k.same j (Nat.lt_of_lt_of_le hj h.len) fun g => hf (hg j hj g)).trans (h.same j hj hf)⟩
/-- What has come of s0 in H: only its own block may have changed. -/
structure Em (H : Heap) (s0 : Sl) (es : Nat) (G : Heap) (s : Sl) (cs : List C) : Prop where
  g : Grown G es s cs
  k : Keep (fun b => ∃ o, s0.p = some (b, o)) H G
  o : ∀ a, s.p = some a → H.length ≤ a.1 ∨ ∃ o, s0.p = some (a.1, o)
section
variable {H : Heap} {s0 : Sl} {es : Nat} {G : Heap} {s : Sl} {cs : List C}
theorem Em.start (h : Grown H es s0 cs) : Em H s0 es H s0 cs := ⟨h, Keep.refl _ _, fun a ha => .inr ⟨a.2, ha⟩⟩
theorem Em.keep (h : Em H s0 es G s cs) {F : Nat → Prop} {G' : Heap} (k : Keep F G G') (hF : ∀ b, F b → H.length ≤ b ∧ ∀ o, s.p ≠ some (b, o)) : Em H s0 es G' s cs :=
  ⟨h.g.mono fun a ha => k.same _ (h.g.lt ha) fun hf => (hF _ hf).2 a.2 ha, h.k.trans2 k fun b hb hf => absurd (hF b hf).1 (by omega), h.o⟩
theorem Em.push (h : Em H s0 es G s cs) (t : Heap) : Em H s0 es (G ++ t) s cs := h.keep (Keep.app (fun _ => False) G t) fun _ hf => hf.elim
theorem grownH_keep (G : Heap) (s : Sl) (cs : List C) : Keep (fun b => ∃ o, s.p = some (b, o)) G (grownH G s cs) :=
  ⟨by rw [grownH_length]; omega, fun _ hk hf => grownH_get hk fun a ha e => hf ⟨a.2, by rw [ha, ← e]⟩⟩
theorem Em.app (h : Em H s0 es G s cs) (hes : 0 < es) {new : List C} (hnew : new.length = es) {bytes : Nat} (hb : (s.len + 1) * bytes ≤ 35184372088832) (hb2 : s.len + 1 ≤ 35184372088832) :
    ∃ s' G', appS G es bytes s 1 new = some (s', G') ∧ Em H s0 es G' s' (cs ++ new) ∧ s'.len = s.len + 1 ∧ Keep (fun b => ∃ o, s.p = some (b, o)) G G' ∧ ∀ a, s'.p = some a → a.1 = G.length := by
  obtain ⟨h1, h2⟩ := h.g.app hes (n := 1) Nat.one_pos (by omega) hb hb2 (new := new)
  refine ⟨_, _, h1, ⟨h2, h.k.trans2 (grownH_keep _ _ _) fun b hb => ?_, fun a ha => ?_⟩, rfl, grownH_keep _ _ _, fun a ha => by cases ha; rfl⟩
  · rintro ⟨o, ho⟩
    rcases h.o _ ho with hh | hh
    · exact absurd hh (by simp only; omega)
    · exact hh
  · cases ha
    exact .inl h.k.len
theorem Em.calm (h : Em H s0 es G s cs) (h0 : s0.p = none) : Keep (fun _ => False) H G := h.k.mono fun b ⟨o, ho⟩ => by rw [h0] at ho; cases ho
theorem Em.then {G' : Heap} {s' : Sl} {cs' : List C} (h : Em H s0 es G s cs) (h' : Em G s es G' s' cs') : Em H s0 es G' s' cs' :=
  ⟨h'.g, h.k.trans2 h'.k fun b hb ⟨o, ho⟩ => (h.o _ ho).elim (fun hh => absurd hh (by simp only; omega)) id, fun a ha => (h'.o a ha).elim (fun hh => .inl (Nat.le_trans h.k.len hh)) fun ⟨o, ho⟩ => h.o (a.1, o) ho⟩
theorem Em.get (h : Em H s0 es G s cs) {b : Nat} {x : Blk} (hb : H[b]? = some x) (h0 : ∀ o, s0.p ≠ some (b, o)) : G[b]? = some x := h.k.get hb fun ⟨o, ho⟩ => h0 o ho
theorem Em.row (h : Em H s0 es G s cs) {es' : Nat} {s' : Sl} {row : List C} (hr : Row H es' s' row) (h0 : ∀ b o o', s'.p = some (b, o) → s0.p ≠ some (b, o')) : Row G es' s' row := hr.keep h.k fun b o hp ⟨o', ho'⟩ => h0 b o o' hp ho'
end
theorem take_snoc {α : Type} {l : List α} {i : Nat} (h : i < l.length) : l.take (i + 1) = l.take i ++ [l[i]] := by
  rw [List.take_succ_eq_append_getElem h]
theorem bind_to {α β : Type} {x : Option α} {v : α} (h : x = some v) {f : α → Option β} : x.bind f = f v := by rw [h]; rfl
theorem ptrs_of : ∀ (n : Nat) (x : Ptrs n), Ptrs.of n (Ptrs.list n x) = some x
  | 0, () => rfl
  | n + 1, (p, x) => by
    show (Ptrs.of n (Ptrs.list n x)).bind _ = _
    rw [ptrs_of n x]; rfl
theorem un_of (t : CT) (x : t.T) : t.un (t.mk x) = some x := by
  cases t with
  | int k =>
    show (bif decide (k = k) then some x else none) = _
    rw [decide_eq_true rfl]; rfl
  | sl es =>
    show (bif decide (es = es) then some x else none) = _
    rw [decide_eq_true rfl]; rfl
  | fn g =>
    show (bif decide (g = g) then some () else none) = _
    rw [decide_eq_true rfl]; rfl
  | clo g n =>
    show (bif decide (g = g) then Ptrs.of n (Ptrs.list n x) else none) = _
    rw [decide_eq_true rfl]; exact ptrs_of n x
  | _ => rfl
theorem tup_un_of : ∀ (ts : List CT) (x : Tup ts), Tup.un ts (Tup.mk ts x) = some x
  | [], () => rfl
  | t :: r, (y, x) => by
    show (t.un (t.mk y)).bind _ = _
    rw [un_of]
    show (Tup.un r (Tup.mk r x)).bind _ = _
    rw [tup_un_of r x]; rfl
/-- One of a row of structs. -/
theorem Row.rd {H : Heap} {cts : List CT} {s : Sl} {rows : List (Tup cts)} (h : Row H cts.length s (rowsOf cts rows)) {i : Nat} (hi : i < rows.length) (hpos : 0 < cts.length) : ∃ b o, Sl.at cts.length s (i : Int) = some (b, o) ∧ rd H (.agg cts) b o = some rows[i] ∧ (∃ o', s.p = some (b, o')) ∧ ∃ cs bk, H[b]? = some (.cells cs bk) ∧ o + cts.length ≤ cs.length ∧ (cs.drop o).take cts.length = Tup.mk cts rows[i] := by
  obtain ⟨b, o, _, h1, h2, cs, bk, h3, h4, h5⟩ := h.at hi hpos
  exact ⟨b, o, h1, rd_agg_of h3 h4 (by rw [h5]; exact tup_un_of _ _), h2, cs, bk, h3, h4, h5⟩
end Ev

namespace Ev
open Go (IntKind)

def WP {α : Type} (x : Option α) (Q : α → Prop) : Prop := ∃ v, x = some v ∧ Q v
section
variable {α β : Type} {x : Option α} {f : α → Option β} {Q : β → Prop} {P : α → Prop}
theorem wp_some {Q : α → Prop} {v : α} (h : Q v) : WP (some v) Q := ⟨v, rfl, h⟩
theorem wp_bind (h : WP x fun v => WP (f v) Q) : WP (x.bind f) Q := by obtain ⟨v, rfl, h⟩ := h; exact h
theorem wp_seq (P : α → Prop) (h : WP x P) (k : ∀ v, P v → WP (f v) Q) : WP (x.bind f) Q := by obtain ⟨v, rfl, h⟩ := h; exact k v h
theorem wp_to {v : α} (h : x = some v) (k : WP (f v) Q) : WP (x.bind f) Q := by rw [h]; exact k
theorem wp_mono {Q' : α → Prop} (h : WP x P) (k : ∀ v, P v → Q' v) : WP x Q' := by obtain ⟨v, h1, h2⟩ := h; exact ⟨v, h1, k v h2⟩
theorem wp_t {c : Bool} {a b : Option α} (h : c = true) (k : WP a P) : WP (cond c a b) P := by rw [h]; exact k
theorem wp_f {c : Bool} {a b : Option α} (h : c = false) (k : WP b P) : WP (cond c a b) P := by rw [h]; exact k
theorem wp_c {c : Bool} {a b : Option α} (h : c = true → WP a P) (k : c = false → WP b P) : WP (cond c a b) P := by
  cases c with
  | true => exact h rfl
  | false => exact k rfl
/-- Either way. -/
theorem wp_if {c : Bool} {p : Prop} [Decidable p] {a b : Option α} (e : c = decide p) (h : p → WP a P) (k : ¬ p → WP b P) : WP (cond c a b) P := by
  rw [e]
  by_cases hp : p
  · rw [decide_eq_true hp]; exact h hp
  · rw [decide_eq_false hp]; exact k hp
theorem wp_ite {α : Type} {p : Prop} [Decidable p] {a b : Option α} {Q : α → Prop} (h : p) (k : WP a Q) : WP (if p then a else b) Q := by rw [if_pos h]; exact k
end
section
variable {S X : Type} {step : S → Heap → Option ((S ⊕ X) × Heap)}
theorem wp_rise (n : Nat) (I : Nat → S → Heap → Prop) (P : X → Heap → Prop) (hs : ∀ i y G, i < n → I i y G → WP (step y G) fun r => Sum.elim (fun y' => I (i + 1) y' r.2) (fun x => P x r.2) r.1)
    (he : ∀ y G, I n y G → WP (step y G) fun r => Sum.elim (fun _ => False) (fun x => P x r.2) r.1) {y : S} {H : Heap} (h0 : I 0 y H) : WP (loopW step y H) fun r => P r.1 r.2 := by
  obtain ⟨x, G, g1, g2⟩ := loop_rise (step := step) n I P (fun i y G hi hI => by
      obtain ⟨⟨r, G'⟩, e1, e2⟩ := hs i y G hi hI
      cases r with
      | inl y' => exact .inl ⟨y', G', e1, e2⟩
      | inr x => exact .inr ⟨x, G', e1, e2⟩)
    (fun y G hI => by
      obtain ⟨⟨r, G'⟩, e1, e2⟩ := he y G hI
      cases r with
      | inl y' => exact e2.elim
      | inr x => exact ⟨x, G', e1, e2⟩) h0
  exact ⟨(x, G), g1, g2⟩
end
section
variable {H : Heap} {s0 : Sl} {es : Nat} {G : Heap} {s : Sl} {cs : List C}
/-- A row that was just laid is put behind a slice. -/
theorem wp_app {β : Type} {f : Sl × Heap → Option β} {Q : β → Prop} (hE : Em H s0 es G s cs) {new : List C} (hnew : es = new.length) (hes : 0 < es) {bytes : Nat} (hb : (s.len + 1) * bytes ≤ 35184372088832 ∧ s.len + 1 ≤ 35184372088832)
    (k : ∀ s' G', Em H s0 es G' s' (cs ++ new) → s'.len = s.len + 1 → WP (f (s', G')) Q) :
    WP ((slRow (G ++ [.cells new .exact]) es ⟨some (G.length, 0), 1, 1⟩).bind fun c => (appS (G ++ [.cells new .exact]) es bytes s 1 c).bind f) Q := by
  obtain ⟨s', G', e1, e2, e3, _⟩ := (hE.push [.cells new .exact]).app hes hnew.symm hb.1 hb.2
  have h1 : slRow (G ++ [.cells new .exact]) es ⟨some (G.length, 0), 1, 1⟩ = some new := by
    rw [slRow_t0]; exact sl_c0 [] new .exact hnew
  exact wp_to h1 (wp_to e1 (k s' G' e2 e3))
end
end Ev

namespace Ev
open Go (IntKind)

abbrev RecT := Int × Int × Int × Int × Int × Int × Unit
def recB (x : RecT) : Blk := .cells [.int .i64 x.1, .int .i64 x.2.1, .int .i64 x.2.2.1, .int .i64 x.2.2.2.1, .int .i64 x.2.2.2.2.1, .int .i64 x.2.2.2.2.2.1] .exact
def inB (n lo hi : Int) : Bool := decide (lo ≤ n ∧ n ≤ hi)
def inAll : List Int → List Int → List Int → Bool
  | v :: vs, l :: ls, m :: ms => inB v l m && inAll vs ls ms
  | _, _, _ => true
def chkR (x : RecT) : Bool :=
  if x.1 = 1 then inAll [x.2.1, x.2.2.1, x.2.2.2.1] [1, 0, 0] [15, 1023, 511] && decide (x.2.2.2.2.1 = 0 ∧ x.2.2.2.2.2.1 = 0) else
  if x.1 = 2 then inAll [x.2.1, x.2.2.1] [1, 0] [15, 1023] && decide (x.2.2.2.1 = 0 ∧ x.2.2.2.2.1 = 0 ∧ x.2.2.2.2.2.1 = 0) else
  if x.1 = 3 then inAll [x.2.2.2.1, x.2.2.2.2.1] [0, 0] [511, 511] && decide (x.2.1 = 0 ∧ x.2.2.1 = 0 ∧ x.2.2.2.2.2.1 = 0) else
  if x.1 = 4 then inAll [x.2.1, x.2.2.2.2.2.1] [1, 1] [15, 1024] && decide (x.2.2.1 = 0 ∧ x.2.2.2.1 = 0 ∧ x.2.2.2.2.1 = 0) else
  if x.1 = 5 ∨ x.1 = 7 then inAll [x.2.1] [1] [15] && decide (x.2.2.1 = 0 ∧ x.2.2.2.1 = 0 ∧ x.2.2.2.2.1 = 0 ∧ x.2.2.2.2.2.1 = 0) else
  if x.1 = 6 then inAll [x.2.1, x.2.2.2.2.1] [1, 1] [15, 15] && decide (x.2.2.1 = 0 ∧ x.2.2.2.1 = 0 ∧ x.2.2.2.2.2.1 = 0) else
  if x.1 = 8 then inAll [x.2.2.2.1] [0] [31] && decide (x.2.1 = 0 ∧ x.2.2.1 = 0 ∧ x.2.2.2.2.1 = 0 ∧ x.2.2.2.2.2.1 = 0) else
  if x.1 = 9 then inAll [x.2.2.2.1, x.2.2.2.2.2.1] [0, 0] [31, 1073741824] && decide (x.2.1 = 0 ∧ x.2.2.1 = 0 ∧ x.2.2.2.2.1 = 0) else false

theorem inAll_iff : ∀ {vs ls ms : List Int}, ls.length = vs.length → ms.length = vs.length → (inAll vs ls ms = true ↔ ∀ i (h : i < vs.length) (h1 : i < ls.length) (h2 : i < ms.length), ls[i] ≤ vs[i] ∧ vs[i] ≤ ms[i])
  | [], [], [], _, _ => by simp [inAll]
  | v :: vs, l :: ls, m :: ms, h1, h2 => by
    have ih := inAll_iff (vs := vs) (ls := ls) (ms := ms) (by simpa using h1) (by simpa using h2)
    simp only [inAll, Bool.and_eq_true, ih, inB, decide_eq_true_eq]
    constructor
    · rintro ⟨a, b⟩ i hi hi1 hi2
      cases i with
      | zero => exact a
      | succ i => exact b i (by simpa using hi) (by simpa using hi1) (by simpa using hi2)
    · intro h
      exact ⟨h 0 (by simp) (by simp) (by simp), fun i a b c => h (i + 1) (by simpa using a) (by simpa using b) (by simpa using c)⟩
  | [], _ :: _, _, h, _ => by simp at h
  | [], [], _ :: _, _, h => by simp at h
  | _ :: _, [], _, h, _ => by simp at h
  | _ :: _, _ :: _, [], _, h => by simp at h

def i64B (l : List Int) : Blk := .cells (l.map (C.int .i64)) .exact
/-! The reference's. -/
theorem ds (a : Int) : decide (a = a) = true := decide_eq_true rfl

/-! The program's. -/
def ptrB (l : List Nat) : Blk := .cells (l.map fun o => C.ptr (some (0, o))) .exact
def zeros (vs : List Int) : List Int := vs.map fun _ => 0
theorem check_loop {x : RecT} {l : List Nat} {vs ms : List Int} (hl : l.length = vs.length) (hm : ms.length = vs.length) (hv : vs.length ≤ 3) (hf : ∀ i (h : i < vs.length), rdI .i64 [recB x] 0 (l[i]'(by omega)) = some vs[i]) (G0 : Heap) :
    loopW (rec_Check.s1 ((⟨some (1, 0), vs.length, vs.length⟩, ⟨some (2, 0), vs.length, vs.length⟩, ()), G0)) (0, ()) [recB x, ptrB l, i64B ms] = some (if inAll vs (zeros vs) ms then .inl () else .inr (false, ()), [recB x, ptrB l, i64B ms]) := by
  have hz : (zeros vs).length = vs.length := by simp [zeros]
  have hiff := inAll_iff hz hm
  obtain ⟨w, G, l1, rfl, rfl⟩ := loop_rise (step := rec_Check.s1 ((⟨some (1, 0), vs.length, vs.length⟩, ⟨some (2, 0), vs.length, vs.length⟩, ()), G0)) vs.length
    (fun i z G => z = ((i : Int), ()) ∧ G = [recB x, ptrB l, i64B ms] ∧ ∀ j (h : j < i) (h0 : j < vs.length) (h2 : j < ms.length), 0 ≤ vs[j] ∧ vs[j] ≤ ms[j])
    (fun w G => w = (if inAll vs (zeros vs) ms then .inl () else .inr (false, ())) ∧ G = [recB x, ptrB l, i64B ms])
    (by
      rintro i _ _ hi ⟨rfl, rfl, hj⟩
      have hat : ∀ c, Sl.at 1 ⟨some (c, 0), vs.length, vs.length⟩ (i : Int) = some (c, i) := fun c => by rw [at_of (by omega) (by show (i : Int) < (vs.length : Int); omega), Int.toNat_natCast, Nat.mul_one, Nat.zero_add]
      have g1 : rdP [recB x, ptrB l, i64B ms] 1 i = some (some (0, l[i]'(by omega))) := rdP_of (H := [recB x, ptrB l, i64B ms]) (b := 1) rfl (by simp [hl, hi])
      have g2 : rdI .i64 [recB x, ptrB l, i64B ms] 0 (l[i]'(by omega)) = some vs[i] := hf i hi
      have g3 : rdI .i64 [recB x, ptrB l, i64B ms] 2 i = some (ms[i]'(by omega)) := rdI_of (H := [recB x, ptrB l, i64B ms]) (b := 2) rfl (by simp [hm, hi])
      have hin : rec_in vs[i] 0 (ms[i]'(by omega)) = some (inB vs[i] 0 (ms[i]'(by omega)), ()) := by
        unfold rec_in rec_in.on inB
        by_cases c1 : (0 : Int) ≤ vs[i]
        · rw [decide_eq_true c1, cond_t]; simp [c1]
        · rw [decide_eq_false c1, cond_f]; simp [c1]
      by_cases c : 0 ≤ vs[i] ∧ vs[i] ≤ ms[i]'(by omega)
      · refine .inl ⟨_, [recB x, ptrB l, i64B ms], ?_, rfl, rfl, fun j h h0 h2 => ?_⟩
        · unfold rec_Check.s1
          simp only [decide_eq_true (show (i : Int) < (vs.length : Int) by omega), cond_t, hat, bind_some, g1, g2, g3, hin, inB, decide_eq_true c, Bool.not_true, cond_f, wrap_succ (show i < 9223372036854775807 by omega)]
        · by_cases e : j = i
          · subst e; exact c
          · exact hj j (by omega) h0 h2
      · have hno : inAll vs (zeros vs) ms = false := by
          cases hb : inAll vs (zeros vs) ms with
          | false => rfl
          | true =>
            have := hiff.1 hb i hi (by omega) (by omega)
            simp only [zeros, List.getElem_map] at this
            exact absurd this c
        refine .inr ⟨.inr (false, ()), [recB x, ptrB l, i64B ms], ?_, by rw [hno]; rfl, rfl⟩
        unfold rec_Check.s1
        simp only [decide_eq_true (show (i : Int) < (vs.length : Int) by omega), cond_t, hat, bind_some, g1, g2, g3, hin, inB, decide_eq_false c, Bool.not_false])
    (by
      rintro _ _ ⟨rfl, rfl, hj⟩
      refine ⟨.inl (), [recB x, ptrB l, i64B ms], ?_, by rw [hiff.2 fun j h h1 h2 => by simpa [zeros] using hj j h h h2]; rfl, rfl⟩
      unfold rec_Check.s1
      simp only [decide_eq_false (show ¬ (vs.length : Int) < (vs.length : Int) by omega), cond_f])
    (y := (((0 : Nat) : Int), ())) (H := [recB x, ptrB l, i64B ms]) ⟨rfl, rfl, fun j h => absurd h (Nat.not_lt_zero _)⟩
  exact l1

theorem check2_of {x y : RecT} {l : List Nat} {vs ms : List Int} (hl : l.length = vs.length) (hm : ms.length = vs.length) (hv : vs.length ≤ 3) (hv0 : 0 < vs.length) (hf : ∀ i (h : i < vs.length), rdI .i64 [recB x] 0 (l[i]'(by omega)) = some vs[i])
    (hr : rec_fields (some (0, 0)) [recB x] = some ((⟨some (1, 0), vs.length, vs.length⟩, ⟨some (2, 0), vs.length, vs.length⟩, ()), [recB x, ptrB l, i64B ms]))
    (hy : loopW (rec_Check.s2 ((⟨some (1, 0), vs.length, vs.length⟩, ⟨some (2, 0), vs.length, vs.length⟩, ()), [recB x, ptrB l, i64B ms])) (0, ()) [recB x, ptrB l, i64B ms] = some ((), [recB y, ptrB l, i64B ms])) (hy1 : y.1 = x.1) :
    rec_Check x = some (inAll vs (zeros vs) ms && ((decide (8 ≤ x.1 ∨ x.1 = 3 ∨ 1 ≤ x.2.1) && !decide (x.1 = 4 ∧ x.2.2.2.2.2.1 < 1) && !decide (x.1 = 6 ∧ x.2.2.2.2.1 < 1)) && (decide (y.2.1 = 0) && (decide (y.2.2.1 = 0) && (decide (y.2.2.2.1 = 0) && (decide (y.2.2.2.2.1 = 0) && (decide (y.2.2.2.2.2.1 = 0) && true)))))), ()) := by
  unfold rec_Check rec_Check.on
  have q1 : ([] : Heap) ++ [Blk.cells [.int .i64 x.1, .int .i64 x.2.1, .int .i64 x.2.2.1, .int .i64 x.2.2.2.1, .int .i64 x.2.2.2.2.1, .int .i64 x.2.2.2.2.2.1] .exact] = [recB x] := rfl
  have hr' : rec_fields (some (([] : Heap).length, 0)) [recB x] = some ((⟨some (1, 0), vs.length, vs.length⟩, ⟨some (2, 0), vs.length, vs.length⟩, ()), [recB x, ptrB l, i64B ms]) := hr
  have c0 : rdI .i64 [recB x, ptrB l, i64B ms] 0 0 = some x.1 := rfl
  have c1 : rdI .i64 [recB x, ptrB l, i64B ms] 0 1 = some x.2.1 := rfl
  have c4 : rdI .i64 [recB x, ptrB l, i64B ms] 0 4 = some x.2.2.2.2.1 := rfl
  have c5 : rdI .i64 [recB x, ptrB l, i64B ms] 0 5 = some x.2.2.2.2.2.1 := rfl
  have d0 : rdI .i64 [recB y, ptrB l, i64B ms] 0 0 = some y.1 := rfl
  have d1 : @Eq (Option RecT) (rd [recB y, ptrB l, i64B ms] (.agg [.int .i64, .int .i64, .int .i64, .int .i64, .int .i64, .int .i64]) 0 0) (some y) := rfl
  simp only [q1, hr', bind_some, check_loop hl hm hv hf]
  cases inAll vs (zeros vs) ms with
  | false => rfl
  | true =>
    simp only [List.length_nil, if_true, Sum.elim_inl, c0, c1, c4, c5, bind_some, Option.isNone_some, cond_f]
    have fin : (loopW (rec_Check.s2 ((⟨some (1, 0), vs.length, vs.length⟩, ⟨some (2, 0), vs.length, vs.length⟩, ()), [recB x, ptrB l, i64B ms])) (0, ()) [recB x, ptrB l, i64B ms]) = some ((), [recB y, ptrB l, i64B ms]) := hy
    by_cases e8 : 8 ≤ x.1
    · have n4 : ¬ x.1 = 4 := by omega
      have n6 : ¬ x.1 = 6 := by omega
      simp [c0, c1, c4, c5, hy1, e8, n4, n6, fin, d0, d1, cond_t, cond_f, bind_some]
    · by_cases e3 : x.1 = 3
      · have n4 : ¬ x.1 = 4 := by omega
        have n6 : ¬ x.1 = 6 := by omega
        simp [c0, c1, c4, c5, hy1, e8, e3, n4, n6, fin, d0, d1, cond_t, cond_f, bind_some]
      · by_cases e1 : 1 ≤ x.2.1
        · by_cases e4 : x.1 = 4
          · have n6 : ¬ x.1 = 6 := by omega
            by_cases e5 : x.2.2.2.2.2.1 < 1
            · simp [c0, c1, c4, c5, hy1, e8, e3, e1, e4, e5, cond_t, cond_f, bind_some]
            · simp [c0, c1, c4, c5, hy1, e8, e3, e1, e4, e5, n6, fin, d0, d1, cond_t, cond_f, bind_some]
          · by_cases e6 : x.1 = 6
            · by_cases e5 : x.2.2.2.2.1 < 1
              · simp [c0, c1, c4, c5, hy1, e8, e3, e1, e4, e5, e6, cond_t, cond_f, bind_some]
              · simp [c0, c1, c4, c5, hy1, e8, e3, e1, e4, e5, e6, fin, d0, d1, cond_t, cond_f, bind_some]
            · simp [c0, c1, c4, c5, hy1, e8, e3, e1, e4, e6, fin, d0, d1, cond_t, cond_f, bind_some]
        · simp [c0, c1, c4, c5, hy1, e8, e3, e1, cond_t, cond_f, bind_some]

set_option maxHeartbeats 1000000 in
theorem rec_check_eq (x : RecT) : rec_Check x = some (chkR x, ()) := by
  obtain ⟨k, a, b, c, d, e, u⟩ := x
  unfold chkR
  simp only
  by_cases h1 : k = 1
  · subst h1
    rw [check2_of (x := (1, a, b, c, d, e, u)) (y := (1, 0, 0, 0, d, e, u)) (l := [1, 2, 3]) (vs := [a, b, c]) (ms := [15, 1023, 511]) rfl rfl (by simp) (by simp) (fun i hi => by match i, hi with | 0, _ => rfl | 1, _ => rfl | 2, _ => rfl) rfl (loopW_eq (n := 4) rfl) rfl]
    simp [inAll, inB, zeros]
    by_cases e1 : 1 ≤ a
    · have e0 : 0 ≤ a := by omega
      simp [e1, e0, Bool.and_assoc]
    · simp [e1]
  rw [if_neg h1]
  by_cases h2 : k = 2
  · subst h2
    rw [check2_of (x := (2, a, b, c, d, e, u)) (y := (2, 0, 0, c, d, e, u)) (l := [1, 2]) (vs := [a, b]) (ms := [15, 1023]) rfl rfl (by simp) (by simp) (fun i hi => by match i, hi with | 0, _ => rfl | 1, _ => rfl) rfl (loopW_eq (n := 4) rfl) rfl]
    simp [inAll, inB, zeros]
    by_cases e1 : 1 ≤ a
    · have e0 : 0 ≤ a := by omega
      simp [e1, e0, Bool.and_assoc]
    · simp [e1]
  rw [if_neg h2]
  by_cases h3 : k = 3
  · subst h3
    rw [check2_of (x := (3, a, b, c, d, e, u)) (y := (3, a, b, 0, 0, e, u)) (l := [3, 4]) (vs := [c, d]) (ms := [511, 511]) rfl rfl (by simp) (by simp) (fun i hi => by match i, hi with | 0, _ => rfl | 1, _ => rfl) rfl (loopW_eq (n := 4) rfl) rfl]
    simp [inAll, inB, zeros]
  rw [if_neg h3]
  by_cases h4 : k = 4
  · subst h4
    rw [check2_of (x := (4, a, b, c, d, e, u)) (y := (4, 0, b, c, d, 0, u)) (l := [1, 5]) (vs := [a, e]) (ms := [15, 1024]) rfl rfl (by simp) (by simp) (fun i hi => by match i, hi with | 0, _ => rfl | 1, _ => rfl) rfl (loopW_eq (n := 4) rfl) rfl]
    simp [inAll, inB, zeros]
    by_cases e1 : 1 ≤ a
    · have e0 : 0 ≤ a := by omega
      by_cases e2 : 1 ≤ e
      · have e3 : 0 ≤ e := by omega
        have e4 : ¬ e < 1 := by omega
        simp [e1, e0, e2, e3, e4, Bool.and_assoc]
      · have e4 : e < 1 := by omega
        simp [e2, e4]
    · simp [e1]
  rw [if_neg h4]
  by_cases h5 : k = 5
  · subst h5
    rw [check2_of (x := (5, a, b, c, d, e, u)) (y := (5, 0, b, c, d, e, u)) (l := [1]) (vs := [a]) (ms := [15]) rfl rfl (by simp) (by simp) (fun i hi => by match i, hi with | 0, _ => rfl) rfl (loopW_eq (n := 4) rfl) rfl]
    simp [inAll, inB, zeros]
    by_cases e1 : 1 ≤ a
    · have e0 : 0 ≤ a := by omega
      simp [e1, e0, Bool.and_assoc]
    · simp [e1]
  by_cases h7 : k = 7
  · subst h7
    rw [check2_of (x := (7, a, b, c, d, e, u)) (y := (7, 0, b, c, d, e, u)) (l := [1]) (vs := [a]) (ms := [15]) rfl rfl (by simp) (by simp) (fun i hi => by match i, hi with | 0, _ => rfl) rfl (loopW_eq (n := 4) rfl) rfl]
    simp [inAll, inB, zeros]
    by_cases e1 : 1 ≤ a
    · have e0 : 0 ≤ a := by omega
      simp [e1, e0, Bool.and_assoc]
    · simp [e1]
  rw [if_neg (by simp [h5, h7])]
  by_cases h6 : k = 6
  · subst h6
    rw [check2_of (x := (6, a, b, c, d, e, u)) (y := (6, 0, b, c, 0, e, u)) (l := [1, 4]) (vs := [a, d]) (ms := [15, 15]) rfl rfl (by simp) (by simp) (fun i hi => by match i, hi with | 0, _ => rfl | 1, _ => rfl) rfl (loopW_eq (n := 4) rfl) rfl]
    simp [inAll, inB, zeros]
    by_cases e1 : 1 ≤ a
    · have e0 : 0 ≤ a := by omega
      by_cases e2 : 1 ≤ d
      · have e3 : 0 ≤ d := by omega
        have e4 : ¬ d < 1 := by omega
        simp [e1, e0, e2, e3, e4, Bool.and_assoc]
      · have e4 : d < 1 := by omega
        simp [e2, e4]
    · simp [e1]
  rw [if_neg h6]
  by_cases h8 : k = 8
  · subst h8
    rw [check2_of (x := (8, a, b, c, d, e, u)) (y := (8, a, b, 0, d, e, u)) (l := [3]) (vs := [c]) (ms := [31]) rfl rfl (by simp) (by simp) (fun i hi => by match i, hi with | 0, _ => rfl) rfl (loopW_eq (n := 4) rfl) rfl]
    simp [inAll, inB, zeros]
  rw [if_neg h8]
  by_cases h9 : k = 9
  · subst h9
    rw [check2_of (x := (9, a, b, c, d, e, u)) (y := (9, a, b, 0, d, 0, u)) (l := [3, 5]) (vs := [c, e]) (ms := [31, 1073741824]) rfl rfl (by simp) (by simp) (fun i hi => by match i, hi with | 0, _ => rfl | 1, _ => rfl) rfl (loopW_eq (n := 4) rfl) rfl]
    simp [inAll, inB, zeros]
  rw [if_neg h9]
  have hr : rec_fields (some (0, 0)) [recB (k, a, b, c, d, e, u)] = some ((⟨none, 0, 0⟩, ⟨none, 0, 0⟩, ()), [recB (k, a, b, c, d, e, u)]) := by
    have r1' : rdI .i64 [recB (k, a, b, c, d, e, u)] 0 0 = some k := rfl
    unfold rec_fields
    simp only [List.length_nil, bind_some, r1', decide_eq_false h1, decide_eq_false h2, decide_eq_false h3, decide_eq_false h4, decide_eq_false h5, decide_eq_false h6, decide_eq_false h7, decide_eq_false h8, decide_eq_false h9, cond_f]
  unfold rec_Check rec_Check.on
  have q1 : ([] : Heap) ++ [Blk.cells [.int .i64 k, .int .i64 a, .int .i64 b, .int .i64 c, .int .i64 d, .int .i64 e] .exact] = [recB (k, a, b, c, d, e, u)] := rfl
  have l1 : loopW (rec_Check.s1 ((⟨none, 0, 0⟩, ⟨none, 0, 0⟩, ()), [recB (k, a, b, c, d, e, u)])) (0, ()) [recB (k, a, b, c, d, e, u)] = some (.inl (), [recB (k, a, b, c, d, e, u)]) := loopW_eq (n := 1) rfl
  have c0 : rdI .i64 [recB (k, a, b, c, d, e, u)] 0 0 = some k := rfl
  have c1 : rdI .i64 [recB (k, a, b, c, d, e, u)] 0 1 = some a := rfl
  simp only [q1, hr, bind_some, l1, Sum.elim_inl, List.length_nil, c0, c1]
  by_cases e8 : 8 ≤ k
  · simp [e8, cond_t, bind_some]
  · simp [e8, h3, cond_f, bind_some]
end Ev

namespace Ev
open Go (IntKind)

theorem rdM_of {H : Heap} {b o : Nat} {cs : List C} {bk : BK} {n : Option Nat} (h : H[b]? = some (.cells cs bk)) (hc : cs[o]? = some (.mp n)) : rdM H b o = some n := by
  show (H.cell b o).bind (CT.un .mp) = some n
  rw [cell_of h hc]; rfl

def inW (_ : Int) (v : Int) : W := .one (.int .i64 v)
def boW (_ : Int) (_ : Unit) : W := .one (.bool true)
def spW (pg : Int → Nat) (id : Int) (x : Int × Bool) : W := .agg [.int .i64 x.1, .bool x.2, .mp (some (pg id))]
structure SaA where
  c : Nat
  sp : Nat
  rf : Nat
  bd : Nat
  wn : Nat
  pg : Int → Nat
section
variable {H : Heap} {a : SaA} {st : Sta}
theorem mp_ne {b c : Nat} {cs : List C} {bk : BK} {α : Type} {f : Int → α → W} {l : List (Int × α)} (h : H[c]? = some (.cells cs bk)) (hm : MpA H b f l) : b ≠ c := by
  rintro rfl
  obtain ⟨dc, hm⟩ := hm
  rw [h] at hm; cases hm

/-- A number out of a map of numbers. -/
theorem MpA.int {b : Nat} {l : List (Int × Int)} (h : MpA H b inW l) (k : Int) : mget H (.one (.int .i64)) (.one (.int .i64 0)) (some b) k = some ((afind l k).getD 0, (afind l k).isSome) := by
  refine h.get (.one (.int .i64)) _ k ?_
  cases afind l k <;> rfl
theorem MpA.bool {b : Nat} {l : List (Int × Unit)} (h : MpA H b boW l) (k : Int) : mget H (.one .bool) (.one (.bool false)) (some b) k = some ((afind l k).isSome, (afind l k).isSome) := by
  refine h.get (.one .bool) _ k ?_
  cases afind l k <;> rfl
def spV (pg : Int → Nat) (id : Int) : Option (Int × Bool) → Int × Bool × Option Nat × Unit
  | some x => (x.1, x.2, some (pg id), ())
  | none => (0, false, none, ())
theorem MpA.space {b : Nat} {pg : Int → Nat} {l : List (Int × Int × Bool)} (h : MpA H b (spW pg) l) (k : Int) : mget H (.agg [.int .i64, .bool, .mp]) (.agg [.int .i64 0, .bool false, .mp none]) (some b) k = some (spV pg k (afind l k), (afind l k).isSome) := by
  refine h.get (.agg [.int .i64, .bool, .mp]) _ k ?_
  cases afind l k <;> rfl
theorem mget_nil (ty : Ty) (zero : W) (k : Int) {v : ty.T} (hv : ty.un zero = some v) : mget H ty zero none k = some (v, false) := by
  simp only [mget, mgetW, Option.bind_some, Option.getD_none, hv]; rfl

theorem pgs_none (w : SaW st) {id : Int} (hn : afind st.sp id = none) : pgs st.lv id = [] := by
  unfold pgs
  have : (st.lv.filter fun x => decide (x.1 / 1024 = id)) = [] := by
    rw [List.filter_eq_nil_iff]
    intro x hx hd
    have hd := of_decide_eq_true hd
    have := w.own x hx
    rw [hd, hn] at this; cases this
  rw [this]; rfl
/-- What is told of a space. -/
def spI (st : Sta) (id : Int) : Int × Int × Int × Bool × Unit :=
  match afind st.sp id with
  | some x => (id, x.1, ((pgs st.lv id).length : Int), x.2, ())
  | none => (0, 0, 0, false, ())
end
end Ev

namespace Ev
open Go (IntKind)

abbrev ctI : List CT := [.int .i64, .int .i64, .int .i64, .bool]
def infos (st : Sta) : List (Tup ctI) := st.sp.map fun x => spI st x.1
section
variable {H : Heap} {a : SaA} {st : Sta}
theorem sp_keys (w : SaW st) : st.sp.length ≤ 1099511627776 ∧ ∀ x ∈ st.sp, -9223372036854775808 ≤ x.1 ∧ x.1 ≤ 9223372036854775807 :=
  ⟨by have := w.few; omega, fun x hx => by have := w.ids x hx; omega⟩
theorem pgs_len (lv : List (Int × Int)) (id : Int) : (pgs lv id).length = (lv.filter fun x => decide (x.1 / 1024 = id)).length := by unfold pgs; rw [List.length_map]
theorem sum_one {l : List (Int × Int × Bool)} (hs : Asc l) (f g : Int → Nat) {k : Int} {x : Int × Bool} (hk : afind l k = some x) (hg : ∀ j, g j = f j + (if k = j then 1 else 0)) : (l.map fun x => g x.1).sum = (l.map fun x => f x.1).sum + 1 := by
  induction l with
  | nil => cases hk
  | cons y l ih =>
    rw [List.map_cons, List.map_cons, List.sum_cons, List.sum_cons, hg]
    rw [afind] at hk
    by_cases e : y.1 = k
    · rw [if_pos e.symm]
      have : (l.map fun x => g x.1) = l.map fun x => f x.1 := List.map_congr_left fun z hz => by
        have := hs.head hz
        rw [hg, if_neg (by omega)]; rfl
      rw [this]; omega
    · rw [if_neg e] at hk
      rw [if_neg (fun hh => e hh.symm), ih hs.tail hk]; omega
theorem pages_sum {sp : List (Int × Int × Bool)} (hs : Asc sp) : ∀ {lv : List (Int × Int)}, (∀ x ∈ lv, (afind sp (x.1 / 1024)).isSome = true) → (sp.map fun x => (pgs lv x.1).length).sum = lv.length
  | [], _ => by
    induction sp with
    | nil => rfl
    | cons y l ih => rw [List.map_cons, List.sum_cons, ih hs.tail (fun _ hx => absurd hx List.not_mem_nil)]; rfl
  | z :: lv, h => by
    obtain ⟨x, hx⟩ := Option.isSome_iff_exists.1 (h z (by simp))
    rw [sum_one hs (fun j => (pgs lv j).length) (fun j => (pgs (z :: lv) j).length) hx fun j => by
      simp only [pgs_len, List.filter_cons]
      by_cases e : z.1 / 1024 = j
      · rw [if_pos (decide_eq_true e), if_pos e, List.length_cons]
      · rw [if_neg (by simpa using e), if_neg e]; rfl, pages_sum hs fun y hy => h y (by simp [hy]), List.length_cons]
theorem sum_take_le (l : List Nat) (i : Nat) : (l.take i).sum ≤ l.sum := by
  have : l.sum = (l.take i).sum + (l.drop i).sum := by rw [← List.sum_append, List.take_append_drop]
  omega
theorem spI_at (st : Sta) {id : Int} {x : Int × Bool} (h : afind st.sp id = some x) : spI st id = (id, x.1, ((pgs st.lv id).length : Int), x.2, ()) := by unfold spI; rw [h]
end
end Ev

namespace Ev
open Go (IntKind)

section
variable {α : Type} {H : Heap} {b : Nat} {f : Int → α → W} {l : List (Int × α)} {dc : Nat}
theorem mset_of (h : H[b]? = some (.mp (encA f l) dc)) (k : Int) (v : α) {w : W} (hw : w = f k v) : mset H (some b) k w = some (H.set b (.mp (encA f (ains l k v)) dc)) := by
  subst hw
  simp only [mset, Option.bind_some, mpAt_of h, mins_enc]
theorem mdel_of (h : H[b]? = some (.mp (encA f l) dc)) (k : Int) : mdel H (some b) k = some (H.set b (.mp (encA f (adrop l k)) (dc + 1))) := by
  simp only [mdel, mpAt_of h, Option.bind_some, mdrop_enc]
end
section
variable {H H' : Heap} {a : SaA} {st : Sta}
theorem MpA.ne {α β : Type} {b b' : Nat} {f : Int → α → W} {g : Int → β → W} {l : List (Int × α)} {l' : List (Int × β)} (_ : MpA H b f l) (_ : MpA H b' g l') (h : b ≠ b') : b ≠ b' := h
theorem SaW.key (w : SaW st) {id p : Int} {x : Int × Bool} (hx : afind st.sp id = some x) (hp : 0 ≤ p ∧ p < 1024) (v : Int) : SaW ⟨st.sp, ains st.lv (id * 1024 + p) v, st.bd, st.wn⟩ :=
  ⟨w.sp, w.lv.ins _ _, w.bd, w.wn, fun y hy => by
    rcases ains_mem hy with rfl | hy
    · show (afind st.sp ((id * 1024 + p) / 1024)).isSome = true
      rw [(key_div id p hp.1 hp.2).1, hx]; rfl
    · exact w.own y hy, w.ids, w.bds, w.wns⟩
theorem SaW.less (w : SaW st) (k : Int) : SaW ⟨st.sp, adrop st.lv k, st.bd, st.wn⟩ :=
  ⟨w.sp, w.lv.drop _, w.bd, w.wn, fun y hy => w.own y ((adrop_sub _ _).subset hy), w.ids, w.bds, w.wns⟩
end
end Ev

namespace Ev
open Go (IntKind)

/-! Plain: many keys away; many keys in. -/
/-- Without a space. -/
def lvOff (lv : List (Int × Int)) (id : Int) : List (Int × Int) := lv.filter fun x => !decide (x.1 / 1024 = id)
theorem lvOff_asc {lv : List (Int × Int)} (h : Asc lv) (id : Int) : Asc (lvOff lv id) := h.sub List.filter_sublist
theorem set_same {H : Heap} {b : Nat} {x : Blk} (h : H[b]? = some x) : H.set b x = H := by
  apply List.ext_getElem?
  intro j
  by_cases e : b = j
  · subst e; rw [set_get (get_lt h), h]
  · rw [set_get' e]
theorem keys_nodup {α : Type} {l : List (Int × α)} (h : Asc l) : (l.map Prod.fst).Nodup := by
  unfold Asc at h
  exact (List.pairwise_map.2 (h.imp fun hlt => by omega))
end Ev

namespace Ev
open Go (IntKind)

theorem nodup_len : ∀ {l ks : List Int}, l.Nodup → (∀ x ∈ l, x ∈ ks) → l.length ≤ ks.length
  | [], _, _, _ => Nat.zero_le _
  | x :: l, ks, hn, h => by
    rw [List.nodup_cons] at hn
    have hx := h x (by simp)
    have := nodup_len (l := l) (ks := ks.erase x) hn.2 fun y hy => (List.mem_erase_of_ne (fun e => hn.1 (by rw [← e]; exact hy))).2 (h y (by simp [hy]))
    rw [List.length_erase_of_mem hx] at this
    have h0 : 0 < ks.length := List.length_pos_of_mem hx
    rw [List.length_cons]; omega
/-- Another's pages in. -/
def insAll (id : Int) (lv : List (Int × Int)) (P : List (Int × Int)) : List (Int × Int) := P.foldl (fun lv x => ains lv (id * 1024 + x.1) x.2) lv
theorem insAll_asc {id : Int} : ∀ {P lv : List (Int × Int)}, Asc lv → Asc (insAll id lv P)
  | [], _, h => h
  | x :: P, lv, h => insAll_asc (P := P) (lv := ains lv (id * 1024 + x.1) x.2) (h.ins _ _)
theorem insAll_find {id : Int} (j : Int) : ∀ {P lv : List (Int × Int)}, Asc lv → Asc P → afind (insAll id lv P) j = (afind P (j - id * 1024)).or (afind lv j)
  | [], lv, _, _ => rfl
  | x :: P, lv, h, hP => by
    show afind (insAll id (ains lv (id * 1024 + x.1) x.2) P) j = _
    rw [insAll_find j (h.ins _ _) hP.tail, afind_ins h]
    show _ = (if x.1 = j - id * 1024 then some x.2 else afind P (j - id * 1024)).or (afind lv j)
    by_cases e : j = id * 1024 + x.1
    · rw [if_pos e, if_pos (by omega), afind_none fun y hy => by have := hP.head hy; omega]; rfl
    · rw [if_neg e, if_neg (by omega)]
section
variable {H H0 : Heap} {a : SaA} {st : Sta}
theorem free_keys (w : SaW st) {id : Int} (hn : afind st.sp id = none) {p : Int} (hp : 0 ≤ p ∧ p < 1024) : afind st.lv (id * 1024 + p) = none := by
  have := pgs_find w.lv id p
  rw [pgs_none w hn, if_pos hp] at this
  exact this.symm
def Sta.openS (st : Sta) (id q : Int) (P : List (Int × Int)) : Int × Sta :=
  if (afind st.sp id).isSome = true then (80, st) else (0, ⟨ains st.sp id (q, false), insAll id st.lv P, st.bd, st.wn⟩)
end
end Ev

namespace Ev
open Go (IntKind)

section
variable (len : Int → Nat) (R : Int → List Blk)
def rowsK (l : List Int) : Heap := (l.map R).flatten
theorem rowsK_snoc (l : List Int) (k : Int) : rowsK R (l ++ [k]) = rowsK R l ++ R k := by simp [rowsK]
theorem rowsK_len (hR : ∀ k, (R k).length = len k) : ∀ l : List Int, (rowsK R l).length = ktot len l
  | [] => rfl
  | x :: l => by
    have := rowsK_len hR l
    unfold rowsK at this ⊢
    rw [List.map_cons, List.flatten_cons, List.length_append, hR, this]; rfl
theorem rowsK_get (hR : ∀ k, (R k).length = len k) : ∀ {l : List Int} {k : Int} {j : Nat}, k ∈ l → j < len k → (rowsK R l)[kpos len l k + j]? = (R k)[j]?
  | x :: l, k, j, h, hj => by
    have ih := rowsK_get hR (l := l) (k := k) (j := j)
    unfold rowsK at ih ⊢
    rw [List.map_cons, List.flatten_cons, kpos]
    by_cases e : x = k
    · subst e
      rw [if_pos rfl, Nat.zero_add, List.getElem?_append_left (by rw [hR]; exact hj)]
    · rw [if_neg e, List.getElem?_append_right (by rw [hR]; omega), hR, show len x + kpos len l k + j - len x = kpos len l k + j by omega]
      exact ih ((List.mem_cons.1 h).resolve_left fun hh => e hh.symm) hj
end

/-! Plain. -/
def mv (f t : Int) (P : List (Int × Int)) : List (Int × Int) := P.map fun x => if x.2 = f then (x.1, t) else x
end Ev

namespace Ev
open Go (IntKind)

def Sta.moveS (st : Sta) (f t : Int) : Int × Sta :=
  if cnt st.lv f = 0 then (82, st) else if 0 < cnt st.lv t then (82, st) else (0, ⟨st.sp, mv f t st.lv, st.bd, st.wn⟩)
/-- What a record does. -/
def Sta.applyS (st : Sta) (x : RecT) : Int × Sta :=
  if x.1 = 4 then st.openS x.2.1 x.2.2.2.2.2.1 [] else
  if x.1 = 3 then st.moveS x.2.2.2.1 x.2.2.2.2.1 else
  if x.1 = 8 then (0, ⟨st.sp, st.lv, ains st.bd x.2.2.2.1 (), st.wn⟩) else
  if x.1 = 9 then (0, ⟨st.sp, st.lv, st.bd, ains st.wn x.2.2.2.1 (if x.2.2.2.2.2.1 > (afind st.wn x.2.2.2.1).getD 0 then x.2.2.2.2.2.1 else (afind st.wn x.2.2.2.1).getD 0)⟩) else
  match afind st.sp x.2.1 with
  | none => (80, st)
  | some s =>
    if x.1 = 1 then (if x.2.2.1 < 0 then (81, st) else if s.1 ≤ x.2.2.1 then (81, st) else (0, ⟨st.sp, ains st.lv (x.2.1 * 1024 + x.2.2.1) x.2.2.2.1, st.bd, st.wn⟩)) else
    if x.1 = 2 then (if (afind (pgs st.lv x.2.1) x.2.2.1).isSome = true then (0, ⟨st.sp, adrop st.lv (x.2.1 * 1024 + x.2.2.1), st.bd, st.wn⟩) else (81, st)) else
    if x.1 = 5 then (0, ⟨adrop st.sp x.2.1, lvOff st.lv x.2.1, st.bd, st.wn⟩) else
    if x.1 = 6 then st.openS x.2.2.2.2.1 s.1 (pgs st.lv x.2.1) else (0, ⟨ains st.sp x.2.1 (s.1, true), st.lv, st.bd, st.wn⟩)
structure GoodR (x : RecT) : Prop where
  k4 : x.1 = 4 → (1 ≤ x.2.1 ∧ x.2.1 ≤ 15) ∧ x.2.2.2.2.2.1 ≤ 1024
  k6 : x.1 = 6 → 1 ≤ x.2.2.2.2.1 ∧ x.2.2.2.2.1 ≤ 15
  k8 : x.1 = 8 → 0 ≤ x.2.2.2.1 ∧ x.2.2.2.1 ≤ 31
  k9 : x.1 = 9 → 0 ≤ x.2.2.2.1 ∧ x.2.2.2.1 ≤ 31
  k1 : x.1 = 1 → 0 ≤ x.2.2.2.1
theorem chk_good {x : RecT} (h : chkR x = true) : GoodR x := by
  unfold chkR at h
  refine ⟨fun e => ?_, fun e => ?_, fun e => ?_, fun e => ?_, fun e => ?_⟩
  all_goals
    simp only [e, inAll, inB] at h
    simp at h
    omega
section
variable {H : Heap} {a : SaA} {st : Sta}
/-- A record, looked at first. -/
def Sta.doS (st : Sta) (x : RecT) : Int × Sta := if chkR x = true then st.applyS x else (1, st)
end
end Ev

namespace Ev
open Go (IntKind)

end Ev

namespace Ev
open Go (IntKind)

/-- Where a clone lies, in the order l. -/
def cloP (N0 : Nat) (l : List Int) (k : Int) : Nat := N0 + (kpos (fun _ => 2) l k + 1)
def cloR {β : Type} (N0 : Nat) (g : Int → β → W) (P : Int → List (Int × β)) (sp : List (Int × Int × Bool)) (l : List Int) (k : Int) : List Blk :=
  [.cells [.int .i64 ((afind sp k).getD (0, false)).1, .bool ((afind sp k).getD (0, false)).2, .mp (some (cloP N0 l k))] .exact, .mp (encA g (P k)) 0]
/-- The spaces of a list. -/
def spL (sp : List (Int × Int × Bool)) (l : List Int) : List (Int × Int × Bool) := sp.filter fun x => decide (x.1 ∈ l)
theorem spL_asc {sp : List (Int × Int × Bool)} (h : Asc sp) (l : List Int) : Asc (spL sp l) := h.sub List.filter_sublist
theorem spL_find {sp : List (Int × Int × Bool)} (h : Asc sp) (l : List Int) (k : Int) : afind (spL sp l) k = if k ∈ l then afind sp k else none := by
  cases hf : afind (spL sp l) k with
  | some v =>
    have := List.mem_filter.1 (afind_mem hf)
    rw [if_pos (of_decide_eq_true this.2), h.find this.1]
  | none =>
    by_cases e : k ∈ l
    · rw [if_pos e]
      cases hs : afind sp k with
      | none => rfl
      | some v =>
        have := (spL_asc h l).find (List.mem_filter.2 ⟨afind_mem hs, decide_eq_true e⟩)
        rw [hf] at this; cases this
    · rw [if_neg e]
theorem clone_loop {β : Type} {g : Int → β → W} (hg : ∀ (π : Nat → Nat) (j : Int) (v : β), (g j v).ren π = g j v) {H0 : Heap} {m N : Nat} {pg : Int → Nat} {sp : List (Int × Int × Bool)} (hsp : Asc sp) {P : Int → List (Int × β)} (hm : MpA H0 m (spW pg) sp)
    (hP : ∀ id x, afind sp id = some x → MpA H0 (pg id) g (P id)) (hN : H0[N]? = some (.mp [] 0)) (hne : m ≠ N) (hpn : ∀ id x, afind sp id = some x → pg id ≠ N) {step : Int → Unit → Heap → Option (Unit × Heap)}
    (hstep : ∀ k x G, afind sp k = some x → MpA G m (spW pg) sp → MpA G (pg k) g (P k) → (∀ b, b < H0.length → b ≠ N → G[b]? = H0[b]?) → H0.length ≤ G.length →
      step k () G = (mset (G ++ [.cells [.int .i64 x.1, .bool x.2, .mp (some (G.length + 1))] .exact, .mp (encA g (P k)) 0]) (some N) k (.agg [.int .i64 x.1, .bool x.2, .mp (some (G.length + 1))])).bind fun H' => some ((), H')) :
    ∃ G pg', eachW step (some m) () H0 = some ((), G) ∧ (∀ b, b < H0.length → b ≠ N → G[b]? = H0[b]?) ∧ H0.length ≤ G.length ∧ MpA G N (spW pg') sp ∧ (∀ id x, afind sp id = some x → MpA G (pg' id) g (P id) ∧ H0.length ≤ pg' id) ∧
      ∀ id x id' x', afind sp id = some x → afind sp id' = some x' → pg' id = pg' id' → id = id' := by
  have hNl := get_lt hN
  have hin : ∀ {k : Int}, k ∈ sp.map Prod.fst → ∃ x, afind sp k = some x := fun hk => Option.isSome_iff_exists.1 (afind_isSome.2 hk)
  let F : List Int → Heap := fun l => H0.set N (.mp (encA (spW (cloP H0.length l)) (spL sp l)) 0) ++ rowsK (cloR H0.length g P sp l) l
  have hF : ∀ l, F l = H0.set N (.mp (encA (spW (cloP H0.length l)) (spL sp l)) 0) ++ rowsK (cloR H0.length g P sp l) l := fun _ => rfl
  have hR : ∀ l k, (cloR H0.length g P sp l k).length = (fun _ : Int => 2) k := fun _ _ => rfl
  have hRl : ∀ l l', (rowsK (cloR H0.length g P sp l) l').length = 2 * l'.length := fun l l' => by
    rw [rowsK_len _ _ (hR l)]
    induction l' with
    | nil => rfl
    | cons x l' ih => rw [ktot, ih, List.length_cons]; omega
  have hlow : ∀ l b, b < H0.length → b ≠ N → (F l)[b]? = H0[b]? := fun l b hb hbn => by rw [hF, List.getElem?_append_left (by simpa using hb), set_get' (Ne.symm hbn)]
  have hFN : ∀ l, (F l)[N]? = some (.mp (encA (spW (cloP H0.length l)) (spL sp l)) 0) := fun l => by rw [hF, List.getElem?_append_left (by simpa using hNl), set_get hNl]
  have hkt : ∀ l : List Int, ktot (fun _ => 2) l = 2 * l.length := fun l => by
    induction l with
    | nil => rfl
    | cons x l' ih => rw [ktot, ih, List.length_cons]; omega
  have hF0 : F [] = H0 := by
    rw [hF]
    have e : spL sp [] = [] := by unfold spL; rw [List.filter_eq_nil_iff]; intro x _ hh; simp at hh
    rw [e]
    show H0.set N (.mp [] 0) ++ [] = H0
    rw [List.append_nil, set_same hN]
  have hrow : ∀ l k j, k ∈ l → j < 2 → (F l)[H0.length + (kpos (fun _ => 2) l k + j)]? = (cloR H0.length g P sp l k)[j]? := fun l k j hk hj => by
    rw [hF, List.getElem?_append_right (by simp), List.length_set, Nat.add_sub_cancel_left, rowsK_get (fun _ => 2) _ (hR l) hk hj]
  obtain ⟨dc, hhd⟩ := hm.head
  have hmF : ∀ l, MpA (F l) m (spW pg) sp ∧ (F l).mpAt m = H0.mpAt m := fun l => by
    have e := hlow l m hm.lt hne
    exact ⟨by obtain ⟨dc, hd⟩ := hm; exact ⟨dc, by rw [e]; exact hd⟩, by unfold Heap.mpAt; rw [e]⟩
  have hFl : ∀ l, (F l).length = H0.length + 2 * l.length := fun l => by rw [hF, List.length_append, List.length_set, hRl]
  have hall : spL sp (sp.map Prod.fst) = sp := List.filter_eq_self.2 fun x hx => decide_eq_true (List.mem_map.2 ⟨x, hx, rfl⟩)
  refine ⟨F (sp.map Prod.fst), cloP H0.length (sp.map Prod.fst), ?_, hlow _, by rw [hFl]; omega, ⟨0, by rw [hFN, hall]⟩, fun id x hx => ?_, fun id x id' x' hx hx' e => ?_⟩
  · refine eachW_of (ks := sp.map Prod.fst) hm.keys hhd (keys_nodup hsp) (fun _ => ()) F rfl hF0 (fun l k hl hn hk hkl => ⟨?_, ?_⟩) (fun l hl => ⟨rfl, ?_⟩)
    · obtain ⟨x, hx⟩ := hin hk
      have hpl : MpA (F l) (pg k) g (P k) := by
        obtain ⟨dp, hd⟩ := hP k x hx
        exact ⟨dp, by rw [hlow l _ (get_lt hd) (hpn k x hx)]; exact hd⟩
      rw [hstep k x (F l) hx (hmF l).1 hpl (hlow l) (by rw [hFl]; omega)]
      have hNF : (F l ++ [.cells [.int .i64 x.1, .bool x.2, .mp (some ((F l).length + 1))] .exact, .mp (encA g (P k)) 0])[N]? = some (.mp (encA (spW (cloP H0.length (l ++ [k]))) (spL sp l)) 0) := by
        have e0 : encA (spW (cloP H0.length l)) (spL sp l) = encA (spW (cloP H0.length (l ++ [k]))) (spL sp l) := enc_congr fun y hy => by
          have hyl := of_decide_eq_true (List.mem_filter.1 hy).2
          unfold spW cloP
          rw [kpos_left _ hyl]
        rw [List.getElem?_append_left (by rw [hFl]; omega), hFN, e0]
      have hpk : (F l).length + 1 = cloP H0.length (l ++ [k]) k := by
        unfold cloP
        rw [kpos_append _ hkl, hkt, hFl]; omega
      have hset := mset_of hNF k x (w := .agg [.int .i64 x.1, .bool x.2, .mp (some ((F l).length + 1))]) (by unfold spW; rw [hpk])
      simp only [hset, Option.bind_some]
      refine congrArg (fun G => some ((), G)) ?_
      have hsl : ains (spL sp l) k x = spL sp (l ++ [k]) := asc_ext ((spL_asc hsp l).ins _ _) (spL_asc hsp _) fun k' => by
        rw [afind_ins (spL_asc hsp l), spL_find hsp, spL_find hsp]
        by_cases e : k' = k
        · rw [if_pos e, e, if_pos (by simp), hx]
        · rw [if_neg e]
          by_cases e2 : k' ∈ l
          · rw [if_pos e2, if_pos (by simp [e2])]
          · rw [if_neg e2, if_neg (by simp [e, e2])]
      rw [hsl, hpk, hF, hF, List.append_assoc, List.set_append_left _ _ (by simpa using hNl), List.set_set, rowsK_snoc]
      congr 1
      have e1 : rowsK (cloR H0.length g P sp (l ++ [k])) l = rowsK (cloR H0.length g P sp l) l := by
        exact congrArg List.flatten (List.map_congr_left fun y hy => by unfold cloR cloP; rw [kpos_left _ hy])
      rw [e1]
      congr 1
      unfold cloR
      rw [hx]; rfl
    · simp only [mhead, Option.bind_some, (hmF (l ++ [k])).2]
      exact hhd
    · have hnd := hl.nodup_iff.2 (keys_nodup hsp)
      have hkr : ∀ k ∈ l, kren (fun _ => 2) H0.length l (sp.map Prod.fst) (cloP H0.length l k) = cloP H0.length (sp.map Prod.fst) k := fun k hk => kren_at (fun _ => 2) hk (by omega)
      refine alike_rows (fun _ => 2) hl hnd (List.length_set ..) (List.length_set ..) _ _ (rowsK_len _ _ (hR _) _) (rowsK_len _ _ (hR _) _) (fun b hb => ?_) (fun k hk j hj => ?_)
      · by_cases e : b = N
        · subst e
          left
          rw [set_get hNl, set_get hNl, hall, show spL sp l = sp from List.filter_eq_self.2 fun x hx => decide_eq_true (hl.symm.subset (List.mem_map.2 ⟨x, hx, rfl⟩))]
          show some (Blk.mp _ 0) = some (Blk.mp ((encA (spW (cloP H0.length l)) sp).map fun x : Int × W => (x.1, W.ren (kren (fun _ => 2) H0.length l (sp.map Prod.fst)) x.2)) 0)
          unfold encA
          rw [List.map_map]
          congr 2
          refine List.map_congr_left fun x hx => ?_
          show (x.1, spW (cloP H0.length (sp.map Prod.fst)) x.1 x.2) = (x.1, W.ren (kren (fun _ => 2) H0.length l (sp.map Prod.fst)) (spW (cloP H0.length l) x.1 x.2))
          unfold spW
          show _ = (x.1, W.agg [.int .i64 x.2.1, .bool x.2.2, .mp (some (kren (fun _ => 2) H0.length l (sp.map Prod.fst) (cloP H0.length l x.1)))])
          rw [hkr x.1 (hl.symm.subset (List.mem_map.2 ⟨x, hx, rfl⟩))]
        · right
          rw [set_get' (Ne.symm e), set_get' (Ne.symm e)]; exact ⟨rfl, rfl⟩
      · rw [rowsK_get (fun _ => 2) _ (hR _) (hl.subset hk) hj, rowsK_get (fun _ => 2) _ (hR _) hk hj]
        have h0 : j = 0 ∨ j = 1 := by have : j < 2 := hj; omega
        rcases h0 with rfl | rfl
        · show some (Blk.cells [_, _, C.mp (some (cloP H0.length (sp.map Prod.fst) k))] _) = some (Blk.cells [_, _, C.mp (some (kren (fun _ => 2) H0.length l _ (cloP H0.length l k)))] _)
          rw [hkr k hk]; rfl
        · show some (Blk.mp (encA g (P k)) 0) = some (Blk.mp ((encA g (P k)).map fun x : Int × W => (x.1, W.ren (kren (fun _ => 2) H0.length l (sp.map Prod.fst)) x.2)) 0)
          unfold encA
          rw [List.map_map]
          congr 2
          refine List.map_congr_left fun x hx => ?_
          show (x.1, g x.1 x.2) = (x.1, W.ren (kren (fun _ => 2) H0.length l (sp.map Prod.fst)) (g x.1 x.2))
          rw [hg]
  · have hk : id ∈ sp.map Prod.fst := afind_isSome.1 (by rw [hx]; rfl)
    refine ⟨⟨0, ?_⟩, by unfold cloP; omega⟩
    exact hrow _ id 1 hk (by decide)
  · have hk : id ∈ sp.map Prod.fst := afind_isSome.1 (by rw [hx]; rfl)
    have hk' : id' ∈ sp.map Prod.fst := afind_isSome.1 (by rw [hx']; rfl)
    have h1 := kloc_pos (fun _ => 2) hk (j := 1) (by decide)
    have h2 := kloc_pos (fun _ => 2) hk' (j := 1) (by decide)
    unfold cloP at e
    rw [show kpos (fun _ => 2) (sp.map Prod.fst) id + 1 = kpos (fun _ => 2) (sp.map Prod.fst) id' + 1 by omega, h2] at h1
    cases h1; rfl
end Ev

namespace Ev
open Go (IntKind)

end Ev

namespace Ev
open Go (IntKind)

abbrev RfV := Sl × Sl × Sl × Sl × Unit
end Ev

namespace Ev
open Go (IntKind)

end Ev

namespace Ev
open Go (IntKind)

end Ev

namespace Ev
open Go (IntKind)

end Ev

namespace Ev
open Go (IntKind)

section
variable {α : Type}
def putS (k : Int) (l : List (Int × α)) : Bool := l.any fun x => decide (k < x.1)
end
end Ev

namespace Ev
open Go (IntKind)

end Ev

namespace Ev
open Go (IntKind)

end Ev

namespace Ev
open Go (IntKind)

end Ev

namespace Ev
open Go (IntKind)

end Ev

namespace Ev
open Go (IntKind)

end Ev

namespace Ev
open Go (IntKind)

end Ev

namespace Ev
open Go (IntKind)

end Ev

namespace Ev
open Go (IntKind)

theorem each_rows {S : Type} {step : Int → S → Heap → Option (S × Heap)} {m : Nat} {H : Heap} {ks : List Int} {hd : Nat × Nat} (hk : mkeys H (some m) = some ks) (hh : mhead H (some m) = some hd) (hnd : ks.Nodup) (hm : m < H.length)
    {L : Nat} (hL : L < H.length) (hLm : L ≠ m) (c : List Int → Blk) (h0 : H[L]? = some (c [])) (len : Int → Nat) (R : Int → List Blk) (hR : ∀ k, (R k).length = len k) (st : List Int → S)
    (hc : ∀ l, l.Perm ks → c l = c ks ∧ st l = st ks) (hcr : ∀ (π : Nat → Nat) l, (c l).ren π = c l) (hRr : ∀ π : Nat → Nat, (∀ b, b < H.length → π b = b) → ∀ k ∈ ks, ∀ x ∈ R k, x.ren π = x)
    (hs : ∀ (l : List Int) (k : Int), (∀ x ∈ l, x ∈ ks) → l.Nodup → k ∈ ks → k ∉ l → ∀ G : Heap, G[L]? = some (c l) → (∀ b, b < H.length → b ≠ L → G[b]? = H[b]?) → H.length ≤ G.length → step k (st l) G = some (st (l ++ [k]), G.set L (c (l ++ [k])) ++ R k)) :
    eachW step (some m) (st []) H = some (st ks, H.set L (c ks) ++ rowsK R ks) := by
  let F : List Int → Heap := fun l => H.set L (c l) ++ rowsK R l
  have hF : ∀ l, F l = H.set L (c l) ++ rowsK R l := fun _ => rfl
  have hlow : ∀ l b, b < H.length → b ≠ L → (F l)[b]? = H[b]? := fun l b hb hbL => by rw [hF, List.getElem?_append_left (by simpa using hb), set_get' (Ne.symm hbL)]
  have hFL : ∀ l, (F l)[L]? = some (c l) := fun l => by rw [hF, List.getElem?_append_left (by simpa using hL), set_get hL]
  refine eachW_of (ks := ks) hk hh hnd st F rfl ?_ (fun l k hl hn hk hkl => ⟨?_, ?_⟩) (fun l hl => ⟨(hc l hl).2, ?_⟩)
  · rw [hF, set_same h0]
    exact List.append_nil _
  · rw [hs l k hl hn hk hkl (F l) (hFL l) (hlow l) (by rw [hF, List.length_append, List.length_set]; omega), hF, hF, rowsK_snoc, List.set_append_left _ _ (by simpa using hL), List.set_set, List.append_assoc]
  · rw [← hh]
    have : (F (l ++ [k])).mpAt m = H.mpAt m := by unfold Heap.mpAt; rw [hlow _ _ hm (Ne.symm hLm)]
    simp only [mhead, Option.bind_some, this]
  · refine alike_rows len hl (hl.nodup_iff.2 hnd) (List.length_set ..) (List.length_set ..) _ _ (rowsK_len _ _ hR _) (rowsK_len _ _ hR _) (fun b hb => ?_) (fun k hk j hj => ?_)
    · by_cases e : b = L
      · subst e
        left
        rw [set_get hb, set_get hb, Option.map_some, hcr, (hc l hl).1]
      · right
        rw [set_get' (Ne.symm e), set_get' (Ne.symm e)]
        exact ⟨rfl, rfl⟩
    · rw [rowsK_get _ _ hR (hl.subset hk) hj, rowsK_get _ _ hR hk hj]
      cases hx : (R k)[j]? with
      | none => rfl
      | some x =>
        rw [Option.map_some, hRr _ (fun b hb => kren_low _ hb) k (hl.subset hk) x (List.mem_of_getElem? hx)]
/-- Numbers that occur. -/
def dst (ns : List Int) : List (Int × Unit) := ns.foldl (fun d n => ains d n ()) []
theorem dst_snoc (ns : List Int) (n : Int) : dst (ns ++ [n]) = ains (dst ns) n () := by unfold dst; rw [List.foldl_append]; rfl
theorem dst_asc (ns : List Int) : Asc (dst ns) := by
  unfold dst
  have : ∀ (ns : List Int) (d : List (Int × Unit)), Asc d → Asc (ns.foldl (fun d n => ains d n ()) d) := fun ns => by
    induction ns with
    | nil => exact fun d h => h
    | cons n ns ih => exact fun d h => ih _ (h.ins _ _)
  exact this ns [] Asc.nil
theorem dst_find (ns : List Int) (k : Int) : afind (dst ns) k = if k ∈ ns then some () else none := by
  have : ∀ (ns : List Int) (d : List (Int × Unit)), Asc d → afind (ns.foldl (fun d n => ains d n ()) d) k = if k ∈ ns then some () else afind d k := fun ns => by
    induction ns with
    | nil => exact fun d h => by rw [if_neg List.not_mem_nil]; rfl
    | cons n ns ih =>
      intro d h
      rw [List.foldl_cons, ih _ (h.ins _ _), afind_ins h]
      by_cases e1 : k ∈ ns
      · rw [if_pos e1, if_pos (List.mem_cons_of_mem _ e1)]
      · rw [if_neg e1]
        by_cases e2 : k = n
        · rw [if_pos e2, if_pos (by rw [e2]; simp)]
        · rw [if_neg e2, if_neg (fun hh => (List.mem_cons.1 hh).elim e2 e1)]
  exact this ns [] Asc.nil
theorem dst_eq {ns ns' : List Int} (h : ∀ k, k ∈ ns ↔ k ∈ ns') : dst ns = dst ns' := asc_ext (dst_asc _) (dst_asc _) fun k => by
  rw [dst_find, dst_find]
  by_cases e : k ∈ ns
  · rw [if_pos e, if_pos ((h k).1 e)]
  · rw [if_neg e, if_neg (fun hh => e ((h k).2 hh))]
theorem bo_ren (π : Nat → Nat) (l : List (Int × Unit)) (dc : Nat) : Blk.ren π (.mp (encA boW l) dc) = .mp (encA boW l) dc := by
  show Blk.mp ((encA boW l).map fun e => (e.1, e.2.ren π)) dc = _
  unfold encA
  rw [List.map_map]
  congr 1
end Ev

namespace Ev
open Go (IntKind)

/-- What stands at a place: what the page says, its own number. -/
abbrev LfF := Int → Bytes × Int
def lfW (f : LfF) : Int → Int → W := fun _ v => .agg [.str (f v).1, .int .i64 (f v).2]
structure TrAt (H : Heap) (m : Nat) (pg : Int → Nat) (f : LfF) (st : Sta) : Prop where
  w : SaW st
  sp : MpA H m (spW pg) st.sp
  pp : ∀ id x, afind st.sp id = some x → MpA H (pg id) (lfW f) (pgs st.lv id)
  pn : ∀ id x, afind st.sp id = some x → pg id ≠ m
  pi : ∀ id x id' x', afind st.sp id = some x → afind st.sp id' = some x' → pg id = pg id' → id = id'
def trF (m : Nat) (pg : Int → Nat) (st : Sta) (b : Nat) : Prop := b = m ∨ ∃ id x, afind st.sp id = some x ∧ b = pg id
section
variable {H G : Heap} {m : Nat} {pg : Int → Nat} {f f' : LfF} {st : Sta}
theorem TrAt.keep (h : TrAt H m pg f st) {F : Nat → Prop} (k : Keep F H G) (hF : ∀ b, trF m pg st b → ¬ F b) : TrAt G m pg f st :=
  ⟨h.w, h.sp.keep k (hF _ (.inl rfl)), fun id x hx => (h.pp id x hx).keep k (hF _ (.inr ⟨id, x, hx, rfl⟩)), h.pn, h.pi⟩
theorem TrAt.lt (h : TrAt H m pg f st) {b : Nat} (hb : trF m pg st b) : b < H.length := by
  rcases hb with rfl | ⟨id, x, hx, rfl⟩
  · exact h.sp.lt
  · exact (h.pp id x hx).lt
theorem TrAt.congr (h : TrAt H m pg f st) (hf : ∀ x ∈ st.lv, f x.2 = f' x.2) : TrAt H m pg f' st :=
  ⟨h.w, h.sp, fun id x hx => by
    obtain ⟨dc, hd⟩ := h.pp id x hx
    refine ⟨dc, ?_⟩
    rw [hd, enc_congr (f := lfW f) (g := lfW f') fun y hy => by
      have := hf _ (pgs_mem hy).2.2
      unfold lfW
      rw [show f y.2 = f' y.2 from this]], h.pn, h.pi⟩
/-- A copy of a tree. -/
theorem tr_clone (h : TrAt H m pg f st) : WP (model_tree_clone (some m) H) fun r => ∃ m' pg', r.1 = (some m', ()) ∧ TrAt r.2 m' pg' f st ∧ Keep (fun _ => False) H r.2 ∧ ∀ b, trF m' pg' st b → H.length ≤ b := by
  have k0 := Keep.app (fun _ => False) H [.mp [] 0, .dead]
  have h0 := h.keep k0 fun _ _ hf => hf
  have g0 : (H ++ [Blk.mp [] 0, .dead])[H.length]? = some (.mp [] 0) := by rw [tl_get0]; rfl
  have hl : (H ++ [Blk.mp [] 0, .dead]).length = H.length + 2 := by simp
  have hml := h.lt (.inl rfl)
  have e0 : H ++ [Blk.mp [] 0] ++ [.dead] = H ++ [.mp [] 0, .dead] := by simp
  obtain ⟨G, pg', e1, e2, e3, e4, e5, e6⟩ := clone_loop (g := lfW f) (fun _ _ _ => rfl) h.w.sp (P := fun id => pgs st.lv id) h0.sp h0.pp g0 (show m ≠ H.length by omega) (fun id x hx => by have := h.lt (.inr ⟨id, x, hx, rfl⟩); omega)
    (step := model_tree_clone.s1 (some m) H)
    (fun k x G hx hm hp hlow hlen => by
      have hm1 : mat G (.agg [.int .i64, .bool, .mp]) (some m) k = (some (x.1, x.2, some (pg k), ()) : Option (Int × Bool × Option Nat × Unit)) := hm.mat (.agg [.int .i64, .bool, .mp]) k (by rw [hx]; rfl)
      have hcl := (hp.keep (F := fun _ => False) (Keep.push _ G (.cells [.int .i64 x.1, .bool x.2, .mp (some (pg k))] .exact)) fun hf => hf).clone
      unfold model_tree_clone.s1
      refine (bind_to hm1).trans ?_
      simp only [Option.bind_some, Option.map_some, cond_true, cond_false, List.append_assoc, List.cons_append, List.nil_append, List.length_append, List.length_cons, List.length_nil, Nat.zero_add, rd_t0, rd_t1, rdI_t0, rdI_t1, rdB_t0, rdB_t1, rdM_t0, rdM_t1, rd_c1, rdI_c1, rdB_c1, rdM_c1, rdI_c0, rdB_c0, rdM_c0, wr_t0, wr_t1, wr_c0, wr_c1, setL, List.set, List.getElem?_cons_zero, List.getElem?_cons_succ, un_i, un_b, un_m, un_s, un_sl1, un_sl2, un_sl3, Nat.le_refl, rd_iiib, rd_iiiiii, rd_ibm, rd_iii, rd_iib, rd_ii, rd_3312, rd_iiii, rd_si, rd_33121, rd_33121i, slRow_t0, slRow_t1, sl_c0, sl_c1] at hcl ⊢
      simp only [hcl, Option.bind_some, Option.map_some, cond_true, cond_false, List.append_assoc, List.cons_append, List.nil_append, List.length_append, List.length_cons, List.length_nil, Nat.zero_add, rd_t0, rd_t1, rdI_t0, rdI_t1, rdB_t0, rdB_t1, rdM_t0, rdM_t1, rd_c1, rdI_c1, rdB_c1, rdM_c1, rdI_c0, rdB_c0, rdM_c0, wr_t0, wr_t1, wr_c0, wr_c1, setL, List.set, List.getElem?_cons_zero, List.getElem?_cons_succ, un_i, un_b, un_m, un_s, un_sl1, un_sl2, un_sl3, Nat.le_refl, rd_iiib, rd_iiiiii, rd_ibm, rd_iii, rd_iib, rd_ii, rd_3312, rd_iiii, rd_si, rd_33121, rd_33121i, slRow_t0, slRow_t1, sl_c0, sl_c1])
  unfold model_tree_clone
  simp only
  rw [e0]
  refine wp_to e1 (wp_some ⟨H.length, pg', rfl, ⟨h.w, e4, fun id x hx => (e5 id x hx).1, fun id x hx => ?_, e6⟩, ⟨by simp only; omega, fun b hb _ => ?_⟩, ?_⟩)
  · have := (e5 id x hx).2; omega
  · simp only
    rw [e2 b (by omega) (by omega)]
    exact List.getElem?_append_left hb
  · rintro b (rfl | ⟨id, x, hx, rfl⟩)
    · exact Nat.le_refl _
    · have := (e5 id x hx).2; omega
theorem MpA.leaf {b : Nat} {l : List (Int × Int)} (h : MpA H b (lfW f) l) (k : Int) : mget H (.agg [.str, .int .i64]) (.agg [.str [], .int .i64 0]) (some b) k = (some ((match afind l k with | none => ([], 0, ()) | some v => ((f v).1, (f v).2, ())), (afind l k).isSome) : Option ((Bytes × Int × Unit) × Bool)) := by
  refine h.get _ _ _ ?_
  cases afind l k <;> rfl
/-- May a space be changed? -/
def mayS (st : Sta) (id : Int) : Int := match afind st.sp id with | none => 80 | some x => if x.2 = true then 170 else 0
theorem tr_may (h : TrAt H m pg f st) (id : Int) : WP (model_tree_may (some m) id H) fun r => r.1.1 = mayS st id ∧ Keep (fun _ => False) H r.2 := by
  unfold model_tree_may mayS
  refine wp_to (h.sp.space id) ?_
  cases hx : afind st.sp id with
  | none =>
    refine wp_to (v := H ++ [.cells [.int .i64 0, .bool false, .mp none] .exact]) (by simp only [Option.bind_some, Option.map_some, cond_true, cond_false, List.append_assoc, List.cons_append, List.nil_append, List.length_append, List.length_cons, List.length_nil, Nat.zero_add, rd_t0, rd_t1, rdI_t0, rdI_t1, rdB_t0, rdB_t1, rdM_t0, rdM_t1, rd_c1, rdI_c1, rdB_c1, rdM_c1, rdI_c0, rdB_c0, rdM_c0, wr_t0, wr_t1, wr_c0, wr_c1, setL, List.set, List.getElem?_cons_zero, List.getElem?_cons_succ, un_i, un_b, un_m, un_s, un_sl1, un_sl2, un_sl3, Nat.le_refl, rd_iiib, rd_iiiiii, rd_ibm, rd_iii, rd_iib, rd_ii, rd_3312, rd_iiii, rd_si, rd_33121, rd_33121i, slRow_t0, slRow_t1, sl_c0, sl_c1, spV]) (wp_t rfl (wp_some ⟨rfl, Keep.app _ _ _⟩))
  | some x =>
    have t0 : (H ++ [Blk.cells [.int .i64 x.1, .bool x.2, .mp (some (pg id))] .exact])[H.length]? = some (.cells [.int .i64 x.1, .bool x.2, .mp (some (pg id))] .exact) := by rw [tl_get0]; rfl
    refine wp_to (v := H ++ [.cells [.int .i64 x.1, .bool x.2, .mp (some (pg id))] .exact]) (by simp only [Option.bind_some, Option.map_some, cond_true, cond_false, List.append_assoc, List.cons_append, List.nil_append, List.length_append, List.length_cons, List.length_nil, Nat.zero_add, rd_t0, rd_t1, rdI_t0, rdI_t1, rdB_t0, rdB_t1, rdM_t0, rdM_t1, rd_c1, rdI_c1, rdB_c1, rdM_c1, rdI_c0, rdB_c0, rdM_c0, wr_t0, wr_t1, wr_c0, wr_c1, setL, List.set, List.getElem?_cons_zero, List.getElem?_cons_succ, un_i, un_b, un_m, un_s, un_sl1, un_sl2, un_sl3, Nat.le_refl, rd_iiib, rd_iiiiii, rd_ibm, rd_iii, rd_iib, rd_ii, rd_3312, rd_iiii, rd_si, rd_33121, rd_33121i, slRow_t0, slRow_t1, sl_c0, sl_c1, spV]) (wp_f rfl (wp_to (rdB_of t0 rfl) ?_))
    refine wp_c (fun e => wp_some ⟨?_, Keep.app _ _ _⟩) (fun e => wp_some ⟨?_, Keep.app _ _ _⟩)
    · simp only [if_pos (show x.2 = true from e)]
    · simp only [if_neg (show ¬ x.2 = true by rw [e]; decide)]
/-- The numbers of a space's leaves. -/
def nsL (f : LfF) (P : List (Int × Int)) : List Int := P.map fun y => (f y.2).2
def fitR (f : LfF) (P : List (Int × Int)) (k : Int) : List Blk := [.cells [.str (f ((afind P k).getD 0)).1, .int .i64 (f ((afind P k).getD 0)).2] .exact]
theorem fits_inner {P : List (Int × Int)} {pgb L : Nat} {H1 : Heap} (hp : MpA G pgb (lfW f) P) (hP : Asc P) (hL1 : H1.length = L) (hne : L ≠ pgb) (base : List Int) (hL : G[L]? = some (.mp (encA boW (dst base)) 0)) :
    eachW (model_tree_fits.s1 H1 (some pgb)) (some pgb) () G = some ((), G.set L (.mp (encA boW (dst (base ++ nsL f P))) 0) ++ rowsK (fitR f P) (P.map Prod.fst)) := by
  have hwP : ((P.map Prod.fst).map fun k => (f ((afind P k).getD 0)).2) = nsL f P := by
    rw [List.map_map]
    refine List.map_congr_left fun x hx => ?_
    show (f ((afind P x.1).getD 0)).2 = (f x.2).2
    rw [hP.find (k := x.1) (v := x.2) hx]; rfl
  obtain ⟨dc, hhd⟩ := hp.head
  have := each_rows (step := model_tree_fits.s1 H1 (some pgb)) hp.keys hhd (keys_nodup hP) hp.lt (get_lt hL) hne
    (fun l => .mp (encA boW (dst (base ++ l.map fun k => (f ((afind P k).getD 0)).2))) 0) (by rw [hL, List.map_nil, List.append_nil]) (fun _ => 1) (fitR f P) (fun _ => rfl) (fun _ => ())
    (fun l hl => ⟨by
      rw [dst_eq (ns' := base ++ (P.map Prod.fst).map fun k => (f ((afind P k).getD 0)).2) fun k => by
        rw [List.mem_append, List.mem_append, (hl.map _).mem_iff], ], rfl⟩)
    (fun π l => bo_ren π _ _)
    (fun π _ k _ x hx => by
      rw [List.mem_singleton.1 hx]; rfl)
    (fun l k hl hn hk hkl K hKL hKlow hKlen => by
      obtain ⟨v, hv⟩ := Option.isSome_iff_exists.1 (afind_isSome.2 hk)
      have hpK : MpA K pgb (lfW f) P := by
        obtain ⟨dc, hd⟩ := hp
        exact ⟨dc, by rw [hKlow _ (get_lt hd) (Ne.symm hne)]; exact hd⟩
      have hm1 : mat K (.agg [.str, .int .i64]) (some pgb) k = (some ((f v).1, (f v).2, ()) : Option (Bytes × Int × Unit)) := hpK.mat (.agg [.str, .int .i64]) k (by rw [hv]; rfl)
      have hLk := get_lt hKL
      have hset : mset (K ++ [Blk.cells [.str (f v).1, .int .i64 (f v).2] .exact]) (some L) (f v).2 (.one (.bool true)) = some ((K ++ [Blk.cells [.str (f v).1, .int .i64 (f v).2] .exact]).set L (.mp (encA boW (ains (dst (base ++ l.map fun k => (f ((afind P k).getD 0)).2)) (f v).2 ())) 0)) :=
        mset_of (by rw [List.getElem?_append_left hLk]; exact hKL) (f v).2 () rfl
      have hw : wr (K ++ [Blk.cells [.str [], .int .i64 0] .exact]) K.length 0 [.str (f v).1, .int .i64 (f v).2] = some (K ++ [Blk.cells [.str (f v).1, .int .i64 (f v).2] .exact]) := by
        rw [wr_t0, wr_c0 _ _ _ _ (by simp)]; rfl
      have hr : rdI .i64 (K ++ [Blk.cells [.str (f v).1, .int .i64 (f v).2] .exact]) K.length 1 = some (f v).2 := rdI_of (by rw [tl_get0]; rfl) rfl
      unfold model_tree_fits.s1
      refine (bind_to hm1).trans ((bind_to hw).trans ((bind_to hr).trans ?_))
      rw [hL1]
      refine (bind_to hset).trans ?_
      rw [List.set_append_left _ _ hLk]
      show some ((), _) = some ((), _)
      congr 3
      · rw [List.map_append, ← List.append_assoc]
        show _ = K.set L (.mp (encA boW (dst (_ ++ [(f ((afind P k).getD 0)).2]))) 0)
        rw [dst_snoc, hv]; rfl
      · unfold fitR
        rw [hv]; rfl)
  rw [hwP] at this
  exact this
def fitR2 (pg : Int → Nat) (f : LfF) (st : Sta) (k : Int) : List Blk :=
  [.cells [.int .i64 (spV pg k (afind st.sp k)).1, .bool (spV pg k (afind st.sp k)).2.1, .mp (some (pg k))] .exact, .dead] ++ rowsK (fitR f (pgs st.lv k)) ((pgs st.lv k).map Prod.fst)
theorem fitR_len (f : LfF) (P : List (Int × Int)) : (rowsK (fitR f P) (P.map Prod.fst)).length = P.length := by
  rw [rowsK_len (fun _ => 1) _ (fun _ => rfl)]
  have : ∀ l : List Int, ktot (fun _ => 1) l = l.length := fun l => by
    induction l with
    | nil => rfl
    | cons x l ih => rw [ktot, ih, List.length_cons]; omega
  rw [this, List.length_map]
theorem sum_perm {α : Type} {l l' : List α} (h : l.Perm l') (g : α → Nat) : (l.map g).sum = (l'.map g).sum := by
  induction h with
  | nil => rfl
  | cons x _ ih => simp only [List.map_cons, List.sum_cons, ih]
  | swap x y l => simp only [List.map_cons, List.sum_cons]; omega
  | trans _ _ ih1 ih2 => exact ih1.trans ih2
theorem sum_sub {l ks : List Int} (hn : l.Nodup) (hl : ∀ x ∈ l, x ∈ ks) (g : Int → Nat) : (l.map g).sum ≤ (ks.map g).sum := by
  induction l generalizing ks with
  | nil => exact Nat.zero_le _
  | cons x l ih =>
    have hx := hl x (by simp)
    have hp : ks.Perm (x :: ks.erase x) := List.perm_cons_erase hx
    rw [sum_perm hp g, List.map_cons, List.map_cons, List.sum_cons, List.sum_cons]
    have := ih (ks := ks.erase x) (List.nodup_cons.1 hn).2 fun y hy => by
      have hne : y ≠ x := fun e => (List.nodup_cons.1 hn).1 (e ▸ hy)
      exact (List.mem_erase_of_ne hne).2 (hl y (by simp [hy]))
    omega
/-- All keys, all numbers of leaves. -/
theorem fits_outer {H1 : Heap} {L : Nat} (h : TrAt G m pg f st) (hL1 : H1.length = L) (hLm : ∀ b, trF m pg st b → b ≠ L) (hL : G[L]? = some (.mp [] 0)) :
    ∃ K, eachW (model_tree_fits.s2 (some m) H1) (some m) (0, ()) G = some (((((st.sp.map fun x => (pgs st.lv x.1).length).sum : Nat) : Int), ()), K) ∧ K[L]? = some (.mp (encA boW (dst ((st.sp.map fun x => nsL f (pgs st.lv x.1)).flatten))) 0) ∧ Keep (fun b => b = L) G K := by
  have hml := h.sp.lt
  have hLl := get_lt hL
  obtain ⟨dc, hhd⟩ := h.sp.head
  have hin : ∀ {k : Int}, k ∈ st.sp.map Prod.fst → ∃ x, afind st.sp k = some x := fun hk => Option.isSome_iff_exists.1 (afind_isSome.2 hk)
  have hsum : (st.sp.map fun x => (pgs st.lv x.1).length).sum ≤ 15360 := by rw [pages_sum h.w.sp h.w.own]; exact h.w.many
  have hsum2 : ((st.sp.map Prod.fst).map fun k => (pgs st.lv k).length) = st.sp.map fun x => (pgs st.lv x.1).length := by rw [List.map_map]; rfl
  have hns2 : ((st.sp.map Prod.fst).map fun k => nsL f (pgs st.lv k)) = st.sp.map fun x => nsL f (pgs st.lv x.1) := by rw [List.map_map]; rfl
  have := each_rows (step := model_tree_fits.s2 (some m) H1) h.sp.keys hhd (keys_nodup h.w.sp) hml hLl (Ne.symm (hLm m (.inl rfl)))
    (fun l => .mp (encA boW (dst (l.map fun k => nsL f (pgs st.lv k)).flatten)) 0) hL (fun k => 2 + (pgs st.lv k).length) (fitR2 pg f st) (fun k => by unfold fitR2; rw [List.length_append, fitR_len]; rfl) (fun l => ((((l.map fun k => (pgs st.lv k).length).sum : Nat) : Int), ()))
    (fun l hl => ⟨by
      rw [dst_eq (ns' := ((st.sp.map Prod.fst).map fun k => nsL f (pgs st.lv k)).flatten) fun k => by
        rw [List.mem_flatten, List.mem_flatten]
        exact ⟨fun ⟨a, ha, hk⟩ => ⟨a, (hl.map _).subset ha, hk⟩, fun ⟨a, ha, hk⟩ => ⟨a, (hl.map _).symm.subset ha, hk⟩⟩], by rw [sum_perm hl]⟩)
    (fun π l => bo_ren π _ _)
    (fun π hπ k hk x hx => by
      obtain ⟨y, hy⟩ := hin hk
      unfold fitR2 at hx
      rcases List.mem_append.1 hx with hx | hx
      · rcases List.mem_cons.1 hx with rfl | hx
        · show Blk.cells [_, _, C.mp (some (π (pg k)))] _ = _
          rw [hπ _ (h.lt (.inr ⟨k, y, hy, rfl⟩))]; rfl
        · rw [List.mem_singleton.1 hx]; rfl
      · unfold rowsK at hx
        obtain ⟨a, ha, hxa⟩ := List.mem_flatten.1 hx
        obtain ⟨j, hj, rfl⟩ := List.mem_map.1 ha
        rw [List.mem_singleton.1 hxa]; rfl)
    (fun l k hl hn hk hkl K hKL hKlow hKlen => by
      obtain ⟨x, hx⟩ := hin hk
      have hspK : MpA K m (spW pg) st.sp := by
        obtain ⟨dc, hd⟩ := h.sp
        exact ⟨dc, by rw [hKlow _ hml (hLm m (.inl rfl))]; exact hd⟩
      have hpk := h.pp k x hx
      have hpkl := hpk.lt
      have hneL := hLm (pg k) (.inr ⟨k, x, hx, rfl⟩)
      have hpK : MpA K (pg k) (lfW f) (pgs st.lv k) := by
        obtain ⟨dc, hd⟩ := hpk
        exact ⟨dc, by rw [hKlow _ (get_lt hd) hneL]; exact hd⟩
      have hLk := get_lt hKL
      have hm1 : mat K (.agg [.int .i64, .bool, .mp]) (some m) k = (some (x.1, x.2, some (pg k), ()) : Option (Int × Bool × Option Nat × Unit)) := hspK.mat (.agg [.int .i64, .bool, .mp]) k (by rw [hx]; rfl)
      have hw : wr (K ++ [Blk.cells [.int .i64 0, .bool false, .mp none] .exact]) K.length 0 [.int .i64 x.1, .bool x.2, .mp (some (pg k))] = some (K ++ [Blk.cells [.int .i64 x.1, .bool x.2, .mp (some (pg k))] .exact]) := by
        rw [wr_t0, wr_c0 _ _ _ _ (by simp)]; rfl
      have t0 : (K ++ [Blk.cells [.int .i64 x.1, .bool x.2, .mp (some (pg k))] .exact])[K.length]? = some (.cells [.int .i64 x.1, .bool x.2, .mp (some (pg k))] .exact) := by rw [tl_get0]; rfl
      have hlen := (hpK.keep (F := fun _ => False) (Keep.app _ K [.cells [.int .i64 x.1, .bool x.2, .mp (some (pg k))] .exact]) fun hf => hf).len
      have hin2 := fits_inner (G := K ++ [.cells [.int .i64 x.1, .bool x.2, .mp (some (pg k))] .exact] ++ [.dead]) (hpK.keep (F := fun _ => False) ((Keep.app _ K [.cells [.int .i64 x.1, .bool x.2, .mp (some (pg k))] .exact]).trans (Keep.app _ _ [.dead])) fun hf => hf) (pgs_asc h.w.lv k) hL1 (Ne.symm hneL) _
        (by rw [List.append_assoc, List.getElem?_append_left hLk]; exact hKL)
      have hle := sum_sub (l := l ++ [k]) (ks := st.sp.map Prod.fst) (List.nodup_append.2 ⟨hn, by simp, fun a ha b hb => by rw [List.mem_singleton.1 hb]; exact fun e => hkl (e ▸ ha)⟩) (fun y hy => (List.mem_append.1 hy).elim (hl y) fun e => by rw [List.mem_singleton.1 e]; exact hk) (fun k => (pgs st.lv k).length)
      rw [hsum2, List.map_append, List.sum_append, List.map_cons, List.map_nil, List.sum_cons, List.sum_nil] at hle
      unfold model_tree_fits.s2
      refine (bind_to hm1).trans ((bind_to hw).trans ((bind_to (rdM_of t0 rfl)).trans ((bind_to hlen).trans ((bind_to (rdM_of t0 rfl)).trans ((bind_to hin2).trans ?_)))))
      show some (_, _) = some (_, _)
      congr 2
      · show ((IntKind.wrap .i64 (_ + _), ()) : Int × Unit) = _
        rw [wrap_i64 (by omega) (by omega), List.map_append, List.sum_append, List.map_cons, List.map_nil, List.sum_cons, List.sum_nil]
        rw [Nat.add_zero, Int.natCast_add]
      · have e1 : (l.map fun k => nsL f (pgs st.lv k)).flatten ++ nsL f (pgs st.lv k) = ((l ++ [k]).map fun k => nsL f (pgs st.lv k)).flatten := by rw [List.map_append, List.flatten_append]; simp
        rw [List.append_assoc, List.set_append_left _ _ hLk, List.append_assoc, e1]
        unfold fitR2
        rw [hx]; rfl)
  rw [hsum2, hns2] at this
  refine ⟨_, this, ?_, ⟨?_, fun b hb hbL => ?_⟩⟩
  · rw [List.getElem?_append_left (by simpa using hLl), set_get hLl]
  · rw [List.length_append, List.length_set]; omega
  · rw [List.getElem?_append_left (by simpa using hb), set_get' (Ne.symm hbL)]
end
end Ev

namespace Ev
open Go (IntKind)

section
variable {H G : Heap} {m : Nat} {pg : Int → Nat} {f f' : LfF} {st : Sta}
theorem cnt_mem {lv : List (Int × Int)} {c : Int} (h : cnt lv c ≠ 0) : ∃ x ∈ lv, x.2 = c := by
  unfold cnt at h
  obtain ⟨x, hx⟩ := List.exists_mem_of_length_pos (Nat.pos_of_ne_zero h)
  have := List.mem_filter.1 hx
  exact ⟨x, this.1, by simpa using this.2⟩
theorem nodup_map_on {α : Type} {l : List Int} {g : Int → α} (h : l.Nodup) (hg : ∀ x ∈ l, ∀ y ∈ l, g x = g y → x = y) : (l.map g).Nodup := by
  unfold List.Nodup
  rw [List.pairwise_map]
  exact List.Pairwise.imp_of_mem (fun {a b} ha hb hne e => hne (hg a ha b hb e)) h
/-- As many numbers as places. -/
theorem dst_count (w : SaW st) (inj : ∀ x ∈ st.lv, ∀ y ∈ st.lv, (f x.2).2 = (f y.2).2 → x.2 = y.2) : (dst ((st.sp.map fun x => nsL f (pgs st.lv x.1)).flatten)).length = (rfOf st.lv).length := by
  have hmem : ∀ n, n ∈ (st.sp.map fun x => nsL f (pgs st.lv x.1)).flatten ↔ ∃ x ∈ st.lv, (f x.2).2 = n := fun n => by
    rw [List.mem_flatten]
    constructor
    · rintro ⟨a, ha, hn⟩
      obtain ⟨y, hy, rfl⟩ := List.mem_map.1 ha
      obtain ⟨z, hz, rfl⟩ := List.mem_map.1 hn
      exact ⟨_, (pgs_mem hz).2.2, rfl⟩
    · rintro ⟨x, hx, rfl⟩
      obtain ⟨y, hy⟩ := Option.isSome_iff_exists.1 (w.own x hx)
      refine ⟨_, List.mem_map.2 ⟨_, afind_mem hy, rfl⟩, List.mem_map.2 ⟨(x.1 % 1024, x.2), ?_, rfl⟩⟩
      have h1 : afind (pgs st.lv (x.1 / 1024)) (x.1 % 1024) = some x.2 := by
        rw [pgs_find w.lv, if_pos (by omega), show x.1 / 1024 * 1024 + x.1 % 1024 = x.1 by omega]
        exact w.lv.find hx
      exact afind_mem h1
  have hA : ∀ c, c ∈ (rfOf st.lv).map Prod.fst ↔ ∃ x ∈ st.lv, x.2 = c := fun c => by
    rw [← afind_isSome, (rfOf_ok st.lv).find]
    constructor
    · intro h
      by_cases e : cnt st.lv c = 0
      · rw [if_pos e] at h; cases h
      · exact cnt_mem e
    · rintro ⟨x, hx, rfl⟩
      have := cnt_pos (w.lv.find (k := x.1) (v := x.2) hx)
      rw [if_neg (by omega)]; rfl
  have hB : ∀ n, n ∈ (dst ((st.sp.map fun x => nsL f (pgs st.lv x.1)).flatten)).map Prod.fst ↔ ∃ x ∈ st.lv, (f x.2).2 = n := fun n => by
    rw [← afind_isSome, dst_find, ← hmem]
    by_cases e : n ∈ (st.sp.map fun x => nsL f (pgs st.lv x.1)).flatten
    · rw [if_pos e]; exact ⟨fun _ => e, fun _ => rfl⟩
    · rw [if_neg e]; exact ⟨fun h => (by cases h), fun h => absurd h e⟩
  have nA : ((rfOf st.lv).map Prod.fst).Nodup := keys_nodup (rfOf_ok _).asc
  have nB : ((dst ((st.sp.map fun x => nsL f (pgs st.lv x.1)).flatten)).map Prod.fst).Nodup := keys_nodup (dst_asc _)
  have nA' : (((rfOf st.lv).map Prod.fst).map fun c => (f c).2).Nodup := nodup_map_on nA fun a ha b hb e => by
    obtain ⟨x, hx, rfl⟩ := (hA a).1 ha
    obtain ⟨y, hy, rfl⟩ := (hA b).1 hb
    exact inj x hx y hy e
  have h1 := nodup_len nA' fun n hn => by
    obtain ⟨c, hc, rfl⟩ := List.mem_map.1 hn
    obtain ⟨x, hx, rfl⟩ := (hA c).1 hc
    exact (hB _).2 ⟨x, hx, rfl⟩
  have h2 := nodup_len (ks := ((rfOf st.lv).map Prod.fst).map fun c => (f c).2) nB fun n hn => by
    obtain ⟨x, hx, rfl⟩ := (hB n).1 hn
    exact List.mem_map.2 ⟨x.2, (hA _).2 ⟨x, hx, rfl⟩, rfl⟩
  simp only [List.length_map] at h1 h2
  omega
def fitS (st : Sta) (r : Int × Int × Int × Int × Unit) : Bool := decide ((st.lv.length : Int) ≤ r.2.1) && decide (((rfOf st.lv).length : Int) ≤ r.1)
theorem tr_fits (h : TrAt H m pg f st) (r : Int × Int × Int × Int × Unit) (inj : ∀ x ∈ st.lv, ∀ y ∈ st.lv, (f x.2).2 = (f y.2).2 → x.2 = y.2) :
    WP (model_tree_fits (some m) r H) fun x => x.1.1 = fitS st r ∧ Keep (fun _ => False) H x.2 := by
  have k0 := Keep.app (fun _ => False) H [.cells [.int .i64 r.1, .int .i64 r.2.1, .int .i64 r.2.2.1, .int .i64 r.2.2.2.1] .exact, .mp [] 0, .dead]
  have h0 := h.keep k0 fun _ _ hf => hf
  have hL1 : (H ++ [Blk.cells [.int .i64 r.1, .int .i64 r.2.1, .int .i64 r.2.2.1, .int .i64 r.2.2.2.1] .exact]).length = H.length + 1 := by simp
  have e0 : H ++ [Blk.cells [.int .i64 r.1, .int .i64 r.2.1, .int .i64 r.2.2.1, .int .i64 r.2.2.2.1] .exact] ++ [.mp [] 0] ++ [.dead] = H ++ [.cells [.int .i64 r.1, .int .i64 r.2.1, .int .i64 r.2.2.1, .int .i64 r.2.2.2.1] .exact, .mp [] 0, .dead] := by simp
  obtain ⟨K, e1, e2, e3⟩ := fits_outer (L := H.length + 1) h0 hL1 (fun b hb => by have := h.lt hb; omega) (by rw [tl_get1]; rfl)
  have t0 : K[H.length]? = some (.cells [.int .i64 r.1, .int .i64 r.2.1, .int .i64 r.2.2.1, .int .i64 r.2.2.2.1] .exact) := e3.get (by rw [tl_get0]; rfl) (by omega)
  have hlen := MpA.len (f := boW) (l := dst ((st.sp.map fun x => nsL f (pgs st.lv x.1)).flatten)) ⟨0, e2⟩
  rw [pages_sum h.w.sp h.w.own] at e1
  have hkK : Keep (fun _ => False) H K := ⟨by have := e3.len; simp only [List.length_append] at this; omega, fun b hb _ => by
    rw [e3.same b (by simp only [List.length_append]; omega) (by omega)]; exact List.getElem?_append_left hb⟩
  unfold model_tree_fits fitS
  simp only
  rw [e0]
  refine wp_to e1 (wp_to (rdI_of t0 rfl) (wp_c (fun e => ?_) (fun e => ?_)))
  · have e : decide ((st.lv.length : Int) ≤ r.2.1) = true := e
    rw [e, Bool.true_and, hL1]
    refine wp_to hlen (wp_to (rdI_of t0 rfl) (wp_some ⟨?_, hkK⟩))
    rw [dst_count h.w inj]
  · have e : decide ((st.lv.length : Int) ≤ r.2.1) = false := e
    rw [e, Bool.false_and]
    exact wp_some ⟨rfl, hkK⟩
theorem pgs_off {lv : List (Int × Int)} (h : Asc lv) {id id' : Int} (hne : id' ≠ id) : pgs (lvOff lv id) id' = pgs lv id' := by
  unfold pgs lvOff
  rw [List.filter_filter]
  congr 1
  refine List.filter_congr fun x _ => ?_
  by_cases e : x.1 / 1024 = id'
  · rw [decide_eq_true e, decide_eq_false (show ¬ x.1 / 1024 = id by omega)]; rfl
  · rw [decide_eq_false e]; rfl
theorem pgs_insAll {lv P : List (Int × Int)} (h : Asc lv) (hP : Asc P) (hpb : ∀ x ∈ P, 0 ≤ x.1 ∧ x.1 < 1024) (to id' : Int) (hfree : ∀ p, 0 ≤ p ∧ p < 1024 → afind lv (to * 1024 + p) = none) :
    pgs (insAll to lv P) id' = if id' = to then P else pgs lv id' := by
  by_cases e : id' = to
  · rw [if_pos e, e]
    refine asc_ext (pgs_asc (insAll_asc h) _) hP fun p => ?_
    rw [pgs_find (insAll_asc h), insAll_find _ h hP, show to * 1024 + p - to * 1024 = p by omega]
    by_cases hp : 0 ≤ p ∧ p < 1024
    · rw [if_pos hp, hfree p hp, Option.or_none]
    · rw [if_neg hp, afind_none fun x hx hh => hp (by have := hpb x hx; omega)]
  · rw [if_neg e]
    refine asc_ext (pgs_asc (insAll_asc h) _) (pgs_asc h _) fun p => ?_
    rw [pgs_find (insAll_asc h), pgs_find h, insAll_find _ h hP]
    by_cases hp : 0 ≤ p ∧ p < 1024
    · rw [if_pos hp, if_pos hp, afind_none (l := P) fun x hx hh => by have := hpb x hx; omega, Option.none_or]
    · rw [if_neg hp, if_neg hp]
/-- A new space, with a map of its own. -/
theorem TrAt.added (h : TrAt G m pg f st) {to q : Int} (hto : 1 ≤ to ∧ to ≤ 15) (hq : q ≤ 1024) (hn : afind st.sp to = none) {P : List (Int × Int)} (hP : Asc P) (hpb : ∀ x ∈ P, 0 ≤ x.1 ∧ x.1 < 1024) {N : Nat} (hN : MpA G N (lfW f) P) (hNn : ∀ b, trF m pg st b → b ≠ N) :
    ∃ K, mset G (some m) to (.agg [.int .i64 q, .bool false, .mp (some N)]) = some K ∧ TrAt K m (fun j => if j = to then N else pg j) f ⟨ains st.sp to (q, false), insAll to st.lv P, st.bd, st.wn⟩ ∧ Keep (fun b => b = m) G K := by
  obtain ⟨ds, hS⟩ := h.sp
  have hS' : G[m]? = some (.mp (encA (spW fun j => if j = to then N else pg j) st.sp) ds) := by
    rw [hS, enc_congr (f := spW pg) (g := spW fun j => if j = to then N else pg j) fun y hy => by
      have hne : y.1 ≠ to := fun e => by rw [← e, h.w.sp.find (k := y.1) (v := y.2) hy] at hn; cases hn
      unfold spW
      simp only [if_neg hne]]
  have hset := mset_of hS' to (q, false) (w := .agg [.int .i64 q, .bool false, .mp (some N)]) (by unfold spW; simp only [if_true])
  have kk : Keep (fun b => b = m) G (G.set m (.mp (encA (spW fun j => if j = to then N else pg j) (ains st.sp to (q, false))) ds)) := Keep.set _ _ _ rfl
  have hml := get_lt hS
  have hfree : ∀ p, 0 ≤ p ∧ p < 1024 → afind st.lv (to * 1024 + p) = none := fun p hp => free_keys h.w hn hp
  have w' : SaW ⟨ains st.sp to (q, false), insAll to st.lv P, st.bd, st.wn⟩ := by
    have w1 : SaW (st.openS to q P).2 := by
      unfold Sta.openS
      rw [hn, if_neg (by decide)]
      refine ⟨h.w.sp.ins _ _, insAll_asc h.w.lv, h.w.bd, h.w.wn, fun y hy => ?_, fun y hy => (ains_mem hy).elim (fun e => by rw [e]; exact ⟨hto.1, hto.2, hq⟩) (h.w.ids y), h.w.bds, h.w.wns⟩
      have hf : afind (insAll to st.lv P) y.1 = some y.2 := (insAll_asc h.w.lv).find hy
      rw [insAll_find y.1 h.w.lv hP] at hf
      show (afind (ains st.sp to (q, false)) (y.1 / 1024)).isSome = true
      rw [afind_ins h.w.sp]
      cases hg : afind P (y.1 - to * 1024) with
      | some u =>
        have := hpb _ (afind_mem hg)
        simp only at this
        rw [if_pos (by omega)]; rfl
      | none =>
        rw [hg] at hf
        split
        · rfl
        · exact h.w.own y (afind_mem hf)
    unfold Sta.openS at w1
    rw [hn, if_neg (by decide)] at w1
    exact w1
  have hfi : ∀ id x, afind (ains st.sp to (q, false)) id = some x → (id = to) ∨ (id ≠ to ∧ afind st.sp id = some x) := fun id x hx => by
    rw [afind_ins h.w.sp] at hx
    by_cases e : id = to
    · exact .inl e
    · rw [if_neg e] at hx; exact .inr ⟨e, hx⟩
  refine ⟨_, hset, ⟨w', ⟨ds, set_get hml⟩, fun id x hx => ?_, fun id x hx => ?_, fun id x id' x' hx hx' e => ?_⟩, kk⟩
  · show MpA _ (if id = to then N else pg id) _ (pgs (insAll to st.lv P) id)
    rw [pgs_insAll h.w.lv hP hpb to id hfree]
    rcases hfi id x hx with e | ⟨e, hx⟩
    · rw [if_pos e, if_pos e]; exact hN.keep kk (Ne.symm (hNn m (.inl rfl)))
    · rw [if_neg e, if_neg e]; exact (h.pp id x hx).keep kk (h.pn id x hx)
  · show (if id = to then N else pg id) ≠ m
    rcases hfi id x hx with e | ⟨e, hx⟩
    · rw [if_pos e]; exact Ne.symm (hNn m (.inl rfl))
    · rw [if_neg e]; exact h.pn id x hx
  · have e : (if id = to then N else pg id) = (if id' = to then N else pg id') := e
    rcases hfi id x hx with e1 | ⟨e1, hx1⟩
    · rcases hfi id' x' hx' with e2 | ⟨e2, hx2⟩
      · rw [e1, e2]
      · rw [if_pos e1, if_neg e2] at e
        exact absurd e.symm (hNn _ (.inr ⟨id', x', hx2, rfl⟩))
    · rcases hfi id' x' hx' with e2 | ⟨e2, hx2⟩
      · rw [if_neg e1, if_pos e2] at e
        exact absurd e (hNn _ (.inr ⟨id, x, hx1, rfl⟩))
      · rw [if_neg e1, if_neg e2] at e
        exact h.pi id x id' x' hx1 hx2 e
end
end Ev

namespace Ev
open Go (IntKind)

section
variable {H G K : Heap} {m : Nat} {pg : Int → Nat} {f f' : LfF} {st : Sta}
/-- A space's pages, changed. -/
theorem TrAt.page (h : TrAt G m pg f st) {id p : Int} {x : Int × Bool} (hx : afind st.sp id = some x) (hp : 0 ≤ p ∧ p < 1024) {lv' : List (Int × Int)} (w' : SaW ⟨st.sp, lv', st.bd, st.wn⟩) (hf : ∀ y ∈ st.lv, f y.2 = f' y.2) (hoth : ∀ id', id' ≠ id → pgs lv' id' = pgs st.lv id') {dc : Nat} :
    TrAt (G.set (pg id) (.mp (encA (lfW f') (pgs lv' id)) dc)) m pg f' ⟨st.sp, lv', st.bd, st.wn⟩ ∧ Keep (fun b => b = pg id) G (G.set (pg id) (.mp (encA (lfW f') (pgs lv' id)) dc)) := by
  have kk : Keep (fun b => b = pg id) G (G.set (pg id) (.mp (encA (lfW f') (pgs lv' id)) dc)) := Keep.set _ _ _ rfl
  have h' := h.congr hf
  refine ⟨⟨w', h'.sp.keep kk (Ne.symm (h.pn id x hx)), fun id' x' hx' => ?_, h.pn, h.pi⟩, kk⟩
  by_cases e : id' = id
  · subst e
    exact ⟨dc, set_get (h.pp id' x hx).lt⟩
  · show MpA _ _ _ (pgs lv' id')
    rw [hoth id' e]
    exact (h'.pp id' x' hx').keep kk fun hh => e (h.pi _ _ _ _ hx' hx hh)
theorem TrAt.dropped (h : TrAt G m pg f st) (id : Int) : ∃ K, mdel G (some m) id = some K ∧ TrAt K m pg f ⟨adrop st.sp id, lvOff st.lv id, st.bd, st.wn⟩ ∧ Keep (fun b => b = m) G K := by
  obtain ⟨K, e1, e2, e3⟩ := h.sp.del id
  have hfi : ∀ j x, afind (adrop st.sp id) j = some x → j ≠ id ∧ afind st.sp j = some x := fun j x hx => by
    rw [afind_drop h.w.sp] at hx
    by_cases e : j = id
    · rw [if_pos e] at hx; cases hx
    · rw [if_neg e] at hx; exact ⟨e, hx⟩
  have w' : SaW ⟨adrop st.sp id, lvOff st.lv id, st.bd, st.wn⟩ := ⟨h.w.sp.drop _, lvOff_asc h.w.lv id, h.w.bd, h.w.wn, fun y hy => by
    have hm := List.mem_filter.1 hy
    have hne : ¬ y.1 / 1024 = id := by simpa using hm.2
    show (afind (adrop st.sp id) (y.1 / 1024)).isSome = true
    rw [afind_drop h.w.sp, if_neg hne]
    exact h.w.own y hm.1, fun y hy => h.w.ids y ((adrop_sub _ _).subset hy), h.w.bds, h.w.wns⟩
  refine ⟨K, e1, ⟨w', e2, fun j x hx => ?_, fun j x hx => h.pn j x (hfi j x hx).2, fun j x j' x' hx hx' e => h.pi _ _ _ _ (hfi j x hx).2 (hfi j' x' hx').2 e⟩, e3⟩
  have := hfi j x hx
  show MpA _ _ _ (pgs (lvOff st.lv id) j)
  rw [pgs_off h.w.lv this.1]
  exact (h.pp j x this.2).keep e3 (h.pn j x this.2)
theorem TrAt.sealed (h : TrAt G m pg f st) {id : Int} {x : Int × Bool} (hx : afind st.sp id = some x) : ∃ K, mset G (some m) id (.agg [.int .i64 x.1, .bool true, .mp (some (pg id))]) = some K ∧ TrAt K m pg f ⟨ains st.sp id (x.1, true), st.lv, st.bd, st.wn⟩ ∧ Keep (fun b => b = m) G K := by
  obtain ⟨K, e1, e2, e3⟩ := h.sp.set id (x.1, true)
  have hfi : ∀ j y, afind (ains st.sp id (x.1, true)) j = some y → ∃ z, afind st.sp j = some z := fun j y hy => by
    rw [afind_ins h.w.sp] at hy
    by_cases e : j = id
    · exact ⟨x, e ▸ hx⟩
    · rw [if_neg e] at hy; exact ⟨y, hy⟩
  have hid := h.w.ids _ (afind_mem hx)
  have w' : SaW ⟨ains st.sp id (x.1, true), st.lv, st.bd, st.wn⟩ := ⟨h.w.sp.ins _ _, h.w.lv, h.w.bd, h.w.wn, fun y hy => by
    show (afind (ains st.sp id (x.1, true)) (y.1 / 1024)).isSome = true
    rw [afind_ins h.w.sp]
    split
    · rfl
    · exact h.w.own y hy, fun y hy => (ains_mem hy).elim (fun e => by rw [e]; exact hid) (h.w.ids y), h.w.bds, h.w.wns⟩
  refine ⟨K, e1, ⟨w', e2, fun j y hy => ?_, fun j y hy => ?_, fun j y j' y' hy hy' e => ?_⟩, e3⟩
  · obtain ⟨z, hz⟩ := hfi j y hy
    exact (h.pp j z hz).keep e3 (h.pn j z hz)
  · obtain ⟨z, hz⟩ := hfi j y hy
    exact h.pn j z hz
  · obtain ⟨z, hz⟩ := hfi j y hy
    obtain ⟨z', hz'⟩ := hfi j' y' hy'
    exact h.pi _ _ _ _ hz hz' e
theorem wp_tmpS {β : Type} {a : Int} {b : Bool} {c : Option Nat} {K : Heap → Option β} {Q : β → Prop} (k : WP (K (G ++ [.cells [.int .i64 a, .bool b, .mp c] .exact])) Q) :
    WP ((wr (G ++ [.cells [.int .i64 0, .bool false, .mp none] .exact]) G.length 0 [.int .i64 a, .bool b, .mp c]).bind K) Q :=
  wp_to (by rw [wr_t0, wr_c0 _ _ _ _ (by simp)]; rfl) k
theorem wp_tmpL {β : Type} {a : Bytes} {b : Int} {K : Heap → Option β} {Q : β → Prop} (k : WP (K (G ++ [.cells [.str a, .int .i64 b] .exact])) Q) :
    WP ((wr (G ++ [.cells [.str [], .int .i64 0] .exact]) G.length 0 [.str a, .int .i64 b]).bind K) Q :=
  wp_to (by rw [wr_t0, wr_c0 _ _ _ _ (by simp)]; rfl) k
/-- What a record does to a tree. -/
theorem tr_do (h : TrAt H m pg f st) {x : RecT} (g : GoodR x) (hk : x.1 = 2 ∨ (4 ≤ x.1 ∧ x.1 ≤ 7)) :
    WP (model_tree_do (some m) x H) fun r => r.1.1 = (st.applyS x).1 ∧ ∃ pg', TrAt r.2 m pg' f (st.applyS x).2 ∧ Keep (trF m pg st) H r.2 := by
  have hbx : ∀ b, trF m pg st b → b < H.length := fun b hb => h.lt hb
  have hT : ∀ {A B : Heap}, Keep (fun b => b = m) A B → Keep (trF m pg st) A B := fun k => k.mono fun b e => .inl e
  have hF : ∀ {A B : Heap}, Keep (fun _ => False) A B → Keep (trF m pg st) A B := fun k => k.mono fun b e => e.elim
  unfold model_tree_do
  simp only
  have k1 := Keep.app (fun _ => False) H [.cells [.int .i64 x.1, .int .i64 x.2.1, .int .i64 x.2.2.1, .int .i64 x.2.2.2.1, .int .i64 x.2.2.2.2.1, .int .i64 x.2.2.2.2.2.1] .exact]
  have t1 : (H ++ [Blk.cells [.int .i64 x.1, .int .i64 x.2.1, .int .i64 x.2.2.1, .int .i64 x.2.2.2.1, .int .i64 x.2.2.2.2.1, .int .i64 x.2.2.2.2.2.1] .exact])[H.length]? = some (recB x) := by rw [tl_get0]; rfl
  have h1 := h.keep k1 fun _ _ hf => hf
  have l1 : (H ++ [Blk.cells [.int .i64 x.1, .int .i64 x.2.1, .int .i64 x.2.2.1, .int .i64 x.2.2.2.1, .int .i64 x.2.2.2.2.1, .int .i64 x.2.2.2.2.2.1] .exact]).length = H.length + 1 := by simp
  generalize H ++ [Blk.cells [.int .i64 x.1, .int .i64 x.2.1, .int .i64 x.2.2.1, .int .i64 x.2.2.2.1, .int .i64 x.2.2.2.2.1, .int .i64 x.2.2.2.2.2.1] .exact] = H1 at k1 t1 h1 l1 ⊢
  refine wp_to (rdI_of t1 rfl) (wp_to (h1.sp.space x.2.1) (wp_tmpS ?_))
  have k2 := Keep.app (fun _ => False) H1 [.cells [.int .i64 (spV pg x.2.1 (afind st.sp x.2.1)).1, .bool (spV pg x.2.1 (afind st.sp x.2.1)).2.1, .mp (spV pg x.2.1 (afind st.sp x.2.1)).2.2.1] .exact]
  have t2 := k2.get t1 fun hf => hf
  have h2 := h1.keep k2 fun _ _ hf => hf
  have b2 : (H1 ++ [Blk.cells [.int .i64 (spV pg x.2.1 (afind st.sp x.2.1)).1, .bool (spV pg x.2.1 (afind st.sp x.2.1)).2.1, .mp (spV pg x.2.1 (afind st.sp x.2.1)).2.2.1] .exact])[H1.length]? = some (.cells [.int .i64 (spV pg x.2.1 (afind st.sp x.2.1)).1, .bool (spV pg x.2.1 (afind st.sp x.2.1)).2.1, .mp (spV pg x.2.1 (afind st.sp x.2.1)).2.2.1] .exact) := by rw [tl_get0]; rfl
  have l2 : (H1 ++ [Blk.cells [.int .i64 (spV pg x.2.1 (afind st.sp x.2.1)).1, .bool (spV pg x.2.1 (afind st.sp x.2.1)).2.1, .mp (spV pg x.2.1 (afind st.sp x.2.1)).2.2.1] .exact]).length = H.length + 2 := by simp [l1]
  generalize H1 ++ [Blk.cells [.int .i64 (spV pg x.2.1 (afind st.sp x.2.1)).1, .bool (spV pg x.2.1 (afind st.sp x.2.1)).2.1, .mp (spV pg x.2.1 (afind st.sp x.2.1)).2.2.1] .exact] = H2 at k2 t2 h2 b2 l2 ⊢
  have k12 := k1.trans k2
  refine wp_to (rdI_of t2 rfl) ?_
  have hap0 := show st.applyS x = _ by unfold Sta.applyS; rw [if_neg (show ¬ x.1 = 3 by omega), if_neg (show ¬ x.1 = 8 by omega), if_neg (show ¬ x.1 = 9 by omega)]
  by_cases k4 : x.1 = 4
  · rw [if_pos k4] at hap0
    unfold Sta.openS at hap0
    cases hf : afind st.sp x.2.1 with
    | some y =>
      rw [hf, if_pos (show (some y).isSome = true from rfl)] at hap0
      rw [hap0]
      exact wp_t (by simp [hf, k4]) (wp_some ⟨rfl, pg, h2, hF k12⟩)
    | none =>
      rw [hf, if_neg (by decide)] at hap0
      rw [hap0]
      have k3 := Keep.app (fun _ => False) H2 [.mp [] 0]
      have h3 := h2.keep k3 fun _ _ hf => hf
      have hml := h2.lt (.inl rfl)
      obtain ⟨K, e1, e2, e3⟩ := h3.added (g.k4 k4).1 (g.k4 k4).2 hf (P := []) Asc.nil (fun x hx => absurd hx List.not_mem_nil) (N := H2.length) ⟨0, by rw [tl_get0]; rfl⟩ fun b hb => by have := hbx b hb; omega
      refine wp_f (by simp [hf, k4]) (wp_to (rdI_of t2 rfl) (wp_t (decide_eq_true k4) (wp_to (rdI_of t2 rfl) (wp_to (rdI_of t2 rfl) (wp_to e1 (wp_some ⟨rfl, _, e2, (hF (k12.trans k3)).trans (hT e3)⟩))))))
  · rw [if_neg k4] at hap0
    cases hf : afind st.sp x.2.1 with
    | none =>
      rw [hf] at hap0
      rw [hap0]
      exact wp_t (by simp [hf, k4]) (wp_some ⟨rfl, pg, h2, hF k12⟩)
    | some y =>
      rw [hf] at hap0 b2
      simp only at hap0
      rw [if_neg (show ¬ x.1 = 1 by omega)] at hap0
      have hid := h.w.ids _ (afind_mem hf)
      refine wp_f (by simp [hf, k4]) (wp_to (rdI_of t2 rfl) (wp_f (decide_eq_false k4) ?_))
      refine wp_if (p := x.1 = 5) rfl (fun k5 => ?_) (fun k5 => ?_)
      · rw [if_neg (show ¬ x.1 = 2 by omega), if_pos k5] at hap0
        rw [hap0]
        obtain ⟨K, e1, e2, e3⟩ := h2.dropped x.2.1
        exact wp_to (rdI_of t2 rfl) (wp_to e1 (wp_some ⟨rfl, _, e2, (hF k12).trans (hT e3)⟩))
      refine wp_if (p := x.1 = 6) rfl (fun k6 => ?_) (fun k6 => ?_)
      · rw [if_neg (show ¬ x.1 = 2 by omega), if_neg k5, if_pos k6] at hap0
        unfold Sta.openS at hap0
        refine wp_to (rdI_of t2 rfl) (wp_to (h2.sp.space x.2.2.2.2.1) (wp_tmpS ?_))
        have k3 := Keep.app (fun _ => False) H2 [.cells [.int .i64 (spV pg x.2.2.2.2.1 (afind st.sp x.2.2.2.2.1)).1, .bool (spV pg x.2.2.2.2.1 (afind st.sp x.2.2.2.2.1)).2.1, .mp (spV pg x.2.2.2.2.1 (afind st.sp x.2.2.2.2.1)).2.2.1] .exact]
        have t3 := k3.get t2 fun hf => hf
        have h3 := h2.keep k3 fun _ _ hf => hf
        have b3 := k3.get b2 fun hf => hf
        have l3 : H2.length ≤ (H2 ++ [Blk.cells [.int .i64 (spV pg x.2.2.2.2.1 (afind st.sp x.2.2.2.2.1)).1, .bool (spV pg x.2.2.2.2.1 (afind st.sp x.2.2.2.2.1)).2.1, .mp (spV pg x.2.2.2.2.1 (afind st.sp x.2.2.2.2.1)).2.2.1] .exact]).length := by simp
        generalize H2 ++ [Blk.cells [.int .i64 (spV pg x.2.2.2.2.1 (afind st.sp x.2.2.2.2.1)).1, .bool (spV pg x.2.2.2.2.1 (afind st.sp x.2.2.2.2.1)).2.1, .mp (spV pg x.2.2.2.2.1 (afind st.sp x.2.2.2.2.1)).2.2.1] .exact] = H3 at k3 t3 h3 b3 l3 ⊢
        cases hf2 : afind st.sp x.2.2.2.2.1 with
        | some z =>
          rw [hf2, if_pos (show (some z).isSome = true from rfl)] at hap0
          rw [hap0]
          exact wp_t rfl (wp_some ⟨rfl, pg, h3, hF (k12.trans k3)⟩)
        | none =>
          rw [hf2, if_neg (by decide)] at hap0
          rw [hap0]
          have hpp := h3.pp x.2.1 y hf
          have hcl := hpp.clone
          have k4' := Keep.app (fun _ => False) H3 [.mp (encA (lfW f) (pgs st.lv x.2.1)) 0]
          have t4 := k4'.get t3 fun hf => hf
          have b4 := k4'.get b3 fun hf => hf
          have h4 := h3.keep k4' fun _ _ hf => hf
          obtain ⟨K, e1, e2, e3⟩ := h4.added (g.k6 k6) hid.2.2 hf2 (P := pgs st.lv x.2.1) (pgs_asc h.w.lv _) (fun z hz => by have := pgs_mem hz; exact ⟨this.1, this.2.1⟩) (N := H3.length) ⟨0, by rw [tl_get0]; rfl⟩ fun b hb => by have := hbx b hb; omega
          refine wp_f rfl (wp_to (rdI_of t3 rfl) (wp_to (rdI_of b3 rfl) (wp_to (rdM_of b3 rfl) (wp_to hcl (wp_to (rdI_of t4 rfl) (wp_ite rfl (wp_to (rdI_of b4 rfl) (wp_ite rfl (wp_to e1 (wp_some ⟨rfl, _, e2, (hF ((k12.trans k3).trans k4')).trans (hT e3)⟩))))))))))
      refine wp_if (p := x.1 = 7) rfl (fun k7 => ?_) (fun k7 => ?_)
      · rw [if_neg (show ¬ x.1 = 2 by omega), if_neg k5, if_neg k6] at hap0
        rw [hap0]
        have hw : wr H2 H1.length 1 [.bool true] = some (H2.set H1.length (.cells [.int .i64 y.1, .bool true, .mp (some (pg x.2.1))] .exact)) := by rw [wr1_of b2 (by decide) (by simp)]; rfl
        have kk : Keep (fun b => b = H1.length) H2 (H2.set H1.length (.cells [.int .i64 y.1, .bool true, .mp (some (pg x.2.1))] .exact)) := Keep.set _ _ _ rfl
        have h3 := h2.keep kk fun b hb e => by have := hbx b hb; omega
        have t3 := kk.get t2 (by omega)
        have b3 : (H2.set H1.length (.cells [.int .i64 y.1, .bool true, .mp (some (pg x.2.1))] .exact))[H1.length]? = some (.cells [.int .i64 y.1, .bool true, .mp (some (pg x.2.1))] .exact) := set_get (by omega)
        obtain ⟨K, e1, e2, e3⟩ := h3.sealed hf
        refine wp_to hw (wp_to (rdI_of t3 rfl) (wp_to (v := ((y.1, true, some (pg x.2.1), ()) : Int × Bool × Option Nat × Unit)) (rd_agg_of b3 (by simp) rfl) (wp_to e1 (wp_some ⟨rfl, _, e2, ?_⟩))))
        refine Keep.trans2 ((hF k12).trans2 kk fun b hb e => by omega) (hT e3) fun b hb e => e
      · have k2' : x.1 = 2 := by omega
        rw [if_pos k2'] at hap0
        have hpp := h2.pp x.2.1 y hf
        refine wp_to (rdM_of b2 rfl) (wp_to (rdI_of t2 rfl) (wp_to (hpp.leaf x.2.2.1) (wp_tmpL ?_)))
        cases hp : afind (pgs st.lv x.2.1) x.2.2.1 with
        | none =>
          rw [hp, if_neg (by decide)] at hap0
          rw [hap0]
          have k3 := Keep.app (fun _ => False) H2 [.cells [.str [], .int .i64 0] .exact]
          exact wp_t rfl (wp_some ⟨rfl, pg, h2.keep k3 fun _ _ hf => hf, hF (k12.trans k3)⟩)
        | some v =>
          rw [hp, if_pos (show (some v).isSome = true from rfl)] at hap0
          rw [hap0]
          have k3 := Keep.app (fun _ => False) H2 [.cells [.str (f v).1, .int .i64 (f v).2] .exact]
          have t3 := k3.get t2 fun hf => hf
          have b3 := k3.get b2 fun hf => hf
          have h3 := h2.keep k3 fun _ _ hf => hf
          obtain ⟨dp, hP⟩ := h3.pp x.2.1 y hf
          have hpb : 0 ≤ x.2.2.1 ∧ x.2.2.1 < 1024 := by
            have := pgs_mem (afind_mem hp)
            exact ⟨this.1, this.2.1⟩
          have hdel := mdel_of hP x.2.2.1
          have hpd := pgs_drop h.w.lv x.2.1 x.2.2.1 hpb
          have hpd0 := hpd x.2.1
          rw [if_pos rfl] at hpd0
          have w' : SaW ⟨st.sp, adrop st.lv (x.2.1 * 1024 + x.2.2.1), st.bd, st.wn⟩ := h.w.less _
          obtain ⟨q1, q2⟩ := h3.page (f' := f) hf hpb (dc := dp + 1) w' (fun _ _ => rfl) fun id' hne => by rw [hpd id', if_neg hne]
          rw [hpd0] at q1 q2
          refine wp_f rfl (wp_to (rdM_of b3 rfl) (wp_to (rdI_of t3 rfl) (wp_to hdel (wp_some ⟨rfl, pg, q1, ?_⟩))))
          exact (hF (k12.trans k3)).trans (q2.mono fun b e => .inr ⟨x.2.1, y, hf, e⟩)
end
end Ev

namespace Ev
open Go (IntKind)

/-- Pages at places of their own, from 1000 on; what they say. -/
structure Pln where
  st : Sta
  tx : List Bytes
/-- A transaction; how many changes were made. -/
structure Tx where
  p : Pln
  many : Nat
abbrev RoomT := Int × Int × Int × Int × Unit
def Tx.stepD (t : Tx) (x : RecT) (r : RoomT) : Int × Tx :=
  if 8 ≤ t.many then (171, t) else if ¬ (t.p.st.applyS x).1 = 0 then ((t.p.st.applyS x).1, t) else if fitS (t.p.st.applyS x).2 r = true then (0, ⟨⟨(t.p.st.applyS x).2, t.p.tx⟩, t.many + 1⟩) else (172, t)
def putR (t : Tx) (id p : Int) : RecT := (1, id, p, 1000 + (t.p.tx.length : Int), 0, 0, ())
def Tx.stepP (t : Tx) (id p : Int) (text : Bytes) (r : RoomT) : Int × Tx :=
  if 8 ≤ t.many then (171, t) else if ¬ (t.p.st.applyS (putR t id p)).1 = 0 then ((t.p.st.applyS (putR t id p)).1, t) else if fitS (t.p.st.applyS (putR t id p)).2 r = true then (0, ⟨⟨(t.p.st.applyS (putR t id p)).2, t.p.tx ++ [text]⟩, t.many + 1⟩) else (172, t)
def ownK (x : RecT) : Bool := decide (x.1 = 2 ∨ (4 ≤ x.1 ∧ x.1 ≤ 7))
def Tx.doS (t : Tx) (x : RecT) (r : RoomT) : Int × Tx :=
  if ownK x = true ∧ chkR x = true then (if x.1 = 2 ∧ mayS t.p.st x.2.1 ≠ 0 then (mayS t.p.st x.2.1, t) else t.stepD x r) else (1, t)
def Tx.putS (t : Tx) (id p : Int) (text : Bytes) (r : RoomT) (size : Int) : Int × Tx :=
  if size < (text.length : Int) then (173, t) else if mayS t.p.st id ≠ 0 then (mayS t.p.st id, t) else t.stepP id p text r
/-- What pages say, and their numbers. -/
structure PlOK (p : Pln) (f : LfF) (n : Nat) : Prop where
  at_ : ∀ x ∈ p.st.lv, 1000 ≤ x.2 ∧ x.2 < 1000 + (p.tx.length : Int)
  tx : ∀ (i : Nat) (h : i < p.tx.length), (f (1000 + (i : Int))).1 = p.tx[i] ∧ 1 ≤ (f (1000 + (i : Int))).2 ∧ (f (1000 + (i : Int))).2 ≤ (n : Int)
  inj : ∀ i j : Nat, i < p.tx.length → j < p.tx.length → (f (1000 + (i : Int))).2 = (f (1000 + (j : Int))).2 → i = j
section
variable {p : Pln} {f : LfF} {n : Nat}
theorem PlOK.one (h : PlOK p f n) {x : Int × Int} (hx : x ∈ p.st.lv) : ∃ i : Nat, i < p.tx.length ∧ x.2 = 1000 + (i : Int) := by
  have := h.at_ x hx
  exact ⟨(x.2 - 1000).toNat, by omega, by omega⟩
theorem PlOK.inj' (h : PlOK p f n) : ∀ x ∈ p.st.lv, ∀ y ∈ p.st.lv, (f x.2).2 = (f y.2).2 → x.2 = y.2 := fun x hx y hy e => by
  obtain ⟨i, hi, ei⟩ := h.one hx
  obtain ⟨j, hj, ej⟩ := h.one hy
  rw [ei, ej] at e ⊢
  rw [h.inj i j hi hj e]
def updF (f : LfF) (v : Int) (z : Bytes × Int) : LfF := fun u => if u = v then z else f u
theorem updF_at (f : LfF) (v : Int) (z : Bytes × Int) : updF f v z v = z := if_pos rfl
theorem updF_ne (f : LfF) {v u : Int} (z : Bytes × Int) (h : u ≠ v) : updF f v z u = f u := if_neg h
theorem PlOK.old (h : PlOK p f n) {L : Nat} (hL : p.tx.length ≤ L) (z : Bytes × Int) : PlOK p (updF f (1000 + (L : Int)) z) (n + 1) := by
  have e : ∀ i : Nat, i < p.tx.length → updF f (1000 + (L : Int)) z (1000 + (i : Int)) = f (1000 + (i : Int)) := fun i hi => updF_ne f z (by omega)
  refine ⟨h.at_, fun i hi => ?_, fun i j hi hj hh => ?_⟩
  · rw [e i hi]; have := h.tx i hi; exact ⟨this.1, this.2.1, by omega⟩
  · rw [e i hi, e j hj] at hh; exact h.inj i j hi hj hh
theorem PlOK.same (h : PlOK p f n) {L : Nat} (hL : p.tx.length ≤ L) (z : Bytes × Int) : ∀ x ∈ p.st.lv, f x.2 = updF f (1000 + (L : Int)) z x.2 := fun x hx => by
  have := h.at_ x hx
  rw [updF_ne f z (by omega)]
theorem PlOK.new (h : PlOK p f n) {st' : Sta} (text : Bytes) (hst : ∀ x ∈ st'.lv, (∃ y ∈ p.st.lv, y.2 = x.2) ∨ x.2 = 1000 + (p.tx.length : Int)) : PlOK ⟨st', p.tx ++ [text]⟩ (updF f (1000 + (p.tx.length : Int)) (text, (n : Int) + 1)) (n + 1) := by
  have hl : (p.tx ++ [text]).length = p.tx.length + 1 := by simp
  have e : ∀ i : Nat, i < p.tx.length → updF f (1000 + (p.tx.length : Int)) (text, (n : Int) + 1) (1000 + (i : Int)) = f (1000 + (i : Int)) := fun i hi => updF_ne f _ (by omega)
  refine ⟨fun x hx => ?_, fun i hi => ?_, fun i j hi hj hh => ?_⟩
  · show 1000 ≤ x.2 ∧ x.2 < 1000 + (((p.tx ++ [text]).length : Nat) : Int)
    rw [hl]
    rcases hst x hx with ⟨y, hy, e⟩ | e
    · have := h.at_ y hy; omega
    · omega
  · have hi : i < (p.tx ++ [text]).length := hi
    by_cases e1 : i < p.tx.length
    · rw [e i e1]
      have := h.tx i e1
      refine ⟨?_, this.2.1, by omega⟩
      rw [this.1]
      exact (List.getElem_append_left e1).symm
    · have e2 : i = p.tx.length := by omega
      subst e2
      rw [updF_at]
      refine ⟨?_, by show 1 ≤ (n : Int) + 1; omega, by show (n : Int) + 1 ≤ _; omega⟩
      simp
  · have hi : i < (p.tx ++ [text]).length := hi
    have hj : j < (p.tx ++ [text]).length := hj
    by_cases e1 : i < p.tx.length
    · by_cases e2 : j < p.tx.length
      · rw [e i e1, e j e2] at hh; exact h.inj i j e1 e2 hh
      · have e3 : j = p.tx.length := by omega
        subst e3
        rw [e i e1, updF_at] at hh
        have := (h.tx i e1).2.2
        simp only at hh
        omega
    · have e3 : i = p.tx.length := by omega
      subst e3
      by_cases e2 : j < p.tx.length
      · rw [e j e2, updF_at] at hh
        have := (h.tx j e2).2.2
        simp only at hh
        omega
      · omega
/-- Records that put no page bring no other place. -/
theorem applyS_vals {st : Sta} (w : SaW st) {x : RecT} (hk : x.1 = 2 ∨ (4 ≤ x.1 ∧ x.1 ≤ 7)) : ∀ y ∈ (st.applyS x).2.lv, ∃ z ∈ st.lv, z.2 = y.2 := by
  unfold Sta.applyS
  rw [if_neg (show ¬ x.1 = 3 by omega), if_neg (show ¬ x.1 = 8 by omega), if_neg (show ¬ x.1 = 9 by omega)]
  by_cases k4 : x.1 = 4
  · rw [if_pos k4]
    unfold Sta.openS
    split
    · exact fun y hy => ⟨y, hy, rfl⟩
    · exact fun y hy => ⟨y, hy, rfl⟩
  rw [if_neg k4]
  cases hf : afind st.sp x.2.1 with
  | none => exact fun y hy => ⟨y, hy, rfl⟩
  | some s =>
    simp only
    rw [if_neg (show ¬ x.1 = 1 by omega)]
    by_cases k2 : x.1 = 2
    · rw [if_pos k2]
      split
      · exact fun y hy => ⟨y, (adrop_sub _ _).subset hy, rfl⟩
      · exact fun y hy => ⟨y, hy, rfl⟩
    rw [if_neg k2]
    by_cases k5 : x.1 = 5
    · rw [if_pos k5]
      exact fun y hy => ⟨y, (List.mem_filter.1 hy).1, rfl⟩
    rw [if_neg k5]
    by_cases k6 : x.1 = 6
    · rw [if_pos k6]
      unfold Sta.openS
      split
      · exact fun y hy => ⟨y, hy, rfl⟩
      · intro y hy
        have hf : afind (insAll x.2.2.2.2.1 st.lv (pgs st.lv x.2.1)) y.1 = some y.2 := (insAll_asc w.lv).find hy
        rw [insAll_find y.1 w.lv (pgs_asc w.lv _)] at hf
        cases hg : afind (pgs st.lv x.2.1) (y.1 - x.2.2.2.2.1 * 1024) with
        | some u =>
          rw [hg] at hf
          cases hf
          exact ⟨_, (pgs_mem (afind_mem hg)).2.2, rfl⟩
        | none =>
          rw [hg] at hf
          exact ⟨_, afind_mem hf, rfl⟩
    rw [if_neg k6]
    exact fun y hy => ⟨y, hy, rfl⟩
theorem PlOK.step (h : PlOK p f n) (w : SaW p.st) {x : RecT} (hk : x.1 = 2 ∨ (4 ≤ x.1 ∧ x.1 ≤ 7)) : PlOK ⟨(p.st.applyS x).2, p.tx⟩ f n :=
  ⟨fun y hy => by
    obtain ⟨z, hz, e⟩ := applyS_vals w hk y hy
    rw [← e]
    exact h.at_ z hz, h.tx, h.inj⟩
end
structure MdA where
  nm : Nat
  np : Int → Nat
  om : Option Nat
  op : Int → Nat
  f : LfF
  n : Nat
def mdC (a : MdA) (r : RoomT) (size many : Int) : Blk := .cells [.mp (some a.nm), .mp a.om, .int .i64 r.1, .int .i64 r.2.1, .int .i64 r.2.2.1, .int .i64 r.2.2.2.1, .int .i64 size, .int .i64 many, .int .i64 (a.n : Int)] .exact
def opnAt (H : Heap) (a : MdA) (now : Pln) (many : Int) : Option Tx → Prop
  | none => a.om = none
  | some t => ∃ m, a.om = some m ∧ TrAt H m a.op a.f t.p.st ∧ PlOK t.p a.f a.n ∧ now.tx.length ≤ t.p.tx.length ∧ many = (t.many : Int) ∧ t.many ≤ 8
structure MdAt (H : Heap) (c : Nat) (a : MdA) (r : RoomT) (size many : Int) (now : Pln) (o : Option Tx) : Prop where
  c : H[c]? = some (mdC a r size many)
  nw : TrAt H a.nm a.np a.f now.st
  nok : PlOK now a.f a.n
  opn : opnAt H a now many o
section
variable {H G : Heap} {c : Nat} {a : MdA} {r : RoomT} {size many : Int} {now : Pln} {o : Option Tx}
theorem TrAt.ne {m : Nat} {pg : Int → Nat} {f : LfF} {st : Sta} (h : TrAt H m pg f st) {c : Nat} {cs : List C} {bk : BK} (hc : H[c]? = some (.cells cs bk)) : ∀ b, trF m pg st b → b ≠ c := by
  rintro b (rfl | ⟨id, x, hx, rfl⟩)
  · exact mp_ne hc h.sp
  · exact mp_ne hc (h.pp id x hx)
theorem opnAt.keep (h : opnAt H a now many o) {F : Nat → Prop} (k : Keep F H G) (hF : ∀ b, (∃ t m, o = some t ∧ a.om = some m ∧ trF m a.op t.p.st b) → ¬ F b) : opnAt G a now many o := by
  cases o with
  | none => exact h
  | some t =>
    obtain ⟨m, e1, e2, e3⟩ := h
    exact ⟨m, e1, e2.keep k fun b hb => hF b ⟨t, m, rfl, e1, hb⟩, e3⟩
/-- Only its own box may change, or that of another one. -/
theorem MdAt.keep (h : MdAt H c a r size many now o) (k : Keep (fun _ => False) H G) : MdAt G c a r size many now o :=
  ⟨k.get h.c fun hf => hf, h.nw.keep k fun _ _ hf => hf, h.nok, h.opn.keep k fun _ _ hf => hf⟩
theorem MdAt.other (h : MdAt H c a r size many now o) {d : Nat} (hd : d ≠ c) {cs : List C} {bk : BK} (hb : H[d]? = some (.cells cs bk)) (k : Keep (fun b => b = d) H G) : MdAt G c a r size many now o :=
  ⟨k.get h.c (Ne.symm hd), h.nw.keep k fun b hb' e => h.nw.ne hb b hb' e, h.nok, h.opn.keep k fun b ⟨t, m, e1, e2, e3⟩ e => by
    have := h.opn
    rw [e1] at this
    obtain ⟨m', f1, f2, _⟩ := this
    rw [e2] at f1
    cases f1
    exact f2.ne hb b e3 e⟩
theorem md_Begin (h : MdAt H c a r size many now o) : WP (model_Model_Begin (some (c, 0)) H) fun x => Keep (fun b => b = c) H x.2 ∧ match o with
    | some _ => x.1.1 = 180 ∧ MdAt x.2 c a r size many now o
    | none => x.1.1 = 0 ∧ ∃ a', a'.n = a.n ∧ MdAt x.2 c a' r size 0 now (some ⟨now, 0⟩) := by
  unfold model_Model_Begin
  have hm : rdM H c (0 + 1) = some a.om := rdM_of h.c rfl
  refine wp_f rfl (wp_to (v := (c, 0)) rfl (wp_to hm ?_))
  cases o with
  | some t =>
    obtain ⟨m, e1, _⟩ := h.opn
    refine wp_t (by rw [e1]; rfl) (wp_some ⟨Keep.refl _ _, rfl, h⟩)
  | none =>
    have e1 : a.om = none := h.opn
    refine wp_f (by rw [e1]; rfl) (wp_to (v := (c, 0)) rfl (wp_to (rdM_of h.c (o := 0) rfl) (wp_seq _ (tr_clone h.nw) ?_)))
    rintro ⟨⟨x, ⟨⟩⟩, G⟩ ⟨m', pg', hx, ht, hk, hf⟩
    cases hx
    have hcl := get_lt h.c
    have hcG : G[c]? = some (mdC a r size many) := hk.get h.c fun hf => hf
    have hw1 : wr G c (0 + 1) [.mp (some m')] = some (G.set c (mdC { a with om := some m', op := pg' } r size many)) := by
      rw [wr1_of hcG (by decide) (by simp)]; rfl
    have hcG1 : (G.set c (mdC { a with om := some m', op := pg' } r size many))[c]? = some (mdC { a with om := some m', op := pg' } r size many) := set_get (get_lt hcG)
    have hw2 : wr (G.set c (mdC { a with om := some m', op := pg' } r size many)) c (0 + 7) [.int .i64 0] = some (G.set c (mdC { a with om := some m', op := pg' } r size 0)) := by
      rw [wr1_of hcG1 (by decide) (by simp), List.set_set]; rfl
    have kk : Keep (fun b => b = c) G (G.set c (mdC { a with om := some m', op := pg' } r size 0)) := Keep.set _ _ _ rfl
    have hnow := h.nw.keep hk fun _ _ hf => hf
    have ht : TrAt G m' pg' a.f now.st := ht
    refine wp_to (v := (c, 0)) rfl (wp_to hw1 (wp_to (v := (c, 0)) rfl (wp_to hw2 (wp_some ⟨(hk.mono fun _ hf => hf.elim).trans kk, rfl, { a with om := some m', op := pg' }, rfl, ?_⟩))))
    exact ⟨set_get (get_lt hcG), hnow.keep kk fun b hb e => hnow.ne hcG b hb e, h.nok, m', rfl, ht.keep kk fun b hb e => ht.ne hcG b hb e, h.nok, Nat.le_refl _, rfl, Nat.zero_le _⟩
theorem md_end (h : MdAt H c a r size many now o) (keep : Bool) : WP (model_Model_end (some (c, 0)) keep H) fun x => Keep (fun b => b = c) H x.2 ∧ match o with
    | none => x.1.1 = 180 ∧ MdAt x.2 c a r size many now o
    | some t => x.1.1 = 0 ∧ ∃ a', a'.n = a.n ∧ MdAt x.2 c a' r size many (if keep = true then t.p else now) none := by
  unfold model_Model_end
  have hm : rdM H c (0 + 1) = some a.om := rdM_of h.c rfl
  refine wp_f rfl (wp_to (v := (c, 0)) rfl (wp_to hm ?_))
  cases o with
  | none =>
    have e1 : a.om = none := h.opn
    exact wp_t (by rw [e1]; rfl) (wp_some ⟨Keep.refl _ _, rfl, h⟩)
  | some t =>
    obtain ⟨m, e1, e2, e3, _⟩ := h.opn
    have hcl := get_lt h.c
    refine wp_f (by rw [e1]; rfl) ?_
    cases keep with
    | true =>
      have hw1 : wr H c 0 [.mp a.om] = some (H.set c (mdC { a with nm := m, np := a.op } r size many)) := by
        rw [wr1_of h.c (by decide) (by simp), e1]; unfold mdC; simp [e1]
      have hcG1 : (H.set c (mdC { a with nm := m, np := a.op } r size many))[c]? = some (mdC { a with nm := m, np := a.op } r size many) := set_get hcl
      have hw2 : wr (H.set c (mdC { a with nm := m, np := a.op } r size many)) c (0 + 1) [.mp none] = some (H.set c (mdC { a with nm := m, np := a.op, om := none } r size many)) := by
        rw [wr1_of hcG1 (by decide) (by simp), List.set_set]; rfl
      have kk : Keep (fun b => b = c) H (H.set c (mdC { a with nm := m, np := a.op, om := none } r size many)) := Keep.set _ _ _ rfl
      refine wp_t rfl (wp_to (v := (c, 0)) rfl (wp_to hm (wp_to (v := (c, 0)) rfl (wp_to hw1 (wp_to (v := (c, 0)) rfl (wp_to hw2 (wp_some ⟨kk, rfl, { a with nm := m, np := a.op, om := none }, rfl, ?_⟩)))))))
      exact ⟨set_get hcl, e2.keep kk fun b hb e => e2.ne h.c b hb e, e3, rfl⟩
    | false =>
      have hw2 : wr H c (0 + 1) [.mp none] = some (H.set c (mdC { a with om := none } r size many)) := by
        rw [wr1_of h.c (by decide) (by simp)]; rfl
      have kk : Keep (fun b => b = c) H (H.set c (mdC { a with om := none } r size many)) := Keep.set _ _ _ rfl
      refine wp_f rfl (wp_to (v := (c, 0)) rfl (wp_to hw2 (wp_some ⟨kk, rfl, { a with om := none }, rfl, ?_⟩)))
      exact ⟨set_get hcl, h.nw.keep kk fun b hb e => h.nw.ne h.c b hb e, h.nok, rfl⟩
end
end Ev

namespace Ev
open Go (IntKind)

section
variable {H G : Heap} {c : Nat} {a : MdA} {r : RoomT} {size many : Int} {now : Pln} {o : Option Tx} {t : Tx}
theorem rd_room {a' : MdA} {many' : Int} (h : G[c]? = some (mdC a' r size many')) : rd G (.agg [.int .i64, .int .i64, .int .i64, .int .i64]) c (0 + 2) = (some r : Option RoomT) :=
  rd_agg_of h (by simp) (by obtain ⟨r1, r2, r3, r4, ⟨⟩⟩ := r; rfl)
/-- The changed tree is taken. -/
theorem md_take {n' : Nat} {f' : LfF} {m' : Nat} {pg' : Int → Nat} {t' : Tx} {om : Option Nat} {op : Int → Nat} (hc : G[c]? = some (mdC { a with om := om, op := op, f := f', n := n' } r size t.many)) (hnow : TrAt G a.nm a.np f' now.st) (hnok : PlOK now f' n') (ht : TrAt G m' pg' f' t'.p.st) (htok : PlOK t'.p f' n') (hl : now.tx.length ≤ t'.p.tx.length) (hm : t'.many = t.many + 1) (h8 : t.many < 8)
    {β : Type} {K : Heap → Option β} {Q : β → Prop} (k : ∀ G' a', a'.n = n' → MdAt G' c a' r size (t'.many : Int) now (some t') → Keep (fun b => b = c) G G' → WP (K G') Q) :
    WP (((some (c, 0) : Ptr)).bind fun (a10 : Nat × Nat) => (wr G a10.1 (a10.2 + 1) [.mp (some m')]).bind fun (H11 : Heap) => ((some (c, 0) : Ptr)).bind fun (a12 : Nat × Nat) => (rdI .i64 H11 a12.1 (a12.2 + 7)).bind fun (v13 : Int) => ((some (c, 0) : Ptr)).bind fun (a14 : Nat × Nat) => (wr H11 a14.1 (a14.2 + 7) [.int .i64 (IntKind.wrap .i64 (v13 + 1))]).bind K) Q := by
  have hcl := get_lt hc
  have hw1 : wr G c (0 + 1) [.mp (some m')] = some (G.set c (mdC { a with om := some m', op := pg', f := f', n := n' } r size t.many)) := by
    rw [wr1_of hc (by decide) (by simp)]; rfl
  have hc1 : (G.set c (mdC { a with om := some m', op := pg', f := f', n := n' } r size t.many))[c]? = some (mdC { a with om := some m', op := pg', f := f', n := n' } r size t.many) := set_get hcl
  have hw2 : wr (G.set c (mdC { a with om := some m', op := pg', f := f', n := n' } r size t.many)) c (0 + 7) [.int .i64 (IntKind.wrap .i64 ((t.many : Int) + 1))] = some (G.set c (mdC { a with om := some m', op := pg', f := f', n := n' } r size t'.many)) := by
    rw [wr1_of hc1 (by decide) (by simp), List.set_set, wrap_succ (by omega), hm]; rfl
  have kk : Keep (fun b => b = c) G (G.set c (mdC { a with om := some m', op := pg', f := f', n := n' } r size t'.many)) := Keep.set _ _ _ rfl
  refine wp_to (v := (c, 0)) rfl (wp_to hw1 (wp_to (v := (c, 0)) rfl (wp_to (rdI_of hc1 (n := (t.many : Int)) rfl) (wp_to (v := (c, 0)) rfl (wp_to hw2 (k _ { a with om := some m', op := pg', f := f', n := n' } rfl ?_ kk))))))
  exact ⟨set_get hcl, hnow.keep kk fun b hb e => hnow.ne hc b hb e, hnok, m', rfl, ht.keep kk fun b hb e => ht.ne hc b hb e, htok, hl, rfl, by omega⟩
theorem md_stepD (h : MdAt H c a r size many now (some t)) {x : RecT} {b : Nat} (hb : H[b]? = some (recB x)) (g : GoodR x) (hk : x.1 = 2 ∨ (4 ≤ x.1 ∧ x.1 ≤ 7)) :
    WP (model_Model_step_of_model_Model_Do_1 (some (c, 0)) (some (b, 0), ()) H) fun y => Keep (fun b => b = c) H y.2 ∧ y.1.1 = (t.stepD x r).1 ∧ ∃ a' many', a'.n = a.n ∧ MdAt y.2 c a' r size many' now (some (t.stepD x r).2) := by
  obtain ⟨m, e1, e2, e3, e4, e5, e6⟩ := h.opn
  have hF : ∀ {G : Heap}, Keep (fun _ => False) H G → Keep (fun b => b = c) H G := fun k => k.mono fun _ hf => hf.elim
  unfold model_Model_step_of_model_Model_Do_1 Tx.stepD
  refine wp_to (v := (c, 0)) rfl (wp_to (rdI_of h.c (n := many) rfl) (wp_if (p := 8 ≤ t.many) (decide_eq_decide.2 (by rw [e5]; omega)) (fun e => ?_) (fun e => ?_)))
  · rw [if_pos e]
    exact wp_some ⟨Keep.refl _ _, rfl, a, many, rfl, h⟩
  rw [if_neg e]
  refine wp_to (v := (c, 0)) rfl (wp_to (rdM_of h.c (n := a.om) rfl) ?_)
  rw [e1]
  refine wp_seq _ (tr_clone e2) ?_
  rintro ⟨⟨y, ⟨⟩⟩, G1⟩ ⟨m', pg', hx, ht, hk1, hf1⟩
  cases hx
  have ht : TrAt G1 m' pg' a.f t.p.st := ht
  have hk1 : Keep (fun _ => False) H G1 := hk1
  have hb1 := hk1.get hb fun hf => hf
  refine wp_seq (fun y => y.1.1 = (t.p.st.applyS x).1 ∧ ∃ pg2, TrAt y.2 m' pg2 a.f (t.p.st.applyS x).2 ∧ Keep (trF m' pg' t.p.st) G1 y.2) ?_ ?_
  · unfold model_Model_Do_1
    refine wp_to (v := (b, 0)) rfl (wp_to (v := (x : RecT)) (rd_agg_of hb1 (by simp) (by obtain ⟨x0, x1, x2, x3, x4, x5, ⟨⟩⟩ := x; rfl)) (wp_seq _ (tr_do (x := x) ht g hk) ?_))
    rintro ⟨⟨y, ⟨⟩⟩, G2⟩ hy
    exact wp_some hy
  rintro ⟨⟨ee, ⟨⟩⟩, G2⟩ ⟨he, pg2, ht2, hk2⟩
  have he : ee = (t.p.st.applyS x).1 := he
  have ht2 : TrAt G2 m' pg2 a.f (t.p.st.applyS x).2 := ht2
  have hk02 : Keep (fun _ => False) H G2 := (hk1.mono fun _ hf => hf).trans2 hk2 fun b hbl hb' => by have := hf1 b hb'; omega
  have h2 := h.keep hk02
  refine wp_if (p := ¬ ee = 0) (by simp) (fun e0 => ?_) (fun e0 => ?_)
  · rw [he] at e0
    rw [if_pos e0]
    exact wp_some ⟨hF hk02, he, a, many, rfl, h2⟩
  have e0' : ee = 0 := Decidable.byContradiction e0
  rw [he] at e0
  rw [if_neg e0]
  have htok : PlOK ⟨(t.p.st.applyS x).2, t.p.tx⟩ a.f a.n := e3.step e2.w hk
  refine wp_to (v := (c, 0)) rfl (wp_to (rd_room h2.c) (wp_seq _ (tr_fits ht2 r htok.inj') ?_))
  rintro ⟨⟨ff, ⟨⟩⟩, G3⟩ ⟨hfit, hk3⟩
  have hfit : ff = fitS (t.p.st.applyS x).2 r := hfit
  subst hfit
  have hk03 := hk02.trans hk3
  have h3 := h.keep hk03
  have ht3 : TrAt G3 m' pg2 a.f (t.p.st.applyS x).2 := ht2.keep hk3 fun _ _ hf => hf
  refine wp_c (fun e9 => ?_) (fun e9 => ?_)
  · have e9 : ¬ fitS (t.p.st.applyS x).2 r = true := by simpa using e9
    rw [if_neg e9]
    exact wp_some ⟨hF hk03, rfl, a, many, rfl, h3⟩
  · have e9 : fitS (t.p.st.applyS x).2 r = true := by simpa using e9
    rw [if_pos e9]
    have hc3 : G3[c]? = some (mdC { a with om := a.om, op := a.op, f := a.f, n := a.n } r size t.many) := by rw [← e5]; exact h3.c
    refine md_take (t := t) (t' := ⟨⟨(t.p.st.applyS x).2, t.p.tx⟩, t.many + 1⟩) hc3 h3.nw h3.nok ht3 htok e4 rfl (by omega) fun G' a' ha' hM hkM => wp_some ⟨(hF hk03).trans hkM, rfl, a', _, ha', hM⟩
theorem may_zero {st : Sta} {id : Int} (h : mayS st id = 0) : ∃ q, afind st.sp id = some (q, false) := by
  unfold mayS at h
  cases hf : afind st.sp id with
  | none => rw [hf] at h; simp at h
  | some y =>
    rw [hf] at h
    obtain ⟨q, b⟩ := y
    cases b with
    | false => exact ⟨q, rfl⟩
    | true => simp at h
theorem put_apply {st : Sta} {id p v : Int} {y : Int × Bool} (hf : afind st.sp id = some y) : st.applyS (1, id, p, v, 0, 0, ()) = if p < 0 then (81, st) else if y.1 ≤ p then (81, st) else (0, ⟨st.sp, ains st.lv (id * 1024 + p) v, st.bd, st.wn⟩) := by
  unfold Sta.applyS
  show (match afind st.sp id with | none => _ | some s => _) = _
  rw [hf]; rfl
theorem md_stepP (h : MdAt H c a r size many now (some t)) {id p : Int} {text : Bytes} {bp bi bs bt : Nat} (hbp : H[bp]? = some (.cells [.int .i64 p] .exact)) (hbi : H[bi]? = some (.cells [.int .i64 id] .exact)) (hbs : H[bs]? = some (.cells [.ptr (some (c, 0))] .exact)) (hbt : H[bt]? = some (.cells [.str text] .exact))
    (hmay : mayS t.p.st id = 0) (hn : a.n < 4611686018427387904) :
    WP (model_Model_step_of_model_Model_Put_1 (some (c, 0)) (some (bp, 0), some (bi, 0), some (bs, 0), some (bt, 0), ()) H) fun y => Keep (fun b => b = c) H y.2 ∧ y.1.1 = (t.stepP id p text r).1 ∧ ∃ a' many', a'.n ≤ a.n + 1 ∧ MdAt y.2 c a' r size many' now (some (t.stepP id p text r).2) := by
  obtain ⟨m, e1, e2, e3, e4, e5, e6⟩ := h.opn
  obtain ⟨q, hq⟩ := may_zero hmay
  have hF : ∀ {G : Heap}, Keep (fun _ => False) H G → Keep (fun b => b = c) H G := fun k => k.mono fun _ hf => hf.elim
  have hid := e2.w.ids _ (afind_mem hq)
  unfold model_Model_step_of_model_Model_Put_1 Tx.stepP putR
  rw [put_apply hq]
  refine wp_to (v := (c, 0)) rfl (wp_to (rdI_of h.c (n := many) rfl) (wp_if (p := 8 ≤ t.many) (decide_eq_decide.2 (by rw [e5]; omega)) (fun e => ?_) (fun e => ?_)))
  · rw [if_pos e]
    exact wp_some ⟨Keep.refl _ _, rfl, a, many, by omega, h⟩
  rw [if_neg e]
  refine wp_to (v := (c, 0)) rfl (wp_to (rdM_of h.c (n := a.om) rfl) ?_)
  rw [e1]
  refine wp_seq _ (tr_clone e2) ?_
  rintro ⟨⟨y, ⟨⟩⟩, G1⟩ ⟨m', pg', hx, ht, hk1, hf1⟩
  cases hx
  have ht : TrAt G1 m' pg' a.f t.p.st := ht
  have hk1 : Keep (fun _ => False) H G1 := hk1
  have h1 := h.keep hk1
  have hp1 := hk1.get hbp fun hf => hf
  have hi1 := hk1.get hbi fun hf => hf
  have hs1 := hk1.get hbs fun hf => hf
  have ht1 := hk1.get hbt fun hf => hf
  have hsp := ht.sp.space id
  rw [hq] at hsp
  unfold model_Model_Put_1
  by_cases hp0 : p < 0
  · rw [if_pos hp0, if_pos (show ¬ (81 : Int) = 0 by decide)]
    refine wp_seq (fun y => y = ((81, ()), G1)) (wp_to (v := (bp, 0)) rfl (wp_to (rdI_of hp1 (n := p) rfl) (wp_t (decide_eq_true hp0) (wp_some rfl)))) ?_
    rintro _ rfl
    exact wp_t rfl (wp_some ⟨hF hk1, rfl, a, many, by omega, h1⟩)
  · rw [if_neg hp0]
    by_cases hpq : q ≤ p
    · rw [if_pos hpq, if_pos (show ¬ (81 : Int) = 0 by decide)]
      refine wp_seq (fun y => y = ((81, ()), G1)) (wp_to (v := (bp, 0)) rfl (wp_to (rdI_of hp1 (n := p) rfl) (wp_f (decide_eq_false hp0) (wp_to (v := (bp, 0)) rfl (wp_to (rdI_of hp1 (n := p) rfl) (wp_to (v := (bi, 0)) rfl (wp_to (rdI_of hi1 (n := id) rfl) (wp_to hsp (wp_t (decide_eq_true hpq) (wp_some rfl)))))))))) ?_
      rintro _ rfl
      exact wp_t rfl (wp_some ⟨hF hk1, rfl, a, many, by omega, h1⟩)
    · rw [if_neg hpq, if_neg (show ¬ ¬ (0 : Int) = 0 by decide)]
      have hcl := get_lt h1.c
      have hpb : 0 ≤ p ∧ p < 1024 := by have := hid.2.2; simp only at this; omega
      -- the number rises
      have hw1 : wr G1 c (0 + 8) [.int .i64 (IntKind.wrap .i64 ((a.n : Int) + 1))] = some (G1.set c (mdC { a with n := a.n + 1 } r size many)) := by
        rw [wr1_of h1.c (by decide) (by simp), wrap_succ (by omega)]; rfl
      have kk : Keep (fun b => b = c) G1 (G1.set c (mdC { a with n := a.n + 1 } r size many)) := Keep.set _ _ _ rfl
      have hc2 : (G1.set c (mdC { a with n := a.n + 1 } r size many))[c]? = some (mdC { a with n := a.n + 1 } r size many) := set_get hcl
      have hcne : ∀ {b : Nat} {cs : List C}, G1[b]? = some (.cells cs .exact) → cs.length < 9 → b ≠ c := fun hb hl e => by
        rw [e, h1.c] at hb
        unfold mdC at hb
        injection hb with hb
        injection hb with hb
        rw [← hb] at hl
        simp at hl
      have hp2 := kk.get hp1 (hcne hp1 (by simp))
      have hi2 := kk.get hi1 (hcne hi1 (by simp))
      have hs2 := kk.get hs1 (hcne hs1 (by simp))
      have ht2 := kk.get ht1 (hcne ht1 (by simp))
      have htr2 := ht.keep kk fun b hb e => ht.ne h1.c b hb e
      have hnow2 := h1.nw.keep kk fun b hb e => h1.nw.ne h1.c b hb e
      have hsp2 := htr2.sp.space id
      rw [hq] at hsp2
      obtain ⟨dp, hP⟩ := htr2.pp id (q, false) hq
      -- the page
      have hset : mset (G1.set c (mdC { a with n := a.n + 1 } r size many)) (some (pg' id)) p (.agg [.str text, .int .i64 ((a.n : Int) + 1)]) = some ((G1.set c (mdC { a with n := a.n + 1 } r size many)).set (pg' id) (.mp (encA (lfW (updF a.f (1000 + (t.p.tx.length : Int)) (text, (a.n : Int) + 1))) (pgs (ains t.p.st.lv (id * 1024 + p) (1000 + (t.p.tx.length : Int))) id)) dp)) := by
        have hP' : (G1.set c (mdC { a with n := a.n + 1 } r size many))[pg' id]? = some (.mp (encA (lfW (updF a.f (1000 + (t.p.tx.length : Int)) (text, (a.n : Int) + 1))) (pgs t.p.st.lv id)) dp) := by
          rw [hP, enc_congr (f := lfW a.f) (g := lfW (updF a.f (1000 + (t.p.tx.length : Int)) (text, (a.n : Int) + 1))) fun y hy => by
            have := e3.same (Nat.le_refl _) (text, (a.n : Int) + 1) _ (pgs_mem hy).2.2
            unfold lfW
            rw [show a.f y.2 = _ from this]]
        rw [mset_of hP' p (1000 + (t.p.tx.length : Int)) (by unfold lfW; rw [updF_at]), pgs_ins e2.w.lv id p _ hpb id, if_pos rfl]
      have w' : SaW ⟨t.p.st.sp, ains t.p.st.lv (id * 1024 + p) (1000 + (t.p.tx.length : Int)), t.p.st.bd, t.p.st.wn⟩ := e2.w.key hq hpb _
      obtain ⟨u1, u2⟩ := htr2.page (dc := dp) hq hpb w' (e3.same (Nat.le_refl _) (text, (a.n : Int) + 1)) fun id' hne => by rw [pgs_ins e2.w.lv id p _ hpb id', if_neg hne]
      generalize hG3 : (G1.set c (mdC { a with n := a.n + 1 } r size many)).set (pg' id) (.mp (encA (lfW (updF a.f (1000 + (t.p.tx.length : Int)) (text, (a.n : Int) + 1))) (pgs (ains t.p.st.lv (id * 1024 + p) (1000 + (t.p.tx.length : Int))) id)) dp) = G3 at hset u1 u2
      have hpgl := hf1 (pg' id) (.inr ⟨id, _, hq, rfl⟩)
      have hpgc : pg' id ≠ c := ht.ne h1.c _ (.inr ⟨id, _, hq, rfl⟩)
      refine wp_seq (fun y => y = ((0, ()), G3)) ?_ ?_
      · refine wp_to (v := (bp, 0)) rfl (wp_to (rdI_of hp1 (n := p) rfl) (wp_f (decide_eq_false hp0) (wp_to (v := (bp, 0)) rfl (wp_to (rdI_of hp1 (n := p) rfl) (wp_to (v := (bi, 0)) rfl (wp_to (rdI_of hi1 (n := id) rfl) (wp_to hsp (wp_f (decide_eq_false hpq) ?_))))))))
        refine wp_to (v := (bs, 0)) rfl (wp_to (rdP_of hs1 (n := some (c, 0)) rfl) (wp_to (v := (c, 0)) rfl (wp_to (rdI_of h1.c (n := (a.n : Int)) rfl) (wp_to (v := (c, 0)) rfl (wp_to hw1 ?_)))))
        refine wp_to (v := (bi, 0)) rfl (wp_to (rdI_of hi2 (n := id) rfl) (wp_to hsp2 (wp_to (v := (bp, 0)) rfl (wp_to (rdI_of hp2 (n := p) rfl) (wp_to (v := (bt, 0)) rfl (wp_to (rdS_of ht2 (n := text) rfl) (wp_to (v := (bs, 0)) rfl (wp_to (rdP_of hs2 (n := some (c, 0)) rfl) (wp_to (v := (c, 0)) rfl (wp_to (rdI_of hc2 (n := (a.n : Int) + 1) rfl) (wp_to hset (wp_some rfl))))))))))))
      rintro _ rfl
      have hk03 : Keep (fun b => b = c) H G3 := ((hF hk1).trans kk).trans2 u2 fun b hb e => by have e : b = pg' id := e; omega
      have hlow : ∀ {m : Nat} {pg : Int → Nat} {f : LfF} {st : Sta}, TrAt H m pg f st → ∀ b, trF m pg st b → ¬ b = pg' id := fun hh b hb e => by have := hh.lt hb; omega
      have hc3 : G3[c]? = some (mdC { a with n := a.n + 1 } r size many) := u2.get hc2 (Ne.symm hpgc)
      have hnow3 : TrAt G3 a.nm a.np (updF a.f (1000 + (t.p.tx.length : Int)) (text, (a.n : Int) + 1)) now.st := (hnow2.congr (h.nok.same e4 _)).keep u2 (hlow h.nw)
      have hnok3 := h.nok.old e4 (text, (a.n : Int) + 1)
      have hopn3 : TrAt G3 m a.op (updF a.f (1000 + (t.p.tx.length : Int)) (text, (a.n : Int) + 1)) t.p.st := by
        have h4 := e2.keep hk1 fun _ _ hf => hf
        exact ((h4.keep kk fun b hb e => h4.ne h1.c b hb e).congr (e3.same (Nat.le_refl _) _)).keep u2 (hlow e2)
      have htok3 := e3.old (Nat.le_refl _) (text, (a.n : Int) + 1)
      have htok4 : PlOK ⟨⟨t.p.st.sp, ains t.p.st.lv (id * 1024 + p) (1000 + (t.p.tx.length : Int)), t.p.st.bd, t.p.st.wn⟩, t.p.tx ++ [text]⟩ (updF a.f (1000 + (t.p.tx.length : Int)) (text, (a.n : Int) + 1)) (a.n + 1) := e3.new text fun x hx => by
        rcases ains_mem hx with e | e
        · exact .inr (by rw [e])
        · exact .inl ⟨x, e, rfl⟩
      refine wp_f (by simp) (wp_to (v := (c, 0)) rfl (wp_to (rd_room hc3) (wp_seq _ (tr_fits u1 r htok4.inj') ?_)))
      rintro ⟨⟨ff, ⟨⟩⟩, G4⟩ ⟨hfit, hk4⟩
      have hfit : ff = fitS ⟨t.p.st.sp, ains t.p.st.lv (id * 1024 + p) (1000 + (t.p.tx.length : Int)), t.p.st.bd, t.p.st.wn⟩ r := hfit
      subst hfit
      have hk4 : Keep (fun _ => False) G3 G4 := hk4
      have hc4 := hk4.get hc3 fun hf => hf
      have hk04 := hk03.trans (hk4.mono fun _ hf => hf.elim)
      refine wp_c (fun e9 => ?_) (fun e9 => ?_)
      · have e9 : ¬ fitS ⟨t.p.st.sp, ains t.p.st.lv (id * 1024 + p) (1000 + (t.p.tx.length : Int)), t.p.st.bd, t.p.st.wn⟩ r = true := by simpa using e9
        rw [if_neg e9]
        refine wp_some ⟨hk04, rfl, { a with n := a.n + 1, f := updF a.f (1000 + (t.p.tx.length : Int)) (text, (a.n : Int) + 1) }, many, Nat.le_refl _, hc4, hnow3.keep hk4 fun _ _ hf => hf, hnok3, m, e1, hopn3.keep hk4 fun _ _ hf => hf, htok3, e4, e5, e6⟩
      · have e9 : fitS ⟨t.p.st.sp, ains t.p.st.lv (id * 1024 + p) (1000 + (t.p.tx.length : Int)), t.p.st.bd, t.p.st.wn⟩ r = true := by simpa using e9
        rw [if_pos e9]
        have hc4' : G4[c]? = some (mdC { a with om := a.om, op := a.op, f := updF a.f (1000 + (t.p.tx.length : Int)) (text, (a.n : Int) + 1), n := a.n + 1 } r size t.many) := by rw [← e5]; exact hc4
        refine md_take (t := t) (t' := ⟨⟨⟨t.p.st.sp, ains t.p.st.lv (id * 1024 + p) (1000 + (t.p.tx.length : Int)), t.p.st.bd, t.p.st.wn⟩, t.p.tx ++ [text]⟩, t.many + 1⟩) hc4' (hnow3.keep hk4 fun _ _ hf => hf) hnok3 (u1.keep hk4 fun _ _ hf => hf) htok4 (by simp; omega) rfl (by omega) fun G' a' ha' hM hkM => wp_some ⟨hk04.trans hkM, rfl, a', _, by omega, hM⟩
end
end Ev

namespace Ev
open Go (IntKind)

def doO (o : Option Tx) (x : RecT) (r : RoomT) : Int × Option Tx := match o with | none => (180, none) | some t => ((t.doS x r).1, some (t.doS x r).2)
def putO (o : Option Tx) (id p : Int) (text : Bytes) (r : RoomT) (size : Int) : Int × Option Tx := match o with | none => (180, none) | some t => ((t.putS id p text r size).1, some (t.putS id p text r size).2)
section
variable {H G : Heap} {c : Nat} {a : MdA} {r : RoomT} {size many : Int} {now : Pln} {o : Option Tx} {t : Tx}
theorem md_New (H : Heap) (r : RoomT) (size : Int) : ∃ c G, model_New r size H = some ((some (c, 0), ()), G) ∧ H.length ≤ c ∧ Keep (fun _ => False) H G ∧ ∃ a, a.n = 0 ∧ MdAt G c a r size 0 ⟨⟨[], [], [], []⟩, []⟩ none := by
  obtain ⟨r1, r2, r3, r4, ⟨⟩⟩ := r
  refine ⟨H.length + 2, H ++ [.cells [.int .i64 r1, .int .i64 r2, .int .i64 r3, .int .i64 r4] .exact, .mp [] 0, mdC ⟨H.length + 1, fun _ => 0, none, fun _ => 0, fun _ => ([], 0), 0⟩ (r1, r2, r3, r4, ()) size 0], ?_, by omega, Keep.app _ _ _, ⟨H.length + 1, fun _ => 0, none, fun _ => 0, fun _ => ([], 0), 0⟩, rfl, ?_, ⟨⟨Asc.nil, Asc.nil, Asc.nil, Asc.nil, fun x hx => absurd hx List.not_mem_nil, fun x hx => absurd hx List.not_mem_nil, fun x hx => absurd hx List.not_mem_nil, fun x hx => absurd hx List.not_mem_nil⟩, ⟨0, ?_⟩, fun id x hx => (by cases hx), fun id x hx => (by cases hx), fun id x id' x' hx => (by cases hx)⟩, ⟨fun x hx => absurd hx List.not_mem_nil, fun i hi => absurd hi (Nat.not_lt_zero _), fun i j hi => absurd hi (Nat.not_lt_zero _)⟩, rfl⟩
  · have hr : rd (H ++ [Blk.cells [.int .i64 r1, .int .i64 r2, .int .i64 r3, .int .i64 r4] .exact] ++ [.mp [] 0]) (.agg [.int .i64, .int .i64, .int .i64, .int .i64]) H.length 0 = (some (r1, r2, r3, r4, ()) : Option RoomT) :=
      rd_agg_of (cs := [.int .i64 r1, .int .i64 r2, .int .i64 r3, .int .i64 r4]) (bk := .exact) (by rw [List.append_assoc, tl_get0]; rfl) (by simp) rfl
    unfold model_New
    refine (bind_to hr).trans ?_
    simp [mdC]
  · rw [tl_get1]; rfl
  · rw [tl_get1]; rfl
theorem md_Do (h : MdAt H c a r size many now o) (x : RecT) : WP (model_Model_Do (some (c, 0)) x H) fun y => Keep (fun b => b = c) H y.2 ∧ y.1.1 = (doO o x r).1 ∧ ∃ a' many', a'.n = a.n ∧ MdAt y.2 c a' r size many' now (doO o x r).2 := by
  have k1 := Keep.app (fun _ => False) H [.cells [.int .i64 x.1, .int .i64 x.2.1, .int .i64 x.2.2.1, .int .i64 x.2.2.2.1, .int .i64 x.2.2.2.2.1, .int .i64 x.2.2.2.2.2.1] .exact]
  have t1 : (H ++ [Blk.cells [.int .i64 x.1, .int .i64 x.2.1, .int .i64 x.2.2.1, .int .i64 x.2.2.2.1, .int .i64 x.2.2.2.2.1, .int .i64 x.2.2.2.2.2.1] .exact])[H.length]? = some (recB x) := by rw [tl_get0]; rfl
  have h1 := h.keep k1
  unfold model_Model_Do
  simp only
  generalize H ++ [Blk.cells [.int .i64 x.1, .int .i64 x.2.1, .int .i64 x.2.2.1, .int .i64 x.2.2.2.1, .int .i64 x.2.2.2.2.1, .int .i64 x.2.2.2.2.2.1] .exact] = H1 at k1 t1 h1 ⊢
  have hF : ∀ {A B : Heap}, Keep (fun _ => False) A B → Keep (fun b => b = c) A B := fun k => k.mono fun _ hf => hf.elim
  refine wp_seq (fun p => p = ((ownK x, ()), H1)) ?_ ?_
  · refine wp_to (rdI_of t1 (n := x.1) rfl) (wp_if (p := x.1 = 2) rfl (fun e => ?_) (fun e => ?_))
    · exact wp_some (by unfold ownK; rw [decide_eq_true (.inl e)])
    · refine wp_to (rdI_of t1 (n := x.1) rfl) (wp_if (p := 4 ≤ x.1) rfl (fun e2 => ?_) (fun e2 => ?_))
      · refine wp_to (rdI_of t1 (n := x.1) rfl) (wp_some ?_)
        unfold ownK
        by_cases e3 : x.1 ≤ 7
        · rw [decide_eq_true e3, decide_eq_true (.inr ⟨e2, e3⟩)]
        · rw [decide_eq_false e3, decide_eq_false fun hh => hh.elim e fun hh => e3 hh.2]
      · exact wp_some (by unfold ownK; rw [decide_eq_false fun hh => hh.elim e fun hh => e2 hh.1])
  rintro _ rfl
  refine wp_f rfl (wp_to (v := (c, 0)) rfl (wp_to (rdM_of h1.c (n := a.om) rfl) ?_))
  cases o with
  | none =>
    have e1 : a.om = none := h.opn
    exact wp_t (by rw [e1]; rfl) (wp_some ⟨hF k1, rfl, a, many, rfl, h1⟩)
  | some t =>
    obtain ⟨m, e1, e2, _⟩ := h1.opn
    show WP _ fun (y : (Int × Unit) × Heap) => Keep (fun b => b = c) H y.2 ∧ y.1.1 = (t.doS x r).1 ∧ ∃ a' many', a'.n = a.n ∧ MdAt y.2 c a' r size many' now (some (t.doS x r).2)
    unfold Tx.doS
    refine wp_f (by rw [e1]; rfl) (wp_c (fun eo => ?_) (fun eo => ?_))
    · have eo : ¬ ownK x = true := by simpa using eo
      rw [if_neg fun hh => eo hh.1]
      exact wp_some ⟨hF k1, rfl, a, many, rfl, h1⟩
    have eo : ownK x = true := by simpa using eo
    have hk : x.1 = 2 ∨ (4 ≤ x.1 ∧ x.1 ≤ 7) := by unfold ownK at eo; exact of_decide_eq_true eo
    have hrec : rec_Check (x.1, x.2.1, x.2.2.1, x.2.2.2.1, x.2.2.2.2.1, x.2.2.2.2.2.1, ()) = some (chkR x, ()) := by
      obtain ⟨x0, x1, x2, x3, x4, x5, ⟨⟩⟩ := x
      exact rec_check_eq _
    refine wp_to (v := (x : RecT)) (rd_agg_of t1 (by simp) (by obtain ⟨x0, x1, x2, x3, x4, x5, ⟨⟩⟩ := x; rfl)) (wp_to hrec (wp_c (fun ec => ?_) (fun ec => ?_)))
    · have ec : ¬ chkR x = true := by simpa using ec
      rw [if_neg fun hh => ec hh.2]
      exact wp_some ⟨hF k1, rfl, a, many, rfl, h1⟩
    have ec : chkR x = true := by simpa using ec
    rw [if_pos ⟨eo, ec⟩]
    refine wp_seq (fun p => (p.1 = .inr (mayS t.p.st x.2.1, ()) ∧ x.1 = 2 ∧ mayS t.p.st x.2.1 ≠ 0 ∨ p.1 = .inl () ∧ ¬ (x.1 = 2 ∧ mayS t.p.st x.2.1 ≠ 0)) ∧ Keep (fun _ => False) H1 p.2) ?_ ?_
    · refine wp_to (rdI_of t1 (n := x.1) rfl) (wp_if (p := x.1 = 2) rfl (fun e => ?_) (fun e => ?_))
      · refine wp_to (v := (c, 0)) rfl (wp_to (rdM_of h1.c (n := a.om) rfl) (wp_to (rdI_of t1 (n := x.2.1) rfl) ?_))
        rw [e1]
        refine wp_seq _ (tr_may e2 x.2.1) ?_
        rintro ⟨⟨ee, ⟨⟩⟩, G⟩ ⟨he, hk⟩
        have he : ee = mayS t.p.st x.2.1 := he
        subst he
        refine wp_if (p := ¬ mayS t.p.st x.2.1 = 0) (by simp) (fun e0 => ?_) (fun e0 => ?_)
        · exact wp_some ⟨.inl ⟨rfl, e, e0⟩, hk⟩
        · exact wp_some ⟨.inr ⟨rfl, fun hh => e0 hh.2⟩, hk⟩
      · exact wp_some ⟨.inr ⟨rfl, fun hh => e hh.1⟩, Keep.refl _ _⟩
    rintro ⟨p, G⟩ ⟨hp, hkG⟩
    have hkG : Keep (fun _ => False) H1 G := hkG
    have h2 := h1.keep hkG
    rcases hp with ⟨hp, e, e0⟩ | ⟨hp, e⟩
    · have hp : p = .inr (mayS t.p.st x.2.1, ()) := hp
      subst hp
      rw [if_pos ⟨e, e0⟩]
      exact wp_some ⟨hF (k1.trans hkG), rfl, a, many, rfl, h2⟩
    · have hp : p = .inl () := hp
      subst hp
      rw [if_neg e]
      refine wp_seq _ (md_stepD h2 (hkG.get t1 fun hf => hf) (chk_good ec) hk) ?_
      rintro ⟨⟨ee, ⟨⟩⟩, G'⟩ ⟨q1, q2⟩
      exact wp_some ⟨(hF (k1.trans hkG)).trans q1, q2⟩
theorem md_Put (h : MdAt H c a r size many now o) (id p : Int) (text : Bytes) (hn : a.n < 4611686018427387904) : WP (model_Model_Put (some (c, 0)) id p text H) fun y => Keep (fun b => b = c) H y.2 ∧ y.1.1 = (putO o id p text r size).1 ∧ ∃ a' many', a'.n ≤ a.n + 1 ∧ MdAt y.2 c a' r size many' now (putO o id p text r size).2 := by
  have k1 := Keep.app (fun _ => False) H [.cells [.ptr (some (c, 0))] .exact, .cells [.int .i64 id] .exact, .cells [.int .i64 p] .exact, .cells [.str text] .exact]
  have t0 : (H ++ [Blk.cells [.ptr (some (c, 0))] .exact, .cells [.int .i64 id] .exact, .cells [.int .i64 p] .exact, .cells [.str text] .exact])[H.length]? = some (.cells [.ptr (some (c, 0))] .exact) := by rw [tl_get0]; rfl
  have t1 : (H ++ [Blk.cells [.ptr (some (c, 0))] .exact, .cells [.int .i64 id] .exact, .cells [.int .i64 p] .exact, .cells [.str text] .exact])[H.length + 1]? = some (.cells [.int .i64 id] .exact) := by rw [tl_get1]; rfl
  have t2 : (H ++ [Blk.cells [.ptr (some (c, 0))] .exact, .cells [.int .i64 id] .exact, .cells [.int .i64 p] .exact, .cells [.str text] .exact])[H.length + 2]? = some (.cells [.int .i64 p] .exact) := by rw [tl_get1]; rfl
  have t3 : (H ++ [Blk.cells [.ptr (some (c, 0))] .exact, .cells [.int .i64 id] .exact, .cells [.int .i64 p] .exact, .cells [.str text] .exact])[H.length + 3]? = some (.cells [.str text] .exact) := by rw [tl_get1]; rfl
  have h1 := h.keep k1
  unfold model_Model_Put
  simp only [List.append_assoc, List.cons_append, List.nil_append, List.length_append, List.length_cons, List.length_nil, Nat.zero_add]
  generalize H ++ [Blk.cells [.ptr (some (c, 0))] .exact, .cells [.int .i64 id] .exact, .cells [.int .i64 p] .exact, .cells [.str text] .exact] = H1 at k1 t0 t1 t2 t3 h1 ⊢
  have hF : ∀ {A B : Heap}, Keep (fun _ => False) A B → Keep (fun b => b = c) A B := fun k => k.mono fun _ hf => hf.elim
  refine wp_to (rdP_of t0 (n := some (c, 0)) rfl) (wp_f rfl (wp_to (rdP_of t0 (n := some (c, 0)) rfl) (wp_to (v := (c, 0)) rfl (wp_to (rdM_of h1.c (n := a.om) rfl) ?_))))
  cases o with
  | none =>
    have e1 : a.om = none := h.opn
    exact wp_t (by rw [e1]; rfl) (wp_some ⟨hF k1, rfl, a, many, by omega, h1⟩)
  | some t =>
    obtain ⟨m, e1, e2, _⟩ := h1.opn
    show WP _ fun (y : (Int × Unit) × Heap) => Keep (fun b => b = c) H y.2 ∧ y.1.1 = (t.putS id p text r size).1 ∧ ∃ a' many', a'.n ≤ a.n + 1 ∧ MdAt y.2 c a' r size many' now (some (t.putS id p text r size).2)
    unfold Tx.putS
    refine wp_f (by rw [e1]; rfl) (wp_to (rdS_of t3 (n := text) rfl) (wp_to (rdP_of t0 (n := some (c, 0)) rfl) (wp_to (v := (c, 0)) rfl (wp_to (rdI_of h1.c (n := size) rfl) (wp_if (p := size < (text.length : Int)) rfl (fun e => ?_) (fun e => ?_))))))
    · rw [if_pos e]
      exact wp_some ⟨hF k1, rfl, a, many, by omega, h1⟩
    rw [if_neg e]
    refine wp_to (rdP_of t0 (n := some (c, 0)) rfl) (wp_to (v := (c, 0)) rfl (wp_to (rdM_of h1.c (n := a.om) rfl) (wp_to (rdI_of t1 (n := id) rfl) ?_)))
    rw [e1]
    refine wp_seq _ (tr_may e2 id) ?_
    rintro ⟨⟨ee, ⟨⟩⟩, G⟩ ⟨he, hk⟩
    have he : ee = mayS t.p.st id := he
    subst he
    have hk : Keep (fun _ => False) H1 G := hk
    have h2 := h1.keep hk
    refine wp_if (p := ¬ mayS t.p.st id = 0) (by simp) (fun e0 => ?_) (fun e0 => ?_)
    · rw [if_pos e0]
      exact wp_some ⟨hF (k1.trans hk), rfl, a, many, by omega, h2⟩
    · rw [if_neg e0]
      have e0' : mayS t.p.st id = 0 := Decidable.byContradiction e0
      refine wp_to (rdP_of (hk.get t0 fun hf => hf) (n := some (c, 0)) rfl) (wp_seq _ (md_stepP h2 (hk.get t2 fun hf => hf) (hk.get t1 fun hf => hf) (hk.get t0 fun hf => hf) (hk.get t3 fun hf => hf) e0' hn) ?_)
      rintro ⟨⟨ee, ⟨⟩⟩, G'⟩ ⟨q1, q2⟩
      exact wp_some ⟨(hF (k1.trans hk)).trans q1, q2⟩
/-- What is seen. -/
def seeP (now : Pln) (o : Option Tx) : Pln := match o with | none => now | some t => t.p
theorem md_see (h : MdAt H c a r size many now o) : ∃ m pg, model_Model_see (some (c, 0)) H = some ((some m, ()), H) ∧ TrAt H m pg a.f (seeP now o).st ∧ PlOK (seeP now o) a.f a.n := by
  have hm : rdM H c (0 + 1) = some a.om := rdM_of h.c rfl
  cases o with
  | none =>
    have e1 : a.om = none := h.opn
    refine ⟨a.nm, a.np, ?_, h.nw, h.nok⟩
    unfold model_Model_see
    show (rdM H c (0 + 1)).bind _ = _
    rw [hm, e1]
    show (rdM H c 0).bind _ = _
    rw [rdM_of h.c (n := some a.nm) rfl]; rfl
  | some t =>
    obtain ⟨m, e1, e2, e3, _⟩ := h.opn
    refine ⟨m, a.op, ?_, e2, e3⟩
    unfold model_Model_see
    show (rdM H c (0 + 1)).bind _ = _
    rw [hm, e1]
    show (rdM H c (0 + 1)).bind _ = _
    rw [hm, e1]; rfl
/-- What a page says. -/
def txtP (q : Pln) (v : Int) : Bytes := (q.tx[(v - 1000).toNat]?).getD []
theorem PlOK.txt {q : Pln} {f : LfF} {n : Nat} (h : PlOK q f n) {x : Int × Int} (hx : x ∈ q.st.lv) : (f x.2).1 = txtP q x.2 := by
  obtain ⟨i, hi, e⟩ := h.one hx
  unfold txtP
  rw [e, show (1000 + (i : Int) - 1000).toNat = i by omega, List.getElem?_eq_getElem hi]
  exact (h.tx i hi).1
theorem md_Get (h : MdAt H c a r size many now o) (id p : Int) : WP (model_Model_Get (some (c, 0)) id p H) fun y => Keep (fun _ => False) H y.2 ∧ y.1 = (match afind (pgs (seeP now o).st.lv id) p with | none => ([], 181, ()) | some v => (txtP (seeP now o) v, 0, ())) := by
  obtain ⟨m, pg, e1, e2, e3⟩ := md_see h
  unfold model_Model_Get
  refine wp_f rfl (wp_to e1 (wp_to (e2.sp.space id) ?_))
  cases hx : afind (seeP now o).st.sp id with
  | none =>
    have hn : pgs (seeP now o).st.lv id = [] := pgs_none e2.w hx
    rw [hn]
    refine wp_to (v := (([], 0, ()), false)) (mget_nil _ _ _ rfl) (wp_tmpL (wp_t rfl (wp_some ⟨Keep.app _ _ _, rfl⟩)))
  | some y =>
    refine wp_to ((e2.pp id y hx).leaf p) (wp_tmpL ?_)
    cases hf : afind (pgs (seeP now o).st.lv id) p with
    | none => exact wp_t rfl (wp_some ⟨Keep.app _ _ _, rfl⟩)
    | some v =>
      have ht := e3.txt (x := (id * 1024 + p, v)) (pgs_mem (afind_mem hf)).2.2
      refine wp_f rfl (wp_to (rdS_of (cs := [.str (a.f v).1, .int .i64 (a.f v).2]) (bk := .exact) (n := (a.f v).1) (by rw [tl_get0]; rfl) rfl) (wp_some ⟨Keep.app _ _ _, ?_⟩))
      rw [ht]
theorem md_Copy (h : MdAt H c a r size many now o) : WP (model_Model_Copy (some (c, 0)) H) fun y => ∃ c', y.1 = (some (c', 0), ()) ∧ H.length ≤ c' ∧ Keep (fun _ => False) H y.2 ∧ ∃ a', a'.n = a.n ∧ MdAt y.2 c' a' r size many now o := by
  unfold model_Model_Copy
  have k1 := Keep.app (fun _ => False) H [mdC a r size many]
  have h1 := h.keep k1
  have hrd : rd H (.agg [.mp, .mp, .int .i64, .int .i64, .int .i64, .int .i64, .int .i64, .int .i64, .int .i64]) c 0 = (some (some a.nm, a.om, r.1, r.2.1, r.2.2.1, r.2.2.2.1, size, many, (a.n : Int), ()) : Option (Option Nat × Option Nat × Int × Int × Int × Int × Int × Int × Int × Unit)) := rd_agg_of h.c (by simp) rfl
  have hw : wr (H ++ [Blk.cells [.mp none, .mp none, .int .i64 0, .int .i64 0, .int .i64 0, .int .i64 0, .int .i64 0, .int .i64 0, .int .i64 0] .exact]) H.length 0 [.mp (some a.nm), .mp a.om, .int .i64 r.1, .int .i64 r.2.1, .int .i64 r.2.2.1, .int .i64 r.2.2.2.1, .int .i64 size, .int .i64 many, .int .i64 (a.n : Int)] = some (H ++ [mdC a r size many]) := by
    rw [wr_t0, wr_c0 _ _ _ _ (by simp)]; rfl
  have t1 : (H ++ [mdC a r size many])[H.length]? = some (mdC a r size many) := by rw [tl_get0]; rfl
  have hc0 : c < H.length := get_lt h.c
  refine wp_f rfl (wp_to (v := (c, 0)) rfl (wp_to hrd (wp_to hw (wp_to (v := (c, 0)) rfl (wp_to (rdM_of h1.c (n := some a.nm) rfl) (wp_seq _ (tr_clone h1.nw) ?_))))))
  rintro ⟨⟨y, ⟨⟩⟩, G⟩ ⟨m', pg', hx, ht, hk, hf⟩
  cases hx
  have ht : TrAt G m' pg' a.f now.st := ht
  have hk : Keep (fun _ => False) (H ++ [mdC a r size many]) G := hk
  have hG := hk.get t1 fun hf => hf
  have hw1 : wr G H.length 0 [.mp (some m')] = some (G.set H.length (mdC { a with nm := m', np := pg' } r size many)) := by
    rw [wr1_of hG (by decide) (by simp)]; rfl
  have kk : Keep (fun b => b = H.length) G (G.set H.length (mdC { a with nm := m', np := pg' } r size many)) := Keep.set _ _ _ rfl
  have h2 := h1.keep hk
  have hgl := get_lt hG
  have h3 := h2.other (show H.length ≠ c by omega) hG kk
  have hnow3 := ht.keep kk fun b hb e => ht.ne hG b hb e
  have hc3 : (G.set H.length (mdC { a with nm := m', np := pg' } r size many))[H.length]? = some (mdC { a with nm := m', np := pg' } r size many) := set_get hgl
  have hk3 : Keep (fun _ => False) H (G.set H.length (mdC { a with nm := m', np := pg' } r size many)) := ⟨by have := hk.len; simp only [List.length_append, List.length_set] at this ⊢; omega, fun b hb _ => by
    rw [set_get' (by omega), (k1.trans hk).same b hb fun hf => hf]⟩
  refine wp_to hw1 (wp_to (v := (c, 0)) rfl (wp_to (rdM_of h3.c (n := a.om) rfl) ?_))
  cases o with
  | none =>
    have e1 : a.om = none := h.opn
    refine wp_f (by rw [e1]; rfl) (wp_some ⟨H.length, rfl, Nat.le_refl _, hk3, { a with nm := m', np := pg' }, rfl, hc3, hnow3, h.nok, e1⟩)
  | some t =>
    obtain ⟨m, e1, e2, e3⟩ := h3.opn
    refine wp_t (by rw [e1]; rfl) (wp_to (v := (c, 0)) rfl (wp_to (show _ = some (some m) by rw [rdM_of h3.c (n := a.om) rfl, e1]) ?_))
    refine wp_seq _ (tr_clone e2) ?_
    rintro ⟨⟨y, ⟨⟩⟩, K⟩ ⟨m2, pg2, hx, ht2, hk2, hf2⟩
    cases hx
    have ht2 : TrAt K m2 pg2 a.f t.p.st := ht2
    have hk2 : Keep (fun _ => False) (G.set H.length (mdC { a with nm := m', np := pg' } r size many)) K := hk2
    have hK := hk2.get hc3 fun hf => hf
    have hw2 : wr K H.length 1 [.mp (some m2)] = some (K.set H.length (mdC { a with nm := m', np := pg', om := some m2, op := pg2 } r size many)) := by
      rw [wr1_of hK (by decide) (by simp)]; rfl
    have k4 : Keep (fun b => b = H.length) K (K.set H.length (mdC { a with nm := m', np := pg', om := some m2, op := pg2 } r size many)) := Keep.set _ _ _ rfl
    have hnow4 := hnow3.keep hk2 fun _ _ hf => hf
    refine wp_to hw2 (wp_some ⟨H.length, rfl, Nat.le_refl _, ⟨?_, fun b hb _ => ?_⟩, { a with nm := m', np := pg', om := some m2, op := pg2 }, rfl, set_get (get_lt hK), hnow4.keep k4 fun b hb e => hnow4.ne hK b hb e, h.nok, m2, rfl, ht2.keep k4 fun b hb e => ht2.ne hK b hb e, e3⟩)
    · have h5 := hk2.len
      have h6 := hk3.len
      simp only [List.length_set] at h5 h6 ⊢
      omega
    · show (K.set H.length _)[b]? = _
      rw [set_get' (by omega), (hk3.trans hk2).same b hb fun hf => hf]
end
end Ev

