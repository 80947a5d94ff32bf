/- Slices that grow by append. -/
import Derived.Test.YtfmefnejaocopaaLp
namespace Ev
open Go (IntKind)

/-- A slice that append has made, or an empty one. -/
structure Grown (H : Heap) (es : Nat) (s : Sl) (cs : List C) : Prop where
  cap : s.cap = s.len
  len : cs.length = s.len * es
  nil : s.p = none → s.len = 0
  blk : ∀ a, s.p = some a → a.2 = 0 ∧ (H[a.1]? = some (.cells cs .loose) ∨ H[a.1]? = some (.cells cs .exact))

theorem Grown.ni (H : Heap) (es : Nat) : Grown H es ⟨none, 0, 0⟩ [] := ⟨rfl, by simp, fun _ => rfl, fun a h => by cases h⟩

theorem Grown.row {H : Heap} {es : Nat} {s : Sl} {cs : List C} (h : Grown H es s cs) : slRow H es s = some cs := by
  unfold slRow
  cases hp : s.p with
  | none =>
    have := h.len
    rw [h.nil hp, Nat.zero_mul] at this
    simp [List.eq_nil_of_length_eq_zero this]
  | some a =>
    obtain ⟨h1, h2⟩ := h.blk a hp
    rcases h2 with h2 | h2 <;> simp only [Heap.row, h2, h1, cut_all h.len.symm]
theorem Grown.str {H : Heap} {s : Sl} {t : Bytes} (h : Grown H 1 s (cellsOf t)) : strOf H s = some t := by
  unfold strOf
  rw [h.row]; exact bytes_of_cells t

/-- The heap behind a growth: the old block is gone if its end is not known. -/
def grownH (H : Heap) (s : Sl) (cs : List C) : Heap :=
  match s.p with
  | none => H ++ [.cells cs .loose]
  | some a => match H[a.1]? with
    | some (.cells _ .loose) => H.set a.1 .dead ++ [.cells cs .loose]
    | _ => H ++ [.cells cs .loose]
theorem grownH_length (H : Heap) (s : Sl) (cs : List C) : (grownH H s cs).length = H.length + 1 := by
  unfold grownH
  split
  · simp
  · split <;> simp
theorem grownH_get {H : Heap} {s : Sl} {cs : List C} {j : Nat} (hj : j < H.length) (ha : ∀ a, s.p = some a → a.1 ≠ j) : (grownH H s cs)[j]? = H[j]? := by
  unfold grownH
  split
  · rw [app_lt hj]
  · rename_i a hp
    split
    · rw [app_lt (by simpa using hj), set_get' (ha a hp)]
    · rw [app_lt hj]
theorem grownH_last (H : Heap) (s : Sl) (cs : List C) : (grownH H s cs)[H.length]? = some (.cells cs .loose) := by
  unfold grownH
  split
  · exact app_last
  · split
    · rw [List.getElem?_append_right (by simp)]; simp
    · exact app_last

theorem Grown.app {H : Heap} {es bytes : Nat} {s : Sl} {cs : List C} (h : Grown H es s cs) (hes : 0 < es) {n : Nat} {new : List C} (hn : 0 < n) (hnew : new.length = n * es) (hb : (s.len + n) * bytes ≤ 35184372088832) (hb2 : s.len + n ≤ 35184372088832) :
    appS H es bytes s n new = some (⟨some (H.length, 0), s.len + n, s.len + n⟩, grownH H s (cs ++ new)) ∧ Grown (grownH H s (cs ++ new)) es ⟨some (H.length, 0), s.len + n, s.len + n⟩ (cs ++ new) := by
  constructor
  · unfold appS
    have h1 : decide (s.len + n ≤ s.cap) = false := decide_eq_false (by rw [h.cap]; omega)
    have h2 : decide ((s.len + n) * bytes ≤ maxRow ∧ s.len + n ≤ maxRow) = true := decide_eq_true (by unfold maxRow; omega)
    rw [h1, cond_f, h2, cond_t, h.row, bind_some]
    have hk : growKill H es s = some (match s.p with
        | none => H
        | some a => match H[a.1]? with
          | some (.cells _ .loose) => H.set a.1 .dead
          | _ => H) := by
      unfold growKill
      cases hp : s.p with
      | none => rfl
      | some a =>
        obtain ⟨g1, g2⟩ := h.blk a hp
        rcases g2 with g2 | g2
        · have : decide (a.2 + s.cap * es = cs.length) = true := decide_eq_true (by rw [g1, h.cap, h.len]; omega)
          simp only [g2, this, cond_t]
        · simp only [g2]
    rw [hk, bind_some]
    unfold grownH
    cases hp : s.p with
    | none => rfl
    | some a =>
      obtain ⟨g1, g2⟩ := h.blk a hp
      rcases g2 with g2 | g2 <;> simp only [g2]
  · refine ⟨rfl, by rw [List.length_append, h.len, hnew, Nat.add_mul], fun hh => by (cases hh), ?_⟩
    rintro a ha
    cases ha
    exact ⟨rfl, .inl (grownH_last H s _)⟩

/-- A block behind does not matter. -/
theorem Grown.mono {H H' : Heap} {es : Nat} {s : Sl} {cs : List C} (h : Grown H es s cs) (hh : ∀ a, s.p = some a → H'[a.1]? = H[a.1]?) : Grown H' es s cs :=
  ⟨h.cap, h.len, h.nil, fun a ha => by rw [hh a ha]; exact h.blk a ha⟩
theorem Grown.lt {H : Heap} {es : Nat} {s : Sl} {cs : List C} (h : Grown H es s cs) {a : Nat × Nat} (ha : s.p = some a) : a.1 < H.length := by
  obtain ⟨_, h2⟩ := h.blk a ha
  rcases h2 with h2 | h2 <;> exact (List.getElem?_eq_some_iff.1 h2).1
theorem Grown.push {H : Heap} {es : Nat} {s : Sl} {cs : List C} (h : Grown H es s cs) (x : Blk) : Grown (H ++ [x]) es s cs :=
  h.mono fun _ ha => app_lt (h.lt ha)

/-- A row that was just written out. -/
theorem row_last {H : Heap} {cs : List C} {bk : BK} {es n cap : Nat} (h : n * es = cs.length) : slRow (H ++ [.cells cs bk]) es ⟨some (H.length, 0), n, cap⟩ = some cs := by
  unfold slRow
  simp only [Heap.row, app_last, cut_all h]
end Ev
