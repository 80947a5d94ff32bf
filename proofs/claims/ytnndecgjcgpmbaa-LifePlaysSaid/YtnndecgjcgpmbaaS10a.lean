/- What the functions of the package life do, on a life that lies in two blocks. -/
import Derived.Test.YtnndecgjcgpmbaaL10
import Derived.Test.YtnndecgjcgpmbaaEvLoop
namespace Ev
open Go (IntKind)

structure Lf where
  xs : List Int
  pg : Int
  op : Int
  nx : Int

def Lf.cells (ba : Nat) (l : Lf) : List C := [.sl 1 ⟨some (ba, 0), l.xs.length, l.xs.length⟩, .int .i64 l.pg, .int .i64 l.op, .int .i64 l.nx]
def Lf.row (l : Lf) : List C := l.xs.map (C.int .i64)

structure LifeAt (H : Heap) (bl ba : Nat) (l : Lf) : Prop where
  lb : bl < H.length
  la : ba < H.length
  ne : bl ≠ ba
  cb : H[bl]? = some (.cells (l.cells ba) .exact)
  ca : H[ba]? = some (.cells l.row .exact)

structure Fr (bl ba : Nat) (H H' : Heap) : Prop where
  len : H'.length = H.length
  same : ∀ k, k ≠ bl → k ≠ ba → H'[k]? = H[k]?
theorem Fr.refl (bl ba : Nat) (H : Heap) : Fr bl ba H H := ⟨rfl, fun _ _ _ => rfl⟩
theorem Fr.trans {bl ba : Nat} {a b c : Heap} (h : Fr bl ba a b) (k : Fr bl ba b c) : Fr bl ba a c := ⟨k.len.trans h.len, fun j h1 h2 => (k.same j h1 h2).trans (h.same j h1 h2)⟩

section
variable {H : Heap} {bl ba : Nat} {l : Lf}

theorem LifeAt.wr_op (h : LifeAt H bl ba l) (v : Int) : ∃ H', wr H bl 2 [.int .i64 v] = some H' ∧ LifeAt H' bl ba { l with op := v } ∧ Fr bl ba H H' := by
  refine ⟨_, wr1_of h.cb (by decide) (by simp [Lf.cells]), ⟨by simpa using h.lb, by simpa using h.la, h.ne, ?_, ?_⟩, ⟨by simp, fun k h1 h2 => set_get' (Ne.symm h1)⟩⟩
  · rw [set_get h.lb]; rfl
  · rw [set_get' h.ne]; exact h.ca
theorem LifeAt.wr_nx (h : LifeAt H bl ba l) (v : Int) : ∃ H', wr H bl 3 [.int .i64 v] = some H' ∧ LifeAt H' bl ba { l with nx := v } ∧ Fr bl ba H H' := by
  refine ⟨_, wr1_of h.cb (by decide) (by simp [Lf.cells]), ⟨by simpa using h.lb, by simpa using h.la, h.ne, ?_, ?_⟩, ⟨by simp, fun k h1 h2 => set_get' (Ne.symm h1)⟩⟩
  · rw [set_get h.lb]; rfl
  · rw [set_get' h.ne]; exact h.ca
theorem LifeAt.wr_x (h : LifeAt H bl ba l) {i : Nat} (hi : i < l.xs.length) (v : Int) : ∃ H', wr H ba i [.int .i64 v] = some H' ∧ LifeAt H' bl ba { l with xs := l.xs.set i v } ∧ Fr bl ba H H' := by
  refine ⟨_, wr1_of h.ca (by decide) (by simpa [Lf.row] using hi), ⟨by simpa using h.lb, by simpa using h.la, h.ne, ?_, ?_⟩, ⟨by simp, fun k h1 h2 => set_get' (Ne.symm h2)⟩⟩
  · rw [set_get' (Ne.symm h.ne), h.cb]; simp [Lf.cells]
  · rw [set_get h.la]; simp [Lf.row, List.map_set]

theorem LifeAt.rd_sl (h : LifeAt H bl ba l) : rdSl 1 H bl 0 = some ⟨some (ba, 0), l.xs.length, l.xs.length⟩ := rdSl_of h.cb rfl
theorem LifeAt.rd_pg (h : LifeAt H bl ba l) : rdI .i64 H bl 1 = some l.pg := rdI_of h.cb rfl
theorem LifeAt.rd_op (h : LifeAt H bl ba l) : rdI .i64 H bl 2 = some l.op := rdI_of h.cb rfl
theorem LifeAt.rd_nx (h : LifeAt H bl ba l) : rdI .i64 H bl 3 = some l.nx := rdI_of h.cb rfl
theorem LifeAt.rd_x (h : LifeAt H bl ba l) {i : Nat} {v : Int} (hi : l.xs[i]? = some v) : rdI .i64 H ba i = some v := rdI_of h.ca (by simp [Lf.row, hi])

def Lf.inn (l : Lf) (b : Int) : Bool := decide (0 ≤ b ∧ b < l.xs.length)

theorem in_eq (h : LifeAt H bl ba l) (b : Int) : life_Life_in (some (bl, 0)) b H = some ((l.inn b, ()), H) := by
  unfold life_Life_in Lf.inn
  by_cases h0 : 0 ≤ b
  · simp [h0, h.rd_sl]
  · simp [h0]

theorem inn_spec {b : Int} (h : l.inn b = true) : 0 ≤ b ∧ b < l.xs.length ∧ ∃ v, l.xs[b.toNat]? = some v := by
  have h := of_decide_eq_true h
  refine ⟨h.1, h.2, l.xs[b.toNat]'(by omega), List.getElem?_eq_getElem _⟩

theorem at1 {b : Int} (h : l.inn b = true) : Sl.at 1 ⟨some (ba, 0), l.xs.length, l.xs.length⟩ b = some (ba, b.toNat) := by
  obtain ⟨h0, h1, _⟩ := inn_spec h
  rw [at_of h0 h1]; simp

/-- Is -/
theorem is_out (h : LifeAt H bl ba l) {b : Int} (hb : l.inn b = false) : life_Life_Is (some (bl, 0)) b H = some ((-1, ()), H) := by
  simp [life_Life_Is, in_eq h, hb]
theorem is_in (h : LifeAt H bl ba l) {b : Int} {v : Int} (hb : l.inn b = true) (hv : l.xs[b.toNat]? = some v) : life_Life_Is (some (bl, 0)) b H = some ((v, ()), H) := by
  simp [life_Life_Is, in_eq h, hb, h.rd_sl, at1 hb, h.rd_x hv]

/-- Open -/
theorem open_no (h : LifeAt H bl ba l) {b : Int} (hb : l.inn b = false ∨ (∃ v, l.xs[b.toNat]? = some v ∧ v ≠ 0) ∨ 0 ≤ l.op) : life_Life_Open (some (bl, 0)) b H = some ((false, ()), H) := by
  cases hi : l.inn b with
  | false => simp [life_Life_Open, in_eq h, hi]
  | true =>
    obtain ⟨_, _, v, hv⟩ := inn_spec hi
    by_cases h0 : v = 0
    · have : 0 ≤ l.op := by
        rcases hb with hb | ⟨u, hu, hne⟩ | hb
        · rw [hi] at hb; cases hb
        · rw [hv] at hu; cases hu; exact absurd h0 hne
        · exact hb
      simp [life_Life_Open, in_eq h, hi, h.rd_sl, at1 hi, h.rd_x hv, h0, h.rd_op, this]
    · simp [life_Life_Open, in_eq h, hi, h.rd_sl, at1 hi, h.rd_x hv, h0]
theorem open_yes (h : LifeAt H bl ba l) {b : Int} (hi : l.inn b = true) (hv : l.xs[b.toNat]? = some 0) (ho : l.op < 0) :
    ∃ H', life_Life_Open (some (bl, 0)) b H = some ((true, ()), H') ∧ LifeAt H' bl ba ⟨l.xs.set b.toNat 1, l.pg, b, 0⟩ ∧ Fr bl ba H H' := by
  have hlt : b.toNat < l.xs.length := (List.getElem?_eq_some_iff.1 hv).1
  obtain ⟨H1, w1, a1, f1⟩ := h.wr_x hlt 1
  obtain ⟨H2, w2, a2, f2⟩ := a1.wr_op b
  obtain ⟨H3, w3, a3, f3⟩ := a2.wr_nx 0
  refine ⟨H3, ?_, a3, (f1.trans f2).trans f3⟩
  have hno : ¬ 0 ≤ l.op := by omega
  simp [life_Life_Open, in_eq h, hi, h.rd_sl, at1 hi, h.rd_x hv, h.rd_op, hno, w1, w2, w3]

/-- Take, At -/
theorem take_no (h : LifeAt H bl ba l) (ho : l.op < 0) : life_Life_Take (some (bl, 0)) H = some ((0, 0, false, ()), H) := by
  simp [life_Life_Take, h.rd_op, ho]
theorem at_no (h : LifeAt H bl ba l) (ho : l.op < 0) : life_Life_At (some (bl, 0)) H = some ((0, 0, false, ()), H) := by
  simp [life_Life_At, h.rd_op, ho]
theorem at_yes (h : LifeAt H bl ba l) (ho : 0 ≤ l.op) : life_Life_At (some (bl, 0)) H = some ((l.op, l.nx, true, ()), H) := by
  have : ¬ l.op < 0 := by omega
  simp [life_Life_At, h.rd_op, h.rd_nx, this]
theorem take_more (h : LifeAt H bl ba l) (ho : 0 ≤ l.op) (h0 : 0 ≤ l.nx) (hn : l.nx < 1000) (hp : l.nx + 1 ≠ l.pg) :
    ∃ H', life_Life_Take (some (bl, 0)) H = some ((l.op, l.nx, true, ()), H') ∧ LifeAt H' bl ba ⟨l.xs, l.pg, l.op, l.nx + 1⟩ ∧ Fr bl ba H H' := by
  obtain ⟨H1, w1, a1, f1⟩ := h.wr_nx (l.nx + 1)
  refine ⟨H1, ?_, a1, f1⟩
  have hno : ¬ l.op < 0 := by omega
  have hw : IntKind.wrap .i64 (l.nx + 1) = l.nx + 1 := wrap_i64 (by omega) (by omega)
  simp [life_Life_Take, h.rd_op, h.rd_nx, hno, hw, w1, a1.rd_nx, a1.rd_pg, hp]
theorem take_last (h : LifeAt H bl ba l) (hi : l.inn l.op = true) (h0 : 0 ≤ l.nx) (hn : l.nx < 1000) (hp : l.nx + 1 = l.pg) :
    ∃ H', life_Life_Take (some (bl, 0)) H = some ((l.op, l.nx, true, ()), H') ∧ LifeAt H' bl ba ⟨l.xs.set l.op.toNat 2, l.pg, -1, l.nx + 1⟩ ∧ Fr bl ba H H' := by
  obtain ⟨ho, ho2, v, hv⟩ := inn_spec hi
  have hlt : l.op.toNat < l.xs.length := (List.getElem?_eq_some_iff.1 hv).1
  obtain ⟨H1, w1, a1, f1⟩ := h.wr_nx (l.nx + 1)
  obtain ⟨H2, w2, a2, f2⟩ := a1.wr_x (i := l.op.toNat) hlt 2
  obtain ⟨H3, w3, a3, f3⟩ := a2.wr_op (-1)
  refine ⟨H3, ?_, a3, (f1.trans f2).trans f3⟩
  have hno : ¬ l.op < 0 := by omega
  have hw : IntKind.wrap .i64 (l.nx + 1) = l.nx + 1 := wrap_i64 (by omega) (by omega)
  have hat : Sl.at 1 ⟨some (ba, 0), l.xs.length, l.xs.length⟩ l.op = some (ba, l.op.toNat) := at1 hi
  have hsl := a1.rd_sl
  simp only at hsl
  rw [hp] at w1 hw a1
  simp [life_Life_Take, h.rd_op, h.rd_nx, hno, hw, hp, w1, a1.rd_nx, a1.rd_pg, hsl, hat, w2, w3]

/-- set -/
theorem set_no (h : LifeAt H bl ba l) {b : Int} (what : Int) (hb : l.inn b = false ∨ l.xs[b.toNat]? = some 3) : life_Life_set (some (bl, 0)) b what H = some ((false, ()), H) := by
  cases hi : l.inn b with
  | false => simp [life_Life_set, in_eq h, hi]
  | true =>
    rcases hb with hb | hb
    · rw [hi] at hb; cases hb
    · simp [life_Life_set, in_eq h, hi, h.rd_sl, at1 hi, h.rd_x hb]
theorem set_yes (h : LifeAt H bl ba l) {b : Int} (what : Int) {v : Int} (hi : l.inn b = true) (hv : l.xs[b.toNat]? = some v) (h3 : v ≠ 3) :
    ∃ H', life_Life_set (some (bl, 0)) b what H = some ((true, ()), H') ∧ LifeAt H' bl ba ⟨l.xs.set b.toNat what, l.pg, if l.op = b then -1 else l.op, l.nx⟩ ∧ Fr bl ba H H' := by
  have hlt : b.toNat < l.xs.length := (List.getElem?_eq_some_iff.1 hv).1
  by_cases ho : l.op = b
  · obtain ⟨H1, w1, a1, f1⟩ := h.wr_op (-1)
    obtain ⟨H2, w2, a2, f2⟩ := a1.wr_x (i := b.toNat) hlt what
    refine ⟨H2, ?_, by rw [if_pos ho]; exact a2, f1.trans f2⟩
    have hsl := a1.rd_sl
    simp only at hsl
    simp [life_Life_set, in_eq h, hi, h.rd_sl, at1 hi, h.rd_x hv, h3, h.rd_op, ho, w1, hsl, w2]
  · obtain ⟨H2, w2, a2, f2⟩ := h.wr_x (i := b.toNat) hlt what
    refine ⟨H2, ?_, by rw [if_neg ho]; exact a2, f2⟩
    simp [life_Life_set, in_eq h, hi, h.rd_sl, at1 hi, h.rd_x hv, h3, h.rd_op, ho, w2]

/-- Count -/
def cnt (xs : List Int) (w : Int) : Nat := (xs.filter fun x => decide (x = w)).length
theorem count_eq (h : LifeAt H bl ba l) (w : Int) (hs : l.xs.length < 1000) : life_Life_Count (some (bl, 0)) w H = some (((cnt l.xs w : Int), ()), H) := by
  have hl := loopW_run (step := life_Life_Count.s1 w ⟨some (ba, 0), l.xs.length, l.xs.length⟩)
    (fun s G => G = H ∧ ∃ i : Nat, i ≤ l.xs.length ∧ s = (((cnt (l.xs.take i) w : Nat) : Int), (i : Int), ())) (fun x G => G = H ∧ x = ((cnt l.xs w : Int), ())) (fun s _ => l.xs.length - s.2.1.toNat)
    (by
      rintro s G ⟨rfl, i, hi, rfl⟩
      unfold life_Life_Count.s1
      by_cases hlt : i < l.xs.length
      · have hv : l.xs[i]? = some l.xs[i] := List.getElem?_eq_getElem hlt
        have hat : Sl.at 1 ⟨some (ba, 0), l.xs.length, l.xs.length⟩ (i : Int) = some (ba, i) := by
          rw [at_of (by omega) (by omega)]; simp
        have hc : ∀ j, cnt (l.xs.take j) w ≤ j := by
          intro j
          unfold cnt
          exact Nat.le_trans (List.length_filter_le _ _) (by simp; omega)
        have hci := hc i
        have hw1 : IntKind.wrap .i64 ((i : Int) + 1) = ((i + 1 : Nat) : Int) := by rw [wrap_i64 (by omega) (by omega)]; omega
        have hw2 : IntKind.wrap .i64 (((cnt (l.xs.take i) w : Nat) : Int) + 1) = ((cnt (l.xs.take i) w + 1 : Nat) : Int) := by rw [wrap_i64 (by omega) (by omega)]; omega
        have htk : l.xs.take (i + 1) = l.xs.take i ++ [l.xs[i]] := by rw [List.take_add_one, hv]; rfl
        have hd : decide ((i : Int) < (l.xs.length : Int)) = true := decide_eq_true (by omega)
        simp only [hd, cond_t, hat, bind_some, h.rd_x hv, hw1, hw2]
        by_cases he : l.xs[i] = w
        · simp only [he, decide_true, cond_t, Round]
          refine ⟨⟨trivial, i + 1, hlt, ?_⟩, ?_⟩
          · have : cnt (l.xs.take (i + 1)) w = cnt (l.xs.take i) w + 1 := by rw [htk]; simp [cnt, he]
            rw [this]
          · simp; omega
        · simp only [he, decide_false, cond_f, Round]
          refine ⟨⟨trivial, i + 1, hlt, ?_⟩, ?_⟩
          · have hf : ([l.xs[i]].filter fun x => decide (x = w)) = [] := by simp [he]
            have : cnt (l.xs.take (i + 1)) w = cnt (l.xs.take i) w := by rw [htk]; unfold cnt; rw [List.filter_append, hf, List.append_nil]
            rw [this]
          · simp; omega
      · have hd : decide ((i : Int) < (l.xs.length : Int)) = false := decide_eq_false (by omega)
        simp only [hd, cond_f, Round]
        have : i = l.xs.length := by omega
        subst this
        exact ⟨trivial, by rw [List.take_length]⟩) (0, 0, ()) H ⟨rfl, 0, Nat.zero_le _, by simp [cnt]⟩
  obtain ⟨x, G, h1, rfl, rfl⟩ := hl
  simp [life_Life_Count, h.rd_sl, h1]

def Lf.room (l : Lf) : Int := (cnt l.xs 0 : Int) * l.pg + (if 0 ≤ l.op then l.pg - l.nx else 0)
theorem cnt_le (xs : List Int) (w : Int) : cnt xs w ≤ xs.length := List.length_filter_le _ _

theorem room_eq (h : LifeAt H bl ba l) (hs : l.xs.length < 1000) (h0 : 0 ≤ l.pg) (hp : l.pg < 1000) (hn : 0 ≤ l.nx ∧ l.nx ≤ l.pg) : life_Life_Room (some (bl, 0)) H = some ((l.room, ()), H) := by
  have hc := cnt_le l.xs 0
  have hb : (cnt l.xs 0 : Int) * l.pg ≤ 1000 * 1000 := Int.mul_le_mul (by omega) (by omega) h0 (by omega)
  have hb0 : 0 ≤ (cnt l.xs 0 : Int) * l.pg := Int.mul_nonneg (by omega) h0
  have w1 : IntKind.wrap .i64 ((cnt l.xs 0 : Int) * l.pg) = (cnt l.xs 0 : Int) * l.pg := wrap_i64 (by omega) (by omega)
  have w2 : IntKind.wrap .i64 (l.pg - l.nx) = l.pg - l.nx := wrap_i64 (by omega) (by omega)
  by_cases ho : 0 ≤ l.op
  · have w3 : IntKind.wrap .i64 ((cnt l.xs 0 : Int) * l.pg + (l.pg - l.nx)) = (cnt l.xs 0 : Int) * l.pg + (l.pg - l.nx) := wrap_i64 (by omega) (by omega)
    simp [life_Life_Room, h.rd_pg, count_eq h 0 hs, h.rd_op, h.rd_nx, ho, w1, w2, w3, Lf.room]
  · simp [life_Life_Room, h.rd_pg, count_eq h 0 hs, h.rd_op, ho, w1, Lf.room]

/-- New -/
theorem new_eq {n k : Int} (h0 : 1 ≤ n) (h1 : n ≤ 32) (h2 : 1 ≤ k) (h3 : k ≤ 16) (H : Heap) :
    ∃ H', life_New n k H = some ((some (H.length + 1, 0), 0, ()), H') ∧ LifeAt H' (H.length + 1) H.length ⟨List.replicate n.toNat 0, k, -1, 0⟩ ∧ H'.length = H.length + 2 ∧ ∀ j, j < H.length → H'[j]? = H[j]? := by
  have hrep : rep n.toNat [C.int .i64 0] = (List.replicate n.toNat 0).map (C.int .i64) := by
    unfold rep
    generalize n.toNat = m
    induction m with
    | zero => rfl
    | succ m ih => rw [List.replicate_succ, List.flatten_cons, ih, List.replicate_succ, List.map_cons]; rfl
  have hmk : mkS H 8 [.int .i64 0] n n = some (⟨some (H.length, 0), n.toNat, n.toNat⟩, H ++ [.cells ((List.replicate n.toNat 0).map (C.int .i64)) .exact]) := by
    unfold mkS
    have : decide (0 ≤ n ∧ n ≤ n ∧ n.toNat * 8 ≤ maxRow ∧ n.toNat ≤ maxRow) = true := by
      apply decide_eq_true
      unfold maxRow
      refine ⟨by omega, by omega, by omega, by omega⟩
    rw [this, cond_t, hrep]
  have d1 : ¬ n < 1 := by omega
  have d2 : ¬ 32 < n := by omega
  have d3 : ¬ k < 1 := by omega
  have d4 : ¬ 16 < k := by omega
  refine ⟨H ++ [.cells ((List.replicate n.toNat 0).map (C.int .i64)) .exact] ++ [.cells [.sl 1 ⟨some (H.length, 0), n.toNat, n.toNat⟩, .int .i64 k, .int .i64 (-1), .int .i64 0] .exact], ?_, ⟨by simp, by simp, by omega, ?_, ?_⟩, by simp, ?_⟩
  · simp [life_New, d1, d2, d3, d4, hmk]
  · rw [List.getElem?_append_right (by simp)]
    simp [Lf.cells]
  · rw [List.append_assoc, List.getElem?_append_right (Nat.le_refl _)]
    simp [Lf.row]
  · intro j hj
    rw [List.append_assoc, List.getElem?_append_left hj]
end
end Ev
