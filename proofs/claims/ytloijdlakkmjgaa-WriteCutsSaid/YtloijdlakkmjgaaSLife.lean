/- The blocks' life: how it stands in the heap; what each of its functions does. -/
import Derived.Test.YtloijdlakkmjgaaGLife
import Derived.Test.YtloijdlakkmjgaaSNandN
namespace Ev
open Go (IntKind)

structure LfA where
  c : Nat
  lb : Nat
  B : Nat
  P : Nat
structure Lf where
  l : Nat → Int
  op : Int
  nx : Nat
def LfA.fp (e : LfA) (k : Nat) : Prop := k = e.c ∨ k = e.lb
def LfA.cells (e : LfA) (v : Lf) : List C := [.sl 1 ⟨some (e.lb, 0), e.B, e.B⟩, .int .i64 e.P, .int .i64 v.op, .int .i64 v.nx]
def Lf.row (v : Lf) (i : Nat) : List C := [.int .i64 (v.l i)]
structure LfAt (H : Heap) (e : LfA) (v : Lf) : Prop where
  cell : H[e.c]? = some (.cells (e.cells v) .exact)
  list : H[e.lb]? = some (.cells (arrC e.B v.row) .exact)
  ne : e.c ≠ e.lb
  sz : e.B ≤ 1000 ∧ e.P ≤ 1000

section
variable {H : Heap} {e : LfA} {v : Lf}
theorem lrow_len (v : Lf) : ∀ i, (v.row i).length = 1 := fun _ => rfl
theorem LfAt.lt (h : LfAt H e v) {k : Nat} (hk : e.fp k) : k < H.length := by
  rcases hk with rfl | rfl
  · exact get_lt h.cell
  · exact get_lt h.list
theorem LfAt.keep (h : LfAt H e v) {F : Nat → Prop} {H' : Heap} (k : Keep F H H') (hF : ∀ j, e.fp j → ¬ F j) : LfAt H' e v := ⟨k.get h.cell (hF _ (.inl rfl)), k.get h.list (hF _ (.inr rfl)), h.ne, h.sz⟩
theorem LfAt.rl (h : LfAt H e v) : rdSl 1 H e.c 0 = some ⟨some (e.lb, 0), e.B, e.B⟩ := rdSl_of h.cell rfl
theorem LfAt.rP (h : LfAt H e v) : rdI .i64 H e.c 1 = some (e.P : Int) := rdI_of h.cell rfl
theorem LfAt.rop (h : LfAt H e v) : rdI .i64 H e.c 2 = some v.op := rdI_of h.cell rfl
theorem LfAt.rnx (h : LfAt H e v) : rdI .i64 H e.c 3 = some (v.nx : Int) := rdI_of h.cell rfl
theorem LfAt.at' (i : Nat) (hi : i < e.B) : Sl.at 1 ⟨some (e.lb, 0), e.B, e.B⟩ (i : Int) = some (e.lb, i) := by
  rw [at_of (by omega) (by omega), Int.toNat_natCast, Nat.mul_one, Nat.zero_add]
theorem LfAt.ri (h : LfAt H e v) {i : Nat} (hi : i < e.B) : rdI .i64 H e.lb i = some (v.l i) := by
  have := arrC_get (lrow_len v) (j := 0) (by decide) hi
  rw [Nat.mul_one, Nat.add_zero] at this
  exact rdI_of h.list this
theorem LfAt.wop (h : LfAt H e v) (x : Int) : ∃ H', wr H e.c 2 [.int .i64 x] = some H' ∧ LfAt H' e { v with op := x } ∧ Keep e.fp H H' :=
  ⟨_, wr1_of h.cell (by decide) (by simp [LfA.cells]), ⟨by rw [set_get (get_lt h.cell)]; rfl, by rw [set_get' h.ne]; exact h.list, h.ne, h.sz⟩, Keep.set _ _ _ (.inl rfl)⟩
theorem LfAt.wnx (h : LfAt H e v) (x : Nat) : ∃ H', wr H e.c 3 [.int .i64 (x : Int)] = some H' ∧ LfAt H' e { v with nx := x } ∧ Keep e.fp H H' :=
  ⟨_, wr1_of h.cell (by decide) (by simp [LfA.cells]), ⟨by rw [set_get (get_lt h.cell)]; rfl, by rw [set_get' h.ne]; exact h.list, h.ne, h.sz⟩, Keep.set _ _ _ (.inl rfl)⟩
theorem LfAt.wi (h : LfAt H e v) {i : Nat} (hi : i < e.B) (x : Int) : ∃ H', wr H e.lb i [.int .i64 x] = some H' ∧ LfAt H' e { v with l := upd v.l i x } ∧ Keep e.fp H H' := by
  have hs := arrC_set (lrow_len v) (j := 0) (by decide) (.int .i64 x) hi
  rw [Nat.mul_one, Nat.add_zero] at hs
  refine ⟨_, wr1_of h.list (by decide) (by rw [arrC_length (lrow_len v)]; omega), ⟨by rw [set_get' (Ne.symm h.ne)]; exact h.cell, ?_, h.ne, h.sz⟩, Keep.set _ _ _ (.inr rfl)⟩
  rw [set_get (get_lt h.list), hs]
  congr 3
  funext k
  by_cases hk : k = i
  · subst hk; simp [Lf.row, upd]
  · simp [Lf.row, upd, hk]

/-! What its functions tell. -/
def Lf.at (v : Lf) : Int × Int × Bool × Unit := if v.op < 0 then (0, 0, false, ()) else (v.op, (v.nx : Int), true, ())
theorem life_At (h : LfAt H e v) : life_Life_At (some (e.c, 0)) H = some (v.at, H) := by
  unfold life_Life_At Lf.at
  simp only [Option.isNone_some, cond_f, bind_some, Nat.zero_add, h.rop]
  by_cases h0 : v.op < 0
  · simp only [decide_eq_true h0, cond_t, if_pos h0]
  · simp only [decide_eq_false h0, cond_f, bind_some, h.rnx, if_neg h0]
theorem life_in (h : LfAt H e v) (x : Int) : life_Life_in (some (e.c, 0)) x H = some ((decide (0 ≤ x ∧ x < (e.B : Int)), ()), H) := by
  unfold life_Life_in
  simp only [Option.isNone_some, Bool.not_false, cond_t, bind_some, h.rl]
  by_cases h0 : 0 ≤ x
  · rw [decide_eq_true h0, cond_t]
    congr 3
    exact decide_eq_decide.2 ⟨fun h => ⟨h0, h⟩, fun h => h.2⟩
  · rw [decide_eq_false h0, cond_f, decide_eq_false (fun h => h0 h.1)]
theorem life_Is (h : LfAt H e v) {i : Nat} (hi : i < e.B) : life_Life_Is (some (e.c, 0)) (i : Int) H = some ((v.l i, ()), H) := by
  unfold life_Life_Is
  simp only [life_in h, decide_eq_true (show 0 ≤ (i : Int) ∧ (i : Int) < (e.B : Int) by omega), bind_some, Bool.not_true, cond_f, h.rl, LfAt.at' i hi, h.ri hi]
theorem life_Is_no (h : LfAt H e v) {x : Int} (hx : ¬ (0 ≤ x ∧ x < (e.B : Int))) : life_Life_Is (some (e.c, 0)) x H = some ((-1, ()), H) := by
  unfold life_Life_Is
  simp only [life_in h, decide_eq_false hx, bind_some, Bool.not_false, cond_t]
/-- A free block is opened, when none is open. -/
theorem life_Open (h : LfAt H e v) {i : Nat} (hi : i < e.B) (hf : v.l i = 0) (ho : v.op < 0) : ∃ H', life_Life_Open (some (e.c, 0)) (i : Int) H = some ((true, ()), H') ∧ LfAt H' e ⟨upd v.l i 1, (i : Int), 0⟩ ∧ Keep e.fp H H' := by
  obtain ⟨H1, a1, a2, a3⟩ := h.wi hi 1
  obtain ⟨H2, b1, b2, b3⟩ := a2.wop (i : Int)
  obtain ⟨H3, c1, c2, c3⟩ := b2.wnx 0
  refine ⟨H3, ?_, c2, (a3.trans b3).trans c3⟩
  have c1' : wr H2 e.c 3 [.int .i64 0] = some H3 := c1
  unfold life_Life_Open
  simp only [life_in h, decide_eq_true (show 0 ≤ (i : Int) ∧ (i : Int) < (e.B : Int) by omega), bind_some, Bool.not_true, cond_f, h.rl, LfAt.at' i hi, h.ri hi, hf, decide_true, Nat.zero_add, h.rop, decide_eq_false (show ¬ 0 ≤ v.op by omega), a1, b1, c1']
/-- The next page of the open block. -/
def Lf.took (e : LfA) (v : Lf) (i : Nat) : Lf := if v.nx + 1 = e.P then ⟨upd v.l i 2, -1, v.nx + 1⟩ else ⟨v.l, v.op, v.nx + 1⟩
theorem life_Take (h : LfAt H e v) {i : Nat} (hi : i < e.B) (ho : v.op = (i : Int)) (hn : v.nx < 1000) : ∃ H', life_Life_Take (some (e.c, 0)) H = some (((i : Int), (v.nx : Int), true, ()), H') ∧ LfAt H' e (v.took e i) ∧ Keep e.fp H H' := by
  obtain ⟨H1, a1, a2, a3⟩ := h.wnx (v.nx + 1)
  have ew : IntKind.wrap .i64 ((v.nx : Int) + 1) = ((v.nx + 1 : Nat) : Int) := wrap_succ (by omega)
  have hc := a2.rnx
  simp only at hc
  unfold life_Life_Take Lf.took
  simp only [Option.isNone_some, cond_f, bind_some, Nat.zero_add, h.rop, ho, decide_eq_false (show ¬ (i : Int) < 0 by omega), h.rnx, ew, a1, hc, a2.rP]
  by_cases hp : v.nx + 1 = e.P
  · obtain ⟨H2, b1, b2, b3⟩ := a2.wi hi 2
    obtain ⟨H3, c1, c2, c3⟩ := b2.wop (-1)
    refine ⟨H3, ?_, by rw [if_pos hp]; exact c2, (a3.trans b3).trans c3⟩
    simp only [decide_eq_true (show ((v.nx + 1 : Nat) : Int) = (e.P : Int) by omega), cond_t, a2.rl, bind_some, LfAt.at' i hi, b1, c1]
  · refine ⟨H1, ?_, by rw [if_neg hp, ← ho]; exact a2, a3⟩
    simp only [decide_eq_false (show ¬ ((v.nx + 1 : Nat) : Int) = (e.P : Int) by omega), cond_f]
/-- A block is something else. -/
def Lf.set (v : Lf) (i : Nat) (x : Int) : Lf := if v.l i = 3 then v else ⟨upd v.l i x, if v.op = (i : Int) then -1 else v.op, v.nx⟩
theorem life_set (h : LfAt H e v) {i : Nat} (hi : i < e.B) (x : Int) : ∃ H', life_Life_set (some (e.c, 0)) (i : Int) x H = some ((!decide (v.l i = 3), ()), H') ∧ LfAt H' e (v.set i x) ∧ Keep e.fp H H' := by
  unfold life_Life_set Lf.set
  simp only [life_in h, decide_eq_true (show 0 ≤ (i : Int) ∧ (i : Int) < (e.B : Int) by omega), bind_some, Bool.not_true, cond_f, h.rl, LfAt.at' i hi, h.ri hi, Nat.zero_add, h.rop]
  by_cases h3 : v.l i = 3
  · refine ⟨H, ?_, by rw [if_pos h3]; exact h, Keep.refl _ _⟩
    simp only [decide_eq_true h3, cond_t, Bool.not_true]
  · simp only [decide_eq_false h3, cond_f, Bool.not_false, if_neg h3]
    by_cases ho : v.op = (i : Int)
    · obtain ⟨H1, a1, a2, a3⟩ := h.wop (-1)
      obtain ⟨H2, b1, b2, b3⟩ := a2.wi hi x
      refine ⟨H2, ?_, by rw [if_pos ho]; exact b2, a3.trans b3⟩
      simp only [decide_eq_true ho, cond_t, a1, bind_some, a2.rl, LfAt.at' i hi, b1]
    · obtain ⟨H2, b1, b2, b3⟩ := h.wi hi x
      refine ⟨H2, ?_, by rw [if_neg ho]; exact b2, b3⟩
      simp only [decide_eq_false ho, cond_f, bind_some, h.rl, LfAt.at' i hi, b1]
theorem life_Bad (h : LfAt H e v) {i : Nat} (hi : i < e.B) : ∃ H', life_Life_Bad (some (e.c, 0)) (i : Int) H = some ((!decide (v.l i = 3), ()), H') ∧ LfAt H' e (v.set i 3) ∧ Keep e.fp H H' := by
  obtain ⟨H', a1, a2⟩ := life_set h hi 3
  exact ⟨H', by unfold life_Life_Bad; simp only [a1, bind_some], a2⟩
theorem life_Full (h : LfAt H e v) {i : Nat} (hi : i < e.B) : ∃ H', life_Life_Full (some (e.c, 0)) (i : Int) H = some ((!decide (v.l i = 3), ()), H') ∧ LfAt H' e (v.set i 2) ∧ Keep e.fp H H' := by
  obtain ⟨H', a1, a2⟩ := life_set h hi 2
  exact ⟨H', by unfold life_Life_Full; simp only [a1, bind_some], a2⟩
theorem life_Free (h : LfAt H e v) {i : Nat} (hi : i < e.B) : ∃ H', life_Life_Free (some (e.c, 0)) (i : Int) H = some ((!decide (v.l i = 3), ()), H') ∧ LfAt H' e (v.set i 0) ∧ Keep e.fp H H' := by
  obtain ⟨H', a1, a2⟩ := life_set h hi 0
  exact ⟨H', by unfold life_Life_Free; simp only [a1, bind_some], a2⟩
end
def Lf.new : Lf := ⟨fun _ => 0, -1, 0⟩
theorem life_new_eq (H : Heap) {B P : Nat} (hB : 1 ≤ B ∧ B ≤ 32) (hP : 1 ≤ P ∧ P ≤ 16) : ∃ H' e, life_New (B : Int) (P : Int) H = some ((some (e.c, 0), 0, ()), H') ∧ LfAt H' e Lf.new ∧ Keep (fun _ => False) H H' ∧ e.B = B ∧ e.P = P ∧ ∀ k, e.fp k → H.length ≤ k := by
  have hmk := mkS_of (H := H) (bytes := 8) (zero := [.int .i64 0]) (n := B) (by omega) (by omega)
  refine ⟨_, ⟨H.length + 1, H.length, B, P⟩, ?_, ⟨?_, ?_, by simp, by show B ≤ 1000 ∧ P ≤ 1000; omega⟩, (Keep.push _ _ (.cells (arrC B fun _ => [.int .i64 0]) .exact)).trans (Keep.push _ _ (.cells [.sl 1 ⟨some (H.length, 0), B, B⟩, .int .i64 (P : Int), .int .i64 (-1), .int .i64 0] .exact)), rfl, rfl, fun k hk => by rcases hk with rfl | rfl <;> simp⟩
  · unfold life_New
    simp only [decide_eq_false (show ¬ (B : Int) < 1 by omega), decide_eq_false (show ¬ (32 : Int) < (B : Int) by omega), decide_eq_false (show ¬ (P : Int) < 1 by omega), decide_eq_false (show ¬ (16 : Int) < (P : Int) by omega), cond_f, hmk, bind_some, List.length_append, List.length_singleton]
  · have hl : (H ++ [Blk.cells (arrC B fun _ => [C.int .i64 0]) .exact]).length = H.length + 1 := by simp
    show (_ ++ [_])[H.length + 1]? = _
    rw [← hl, app_last]; rfl
  · show (_ ++ [_])[H.length]? = _
    rw [app_lt (by simp), app_last]; rfl
end Ev
