/- A life that is right stays right; LifeRoom in plain Lean. -/
import Derived.Test.YtnndecgjcgpmbaaS10a
import Derived.Test.YtnndecgjcgpmbaaEvOpen
namespace Ev
open Go (IntKind)

theorem rows_get {cts : List CT} : ∀ {rows : List (Tup cts)} {i : Nat} {x : Tup cts} {j : Nat}, rows[i]? = some x → j < cts.length → (rowsOf cts rows)[i * cts.length + j]? = (Tup.mk cts x)[j]?
  | [], _, _, _, h, _ => by simp at h
  | y :: r, 0, x, j, h, hj => by
    simp at h
    subst h
    simp only [rowsOf, List.map_cons, List.flatten_cons, Nat.zero_mul, Nat.zero_add]
    rw [List.getElem?_append_left (by rw [Tup.mk_length]; exact hj)]
  | y :: r, i + 1, x, j, h, hj => by
    have ih := rows_get (rows := r) (i := i) (j := j) (by simpa using h) hj
    simp only [rowsOf, List.map_cons, List.flatten_cons] at ih ⊢
    rw [List.getElem?_append_right (by rw [Tup.mk_length, Nat.succ_mul]; omega), Tup.mk_length]
    rw [← ih]
    congr 1
    rw [Nat.succ_mul]; omega

theorem cnt_set (xs : List Int) (w : Int) : ∀ (i : Nat) (u v : Int), xs[i]? = some u → cnt (xs.set i v) w + (if u = w then 1 else 0) = cnt xs w + (if v = w then 1 else 0) := by
  induction xs with
  | nil => intro i u v h; simp at h
  | cons x xs ih =>
    intro i u v h
    cases i with
    | zero =>
      simp at h
      subst h
      simp only [cnt, List.set_cons_zero, List.filter_cons]
      by_cases h1 : x = w <;> by_cases h2 : v = w <;> simp [h1, h2]
    | succ i =>
      have := ih i u v (by simpa using h)
      simp only [cnt, List.set_cons_succ, List.filter_cons] at this ⊢
      by_cases h1 : x = w
      · simp only [h1, decide_true, if_true, List.length_cons]; omega
      · simp only [h1, decide_false, Bool.false_eq_true, if_false]; exact this

structure Ok (n : Nat) (k : Int) (l : Lf) : Prop where
  len : l.xs.length = n
  pg : l.pg = k
  nx0 : 0 ≤ l.nx
  nx1 : l.nx ≤ k
  op : l.op < 0 ∨ (l.inn l.op = true ∧ l.xs[l.op.toNat]? = some 1 ∧ l.nx < k)

section
variable {H : Heap} {bl ba : Nat} {l : Lf} {n : Nat} {k : Int}

theorem Ok.room (h : Ok n k l) (hk : 0 ≤ k) : 0 ≤ l.room ∧ l.room ≤ n * k + k := by
  have hc : cnt l.xs 0 ≤ n := by rw [← h.len]; exact cnt_le _ _
  have h1 : (cnt l.xs 0 : Int) * k ≤ n * k := Int.mul_le_mul_of_nonneg_right (by omega) hk
  have h2 : 0 ≤ (cnt l.xs 0 : Int) * k := Int.mul_nonneg (by omega) hk
  have := h.nx0
  have := h.nx1
  unfold Lf.room
  rw [h.pg]
  split <;> omega

theorem open_any (h : LifeAt H bl ba l) (ok : Ok n k l) (hk : 1 ≤ k) (b : Int) :
    (life_Life_Open (some (bl, 0)) b H = some ((false, ()), H) ∧ (l.op < 0 → l.inn b = true → l.xs[b.toNat]? ≠ some 0)) ∨
    (l.op < 0 ∧ l.inn b = true ∧ l.xs[b.toNat]? = some 0 ∧ ∃ H' l', life_Life_Open (some (bl, 0)) b H = some ((true, ()), H') ∧ LifeAt H' bl ba l' ∧ Ok n k l' ∧ Fr bl ba H H' ∧ l'.room = l.room ∧ 0 ≤ l'.op) := by
  by_cases hop : 0 ≤ l.op
  · exact .inl ⟨open_no h (.inr (.inr hop)), fun hh => by omega⟩
  · cases hi : l.inn b with
    | false => exact .inl ⟨open_no h (.inl hi), fun _ hh => by cases hh⟩
    | true =>
      obtain ⟨h0, h1, v, hv⟩ := inn_spec hi
      by_cases hz : v = 0
      · subst hz
        right
        obtain ⟨H', q1, q2, q3⟩ := open_yes h hi hv (by omega)
        have hlt : b.toNat < l.xs.length := (List.getElem?_eq_some_iff.1 hv).1
        refine ⟨by omega, rfl, hv, H', _, q1, q2, ⟨by simp [ok.len], ok.pg, Int.le_refl _, by show (0 : Int) ≤ k; omega, .inr ⟨?_, ?_, by show (0 : Int) < k; omega⟩⟩, q3, ?_, h0⟩
        · simpa [Lf.inn] using ⟨h0, h1⟩
        · simp [hlt]
        · have := cnt_set l.xs 0 b.toNat 0 1 hv
          simp only [if_true, if_neg (show ¬ (1 : Int) = 0 by decide), Nat.add_zero] at this
          unfold Lf.room
          simp only [h0, if_true, if_neg hop, Int.sub_zero]
          rw [← this]
          rw [Int.natCast_add, Int.add_mul]
          simp
      · exact .inl ⟨open_no h (.inr (.inl ⟨v, hv, hz⟩)), fun _ _ hh => by rw [hv] at hh; cases hh; exact hz rfl⟩

theorem take_any (h : LifeAt H bl ba l) (ok : Ok n k l) (hk : 1 ≤ k) (hk2 : k < 1000) :
    (l.op < 0 ∧ life_Life_Take (some (bl, 0)) H = some ((0, 0, false, ()), H)) ∨
    (0 ≤ l.op ∧ ∃ H' l', life_Life_Take (some (bl, 0)) H = some ((l.op, l.nx, true, ()), H') ∧ LifeAt H' bl ba l' ∧ Ok n k l' ∧ Fr bl ba H H' ∧ l'.room = l.room - 1) := by
  rcases ok.op with ho | ⟨hi, h1, hlt⟩
  · exact .inl ⟨ho, take_no h ho⟩
  · right
    obtain ⟨h0, hl, _⟩ := inn_spec hi
    have hn0 := ok.nx0
    refine ⟨h0, ?_⟩
    by_cases hp : l.nx + 1 = l.pg
    · obtain ⟨H', q1, q2, q3⟩ := take_last h hi ok.nx0 (by omega) hp
      refine ⟨H', _, q1, q2, ⟨by simp [ok.len], ok.pg, by show 0 ≤ l.nx + 1; omega, by show l.nx + 1 ≤ k; rw [hp, ok.pg]; exact Int.le_refl _, .inl (by show (-1 : Int) < 0; decide)⟩, q3, ?_⟩
      have := cnt_set l.xs 0 l.op.toNat 1 2 h1
      simp only [if_neg (show ¬ (1 : Int) = 0 by decide), if_neg (show ¬ (2 : Int) = 0 by decide), Nat.add_zero] at this
      unfold Lf.room
      simp only [this, h0, if_true, if_neg (show ¬ (0 : Int) ≤ -1 by decide)]
      omega
    · obtain ⟨H', q1, q2, q3⟩ := take_more h h0 ok.nx0 (by omega) hp
      have hpg := ok.pg
      refine ⟨H', _, q1, q2, ⟨ok.len, ok.pg, by show 0 ≤ l.nx + 1; omega, by show l.nx + 1 ≤ k; omega, .inr ⟨hi, h1, by show l.nx + 1 < k; omega⟩⟩, q3, ?_⟩
      unfold Lf.room
      simp only [h0, if_true]
      omega

theorem set_any (h : LifeAt H bl ba l) (ok : Ok n k l) (b what : Int) :
    (life_Life_set (some (bl, 0)) b what H = some ((false, ()), H) ∧ (l.inn b = true → l.xs[b.toNat]? = some 3)) ∨
    (l.inn b = true ∧ (∃ v, l.xs[b.toNat]? = some v ∧ v ≠ 3) ∧ ∃ H', life_Life_set (some (bl, 0)) b what H = some ((true, ()), H') ∧ LifeAt H' bl ba ⟨l.xs.set b.toNat what, l.pg, if l.op = b then -1 else l.op, l.nx⟩ ∧
      Ok n k ⟨l.xs.set b.toNat what, l.pg, if l.op = b then -1 else l.op, l.nx⟩ ∧ Fr bl ba H H') := by
  cases hi : l.inn b with
  | false => exact .inl ⟨set_no h what (.inl hi), fun hh => by cases hh⟩
  | true =>
    obtain ⟨h0, h1, v, hv⟩ := inn_spec hi
    by_cases h3 : v = 3
    · subst h3; exact .inl ⟨set_no h what (.inr hv), fun _ => hv⟩
    · obtain ⟨H', q1, q2, q3⟩ := set_yes h what hi hv h3
      refine .inr ⟨rfl, ⟨v, hv, h3⟩, H', q1, q2, ⟨by simp [ok.len], ok.pg, ok.nx0, ok.nx1, ?_⟩, q3⟩
      by_cases ho : l.op = b
      · left; simp [ho]
      · rcases ok.op with h5 | ⟨h5, h6, h7⟩
        · left; simp [ho, h5]
        · right
          obtain ⟨g0, g1, _⟩ := inn_spec h5
          refine ⟨?_, ?_, h7⟩
          · simp only [ho, if_false]
            simpa [Lf.inn] using ⟨g0, g1⟩
          · simp only [ho, if_false]
            rw [List.getElem?_set_ne (by omega)]; exact h6
end

theorem awake_true : law10_awake = some (true, ()) := by
  obtain ⟨H1, q1, a1, _, _⟩ := new_eq (n := 3) (k := 4) (by decide) (by decide) (by decide) (by decide) []
  obtain ⟨H2, q2, a2, _⟩ := open_yes a1 (b := 1) (by decide) (by decide) (by decide)
  obtain ⟨H3, q3, a3, _⟩ := take_more a2 (by decide) (by decide) (by decide) (by decide)
  have q4 := is_in a3 (b := 1) (v := 1) (by decide) (by decide)
  have q5 := room_eq a3 (by decide) (by decide) (by decide) (by decide)
  have q6 := count_eq a3 0 (by decide)
  have e1 : (Lf.room ⟨(List.replicate (3 : Int).toNat 0).set (1 : Int).toNat 1, 4, 1, 0 + 1⟩) = 11 := by decide
  have e2 : cnt ((List.replicate (3 : Int).toNat 0).set (1 : Int).toNat 1) 0 = 2 := by decide
  simp only [List.length_nil, Nat.zero_add] at q1 q2 q3 q4 q5 q6 e1
  rw [e1] at q5
  rw [e2] at q6
  unfold law10_awake law10_awake.on
  simp [q1, q2, q3, q4, q5, q6]

theorem bits_le (x : Int) (m : Nat) (hm : m < 9223372036854775808) (hb : (BitVec.ofInt 64 (m : Int)).toNat = m) : 0 ≤ bitsI .and .i64 x m ∧ bitsI .and .i64 x m ≤ m := by
  have h : (BitVec.ofInt 64 x &&& BitVec.ofInt 64 (m : Int)).toNat ≤ m := by
    rw [BitVec.toNat_and, hb]; exact Nat.and_le_right
  have e : bitsI .and .i64 x m = IntKind.wrap .i64 (((BitVec.ofInt 64 x &&& BitVec.ofInt 64 (m : Int)).toNat : Nat) : Int) := rfl
  rw [e, wrap_i64 (by omega) (by omega)]
  omega
theorem bits15 (x : Int) : 0 ≤ bitsI .and .i64 x 15 ∧ bitsI .and .i64 x 15 ≤ 15 := bits_le x 15 (by decide) (by decide)
theorem bits7 (x : Int) : 0 ≤ bitsI .and .i64 x 7 ∧ bitsI .and .i64 x 7 ≤ 7 := bits_le x 7 (by decide) (by decide)

/-- The slice of acts lies ahead of the life's blocks, and stays. -/
structure Acts (s : Sl) (H : Heap) : Prop where
  get : ∀ i : Nat, (i : Int) < s.len → ∃ p a b, Sl.at 2 s i = some p ∧ rdI .i64 H p.1 p.2 = some a ∧ rdI .i64 H p.1 (p.2 + 1) = some b

theorem acts_of {s : Sl} {H H' : Heap} (hs : Came [.int .i64, .int .i64] [] s H) (h : ∀ j, j < H.length → H'[j]? = H[j]?) : Acts s H' := by
  rcases hs with ⟨rfl, rfl⟩ | ⟨len, rows, rfl, hl, _, rfl, _⟩
  · exact ⟨fun i hi => by simp [Sl.nil] at hi; omega⟩
  · refine ⟨fun i hi => ?_⟩
    simp only at hi
    have hlt : i < rows.length := by omega
    have hx : rows[i]? = some rows[i] := List.getElem?_eq_getElem hlt
    have h0 : H'[0]? = some (.cells (rowsOf [.int .i64, .int .i64] rows) .ro) := by rw [h 0 (by simp)]; simp
    have c0 := rows_get (cts := [.int .i64, .int .i64]) (j := 0) hx (by decide)
    have c1 := rows_get (cts := [.int .i64, .int .i64]) (j := 1) hx (by decide)
    refine ⟨(0, i * 2), rows[i].1, rows[i].2.1, ?_, rdI_of h0 ?_, rdI_of h0 ?_⟩
    · rw [at_of (by omega) (by omega)]; simp
    · simpa [Tup.mk, CT.mk] using c0
    · simpa [Tup.mk, CT.mk] using c1
theorem Acts.keep {s : Sl} {H H' : Heap} (h : Acts s H) (k : ∀ b o, (∃ n, rdI .i64 H b o = some n) → rdI .i64 H' b o = rdI .i64 H b o) : Acts s H' :=
  ⟨fun i hi => by
    obtain ⟨p, a, b, h1, h2, h3⟩ := h.get i hi
    exact ⟨p, a, b, h1, by rw [k _ _ ⟨_, h2⟩]; exact h2, by rw [k _ _ ⟨_, h3⟩]; exact h3⟩⟩
end Ev
