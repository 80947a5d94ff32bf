/- LifePlays: whatever is done, blocks are what the document says. -/
import Derived.Test.YtnndecgjcgpmbaaS10r
namespace Ev
open Go (IntKind)

section
variable {H : Heap} {bl ba : Nat} {l : Lf} {n : Nat} {k : Int}

theorem LifeAt.other (h : LifeAt H bl ba l) {b : Nat} {x : Blk} (h1 : b ≠ bl) (h2 : b ≠ ba) : LifeAt (H.set b x) bl ba l :=
  ⟨by simpa using h.lb, by simpa using h.la, h.ne, by rw [set_get' h1]; exact h.cb, by rw [set_get' h2]; exact h.ca⟩
theorem LifeAt.grow (h : LifeAt H bl ba l) (bs : Heap) : LifeAt (H ++ bs) bl ba l :=
  ⟨by rw [List.length_append]; have := h.lb; omega, by rw [List.length_append]; have := h.la; omega, h.ne, by rw [List.getElem?_append_left h.lb]; exact h.cb, by rw [List.getElem?_append_left h.la]; exact h.ca⟩

theorem ok_open (ok : Ok n k l) (hk : 1 ≤ k) {b : Int} (hi : l.inn b = true) : Ok n k ⟨l.xs.set b.toNat 1, l.pg, b, 0⟩ := by
  obtain ⟨h0, h1, v, hv⟩ := inn_spec hi
  have hlt : b.toNat < l.xs.length := (List.getElem?_eq_some_iff.1 hv).1
  refine ⟨by simp [ok.len], ok.pg, Int.le_refl _, by show (0 : Int) ≤ k; omega, .inr ⟨?_, ?_, by show (0 : Int) < k; omega⟩⟩
  · simpa [Lf.inn] using ⟨h0, h1⟩
  · simp [hlt]

def Lf.taken (l : Lf) : Lf := if l.nx + 1 = l.pg then ⟨l.xs.set l.op.toNat 2, l.pg, -1, l.nx + 1⟩ else ⟨l.xs, l.pg, l.op, l.nx + 1⟩

theorem take_full (h : LifeAt H bl ba l) (ok : Ok n k l) (hk : 1 ≤ k) (hk2 : k < 1000) :
    (l.op < 0 ∧ life_Life_Take (some (bl, 0)) H = some ((0, 0, false, ()), H)) ∨
    (0 ≤ l.op ∧ l.inn l.op = true ∧ l.nx < k ∧ ∃ H', life_Life_Take (some (bl, 0)) H = some ((l.op, l.nx, true, ()), H') ∧ LifeAt H' bl ba l.taken ∧ Ok n k l.taken ∧ Fr bl ba H H') := by
  rcases ok.op with ho | ⟨hi, h1, hlt⟩
  · exact .inl ⟨ho, take_no h ho⟩
  · right
    obtain ⟨h0, hl, _⟩ := inn_spec hi
    have hn0 := ok.nx0
    have hpg := ok.pg
    refine ⟨h0, hi, hlt, ?_⟩
    unfold Lf.taken
    by_cases hp : l.nx + 1 = l.pg
    · obtain ⟨H', q1, q2, q3⟩ := take_last h hi ok.nx0 (by omega) hp
      rw [if_pos hp]
      exact ⟨H', q1, q2, ⟨by simp [ok.len], ok.pg, by show 0 ≤ l.nx + 1; omega, by show l.nx + 1 ≤ k; omega, .inl (by show (-1 : Int) < 0; decide)⟩, q3⟩
    · obtain ⟨H', q1, q2, q3⟩ := take_more h h0 ok.nx0 (by omega) hp
      rw [if_neg hp]
      exact ⟨H', q1, q2, ⟨ok.len, ok.pg, by show 0 ≤ l.nx + 1; omega, by show l.nx + 1 ≤ k; omega, .inr ⟨hi, h1, by show l.nx + 1 < k; omega⟩⟩, q3⟩

/-- What is told, beside the life: the same numbers in a block of their own. -/
structure Plays (n : Nat) (k : Int) (bl ba bi : Nat) (H0 : Heap) (l : Lf) (H : Heap) : Prop where
  at' : LifeAt H bl ba l
  ok : Ok n k l
  pre : Pre H0 H
  is : H[bi]? = some (.cells l.row .exact)
  small : ∀ x ∈ l.xs, 0 ≤ x ∧ x ≤ 3

theorem Plays.grow {bi : Nat} {H0 : Heap} (h : Plays n k bl ba bi H0 l H) (hlen : H0.length ≤ H.length) (bs : Heap) : Plays n k bl ba bi H0 l (H ++ bs) :=
  ⟨h.at'.grow bs, h.ok, fun j hj => by rw [List.getElem?_append_left (by omega)]; exact h.pre j hj,
    by rw [List.getElem?_append_left (List.getElem?_eq_some_iff.1 h.is).1]; exact h.is, h.small⟩

theorem cnt_snoc (ys : List Int) (x w : Int) : cnt (ys ++ [x]) w = cnt ys w + (if x = w then 1 else 0) := by
  unfold cnt
  rw [List.filter_append, List.length_append]
  by_cases h : x = w <;> simp [h]

def cells4 (xs : List Int) : List C := [.int .i64 (cnt xs 0 : Int), .int .i64 (cnt xs 1 : Int), .int .i64 (cnt xs 2 : Int), .int .i64 (cnt xs 3 : Int)]
def blk4 (xs : List Int) : Blk := .cells (cells4 xs) .exact

theorem arr4 {b : Nat} {x : Int} (h0 : 0 ≤ x) (h1 : x ≤ 3) : arrAt 1 4 (b, 0) x = some (b, x.toNat) := by
  unfold arrAt
  have : decide (0 ≤ x ∧ x < ((4 : Nat) : Int)) = true := decide_eq_true ⟨h0, by omega⟩
  rw [this]; simp
theorem cells4_get {xs : List Int} {x : Int} (h0 : 0 ≤ x) (h1 : x ≤ 3) : (cells4 xs)[x.toNat]? = some (.int .i64 (cnt xs x : Int)) := by
  have : x = 0 ∨ x = 1 ∨ x = 2 ∨ x = 3 := by omega
  rcases this with rfl | rfl | rfl | rfl <;> rfl
theorem cells4_set {xs : List Int} {x : Int} (h0 : 0 ≤ x) (h1 : x ≤ 3) : (cells4 xs).set x.toNat (.int .i64 ((cnt xs x + 1 : Nat) : Int)) = cells4 (xs ++ [x]) := by
  unfold cells4
  simp only [cnt_snoc]
  have : x = 0 ∨ x = 1 ∨ x = 2 ∨ x = 3 := by omega
  rcases this with rfl | rfl | rfl | rfl <;> rfl
theorem last_get (b : Blk) : (H ++ [b])[H.length]? = some b := by simp

theorem rd4 {xs : List Int} {x : Int} (h0 : 0 ≤ x) (h1 : x ≤ 3) : rdI .i64 (H ++ [blk4 xs]) H.length x.toNat = some (cnt xs x : Int) := rdI_of (last_get _) (cells4_get h0 h1)
theorem wr4 {xs : List Int} {x : Int} (h0 : 0 ≤ x) (h1 : x ≤ 3) : wr (H ++ [blk4 xs]) H.length x.toNat [.int .i64 ((cnt xs x + 1 : Nat) : Int)] = some (H ++ [blk4 (xs ++ [x])]) := by
  rw [wr1_of (show (H ++ [blk4 xs])[H.length]? = some (.cells (cells4 xs) .exact) from last_get _) (by decide) (by simp [cells4]; omega), cells4_set h0 h1]
  simp [blk4]

variable {bi : Nat} {H0 : Heap}

theorem same_loop1 (h : Plays n k bl ba bi H0 l H) (hn : n < 1000) (hlen : H0.length ≤ H.length) :
    loopW (law10_same.s1 (some (bl, 0)) ⟨some (bi, 0), n, n⟩ H) (0, ()) (H ++ [blk4 []]) = some (.inl (), H ++ [blk4 l.xs]) := by
  obtain ⟨x, G, h1, rfl, rfl⟩ := loopW_run (step := law10_same.s1 (some (bl, 0)) ⟨some (bi, 0), n, n⟩ H) (fun s G => ∃ i : Nat, s = ((i : Int), ()) ∧ i ≤ n ∧ G = H ++ [blk4 (l.xs.take i)]) (fun x G => x = .inl () ∧ G = H ++ [blk4 l.xs]) (fun s _ => n - s.1.toNat)
    (by
      rintro s G ⟨i, rfl, hi, rfl⟩
      unfold law10_same.s1
      by_cases hlt : (i : Int) < (n : Int)
      · have hin : i < l.xs.length := by rw [h.ok.len]; omega
        have hv : l.xs[i]? = some l.xs[i] := List.getElem?_eq_getElem hin
        obtain ⟨s0, s1⟩ := h.small l.xs[i] (List.getElem_mem hin)
        generalize l.xs[i] = x at *
        have hat : Sl.at 1 ⟨some (bi, 0), n, n⟩ (i : Int) = some (bi, i) := by rw [at_of (by omega) (by omega)]; simp
        have hw : IntKind.wrap .i64 ((i : Int) + 1) = ((i + 1 : Nat) : Int) := by rw [wrap_i64 (by omega) (by omega)]; omega
        have hc : cnt (l.xs.take i) x ≤ i := Nat.le_trans (cnt_le _ _) (by simp; omega)
        have hw2 : IntKind.wrap .i64 ((cnt (l.xs.take i) x : Int) + 1) = ((cnt (l.xs.take i) x + 1 : Nat) : Int) := by rw [wrap_i64 (by omega) (by omega)]; omega
        have htk : l.xs.take (i + 1) = l.xs.take i ++ [x] := by rw [List.take_add_one, hv]; rfl
        have rdx : ∀ bs : Heap, rdI .i64 (H ++ bs) bi i = some x := fun bs => rdI_of (h.grow hlen bs).is (by simp [Lf.row, hv])
        have hi2 : l.inn (i : Int) = true := decide_eq_true ⟨by omega, by omega⟩
        have his := is_in (h.at'.grow [blk4 (l.xs.take i ++ [x])]) (b := (i : Int)) (v := x) hi2 (by simpa using hv)
        simp only [hlt, decide_true, cond_t, hat, bind_some, rdx, arr4 s0 s1, rd4 s0 s1, hw2, wr4 s0 s1, his, if_true, Bool.not_true, cond_f, hw]
        exact ⟨⟨i + 1, rfl, by omega, by rw [htk]⟩, by simp; omega⟩
      · simp only [hlt, decide_false, cond_f]
        have : i = l.xs.length := by rw [h.ok.len]; omega
        subst this
        exact ⟨rfl, by rw [List.take_length]⟩) (0, ()) (H ++ [blk4 []]) ⟨0, rfl, Nat.zero_le _, by simp⟩
  exact h1

theorem same_loop2 (h : Plays n k bl ba bi H0 l H) (hn : n < 1000) :
    loopW (law10_same.s2 (some (bl, 0)) H) (0, ()) (H ++ [blk4 l.xs]) = some (.inl (), H ++ [blk4 l.xs]) := by
  obtain ⟨x, G, h1, rfl, rfl⟩ := loopW_run (step := law10_same.s2 (some (bl, 0)) H) (fun s G => ∃ i : Nat, s = ((i : Int), ()) ∧ i ≤ 4 ∧ G = H ++ [blk4 l.xs]) (fun x G => x = .inl () ∧ G = H ++ [blk4 l.xs]) (fun s _ => 4 - s.1.toNat)
    (by
      rintro s G ⟨i, rfl, hi, rfl⟩
      unfold law10_same.s2
      by_cases hlt : (i : Int) < 4
      · have hw : IntKind.wrap .i64 ((i : Int) + 1) = ((i + 1 : Nat) : Int) := by rw [wrap_i64 (by omega) (by omega)]; omega
        have hcq := count_eq (h.at'.grow [blk4 l.xs]) (i : Int) (by rw [h.ok.len]; omega)
        have hr := rd4 (H := H) (xs := l.xs) (x := (i : Int)) (by omega) (by omega)
        simp only [hlt, decide_true, cond_t, arr4 (b := H.length) (x := (i : Int)) (by omega) (by omega), bind_some, hr, hcq, if_true, Bool.not_true, cond_f, hw]
        exact ⟨⟨i + 1, rfl, by omega, rfl⟩, by simp; omega⟩
      · simp only [hlt, decide_false, cond_f]
        exact ⟨rfl, rfl⟩) (0, ()) (H ++ [blk4 l.xs]) ⟨0, rfl, by omega, rfl⟩
  exact h1

theorem same_eq (h : Plays n k bl ba bi H0 l H) (hn : n < 1000) (hk : 1 ≤ k) (hk2 : k < 1000) (hlen : H0.length ≤ H.length) :
    law10_same (some (bl, 0)) ⟨some (bi, 0), n, n⟩ l.op l.nx k H = some ((true, ()), H ++ [blk4 l.xs]) := by
  have e0 : H ++ [Blk.cells [.int .i64 0, .int .i64 0, .int .i64 0, .int .i64 0] .exact] = H ++ [blk4 []] := rfl
  have w0 : wr (H ++ [blk4 []]) H.length 0 [.int .i64 0, .int .i64 0, .int .i64 0, .int .i64 0] = some (H ++ [blk4 []]) := by
    unfold wr
    rw [last_get]
    simp [blk4, cells4, setL]
    exact ⟨rfl, rfl, rfl, rfl⟩
  have hc := cnt_le l.xs 0
  have hlx := h.ok.len
  have hnx0 := h.ok.nx0
  have hnx1 := h.ok.nx1
  have hb : (cnt l.xs 0 : Int) * k ≤ 1000 * 1000 := Int.mul_le_mul (by omega) (by omega) (by omega) (by omega)
  have hb0 : 0 ≤ (cnt l.xs 0 : Int) * k := Int.mul_nonneg (by omega) (by omega)
  have w1 : IntKind.wrap .i64 ((cnt l.xs 0 : Int) * k) = (cnt l.xs 0 : Int) * k := wrap_i64 (by omega) (by omega)
  have w2 : IntKind.wrap .i64 (k - l.nx) = k - l.nx := wrap_i64 (by omega) (by omega)
  have w3 : IntKind.wrap .i64 ((cnt l.xs 0 : Int) * k + (k - l.nx)) = (cnt l.xs 0 : Int) * k + (k - l.nx) := wrap_i64 (by omega) (by omega)
  have r0 := rd4 (H := H) (xs := l.xs) (x := 0) (by omega) (by omega)
  have hro := room_eq (h.at'.grow [blk4 l.xs]) (by omega) (by rw [h.ok.pg]; omega) (by rw [h.ok.pg]; omega) ⟨hnx0, by rw [h.ok.pg]; exact hnx1⟩
  have hrv : l.room = (cnt l.xs 0 : Int) * k + (if 0 ≤ l.op then k - l.nx else 0) := by unfold Lf.room; rw [h.ok.pg]
  unfold law10_same
  simp only [e0, w0, bind_some, same_loop1 h hn hlen, Sum.elim_inl, arr4 (b := H.length) (x := 0) (by omega) (by omega), r0, w1]
  by_cases ho : 0 ≤ l.op
  · rw [if_pos ho] at hrv
    have ha := at_yes (h.at'.grow [blk4 l.xs]) ho
    simp [ha, ho, w2, w3, same_loop2 h hn, hro, hrv]
  · rw [if_neg ho] at hrv
    have ha := at_no (h.at'.grow [blk4 l.xs]) (by omega)
    simp [ha, ho, same_loop2 h hn, hro, hrv]
end
end Ev
