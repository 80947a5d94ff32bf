/- Chapter 6: the four laws on pages, in plain Lean. -/
import Derived.Test.YtnndecgjcgpmbaaGLaw06
import Derived.Test.YtnndecgjcgpmbaaSRef06
import Derived.Test.YtnndecgjcgpmbaaEvOpen
namespace Ev
open Go (IntKind)

theorem fld_here {x y : Bytes} {n : Nat} (h : x.length = n) : fld (x ++ y) 0 n = valB x := by
  unfold fld; rw [List.drop_zero, ← h, List.take_left]
theorem fld_next {x y : Bytes} {o n m : Nat} (h : x.length = m) (ho : m ≤ o) : fld (x ++ y) o n = fld y (o - m) n := by
  unfold fld
  rw [List.drop_append, List.drop_eq_nil_of_le (by omega), List.nil_append, h]

theorem tagOf_spare {t : Tg} {s : Bytes} {size : Nat} (h1 : tagOK t = true) (hq : 0 ≤ t.2.1 ∧ t.2.1 < 18446744073709551616) (h3 : size < 65536) (h4 : s.length ≤ size) : tagOf (spareOf t s size) = t ∧ longOf (spareOf t s size) = s.length := by
  obtain ⟨k, q, i, o, w, u⟩ := t
  have ht := of_decide_eq_true h1
  simp only at ht hq
  have e : spareOf (k, q, i, o, w, u) s size = leB 1 k.toNat ++ (leB 8 q.toNat ++ (leB 2 i.toNat ++ (leB 2 o.toNat ++ (leB 4 w.toNat ++ (leB 2 s.length ++ (zerosB 9 ++ leB 4 (crcMore 0 (dataOf s size ++ rowOf (k, q, i, o, w, u) s.length)))))))) := by
    simp [spareOf, rowOf, List.append_assoc]
  have v1 : valB (leB 1 k.toNat) = k.toNat := valB_leB 1 _ (by omega)
  have v2 : valB (leB 8 q.toNat) = q.toNat := valB_leB 8 _ (by omega)
  have v3 : valB (leB 2 i.toNat) = i.toNat := valB_leB 2 _ (by omega)
  have v4 : valB (leB 2 o.toNat) = o.toNat := valB_leB 2 _ (by omega)
  have v5 : valB (leB 4 w.toNat) = w.toNat := valB_leB 4 _ (by omega)
  have v6 : valB (leB 2 s.length) = s.length := valB_leB 2 _ (by omega)
  have l1 := leB_length 1 k.toNat; have l2 := leB_length 8 q.toNat; have l3 := leB_length 2 i.toNat; have l4 := leB_length 2 o.toNat; have l5 := leB_length 4 w.toNat; have l6 := leB_length 2 s.length
  rw [e]
  generalize zerosB 9 ++ leB 4 (crcMore 0 (dataOf s size ++ rowOf (k, q, i, o, w, u) s.length)) = z
  unfold tagOf longOf
  rw [fld_here l1, fld_next l1 (by decide), fld_here l2]
  rw [fld_next l1 (by decide), fld_next l2 (by decide), fld_here l3]
  rw [fld_next l1 (by decide), fld_next l2 (by decide), fld_next l3 (by decide), fld_here l4]
  rw [fld_next l1 (by decide), fld_next l2 (by decide), fld_next l3 (by decide), fld_next l4 (by decide), fld_here l5]
  rw [fld_next l1 (by decide), fld_next l2 (by decide), fld_next l3 (by decide), fld_next l4 (by decide), fld_next l5 (by decide), fld_here l6]
  rw [v1, v2, v3, v4, v5, v6]
  refine ⟨?_, rfl⟩
  rw [Int.toNat_of_nonneg (by omega), Int.toNat_of_nonneg (by omega), Int.toNat_of_nonneg (by omega), Int.toNat_of_nonneg (by omega), Int.toNat_of_nonneg (by omega)]

theorem spare_dirty (t : Tg) (s : Bytes) (size : Nat) : cleanB (spareOf t s size) = false := by
  unfold cleanB
  rw [List.all_eq_false]
  refine ⟨0, ?_, by decide⟩
  simp [spareOf, rowOf, zerosB]

theorem look_frame {t : Tg} {s : Bytes} {size : Nat} (h1 : tagOK t = true) (hq : 0 ≤ t.2.1 ∧ t.2.1 < 18446744073709551616) (h3 : size < 65536) (h4 : s.length ≤ size) : lookP (dataOf s size) (spareOf t s size) = (1, t, s, ()) := by
  obtain ⟨e1, e2⟩ := tagOf_spare h1 hq h3 h4
  have e3 : (dataOf s size).take s.length = s := by unfold dataOf; rw [List.take_left]
  have e4 := dataOf_length h4
  have hw : whole (dataOf s size) (spareOf t s size) = true := decide_eq_true ⟨spareOf_length t s size, by rw [e2, e4]; exact h4, by rw [e1]; exact h1, by rw [e4]; exact h3, by rw [e2, e3, e4], by rw [e1, e2, e3, e4]⟩
  unfold lookP
  rw [if_neg (fun h => by rw [spare_dirty] at h; exact absurd h.2 (by decide)), if_pos hw, e1, e2, e3]

theorem few_eq (s : Bytes) : law06_few s = some (s.take 300, ()) := by
  unfold law06_few law06_few.on
  by_cases h : 300 < s.length
  · have hd : decide (300 < (s.length : Int)) = true := decide_eq_true (by omega)
    rw [hd, cond_t, show (0 : Int) = ((0 : Nat) : Int) from rfl, show (300 : Int) = ((300 : Nat) : Int) from rfl, sub_of (Nat.zero_le _) (by omega), bind_some]; rfl
  · have hd : decide (300 < (s.length : Int)) = false := decide_eq_false (by omega)
    rw [hd, cond_f, List.take_of_length_le (by omega)]
theorem few_len (s : Bytes) : (s.take 300).length ≤ 300 := by simp; omega

theorem awake06 : law06_awake = some (true, ()) := by
  unfold law06_awake law06_awake.on
  have ok : tagOK (2, 9, 1, 3, 4, ()) = true := by decide
  have f : page_Frame (2, 9, 1, 3, 4, ()) [116, 101, 120, 116] 64 = some (dataOf [116, 101, 120, 116] 64, spareOf (2, 9, 1, 3, 4, ()) [116, 101, 120, 116] 64, 0, ()) := page_Frame_yes (size := 64) ok (by decide) (by decide) (by decide)
  have l := page_Look_eq (dataOf [116, 101, 120, 116] 64) (spareOf (2, 9, 1, 3, 4, ()) [116, 101, 120, 116] 64) (by rw [dataOf_length (by decide)]; decide) (by rw [spareOf_length]; decide)
  rw [look_frame (size := 64) ok (by decide) (by decide) (by decide)] at l
  have hl : decide ((List.length (spareOf (2, 9, 1, 3, 4, ()) [116, 101, 120, 116] 64) : Int) = 32) = true := by rw [spareOf_length]; rfl
  have w1 : ∀ t : Tg, wr [Blk.cells [.int .i64 0, .int .u64 0, .int .i64 0, .int .i64 0, .int .i64 0] .exact] 0 0 [.int .i64 t.1, .int .u64 t.2.1, .int .i64 t.2.2.1, .int .i64 t.2.2.2.1, .int .i64 t.2.2.2.2.1] = some [tagB t] := fun _ => rfl
  have w1' := w1 (2, 9, 1, 3, 4, ())
  simp only at w1'
  have r1 : ∀ (t : Tg), @Eq (Option Tg) (rd [tagB t] (.agg [.int .i64, .int .u64, .int .i64, .int .i64, .int .i64]) 0 0) (some (t.1, t.2.1, t.2.2.1, t.2.2.2.1, t.2.2.2.2.1, ())) := fun _ => rfl
  have w2 : ∀ (A : Blk) (t : Tg), wr [A, Blk.cells [.int .i64 0, .int .u64 0, .int .i64 0, .int .i64 0, .int .i64 0] .exact] 1 0 [.int .i64 t.1, .int .u64 t.2.1, .int .i64 t.2.2.1, .int .i64 t.2.2.2.1, .int .i64 t.2.2.2.2.1] = some [A, tagB t] := fun _ _ => rfl
  have w2' := fun A => w2 A (2, 9, 1, 3, 4, ())
  simp only at w2'
  have r2 : ∀ (A : Blk) (t : Tg), @Eq (Option Tg) (rd [A, tagB t] (.agg [.int .i64, .int .u64, .int .i64, .int .i64, .int .i64]) 1 0) (some (t.1, t.2.1, t.2.2.1, t.2.2.2.1, t.2.2.2.2.1, ())) := fun _ _ => rfl
  have r3 : ∀ (A : Blk) (t : Tg), @Eq (Option Tg) (rd [tagB t, A] (.agg [.int .i64, .int .u64, .int .i64, .int .i64, .int .i64]) 0 0) (some (t.1, t.2.1, t.2.2.1, t.2.2.2.1, t.2.2.2.2.1, ())) := fun _ _ => rfl
  simp only [List.nil_append, List.cons_append, List.length_nil, List.length_cons, Nat.zero_add, w1', r1, bind_some, f, l, w2', r2, r3, decide_true, Bool.and_self, cond_t, hl]

theorem PageLooks_true (x0 x1 : Bytes) (_ : x0.length ≤ 140737488351232) (_ : x1.length ≤ 140737488351232) : law06_PageLooks x0 x1 = some (true, ()) := by
  unfold law06_PageLooks law06_PageLooks.on
  have h0 := few_len x0; have h1 := few_len x1
  have l1 := page_Look_eq (x0.take 300) (x1.take 300) (by omega) (by omega)
  have l2 := ref06_Look_eq (x0.take 300) (x1.take 300) (by omega) (by omega) (by omega)
  generalize lookP (x0.take 300) (x1.take 300) = p at l1 l2
  have w1 : ∀ t : Tg, wr [Blk.cells [.int .i64 0, .int .u64 0, .int .i64 0, .int .i64 0, .int .i64 0] .exact] 0 0 [.int .i64 t.1, .int .u64 t.2.1, .int .i64 t.2.2.1, .int .i64 t.2.2.2.1, .int .i64 t.2.2.2.2.1] = some [tagB t] := fun _ => rfl
  have w2 : ∀ (A : Blk) (t : Tg), wr [A, Blk.cells [.int .i64 0, .int .u64 0, .int .i64 0, .int .i64 0, .int .i64 0] .exact] 1 0 [.int .i64 t.1, .int .u64 t.2.1, .int .i64 t.2.2.1, .int .i64 t.2.2.2.1, .int .i64 t.2.2.2.2.1] = some [A, tagB t] := fun _ _ => rfl
  have r2 : ∀ (A : Blk) (t : Tg), @Eq (Option Tg) (rd [A, tagB t] (.agg [.int .i64, .int .u64, .int .i64, .int .i64, .int .i64]) 1 0) (some (t.1, t.2.1, t.2.2.1, t.2.2.2.1, t.2.2.2.2.1, ())) := fun _ _ => rfl
  have r3 : ∀ (A : Blk) (t : Tg), @Eq (Option Tg) (rd [tagB t, A] (.agg [.int .i64, .int .u64, .int .i64, .int .i64, .int .i64]) 0 0) (some (t.1, t.2.1, t.2.2.1, t.2.2.2.1, t.2.2.2.2.1, ())) := fun _ _ => rfl
  simp only [few_eq, bind_some, l1, l2, awake06, List.nil_append, List.cons_append, List.length_nil, List.length_cons, Nat.zero_add, w1, w2, r2, r3, decide_true, Bool.and_self, cond_t]

theorem seq_of {x0 : Tg} (h : ∀ c ∈ Tup.mk [.int .i64, .int .u64, .int .i64, .int .i64, .int .i64] x0, wfC c) : 0 ≤ x0.2.1 ∧ x0.2.1 < 18446744073709551616 := by
  have := h (.int .u64 x0.2.1) (by simp [Tup.mk, CT.mk])
  have h1 : IntKind.min .u64 ≤ x0.2.1 ∧ x0.2.1 ≤ IntKind.max .u64 := this
  have e1 : IntKind.min .u64 = 0 := rfl
  have e2 : IntKind.max .u64 = 18446744073709551615 := rfl
  omega

theorem PageFrames_true (x0 : Tg) (x1 : Bytes) (x2 : Int) (h0' : ∀ c ∈ Tup.mk [.int .i64, .int .u64, .int .i64, .int .i64, .int .i64] x0, wfC c) (_ : x1.length ≤ 140737488351232) (h2 : wfC (.int .i64 x2)) : law06_PageFrames x0 x1 x2 = some (true, ()) := by
  have h0 := seq_of h0'
  unfold law06_PageFrames law06_PageFrames.on
  have hl := few_len x1
  generalize hs : x1.take 300 = s at *
  generalize hn : Int.tmod x2 400 = n
  have hn1 : n < 400 := by rw [← hn]; have := Int.tmod_lt_of_pos x2 (show (0 : Int) < 400 by decide); omega
  have r1 : ∀ (t : Tg), @Eq (Option Tg) (rd [Blk.cells [.int .i64 t.1, .int .u64 t.2.1, .int .i64 t.2.2.1, .int .i64 t.2.2.2.1, .int .i64 t.2.2.2.2.1] .exact] (.agg [.int .i64, .int .u64, .int .i64, .int .i64, .int .i64]) 0 0) (some t) := fun _ => rfl
  simp only [few_eq, hs, bind_some, List.nil_append, List.length_nil, r1]
  have et : (x0.1, x0.2.1, x0.2.2.1, x0.2.2.2.1, x0.2.2.2.2.1, ()) = x0 := rfl
  rw [et]
  simp only [ref06_Check_eq, page_Check_eq, bind_some, awake06, Bool.not_true, cond_f]
  by_cases hok : tagOK x0 = true ∧ 0 ≤ n ∧ (s.length : Int) ≤ n
  · obtain ⟨h1, h3, h4⟩ := hok
    obtain ⟨m, rfl⟩ : ∃ m : Nat, n = (m : Int) := ⟨n.toNat, (Int.toNat_of_nonneg h3).symm⟩
    have f := page_Frame_yes (t := x0) (s := s) (size := m) h1 h0 (by omega) (by omega)
    have g := ref06_Frame_eq (t := x0) (s := s) (size := m) h1 h0 (by omega) (by omega)
    have l := page_Look_eq (dataOf s m) (spareOf x0 s m) (by rw [dataOf_length (by omega)]; omega) (by rw [spareOf_length]; decide)
    rw [look_frame h1 h0 (by omega) (by omega)] at l
    have w2 : ∀ (t u : Tg), wr [Blk.cells [.int .i64 t.1, .int .u64 t.2.1, .int .i64 t.2.2.1, .int .i64 t.2.2.2.1, .int .i64 t.2.2.2.2.1] .exact, Blk.cells [.int .i64 0, .int .u64 0, .int .i64 0, .int .i64 0, .int .i64 0] .exact] 1 0 [.int .i64 u.1, .int .u64 u.2.1, .int .i64 u.2.2.1, .int .i64 u.2.2.2.1, .int .i64 u.2.2.2.2.1] = some [tagB t, tagB u] := fun _ _ => rfl
    have r2 : ∀ (A : Blk) (t : Tg), @Eq (Option Tg) (rd [A, tagB t] (.agg [.int .i64, .int .u64, .int .i64, .int .i64, .int .i64]) 1 0) (some t) := fun _ _ => rfl
    have r3 : ∀ (A : Blk) (t : Tg), @Eq (Option Tg) (rd [tagB t, A] (.agg [.int .i64, .int .u64, .int .i64, .int .i64, .int .i64]) 0 0) (some t) := fun _ _ => rfl
    simp only [f, h1, cond_t, decide_eq_true h3, decide_eq_true h4, bind_some, r1, et, ref06_Check_eq, page_Check_eq, beq_self_eq_true, Bool.not_true, cond_f, g, l, List.cons_append, List.nil_append, List.length_cons, List.length_nil, Nat.zero_add, w2, r2, r3, decide_true, Bool.and_self]
  · have f : page_Frame x0 s n = some ([], [], 1, ()) := by
      refine page_Frame_no ?_
      cases h1 : tagOK x0 with
      | false => exact .inl rfl
      | true =>
        by_cases h3 : 0 ≤ n
        · by_cases h4 : (s.length : Int) ≤ n
          · exact absurd ⟨h1, h3, h4⟩ hok
          · exact .inr (.inr (.inr (by omega)))
        · exact .inr (.inl (by omega))
    simp only [f, bind_some]
    cases h1 : tagOK x0 with
    | false => simp [r1, et, ref06_Check_eq, page_Check_eq, h1]
    | true =>
      by_cases h3 : 0 ≤ n
      · by_cases h4 : (s.length : Int) ≤ n
        · exact absurd ⟨h1, h3, h4⟩ hok
        · simp [r1, et, ref06_Check_eq, page_Check_eq, h1, h3, h4]
      · simp [r1, et, ref06_Check_eq, page_Check_eq, h1, h3]

/-! Pages that were spoiled. -/
def vTag (x0 : Tg) : Tg := (IntKind.wrap .i64 (1 + (bitsI .and .i64 x0.1 1)), x0.2.1, 0, IntKind.wrap .i64 (1 + (bitsI .and .i64 x0.2.2.2.1 7)), bitsI .and .i64 x0.2.2.2.2.1 65535, ())
theorem vTag_ok (x0 : Tg) : tagOK (vTag x0) = true := by
  have a1 := and_ones (k := .i64) (x := x0.1) (m := 1) 1 (by decide) (by decide)
  have a2 := and_ones (k := .i64) (x := x0.2.2.2.1) (m := 7) 3 (by decide) (by decide)
  have a3 := and_ones (k := .i64) (x := x0.2.2.2.2.1) (m := 65535) 16 (by decide) (by decide)
  apply decide_eq_true
  unfold vTag
  simp only
  rw [wrap_i64 (by omega) (by omega), wrap_i64 (by omega) (by omega)]
  omega

def fullB (t : Tg) (s : Bytes) : Bytes := dataOf s 300 ++ spareOf t s 300
theorem fullB_length (t : Tg) {s : Bytes} (h : s.length ≤ 300) : (fullB t s).length = 332 := by unfold fullB; rw [List.length_append, dataOf_length h, spareOf_length]
theorem look_length (s : Bytes) (h : s.length = 332) : page_Look (s.take 300) (s.drop 300) = some (lookP (s.take 300) (s.drop 300)) := page_Look_eq _ _ (by simp; omega) (by simp; omega)

/-- The loop writes over the block. -/
theorem cells_set (s : Bytes) (j : Nat) (b : UInt8) : (cellsOf s).set j (.int .u8 (b.toNat : Int)) = cellsOf (s.set j b) := by simp [cellsOf, List.map_set]
theorem wr2 (A B : Blk) (s : Bytes) (j : Nat) (hj : j < s.length) (b : UInt8) : wr [A, B, .cells (cellsOf s) .loose] 2 j [.int .u8 (b.toNat : Int)] = some [A, B, .cells (cellsOf (s.set j b)) .loose] := by
  rw [wr1_of (H := [A, B, .cells (cellsOf s) .loose]) (b := 2) rfl (by decide) (by rw [cells_len]; exact hj), cells_set]; rfl
theorem strOf2 (A B : Blk) (s : Bytes) (tl : Heap) (h : s.length = 332) :
    Sl.sub 1 ⟨some (2, 0), 332, 332⟩ 0 300 332 = some ⟨some (2, 0), 300, 332⟩ ∧ Sl.sub 1 ⟨some (2, 0), 332, 332⟩ 300 332 332 = some ⟨some (2, 300), 32, 32⟩ ∧
    strOf (A :: B :: .cells (cellsOf s) .loose :: tl) ⟨some (2, 0), 332, 332⟩ = some s ∧ strOf (A :: B :: .cells (cellsOf s) .loose :: tl) ⟨some (2, 0), 300, 332⟩ = some (s.take 300) ∧ strOf (A :: B :: .cells (cellsOf s) .loose :: tl) ⟨some (2, 300), 32, 32⟩ = some (s.drop 300) := by
  refine ⟨rfl, rfl, strOf_of (b := 2) rfl (by rw [cells_len]; omega) ?_, strOf_of (b := 2) rfl (by rw [cells_len]; omega) ?_, strOf_of (b := 2) rfl (by rw [cells_len]; omega) ?_⟩
  · rw [List.drop_zero, List.take_of_length_le (by rw [cells_len]; omega)]
  · simp [cellsOf]
  · rw [List.take_of_length_le (by simp [cellsOf]; omega)]; simp [cellsOf]

def spoil (k : Nat) (f : UInt8) (s : Bytes) : Nat → Bytes
  | 0 => s
  | i + 1 => (spoil k f s i).set (k + i) f
theorem spoil_length (k : Nat) (f : UInt8) (s : Bytes) : ∀ i, (spoil k f s i).length = s.length
  | 0 => rfl
  | i + 1 => by simp [spoil, spoil_length k f s i]

theorem tmod_pos {x m : Int} (hm : 0 < m) (hm2 : m < 1000) : 0 ≤ Int.tmod (IntKind.wrap .i64 (Int.tmod x m + m)) m ∧ Int.tmod (IntKind.wrap .i64 (Int.tmod x m + m)) m < m := by
  have h1 := Int.tmod_lt_of_pos x hm
  have h2 : -m < Int.tmod x m := by
    have := Int.lt_tmod_of_pos x hm
    omega
  rw [wrap_i64 (by omega) (by omega)]
  exact ⟨Int.tmod_nonneg _ (by omega), Int.tmod_lt_of_pos _ hm⟩

theorem PageBeginning_true (x0 : Tg) (x1 : Bytes) (x2 : Int) (h0' : ∀ c ∈ Tup.mk [.int .i64, .int .u64, .int .i64, .int .i64, .int .i64] x0, wfC c) (_ : x1.length ≤ 140737488351232) (_ : wfC (.int .i64 x2)) : law06_PageBeginning x0 x1 x2 = some (true, ()) := by
  have h0 := seq_of h0'
  unfold law06_PageBeginning law06_PageBeginning.on
  have hl := few_len x1
  generalize hs : x1.take 300 = s at *
  have hv := vTag_ok x0
  have hvq : 0 ≤ (vTag x0).2.1 ∧ (vTag x0).2.1 < 18446744073709551616 := h0
  have r0 : ∀ a b c d e, rdI .i64 [Blk.cells [.int .i64 a, .int .u64 b, .int .i64 c, .int .i64 d, .int .i64 e] .exact] 0 0 = some a := fun _ _ _ _ _ => rfl
  have r1 : ∀ a b c d e, rdI .u64 [Blk.cells [.int .i64 a, .int .u64 b, .int .i64 c, .int .i64 d, .int .i64 e] .exact] 0 1 = some b := fun _ _ _ _ _ => rfl
  have r3 : ∀ a b c d e, rdI .i64 [Blk.cells [.int .i64 a, .int .u64 b, .int .i64 c, .int .i64 d, .int .i64 e] .exact] 0 3 = some d := fun _ _ _ _ _ => rfl
  have r4 : ∀ a b c d e, rdI .i64 [Blk.cells [.int .i64 a, .int .u64 b, .int .i64 c, .int .i64 d, .int .i64 e] .exact] 0 4 = some e := fun _ _ _ _ _ => rfl
  have wv : ∀ A : Blk, wr [A, Blk.cells [.int .i64 0, .int .u64 0, .int .i64 0, .int .i64 0, .int .i64 0] .exact] 1 0 [.int .i64 (IntKind.wrap .i64 (1 + (bitsI .and .i64 x0.1 1))), .int .u64 x0.2.1, .int .i64 0, .int .i64 (IntKind.wrap .i64 (1 + (bitsI .and .i64 x0.2.2.2.1 7))), .int .i64 (bitsI .and .i64 x0.2.2.2.2.1 65535)] = some [A, tagB (vTag x0)] := fun _ => rfl
  have rv : ∀ (A : Blk), @Eq (Option Tg) (rd [A, tagB (vTag x0)] (.agg [.int .i64, .int .u64, .int .i64, .int .i64, .int .i64]) 1 0) (some (vTag x0)) := fun _ => rfl
  have ev : ((vTag x0).1, (vTag x0).2.1, (vTag x0).2.2.1, (vTag x0).2.2.2.1, (vTag x0).2.2.2.2.1, ()) = vTag x0 := rfl
  have f : page_Frame (vTag x0) s 300 = some (dataOf s 300, spareOf (vTag x0) s 300, 0, ()) := page_Frame_yes (size := 300) hv hvq (by decide) hl
  have hc : catS (dataOf s 300) (spareOf (vTag x0) s 300) = some (fullB (vTag x0) s) := by rw [cat_of (by rw [dataOf_length hl, spareOf_length]; decide)]; rfl
  have hfl := fullB_length (vTag x0) hl
  have hfi : ((332 : Nat) : Int) = 332 := rfl
  have dz : decide ((332 : Int) = 0) = false := rfl
  simp only [few_eq, hs, bind_some, List.nil_append, List.length_nil, r0, r1, r3, r4, List.cons_append, List.length_cons, Nat.zero_add, wv, rv, ev, f, awake06, Bool.not_true, cond_f, decide_true, hc, hfl, hfi, dz, Nat.reduceAdd]
  obtain ⟨k0, k1⟩ := tmod_pos (x := x2) (m := 332) (by decide) (by decide)
  generalize Int.tmod (IntKind.wrap .i64 (Int.tmod x2 332 + 332)) 332 = k at k0 k1
  obtain ⟨k, rfl⟩ : ∃ m : Nat, k = (m : Int) := ⟨k.toNat, (Int.toNat_of_nonneg k0).symm⟩
  have hfill : ∃ b : UInt8, IntKind.wrap .u8 (Int.fdiv x2 (2 ^ (min (Int.toNat 10) (IntKind.bits .i64)))) = (b.toNat : Int) := by
    rw [wrap_u8]
    generalize Int.fdiv x2 (2 ^ (min (Int.toNat 10) (IntKind.bits .i64))) = q
    refine ⟨UInt8.ofNat (q % 256).toNat, ?_⟩
    have : (UInt8.ofNat (q % 256).toNat).toNat = (q % 256).toNat := by
      simp; omega
    rw [this]; omega
  obtain ⟨b, hb⟩ := hfill
  let A : Blk := Blk.cells [.int .i64 x0.1, .int .u64 x0.2.1, .int .i64 x0.2.2.1, .int .i64 x0.2.2.2.1, .int .i64 x0.2.2.2.2.1] .exact
  have hloop : loopW (law06_PageBeginning.s1 x2 [A, tagB (vTag x0)] (fullB (vTag x0) s)) ((k : Int), ()) [A, tagB (vTag x0), .cells (cellsOf (fullB (vTag x0) s)) .loose] = some (((), [A, tagB (vTag x0), .cells (cellsOf (spoil k b (fullB (vTag x0) s) (332 - k))) .loose])) := by
    refine loop_for' (332 - k) (fun i => (((k + i : Nat) : Int), ())) (fun i => [A, tagB (vTag x0), .cells (cellsOf (spoil k b (fullB (vTag x0) s) i)) .loose]) rfl rfl ?_ ?_
    · intro i hi
      unfold law06_PageBeginning.s1
      have hd : decide (((k + i : Nat) : Int) < (332 : Int)) = true := decide_eq_true (by omega)
      have hat : Sl.at 1 ⟨some (2, 0), 332, 332⟩ ((k + i : Nat) : Int) = some (2, k + i) := by
        rw [at_of (by omega) (by omega), Int.toNat_natCast]; simp
      have hw := wr2 A (tagB (vTag x0)) (spoil k b (fullB (vTag x0) s) i) (k + i) (by rw [spoil_length, hfl]; omega) b
      have hsc : IntKind.wrap .i64 (((k + i : Nat) : Int) + 1) = ((k + (i + 1) : Nat) : Int) := wrap_succ (by omega)
      simp only [hfl, hfi, List.length_cons, List.length_nil, Nat.zero_add, Nat.reduceAdd, hd, cond_t, hat, bind_some, hb, hw, hsc, spoil]
    · unfold law06_PageBeginning.s1
      have hd : decide (((k + (332 - k) : Nat) : Int) < (332 : Int)) = false := decide_eq_false (by omega)
      simp only [hfl, hfi, hd, cond_f]
  have hloop' := hloop
  simp only [A] at hloop'
  have hXl : (spoil k b (fullB (vTag x0) s) (332 - k)).length = 332 := by rw [spoil_length, hfl]
  rw [hloop']
  generalize hX : spoil k b (fullB (vTag x0) s) (332 - k) = X at hXl
  have l1 := look_length X hXl
  have l2 := ref06_Look_eq (X.take 300) (X.drop 300) (by simp; omega) (by simp; omega) (by simp; omega)
  have wA : ∀ (A B D : Blk) (t : Tg), wr [A, B, D, Blk.cells [.int .i64 0, .int .u64 0, .int .i64 0, .int .i64 0, .int .i64 0] .exact] 3 0 [.int .i64 t.1, .int .u64 t.2.1, .int .i64 t.2.2.1, .int .i64 t.2.2.2.1, .int .i64 t.2.2.2.2.1] = some [A, B, D, tagB t] := fun _ _ _ _ => rfl
  have wB : ∀ (A B D E : Blk) (t : Tg), wr [A, B, D, E, Blk.cells [.int .i64 0, .int .u64 0, .int .i64 0, .int .i64 0, .int .i64 0] .exact] 4 0 [.int .i64 t.1, .int .u64 t.2.1, .int .i64 t.2.2.1, .int .i64 t.2.2.2.1, .int .i64 t.2.2.2.2.1] = some [A, B, D, E, tagB t] := fun _ _ _ _ _ => rfl
  have rA : ∀ (A B D E : Blk) (t : Tg), @Eq (Option Tg) (rd [A, B, D, tagB t, E] (.agg [.int .i64, .int .u64, .int .i64, .int .i64, .int .i64]) 3 0) (some t) := fun _ _ _ _ _ => rfl
  have rB : ∀ (A B D E : Blk) (t : Tg), @Eq (Option Tg) (rd [A, B, D, E, tagB t] (.agg [.int .i64, .int .u64, .int .i64, .int .i64, .int .i64]) 4 0) (some t) := fun _ _ _ _ _ => rfl
  have sA := fun tl => strOf2 A (tagB (vTag x0)) X tl hXl
  have s1 := (sA []).1; have s2 := (sA []).2.1; have s3 := fun tl => (sA tl).2.2.1; have s4 := fun tl => (sA tl).2.2.2.1; have s5 := fun tl => (sA tl).2.2.2.2
  simp only [A] at s3 s4 s5
  simp only [bind_some, s1, s2, s3, s4, s5, l1, l2, List.cons_append, List.nil_append, List.length_cons, List.length_nil, Nat.zero_add, Nat.reduceAdd, wA, wB, rA, rB, decide_true, Bool.and_self, cond_t]
  by_cases hsame : X = fullB (vTag x0) s
  · have hlook : lookP (X.take 300) (X.drop 300) = (1, vTag x0, s, ()) := by
      rw [hsame, fullB, List.take_left' (dataOf_length hl), List.drop_left' (dataOf_length hl)]
      exact look_frame hv hvq (by decide) hl
    simp only [hsame, decide_true, Bool.not_true, cond_f]
    rw [← hsame, hlook]; simp
  · simp only [decide_eq_false hsame, Bool.not_false, cond_t]
end Ev
