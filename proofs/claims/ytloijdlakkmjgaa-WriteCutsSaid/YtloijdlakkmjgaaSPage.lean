/- Pages as bytes: page.Check, Frame and Look, in plain Lean. -/
import Derived.Test.YtloijdlakkmjgaaGPage
import Derived.Test.YtloijdlakkmjgaaSCode
import Derived.Test.YtloijdlakkmjgaaSCrc
namespace Ev
open Go (IntKind)

abbrev Tg := Int × Int × Int × Int × Int × Unit
def tag0 : Tg := (0, 0, 0, 0, 0, ())
def tagOK (t : Tg) : Bool := decide (1 ≤ t.1 ∧ t.1 ≤ 3 ∧ 1 ≤ t.2.2.2.1 ∧ t.2.2.2.1 < 65536 ∧ 0 ≤ t.2.2.1 ∧ t.2.2.1 < t.2.2.2.1 ∧ 0 ≤ t.2.2.2.2.1 ∧ t.2.2.2.2.1 < 4294967296)
def zerosB (n : Nat) : Bytes := List.replicate n 0
def rowOf (t : Tg) (n : Nat) : Bytes := leB 1 t.1.toNat ++ leB 8 t.2.1.toNat ++ leB 2 t.2.2.1.toNat ++ leB 2 t.2.2.2.1.toNat ++ leB 4 t.2.2.2.2.1.toNat ++ leB 2 n ++ zerosB 9
def dataOf (s : Bytes) (size : Nat) : Bytes := s ++ zerosB (size - s.length)
def spareOf (t : Tg) (s : Bytes) (size : Nat) : Bytes := rowOf t s.length ++ leB 4 (crcMore 0 (dataOf s size ++ rowOf t s.length))

theorem rowOf_length (t : Tg) (n : Nat) : (rowOf t n).length = 28 := by simp [rowOf, leB_length, zerosB]
theorem dataOf_length {s : Bytes} {size : Nat} (h : s.length ≤ size) : (dataOf s size).length = size := by simp [dataOf, zerosB]; omega
theorem spareOf_length (t : Tg) (s : Bytes) (size : Nat) : (spareOf t s size).length = 32 := by simp [spareOf, rowOf_length, leB_length]

theorem page_Check_eq (t : Tg) : page_Check t = some (tagOK t, ()) := by
  obtain ⟨k, q, i, o, w, u⟩ := t
  have r0 : ∀ a b c d e, rdI .i64 [Blk.cells [.int .i64 a, .int .u64 b, .int .i64 c, .int .i64 d, .int .i64 e] .exact] 0 0 = some a := fun _ _ _ _ _ => rfl
  have r2 : ∀ a b c d e, rdI .i64 [Blk.cells [.int .i64 a, .int .u64 b, .int .i64 c, .int .i64 d, .int .i64 e] .exact] 0 2 = some c := fun _ _ _ _ _ => rfl
  have r3 : ∀ a b c d e, rdI .i64 [Blk.cells [.int .i64 a, .int .u64 b, .int .i64 c, .int .i64 d, .int .i64 e] .exact] 0 3 = some d := fun _ _ _ _ _ => rfl
  have r4 : ∀ a b c d e, rdI .i64 [Blk.cells [.int .i64 a, .int .u64 b, .int .i64 c, .int .i64 d, .int .i64 e] .exact] 0 4 = some e := fun _ _ _ _ _ => rfl
  unfold page_Check page_Check.on tagOK
  simp only [List.nil_append, List.length_nil, r0, r2, r3, r4, bind_some]
  by_cases h1 : 1 ≤ k
  · by_cases h2 : k ≤ 3
    · by_cases h3 : 1 ≤ o
      · by_cases h4 : o < 65536
        · by_cases h5 : 0 ≤ i
          · by_cases h6 : i < o
            · by_cases h7 : 0 ≤ w
              · by_cases h8 : w < 4294967296 <;> simp [h1, h2, h3, h4, h5, h6, h7, h8]
              · simp [h1, h2, h3, h4, h5, h6, h7]
            · simp [h1, h2, h3, h4, h5, h6]
          · simp [h1, h2, h3, h4, h5]
        · simp [h1, h2, h3, h4]
      · simp [h1, h2, h3]
    · simp [h1, h2]
  · simp [h1]

theorem rd_tag {H : Heap} {b : Nat} {a c d e f : Int} {bk : BK} (h : H[b]? = some (.cells [.int .i64 a, .int .u64 c, .int .i64 d, .int .i64 e, .int .i64 f] bk)) :
    @Eq (Option Tg) (rd H (.agg [.int .i64, .int .u64, .int .i64, .int .i64, .int .i64]) b 0) (some (a, c, d, e, f, ())) := by
  simp only [rd, Heap.row, h]; rfl

theorem wrap64_nat {n : Nat} (h : n < 18446744073709551616) : IntKind.wrap .u64 (n : Int) = (n : Int) := by rw [wrap_u64]; omega
theorem wrap64_int {n : Int} (h0 : 0 ≤ n) (h : n < 18446744073709551616) : IntKind.wrap .u64 n = ((n.toNat : Nat) : Int) := by rw [wrap_u64]; omega

theorem page_Frame_no {t : Tg} {s : Bytes} {size : Int} (h : tagOK t = false ∨ size < 0 ∨ 65536 ≤ size ∨ size < s.length) : page_Frame t s size = some ([], [], 1, ()) := by
  obtain ⟨k, q, i, o, w, u⟩ := t
  unfold page_Frame page_Frame.on
  simp only [List.nil_append, List.length_nil]
  rw [rd_tag (H := [Blk.cells [.int .i64 k, .int .u64 q, .int .i64 i, .int .i64 o, .int .i64 w] .exact]) (b := 0) rfl]
  simp only [bind_some, page_Check_eq]
  cases h1 : tagOK (k, q, i, o, w, ()) with
  | false => rfl
  | true =>
    by_cases h2 : size < 0
    · simp [h2]
    · by_cases h3 : 65536 ≤ size
      · simp [h2, h3]
      · by_cases h4 : size < s.length
        · simp [h2, h3, h4]
        · exfalso
          rcases h with h | h | h | h
          · have : tagOK (k, q, i, o, w, u) = tagOK (k, q, i, o, w, ()) := rfl
            rw [this, h1] at h; cases h
          · exact h2 h
          · exact h3 h
          · exact h4 h

theorem page_Frame_yes {t : Tg} {s : Bytes} {size : Nat} (h1 : tagOK t = true) (hq : 0 ≤ t.2.1 ∧ t.2.1 < 18446744073709551616) (h3 : size < 65536) (h4 : s.length ≤ size) : page_Frame t s (size : Int) = some (dataOf s size, spareOf t s size, 0, ()) := by
  obtain ⟨k, q, i, o, w, u⟩ := t
  have ht := of_decide_eq_true h1
  simp only at ht hq
  unfold page_Frame page_Frame.on
  simp only [List.nil_append, List.length_nil]
  rw [rd_tag (H := [Blk.cells [.int .i64 k, .int .u64 q, .int .i64 i, .int .i64 o, .int .i64 w] .exact]) (b := 0) rfl]
  have r0 : ∀ a b c d e, rdI .i64 [Blk.cells [.int .i64 a, .int .u64 b, .int .i64 c, .int .i64 d, .int .i64 e] .exact] 0 0 = some a := fun _ _ _ _ _ => rfl
  have r1 : ∀ a b c d e, rdI .u64 [Blk.cells [.int .i64 a, .int .u64 b, .int .i64 c, .int .i64 d, .int .i64 e] .exact] 0 1 = some b := fun _ _ _ _ _ => rfl
  have r2 : ∀ a b c d e, rdI .i64 [Blk.cells [.int .i64 a, .int .u64 b, .int .i64 c, .int .i64 d, .int .i64 e] .exact] 0 2 = some c := fun _ _ _ _ _ => rfl
  have r3 : ∀ a b c d e, rdI .i64 [Blk.cells [.int .i64 a, .int .u64 b, .int .i64 c, .int .i64 d, .int .i64 e] .exact] 0 3 = some d := fun _ _ _ _ _ => rfl
  have r4 : ∀ a b c d e, rdI .i64 [Blk.cells [.int .i64 a, .int .u64 b, .int .i64 c, .int .i64 d, .int .i64 e] .exact] 0 4 = some e := fun _ _ _ _ _ => rfl
  have h1' : tagOK (k, q, i, o, w, ()) = true := h1
  have d2 : decide ((size : Int) < 0) = false := decide_eq_false (by omega)
  have d3 : decide (65536 ≤ (size : Int)) = false := decide_eq_false (by omega)
  have d4 : decide ((size : Int) < (s.length : Int)) = false := decide_eq_false (by omega)
  have ew : IntKind.wrap .i64 ((size : Int) - (s.length : Int)) = ((size - s.length : Nat) : Int) := by rw [wrap_i64 (by omega) (by omega)]; omega
  simp only [bind_some, page_Check_eq, h1', Bool.not_true, cond_f, d2, d3, d4, r0, r1, r2, r3, r4, ew]
  rw [rep_of (by simp; omega) (by omega), flat1]
  have l1 := dataOf_length h4
  have c1 : catS s (List.replicate (size - s.length) 0) = some (dataOf s size) := by rw [cat_of (by simp; omega)]; rfl
  have f1 : code_Fixed (IntKind.wrap .u64 k) 1 = some (leB 1 k.toNat, ()) := by rw [wrap64_int (by omega) (by omega)]; exact code_Fixed_eq _ 1 (by omega) (by decide)
  have f2 : code_Fixed q 8 = some (leB 8 q.toNat, ()) := by rw [show q = ((q.toNat : Nat) : Int) by omega]; exact code_Fixed_eq _ 8 (by omega) (by decide)
  have f3 : code_Fixed (IntKind.wrap .u64 i) 2 = some (leB 2 i.toNat, ()) := by rw [wrap64_int (by omega) (by omega)]; exact code_Fixed_eq _ 2 (by omega) (by decide)
  have f4 : code_Fixed (IntKind.wrap .u64 o) 2 = some (leB 2 o.toNat, ()) := by rw [wrap64_int (by omega) (by omega)]; exact code_Fixed_eq _ 2 (by omega) (by decide)
  have f5 : code_Fixed (IntKind.wrap .u64 w) 4 = some (leB 4 w.toNat, ()) := by rw [wrap64_int (by omega) (by omega)]; exact code_Fixed_eq _ 4 (by omega) (by decide)
  have f6 : code_Fixed (IntKind.wrap .u64 (s.length : Int)) 2 = some (leB 2 s.length, ()) := by rw [wrap64_nat (by omega)]; exact code_Fixed_eq _ 2 (by omega) (by decide)
  simp only [bind_some, c1, f1, f2, f3, f4, f5, f6]
  rw [cat_of (by simp [leB_length]), bind_some, cat_of (by simp [leB_length]), bind_some, cat_of (by simp [leB_length]), bind_some, cat_of (by simp [leB_length]), bind_some, cat_of (by simp [leB_length]), bind_some]
  have lr : (leB 1 k.toNat ++ leB 8 q.toNat ++ leB 2 i.toNat ++ leB 2 o.toNat ++ leB 4 w.toNat ++ leB 2 s.length).length = 19 := by simp [leB_length]
  have ew2 : IntKind.wrap .i64 (28 - ((leB 1 k.toNat ++ leB 8 q.toNat ++ leB 2 i.toNat ++ leB 2 o.toNat ++ leB 4 w.toNat ++ leB 2 s.length).length : Int)) = ((9 : Nat) : Int) := by rw [lr]; rfl
  rw [ew2, rep_of (by simp) (by decide), flat1, bind_some, cat_of (by simp [leB_length]), bind_some]
  have er : (leB 1 k.toNat ++ leB 8 q.toNat ++ leB 2 i.toNat ++ leB 2 o.toNat ++ leB 4 w.toNat ++ leB 2 s.length ++ List.replicate 9 (0 : UInt8)) = rowOf (k, q, i, o, w, u) s.length := rfl
  rw [er, crc_Sum_eq _ (by rw [l1]; omega), bind_some]
  have lr2 := rowOf_length (k, q, i, o, w, u) s.length
  have hc0 : crcMore 0 (dataOf s size) < 4294967296 := crcMore_lt (by decide)
  rw [crc_More_eq _ _ hc0 (by rw [lr2]; decide), bind_some, crcMore_app]
  have hc1 : crcMore 0 (dataOf s size ++ rowOf (k, q, i, o, w, u) s.length) < 4294967296 := crcMore_lt (by decide)
  rw [wrap64_nat (by omega)]
  rw [show code_Fixed ((crcMore 0 (dataOf s size ++ rowOf (k, q, i, o, w, u) s.length) : Nat) : Int) 4 = some (leB 4 (crcMore 0 (dataOf s size ++ rowOf (k, q, i, o, w, u) s.length)), ()) from code_Fixed_eq _ 4 (by omega) (by decide), bind_some, cat_of (by rw [lr2, leB_length]; decide), bind_some]
  rfl

/-! Look. -/
def cleanB (s : Bytes) : Bool := s.all fun b => b == 255
theorem page_erased_eq (s : Bytes) (hs : s.length < 9223372036854775807) : page_erased s = some (cleanB s, ()) := by
  unfold page_erased page_erased.on
  obtain ⟨x, H', h1, h2⟩ := loopW_run (step := page_erased.s1 s) (fun t _ => ∃ i : Nat, i ≤ s.length ∧ t.1 = (i : Int) ∧ cleanB (s.take i) = true) (fun x _ => match x with | .inl _ => cleanB s = true | .inr b => cleanB s = false ∧ b.1 = false) (fun t _ => s.length - t.1.toNat)
    (by
      rintro ⟨j, u⟩ H ⟨i, hi, hj, hc⟩
      have hj : j = (i : Int) := hj
      subst hj
      unfold page_erased.s1
      by_cases hlt : i < s.length
      · have hd : decide ((i : Int) < (s.length : Int)) = true := decide_eq_true (by omega)
        simp only [hd, cond_t, idx_of hlt, bind_some]
        have htk : s.take (i + 1) = s.take i ++ [s[i]] := by rw [List.take_add_one, List.getElem?_eq_getElem hlt]; rfl
        by_cases h255 : s[i] = 255
        · have : decide (((s[i].toNat : Nat) : Int) = 255) = true := decide_eq_true (by rw [h255]; rfl)
          simp only [this, Bool.not_true, cond_f, wrap_succ (show i < 9223372036854775807 by omega), Round]
          refine ⟨⟨i + 1, hlt, rfl, ?_⟩, by simp; omega⟩
          rw [htk]
          unfold cleanB at hc ⊢
          rw [List.all_append, hc]; simp [h255]
        · have : decide (((s[i].toNat : Nat) : Int) = 255) = false := decide_eq_false (by
            intro hh
            apply h255
            apply UInt8.toNat_inj.1
            have : (255 : UInt8).toNat = 255 := rfl
            omega)
          simp only [this, Bool.not_false, cond_t, Round]
          refine ⟨?_, trivial⟩
          unfold cleanB
          rw [List.all_eq_false]
          exact ⟨s[i], List.getElem_mem hlt, by simpa using h255⟩
      · have : i = s.length := by omega
        subst this
        have hd : decide ((s.length : Int) < (s.length : Int)) = false := decide_eq_false (by omega)
        simp only [hd, cond_f, Round]
        rw [List.take_length] at hc
        exact hc) (0, ()) [] ⟨0, Nat.zero_le _, rfl, rfl⟩
  rw [h1, bind_some]
  cases x with
  | inl _ => have h2 : cleanB s = true := h2; simp [h2]
  | inr b => obtain ⟨g1, g2⟩ : cleanB s = false ∧ b.1 = false := h2; simp [g1, g2]

def fld (b : Bytes) (o n : Nat) : Nat := valB ((b.drop o).take n)
theorem fld_lt (b : Bytes) (o n : Nat) : fld b o n < 256 ^ n := by
  have h := valB_lt ((b.drop o).take n)
  exact Nat.lt_of_lt_of_le h (Nat.pow_le_pow_right (by decide) (by simp; omega))
def tagOf (b : Bytes) : Tg := ((fld b 0 1 : Nat), (fld b 1 8 : Nat), (fld b 9 2 : Nat), (fld b 11 2 : Nat), (fld b 13 4 : Nat), ())
def longOf (b : Bytes) : Nat := fld b 17 2
theorem tagOf_seq (b : Bytes) : 0 ≤ (tagOf b).2.1 ∧ (tagOf b).2.1 < 18446744073709551616 := by
  have := fld_lt b 1 8
  simp only [tagOf]; omega
/-- Is it a page that is whole? -/
def whole (a b : Bytes) : Bool := decide (b.length = 32 ∧ longOf b ≤ a.length ∧ tagOK (tagOf b) = true ∧ a.length < 65536 ∧ dataOf (a.take (longOf b)) a.length = a ∧ spareOf (tagOf b) (a.take (longOf b)) a.length = b)
def lookP (a b : Bytes) : Int × Tg × Bytes × Unit :=
  if cleanB a = true ∧ cleanB b = true then (0, tag0, [], ()) else if whole a b = true then (1, tagOf b, a.take (longOf b), ()) else (2, tag0, [], ())

theorem rf2 (A : Blk) (s : Bytes) (n : Nat) (h : n ≤ s.length) (h8 : n ≤ 8) : code_Reader_Fixed (some (1, 0)) (n : Int) [A, rdr s 0] = some ((((valB (s.take n) : Nat) : Int), ()), [A, rdr (s.drop n) 0]) := code_RFixed_eq (H := [A, rdr s 0]) rfl h h8
theorem rf3 (A B : Blk) (s : Bytes) (n : Nat) (h : n ≤ s.length) (h8 : n ≤ 8) : code_Reader_Fixed (some (1, 0)) (n : Int) [A, rdr s 0, B] = some ((((valB (s.take n) : Nat) : Int), ()), [A, rdr (s.drop n) 0, B]) := code_RFixed_eq (H := [A, rdr s 0, B]) rfl h h8

def tagB (t : Tg) : Blk := .cells [.int .i64 t.1, .int .u64 t.2.1, .int .i64 t.2.2.1, .int .i64 t.2.2.2.1, .int .i64 t.2.2.2.2.1] .exact
theorem wr_tag (H : Heap) (b : Nat) (t : Tg) (h : H[b]? = some (tagB t)) (u : Tg) : wr H b 0 [.int .i64 u.1, .int .u64 u.2.1, .int .i64 u.2.2.1, .int .i64 u.2.2.2.1, .int .i64 u.2.2.2.2.1] = some (H.set b (tagB u)) := by
  rw [wr_of h (by decide) (by simp)]; rfl

set_option maxRecDepth 4000 in
theorem page_Look_eq (a b : Bytes) (ha : a.length < 4611686018427387904) (hb : b.length < 4611686018427387904) : page_Look a b = some (lookP a b) := by
  unfold page_Look page_Look.on lookP
  have er (x : Bytes) (hx : x.length < 4611686018427387904) := page_erased_eq x (by omega)
  simp only [er a ha, er b hb, bind_some, List.nil_append, List.length_nil]
  by_cases hcl : cleanB a = true ∧ cleanB b = true
  · simp only [if_pos hcl, hcl.1, hcl.2, cond_t]; rfl
  rw [if_neg hcl]
  have e1 : (cond (cleanB a) (cond (cleanB b) ((wr [Blk.cells [.int .i64 0, .int .u64 0, .int .i64 0, .int .i64 0, .int .i64 0] .exact] 0 0 [.int .i64 0, .int .u64 0, .int .i64 0, .int .i64 0, .int .i64 0]).bind fun (H4 : Heap) => some (Sum.inr (0, [], ()), H4)) (some (Sum.inl (()), [Blk.cells [.int .i64 0, .int .u64 0, .int .i64 0, .int .i64 0, .int .i64 0] .exact]))) (some (Sum.inl (()), [Blk.cells [.int .i64 0, .int .u64 0, .int .i64 0, .int .i64 0, .int .i64 0] .exact])) : Option (((Unit) ⊕ (Int × Bytes × Unit)) × Heap)) = some (Sum.inl (), [tagB tag0]) := by
    cases h1 : cleanB a with
    | false => rfl
    | true =>
      cases h2 : cleanB b with
      | false => rfl
      | true => exact absurd ⟨h1, h2⟩ hcl
  rw [e1]
  simp only [bind_some, Sum.elim_inl]
  by_cases h32 : b.length = 32
  rotate_left
  · have d : decide ((b.length : Int) = 32) = false := decide_eq_false (by omega)
    have hw : whole a b = false := decide_eq_false (fun h => h32 h.1)
    simp only [d, Bool.not_false, cond_t, hw]
    rfl
  have d : decide ((b.length : Int) = 32) = true := decide_eq_true (by omega)
  simp only [d, Bool.not_true, cond_f, code_New_eq, bind_some, List.length_cons, List.length_nil, List.cons_append, List.nil_append, Nat.zero_add]
  have g1 := rf2 (tagB tag0) b 1 (by omega) (by decide)
  have g2 := rf2 (tagB tag0) (b.drop 1) 8 (by simp; omega) (by decide)
  have g3 := rf2 (tagB tag0) (b.drop 9) 2 (by simp; omega) (by decide)
  have g4 := rf2 (tagB tag0) (b.drop 11) 2 (by simp; omega) (by decide)
  have g5 := rf2 (tagB tag0) (b.drop 13) 4 (by simp; omega) (by decide)
  have g6 : ∀ B, _ := fun B => rf3 (tagB tag0) B (b.drop 17) 2 (by simp; omega) (by decide)
  simp only [List.drop_drop, Nat.reduceAdd] at g1 g2 g3 g4 g5 g6
  have q0 : fld b 0 1 = valB (b.take 1) := rfl
  have t1 := fld_lt b 0 1; have t2 := fld_lt b 1 8; have t3 := fld_lt b 9 2; have t4 := fld_lt b 11 2; have t5 := fld_lt b 13 4; have t6 := fld_lt b 17 2
  have k1 : code_Reader_Fixed (some (1, 0)) 1 [tagB tag0, rdr b 0] = some ((((fld b 0 1 : Nat) : Int), ()), [tagB tag0, rdr (b.drop 1) 0]) := g1
  have k2 : code_Reader_Fixed (some (1, 0)) 8 [tagB tag0, rdr (b.drop 1) 0] = some ((((fld b 1 8 : Nat) : Int), ()), [tagB tag0, rdr (b.drop 9) 0]) := g2
  have k3 : code_Reader_Fixed (some (1, 0)) 2 [tagB tag0, rdr (b.drop 9) 0] = some ((((fld b 9 2 : Nat) : Int), ()), [tagB tag0, rdr (b.drop 11) 0]) := g3
  have k4 : code_Reader_Fixed (some (1, 0)) 2 [tagB tag0, rdr (b.drop 11) 0] = some ((((fld b 11 2 : Nat) : Int), ()), [tagB tag0, rdr (b.drop 13) 0]) := g4
  have k5 : code_Reader_Fixed (some (1, 0)) 4 [tagB tag0, rdr (b.drop 13) 0] = some ((((fld b 13 4 : Nat) : Int), ()), [tagB tag0, rdr (b.drop 17) 0]) := g5
  have k6 : ∀ B, code_Reader_Fixed (some (1, 0)) 2 [tagB tag0, rdr (b.drop 17) 0, B] = some ((((longOf b : Nat) : Int), ()), [tagB tag0, rdr (b.drop 19) 0, B]) := g6
  have w1 : IntKind.wrap .i64 ((fld b 0 1 : Nat) : Int) = ((fld b 0 1 : Nat) : Int) := wrap_i64 (by omega) (by omega)
  have w3 : IntKind.wrap .i64 ((fld b 9 2 : Nat) : Int) = ((fld b 9 2 : Nat) : Int) := wrap_i64 (by omega) (by omega)
  have w4 : IntKind.wrap .i64 ((fld b 11 2 : Nat) : Int) = ((fld b 11 2 : Nat) : Int) := wrap_i64 (by omega) (by omega)
  have w5 : IntKind.wrap .i64 ((fld b 13 4 : Nat) : Int) = ((fld b 13 4 : Nat) : Int) := wrap_i64 (by omega) (by omega)
  have w6 : IntKind.wrap .i64 ((longOf b : Nat) : Int) = ((longOf b : Nat) : Int) := wrap_i64 (by unfold longOf; omega) (by unfold longOf; omega)
  have ww : ∀ (A B : Blk), wr [A, B, Blk.cells [.int .i64 0, .int .u64 0, .int .i64 0, .int .i64 0, .int .i64 0] .exact] 2 0 [.int .i64 ((fld b 0 1 : Nat) : Int), .int .u64 ((fld b 1 8 : Nat) : Int), .int .i64 ((fld b 9 2 : Nat) : Int), .int .i64 ((fld b 11 2 : Nat) : Int), .int .i64 ((fld b 13 4 : Nat) : Int)] = some [A, B, tagB (tagOf b)] := fun _ _ => rfl
  have rr : ∀ (A B : Blk) (t : Tg), @Eq (Option Tg) (rd [A, B, tagB t] (.agg [.int .i64, .int .u64, .int .i64, .int .i64, .int .i64]) 2 0) (some (t.1, t.2.1, t.2.2.1, t.2.2.2.1, t.2.2.2.2.1, ())) := fun _ _ _ => rfl
  have wz : ∀ (B D : Blk), wr [tagB tag0, B, D] 0 0 [.int .i64 0, .int .u64 0, .int .i64 0, .int .i64 0, .int .i64 0] = some [tagB tag0, B, D] := fun _ _ => rfl
  have rz : ∀ (B D : Blk) (t : Tg), @Eq (Option Tg) (rd [tagB t, B, D] (.agg [.int .i64, .int .u64, .int .i64, .int .i64, .int .i64]) 0 0) (some (t.1, t.2.1, t.2.2.1, t.2.2.2.1, t.2.2.2.2.1, ())) := fun _ _ _ => rfl
  have wf : ∀ (B D : Blk) (t : Tg), wr [tagB tag0, B, D] 0 0 [.int .i64 t.1, .int .u64 t.2.1, .int .i64 t.2.2.1, .int .i64 t.2.2.2.1, .int .i64 t.2.2.2.2.1] = some [tagB t, B, D] := fun _ _ _ => rfl
  simp only [k1, k2, k3, k4, k5, bind_some, w1, w3, w4, w5, List.cons_append, List.nil_append, List.length_cons, List.length_nil, Nat.zero_add, Nat.reduceAdd, ww, k6, w6]
  by_cases hl : longOf b ≤ a.length
  rotate_left
  · have d2 : decide ((a.length : Int) < ((longOf b : Nat) : Int)) = true := decide_eq_true (by omega)
    have hw : whole a b = false := decide_eq_false (fun h => hl h.2.1)
    simp only [d2, cond_t, wz, bind_some, rz, hw]
    rfl
  have d2 : decide ((a.length : Int) < ((longOf b : Nat) : Int)) = false := decide_eq_false (by omega)
  simp only [d2, cond_f, rr, bind_some, page_Check_eq]
  have he : tagOK ((tagOf b).1, (tagOf b).2.1, (tagOf b).2.2.1, (tagOf b).2.2.2.1, (tagOf b).2.2.2.2.1, ()) = tagOK (tagOf b) := rfl
  rw [he]
  cases hok : tagOK (tagOf b) with
  | false =>
    have hw : whole a b = false := decide_eq_false (fun h => by rw [hok] at h; exact absurd h.2.2.1 (by decide))
    simp only [Bool.not_false, cond_t, wz, bind_some, rz, hw]
    rfl
  | true =>
    simp only [Bool.not_true, cond_f]
    have hsub : subS a 0 ((longOf b : Nat) : Int) = some (a.take (longOf b)) := by
      rw [show (0 : Int) = ((0 : Nat) : Int) from rfl, sub_of (Nat.zero_le _) hl]; rfl
    simp only [hsub, bind_some]
    by_cases h65 : a.length < 65536
    rotate_left
    · have hno := page_Frame_no (t := tagOf b) (s := a.take (longOf b)) (size := (a.length : Int)) (.inr (.inr (.inl (by omega))))
      have hno' : page_Frame ((tagOf b).1, (tagOf b).2.1, (tagOf b).2.2.1, (tagOf b).2.2.2.1, (tagOf b).2.2.2.2.1, ()) (a.take (longOf b)) (a.length : Int) = some ([], [], 1, ()) := hno
      have hw : whole a b = false := decide_eq_false (fun h => h65 h.2.2.2.1)
      simp only [hno', bind_some, show decide ((1 : Int) = 0) = false from rfl, Bool.not_false, cond_t, wz, rz, hw]
      rfl
    have hyes := page_Frame_yes (t := tagOf b) (s := a.take (longOf b)) (size := a.length) hok (tagOf_seq b) h65 (by simp; omega)
    have hyes' : page_Frame ((tagOf b).1, (tagOf b).2.1, (tagOf b).2.2.1, (tagOf b).2.2.2.1, (tagOf b).2.2.2.2.1, ()) (a.take (longOf b)) (a.length : Int) = some (dataOf (a.take (longOf b)) a.length, spareOf (tagOf b) (a.take (longOf b)) a.length, 0, ()) := hyes
    simp only [hyes', bind_some, decide_true, Bool.not_true, cond_f]
    by_cases x1 : dataOf (a.take (longOf b)) a.length = a
    rotate_left
    · have hw : whole a b = false := decide_eq_false (fun h => x1 h.2.2.2.2.1)
      simp only [decide_eq_false x1, Bool.not_false, cond_t, wz, bind_some, rz, hw]
      rfl
    by_cases x2 : spareOf (tagOf b) (a.take (longOf b)) a.length = b
    rotate_left
    · have hw : whole a b = false := decide_eq_false (fun h => x2 h.2.2.2.2.2)
      simp only [decide_eq_true x1, decide_eq_false x2, Bool.not_false, Bool.not_true, cond_f, cond_t, wz, bind_some, rz, hw]
      rfl
    have hw : whole a b = true := decide_eq_true ⟨h32, hl, hok, h65, x1, x2⟩
    simp only [decide_eq_true x1, decide_eq_true x2, Bool.not_true, cond_f, rr, bind_some, wf, rz, hw, if_true]
end Ev
