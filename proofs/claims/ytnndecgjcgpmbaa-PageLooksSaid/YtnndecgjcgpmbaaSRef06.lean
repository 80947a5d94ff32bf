/- tinderboxref06: pages as the document has them tell what page tells. -/
import Derived.Test.YtnndecgjcgpmbaaGRef06
import Derived.Test.YtnndecgjcgpmbaaSPage
import Derived.Test.YtnndecgjcgpmbaaSRef04
namespace Ev
open Go (IntKind)

theorem ref06_Check_eq (t : Tg) : ref06_Check t = some (tagOK t, ()) := by
  obtain ⟨k, q, i, o, w, u⟩ := t
  have r0 : ∀ a b c d e, rdI .i64 [Blk.cells [.int .i64 a, .int .u64 b, .int .i64 c, .int .i64 d, .int .i64 e] .exact] 0 0 = some a := fun _ _ _ _ _ => rfl
  have r2 : ∀ a b c d e, rdI .i64 [Blk.cells [.int .i64 a, .int .u64 b, .int .i64 c, .int .i64 d, .int .i64 e] .exact] 0 2 = some c := fun _ _ _ _ _ => rfl
  have r3 : ∀ a b c d e, rdI .i64 [Blk.cells [.int .i64 a, .int .u64 b, .int .i64 c, .int .i64 d, .int .i64 e] .exact] 0 3 = some d := fun _ _ _ _ _ => rfl
  have r4 : ∀ a b c d e, rdI .i64 [Blk.cells [.int .i64 a, .int .u64 b, .int .i64 c, .int .i64 d, .int .i64 e] .exact] 0 4 = some e := fun _ _ _ _ _ => rfl
  unfold ref06_Check ref06_Check.on tagOK
  simp only [List.nil_append, List.length_nil, r0, r2, r3, r4, bind_some]
  have e1 : (o ≤ 65535) = (o < 65536) := by rw [eq_iff_iff]; omega
  have e2 : (w ≤ 4294967295) = (w < 4294967296) := by rw [eq_iff_iff]; omega
  simp only [e1, e2]
  by_cases h1 : 1 ≤ k
  · by_cases h2 : k ≤ 3
    · by_cases h3 : 1 ≤ o
      · by_cases h4 : o < 65536
        · by_cases h5 : 0 ≤ i
          · by_cases h6 : i < o
            · by_cases h7 : 0 ≤ w
              · by_cases h8 : w < 4294967296 <;> simp [h1, h2, h3, h4, h5, h6, h7, h8]
              · simp [h1, h2, h3, h4, h5, h6, h7]
            · simp [h1, h2, h3, h4, h5, h6]
          · simp [h1, h2, h3, h4, h5]
        · simp [h1, h2, h3, h4]
      · simp [h1, h2, h3]
    · simp [h1, h2]
  · simp [h1]

theorem rep1 (n : Nat) : rep n [C.int .u8 0] = cellsOf (zerosB n) := by
  unfold rep zerosB cellsOf
  induction n with
  | zero => rfl
  | succ n ih => rw [List.replicate_succ, List.flatten_cons, ih, List.replicate_succ, List.map_cons]; rfl
theorem mkS_u8 {H : Heap} {n : Nat} (h : n ≤ 35184372088832) : mkS H 1 [.int .u8 0] (n : Int) (n : Int) = some (⟨some (H.length, 0), n, n⟩, H ++ [.cells (cellsOf (zerosB n)) .exact]) := by
  unfold mkS
  have : decide (0 ≤ (n : Int) ∧ (n : Int) ≤ (n : Int) ∧ (n : Int).toNat * 1 ≤ maxRow ∧ (n : Int).toNat ≤ maxRow) = true := decide_eq_true ⟨by omega, by omega, by unfold maxRow; omega, by unfold maxRow; omega⟩
  rw [this, cond_t, Int.toNat_natCast, rep1]
theorem zeros_eq {n : Nat} (h : n ≤ 35184372088832) : ref06_zeros (n : Int) = some (zerosB n, ()) := by
  unfold ref06_zeros ref06_zeros.on
  rw [mkS_u8 h, bind_some, strOf_of (app_last) (by simp [cellsOf, zerosB]) (s := zerosB n) (by simp [cellsOf, zerosB]), bind_some]

theorem ref06_Frame_eq {t : Tg} {s : Bytes} {size : Nat} (h1 : tagOK t = true) (hq : 0 ≤ t.2.1 ∧ t.2.1 < 18446744073709551616) (h3 : size < 65536) (h4 : s.length ≤ size) : ref06_Frame t s (size : Int) = some (dataOf s size, spareOf t s size, ()) := by
  obtain ⟨k, q, i, o, w, u⟩ := t
  have ht := of_decide_eq_true h1
  simp only at ht hq
  unfold ref06_Frame ref06_Frame.on
  simp only [List.nil_append, List.length_nil]
  have r0 : ∀ a b c d e, rdI .i64 [Blk.cells [.int .i64 a, .int .u64 b, .int .i64 c, .int .i64 d, .int .i64 e] .exact] 0 0 = some a := fun _ _ _ _ _ => rfl
  have r1 : ∀ a b c d e, rdI .u64 [Blk.cells [.int .i64 a, .int .u64 b, .int .i64 c, .int .i64 d, .int .i64 e] .exact] 0 1 = some b := fun _ _ _ _ _ => rfl
  have r2 : ∀ a b c d e, rdI .i64 [Blk.cells [.int .i64 a, .int .u64 b, .int .i64 c, .int .i64 d, .int .i64 e] .exact] 0 2 = some c := fun _ _ _ _ _ => rfl
  have r3 : ∀ a b c d e, rdI .i64 [Blk.cells [.int .i64 a, .int .u64 b, .int .i64 c, .int .i64 d, .int .i64 e] .exact] 0 3 = some d := fun _ _ _ _ _ => rfl
  have r4 : ∀ a b c d e, rdI .i64 [Blk.cells [.int .i64 a, .int .u64 b, .int .i64 c, .int .i64 d, .int .i64 e] .exact] 0 4 = some e := fun _ _ _ _ _ => rfl
  have ew : IntKind.wrap .i64 ((size : Int) - (s.length : Int)) = ((size - s.length : Nat) : Int) := by rw [wrap_i64 (by omega) (by omega)]; omega
  have l1 := dataOf_length h4
  have lr2 := rowOf_length (k, q, i, o, w, u) s.length
  have c1 : catS s (zerosB (size - s.length)) = some (dataOf s size) := by rw [cat_of (by simp [zerosB]; omega)]; rfl
  have f1 : ref04_Fixed (IntKind.wrap .u64 k) 1 = some (leB 1 k.toNat, ()) := by rw [wrap64_int (by omega) (by omega)]; exact ref04_Fixed_eq _ 1 (by omega) (by decide)
  have f2 : ref04_Fixed q 8 = some (leB 8 q.toNat, ()) := by rw [show q = ((q.toNat : Nat) : Int) by omega]; exact ref04_Fixed_eq _ 8 (by omega) (by decide)
  have f3 : ref04_Fixed (IntKind.wrap .u64 i) 2 = some (leB 2 i.toNat, ()) := by rw [wrap64_int (by omega) (by omega)]; exact ref04_Fixed_eq _ 2 (by omega) (by decide)
  have f4 : ref04_Fixed (IntKind.wrap .u64 o) 2 = some (leB 2 o.toNat, ()) := by rw [wrap64_int (by omega) (by omega)]; exact ref04_Fixed_eq _ 2 (by omega) (by decide)
  have f5 : ref04_Fixed (IntKind.wrap .u64 w) 4 = some (leB 4 w.toNat, ()) := by rw [wrap64_int (by omega) (by omega)]; exact ref04_Fixed_eq _ 4 (by omega) (by decide)
  have f6 : ref04_Fixed (IntKind.wrap .u64 (s.length : Int)) 2 = some (leB 2 s.length, ()) := by rw [wrap64_nat (by omega)]; exact ref04_Fixed_eq _ 2 (by omega) (by decide)
  have z9 : ref06_zeros 9 = some (zerosB 9, ()) := zeros_eq (n := 9) (by decide)
  simp only [ew, zeros_eq (show size - s.length ≤ 35184372088832 by omega), bind_some, c1, r0, r1, r2, r3, r4, f1, f2, f3, f4, f5, f6, z9]
  rw [cat_of (by simp [leB_length]), bind_some, cat_of (by simp [leB_length]), bind_some, cat_of (by simp [leB_length]), bind_some, cat_of (by simp [leB_length]), bind_some, cat_of (by simp [leB_length]), bind_some, cat_of (by simp [leB_length, zerosB]), bind_some]
  have er : (leB 1 k.toNat ++ leB 8 q.toNat ++ leB 2 i.toNat ++ leB 2 o.toNat ++ leB 4 w.toNat ++ leB 2 s.length ++ zerosB 9) = rowOf (k, q, i, o, w, u) s.length := rfl
  rw [er, cat_of (by rw [l1, lr2]; omega), bind_some, ref01_Sum_eq _ (by rw [List.length_append, l1, lr2]; omega), bind_some]
  have hc1 : crcMore 0 (dataOf s size ++ rowOf (k, q, i, o, w, u) s.length) < 4294967296 := crcMore_lt (by decide)
  rw [wrap64_nat (by omega)]
  rw [show ref04_Fixed ((crcMore 0 (dataOf s size ++ rowOf (k, q, i, o, w, u) s.length) : Nat) : Int) 4 = some (leB 4 (crcMore 0 (dataOf s size ++ rowOf (k, q, i, o, w, u) s.length)), ()) from ref04_Fixed_eq _ 4 (by omega) (by decide), bind_some, cat_of (by rw [lr2, leB_length]; decide), bind_some]
  rfl

theorem ref06_all (s : Bytes) (hs : s.length < 9223372036854775807) (H : Heap) : loopW (ref06_Look.s1 s) (true, 0, ()) H = some ((cleanB s, ()), H) := by
  refine loop_for' s.length (fun i => (cleanB (s.take i), (i : Int), ())) (fun _ => H) rfl rfl ?_ ?_
  · intro i hi
    unfold ref06_Look.s1
    have hd : decide ((i : Int) < (s.length : Int)) = true := decide_eq_true (by omega)
    have htk : s.take (i + 1) = s.take i ++ [s[i]] := by rw [List.take_add_one, List.getElem?_eq_getElem hi]; rfl
    have he : cleanB (s.take (i + 1)) = (cleanB (s.take i) && (s[i] == 255)) := by rw [htk]; unfold cleanB; rw [List.all_append]; simp
    have h255 : decide (((s[i].toNat : Nat) : Int) = 255) = (s[i] == 255) := by
      by_cases h : s[i] = 255
      · rw [h]; rfl
      · have : (s[i] == 255) = false := by simpa using h
        rw [this]
        apply decide_eq_false
        intro hh
        apply h
        apply UInt8.toNat_inj.1
        have : (255 : UInt8).toNat = 255 := rfl
        omega
    simp only [hd, cond_t, he]
    cases cleanB (s.take i) with
    | true => simp only [cond_t, idx_of hi, bind_some, h255, wrap_succ (show i < 9223372036854775807 by omega), Bool.true_and]
    | false => simp only [cond_f, wrap_succ (show i < 9223372036854775807 by omega), Bool.false_and]
  · unfold ref06_Look.s1
    have hd : decide ((s.length : Int) < (s.length : Int)) = false := decide_eq_false (by omega)
    simp only [hd, cond_f, List.take_length]

set_option maxRecDepth 4000 in
theorem ref06_Look_eq (a b : Bytes) (ha : a.length < 4611686018427387904) (hb : b.length < 4611686018427387904) (hab : a.length + b.length ≤ 4611686018427387904) : ref06_Look a b = some (lookP a b) := by
  unfold ref06_Look ref06_Look.on lookP
  have hcl : cleanB (a ++ b) = decide (cleanB a = true ∧ cleanB b = true) := by
    unfold cleanB; rw [List.all_append]
    cases (a.all fun b => b == 255) <;> cases (b.all fun b => b == 255) <;> rfl
  simp only [List.nil_append, List.length_nil, cat_of hab, bind_some, ref06_all (a ++ b) (by rw [List.length_append]; omega), hcl]
  by_cases hc : cleanB a = true ∧ cleanB b = true
  · simp only [if_pos hc, decide_eq_true hc, cond_t]; rfl
  rw [if_neg hc, decide_eq_false hc, cond_f]
  by_cases h32 : b.length = 32
  rotate_left
  · have d : decide ((b.length : Int) = 32) = false := decide_eq_false (by omega)
    have hw : whole a b = false := decide_eq_false (fun h => h32 h.1)
    simp only [d, Bool.not_false, cond_t, hw]
    rfl
  have d : decide ((b.length : Int) = 32) = true := decide_eq_true (by omega)
  have t1 := fld_lt b 0 1; have t2 := fld_lt b 1 8; have t3 := fld_lt b 9 2; have t4 := fld_lt b 11 2; have t5 := fld_lt b 13 4; have t6 := fld_lt b 17 2
  have g1 := at_Fixed_eq (s := b) (n := 1) (by omega) (by decide)
  have g2 := at_Fixed_eq (s := b.drop 1) (n := 8) (by simp; omega) (by decide)
  have g3 := at_Fixed_eq (s := b.drop 9) (n := 2) (by simp; omega) (by decide)
  have g4 := at_Fixed_eq (s := b.drop 11) (n := 2) (by simp; omega) (by decide)
  have g5 := at_Fixed_eq (s := b.drop 13) (n := 4) (by simp; omega) (by decide)
  have g6 := at_Fixed_eq (s := b.drop 17) (n := 2) (by simp; omega) (by decide)
  simp only [List.drop_drop, Nat.reduceAdd] at g1 g2 g3 g4 g5 g6
  have k1 : ref04_At_Fixed (b, 0, ()) 1 = some ((b.drop 1, 0, ()), ((fld b 0 1 : Nat) : Int), ()) := g1
  have k2 : ref04_At_Fixed (b.drop 1, 0, ()) 8 = some ((b.drop 9, 0, ()), ((fld b 1 8 : Nat) : Int), ()) := g2
  have k3 : ref04_At_Fixed (b.drop 9, 0, ()) 2 = some ((b.drop 11, 0, ()), ((fld b 9 2 : Nat) : Int), ()) := g3
  have k4 : ref04_At_Fixed (b.drop 11, 0, ()) 2 = some ((b.drop 13, 0, ()), ((fld b 11 2 : Nat) : Int), ()) := g4
  have k5 : ref04_At_Fixed (b.drop 13, 0, ()) 4 = some ((b.drop 17, 0, ()), ((fld b 13 4 : Nat) : Int), ()) := g5
  have k6 : ref04_At_Fixed (b.drop 17, 0, ()) 2 = some ((b.drop 19, 0, ()), ((longOf b : Nat) : Int), ()) := g6
  have w1 : IntKind.wrap .i64 ((fld b 0 1 : Nat) : Int) = ((fld b 0 1 : Nat) : Int) := wrap_i64 (by omega) (by omega)
  have w3 : IntKind.wrap .i64 ((fld b 9 2 : Nat) : Int) = ((fld b 9 2 : Nat) : Int) := wrap_i64 (by omega) (by omega)
  have w4 : IntKind.wrap .i64 ((fld b 11 2 : Nat) : Int) = ((fld b 11 2 : Nat) : Int) := wrap_i64 (by omega) (by omega)
  have w5 : IntKind.wrap .i64 ((fld b 13 4 : Nat) : Int) = ((fld b 13 4 : Nat) : Int) := wrap_i64 (by omega) (by omega)
  have w6 : IntKind.wrap .i64 ((longOf b : Nat) : Int) = ((longOf b : Nat) : Int) := wrap_i64 (by unfold longOf; omega) (by unfold longOf; omega)
  let T : Blk := tagB tag0
  have wa2 : ∀ (s u : Bytes), wr [T, rdr s 0] 1 0 [.str u, .int .i64 0] = some [T, rdr u 0] := fun _ _ => rfl
  have wa3 : ∀ (s u : Bytes) (B : Blk), wr [T, rdr s 0, B] 1 0 [.str u, .int .i64 0] = some [T, rdr u 0, B] := fun _ _ _ => rfl
  have ra3 : ∀ (s : Bytes) (B : Blk), @Eq (Option (Bytes × Int × Unit)) (rd [T, rdr s 0, B] (.agg [.str, .int .i64]) 1 0) (some (s, 0, ())) := fun _ _ => rfl
  have wt0 : ∀ (B : Blk), wr [T, B, Blk.cells [.int .i64 0, .int .u64 0, .int .i64 0, .int .i64 0, .int .i64 0] .exact] 2 0 [.int .i64 0, .int .u64 0, .int .i64 0, .int .i64 0, .int .i64 0] = some [T, B, tagB tag0] := fun _ => rfl
  have ws : ∀ (B : Blk) (t : Tg) (x : Int), wr [T, B, tagB t] 2 1 [.int .u64 x] = some [T, B, tagB (t.1, x, t.2.2.1, t.2.2.2.1, t.2.2.2.2.1, ())] := fun _ _ _ => rfl
  have wl : ∀ (B D : Blk) (u : Bytes), wr [T, B, D, Blk.cells [.str [], .int .i64 0] .exact] 3 0 [.str u, .int .i64 0] = some [T, B, D, rdr u 0] := fun _ _ _ => rfl
  have wk : ∀ (B D : Blk) (t : Tg) (x : Int), wr [T, B, tagB t, D] 2 0 [.int .i64 x] = some [T, B, tagB (x, t.2.1, t.2.2.1, t.2.2.2.1, t.2.2.2.2.1, ()), D] := fun _ _ _ _ => rfl
  have wi : ∀ (B D : Blk) (t : Tg) (x : Int), wr [T, B, tagB t, D] 2 2 [.int .i64 x] = some [T, B, tagB (t.1, t.2.1, x, t.2.2.2.1, t.2.2.2.2.1, ()), D] := fun _ _ _ _ => rfl
  have wo : ∀ (B D : Blk) (t : Tg) (x : Int), wr [T, B, tagB t, D] 2 3 [.int .i64 x] = some [T, B, tagB (t.1, t.2.1, t.2.2.1, x, t.2.2.2.2.1, ()), D] := fun _ _ _ _ => rfl
  have wn : ∀ (B D : Blk) (t : Tg) (x : Int), wr [T, B, tagB t, D] 2 4 [.int .i64 x] = some [T, B, tagB (t.1, t.2.1, t.2.2.1, t.2.2.2.1, x, ()), D] := fun _ _ _ _ => rfl
  have et : tagB (((fld b 0 1 : Nat) : Int), ((fld b 1 8 : Nat) : Int), ((fld b 9 2 : Nat) : Int), ((fld b 11 2 : Nat) : Int), ((fld b 13 4 : Nat) : Int), ()) = tagB (tagOf b) := rfl
  have rr : ∀ (A B D : Blk) (t : Tg), @Eq (Option Tg) (rd [A, B, tagB t, D] (.agg [.int .i64, .int .u64, .int .i64, .int .i64, .int .i64]) 2 0) (some (t.1, t.2.1, t.2.2.1, t.2.2.2.1, t.2.2.2.2.1, ())) := fun _ _ _ _ => rfl
  have wz : ∀ (B D E : Blk), wr [T, B, D, E] 0 0 [.int .i64 0, .int .u64 0, .int .i64 0, .int .i64 0, .int .i64 0] = some [T, B, D, E] := fun _ _ _ => rfl
  have rz : ∀ (B D E : Blk) (t : Tg), @Eq (Option Tg) (rd [tagB t, B, D, E] (.agg [.int .i64, .int .u64, .int .i64, .int .i64, .int .i64]) 0 0) (some (t.1, t.2.1, t.2.2.1, t.2.2.2.1, t.2.2.2.2.1, ())) := fun _ _ _ _ => rfl
  have wf : ∀ (B D E : Blk) (t : Tg), wr [T, B, D, E] 0 0 [.int .i64 t.1, .int .u64 t.2.1, .int .i64 t.2.2.1, .int .i64 t.2.2.2.1, .int .i64 t.2.2.2.2.1] = some [tagB t, B, D, E] := fun _ _ _ _ => rfl
  have eT : Blk.cells [.int .i64 0, .int .u64 0, .int .i64 0, .int .i64 0, .int .i64 0] .exact = T := rfl
  have eR : Blk.cells [.str [], .int .i64 0] .exact = rdr [] 0 := rfl
  have wt0' : ∀ (B : Blk), wr [T, B, T] 2 0 [.int .i64 0, .int .u64 0, .int .i64 0, .int .i64 0, .int .i64 0] = some [T, B, tagB tag0] := fun _ => rfl
  have wl' : ∀ (B D : Blk) (u : Bytes), wr [T, B, D, rdr [] 0] 3 0 [.str u, .int .i64 0] = some [T, B, D, rdr u 0] := fun _ _ _ => rfl
  simp only [d, Bool.not_true, cond_f, eT, eR, bind_some, List.length_cons, List.length_nil, List.cons_append, List.nil_append, Nat.zero_add, Nat.reduceAdd, wa2, wa3, ra3, wt0', k1, k2, k3, k4, k5, k6, ws, wl', wk, wi, wo, wn, w1, w3, w4, w5, w6, tag0, et]
  by_cases hl : longOf b ≤ a.length
  rotate_left
  · have d2 : decide ((a.length : Int) < ((longOf b : Nat) : Int)) = true := decide_eq_true (by omega)
    have hw : whole a b = false := decide_eq_false (fun h => hl h.2.1)
    simp only [d2, cond_t, wz, bind_some, rz, hw]
    rfl
  have d2 : decide ((a.length : Int) < ((longOf b : Nat) : Int)) = false := decide_eq_false (by omega)
  simp only [d2, cond_f, rr, bind_some, ref06_Check_eq]
  have he : tagOK ((tagOf b).1, (tagOf b).2.1, (tagOf b).2.2.1, (tagOf b).2.2.2.1, (tagOf b).2.2.2.2.1, ()) = tagOK (tagOf b) := rfl
  rw [he]
  cases hok : tagOK (tagOf b) with
  | false =>
    have hw : whole a b = false := decide_eq_false (fun h => by rw [hok] at h; exact absurd h.2.2.1 (by decide))
    simp only [Bool.not_false, cond_t, wz, bind_some, rz, hw]
    rfl
  | true =>
    simp only [Bool.not_true, cond_f]
    have hsub : subS a 0 ((longOf b : Nat) : Int) = some (a.take (longOf b)) := by
      rw [show (0 : Int) = ((0 : Nat) : Int) from rfl, sub_of (Nat.zero_le _) hl]; rfl
    by_cases h65 : a.length < 65536
    rotate_left
    · have d3 : decide (65535 < (a.length : Int)) = true := decide_eq_true (by omega)
      have hw : whole a b = false := decide_eq_false (fun h => h65 h.2.2.2.1)
      simp only [d3, cond_t, wz, bind_some, rz, hw]
      rfl
    have d3 : decide (65535 < (a.length : Int)) = false := decide_eq_false (by omega)
    have hyes := ref06_Frame_eq (t := tagOf b) (s := a.take (longOf b)) (size := a.length) hok (tagOf_seq b) h65 (by simp; omega)
    have hyes' : ref06_Frame ((tagOf b).1, (tagOf b).2.1, (tagOf b).2.2.1, (tagOf b).2.2.2.1, (tagOf b).2.2.2.2.1, ()) (a.take (longOf b)) (a.length : Int) = some (dataOf (a.take (longOf b)) a.length, spareOf (tagOf b) (a.take (longOf b)) a.length, ()) := hyes
    simp only [d3, cond_f, hsub, hyes', bind_some]
    by_cases x1 : dataOf (a.take (longOf b)) a.length = a
    rotate_left
    · have hw : whole a b = false := decide_eq_false (fun h => x1 h.2.2.2.2.1)
      simp only [decide_eq_false x1, Bool.not_false, cond_t, wz, bind_some, rz, hw]
      rfl
    by_cases x2 : spareOf (tagOf b) (a.take (longOf b)) a.length = b
    rotate_left
    · have hw : whole a b = false := decide_eq_false (fun h => x2 h.2.2.2.2.2)
      simp only [decide_eq_true x1, decide_eq_false x2, Bool.not_false, Bool.not_true, cond_f, cond_t, wz, bind_some, rz, hw]
      rfl
    have hw : whole a b = true := decide_eq_true ⟨h32, hl, hok, h65, x1, x2⟩
    simp only [decide_eq_true x1, decide_eq_true x2, Bool.not_true, cond_f, rr, bind_some, wf, rz, hw, if_true]
end Ev
