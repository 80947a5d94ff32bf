/- SRec SPack SNandM SCalm SGeo SLife SFine -/
import Derived.Test.YtloijdlakkmjgaaGRec
import Derived.Test.YtloijdlakkmjgaaGRef07
import Derived.Test.YtloijdlakkmjgaaKC3
import Derived.Test.YtloijdlakkmjgaaKC2
import Derived.Test.YtloijdlakkmjgaaGGroup
import Derived.Test.YtloijdlakkmjgaaGLaw05
import Derived.Test.YtloijdlakkmjgaaGLife
/- Records: their bytes, and which may be; that there is an answer, and how long it is. -/
namespace Ev
open Go (IntKind)

abbrev RecT := Int × Int × Int × Int × Int × Int × Unit
def recB (x : RecT) : Blk := .cells [.int .i64 x.1, .int .i64 x.2.1, .int .i64 x.2.2.1, .int .i64 x.2.2.2.1, .int .i64 x.2.2.2.2.1, .int .i64 x.2.2.2.2.2.1] .exact
theorem grown_str {H : Heap} {s : Sl} {t : Bytes} (h : Grown H 1 s (cellsOf t)) : strOf H s = some t := by
  have hl : s.len = t.length := by have := h.len; rw [cells_len] at this; omega
  obtain ⟨p, len, cap⟩ := s
  cases p with
  | none =>
    have h0 : len = 0 := h.nil rfl
    have ht : t = [] := List.eq_nil_of_length_eq_zero (by have : len = t.length := hl; omega)
    subst ht
    rfl
  | some a =>
    obtain ⟨c, o⟩ := a
    obtain ⟨ho, hb⟩ := h.blk _ rfl
    have ho' : o = 0 := ho
    subst ho'
    have hl' : len = t.length := hl
    rcases hb with hb | hb
    · exact strOf_of hb (by rw [cells_len]; omega) (by rw [List.drop_zero, hl', List.take_of_length_le (by rw [cells_len]; omega)])
    · exact strOf_of hb (by rw [cells_len]; omega) (by rw [List.drop_zero, hl', List.take_of_length_le (by rw [cells_len]; omega)])
/-- The first byte of a slice that grew is written. -/
theorem grown_set {H : Heap} {c n : Nat} {t : Bytes} (h : Grown H 1 ⟨some (c, 0), n, n⟩ (cellsOf t)) (h0 : 0 < t.length) (u : UInt8) : ∃ H', wr H c 0 [.int .u8 ((u.toNat : Nat) : Int)] = some H' ∧ Grown H' 1 ⟨some (c, 0), n, n⟩ (cellsOf (t.set 0 u)) := by
  obtain ⟨_, hb⟩ := h.blk (c, 0) rfl
  have hset : (cellsOf t).set 0 (.int .u8 ((u.toNat : Nat) : Int)) = cellsOf (t.set 0 u) := by simp [cellsOf, List.map_set]
  have hlen := h.len
  rcases hb with hb | hb
  · have hb' : H[c]? = some (.cells (cellsOf t) .loose) := hb
    refine ⟨_, by rw [wr1_of hb' (by decide) (by rw [cells_len]; exact h0), hset], h.cap, ?_, h.nil, fun a ha => by cases ha; exact ⟨rfl, .inl (set_get (get_lt hb'))⟩⟩
    rw [cells_len, List.length_set]; rw [cells_len] at hlen; exact hlen
  · have hb' : H[c]? = some (.cells (cellsOf t) .exact) := hb
    refine ⟨_, by rw [wr1_of hb' (by decide) (by rw [cells_len]; exact h0), hset], h.cap, ?_, h.nil, fun a ha => by cases ha; exact ⟨rfl, .inr (set_get (get_lt hb'))⟩⟩
    rw [cells_len, List.length_set]; rw [cells_len] at hlen; exact hlen
theorem num_ok (n : Nat) (hn : n < 18446744073709551616) : ∃ t, code_Num (n : Int) = some (t, ()) ∧ t.length ≤ 9 := by
  unfold code_Num code_Num.on
  obtain ⟨y, G, l1, sl, t, rfl, gt, ht⟩ := loop_rise (step := code_Num.s1) 8 (fun i z G => ∃ q c m t, z = (((q : Nat) : Int), (⟨some (c, 0), m, m⟩ : Sl), ()) ∧ q < 256 ^ (8 - i) ∧ Grown G 1 ⟨some (c, 0), m, m⟩ (cellsOf t) ∧ t.length = i + 1)
    (fun y G => ∃ sl t, y = (sl, ()) ∧ Grown G 1 sl (cellsOf t) ∧ t.length ≤ 9)
    (by
      rintro i _ G hi ⟨q, c, m, t, rfl, hq, gt, ht⟩
      have hml : m = t.length := by have := gt.len; rw [cells_len] at this; show m = _; have h2 : t.length = m * 1 := this; omega
      by_cases h0 : 0 < q
      · have gp := gt.push (.cells [.int .u8 (IntKind.wrap .u8 (q : Int))] .exact)
        obtain ⟨a1, a2⟩ := gp.app (bytes := 1) (by decide) (n := 1) (new := [.int .u8 (IntKind.wrap .u8 (q : Int))]) (by decide) rfl (by show (m + 1) * 1 ≤ _; omega) (by show m + 1 ≤ _; omega)
        have hu : IntKind.wrap .u8 (q : Int) = (((UInt8.ofNat (q % 256)).toNat : Nat) : Int) := by
          rw [wrap_u8]
          have : (UInt8.ofNat (q % 256)).toNat = q % 256 := by simp
          rw [this]; omega
        have hc : cellsOf t ++ [C.int .u8 (IntKind.wrap .u8 (q : Int))] = cellsOf (t ++ [UInt8.ofNat (q % 256)]) := by rw [hu]; exact cells_snoc _ _
        rw [hc] at a1 a2
        have hr : slRow (G ++ [.cells [.int .u8 (IntKind.wrap .u8 (q : Int))] .exact]) 1 ⟨some (G.length, 0), 1, 1⟩ = some [.int .u8 (IntKind.wrap .u8 (q : Int))] := row_last rfl
        have hlt : 0 < (t ++ [UInt8.ofNat (q % 256)]).length := by rw [List.length_append]; show 0 < t.length + 1; omega
        generalize hG : grownH (G ++ [.cells [.int .u8 (IntKind.wrap .u8 (q : Int))] .exact]) ⟨some (c, 0), m, m⟩ (cellsOf (t ++ [UInt8.ofNat (q % 256)])) = G2 at a1 a2
        generalize hcc : (G ++ [Blk.cells [.int .u8 (IntKind.wrap .u8 (q : Int))] .exact]).length = c2 at a1 a2
        generalize htt : t ++ [UInt8.ofNat (q % 256)] = t2 at a2 hlt
        have hat : Sl.at 1 ⟨some (c2, 0), m + 1, m + 1⟩ 0 = some (c2, 0) := by
          rw [at_of (by decide) (by show (0 : Int) < ((m + 1 : Nat) : Int); omega)]; rfl
        obtain ⟨_, hb⟩ := a2.blk (c2, 0) rfl
        have hrd : rdI .u8 G2 c2 0 = some ((t2[0].toNat : Nat) : Int) := by
          rcases hb with hb | hb
          · exact rdI_of hb (by simp [cellsOf, hlt])
          · exact rdI_of hb (by simp [cellsOf, hlt])
        have hw : IntKind.wrap .u8 (((t2[0].toNat : Nat) : Int) + 1) = (((UInt8.ofNat ((t2[0].toNat + 1) % 256)).toNat : Nat) : Int) := by
          rw [wrap_u8]
          have : (UInt8.ofNat ((t2[0].toNat + 1) % 256)).toNat = (t2[0].toNat + 1) % 256 := by simp
          rw [this]; omega
        obtain ⟨G3, w1, w2⟩ := grown_set a2 hlt (UInt8.ofNat ((t2[0].toNat + 1) % 256))
        have hf : Int.fdiv (q : Int) (2 ^ (min (Int.toNat 8) (IntKind.bits .u64))) = ((q / 256 : Nat) : Int) := by
          rw [show (2 : Int) ^ (min (Int.toNat 8) (IntKind.bits .u64)) = 256 from rfl, Int.fdiv_eq_ediv_of_nonneg _ (by decide)]
          omega
        refine .inl ⟨_, G3, ?_, q / 256, c2, m + 1, _, rfl, ?_, w2, ?_⟩
        · unfold code_Num.s1
          simp only [decide_eq_true (show (0 : Int) < (q : Int) by omega), cond_t, hr, bind_some, a1, hat, hrd, hw, w1, hf]
        · have hp : 256 ^ (8 - i) = 256 ^ (8 - (i + 1)) * 256 := by rw [← Nat.pow_succ]; congr 1; omega
          rw [hp] at hq
          exact (Nat.div_lt_iff_lt_mul (by decide)).2 hq
        · rw [List.length_set, ← htt, List.length_append]; show t.length + 1 = _; omega
      · refine .inr ⟨_, G, ?_, _, t, rfl, gt, by omega⟩
        unfold code_Num.s1
        simp only [decide_eq_false (show ¬ (0 : Int) < (q : Int) by omega), cond_f])
    (by
      rintro _ G ⟨q, c, m, t, rfl, hq, gt, ht⟩
      have h0 : q = 0 := by
        have : q < 1 := hq
        omega
      refine ⟨_, G, ?_, _, t, rfl, gt, by omega⟩
      unfold code_Num.s1
      simp only [decide_eq_false (show ¬ (0 : Int) < (q : Int) by omega), cond_f])
    (y := ((n : Int), ⟨some (0, 0), 1, 1⟩, ())) (H := [.cells [.int .u8 0] .exact]) ⟨n, 0, 1, [0], rfl, by simpa using hn, ⟨rfl, rfl, fun hh => (by cases hh), fun a ha => (by cases ha; exact ⟨rfl, .inr rfl⟩)⟩, rfl⟩
  have l1' : loopW code_Num.s1 ((n : Int), ⟨some (([] : Heap).length, 0), 1, 1⟩, ()) ([] ++ [Blk.cells [.int .u8 0] .exact]) = some ((sl, ()), G) := l1
  exact ⟨t, by simp only [l1', bind_some, grown_str gt], ht⟩
theorem wrap64_ex (x : Int) : ∃ n : Nat, IntKind.wrap .u64 x = (n : Int) ∧ n < 18446744073709551616 := by
  refine ⟨(IntKind.wrap .u64 x).toNat, ?_, ?_⟩ <;> rw [wrap_u64] <;> omega
def ptrB (l : List Nat) : Blk := .cells (l.map fun o => C.ptr (some (0, o))) .exact
theorem rec_field (x : RecT) (A : Heap) {o : Nat} (ho : o < 6) : ∃ v, rdI .i64 (recB x :: A) 0 o = some v := by
  match o, ho with
  | 0, _ => exact ⟨_, rfl⟩
  | 1, _ => exact ⟨_, rfl⟩
  | 2, _ => exact ⟨_, rfl⟩
  | 3, _ => exact ⟨_, rfl⟩
  | 4, _ => exact ⟨_, rfl⟩
  | 5, _ => exact ⟨_, rfl⟩
theorem put_loop (x : RecT) (l : List Nat) (hl : ∀ o ∈ l, o < 6) (hn : l.length ≤ 3) (X : Blk) (q : Sl) (G0 : Heap) (s : Bytes) (hs : s.length ≤ 100) :
    ∃ t, loopW (rec_Put.s1 ((⟨some (1, 0), l.length, l.length⟩, q, ()), G0)) (s, 0, ()) [recB x, ptrB l, X] = some ((t, ()), [recB x, ptrB l, X]) ∧ t.length ≤ s.length + 27 := by
  obtain ⟨y, G, l1, t, rfl, rfl, ht⟩ := loop_rise (step := rec_Put.s1 ((⟨some (1, 0), l.length, l.length⟩, q, ()), G0)) l.length (fun i z G => ∃ t, z = (t, (i : Int), ()) ∧ G = [recB x, ptrB l, X] ∧ t.length ≤ s.length + 9 * i) (fun y G => ∃ t, y = (t, ()) ∧ G = [recB x, ptrB l, X] ∧ t.length ≤ s.length + 27)
    (by
      rintro i _ _ hi ⟨t, rfl, rfl, ht⟩
      have hat : Sl.at 1 ⟨some (1, 0), l.length, l.length⟩ (i : Int) = some (1, i) := by rw [at_of (by omega) (by show (i : Int) < (l.length : Int); omega), Int.toNat_natCast, Nat.mul_one, Nat.zero_add]
      have hp : rdP [recB x, ptrB l, X] 1 i = some (some (0, l[i])) := rdP_of (H := [recB x, ptrB l, X]) (b := 1) rfl (by simp [hi])
      obtain ⟨v, hv⟩ := rec_field x [ptrB l, X] (hl l[i] (List.getElem_mem hi))
      obtain ⟨n, hn1, hn2⟩ := wrap64_ex v
      obtain ⟨w, hw1, hw2⟩ := num_ok n hn2
      have hc := cat_of (a := t) (b := w) (by omega)
      refine .inl ⟨_, _, ?_, t ++ w, rfl, rfl, by rw [List.length_append]; omega⟩
      unfold rec_Put.s1
      simp only [decide_eq_true (show (i : Int) < (l.length : Int) by omega), cond_t, hat, bind_some, hp, hv, hn1, hw1, hc, wrap_succ (show i < 9223372036854775807 by omega)])
    (by
      rintro _ _ ⟨t, rfl, rfl, ht⟩
      refine ⟨_, _, ?_, t, rfl, rfl, by omega⟩
      unfold rec_Put.s1
      simp only [decide_eq_false (show ¬ (l.length : Int) < (l.length : Int) by omega), cond_f])
    (y := (s, ((0 : Nat) : Int), ())) (H := [recB x, ptrB l, X]) ⟨s, rfl, rfl, by omega⟩
  exact ⟨t, l1, ht⟩
theorem put_of {x : RecT} {l : List Nat} {X : Blk} {q : Sl} (hl : ∀ o ∈ l, o < 6) (hn : l.length ≤ 3) (hf : rec_fields (some (0, 0)) [recB x] = some ((⟨some (1, 0), l.length, l.length⟩, q, ()), [recB x, ptrB l, X])) : ∃ t, rec_Put x = some (t, ()) ∧ t.length ≤ 40 := by
  unfold rec_Put rec_Put.on
  obtain ⟨n, hn1, hn2⟩ := wrap64_ex x.1
  have q1 : ([] : Heap) ++ [Blk.cells [.int .i64 x.1, .int .i64 x.2.1, .int .i64 x.2.2.1, .int .i64 x.2.2.2.1, .int .i64 x.2.2.2.2.1, .int .i64 x.2.2.2.2.2.1] .exact] = [recB x] := rfl
  have r1 : rdI .i64 [recB x] ([] : Heap).length 0 = some x.1 := rfl
  have hfx : code_Fixed (n : Int) 1 = some (leB 1 n, ()) := code_Fixed_eq n 1 hn2 (by decide)
  obtain ⟨t, ht1, ht2⟩ := put_loop x l hl hn X q [recB x, ptrB l, X] (leB 1 n) (by rw [leB_length]; decide)
  have hf' : rec_fields (some (([] : Heap).length, 0)) [recB x] = some ((⟨some (1, 0), l.length, l.length⟩, q, ()), [recB x, ptrB l, X]) := hf
  rw [leB_length] at ht2
  exact ⟨t, by simp only [q1, r1, bind_some, hn1, hfx, hf', ht1], by omega⟩
theorem rec_put_ok (x : RecT) : ∃ t, rec_Put x = some (t, ()) ∧ t.length ≤ 40 := by
  obtain ⟨k, a, b, c, d, e, u⟩ := x
  by_cases h1 : k = 1
  · subst h1; exact put_of (l := [1, 2, 3]) (by decide) (by decide) rfl
  by_cases h2 : k = 2
  · subst h2; exact put_of (l := [1, 2]) (by decide) (by decide) rfl
  by_cases h3 : k = 3
  · subst h3; exact put_of (l := [3, 4]) (by decide) (by decide) rfl
  by_cases h4 : k = 4
  · subst h4; exact put_of (l := [1, 5]) (by decide) (by decide) rfl
  by_cases h5 : k = 5
  · subst h5; exact put_of (l := [1]) (by decide) (by decide) rfl
  by_cases h7 : k = 7
  · subst h7; exact put_of (l := [1]) (by decide) (by decide) rfl
  by_cases h6 : k = 6
  · subst h6; exact put_of (l := [1, 4]) (by decide) (by decide) rfl
  by_cases h8 : k = 8
  · subst h8; exact put_of (l := [3]) (by decide) (by decide) rfl
  by_cases h9 : k = 9
  · subst h9; exact put_of (l := [3, 5]) (by decide) (by decide) rfl
  unfold rec_Put rec_Put.on
  obtain ⟨n, hn1, hn2⟩ := wrap64_ex k
  have r1 : rdI .i64 [recB (k, a, b, c, d, e, u)] ([] : Heap).length 0 = some k := rfl
  have r1' : rdI .i64 [recB (k, a, b, c, d, e, u)] 0 0 = some k := rfl
  have q1 : ([] : Heap) ++ [Blk.cells [.int .i64 k, .int .i64 a, .int .i64 b, .int .i64 c, .int .i64 d, .int .i64 e] .exact] = [recB (k, a, b, c, d, e, u)] := rfl
  have hfx : code_Fixed (n : Int) 1 = some (leB 1 n, ()) := code_Fixed_eq n 1 hn2 (by decide)
  have hf : rec_fields (some (0, 0)) [recB (k, a, b, c, d, e, u)] = some ((⟨none, 0, 0⟩, ⟨none, 0, 0⟩, ()), [recB (k, a, b, c, d, e, u)]) := by
    unfold rec_fields
    simp only [bind_some, r1', decide_eq_false h1, decide_eq_false h2, decide_eq_false h3, decide_eq_false h4, decide_eq_false h5, decide_eq_false h6, decide_eq_false h7, decide_eq_false h8, decide_eq_false h9, cond_f]
  have hf' : rec_fields (some (([] : Heap).length, 0)) [recB (k, a, b, c, d, e, u)] = some ((⟨none, 0, 0⟩, ⟨none, 0, 0⟩, ()), [recB (k, a, b, c, d, e, u)]) := hf
  have hl : loopW (rec_Put.s1 ((⟨none, 0, 0⟩, ⟨none, 0, 0⟩, ()), [recB (k, a, b, c, d, e, u)])) (leB 1 n, 0, ()) [recB (k, a, b, c, d, e, u)] = some ((leB 1 n, ()), [recB (k, a, b, c, d, e, u)]) := loopW_eq (n := 1) (by
    rw [iter]
    unfold rec_Put.s1
    simp only [show decide ((0 : Int) < (((⟨none, 0, 0⟩ : Sl).len : Nat) : Int)) = false from rfl, cond_f]
    rfl)
  exact ⟨leB 1 n, by simp only [q1, r1, bind_some, hn1, hfx, hf', hl], by rw [leB_length]; decide⟩

def i64B (l : List Int) : Blk := .cells (l.map (C.int .i64)) .exact
theorem check_of {x y : RecT} {vs ls ms : List Int} (hl : ls.length = vs.length) (hm : ms.length = vs.length) (hv : vs.length ≤ 3) {Z : Blk}
    (hrow : ref07_row x [recB x] = some ((⟨some (2, 0), vs.length, vs.length⟩, ⟨some (3, 0), vs.length, vs.length⟩, ⟨some (4, 0), vs.length, vs.length⟩, true, ()), [recB x, recB x, i64B vs, i64B ls, i64B ms]))
    (hof : ref07_of x.1 ⟨some (2, 0), vs.length, vs.length⟩ [recB x, recB x, i64B vs, i64B ls, i64B ms] = some ((y, ()), [recB x, recB x, i64B vs, i64B ls, i64B ms, Z])) : ∃ b, ref07_Check x = some (b, ()) := by
  unfold ref07_Check ref07_Check.on
  have q1 : ([] : Heap) ++ [Blk.cells [.int .i64 x.1, .int .i64 x.2.1, .int .i64 x.2.2.1, .int .i64 x.2.2.2.1, .int .i64 x.2.2.2.2.1, .int .i64 x.2.2.2.2.2.1] .exact] = [recB x] := rfl
  have r1 : @Eq (Option RecT) (rd [recB x] (.agg [.int .i64, .int .i64, .int .i64, .int .i64, .int .i64, .int .i64]) ([] : Heap).length 0) (some x) := rfl
  have r2 : rdI .i64 [recB x, recB x, i64B vs, i64B ls, i64B ms] ([] : Heap).length 0 = some x.1 := rfl
  have r3 : @Eq (Option RecT) (rd [recB x, recB x, i64B vs, i64B ls, i64B ms] (.agg [.int .i64, .int .i64, .int .i64, .int .i64, .int .i64, .int .i64]) ([] : Heap).length 0) (some x) := rfl
  have r4 : @Eq (Option RecT) (rd [recB x, recB x, i64B vs, i64B ls, i64B ms, Z] (.agg [.int .i64, .int .i64, .int .i64, .int .i64, .int .i64, .int .i64]) ([] : Heap).length 0) (some x) := rfl
  have ex : (x.1, x.2.1, x.2.2.1, x.2.2.2.1, x.2.2.2.2.1, x.2.2.2.2.2.1, ()) = x := rfl
  obtain ⟨w, G, l1, lw⟩ := loop_rise (step := ref07_Check.s1 ((⟨some (2, 0), vs.length, vs.length⟩, ⟨some (3, 0), vs.length, vs.length⟩, ⟨some (4, 0), vs.length, vs.length⟩, true, ()), [recB x, recB x, i64B vs, i64B ls, i64B ms])) vs.length
    (fun i z G => z = ((i : Int), ()) ∧ G = [recB x, recB x, i64B vs, i64B ls, i64B ms, Z]) (fun _ _ => True)
    (by
      rintro i _ _ hi ⟨rfl, rfl⟩
      have hat : ∀ c, Sl.at 1 ⟨some (c, 0), vs.length, vs.length⟩ (i : Int) = some (c, i) := fun c => by rw [at_of (by omega) (by show (i : Int) < (vs.length : Int); omega), Int.toNat_natCast, Nat.mul_one, Nat.zero_add]
      have g1 : rdI .i64 [recB x, recB x, i64B vs, i64B ls, i64B ms, Z] 2 i = some vs[i] := rdI_of (H := [recB x, recB x, i64B vs, i64B ls, i64B ms, Z]) (b := 2) rfl (by simp [hi])
      have g2 : rdI .i64 [recB x, recB x, i64B vs, i64B ls, i64B ms, Z] 3 i = some (ls[i]'(by omega)) := rdI_of (H := [recB x, recB x, i64B vs, i64B ls, i64B ms, Z]) (b := 3) rfl (by simp [hl, hi])
      have g3 : rdI .i64 [recB x, recB x, i64B vs, i64B ls, i64B ms, Z] 4 i = some (ms[i]'(by omega)) := rdI_of (H := [recB x, recB x, i64B vs, i64B ls, i64B ms, Z]) (b := 4) rfl (by simp [hm, hi])
      have hst : ∀ X, ref07_Check.s1 ((⟨some (2, 0), vs.length, vs.length⟩, ⟨some (3, 0), vs.length, vs.length⟩, ⟨some (4, 0), vs.length, vs.length⟩, true, ()), [recB x, recB x, i64B vs, i64B ls, i64B ms]) ((i : Int), ()) [recB x, recB x, i64B vs, i64B ls, i64B ms, Z] = X ↔ (cond (decide (vs[i] < (ls[i]'(by omega)))) (some (Sum.inr (Sum.inr ((false, ()) : Bool × Unit)), [recB x, recB x, i64B vs, i64B ls, i64B ms, Z])) (cond (decide ((ms[i]'(by omega)) < vs[i])) (some (Sum.inr (Sum.inr ((false, ()) : Bool × Unit)), [recB x, recB x, i64B vs, i64B ls, i64B ms, Z])) (some (Sum.inl (((i + 1 : Nat) : Int), ()), [recB x, recB x, i64B vs, i64B ls, i64B ms, Z])))) = X := by
        intro X
        unfold ref07_Check.s1
        simp only [decide_eq_true (show (i : Int) < (vs.length : Int) by omega), cond_t, hat, bind_some, g1, g2, g3, wrap_succ (show i < 9223372036854775807 by omega)]
      by_cases c1 : vs[i] < (ls[i]'(by omega))
      · exact .inr ⟨_, _, (hst _).2 (by rw [decide_eq_true c1, cond_t]), trivial⟩
      · by_cases c2 : (ms[i]'(by omega)) < vs[i]
        · exact .inr ⟨_, _, (hst _).2 (by rw [decide_eq_false c1, cond_f, decide_eq_true c2, cond_t]), trivial⟩
        · exact .inl ⟨_, _, (hst _).2 (by rw [decide_eq_false c1, cond_f, decide_eq_false c2, cond_f]), rfl, rfl⟩)
    (by
      rintro _ _ ⟨rfl, rfl⟩
      refine ⟨.inl (), [recB x, recB x, i64B vs, i64B ls, i64B ms, Z], ?_, trivial⟩
      unfold ref07_Check.s1
      simp only [decide_eq_false (show ¬ (vs.length : Int) < (vs.length : Int) by omega), cond_f])
    (y := (((0 : Nat) : Int), ())) (H := [recB x, recB x, i64B vs, i64B ls, i64B ms, Z]) ⟨rfl, rfl⟩
  have l1' : loopW (ref07_Check.s1 ((⟨some (2, 0), vs.length, vs.length⟩, ⟨some (3, 0), vs.length, vs.length⟩, ⟨some (4, 0), vs.length, vs.length⟩, true, ()), [recB x, recB x, i64B vs, i64B ls, i64B ms])) (0, ()) [recB x, recB x, i64B vs, i64B ls, i64B ms, Z] = some (w, G) := l1
  simp only [q1, r1, bind_some, ex, hrow, Bool.not_true, cond_f, r2, r3, hof, r4, if_true, l1']
  cases hb : (decide (y.1 = x.1) && (decide (y.2.1 = x.2.1) && (decide (y.2.2.1 = x.2.2.1) && (decide (y.2.2.2.1 = x.2.2.2.1) && (decide (y.2.2.2.2.1 = x.2.2.2.2.1) && (decide (y.2.2.2.2.2.1 = x.2.2.2.2.2.1) && true)))))) with
  | false => exact ⟨false, rfl⟩
  | true =>
    cases w with
    | inl u => exact ⟨true, rfl⟩
    | inr z => exact ⟨z.1, rfl⟩
theorem rec_check_ok (x : RecT) : ∃ b, ref07_Check x = some (b, ()) := by
  obtain ⟨k, a, b, c, d, e, u⟩ := x
  by_cases h1 : k = 1
  · subst h1; exact check_of (vs := [a, b, c]) (ls := [1, 0, 0]) (ms := [15, 1023, 511]) rfl rfl (by simp) rfl rfl
  by_cases h2 : k = 2
  · subst h2; exact check_of (vs := [a, b]) (ls := [1, 0]) (ms := [15, 1023]) rfl rfl (by simp) rfl rfl
  by_cases h3 : k = 3
  · subst h3; exact check_of (vs := [c, d]) (ls := [0, 0]) (ms := [511, 511]) rfl rfl (by simp) rfl rfl
  by_cases h4 : k = 4
  · subst h4; exact check_of (vs := [a, e]) (ls := [1, 1]) (ms := [15, 1024]) rfl rfl (by simp) rfl rfl
  by_cases h5 : k = 5
  · subst h5; exact check_of (vs := [a]) (ls := [1]) (ms := [15]) rfl rfl (by simp) rfl rfl
  by_cases h7 : k = 7
  · subst h7; exact check_of (vs := [a]) (ls := [1]) (ms := [15]) rfl rfl (by simp) rfl rfl
  by_cases h6 : k = 6
  · subst h6; exact check_of (vs := [a, d]) (ls := [1, 1]) (ms := [15, 15]) rfl rfl (by simp) rfl rfl
  by_cases h8 : k = 8
  · subst h8; exact check_of (vs := [c]) (ls := [0]) (ms := [31]) rfl rfl (by simp) rfl rfl
  by_cases h9 : k = 9
  · subst h9; exact check_of (vs := [c, e]) (ls := [0, 0]) (ms := [31, 1073741824]) rfl rfl (by simp) rfl rfl
  refine ⟨false, ?_⟩
  have hr : ∃ R, ref07_row (k, a, b, c, d, e, u) [recB (k, a, b, c, d, e, u)] = some ((⟨none, 0, 0⟩, ⟨none, 0, 0⟩, ⟨none, 0, 0⟩, false, ()), R) := by
    have r1' : rdI .i64 ([recB (k, a, b, c, d, e, u)] ++ [recB (k, a, b, c, d, e, u)]) [recB (k, a, b, c, d, e, u)].length 0 = some k := rfl
    have q2 : [recB (k, a, b, c, d, e, u)] ++ [Blk.cells [.int .i64 k, .int .i64 a, .int .i64 b, .int .i64 c, .int .i64 d, .int .i64 e] .exact] = [recB (k, a, b, c, d, e, u)] ++ [recB (k, a, b, c, d, e, u)] := rfl
    refine ⟨[recB (k, a, b, c, d, e, u)] ++ [recB (k, a, b, c, d, e, u)], ?_⟩
    unfold ref07_row
    simp only [q2, bind_some, r1', decide_eq_false h1, decide_eq_false h2, decide_eq_false h3, decide_eq_false h4, decide_eq_false h5, decide_eq_false h6, decide_eq_false h7, decide_eq_false h8, decide_eq_false h9, cond_f]
  obtain ⟨R, hr⟩ := hr
  unfold ref07_Check ref07_Check.on
  have q1 : ([] : Heap) ++ [Blk.cells [.int .i64 k, .int .i64 a, .int .i64 b, .int .i64 c, .int .i64 d, .int .i64 e] .exact] = [recB (k, a, b, c, d, e, u)] := rfl
  have r1 : @Eq (Option RecT) (rd [recB (k, a, b, c, d, e, u)] (.agg [.int .i64, .int .i64, .int .i64, .int .i64, .int .i64, .int .i64]) ([] : Heap).length 0) (some (k, a, b, c, d, e, u)) := rfl
  have hr' : ref07_row (k, a, b, c, d, e, ()) [recB (k, a, b, c, d, e, u)] = some ((⟨none, 0, 0⟩, ⟨none, 0, 0⟩, ⟨none, 0, 0⟩, false, ()), R) := hr
  simp only [q1, r1, bind_some, hr', Bool.not_false, cond_t]
end Ev

/- Records are packed into texts. -/
namespace Ev
open Go (IntKind)

abbrev rts : List CT := [.int .i64, .int .i64, .int .i64, .int .i64, .int .i64, .int .i64]
abbrev rC (x : RecT) : List C := [.int .i64 x.1, .int .i64 x.2.1, .int .i64 x.2.2.1, .int .i64 x.2.2.2.1, .int .i64 x.2.2.2.2.1, .int .i64 x.2.2.2.2.2.1]
def rowsR (L : List RecT) : List C := (L.map rC).flatten
theorem rowsR_len (L : List RecT) : (rowsR L).length = L.length * 6 := rowsC_length (cts := rts) L
theorem rowsR_snoc (L : List RecT) (x : RecT) : rowsR (L ++ [x]) = rowsR L ++ rC x := by unfold rowsR; simp
theorem rec_at {H : Heap} {s : Sl} {L : List RecT} (h : Row H 6 s (rowsR L)) {i : Nat} (hi : i < L.length) : ∃ b o, Sl.at 6 s (i : Int) = some (b, o) ∧ @Eq (Option RecT) (rd H (.agg [.int .i64, .int .i64, .int .i64, .int .i64, .int .i64, .int .i64]) b o) (some L[i]) := by
  obtain ⟨b, o, _, h1, h0, cs, bk, h2, h3, h4⟩ := Row.at (cts := rts) (rows := L) h hi (by decide)
  have h4' : (cs.drop o).take 6 = rC L[i] := h4
  exact ⟨b, o, h1, rd_agg_of (ts := rts) h2 h3 (by show Tup.un rts ((cs.drop o).take 6) = _; rw [h4']; rfl)⟩
theorem rec_len {H : Heap} {s : Sl} {L : List RecT} (h : Row H 6 s (rowsR L)) : s.len = L.length := by
  have := h.len
  rw [rowsR_len] at this
  omega
noncomputable def rp (x : RecT) : Bytes := Classical.choose (rec_put_ok x)
theorem rp_eq (x : RecT) : rec_Put x = some (rp x, ()) ∧ (rp x).length ≤ 40 := Classical.choose_spec (rec_put_ok x)

noncomputable def packS (size : Nat) (p : List Bytes × Bytes) (x : RecT) : List Bytes × Bytes := if p.2.length + (rp x).length ≤ size then (p.1, p.2 ++ rp x) else (p.1 ++ [p.2], rp x)
noncomputable def packN (size : Nat) (L : List RecT) : List Bytes × Bytes := L.foldl (packS size) ([], [])
noncomputable def packF (size : Nat) (L : List RecT) : List Bytes := (packN size L).1 ++ [(packN size L).2]
theorem packN_ok (size : Nat) (hs : 40 ≤ size) : ∀ (L : List RecT) (p : List Bytes × Bytes), (∀ x ∈ p.1, x.length ≤ size) → p.2.length ≤ size → (L.foldl (packS size) p).1.length ≤ p.1.length + L.length ∧ (∀ x ∈ (L.foldl (packS size) p).1, x.length ≤ size) ∧ (L.foldl (packS size) p).2.length ≤ size
  | [], p, h1, h2 => ⟨by simp, h1, h2⟩
  | x :: r, p, h1, h2 => by
    rw [List.foldl_cons]
    have hr := (rp_eq x).2
    by_cases hle : p.2.length + (rp x).length ≤ size
    · rw [show packS size p x = (p.1, p.2 ++ rp x) from if_pos hle]
      have ih := packN_ok size hs r (p.1, p.2 ++ rp x) h1 (by rw [List.length_append]; exact hle)
      refine ⟨?_, ih.2⟩
      have := ih.1
      simp only [List.length_cons] at this ⊢
      omega
    · rw [show packS size p x = (p.1 ++ [p.2], rp x) from if_neg hle]
      have ih := packN_ok size hs r (p.1 ++ [p.2], rp x) (fun y hy => by
        rcases List.mem_append.1 hy with hy | hy
        · exact h1 y hy
        · rw [List.mem_singleton] at hy; subst hy; exact h2) (by show (rp x).length ≤ size; omega)
      refine ⟨?_, ih.2⟩
      have := ih.1
      simp only [List.length_cons, List.length_append, List.length_singleton, List.length_nil] at this ⊢
      omega
theorem packF_first (size : Nat) (hs : 40 ≤ size) (x : RecT) (r : List RecT) : packN size (x :: r) = r.foldl (packS size) ([], rp x) := by
  unfold packN
  rw [List.foldl_cons]
  have hr := (rp_eq x).2
  unfold packS
  rw [if_pos (by show 0 + (rp x).length ≤ size; omega)]
  rfl
/-- So many texts, none of them too long. -/
theorem packF_ok (size : Nat) (hs : 40 ≤ size) (L : List RecT) : 1 ≤ (packF size L).length ∧ (packF size L).length ≤ max 1 L.length ∧ ∀ x ∈ packF size L, x.length ≤ size := by
  unfold packF
  refine ⟨by simp, ?_, ?_⟩
  · cases L with
    | nil => simp [packN]
    | cons x r =>
      rw [packF_first size hs]
      have := (packN_ok size hs r ([], rp x) (fun y h => by cases h) (by show (rp x).length ≤ size; have := (rp_eq x).2; omega)).1
      simp only [List.length_append, List.length_cons, List.length_nil] at this ⊢
      omega
  · intro x hx
    have := (packN_ok size hs L ([], []) (fun y h => by cases h) (by simp)).2
    rcases List.mem_append.1 hx with hx | hx
    · exact this.1 x hx
    · rw [List.mem_singleton] at hx; subst hx; exact this.2

theorem GrowN.set {H0 G : Heap} {s : Sl} {cs : List C} (g : GrowN H0 G 1 s cs) {i : Nat} (hi : i < cs.length) (c : C) : ∃ b G', s.p = some (b, 0) ∧ Sl.at 1 s (i : Int) = some (b, i) ∧ wr G b i [c] = some G' ∧ GrowN H0 G' 1 s (cs.set i c) := by
  obtain ⟨p, len, cap⟩ := s
  have hl := g.gr.len
  have hl' : cs.length = len := by have : cs.length = len * 1 := hl; omega
  cases p with
  | none =>
    have : len = 0 := g.gr.nil rfl
    omega
  | some a =>
    obtain ⟨c0, o⟩ := a
    obtain ⟨ho, hb⟩ := g.gr.blk _ rfl
    have ho' : o = 0 := ho
    subst ho'
    have hat : Sl.at 1 ⟨some (c0, 0), len, cap⟩ (i : Int) = some (c0, i) := by rw [at_of (by omega) (by show (i : Int) < (len : Int); omega), Int.toNat_natCast, Nat.mul_one, Nat.zero_add]
    have hn := g.new (c0, 0) rfl
    have kk : ∀ (bk : BK), Keep (fun j => j = c0) G (G.set c0 (.cells (cs.set i c) bk)) := fun bk => Keep.set _ _ _ rfl
    have keep' : ∀ (bk : BK), Keep (fun _ => False) H0 (G.set c0 (.cells (cs.set i c) bk)) := fun bk => by
      have h1 := g.keep.len
      refine ⟨by simp; omega, fun j hj _ => ?_⟩
      have hn' : H0.length ≤ c0 := hn
      rw [set_get' (by omega), g.keep.same j hj id]
    rcases hb with hb | hb
    · have hb' : G[c0]? = some (.cells cs .loose) := hb
      refine ⟨c0, _, rfl, hat, wr1_of hb' (by decide) hi, ⟨g.gr.cap, by rw [List.length_set]; exact hl, g.gr.nil, fun a ha => by cases ha; exact ⟨rfl, .inl (set_get (get_lt hb'))⟩⟩, keep' _, g.new⟩
    · have hb' : G[c0]? = some (.cells cs .exact) := hb
      refine ⟨c0, _, rfl, hat, wr1_of hb' (by decide) hi, ⟨g.gr.cap, by rw [List.length_set]; exact hl, g.gr.nil, fun a ha => by cases ha; exact ⟨rfl, .inr (set_get (get_lt hb'))⟩⟩, keep' _, g.new⟩

theorem pack_eq {H : Heap} {s : Sl} {L : List RecT} {size : Nat} (hs : Row H 6 s (rowsR L)) (hl : L.length ≤ 10000) (hz : 40 ≤ size ∧ size ≤ 10000) :
    ∃ t G, group_Pack s (size : Int) H = some ((t, ()), G) ∧ GrowN H G 1 t ((packF size L).map C.str) := by
  have hsl := rec_len hs
  unfold group_Pack
  have g0 : GrowN H (H ++ [.cells [.str []] .exact]) 1 ⟨some (H.length, 0), 1, 1⟩ [.str []] :=
    ⟨⟨rfl, rfl, fun h => by (cases h), fun a h => by cases h; exact ⟨rfl, .inr app_last⟩⟩, Keep.push _ _ _, fun a h => by cases h; exact Nat.le_refl _⟩
  obtain ⟨u, G, l1, t, rfl, g⟩ := loop_rise (step := group_Pack.s1 s (size : Int)) L.length (fun i y G => ∃ t, y = (t, (i : Int), ()) ∧ GrowN H G 1 t ((packF size (L.take i)).map C.str)) (fun y G => ∃ t, y = (t, ()) ∧ GrowN H G 1 t ((packF size L).map C.str))
    (by
      rintro i _ G hi ⟨t, rfl, g⟩
      refine .inl ?_
      obtain ⟨b, o, a1, a2⟩ := rec_at (hs.keep g.keep fun _ _ _ h => h) hi
      obtain ⟨p1, p2⟩ := rp_eq L[i]
      have hstep : packN size (L.take (i + 1)) = packS size (packN size (L.take i)) L[i] := by
        unfold packN
        rw [List.take_succ_eq_append_getElem hi, List.foldl_append]; rfl
      have hok := packN_ok size hz.1 (L.take i) ([], []) (fun y h => by cases h) (by simp)
      have hA : (packN size (L.take i)).1.length ≤ i := by
        have := hok.1
        have h3 : ((L.take i).foldl (packS size) ([], [])).1.length ≤ 0 + (L.take i).length := this
        have h4 : (L.take i).length ≤ i := by rw [List.length_take]; omega
        unfold packN
        omega
      have hlast : (packN size (L.take i)).2.length ≤ size := hok.2.2
      unfold packF at g ⊢
      rw [hstep]
      generalize packN size (L.take i) = p at g hA hlast
      obtain ⟨A, l⟩ := p
      generalize L[i] = x at a2 p1 p2
      simp only at g hA hlast ⊢
      have hlen : decide ((i : Int) < (s.len : Int)) = true := decide_eq_true (by omega)
      have hsu := wrap_succ (show i < 9223372036854775807 by omega)
      have g1 := g.more (.cells (rC x) .exact)
      let G1 : Heap := G ++ [.cells (rC x) .exact]
      have w1 : wr (G ++ [Blk.cells [.int .i64 0, .int .i64 0, .int .i64 0, .int .i64 0, .int .i64 0, .int .i64 0] .exact]) G.length 0 (rC x) = some G1 := by
        rw [wr_last (by decide) (by simp)]; rfl
      have e1 : @Eq (Option RecT) (rd G1 (.agg [.int .i64, .int .i64, .int .i64, .int .i64, .int .i64, .int .i64]) G.length 0) (some x) := rd_agg_of (ts := rts) app_last (Nat.le_refl 6) rfl
      have p1' : rec_Put (x.1, x.2.1, x.2.2.1, x.2.2.2.1, x.2.2.2.2.1, x.2.2.2.2.2.1, ()) = some (rp x, ()) := p1
      have htl : t.len = A.length + 1 := by
        have := g.gr.len
        simp at this; omega
      have hwl : IntKind.wrap .i64 ((t.len : Int) - 1) = (A.length : Int) := by rw [wrap_i64 (by omega) (by omega)]; omega
      obtain ⟨c, oo, t1, t2, _⟩ := g1.row.txt (l := A ++ [l]) (i := A.length) (by simp)
      have hgl : (A ++ [l])[A.length]'(by simp) = l := by simp
      rw [hgl] at t2
      have hwn : IntKind.wrap .i64 ((l.length : Int) + ((rp x).length : Int)) = ((l.length + (rp x).length : Nat) : Int) := by rw [wrap_i64 (by omega) (by omega)]; omega
      by_cases hfit : l.length + (rp x).length ≤ size
      · obtain ⟨b2, G2, s1, s2, s3, s4⟩ := GrowN.set g1 (i := A.length) (by simp) (.str (l ++ rp x))
        have hcc : (c, oo) = (b2, A.length) := Option.some.inj (t1.symm.trans s2)
        obtain ⟨rfl, rfl⟩ := Prod.mk.inj hcc
        have hc := cat_of (a := l) (b := rp x) (by omega)
        refine ⟨_, G2, ?_, t, rfl, ?_⟩
        · unfold group_Pack.s1
          have s3' : wr G1 c A.length [.str (l ++ rp x)] = some G2 := s3
          have t2' : rdS G1 c A.length = some l := t2
          simp only [hlen, cond_t, a1, bind_some, a2, w1, e1, p1', hwl, t1, t2', hwn, decide_eq_true (show ((l.length + (rp x).length : Nat) : Int) ≤ (size : Int) by omega), hc, s3', hsu]
        · unfold packS
          rw [if_pos hfit]
          have : ((A ++ [l]).map C.str).set A.length (.str (l ++ rp x)) = (A ++ [l ++ rp x]).map C.str := by simp
          rw [← this]; exact s4
      · obtain ⟨t', G2, b1, b2, b3, b4, _⟩ := g1.one (bytes := 16) (new := [.str (rp x)]) (by decide) rfl (by omega) (by omega)
        have b1' : slRow (G1 ++ [Blk.cells [.str (rp x)] .exact]) 1 ⟨some (G1.length, 0), 1, 1⟩ = some [.str (rp x)] := b1
        have b2' : appS (G1 ++ [Blk.cells [.str (rp x)] .exact]) 1 16 t 1 [.str (rp x)] = some (t', G2) := b2
        refine ⟨_, G2, ?_, t', rfl, ?_⟩
        · unfold group_Pack.s1
          have t2' : rdS G1 c oo = some l := t2
          simp only [hlen, cond_t, a1, bind_some, a2, w1, e1, p1', hwl, t1, t2', hwn, decide_eq_false (show ¬ ((l.length + (rp x).length : Nat) : Int) ≤ (size : Int) by omega), cond_f, b1', b2', hsu]
        · unfold packS
          rw [if_neg hfit]
          have : (A ++ [l]).map C.str ++ [.str (rp x)] = ((A ++ [l]) ++ [rp x]).map C.str := by simp
          rw [← this]; exact b3)
    (by
      rintro _ G ⟨t, rfl, g⟩
      refine ⟨_, G, ?_, t, rfl, by rwa [List.take_length] at g⟩
      unfold group_Pack.s1
      simp only [decide_eq_false (show ¬ ((L.length : Nat) : Int) < (s.len : Int) by omega), cond_f])
    (y := (⟨some (H.length, 0), 1, 1⟩, ((0 : Nat) : Int), ())) (H := H ++ [.cells [.str []] .exact]) ⟨_, rfl, g0⟩
  have l1' : loopW (group_Pack.s1 s (size : Int)) (⟨some (H.length, 0), 1, 1⟩, 0, ()) (H ++ [.cells [.str []] .exact]) = some ((t, ()), G) := l1
  exact ⟨t, G, by simp only [l1', bind_some], g⟩
end Ev

/- A new chip as a whole; Arm. -/
namespace Ev
open Go (IntKind)

theorem new_yes {B P S : Nat} {f : Sl × Sl × Sl × Unit} {cuts : List Cut} {fails bad : List Int} (H : Heap) (hg : geoOK ((B : Int), (P : Int), (S : Int), ()) = true) (hcu : Row H 3 f.1 (cutC cuts)) (hfa : Row H 1 f.2.1 (intC fails)) (hba : Row H 1 f.2.2.1 (intC bad))
    (hl1 : cuts.length ≤ 1099511627776) (hl2 : fails.length ≤ 1099511627776) (hl3 : bad.length ≤ 1099511627776) :
    ∃ H' a, nand_New ((B : Int), (P : Int), (S : Int), ()) f H = some ((some (a.c, 0), 0, ()), H') ∧ NdAt H' a (Nd.new cuts fails bad) ∧ Keep (fun _ => False) H H' ∧ a.B = B ∧ a.P = P ∧ a.S = S ∧ ∀ k, a.own k → H.length ≤ k := by
  have hg' := of_decide_eq_true hg
  simp only at hg'
  unfold nand_New
  -- locals
  let g : Geo := ((B : Int), (P : Int), (S : Int), ())
  let gB : Blk := .cells [.int .i64 (B : Int), .int .i64 (P : Int), .int .i64 (S : Int)] .exact
  let fB : Blk := .cells [.sl 3 f.1, .sl 1 f.2.1, .sl 1 f.2.2.1] .exact
  let H1 : Heap := H ++ [gB]
  let H2 : Heap := H1 ++ [fB]
  let H3 : Heap := H2 ++ [.cells (arrC B fun _ => blk0) .exact]
  have e1 : H1.length = H.length + 1 := by simp [H1]
  have e2 : H2.length = H.length + 2 := by simp [H2, H1]
  have e3 : H3.length = H.length + 3 := by simp [H3, H2, H1]
  have k3 : Keep (fun _ => False) H H3 := ((Keep.push _ _ _).trans (Keep.push _ _ _)).trans (Keep.push _ _ _)
  have g2 : H2[H.length]? = some gB := by rw [app_lt (by omega)]; exact app_last
  have g3 : H3[H.length]? = some gB := by rw [app_lt (by omega)]; exact g2
  have f3 : H3[H1.length]? = some fB := by rw [app_lt (by omega)]; exact app_last
  have b3 : H3[H2.length]? = some (.cells (arrC B fun _ => blk0) .exact) := app_last
  have hmk : mkS H2 40 [.sl 1 Sl.nil, .int .i64 0, .bool false, .bool false] (B : Int) (B : Int) = some (⟨some (H2.length, 0), B, B⟩, H3) := mkS_of (by omega) (by omega)
  have nof : ∀ k, (fun _ : Nat => False) k → False := fun _ => id
  have hcu3 := hcu.keep k3 fun _ _ _ => id
  have hcl : f.1.len = cuts.length := by have := hcu.len; rw [cutC_length] at this; omega
  have hfl : f.2.1.len = fails.length := hfa.int_len
  obtain ⟨t1, H4, c1, c2, c3, c4, c5⟩ := clone_cut hcu3 (by omega)
  have k4 := k3.trans c3
  have hfa4 := hfa.keep k4 fun _ _ _ => id
  obtain ⟨t2, H5, d1, d2, d3, d4, d5⟩ := clone_int hfa4 (by omega)
  have k5 := k4.trans d3
  have g4 := c3.get g3 id
  have f4 := c3.get f3 id
  have b4 := c3.get b3 id
  have g5 := d3.get g4 id
  have f5 := d3.get f4 id
  have b5 := d3.get b4 id
  have h43 := c3.len
  have h54 := d3.len
  let cB : Blk := .cells [.int .i64 (B : Int), .int .i64 (P : Int), .int .i64 (S : Int), .sl 4 ⟨some (H2.length, 0), B, B⟩, .sl 3 t1, .sl 1 t2, .int .i64 0, .bool false] .exact
  let H6 : Heap := H5 ++ [cB]
  have e6 : H6.length = H5.length + 1 := by simp [H6]
  have g6 : H6[H.length]? = some gB := by rw [app_lt (get_lt g5)]; exact g5
  have f6 : H6[H1.length]? = some fB := by rw [app_lt (get_lt f5)]; exact f5
  have b6 : H6[H2.length]? = some (.cells (arrC B fun _ => blk0) .exact) := by rw [app_lt (get_lt b5)]; exact b5
  have cc6 : H6[H5.length]? = some cB := app_last
  have k6 := k5.trans (Keep.push _ _ cB)
  have hba6 := hba.keep k6 fun _ _ _ => id
  obtain ⟨G, l1, l2, l3, l4⟩ := new_loop (H := H) (H1 := H1) (r15 := ((t2, ()), H5)) (G0 := H6) (B := B) (P := P) (S := S) (bb := H2.length) (fb := f.2.2.1) (bad := bad) (by omega) (by omega) cc6 rfl ⟨_, _, g6, rfl⟩ ⟨_, _, f6, rfl⟩ hba6 (by omega) b6
    (by show H5.length ≠ H2.length; omega) (by omega) (by omega) (fun k o hp e => by have := hba.lt hp; omega)
  have r2 := rd_geo (H := H2) (g := g) (bk := .exact) g2
  have r4 := rd_geo (H := H4) (g := g) (bk := .exact) g4
  have r6 := rd_geo (H := H6) (g := g) (bk := .exact) g6
  have i2 : rdI .i64 H2 H.length 0 = some (B : Int) := rdI_of g2 rfl
  have i4 : rdI .i64 H4 H.length 0 = some (B : Int) := rdI_of g4 rfl
  have i6 : rdI .i64 H6 H.length 0 = some (B : Int) := rdI_of g6 rfl
  have s3 : rdSl 3 H3 H1.length 0 = some f.1 := rdSl_of f3 rfl
  have s3' : rdSl 1 H3 H1.length 1 = some f.2.1 := rdSl_of f3 rfl
  have s4 : rdSl 1 H4 H1.length 1 = some f.2.1 := rdSl_of f4 rfl
  have s6 : rdSl 4 H6 H5.length 3 = some ⟨some (H2.length, 0), B, B⟩ := rdSl_of cc6 rfl
  have chk : nand_Check (g.1, g.2.1, g.2.2.1, ()) = some (true, ()) := by rw [show nand_Check (g.1, g.2.1, g.2.2.1, ()) = some (geoOK g, ()) from nand_Check_eq g]; rw [hg]
  have st4 : H4[H2.length]? = some (.cells (rep (Int.toNat (B : Int)) [.sl 1 Sl.nil, .int .i64 0, .bool false, .bool false]) .exact) := by rw [b4, Int.toNat_natCast, rep_arr]; rfl
  have st6 : H6[H2.length]? = some (.cells (rep (Int.toNat (B : Int)) [.sl 1 Sl.nil, .int .i64 0, .bool false, .bool false]) .exact) := by rw [b6, Int.toNat_natCast, rep_arr]; rfl
  refine ⟨G, ⟨H5.length, H2.length, fun i => H6.length + i, B, P, S, t1, t2⟩, ?_, ?_, ?_, rfl, rfl, rfl, ?_⟩
  · have q1 : (H ++ [Blk.cells [.int .i64 (B : Int), .int .i64 (P : Int), .int .i64 (S : Int)] .exact]) = H1 := rfl
    simp only [q1]
    have q2 : (H1 ++ [Blk.cells [.sl 3 f.1, .sl 1 f.2.1, .sl 1 f.2.2.1] .exact]) = H2 := rfl
    simp only [q2, r2, bind_some, chk, Bool.not_true, cond_f, i2, hmk, s3, s3', c1, r4, if_true, i4, st4, s4, d1]
    have q3 : (H5 ++ [Blk.cells [.int .i64 g.1, .int .i64 g.2.1, .int .i64 g.2.2.1, .sl 4 ⟨some (H2.length, 0), B, B⟩, .sl 3 t1, .sl 1 t2, .int .i64 0, .bool false] .exact]) = H6 := rfl
    simp only [q3, r6, bind_some, if_true, i6, st6, s6, l1]
  · have hk := l4
    refine { cell := ?_, blks := ?_, pgs := fun i hi => ?_, cuts := ?_, fails := ?_, cb := ?_, cp := fun i hi => ?_, bp := fun i hi => ?_, pp := fun i j _ _ e => ?_, csn := fun k o hp hf => ?_, fsn := fun k o hp hf => ?_, sz := ⟨?_, ?_, ?_⟩, ln := ⟨hl1, hl2⟩ }
    · exact hk.get cc6 (by show H5.length ≠ H2.length; omega)
    · exact l2
    · exact l3 i hi
    · exact ((c2.keep d3 fun _ _ _ => id).push cB).keep hk fun k o hp e => by have := c5 k o hp; omega
    · exact (d2.push cB).keep hk fun k o hp e => by have := d5 k o hp; omega
    · show H5.length ≠ H2.length; omega
    · show H5.length ≠ H6.length + i; omega
    · show H2.length ≠ H6.length + i; omega
    · have e : H6.length + i = H6.length + j := e
      omega
    · have h1 := c5 k o hp
      have h2 := (c2.lt hp)
      rcases hf with e | e | ⟨i, _, e⟩
      · have e : k = H5.length := e
        omega
      · have e : k = H2.length := e
        omega
      · have e : k = H6.length + i := e
        omega
    · have h1 := d5 k o hp
      have h2 := (d2.lt hp)
      rcases hf with e | e | ⟨i, _, e⟩
      · have e : k = H5.length := e
        omega
      · have e : k = H2.length := e
        omega
      · have e : k = H6.length + i := e
        omega
    · show B ≤ 4294967296; omega
    · show P ≤ 4294967296; omega
    · show S ≤ 4294967296; omega
  · refine ⟨Nat.le_trans k6.len l4.len, fun k hk _ => ?_⟩
    rw [l4.same k (Nat.lt_of_lt_of_le hk k6.len) (by show ¬ k = H2.length; omega)]
    exact k6.same k hk id
  · intro k hk
    rcases hk with (e | e | ⟨i, _, e⟩) | ⟨o, ho⟩ | ⟨o, ho⟩
    · have e : k = H5.length := e
      omega
    · have e : k = H2.length := e
      omega
    · have e : k = H6.length + i := e
      omega
    · have := c5 k o ho; omega
    · have := d5 k o ho; omega

end Ev

/- A chip to which nothing happens: writing and erasing. Shapes of chips. -/
namespace Ev
open Go (IntKind)

theorem cutNow_nil {s : Nd} (h : s.cuts = []) : s.cutNow = none := by unfold Nd.cutNow; rw [h]; rfl
theorem failNow_nil {s : Nd} (h : s.fails = []) : s.failNow = false := by unfold Nd.failNow; rw [h]; exact decide_eq_false List.not_mem_nil
theorem used_false {a : NdA} {s : Nd} {b p : Nat} (h : ∀ q, p ≤ q → q < a.P → s.pages b q = []) : s.used a b p = false := by
  unfold Nd.used
  rw [List.any_eq_false]
  intro q hq
  by_cases h1 : p ≤ q
  · simp [h q h1 (List.mem_range.1 hq)]
  · simp [h1]
theorem used_true {a : NdA} {s : Nd} {b p q : Nat} (h1 : p ≤ q) (h2 : q < a.P) (h3 : s.pages b q ≠ []) : s.used a b p = true := by
  unfold Nd.used
  rw [List.any_eq_true]
  exact ⟨q, List.mem_range.2 h2, by simp [h1, h3]⟩
theorem program_ok {a : NdA} {s : Nd} {b p : Nat} {t : Bytes} (h1 : s.cutNow = none) (h2 : s.dead b = false) (h3 : s.failNow = false) : s.program a b p t = (0, s.acted.lay a b p t) := by
  unfold Nd.program
  rw [h1]
  simp only [h2, h3]
  rw [if_neg (by simp)]
theorem acted_plain {s : Nd} (h : s.cutNow = none) : s.acted = { s with did := s.did + 1 } := by unfold Nd.acted; rw [h]; simp
theorem erase_ok {a : NdA} {s : Nd} {b : Nat} (h1 : s.cutNow = none) (h2 : s.dead b = false) (h3 : s.failNow = false) : s.erase a b = (0, { s.acted with worn := upd s.worn b (s.worn b + 1) }.clear b a.P) := by
  unfold Nd.erase
  rw [h1]
  simp only [h2, h3]
  rw [if_neg (by simp)]
theorem geo_nat {g : Geo} (h : geoOK g = true) : ∃ B P S : Nat, g = ((B : Int), (P : Int), (S : Int), ()) := by
  obtain ⟨x, y, z, u⟩ := g
  have h := of_decide_eq_true h
  simp only at h
  exact ⟨x.toNat, y.toNat, z.toNat, by rw [Int.toNat_of_nonneg (by omega), Int.toNat_of_nonneg (by omega), Int.toNat_of_nonneg (by omega)]⟩

def shape (g : Geo) : Geo := (8 + bitsI .and .i64 g.1 7, 4 + bitsI .and .i64 g.2.1 7, 64 + bitsI .and .i64 g.2.2.1 63, ())
theorem shape_nat (g : Geo) : ∃ B P S : Nat, shape g = ((B : Int), (P : Int), (S : Int), ()) ∧ 8 ≤ B ∧ B ≤ 15 ∧ 4 ≤ P ∧ P ≤ 11 ∧ 64 ≤ S ∧ S ≤ 127 ∧ geoOK ((B : Int), (P : Int), (S : Int), ()) = true := by
  obtain ⟨x, y, z, u⟩ := g
  have b0 := and_ones (k := .i64) (x := x) (m := 7) 3 (by decide) (by decide)
  have b1 := and_ones (k := .i64) (x := y) (m := 7) 3 (by decide) (by decide)
  have b2 := and_ones (k := .i64) (x := z) (m := 63) 6 (by decide) (by decide)
  refine ⟨(8 + bitsI .and .i64 x 7).toNat, (4 + bitsI .and .i64 y 7).toNat, (64 + bitsI .and .i64 z 63).toNat, ?_, by omega, by omega, by omega, by omega, by omega, by omega, decide_eq_true ?_⟩
  · simp only [shape]
    rw [Int.toNat_of_nonneg (by omega), Int.toNat_of_nonneg (by omega), Int.toNat_of_nonneg (by omega)]
  · simp only
    omega
end Ev

/- tinderboxlaw05.Geometry: a shape that may be. -/
namespace Ev
open Go (IntKind)

theorem geometry_eq (g : Geo) (H : Heap) : ∃ H', law05_Geometry g H = some ((shape g, ()), H') ∧ Keep (fun _ => False) H H' := by
  obtain ⟨x, y, z, u⟩ := g
  have b0 := and_ones (k := .i64) (x := x) (m := 7) 3 (by decide) (by decide)
  have b1 := and_ones (k := .i64) (x := y) (m := 7) 3 (by decide) (by decide)
  have b2 := and_ones (k := .i64) (x := z) (m := 63) 6 (by decide) (by decide)
  unfold law05_Geometry
  let A : Blk := .cells [.int .i64 x, .int .i64 y, .int .i64 z] .exact
  have k1 : (H ++ [A])[H.length]? = some A := app_last
  have k2 : ((H ++ [A]) ++ [Blk.cells [.int .i64 0, .int .i64 0, .int .i64 0] .exact])[H.length]? = some A := by rw [app_lt (get_lt k1)]; exact k1
  have r0 : rdI .i64 ((H ++ [A]) ++ [Blk.cells [.int .i64 0, .int .i64 0, .int .i64 0] .exact]) H.length 0 = some x := rdI_of k2 rfl
  have r1 : rdI .i64 ((H ++ [A]) ++ [Blk.cells [.int .i64 0, .int .i64 0, .int .i64 0] .exact]) H.length 1 = some y := rdI_of k2 rfl
  have r2 : rdI .i64 ((H ++ [A]) ++ [Blk.cells [.int .i64 0, .int .i64 0, .int .i64 0] .exact]) H.length 2 = some z := rdI_of k2 rfl
  have e0 : IntKind.wrap .i64 (8 + bitsI .and .i64 x 7) = 8 + bitsI .and .i64 x 7 := wrap_i64 (by omega) (by omega)
  have e1 : IntKind.wrap .i64 (4 + bitsI .and .i64 y 7) = 4 + bitsI .and .i64 y 7 := wrap_i64 (by omega) (by omega)
  have e2 : IntKind.wrap .i64 (64 + bitsI .and .i64 z 63) = 64 + bitsI .and .i64 z 63 := wrap_i64 (by omega) (by omega)
  have w : ∀ (a b c : Int), wr ((H ++ [A]) ++ [Blk.cells [.int .i64 0, .int .i64 0, .int .i64 0] .exact]) (H ++ [A]).length 0 [.int .i64 a, .int .i64 b, .int .i64 c] = some ((H ++ [A]) ++ [Blk.cells [.int .i64 a, .int .i64 b, .int .i64 c] .exact]) := by
    intro a b c
    rw [wr_last (by decide) (by simp)]; rfl
  have q : H ++ [Blk.cells [.int .i64 x, .int .i64 y, .int .i64 z] .exact] = H ++ [A] := rfl
  refine ⟨(H ++ [A]) ++ [Blk.cells [.int .i64 (8 + bitsI .and .i64 x 7), .int .i64 (4 + bitsI .and .i64 y 7), .int .i64 (64 + bitsI .and .i64 z 63)] .exact], ?_, (Keep.push _ _ _).trans (Keep.push _ _ _)⟩
  simp only [q, r0, r1, r2, bind_some, e0, e1, e2, w]
  rw [rd_geo (g := (8 + bitsI .and .i64 x 7, 4 + bitsI .and .i64 y 7, 64 + bitsI .and .i64 z 63, ())) app_last]
  rfl
end Ev

/- The blocks' life: how it stands in the heap; what each of its functions does. -/
namespace Ev
open Go (IntKind)

structure LfA where
  c : Nat
  lb : Nat
  B : Nat
  P : Nat
structure Lf where
  l : Nat → Int
  op : Int
  nx : Nat
def LfA.fp (e : LfA) (k : Nat) : Prop := k = e.c ∨ k = e.lb
def LfA.cells (e : LfA) (v : Lf) : List C := [.sl 1 ⟨some (e.lb, 0), e.B, e.B⟩, .int .i64 e.P, .int .i64 v.op, .int .i64 v.nx]
def Lf.row (v : Lf) (i : Nat) : List C := [.int .i64 (v.l i)]
structure LfAt (H : Heap) (e : LfA) (v : Lf) : Prop where
  cell : H[e.c]? = some (.cells (e.cells v) .exact)
  list : H[e.lb]? = some (.cells (arrC e.B v.row) .exact)
  ne : e.c ≠ e.lb
  sz : e.B ≤ 1000 ∧ e.P ≤ 1000

section
variable {H : Heap} {e : LfA} {v : Lf}
theorem lrow_len (v : Lf) : ∀ i, (v.row i).length = 1 := fun _ => rfl
theorem LfAt.lt (h : LfAt H e v) {k : Nat} (hk : e.fp k) : k < H.length := by
  rcases hk with rfl | rfl
  · exact get_lt h.cell
  · exact get_lt h.list
theorem LfAt.keep (h : LfAt H e v) {F : Nat → Prop} {H' : Heap} (k : Keep F H H') (hF : ∀ j, e.fp j → ¬ F j) : LfAt H' e v := ⟨k.get h.cell (hF _ (.inl rfl)), k.get h.list (hF _ (.inr rfl)), h.ne, h.sz⟩
theorem LfAt.rl (h : LfAt H e v) : rdSl 1 H e.c 0 = some ⟨some (e.lb, 0), e.B, e.B⟩ := rdSl_of h.cell rfl
theorem LfAt.rP (h : LfAt H e v) : rdI .i64 H e.c 1 = some (e.P : Int) := rdI_of h.cell rfl
theorem LfAt.rop (h : LfAt H e v) : rdI .i64 H e.c 2 = some v.op := rdI_of h.cell rfl
theorem LfAt.rnx (h : LfAt H e v) : rdI .i64 H e.c 3 = some (v.nx : Int) := rdI_of h.cell rfl
theorem LfAt.at' (i : Nat) (hi : i < e.B) : Sl.at 1 ⟨some (e.lb, 0), e.B, e.B⟩ (i : Int) = some (e.lb, i) := by
  rw [at_of (by omega) (by omega), Int.toNat_natCast, Nat.mul_one, Nat.zero_add]
theorem LfAt.ri (h : LfAt H e v) {i : Nat} (hi : i < e.B) : rdI .i64 H e.lb i = some (v.l i) := by
  have := arrC_get (lrow_len v) (j := 0) (by decide) hi
  rw [Nat.mul_one, Nat.add_zero] at this
  exact rdI_of h.list this
theorem LfAt.wop (h : LfAt H e v) (x : Int) : ∃ H', wr H e.c 2 [.int .i64 x] = some H' ∧ LfAt H' e { v with op := x } ∧ Keep e.fp H H' :=
  ⟨_, wr1_of h.cell (by decide) (by simp [LfA.cells]), ⟨by rw [set_get (get_lt h.cell)]; rfl, by rw [set_get' h.ne]; exact h.list, h.ne, h.sz⟩, Keep.set _ _ _ (.inl rfl)⟩
theorem LfAt.wnx (h : LfAt H e v) (x : Nat) : ∃ H', wr H e.c 3 [.int .i64 (x : Int)] = some H' ∧ LfAt H' e { v with nx := x } ∧ Keep e.fp H H' :=
  ⟨_, wr1_of h.cell (by decide) (by simp [LfA.cells]), ⟨by rw [set_get (get_lt h.cell)]; rfl, by rw [set_get' h.ne]; exact h.list, h.ne, h.sz⟩, Keep.set _ _ _ (.inl rfl)⟩
theorem LfAt.wi (h : LfAt H e v) {i : Nat} (hi : i < e.B) (x : Int) : ∃ H', wr H e.lb i [.int .i64 x] = some H' ∧ LfAt H' e { v with l := upd v.l i x } ∧ Keep e.fp H H' := by
  have hs := arrC_set (lrow_len v) (j := 0) (by decide) (.int .i64 x) hi
  rw [Nat.mul_one, Nat.add_zero] at hs
  refine ⟨_, wr1_of h.list (by decide) (by rw [arrC_length (lrow_len v)]; omega), ⟨by rw [set_get' (Ne.symm h.ne)]; exact h.cell, ?_, h.ne, h.sz⟩, Keep.set _ _ _ (.inr rfl)⟩
  rw [set_get (get_lt h.list), hs]
  congr 3
  funext k
  by_cases hk : k = i
  · subst hk; simp [Lf.row, upd]
  · simp [Lf.row, upd, hk]

/-! What its functions tell. -/
def Lf.at (v : Lf) : Int × Int × Bool × Unit := if v.op < 0 then (0, 0, false, ()) else (v.op, (v.nx : Int), true, ())
theorem life_At (h : LfAt H e v) : life_Life_At (some (e.c, 0)) H = some (v.at, H) := by
  unfold life_Life_At Lf.at
  simp only [Option.isNone_some, cond_f, bind_some, Nat.zero_add, h.rop]
  by_cases h0 : v.op < 0
  · simp only [decide_eq_true h0, cond_t, if_pos h0]
  · simp only [decide_eq_false h0, cond_f, bind_some, h.rnx, if_neg h0]
theorem life_in (h : LfAt H e v) (x : Int) : life_Life_in (some (e.c, 0)) x H = some ((decide (0 ≤ x ∧ x < (e.B : Int)), ()), H) := by
  unfold life_Life_in
  simp only [Option.isNone_some, Bool.not_false, cond_t, bind_some, h.rl]
  by_cases h0 : 0 ≤ x
  · rw [decide_eq_true h0, cond_t]
    congr 3
    exact decide_eq_decide.2 ⟨fun h => ⟨h0, h⟩, fun h => h.2⟩
  · rw [decide_eq_false h0, cond_f, decide_eq_false (fun h => h0 h.1)]
theorem life_Is (h : LfAt H e v) {i : Nat} (hi : i < e.B) : life_Life_Is (some (e.c, 0)) (i : Int) H = some ((v.l i, ()), H) := by
  unfold life_Life_Is
  simp only [life_in h, decide_eq_true (show 0 ≤ (i : Int) ∧ (i : Int) < (e.B : Int) by omega), bind_some, Bool.not_true, cond_f, h.rl, LfAt.at' i hi, h.ri hi]
theorem life_Is_no (h : LfAt H e v) {x : Int} (hx : ¬ (0 ≤ x ∧ x < (e.B : Int))) : life_Life_Is (some (e.c, 0)) x H = some ((-1, ()), H) := by
  unfold life_Life_Is
  simp only [life_in h, decide_eq_false hx, bind_some, Bool.not_false, cond_t]
/-- A free block is opened, when none is open. -/
theorem life_Open (h : LfAt H e v) {i : Nat} (hi : i < e.B) (hf : v.l i = 0) (ho : v.op < 0) : ∃ H', life_Life_Open (some (e.c, 0)) (i : Int) H = some ((true, ()), H') ∧ LfAt H' e ⟨upd v.l i 1, (i : Int), 0⟩ ∧ Keep e.fp H H' := by
  obtain ⟨H1, a1, a2, a3⟩ := h.wi hi 1
  obtain ⟨H2, b1, b2, b3⟩ := a2.wop (i : Int)
  obtain ⟨H3, c1, c2, c3⟩ := b2.wnx 0
  refine ⟨H3, ?_, c2, (a3.trans b3).trans c3⟩
  have c1' : wr H2 e.c 3 [.int .i64 0] = some H3 := c1
  unfold life_Life_Open
  simp only [life_in h, decide_eq_true (show 0 ≤ (i : Int) ∧ (i : Int) < (e.B : Int) by omega), bind_some, Bool.not_true, cond_f, h.rl, LfAt.at' i hi, h.ri hi, hf, decide_true, Nat.zero_add, h.rop, decide_eq_false (show ¬ 0 ≤ v.op by omega), a1, b1, c1']
/-- The next page of the open block. -/
def Lf.took (e : LfA) (v : Lf) (i : Nat) : Lf := if v.nx + 1 = e.P then ⟨upd v.l i 2, -1, v.nx + 1⟩ else ⟨v.l, v.op, v.nx + 1⟩
theorem life_Take (h : LfAt H e v) {i : Nat} (hi : i < e.B) (ho : v.op = (i : Int)) (hn : v.nx < 1000) : ∃ H', life_Life_Take (some (e.c, 0)) H = some (((i : Int), (v.nx : Int), true, ()), H') ∧ LfAt H' e (v.took e i) ∧ Keep e.fp H H' := by
  obtain ⟨H1, a1, a2, a3⟩ := h.wnx (v.nx + 1)
  have ew : IntKind.wrap .i64 ((v.nx : Int) + 1) = ((v.nx + 1 : Nat) : Int) := wrap_succ (by omega)
  have hc := a2.rnx
  simp only at hc
  unfold life_Life_Take Lf.took
  simp only [Option.isNone_some, cond_f, bind_some, Nat.zero_add, h.rop, ho, decide_eq_false (show ¬ (i : Int) < 0 by omega), h.rnx, ew, a1, hc, a2.rP]
  by_cases hp : v.nx + 1 = e.P
  · obtain ⟨H2, b1, b2, b3⟩ := a2.wi hi 2
    obtain ⟨H3, c1, c2, c3⟩ := b2.wop (-1)
    refine ⟨H3, ?_, by rw [if_pos hp]; exact c2, (a3.trans b3).trans c3⟩
    simp only [decide_eq_true (show ((v.nx + 1 : Nat) : Int) = (e.P : Int) by omega), cond_t, a2.rl, bind_some, LfAt.at' i hi, b1, c1]
  · refine ⟨H1, ?_, by rw [if_neg hp, ← ho]; exact a2, a3⟩
    simp only [decide_eq_false (show ¬ ((v.nx + 1 : Nat) : Int) = (e.P : Int) by omega), cond_f]
/-- A block is something else. -/
def Lf.set (v : Lf) (i : Nat) (x : Int) : Lf := if v.l i = 3 then v else ⟨upd v.l i x, if v.op = (i : Int) then -1 else v.op, v.nx⟩
theorem life_set (h : LfAt H e v) {i : Nat} (hi : i < e.B) (x : Int) : ∃ H', life_Life_set (some (e.c, 0)) (i : Int) x H = some ((!decide (v.l i = 3), ()), H') ∧ LfAt H' e (v.set i x) ∧ Keep e.fp H H' := by
  unfold life_Life_set Lf.set
  simp only [life_in h, decide_eq_true (show 0 ≤ (i : Int) ∧ (i : Int) < (e.B : Int) by omega), bind_some, Bool.not_true, cond_f, h.rl, LfAt.at' i hi, h.ri hi, Nat.zero_add, h.rop]
  by_cases h3 : v.l i = 3
  · refine ⟨H, ?_, by rw [if_pos h3]; exact h, Keep.refl _ _⟩
    simp only [decide_eq_true h3, cond_t, Bool.not_true]
  · simp only [decide_eq_false h3, cond_f, Bool.not_false, if_neg h3]
    by_cases ho : v.op = (i : Int)
    · obtain ⟨H1, a1, a2, a3⟩ := h.wop (-1)
      obtain ⟨H2, b1, b2, b3⟩ := a2.wi hi x
      refine ⟨H2, ?_, by rw [if_pos ho]; exact b2, a3.trans b3⟩
      simp only [decide_eq_true ho, cond_t, a1, bind_some, a2.rl, LfAt.at' i hi, b1]
    · obtain ⟨H2, b1, b2, b3⟩ := h.wi hi x
      refine ⟨H2, ?_, by rw [if_neg ho]; exact b2, b3⟩
      simp only [decide_eq_false ho, cond_f, bind_some, h.rl, LfAt.at' i hi, b1]
theorem life_Bad (h : LfAt H e v) {i : Nat} (hi : i < e.B) : ∃ H', life_Life_Bad (some (e.c, 0)) (i : Int) H = some ((!decide (v.l i = 3), ()), H') ∧ LfAt H' e (v.set i 3) ∧ Keep e.fp H H' := by
  obtain ⟨H', a1, a2⟩ := life_set h hi 3
  exact ⟨H', by unfold life_Life_Bad; simp only [a1, bind_some], a2⟩
theorem life_Full (h : LfAt H e v) {i : Nat} (hi : i < e.B) : ∃ H', life_Life_Full (some (e.c, 0)) (i : Int) H = some ((!decide (v.l i = 3), ()), H') ∧ LfAt H' e (v.set i 2) ∧ Keep e.fp H H' := by
  obtain ⟨H', a1, a2⟩ := life_set h hi 2
  exact ⟨H', by unfold life_Life_Full; simp only [a1, bind_some], a2⟩
theorem life_Free (h : LfAt H e v) {i : Nat} (hi : i < e.B) : ∃ H', life_Life_Free (some (e.c, 0)) (i : Int) H = some ((!decide (v.l i = 3), ()), H') ∧ LfAt H' e (v.set i 0) ∧ Keep e.fp H H' := by
  obtain ⟨H', a1, a2⟩ := life_set h hi 0
  exact ⟨H', by unfold life_Life_Free; simp only [a1, bind_some], a2⟩
end
def Lf.new : Lf := ⟨fun _ => 0, -1, 0⟩
theorem life_new_eq (H : Heap) {B P : Nat} (hB : 1 ≤ B ∧ B ≤ 32) (hP : 1 ≤ P ∧ P ≤ 16) : ∃ H' e, life_New (B : Int) (P : Int) H = some ((some (e.c, 0), 0, ()), H') ∧ LfAt H' e Lf.new ∧ Keep (fun _ => False) H H' ∧ e.B = B ∧ e.P = P ∧ ∀ k, e.fp k → H.length ≤ k := by
  have hmk := mkS_of (H := H) (bytes := 8) (zero := [.int .i64 0]) (n := B) (by omega) (by omega)
  refine ⟨_, ⟨H.length + 1, H.length, B, P⟩, ?_, ⟨?_, ?_, by simp, by show B ≤ 1000 ∧ P ≤ 1000; omega⟩, (Keep.push _ _ (.cells (arrC B fun _ => [.int .i64 0]) .exact)).trans (Keep.push _ _ (.cells [.sl 1 ⟨some (H.length, 0), B, B⟩, .int .i64 (P : Int), .int .i64 (-1), .int .i64 0] .exact)), rfl, rfl, fun k hk => by rcases hk with rfl | rfl <;> simp⟩
  · unfold life_New
    simp only [decide_eq_false (show ¬ (B : Int) < 1 by omega), decide_eq_false (show ¬ (32 : Int) < (B : Int) by omega), decide_eq_false (show ¬ (P : Int) < 1 by omega), decide_eq_false (show ¬ (16 : Int) < (P : Int) by omega), cond_f, hmk, bind_some, List.length_append, List.length_singleton]
  · have hl : (H ++ [Blk.cells (arrC B fun _ => [C.int .i64 0]) .exact]).length = H.length + 1 := by simp
    show (_ ++ [_])[H.length + 1]? = _
    rw [← hl, app_last]; rfl
  · show (_ ++ [_])[H.length]? = _
    rw [app_lt (by simp), app_last]; rfl
end Ev

/- Pages of a chip: erased, or whole texts. -/
namespace Ev
open Go (IntKind)

theorem read_lay {a : NdA} {s : Nd} {b p : Nat} {t : Bytes} (ht : t.length = a.S + 32) (k q : Nat) : (s.lay a b p t).read a k q = if k = b ∧ q = p then t else s.read a k q := by
  unfold Nd.read Nd.lay upd2
  simp only
  by_cases h : k = b ∧ q = p
  · rw [if_pos h, if_pos h]
    by_cases hf : t = fullP a
    · rw [if_pos hf, if_pos rfl]; exact hf.symm
    · rw [if_neg hf, if_neg]
      intro hn; rw [hn] at ht; simp at ht
  · rw [if_neg h, if_neg h]
theorem read_clear {a : NdA} {s : Nd} {b n : Nat} (k q : Nat) : (s.clear b n).read a k q = if k = b ∧ q < n then fullP a else s.read a k q := by
  unfold Nd.read Nd.clear
  simp only
  by_cases h : k = b ∧ q < n
  · rw [if_pos h, if_pos h, if_pos rfl]
  · rw [if_neg h, if_neg h]

/-- Pages are erased, or whole texts that are not the erased page's. -/
def Fine (a : NdA) (s : Nd) : Prop := ∀ b p, s.pages b p = [] ∨ ((s.pages b p).length = a.S + 32 ∧ s.pages b p ≠ fullP a)
theorem Fine.lay {a : NdA} {s : Nd} (h : Fine a s) {b p : Nat} {t : Bytes} (ht : t.length = a.S + 32) : Fine a (s.lay a b p t) := by
  intro k q
  unfold Nd.lay upd2
  simp only
  by_cases hk : k = b ∧ q = p
  · rw [if_pos hk]
    by_cases hf : t = fullP a
    · rw [if_pos hf]; exact .inl rfl
    · rw [if_neg hf]; exact .inr ⟨ht, hf⟩
  · rw [if_neg hk]; exact h k q
theorem Fine.clear {a : NdA} {s : Nd} (h : Fine a s) (b n : Nat) : Fine a (s.clear b n) := by
  intro k q
  unfold Nd.clear
  simp only
  by_cases hk : k = b ∧ q < n
  · rw [if_pos hk]; exact .inl rfl
  · rw [if_neg hk]; exact h k q
theorem Fine.read {a : NdA} {s : Nd} (h : Fine a s) (b p : Nat) : (s.read a b p).length = a.S + 32 := by
  unfold Nd.read
  split
  · simp [fullP]
  · rename_i hn
    exact ((h b p).resolve_left hn).1
end Ev
