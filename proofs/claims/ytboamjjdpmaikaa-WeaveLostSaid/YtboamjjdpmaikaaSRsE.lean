/- Words: how they are made. -/
import Derived.Test.YtboamjjdpmaikaaSRs
namespace Ev
open Go (IntKind)

def dvF : Nat → Bytes
  | 0 => [1]
  | i + 1 => trim (pmul (dvF i) [gp i, 1])
theorem tl_le_len {p : Bytes} : (trim p).length ≤ p.length := by rw [trim_len]; exact tl_le p
theorem dvF_len : ∀ n, (dvF n).length ≤ 1 + 2 * n
  | 0 => Nat.le_refl 1
  | n + 1 => by
    have ih := dvF_len n
    have : (dvF (n + 1)).length ≤ (dvF n).length + 2 := by
      refine Nat.le_trans tl_le_len ?_
      unfold pmul
      rw [pl_len]; exact Nat.le_refl _
    omega
theorem two_at {H : Heap} (a b : UInt8) : PAt (H ++ [.cells [.int .u8 (un a), .int .u8 (un b)] .exact]) ⟨some (H.length, 0), 2, 2⟩ [a, b] := ⟨⟨row_last rfl, fun h => by cases h⟩, Nat.le_refl _⟩
theorem one_at {H : Heap} (a : UInt8) : PAt (H ++ [.cells [.int .u8 (un a)] .exact]) ⟨some (H.length, 0), 1, 1⟩ [a] := ⟨⟨row_last rfl, fun h => by cases h⟩, Nat.le_refl _⟩
theorem divisor_eq (n : Nat) (hn : n < 1000) (H : Heap) : ∃ t G, rs_divisor (n : Int) H = some ((t, ()), G) ∧ PAt G t (dvF n) ∧ Keep (fun _ => False) H G := by
  obtain ⟨u, G, l1, t, rfl, e1, e2⟩ := loop_rise (step := rs_divisor.s1 (n : Int)) n (fun i y G => ∃ t, y = (t, (i : Int), ()) ∧ PAt G t (dvF i) ∧ Keep (fun _ => False) H G) (fun y G => ∃ t, y = (t, ()) ∧ PAt G t (dvF n) ∧ Keep (fun _ => False) H G)
    (by
      rintro i _ G hi ⟨t, rfl, e1, e2⟩
      refine .inl ?_
      have k1 : Keep (fun _ => False) G (G ++ [.cells [.int .u8 (un (gp i)), .int .u8 (un 1)] .exact]) := Keep.push _ _ _
      have hd := dvF_len i
      obtain ⟨t', G2, f1, f2, f3⟩ := mul_eq (e1.keep k1) (two_at (gp i) 1) (by show (dvF i).length + 2 < _; omega)
      have f1' : gf_Poly_Mul t ⟨some (G.length, 0), 2, 2⟩ (G ++ [Blk.cells [.int .u8 (un (gp i)), .int .u8 1] .exact]) = some ((t', ()), G2) := f1
      refine ⟨(t', ((i + 1 : Nat) : Int), ()), G2, ?_, t', rfl, f2, (e2.trans k1).trans f3⟩
      unfold rs_divisor.s1
      simp only [decide_eq_true (show (i : Int) < (n : Int) by omega), cond_t, gf_Root_eq i (by omega), bind_some, f1', wrap_succ (show i < 9223372036854775807 by omega)])
    (by
      rintro _ G ⟨t, rfl, e1, e2⟩
      refine ⟨(t, ()), G, ?_, t, rfl, e1, e2⟩
      unfold rs_divisor.s1
      simp only [decide_eq_false (show ¬ ((n : Nat) : Int) < (n : Int) by omega), cond_f])
    (y := (⟨some (H.length, 0), 1, 1⟩, ((0 : Nat) : Int), ())) (H := H ++ [.cells [.int .u8 (un 1)] .exact]) ⟨_, rfl, one_at 1, Keep.push _ _ _⟩
  have l1' : loopW (rs_divisor.s1 (n : Int)) (⟨some (H.length, 0), 1, 1⟩, 0, ()) (H ++ [Blk.cells [.int .u8 1] .exact]) = some ((t, ()), G) := l1
  refine ⟨t, G, ?_, e1, e2⟩
  unfold rs_divisor
  simp only [l1', bind_some]
/-- What is left by dividing. -/
def remF (s : Bytes) (n : Nat) : Bytes := pmod (trim (psh n (rv s))) (dvF n)
/-- The bytes that check. -/
def tailF (s : Bytes) (n : Nat) : Bytes := pl n fun k => co (remF s n) (n - 1 - k)
def encF (s : Bytes) (n : Nat) : Bytes := s ++ tailF s n
theorem encode_eq (s : Bytes) (n : Nat) (hl : s.length < 1000) (hn : n < 1000) (hck : ckB ((s.length + n : Nat) : Int) n = true) (hd : 0 < tl (dvF n)) (hd2 : (remF s n).length ≤ n) : rs_Encode s (n : Int) = some (encF s n, 0, ()) := by
  unfold rs_Encode rs_Encode.on
  have hw : IntKind.wrap .i64 ((s.length : Int) + (n : Int)) = ((s.length + n : Nat) : Int) := by rw [wrap_i64 (by omega) (by omega)]; omega
  rw [hw, check_eq, hck]
  obtain ⟨G0, a1, a2, a3⟩ := turned_eq s [] (by omega)
  obtain ⟨t3, G3, b1, b2, b3⟩ := shift_eq a2 (n := n) (by rw [rv_len]; omega)
  obtain ⟨t4, G4, c1, c2, c3⟩ := divisor_eq n hn G3
  have hdl := dvF_len n
  have hsl : (trim (psh n (rv s))).length ≤ n + s.length := by
    refine Nat.le_trans tl_le_len ?_
    unfold psh
    rw [pl_len, rv_len]; exact Nat.le_refl _
  obtain ⟨t5, G5, d1, d2, d3⟩ := mod_eq (b2.keep c3) c2 (by omega) (by omega) hd
  have d2 : PAt G5 t5 (remF s n) := d2
  have dl := d2.len
  let H1 : Heap := G5 ++ [.cells (arrC n fun _ => [.int .u8 (un 0)]) .exact]
  have mk : mkS G5 1 [.int .u8 0] (n : Int) (n : Int) = some (⟨some (G5.length, 0), n, n⟩, H1) := mk_bytes (by omega)
  have b0 : BAt H1 G5.length n (fun _ => 0) := app_last
  obtain ⟨u, G, l1, g1, g2⟩ := loop_rise (step := rs_Encode.s1 (n : Int) ((t5, ()), G5) (⟨some (G5.length, 0), n, n⟩, H1)) (remF s n).length (fun i y G => y = ((i : Int), ()) ∧ BAt G G5.length n (fun k => if n - i ≤ k then co (remF s n) (n - 1 - k) else 0) ∧ Keep (fun j => j = G5.length) G5 G) (fun _ G => BAt G G5.length n (fun k => co (remF s n) (n - 1 - k)) ∧ Keep (fun j => j = G5.length) G5 G)
    (by
      rintro i _ G hi ⟨rfl, f1, f2⟩
      refine .inl ?_
      obtain ⟨b, o, e1, e2, _⟩ := (d2.keep (keep_one f2)).byte hi
      have hix : IntKind.wrap .i64 ((IntKind.wrap .i64 ((n : Int) - 1)) - (i : Int)) = ((n - 1 - i : Nat) : Int) := by
        rw [wrap_i64 (n := (n : Int) - 1) (by omega) (by omega), wrap_i64 (by omega) (by omega)]; omega
      obtain ⟨G2, m1, m2, m3⟩ := f1.set (i := n - 1 - i) (by omega) (co (remF s n) i)
      refine ⟨_, G2, ?_, rfl, m2.congr fun k hk => ?_, f2.trans m3⟩
      · unfold rs_Encode.s1
        simp only [decide_eq_true (show (i : Int) < (t5.len : Int) by omega), cond_t, e1, bind_some, e2, hix, BAt.at (show n - 1 - i < n by omega), m1, wrap_succ (show i < 9223372036854775807 by omega)]
      · by_cases h1 : k = n - 1 - i
        · rw [if_pos h1, if_pos (by omega)]; congr 1; omega
        · rw [if_neg h1]
          by_cases h2 : n - i ≤ k
          · rw [if_pos h2, if_pos (by omega)]
          · rw [if_neg h2, if_neg (by omega)])
    (by
      rintro _ G ⟨rfl, f1, f2⟩
      refine ⟨(), G, ?_, f1.congr fun k hk => ?_, f2⟩
      · unfold rs_Encode.s1
        simp only [decide_eq_false (show ¬ (((remF s n).length : Nat) : Int) < (t5.len : Int) by omega), cond_f]
      · by_cases h2 : n - (remF s n).length ≤ k
        · rw [if_pos h2]
        · rw [if_neg h2, co_ge (by omega)])
    (y := (((0 : Nat) : Int), ())) (H := H1) ⟨rfl, b0.congr fun k hk => by rw [if_neg (by omega)], Keep.push _ _ _⟩
  have l1' : loopW (rs_Encode.s1 (n : Int) ((t5, ()), G5) (⟨some (G5.length, 0), n, n⟩, H1)) (0, ()) H1 = some (u, G) := l1
  have hstr : strOf G ⟨some (G5.length, 0), n, n⟩ = some (tailF s n) := by
    unfold strOf
    rw [g1.poly.row.row]
    exact bytes_of_cells _
  have hcat : catS s (tailF s n) = some (encF s n) := cat_of (by unfold tailF; rw [pl_len]; omega)
  simp only [bind_some, Bool.not_true, cond_f, a1, b1, c1, d1, mk, l1', hstr, hcat]
theorem encode_no (s : Bytes) (n : Nat) (hl : s.length < 1000) (hn : n < 1000) (hck : ckB ((s.length + n : Nat) : Int) n = false) : rs_Encode s (n : Int) = some ([], 1, ()) := by
  unfold rs_Encode rs_Encode.on
  have hw : IntKind.wrap .i64 ((s.length : Int) + (n : Int)) = ((s.length + n : Nat) : Int) := by rw [wrap_i64 (by omega) (by omega)]; omega
  rw [hw, check_eq, hck]
  simp only [bind_some, Bool.not_false, cond_t]
end Ev
