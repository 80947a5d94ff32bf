/- Numbers in so many bytes: code.Fixed, code.value and the reader tell what the references tell. -/
import Derived.Test.YtfbecginbilemaaGCode
import Derived.Test.YtfbecginbilemaaAp
import Derived.Test.YtfbecginbilemaaCrc
namespace Ev
open Go (IntKind)

/-- A number in k bytes, the lowest first. -/
def leB : Nat → Nat → Bytes
  | 0, _ => []
  | k + 1, n => UInt8.ofNat (n % 256) :: leB k (n / 256)
theorem leB_length : ∀ (k n : Nat), (leB k n).length = k
  | 0, _ => rfl
  | k + 1, n => by simp [leB, leB_length k]
theorem leB_snoc : ∀ (k n : Nat), leB (k + 1) n = leB k n ++ [UInt8.ofNat (n / 256 ^ k % 256)]
  | 0, n => by simp [leB]
  | k + 1, n => by
    rw [leB, leB_snoc k, leB, Nat.div_div_eq_div_mul, List.cons_append, Nat.pow_succ, Nat.mul_comm 256]
/-- The number that bytes are. -/
def valB : Bytes → Nat
  | [] => 0
  | b :: s => b.toNat + 256 * valB s
theorem valB_lt : ∀ (s : Bytes), valB s < 256 ^ s.length
  | [] => by simp [valB]
  | b :: s => by
    have h1 := valB_lt s
    have h2 := b.toNat_lt
    rw [valB, List.length_cons, Nat.pow_succ]; omega
theorem valB_leB : ∀ (k n : Nat), n < 256 ^ k → valB (leB k n) = n
  | 0, n, h => by simp at h; simp [leB, valB, h]
  | k + 1, n, h => by
    rw [Nat.pow_succ] at h
    rw [leB, valB, valB_leB k _ (Nat.div_lt_of_lt_mul (by rw [Nat.mul_comm]; exact h))]
    have : (UInt8.ofNat (n % 256)).toNat = n % 256 := by simp
    rw [this]; omega
theorem leB_valB : ∀ (s : Bytes), leB s.length (valB s) = s
  | [] => rfl
  | b :: s => by
    have h2 := b.toNat_lt
    rw [List.length_cons, leB, valB]
    rw [show (b.toNat + 256 * valB s) % 256 = b.toNat by omega, show (b.toNat + 256 * valB s) / 256 = valB s by omega, leB_valB s]
    simp
theorem pow256 {k : Nat} (h : k ≤ 8) : 256 ^ k ≤ 18446744073709551616 := by
  have : 256 ^ k ≤ 256 ^ 8 := Nat.pow_le_pow_right (by decide) h
  simpa using this

theorem cells_snoc (s : Bytes) (b : UInt8) : cellsOf s ++ [.int .u8 (b.toNat : Int)] = cellsOf (s ++ [b]) := by simp [cellsOf]

theorem code_Fixed_eq (n k : Nat) (hn : n < 18446744073709551616) (hk : k ≤ 8) : code_Fixed (n : Int) (k : Int) = some (leB k n, ()) := by
  unfold code_Fixed code_Fixed.on
  obtain ⟨x, H', h1, h2⟩ := loopW_run (step := code_Fixed.s1 (n : Int) (k : Int)) (fun s H => ∃ i : Nat, i ≤ k ∧ s.2.1 = (i : Int) ∧ s.1.len = i ∧ Grown H 1 s.1 (cellsOf (leB i n))) (fun x H => Grown H 1 x.1 (cellsOf (leB k n))) (fun s _ => k - s.2.1.toNat)
    (by
      rintro ⟨s, j, u⟩ H ⟨i, hi, hj, hl, hg⟩
      have hj : j = (i : Int) := hj
      subst hj
      have hg : Grown H 1 s (cellsOf (leB i n)) := hg
      have hl : s.len = i := hl
      unfold code_Fixed.s1
      have hm : (if (8 : Int) < (if (0 : Int) > (k : Int) then 0 else (k : Int)) then 8 else (if (0 : Int) > (k : Int) then 0 else (k : Int))) = (k : Int) := by
        rw [if_neg (by omega), if_neg (by omega)]
      simp only [hm]
      by_cases hlt : i < k
      · have hd : decide ((i : Int) < (k : Int)) = true := decide_eq_true (by omega)
        have hw : IntKind.wrap .i64 (8 * (i : Int)) = ((8 * i : Nat) : Int) := by rw [wrap_i64 (by omega) (by omega)]; omega
        have hd2 : decide (((8 * i : Nat) : Int) < 0) = false := decide_eq_false (by omega)
        have hsh : IntKind.wrap .u8 (Int.fdiv (n : Int) (2 ^ (min (Int.toNat ((8 * i : Nat) : Int)) (IntKind.bits .u64)))) = (((UInt8.ofNat (n / 256 ^ i % 256)).toNat : Nat) : Int) := by
          rw [Int.toNat_natCast, show min (8 * i) (IntKind.bits .u64) = 8 * i by show min (8 * i) 64 = 8 * i; omega, shr_nat, wrap_u8, Nat.shiftRight_eq_div_pow, Nat.pow_mul]
          have : (UInt8.ofNat (n / 256 ^ i % 256)).toNat = n / 256 ^ i % 256 := by simp
          rw [this]; show ((n / 256 ^ i : Nat) : Int) % 256 = _; omega
        simp only [hd, cond_t, hw, hd2, cond_f, hsh]
        rw [row_last (by rfl), bind_some]
        obtain ⟨a1, a2⟩ := (hg.push (Blk.cells [.int .u8 (((UInt8.ofNat (n / 256 ^ i % 256)).toNat : Nat) : Int)] .exact)).app (bytes := 1) (by decide) (n := 1) (new := [.int .u8 (((UInt8.ofNat (n / 256 ^ i % 256)).toNat : Nat) : Int)]) (by decide) rfl (by omega) (by omega)
        rw [a1, bind_some]
        simp only [wrap_succ (show i < 9223372036854775807 by omega), Round]
        refine ⟨⟨i + 1, by omega, rfl, by simp [hl], ?_⟩, by simp; omega⟩
        rw [leB_snoc, ← cells_snoc]
        exact a2
      · have : i = k := by omega
        subst this
        have hd : decide ((i : Int) < (i : Int)) = false := decide_eq_false (by omega)
        simp only [hd, cond_f, Round]
        exact hg) (⟨none, 0, 0⟩, 0, ()) [] ⟨0, Nat.zero_le _, rfl, rfl, Grown.ni [] 1⟩
  rw [h1, bind_some]
  simp only [h2.str, bind_some]

theorem or_add {a b k : Nat} (h : b < 2 ^ k) : a * 2 ^ k ||| b = a * 2 ^ k + b := by
  rw [Nat.mul_comm]; exact (Nat.two_pow_add_eq_or_of_lt h a).symm

theorem value_step (s : Bytes) (i : Nat) (hi : i < s.length) : valB (s.drop i) = s[i].toNat + 256 * valB (s.drop (i + 1)) := by
  rw [List.drop_eq_getElem_cons hi]; rfl

theorem code_value_eq (s : Bytes) (hs : s.length ≤ 8) : code_value s = some (((valB s : Nat) : Int), ()) := by
  unfold code_value code_value.on
  have hl : loopW (code_value.s1 s) (0, (IntKind.wrap .i64 ((List.length (s : Bytes) : Int) - 1)), ()) [] = some ((((valB s : Nat) : Int), ()), []) := by
    refine loop_for' s.length (fun i => (((valB (s.drop (s.length - i)) : Nat) : Int), (s.length : Int) - 1 - (i : Int), ())) (fun _ => []) (by simp [valB, wrap_i64 (show -9223372036854775808 ≤ (s.length : Int) - 1 by omega) (by omega)]) rfl ?_ ?_
    · intro i hi
      unfold code_value.s1
      have hd : decide (0 ≤ (s.length : Int) - 1 - (i : Int)) = true := decide_eq_true (by omega)
      have hix : (s.length : Int) - 1 - (i : Int) = ((s.length - 1 - i : Nat) : Int) := by omega
      have hlt : s.length - 1 - i < s.length := by omega
      have hv := valB_lt (s.drop (s.length - i))
      have hb := s[s.length - 1 - i].toNat_lt
      have hdl : (s.drop (s.length - i)).length = i := by simp; omega
      rw [hdl] at hv
      have hp := pow256 (show i + 1 ≤ 8 by omega)
      rw [Nat.pow_succ] at hp
      have e1 : IntKind.wrap .u64 (((valB (s.drop (s.length - i)) : Nat) : Int) * 2 ^ (min (Int.toNat 8) (IntKind.bits .u64))) = ((valB (s.drop (s.length - i)) * 2 ^ 8 : Nat) : Int) := by
        rw [show min (Int.toNat 8) (IntKind.bits .u64) = 8 from rfl, wrap_u64]; omega
      have e2 : IntKind.wrap .u64 ((s[s.length - 1 - i].toNat : Nat) : Int) = ((s[s.length - 1 - i].toNat : Nat) : Int) := by rw [wrap_u64]; omega
      have e3 : IntKind.wrap .i64 (((s.length - 1 - i : Nat) : Int) - 1) = (s.length : Int) - 1 - ((i + 1 : Nat) : Int) := by rw [wrap_i64 (by omega) (by omega)]; omega
      simp only [hd, cond_t]
      rw [hix, idx_of hlt, bind_some, e1, e2, or64 (by omega) (by omega), or_add (by omega), e3]
      have e4 : s.length - 1 - i + 1 = s.length - i := by omega
      have hvs := value_step s (s.length - 1 - i) hlt
      rw [e4] at hvs
      rw [show s.length - (i + 1) = s.length - 1 - i by omega, hvs, Nat.add_comm, Nat.mul_comm]
    · unfold code_value.s1
      have hd : decide (0 ≤ (s.length : Int) - 1 - (s.length : Int)) = false := decide_eq_false (by omega)
      simp only [hd, cond_f, Nat.sub_self, List.drop_zero]
  rw [hl]; rfl

/-! The reader: a block with the bytes that are left, and the first error. -/
def rdr (s : Bytes) (e : Int) : Blk := .cells [.str s, .int .i64 e] .exact
theorem rdr_s {H : Heap} {b : Nat} {s : Bytes} {e : Int} (h : H[b]? = some (rdr s e)) : rdS H b 0 = some s := rdS_of h rfl
theorem rdr_e {H : Heap} {b : Nat} {s : Bytes} {e : Int} (h : H[b]? = some (rdr s e)) : rdI .i64 H b 1 = some e := rdI_of h rfl

theorem code_New_eq (s : Bytes) (H : Heap) : code_New s H = some ((some (H.length, 0), ()), H ++ [rdr s 0]) := rfl

theorem code_Bytes_eq {H : Heap} {b : Nat} {s : Bytes} (h : H[b]? = some (rdr s 0)) {n : Nat} (hn : n ≤ s.length) :
    code_Reader_Bytes (some (b, 0)) (n : Int) H = some ((s.take n, ()), H.set b (rdr (s.drop n) 0)) := by
  unfold code_Reader_Bytes code_Reader_Err
  have d1 : decide ((n : Int) < 0) = false := decide_eq_false (by omega)
  have d2 : decide ((s.length : Int) < (n : Int)) = false := decide_eq_false (by omega)
  have hw : wr H b 0 [.str ((s.take s.length).drop n)] = some (H.set b (rdr (s.drop n) 0)) := by
    rw [wr1_of h (by decide) (by simp)]; simp [rdr]
  simp only [Option.isNone_some, cond_f, bind_some, Nat.zero_add, rdr_e h, decide_true, Bool.not_true, d1, rdr_s h, d2]
  rw [show (0 : Int) = ((0 : Nat) : Int) from rfl, sub_of (Nat.zero_le _) hn, bind_some, sub_of hn (Nat.le_refl _), bind_some, hw]
  rfl
theorem code_RFixed_eq {H : Heap} {b : Nat} {s : Bytes} (h : H[b]? = some (rdr s 0)) {n : Nat} (hn : n ≤ s.length) (h8 : n ≤ 8) :
    code_Reader_Fixed (some (b, 0)) (n : Int) H = some ((((valB (s.take n) : Nat) : Int), ()), H.set b (rdr (s.drop n) 0)) := by
  unfold code_Reader_Fixed
  have hm : (if (8 : Int) < (if (0 : Int) > (n : Int) then 0 else (n : Int)) then 8 else (if (0 : Int) > (n : Int) then 0 else (n : Int))) = (n : Int) := by
    rw [if_neg (by omega), if_neg (by omega)]
  rw [hm, code_Bytes_eq h hn, bind_some, code_value_eq _ (by simp; omega), bind_some]
end Ev
