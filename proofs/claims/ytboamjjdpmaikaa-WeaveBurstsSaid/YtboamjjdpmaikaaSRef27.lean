/- The document's field is the same one. -/
import Derived.Test.YtboamjjdpmaikaaGRef27
import Derived.Test.YtboamjjdpmaikaaSGf
namespace Ev
open Go (IntKind)

def clN (a b : Nat) : Nat → Nat
  | 0 => 0
  | i + 1 => clN a b i ^^^ (if b.testBit i then a <<< i else 0)
def redT (b : Bool) (i : Nat) : Nat := if b then 285 <<< (i - 8) else 0
def redS (n i : Nat) : Nat := n ^^^ redT (n.testBit i) i
def red : Nat → Nat → Nat
  | 0, n => n
  | k + 1, n => red k (redS n (k + 8))
theorem redT_xor (x y : Bool) (i : Nat) : redT (x ^^ y) i = redT x i ^^^ redT y i := by cases x <;> cases y <;> simp [redT]
theorem redS_lin (a b i : Nat) : redS (a ^^^ b) i = redS a i ^^^ redS b i := by
  unfold redS
  rw [Nat.testBit_xor, redT_xor]
  ac_rfl
theorem red_lin : ∀ (k a b : Nat), red k (a ^^^ b) = red k a ^^^ red k b
  | 0, _, _ => rfl
  | k + 1, a, b => by rw [red, redS_lin, red_lin k]; rfl
theorem red_none : ∀ k, red k 0 = 0
  | 0 => rfl
  | k + 1 => by
    have : redS 0 (k + 8) = 0 := by simp [redS, redT]
    rw [red, this, red_none k]
theorem red_shift : ∀ a, a < 256 → ∀ i, i < 8 → red 7 (a <<< i) = xts i a := by decide +kernel
theorem red_cl {a b : Nat} (ha : a < 256) : ∀ i, i ≤ 8 → red 7 (clN a b i) ^^^ mulK (8 - i) (xts i a) (b / 2 ^ i) = mulK 8 a b
  | 0, _ => by
    rw [clN, red_none, Nat.zero_xor, Nat.pow_zero, Nat.div_one]; rfl
  | i + 1, h => by
    rw [← red_cl ha i (by omega), clN, red_lin, show 8 - i = (8 - (i + 1)) + 1 by omega, mulK, Nat.xor_assoc, Nat.div_div_eq_div_mul, ← Nat.pow_succ]
    congr 1
    have hx : xt (xts i a) = xts (i + 1) a := rfl
    rw [hx]
    congr 1
    rw [Nat.testBit_eq_decide_div_mod_eq]
    by_cases hb : b / 2 ^ i % 2 = 1
    · rw [decide_eq_true hb, if_pos rfl, if_pos hb, red_shift a ha i (by omega)]
    · rw [decide_eq_false hb, if_neg (by decide), if_neg hb, red_none]
theorem red_mul {a b : Nat} (ha : a < 256) : red 7 (clN a b 8) = mulK 8 a b := by
  have := red_cl (b := b) ha 8 (Nat.le_refl _)
  rw [Nat.sub_self, mulK, Nat.xor_zero] at this
  exact this
theorem shl_lt {a i : Nat} (ha : a < 512) (hi : i < 8) : a <<< i < 65536 := by
  rw [Nat.shiftLeft_eq]
  have : 2 ^ i ≤ 2 ^ 7 := Nat.pow_le_pow_right (by decide) (by omega)
  have := Nat.mul_le_mul (Nat.le_of_lt_succ ha) this
  omega
theorem clN_lt {a b : Nat} (ha : a < 256) : ∀ i, i ≤ 8 → clN a b i < 65536
  | 0, _ => by simp [clN]
  | i + 1, h => by
    rw [clN]
    refine Nat.xor_lt_two_pow (n := 16) (clN_lt ha i (by omega)) ?_
    split
    · exact shl_lt (by omega) (by omega)
    · decide
theorem redS_lt {n i : Nat} (hn : n < 65536) (hi : i < 15) : redS n i < 65536 := by
  unfold redS redT
  refine Nat.xor_lt_two_pow (n := 16) hn ?_
  split
  · exact shl_lt (by decide) (by omega)
  · decide
theorem sh_of {a i : Nat} (ha : a < 512) (hi : i < 8) : IntKind.wrap .i64 ((a : Int) * 2 ^ i) = ((a <<< i : Nat) : Int) := by
  have h1 : (a : Int) * 2 ^ i = ((a <<< i : Nat) : Int) := by
    rw [Nat.shiftLeft_eq, Int.natCast_mul, Int.natCast_pow]; rfl
  have := shl_lt ha hi
  rw [h1]
  generalize a <<< i = m at this
  exact wrap_i64 (by omega) (by omega)
theorem u64_of {i : Nat} (hi : i < 64) : IntKind.wrap .u64 (i : Int) = (i : Int) := by rw [wrap_u64]; omega
theorem amt_of {i : Nat} (hi : i < 64) : min (Int.toNat (i : Int)) (IntKind.bits .i64) = i := by
  rw [Int.toNat_natCast]
  exact Nat.min_eq_left (by show i ≤ 64; omega)
theorem bit_of (n i : Nat) : decide (Int.tmod (Int.fdiv (n : Int) (2 ^ i)) 2 = 1) = n.testBit i := by
  rw [shr_nat, show Int.tmod ((n >>> i : Nat) : Int) 2 = ((n >>> i % 2 : Nat) : Int) from rfl, Nat.testBit_eq_decide_div_mod_eq, Nat.shiftRight_eq_div_pow]
  by_cases h : n / 2 ^ i % 2 = 1
  · rw [decide_eq_true h, decide_eq_true (by omega)]
  · rw [decide_eq_false h, decide_eq_false (by omega)]
theorem ref27_Mul_eq (a b : UInt8) : ref27_Mul (un a) (un b) = some (un (gm a b), ()) := by
  have ha := a.toNat_lt
  have hb := b.toNat_lt
  have hwa : IntKind.wrap .i64 (un a) = ((a.toNat : Nat) : Int) := wrap_i64 (by have := un_lt a; omega) (by have := un_lt a; omega)
  have hwb : IntKind.wrap .i64 (un b) = ((b.toNat : Nat) : Int) := wrap_i64 (by have := un_lt b; omega) (by have := un_lt b; omega)
  have l1 : loopW (ref27_Mul.s1 (un a) (un b)) (0, 0, ()) [] = some ((((clN a.toNat b.toNat 8 : Nat) : Int), ()), []) := loop_for' 8 (fun i => (((clN a.toNat b.toNat i : Nat) : Int), (i : Int), ())) (fun _ => []) rfl rfl (fun i hi => by
      have hlt := clN_lt (b := b.toNat) ha i (by omega)
      have hsl := shl_lt (i := i) (show a.toNat < 512 by omega) hi
      unfold ref27_Mul.s1
      simp only [decide_eq_true (show (i : Int) < 8 by omega), cond_t, u64_of (show i < 64 by omega), decide_eq_false (show ¬ (i : Int) < 0 by omega), cond_f, amt_of (show i < 64 by omega), hwa, hwb, bit_of, sh_of (show a.toNat < 512 by omega) hi, wrap_succ (show i < 9223372036854775807 by omega)]
      rw [clN]
      cases b.toNat.testBit i with
      | true =>
        simp only [cond_t, if_true]
        rw [xor_i64 (by omega) (by omega)]
      | false => simp only [cond_f, Bool.false_eq_true, if_false, Nat.xor_zero]) (by
      unfold ref27_Mul.s1
      simp only [decide_eq_false (show ¬ ((8 : Nat) : Int) < 8 by omega), cond_f])
  obtain ⟨n, G, l2, rfl, rfl⟩ := loop_rise (step := ref27_Mul.s2) 7 (fun j y G => G = [] ∧ ∃ n : Nat, n < 65536 ∧ y = ((n : Int), (14 : Int) - (j : Int), ()) ∧ red (7 - j) n = red 7 (clN a.toNat b.toNat 8)) (fun x G => G = [] ∧ x = (((red 7 (clN a.toNat b.toNat 8) : Nat) : Int), ()))
    (by
      rintro j _ G hj ⟨rfl, n, hn, rfl, hr⟩
      left
      have hi : (14 : Int) - (j : Int) = ((14 - j : Nat) : Int) := by omega
      have hw1 : IntKind.wrap .i64 (((14 - j : Nat) : Int) - 8) = ((6 - j : Nat) : Int) := by rw [wrap_i64 (by omega) (by omega)]; omega
      have hw2 : IntKind.wrap .i64 (((14 - j : Nat) : Int) - 1) = (14 : Int) - ((j + 1 : Nat) : Int) := by rw [wrap_i64 (by omega) (by omega)]; omega
      have h285 := sh_of (a := 285) (i := 6 - j) (by decide) (by omega)
      have hsl := shl_lt (a := 285) (i := 6 - j) (by decide) (by omega)
      refine ⟨(((redS n (14 - j) : Nat) : Int), (14 : Int) - ((j + 1 : Nat) : Int), ()), [], ?_, rfl, redS n (14 - j), redS_lt hn (by omega), rfl, ?_⟩
      · rw [hi]
        unfold ref27_Mul.s2
        simp only [decide_eq_true (show (8 : Int) ≤ ((14 - j : Nat) : Int) by omega), cond_t, u64_of (show 14 - j < 64 by omega), decide_eq_false (show ¬ ((14 - j : Nat) : Int) < 0 by omega), cond_f, amt_of (show 14 - j < 64 by omega), bit_of, hw1, u64_of (show 6 - j < 64 by omega), decide_eq_false (show ¬ ((6 - j : Nat) : Int) < 0 by omega), amt_of (show 6 - j < 64 by omega), hw2]
        have h285' : IntKind.wrap .i64 (285 * 2 ^ (6 - j)) = ((285 <<< (6 - j) : Nat) : Int) := h285
        unfold redS redT
        rw [show 14 - j - 8 = 6 - j by omega]
        cases n.testBit (14 - j) with
        | true =>
          simp only [cond_t, if_true, h285']
          rw [xor_i64 (by omega) (by omega)]
        | false => simp only [cond_f, Bool.false_eq_true, if_false, Nat.xor_zero]
      · rw [← hr, show 7 - j = (7 - (j + 1)) + 1 by omega, red, show 7 - (j + 1) + 8 = 14 - j by omega])
    (by
      rintro _ G ⟨rfl, n, hn, rfl, hr⟩
      refine ⟨((n : Int), ()), [], ?_, rfl, by rw [← hr]; rfl⟩
      unfold ref27_Mul.s2
      simp only [decide_eq_false (show ¬ (8 : Int) ≤ (14 : Int) - ((7 : Nat) : Int) by omega), cond_f])
    (y := (((clN a.toNat b.toNat 8 : Nat) : Int), 14, ())) (H := []) ⟨rfl, _, clN_lt ha 8 (Nat.le_refl _), rfl, rfl⟩
  unfold ref27_Mul ref27_Mul.on
  simp only [l1, bind_some, l2, red_mul ha]
  have h1 := mulK_lt 8 a.toNat b.toNat ha
  have : IntKind.wrap .u8 ((mulK 8 a.toNat b.toNat : Nat) : Int) = un (gm a b) := by
    rw [wrap_u8]
    unfold un
    rw [gm_toN]; omega
  rw [this]
theorem ref27_Pow_eq (a : UInt8) (n : Nat) (hn : n < 1000000) : ref27_Pow (un a) (n : Int) = some (un (gpow a n), ()) := by
  have l1 : loopW (ref27_Pow.s1 (un a) (n : Int)) (1, 0, ()) [] = some ((un (gpow a n), ()), []) := loop_for' n (fun i => (un (gpow a i), (i : Int), ())) (fun _ => []) rfl rfl (fun i hi => by
      unfold ref27_Pow.s1
      simp only [decide_eq_true (show (i : Int) < (n : Int) by omega), cond_t, ref27_Mul_eq, bind_some, wrap_succ (show i < 9223372036854775807 by omega)]
      rw [gpow, gm_comm]) (by
      unfold ref27_Pow.s1
      simp only [decide_eq_false (show ¬ ((n : Nat) : Int) < (n : Int) by omega), cond_f])
  unfold ref27_Pow ref27_Pow.on
  simp only [l1, bind_some]
end Ev
