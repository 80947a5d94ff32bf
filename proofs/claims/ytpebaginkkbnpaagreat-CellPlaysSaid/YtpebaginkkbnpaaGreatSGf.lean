/- The field's functions. -/
import Derived.Test.YtpebaginkkbnpaaGreatGGf
import Derived.Test.YtpebaginkkbnpaaGreatGf
import Derived.Test.YtpebaginkkbnpaaGreatSGrow
import Derived.Test.YtpebaginkkbnpaaGreatUp
namespace Ev
open Go (IntKind)

abbrev un (a : UInt8) : Int := ((a.toNat : Nat) : Int)
theorem un_inj {a b : UInt8} : un a = un b ↔ a = b := by
  constructor
  · intro h; exact UInt8.toNat_inj.1 (Int.natCast_inj.1 h)
  · rintro rfl; rfl
theorem un_zero (a : UInt8) : un a = 0 ↔ a = 0 := un_inj (b := 0)
theorem un_lt (a : UInt8) : 0 ≤ un a ∧ un a < 256 := by
  have := a.toNat_lt
  show 0 ≤ ((a.toNat : Nat) : Int) ∧ ((a.toNat : Nat) : Int) < 256
  omega
theorem un_xor (a b : UInt8) : bitsI .xor .u8 (un a) (un b) = un (a ^^^ b) := by
  rw [xor8 a.toNat_lt b.toNat_lt, ← UInt8.toNat_xor]
theorem xor_i64 {a b : Nat} (ha : a < 9223372036854775808) (hb : b < 9223372036854775808) : bitsI .xor .i64 (a : Int) (b : Int) = ((a ^^^ b : Nat) : Int) := by
  have hx : a ^^^ b < 2 ^ 63 := Nat.xor_lt_two_pow (n := 63) ha hb
  simp only [bitsI]
  rw [BitVec.toNat_xor, ofInt_nat _ a (by show a < 2 ^ 64; omega), ofInt_nat _ b (by show b < 2 ^ 64; omega)]
  exact wrap_i64 (by omega) (by omega)

theorem mul_iter : ∀ (k n x m : Nat) (H : Heap), m < 2 ^ k → m < 256 → x < 256 → n < 256 → ∃ j, iter gf_Mul.s1 j ((n : Int), (x : Int), (m : Int), ()) H = some ((((n ^^^ mulK k x m : Nat) : Int), ()), H)
  | 0, n, x, m, H, hm, _, _, _ => by
    have : m = 0 := by omega
    subst this
    refine ⟨1, ?_⟩
    rw [iter]
    unfold gf_Mul.s1
    simp only [decide_eq_false (show ¬ (0 : Int) < ((0 : Nat) : Int) by omega), cond_f, mulK, Nat.xor_zero]
    rfl
  | k + 1, n, x, m, H, hm, hm2, hx, hn => by
    by_cases h0 : m = 0
    · subst h0
      refine ⟨1, ?_⟩
      rw [iter]
      unfold gf_Mul.s1
      simp only [decide_eq_false (show ¬ (0 : Int) < ((0 : Nat) : Int) by omega), cond_f, mulK_none, Nat.xor_zero]
      rfl
    · have hn2 : (if m % 2 = 1 then n ^^^ x else n) < 256 := by
        split
        · exact xor_lt hn hx
        · exact hn
      obtain ⟨j, hj⟩ := mul_iter k (if m % 2 = 1 then n ^^^ x else n) (xt x) (m / 2) H (by rw [Nat.pow_succ] at hm; omega) (by omega) (xt_lt x hx) hn2
      refine ⟨j + 1, ?_⟩
      have hstep : gf_Mul.s1 ((n : Int), (x : Int), (m : Int), ()) H = some (.inl ((((if m % 2 = 1 then n ^^^ x else n) : Nat) : Int), ((xt x : Nat) : Int), ((m / 2 : Nat) : Int), ()), H) := by
        unfold gf_Mul.s1
        have hand : bitsI .and .u8 (m : Int) 1 = ((m % 2 : Nat) : Int) := by
          rw [show (1 : Int) = ((1 : Nat) : Int) from rfl, and8 hm2 (by decide), Nat.and_one_is_mod]
        have hsh : IntKind.wrap .i64 ((x : Int) * 2 ^ (min (Int.toNat 1) (IntKind.bits .i64))) = ((2 * x : Nat) : Int) := by
          rw [show (2 : Int) ^ (min (Int.toNat 1) (IntKind.bits .i64)) = 2 from rfl, wrap_i64 (by omega) (by omega)]; omega
        have hdv : Int.fdiv (m : Int) (2 ^ (min (Int.toNat 1) (IntKind.bits .u8))) = ((m / 2 : Nat) : Int) := by
          rw [show (2 : Int) ^ (min (Int.toNat 1) (IntKind.bits .u8)) = ((2 : Nat) : Int) from rfl, fdiv_nat]
        have hxt : (cond (decide ((255 : Int) < ((2 * x : Nat) : Int))) (((2 * x ^^^ 285 : Nat) : Int)) (((2 * x : Nat) : Int))) = ((xt x : Nat) : Int) := by
          unfold xt
          by_cases h : 255 < 2 * x
          · rw [decide_eq_true (show (255 : Int) < ((2 * x : Nat) : Int) by omega), cond_t, if_pos h]
          · rw [decide_eq_false (show ¬ (255 : Int) < ((2 * x : Nat) : Int) by omega), cond_f, if_neg h]
        have hx285 : bitsI .xor .i64 ((2 * x : Nat) : Int) 285 = ((2 * x ^^^ 285 : Nat) : Int) := xor_i64 (b := 285) (by omega) (by decide)
        have hnx : bitsI .xor .i64 (n : Int) (x : Int) = ((n ^^^ x : Nat) : Int) := xor_i64 (by omega) (by omega)
        simp only [decide_eq_true (show (0 : Int) < (m : Int) by omega), cond_t, hand, hsh, hdv, hx285, hnx]
        by_cases hb : m % 2 = 1
        · simp only [decide_eq_true (show ((m % 2 : Nat) : Int) = 1 by omega), cond_t, bind_some, if_pos hb]
          rw [← hxt]
          cases decide ((255 : Int) < ((2 * x : Nat) : Int)) <;> rfl
        · simp only [decide_eq_false (show ¬ ((m % 2 : Nat) : Int) = 1 by omega), cond_f, bind_some, if_neg hb]
          rw [← hxt]
          cases decide ((255 : Int) < ((2 * x : Nat) : Int)) <;> rfl
      rw [iter, hstep]
      show iter gf_Mul.s1 j _ H = _
      rw [hj, mulK]
      congr 4
      split
      · rw [Nat.xor_assoc]
      · rw [Nat.zero_xor]
theorem gf_Mul_eq (a b : UInt8) : gf_Mul (un a) (un b) = some (un (gm a b), ()) := by
  obtain ⟨j, hj⟩ := mul_iter 8 0 a.toNat b.toNat [] b.toNat_lt b.toNat_lt a.toNat_lt (by decide)
  have l1 : loopW gf_Mul.s1 (0, un a, un b, ()) [] = some ((((0 ^^^ mulK 8 a.toNat b.toNat : Nat) : Int), ()), []) := loopW_eq hj
  have hw : IntKind.wrap .i64 (un a) = un a := wrap_i64 (by have := un_lt a; omega) (by have := un_lt a; omega)
  unfold gf_Mul gf_Mul.on
  rw [hw]
  simp only [l1, bind_some, Nat.zero_xor]
  have h1 := mulK_lt 8 a.toNat b.toNat a.toNat_lt
  have : IntKind.wrap .u8 ((mulK 8 a.toNat b.toNat : Nat) : Int) = un (gm a b) := by
    rw [wrap_u8]
    unfold un
    rw [gm_toN]; omega
  rw [this]

theorem gpow_two (a : UInt8) (q : Nat) : gpow (gm a a) q = gpow a (2 * q) := by
  have : gpow a 2 = gm a a := by rw [gpow, gpow, gpow, gm_one]
  rw [gpow_mul, this]
theorem pow_iter : ∀ (k m : Nat) (a out : UInt8) (H : Heap), m < 2 ^ k → m < 256 → ∃ j, iter gf_Pow.s1 j (un a, un out, (m : Int), ()) H = some (((un (gm out (gpow a m))), ()), H)
  | 0, m, a, out, H, hm, _ => by
    have : m = 0 := by omega
    subst this
    refine ⟨1, ?_⟩
    rw [iter]
    unfold gf_Pow.s1
    simp only [decide_eq_false (show ¬ (0 : Int) < ((0 : Nat) : Int) by omega), cond_f, gpow, gm_one]
    rfl
  | k + 1, m, a, out, H, hm, hm2 => by
    by_cases h0 : m = 0
    · subst h0
      refine ⟨1, ?_⟩
      rw [iter]
      unfold gf_Pow.s1
      simp only [decide_eq_false (show ¬ (0 : Int) < ((0 : Nat) : Int) by omega), cond_f, gpow, gm_one]
      rfl
    · obtain ⟨j, hj⟩ := pow_iter k (m / 2) (gm a a) (if m % 2 = 1 then gm out a else out) H (by rw [Nat.pow_succ] at hm; omega) (by omega)
      refine ⟨j + 1, ?_⟩
      have hstep : gf_Pow.s1 (un a, un out, (m : Int), ()) H = some (.inl (un (gm a a), un (if m % 2 = 1 then gm out a else out), ((m / 2 : Nat) : Int), ()), H) := by
        unfold gf_Pow.s1
        have hand : bitsI .and .i64 (m : Int) 1 = ((m % 2 : Nat) : Int) := by
          simp only [bitsI]
          rw [BitVec.toNat_and, ofInt_nat _ m (by show m < 2 ^ 64; omega), show (1 : Int) = ((1 : Nat) : Int) from rfl, ofInt_nat _ 1 (by decide), Nat.and_one_is_mod]
          exact wrap_i64 (by omega) (by omega)
        have hdv : Int.fdiv (m : Int) (2 ^ (min (Int.toNat 1) (IntKind.bits .i64))) = ((m / 2 : Nat) : Int) := by
          rw [show (2 : Int) ^ (min (Int.toNat 1) (IntKind.bits .i64)) = ((2 : Nat) : Int) from rfl, fdiv_nat]
        by_cases hb : m % 2 = 1
        · simp only [decide_eq_true (show (0 : Int) < (m : Int) by omega), cond_t, hand, hdv, decide_eq_true (show ((m % 2 : Nat) : Int) = 1 by omega), gf_Mul_eq, bind_some, if_pos hb]
        · simp only [decide_eq_true (show (0 : Int) < (m : Int) by omega), cond_t, hand, hdv, decide_eq_false (show ¬ ((m % 2 : Nat) : Int) = 1 by omega), cond_f, gf_Mul_eq, bind_some, if_neg hb]
      rw [iter, hstep]
      show iter gf_Pow.s1 j _ H = _
      rw [hj, gpow_two]
      have hm3 : m = 2 * (m / 2) + m % 2 := by omega
      congr 4
      by_cases hb : m % 2 = 1
      · rw [if_pos hb]
        rw [show gpow a m = gpow a (1 + 2 * (m / 2)) by congr 1; omega, gpow_add]
        have : gpow a 1 = a := by rw [gpow, gpow, gm_one]
        rw [this, gm_assoc]
      · rw [if_neg hb, show gpow a m = gpow a (2 * (m / 2)) by congr 1; omega]
theorem gf_Pow_eq {a : UInt8} (ha : a ≠ 0) {n : Int} {m : Nat} (hm : Int.tmod (IntKind.wrap .i64 ((Int.tmod n 255) + 255)) 255 = (m : Int)) (hm2 : m < 256) : gf_Pow (un a) n = some (un (gpow a m), ()) := by
  have h0 : decide (un a = 0) = false := decide_eq_false fun h => ha ((un_zero a).1 h)
  obtain ⟨j, hj⟩ := pow_iter 8 m a 1 [] hm2 hm2
  have l1 : loopW gf_Pow.s1 (un a, 1, (m : Int), ()) [] = some (((un (gm 1 (gpow a m))), ()), []) := loopW_eq hj
  unfold gf_Pow gf_Pow.on
  rw [hm]
  simp only [h0, cond_f, l1, bind_some, one_gm]
theorem root_nat (n : Nat) (h : n < 1000000) : Int.tmod (IntKind.wrap .i64 ((Int.tmod (n : Int) 255) + 255)) 255 = ((n % 255 : Nat) : Int) := by
  have h1 : Int.tmod (n : Int) 255 = ((n % 255 : Nat) : Int) := rfl
  rw [h1, wrap_i64 (by omega) (by omega), show ((n % 255 : Nat) : Int) + 255 = ((n % 255 + 255 : Nat) : Int) by omega]
  show (((n % 255 + 255) % 255 : Nat) : Int) = _
  omega
theorem gf_Root_eq (n : Nat) (h : n < 1000000) : gf_Root (n : Int) = some (un (gp n), ()) := by
  unfold gf_Root gf_Root.on
  have h2 : (2 : Int) = un 2 := rfl
  rw [h2, gf_Pow_eq (by decide) (root_nat n h) (by omega), bind_some, gp_gpow, gp_mod]
theorem root_neg (n : Nat) (h : n < 255) : Int.tmod (IntKind.wrap .i64 ((Int.tmod (-(n : Int)) 255) + 255)) 255 = (((255 - n) % 255 : Nat) : Int) := by
  have h1 : Int.tmod (-(n : Int)) 255 = -(n : Int) := by
    rw [Int.neg_tmod, show Int.tmod (n : Int) 255 = ((n % 255 : Nat) : Int) from rfl, Nat.mod_eq_of_lt h]
  rw [h1, wrap_i64 (by omega) (by omega), show -(n : Int) + 255 = ((255 - n : Nat) : Int) by omega]
  rfl
theorem gf_Root_neg (n : Nat) (h : n < 255) : gf_Root (-(n : Int)) = some (un (gp (255 - n)), ()) := by
  unfold gf_Root gf_Root.on
  have h2 : (2 : Int) = un 2 := rfl
  rw [h2, gf_Pow_eq (by decide) (root_neg n h) (by omega), bind_some, gp_gpow, gp_mod]
theorem gf_Inv_eq (a : UInt8) : gf_Inv (un a) = some (un (ginv a), ()) := by
  unfold gf_Inv gf_Inv.on
  by_cases h : a = 0
  · rw [decide_eq_true ((un_zero a).2 h), cond_t]
    unfold ginv
    rw [if_pos h]; rfl
  · have h1 : gf_Pow (un a) (-1) = some (un (gpow a 254), ()) := gf_Pow_eq h (m := 254) (root_neg 1 (by decide)) (by decide)
    rw [decide_eq_false (fun hh => h ((un_zero a).1 hh)), cond_f, h1, bind_some]
    unfold ginv
    rw [if_neg h]
end Ev
