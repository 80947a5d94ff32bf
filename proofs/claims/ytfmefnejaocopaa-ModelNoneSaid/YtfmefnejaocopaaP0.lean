/- Plain facts on numbers as the evaluator has them: wrapping, bitwise operators on natural numbers, shifts. -/
import Derived.Test.YtfmefnejaocopaaEvCore
namespace Ev
open Go (IntKind)

theorem wrapU {k : IntKind} (hk : k.signed = false) (n : Int) : k.wrap n = n % (2 ^ k.bits : Int) := by
  simp [IntKind.wrap, hk]
theorem wrap_u8 (n : Int) : IntKind.wrap .u8 n = n % 256 := by simp [IntKind.wrap, IntKind.signed, IntKind.bits]
theorem wrap_u16 (n : Int) : IntKind.wrap .u16 n = n % 65536 := by simp [IntKind.wrap, IntKind.signed, IntKind.bits]
theorem wrap_u32 (n : Int) : IntKind.wrap .u32 n = n % 4294967296 := by simp [IntKind.wrap, IntKind.signed, IntKind.bits]
theorem wrap_u64 (n : Int) : IntKind.wrap .u64 n = n % 18446744073709551616 := by simp [IntKind.wrap, IntKind.signed, IntKind.bits]

theorem ofInt_nat (w a : Nat) (h : a < 2 ^ w) : (BitVec.ofInt w (a : Int)).toNat = a := by
  rw [BitVec.ofInt_natCast]; simp [Nat.mod_eq_of_lt h]

theorem xor_nat {k : IntKind} (hk : k.signed = false) {a b : Nat} (ha : a < 2 ^ k.bits) (hb : b < 2 ^ k.bits) : bitsI .xor k (a : Int) (b : Int) = ((a ^^^ b : Nat) : Int) := by
  simp only [bitsI]
  rw [wrapU hk, BitVec.toNat_xor, ofInt_nat _ _ ha, ofInt_nat _ _ hb]
  have := Nat.xor_lt_two_pow ha hb
  rw [Int.emod_eq_of_lt (by omega) (by exact_mod_cast this)]
theorem and_nat {k : IntKind} (hk : k.signed = false) {a b : Nat} (ha : a < 2 ^ k.bits) (hb : b < 2 ^ k.bits) : bitsI .and k (a : Int) (b : Int) = ((a &&& b : Nat) : Int) := by
  simp only [bitsI]
  rw [wrapU hk, BitVec.toNat_and, ofInt_nat _ _ ha, ofInt_nat _ _ hb]
  have := Nat.and_lt_two_pow a hb
  rw [Int.emod_eq_of_lt (by omega) (by exact_mod_cast this)]
theorem or_nat {k : IntKind} (hk : k.signed = false) {a b : Nat} (ha : a < 2 ^ k.bits) (hb : b < 2 ^ k.bits) : bitsI .or k (a : Int) (b : Int) = ((a ||| b : Nat) : Int) := by
  simp only [bitsI]
  rw [wrapU hk, BitVec.toNat_or, ofInt_nat _ _ ha, ofInt_nat _ _ hb]
  have := Nat.or_lt_two_pow ha hb
  rw [Int.emod_eq_of_lt (by omega) (by exact_mod_cast this)]

theorem xor32 {a b : Nat} (ha : a < 4294967296) (hb : b < 4294967296) : bitsI .xor .u32 (a : Int) (b : Int) = ((a ^^^ b : Nat) : Int) := xor_nat rfl ha hb
theorem and32 {a b : Nat} (ha : a < 4294967296) (hb : b < 4294967296) : bitsI .and .u32 (a : Int) (b : Int) = ((a &&& b : Nat) : Int) := and_nat rfl ha hb
theorem xor8 {a b : Nat} (ha : a < 256) (hb : b < 256) : bitsI .xor .u8 (a : Int) (b : Int) = ((a ^^^ b : Nat) : Int) := xor_nat rfl ha hb
theorem and8 {a b : Nat} (ha : a < 256) (hb : b < 256) : bitsI .and .u8 (a : Int) (b : Int) = ((a &&& b : Nat) : Int) := and_nat rfl ha hb
theorem or64 {a b : Nat} (ha : a < 18446744073709551616) (hb : b < 18446744073709551616) : bitsI .or .u64 (a : Int) (b : Int) = ((a ||| b : Nat) : Int) := or_nat rfl ha hb

theorem fdiv_nat (a : Nat) (n : Nat) : Int.fdiv (a : Int) ((n : Nat) : Int) = ((a / n : Nat) : Int) := by
  rw [Int.fdiv_eq_ediv_of_nonneg _ (by omega)]; exact (Int.natCast_ediv a n).symm
theorem shr_nat (a s : Nat) : Int.fdiv (a : Int) (2 ^ s) = ((a >>> s : Nat) : Int) := by
  rw [Nat.shiftRight_eq_div_pow, ← fdiv_nat]; norm_cast

/-- A number of int64, anded with a bound whose bits are all set. -/
theorem and_ones {k : IntKind} {x m : Int} (n : Nat) (hm : m = 2 ^ n - 1) (hn : n < k.bits) : 0 ≤ bitsI .and k x m ∧ bitsI .and k x m ≤ m := by
  have hb : (BitVec.ofInt k.bits x &&& BitVec.ofInt k.bits m).toNat ≤ m.toNat := by
    rw [BitVec.toNat_and]
    have e : (BitVec.ofInt k.bits m).toNat = m.toNat := by
      subst hm
      rw [BitVec.toNat_ofInt, Int.emod_eq_of_lt]
      · have : (0 : Int) < 2 ^ n := Int.pow_pos (by decide)
        omega
      · have h2 : (2 : Int) ^ n ≤ 2 ^ k.bits := by
          exact_mod_cast Nat.pow_le_pow_right (by decide) (Nat.le_of_lt hn)
        push_cast
        omega
    rw [e]
    exact Nat.and_le_right
  have hm0 : 0 ≤ m := by
    subst hm
    have : (0 : Int) < 2 ^ n := Int.pow_pos (by decide)
    omega
  have h2 : (2 : Int) ^ n ≤ 2 ^ (k.bits - 1) := by
    exact_mod_cast Nat.pow_le_pow_right (by decide) (by omega)
  have h3 : (2 : Int) ^ (k.bits - 1) ≤ 2 ^ k.bits := by
    exact_mod_cast Nat.pow_le_pow_right (by decide) (by omega)
  simp only [bitsI]
  generalize (BitVec.ofInt k.bits x &&& BitVec.ofInt k.bits m).toNat = q at hb
  have hq : (q : Int) ≤ m := by omega
  have : k.wrap (q : Int) = q := by
    unfold IntKind.wrap
    have e : (q : Int) % 2 ^ k.bits = q := Int.emod_eq_of_lt (by omega) (by omega)
    simp only [e]
    rw [if_neg]
    simp
    intro _
    omega
  rw [this]
  exact ⟨by omega, hq⟩
end Ev
