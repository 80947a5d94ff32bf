/- The field of 256: bytes, exclusive or, products. -/
import Derived.Test.YtpebaginkkbnpaaGreatEvLoop
namespace Ev

def xt (a : Nat) : Nat := if 255 < 2 * a then (2 * a) ^^^ 285 else 2 * a
def tap (b : Bool) : Nat := if b then 285 else 0
theorem xt_bits : ∀ a, a < 256 → xt a = (a <<< 1) ^^^ tap (a.testBit 7) := by decide +kernel
theorem xor_lt {a b : Nat} (ha : a < 256) (hb : b < 256) : a ^^^ b < 256 := Nat.xor_lt_two_pow (n := 8) ha hb
theorem tap_xor (x y : Bool) : tap (x ^^ y) = tap x ^^^ tap y := by cases x <;> cases y <;> decide
theorem xt_lin {a b : Nat} (ha : a < 256) (hb : b < 256) : xt (a ^^^ b) = xt a ^^^ xt b := by
  rw [xt_bits _ (xor_lt ha hb), xt_bits a ha, xt_bits b hb, Nat.shiftLeft_xor_distrib, Nat.testBit_xor, tap_xor]
  ac_rfl
theorem xt_lt : ∀ a, a < 256 → xt a < 256 := by decide +kernel
theorem xt_zero : xt 0 = 0 := rfl
def pw : Nat → Nat
  | 0 => 1
  | k + 1 => xt (pw k)
def pws : Nat → Nat → List Nat
  | 0, _ => []
  | k + 1, a => a :: pws k (xt a)
theorem pws_all : ((List.range 256).all fun a => a == 0 || (pws 255 1).contains a) = true := by decide +kernel
def mulK : Nat → Nat → Nat → Nat
  | 0, _, _ => 0
  | k + 1, x, m => (if m % 2 = 1 then x else 0) ^^^ mulK k (xt x) (m / 2)
theorem mulK_one : ∀ b, b < 256 → mulK 8 1 b = b := by decide +kernel
theorem pw_255 : pw 255 = 1 := by decide +kernel
theorem mulK_lt : ∀ (k x m : Nat), x < 256 → mulK k x m < 256
  | 0, _, _, _ => by simp [mulK]
  | k + 1, x, m, h => by
    rw [mulK]
    refine xor_lt ?_ (mulK_lt k _ _ (xt_lt x h))
    split <;> omega
theorem mulK_xor : ∀ (k x y m : Nat), x < 256 → y < 256 → mulK k (x ^^^ y) m = mulK k x m ^^^ mulK k y m
  | 0, _, _, _, _, _ => by simp [mulK]
  | k + 1, x, y, m, hx, hy => by
    rw [mulK, mulK, mulK, xt_lin hx hy, mulK_xor k _ _ _ (xt_lt x hx) (xt_lt y hy)]
    split
    · ac_rfl
    · simp only [Nat.zero_xor]
theorem mulK_zero : ∀ (k m : Nat), mulK k 0 m = 0
  | 0, _ => rfl
  | k + 1, m => by rw [mulK, xt_zero, mulK_zero k]; split <;> rfl
theorem mulK_none : ∀ (k x : Nat), mulK k x 0 = 0
  | 0, _ => rfl
  | k + 1, x => by rw [mulK, Nat.zero_div, mulK_none k, if_neg (by decide)]; rfl
theorem mulK_xt : ∀ (k x m : Nat), x < 256 → mulK k (xt x) m = xt (mulK k x m)
  | 0, _, _, _ => rfl
  | k + 1, x, m, hx => by
    have h1 : (if m % 2 = 1 then x else 0) < 256 := by split <;> omega
    rw [mulK, mulK, mulK_xt k _ _ (xt_lt x hx), xt_lin h1 (mulK_lt k _ _ (xt_lt x hx))]
    congr 1
    split <;> rfl
def xts : Nat → Nat → Nat
  | 0, a => a
  | k + 1, a => xt (xts k a)
theorem xts_lt : ∀ (k a : Nat), a < 256 → xts k a < 256
  | 0, _, h => h
  | k + 1, a, h => xt_lt _ (xts_lt k a h)
theorem pw_xts : ∀ k, pw k = xts k 1
  | 0 => rfl
  | k + 1 => by rw [pw, pw_xts k]; rfl
theorem pw_lt (k : Nat) : pw k < 256 := by rw [pw_xts]; exact xts_lt k 1 (by decide)
theorem xts_add : ∀ (i j a : Nat), xts i (xts j a) = xts (i + j) a
  | 0, j, a => by rw [Nat.zero_add]; rfl
  | i + 1, j, a => by rw [xts, xts_add i j a, show i + 1 + j = (i + j) + 1 by omega]; rfl
theorem mulK_pw : ∀ (k b : Nat), b < 256 → mulK 8 (pw k) b = xts k b
  | 0, b, h => mulK_one b h
  | k + 1, b, h => by rw [pw, mulK_xt 8 _ _ (pw_lt k), mulK_pw k b h]; rfl
theorem pws_mem : ∀ (n a b : Nat), b ∈ pws n a → ∃ k, k < n ∧ b = xts k a
  | 0, _, _, h => by cases h
  | n + 1, a, b, h => by
    rw [pws, List.mem_cons] at h
    rcases h with rfl | h
    · exact ⟨0, by omega, rfl⟩
    · obtain ⟨k, h1, h2⟩ := pws_mem n (xt a) b h
      refine ⟨k + 1, by omega, ?_⟩
      rw [h2, show xt a = xts 1 a from rfl, xts_add]
theorem pw_all {a : Nat} (h : a < 256) (h0 : a ≠ 0) : ∃ k, k < 255 ∧ a = pw k := by
  have h1 := List.all_eq_true.1 pws_all a (List.mem_range.2 h)
  rw [Bool.or_eq_true] at h1
  rcases h1 with h1 | h1
  · exact absurd (beq_iff_eq.1 h1) h0
  · obtain ⟨k, h2, h3⟩ := pws_mem 255 1 a (List.contains_iff_mem.1 h1)
    exact ⟨k, h2, by rw [h3, pw_xts]⟩

/-- A product. -/
def gm (a b : UInt8) : UInt8 := UInt8.ofNat (mulK 8 a.toNat b.toNat)
/-- The powers of 2. -/
def gp (k : Nat) : UInt8 := UInt8.ofNat (pw k)
theorem ofN_toN {n : Nat} (h : n < 256) : (UInt8.ofNat n).toNat = n := by simp; omega
theorem u8_ext {a b : UInt8} (h : a.toNat = b.toNat) : a = b := UInt8.toNat_inj.1 h
theorem gm_toN (a b : UInt8) : (gm a b).toNat = mulK 8 a.toNat b.toNat := ofN_toN (mulK_lt 8 _ _ a.toNat_lt)
theorem gp_toN (k : Nat) : (gp k).toNat = pw k := ofN_toN (pw_lt k)
theorem gp_all {a : UInt8} (h : a ≠ 0) : ∃ k, k < 255 ∧ a = gp k := by
  obtain ⟨k, h1, h2⟩ := pw_all a.toNat_lt (fun h0 => h (u8_ext h0))
  exact ⟨k, h1, u8_ext (by rw [gp_toN, h2])⟩
theorem gm_xor (a b c : UInt8) : gm (a ^^^ b) c = gm a c ^^^ gm b c := by
  apply u8_ext
  rw [gm_toN, UInt8.toNat_xor, UInt8.toNat_xor, gm_toN, gm_toN, mulK_xor 8 _ _ _ a.toNat_lt b.toNat_lt]
theorem zero_gm (a : UInt8) : gm 0 a = 0 := u8_ext (by rw [gm_toN]; exact mulK_zero 8 _)
theorem gm_zero (a : UInt8) : gm a 0 = 0 := u8_ext (by rw [gm_toN]; exact mulK_none 8 _)
theorem gp_gm (k : Nat) (b : UInt8) : (gm (gp k) b).toNat = xts k b.toNat := by rw [gm_toN, gp_toN, mulK_pw k _ b.toNat_lt]
theorem gp_add (i j : Nat) : gm (gp i) (gp j) = gp (i + j) := u8_ext (by rw [gp_gm, gp_toN, gp_toN, pw_xts, pw_xts, xts_add])
theorem gm_comm (a b : UInt8) : gm a b = gm b a := by
  by_cases ha : a = 0
  · rw [ha, zero_gm, gm_zero]
  by_cases hb : b = 0
  · rw [hb, zero_gm, gm_zero]
  obtain ⟨i, _, rfl⟩ := gp_all ha
  obtain ⟨j, _, rfl⟩ := gp_all hb
  rw [gp_add, gp_add, Nat.add_comm]
theorem gm_assoc (a b c : UInt8) : gm (gm a b) c = gm a (gm b c) := by
  by_cases ha : a = 0
  · rw [ha, zero_gm, zero_gm, zero_gm]
  by_cases hb : b = 0
  · rw [hb, gm_zero, zero_gm, gm_zero]
  by_cases hc : c = 0
  · rw [hc, gm_zero, gm_zero, gm_zero]
  obtain ⟨i, _, rfl⟩ := gp_all ha
  obtain ⟨j, _, rfl⟩ := gp_all hb
  obtain ⟨k, _, rfl⟩ := gp_all hc
  rw [gp_add, gp_add, gp_add, gp_add, Nat.add_assoc]
theorem xor_gm (a b c : UInt8) : gm c (a ^^^ b) = gm c a ^^^ gm c b := by rw [gm_comm c, gm_xor, gm_comm a, gm_comm b]
theorem gp_zero : gp 0 = 1 := rfl
theorem one_gm (a : UInt8) : gm 1 a = a := u8_ext (by rw [← gp_zero, gp_gm]; rfl)
theorem gm_one (a : UInt8) : gm a 1 = a := by rw [gm_comm, one_gm]
theorem gp_255 : gp 255 = 1 := u8_ext (by rw [gp_toN, pw_255]; rfl)
theorem gp_mod (n : Nat) : gp (n % 255) = gp n := by
  have key : ∀ q, gp (n % 255 + 255 * q) = gp (n % 255) := by
    intro q
    induction q with
    | zero => rfl
    | succ q ih => rw [show n % 255 + 255 * (q + 1) = (n % 255 + 255 * q) + 255 by omega, ← gp_add, gp_255, gm_one, ih]
  have h := key (n / 255)
  rw [Nat.mod_add_div] at h
  exact h.symm
theorem gp_ne (n : Nat) : gp n ≠ 0 := by
  intro h
  have h1 : gm (gp n) (gp (255 * n - n)) = gp (255 * n) := by rw [gp_add]; congr 1; omega
  rw [h, zero_gm, ← gp_mod, Nat.mul_mod_right] at h1
  exact absurd h1 (by decide)
theorem gm_ne {a b : UInt8} (ha : a ≠ 0) (hb : b ≠ 0) : gm a b ≠ 0 := by
  obtain ⟨i, _, rfl⟩ := gp_all ha
  obtain ⟨j, _, rfl⟩ := gp_all hb
  rw [gp_add]; exact gp_ne _
theorem gm_eq_zero {a b : UInt8} : gm a b = 0 ↔ a = 0 ∨ b = 0 := by
  constructor
  · intro h
    by_cases ha : a = 0
    · exact .inl ha
    by_cases hb : b = 0
    · exact .inr hb
    exact absurd h (gm_ne ha hb)
  · rintro (rfl | rfl)
    · exact zero_gm b
    · exact gm_zero a
theorem pw_inj : ((List.range 255).all fun i => i == 0 || pw i != 1) = true := by decide +kernel
theorem gp_one {n : Nat} (h : n < 255) (h1 : gp n = 1) : n = 0 := by
  have h2 := List.all_eq_true.1 pw_inj n (List.mem_range.2 h)
  rw [Bool.or_eq_true] at h2
  rcases h2 with h2 | h2
  · exact beq_iff_eq.1 h2
  · have h3 : pw n = 1 := by rw [← gp_toN, h1]; rfl
    rw [h3] at h2; exact absurd h2 (by decide)
theorem gp_inj {i j : Nat} (hi : i < 255) (hj : j < 255) (h : gp i = gp j) : i = j := by
  have key : ∀ i j, i < 255 → j < 255 → i ≤ j → gp i = gp j → i = j := by
    intro i j hi hj hle h
    have h1 : gm (gp (255 - i)) (gp j) = 1 := by rw [← h, gp_add, show 255 - i + i = 255 by omega, gp_255]
    rw [gp_add, show 255 - i + j = 255 + (j - i) by omega, ← gp_add, gp_255, one_gm] at h1
    have := gp_one (by omega) h1
    omega
  by_cases hle : i ≤ j
  · exact key i j hi hj hle h
  · exact (key j i hj hi (by omega) h.symm).symm
theorem gm_cancel {a b c : UInt8} (ha : a ≠ 0) (h : gm a b = gm a c) : b = c := by
  have h1 : gm a (b ^^^ c) = 0 := by rw [xor_gm, h, UInt8.xor_self]
  rcases gm_eq_zero.1 h1 with h2 | h2
  · exact absurd h2 ha
  · have : (b ^^^ c) ^^^ c = 0 ^^^ c := by rw [h2]
    rwa [UInt8.xor_assoc, UInt8.xor_self, UInt8.xor_zero, UInt8.zero_xor] at this
theorem xor_eq_zero {a b : UInt8} : a ^^^ b = 0 ↔ a = b := by
  constructor
  · intro h
    have : (a ^^^ b) ^^^ b = 0 ^^^ b := by rw [h]
    rwa [UInt8.xor_assoc, UInt8.xor_self, UInt8.xor_zero, UInt8.zero_xor] at this
  · rintro rfl; exact UInt8.xor_self
/-- A power. -/
def gpow (a : UInt8) : Nat → UInt8
  | 0 => 1
  | n + 1 => gm a (gpow a n)
theorem gpow_add (a : UInt8) (m n : Nat) : gpow a (m + n) = gm (gpow a m) (gpow a n) := by
  induction m with
  | zero => rw [Nat.zero_add, gpow, one_gm]
  | succ m ih => rw [show m + 1 + n = (m + n) + 1 by omega, gpow, gpow, ih, gm_assoc]
theorem gpow_mul (a : UInt8) (m n : Nat) : gpow a (m * n) = gpow (gpow a m) n := by
  induction n with
  | zero => rfl
  | succ n ih => rw [Nat.mul_succ, gpow_add, ih, gpow, gm_comm]
theorem gpow_gp (k n : Nat) : gpow (gp k) n = gp (k * n) := by
  induction n with
  | zero => rfl
  | succ n ih => rw [gpow, ih, gp_add, Nat.mul_succ, Nat.add_comm]
theorem gp_gpow (n : Nat) : gpow 2 n = gp n := by
  have : gp 1 = 2 := rfl
  rw [← this, gpow_gp, Nat.one_mul]
/-- One over a number. -/
def ginv (a : UInt8) : UInt8 := if a = 0 then 0 else gpow a 254
theorem gm_ginv {a : UInt8} (h : a ≠ 0) : gm a (ginv a) = 1 := by
  unfold ginv
  rw [if_neg h]
  obtain ⟨k, hk, rfl⟩ := gp_all h
  rw [gpow_gp, gp_add, show k + k * 254 = 255 * k by omega, ← gp_mod, Nat.mul_mod_right]; rfl
theorem gpow_255 {a : UInt8} (h : a ≠ 0) : gpow a 255 = 1 := by
  obtain ⟨k, hk, rfl⟩ := gp_all h
  rw [gpow_gp, ← gp_mod, Nat.mul_mod_left]; rfl
instance : Std.Associative (α := UInt8) gm := ⟨gm_assoc⟩
instance : Std.Commutative (α := UInt8) gm := ⟨gm_comm⟩
instance : Std.Associative (α := UInt8) (· ^^^ ·) := ⟨UInt8.xor_assoc⟩
instance : Std.Commutative (α := UInt8) (· ^^^ ·) := ⟨UInt8.xor_comm⟩
end Ev
