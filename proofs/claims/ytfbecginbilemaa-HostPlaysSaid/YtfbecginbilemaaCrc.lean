/- The check of bytes (CRC-32C) on natural numbers: bit by bit from the lowest bit on, the same turned round, and what a burst of four bytes does to it. -/
import Derived.Test.YtfbecginbilemaaP0
namespace Ev

/-- One bit. -/
def cbit (c : Nat) : Nat := if c % 2 = 1 then (c / 2) ^^^ 0x82f63b78 else c / 2
def cbits : Nat → Nat → Nat
  | 0, c => c
  | n + 1, c => cbits n (cbit c)
def cbyte (c : Nat) (b : Nat) : Nat := cbits 8 (c ^^^ b)
def crun (c : Nat) (l : List Nat) : Nat := l.foldl cbyte c

theorem xor_lt32 {a b : Nat} (ha : a < 4294967296) (hb : b < 4294967296) : a ^^^ b < 4294967296 := Nat.xor_lt_two_pow (n := 32) ha hb
theorem cbit_lt {c : Nat} (h : c < 4294967296) : cbit c < 4294967296 := by
  unfold cbit
  split
  · exact xor_lt32 (by omega) (by decide)
  · omega
theorem cbits_lt : ∀ {n c : Nat}, c < 4294967296 → cbits n c < 4294967296
  | 0, _, h => h
  | n + 1, c, h => cbits_lt (n := n) (cbit_lt h)
theorem cbyte_lt {c b : Nat} (h : c < 4294967296) (hb : b < 4294967296) : cbyte c b < 4294967296 := cbits_lt (xor_lt32 h hb)
theorem crun_lt : ∀ {l : List Nat} {c : Nat}, c < 4294967296 → (∀ b ∈ l, b < 256) → crun c l < 4294967296
  | [], _, h, _ => h
  | b :: l, c, h, hl => by
    show crun (cbyte c b) l < _
    exact crun_lt (cbyte_lt h (Nat.lt_trans (hl b (by simp)) (by decide))) (fun x hx => hl x (by simp [hx]))

/-! Linear. -/
theorem div2_xor (a b : Nat) : (a ^^^ b) / 2 = a / 2 ^^^ b / 2 := by
  have h := Nat.shiftRight_xor_distrib (a := a) (b := b) (i := 1)
  simpa [Nat.shiftRight_eq_div_pow] using h
theorem mod2_xor (a b : Nat) : (a ^^^ b) % 2 = (a % 2 + b % 2) % 2 := by
  have h := Nat.testBit_xor a b 0
  simp only [Nat.testBit_zero] at h
  have ha := Nat.mod_two_eq_zero_or_one a
  have hb := Nat.mod_two_eq_zero_or_one b
  have hc := Nat.mod_two_eq_zero_or_one (a ^^^ b)
  rcases ha with ha | ha <;> rcases hb with hb | hb <;> rcases hc with hc | hc <;> simp [ha, hb, hc] at h ⊢
theorem cbit_xor (a b : Nat) : cbit (a ^^^ b) = cbit a ^^^ cbit b := by
  unfold cbit
  rw [mod2_xor, div2_xor]
  rcases Nat.mod_two_eq_zero_or_one a with ha | ha <;> rcases Nat.mod_two_eq_zero_or_one b with hb | hb <;> simp only [ha, hb]
  · rfl
  · simp [Nat.xor_assoc]
  · simp only [Nat.add_zero, Nat.one_mod, if_true, Nat.zero_ne_one, if_false]
    rw [Nat.xor_assoc, Nat.xor_comm (b / 2), ← Nat.xor_assoc]
  · simp only [Nat.reduceAdd, Nat.reduceMod, Nat.zero_ne_one, if_false, if_true]
    rw [Nat.xor_comm (b / 2) _, ← Nat.xor_assoc, Nat.xor_assoc (a / 2), Nat.xor_self, Nat.xor_zero]
theorem cbits_xor : ∀ (n a b : Nat), cbits n (a ^^^ b) = cbits n a ^^^ cbits n b
  | 0, _, _ => rfl
  | n + 1, a, b => by show cbits n (cbit (a ^^^ b)) = _; rw [cbit_xor, cbits_xor n]; rfl
theorem cbit_zero {c : Nat} (h : c < 4294967296) (hz : cbit c = 0) : c = 0 := by
  unfold cbit at hz
  split at hz
  · rename_i h1
    exfalso
    have : (c / 2 ^^^ 0x82f63b78).testBit 31 = true := by
      rw [Nat.testBit_xor]
      have e : (c / 2).testBit 31 = false := Nat.testBit_lt_two_pow (by omega)
      rw [e]; decide
    rw [hz] at this
    simp at this
  · omega
theorem cbits_zero : ∀ {n c : Nat}, c < 4294967296 → cbits n c = 0 → c = 0
  | 0, _, _, h => h
  | n + 1, c, h, hz => cbit_zero h (cbits_zero (n := n) (cbit_lt h) hz)
theorem xor_eq_zero {a b : Nat} : a ^^^ b = 0 ↔ a = b := by
  constructor
  · intro h
    have : a ^^^ b ^^^ b = 0 ^^^ b := by rw [h]
    rw [Nat.xor_assoc, Nat.xor_self, Nat.xor_zero, Nat.zero_xor] at this
    exact this
  · rintro rfl; exact Nat.xor_self _
theorem cbits_inj {n a b : Nat} (ha : a < 4294967296) (hb : b < 4294967296) (h : cbits n a = cbits n b) : a = b := by
  have := cbits_xor n a b
  rw [h, Nat.xor_self] at this
  exact xor_eq_zero.1 (cbits_zero (xor_lt32 ha hb) this)
theorem cbits_shift : ∀ (n e : Nat), cbits n (e * 2 ^ n) = e
  | 0, e => by simp [cbits]
  | n + 1, e => by
    show cbits n (cbit (e * 2 ^ (n + 1))) = e
    have h : cbit (e * 2 ^ (n + 1)) = e * 2 ^ n := by
      unfold cbit
      have : e * 2 ^ (n + 1) = e * 2 ^ n * 2 := by rw [Nat.pow_succ, Nat.mul_assoc]
      rw [this, if_neg (by omega)]; omega
    rw [h, cbits_shift n e]

/-! A burst. -/
theorem cbyte_xor (c d b e : Nat) : cbyte (c ^^^ d) (b ^^^ e) = cbyte c b ^^^ cbyte d e := by
  unfold cbyte
  rw [← cbits_xor]
  congr 1
  rw [Nat.xor_assoc, Nat.xor_assoc, ← Nat.xor_assoc d b e, Nat.xor_comm d b, Nat.xor_assoc b d e]
theorem cbyte_eq {d e : Nat} (hd : d < 4294967296) (he : e < 256) (h : cbyte d e < 16777216) : d = e ^^^ (cbyte d e * 256) := by
  have h1 : cbits 8 (cbyte d e * 256) = cbyte d e := cbits_shift 8 _
  have h2 : d ^^^ e = cbyte d e * 256 := cbits_inj (n := 8) (xor_lt32 hd (by omega)) (by omega) (by rw [h1]; rfl)
  rw [← h2, Nat.xor_comm d e, ← Nat.xor_assoc, Nat.xor_self, Nat.zero_xor]

/-- Difference of two runs over rows of one length. -/
def drun (d : Nat) (l : List Nat) : Nat := crun d l
theorem crun_xor : ∀ (l m : List Nat) (c d : Nat), l.length = m.length → crun c l ^^^ crun d m = crun (c ^^^ d) (List.zipWith (· ^^^ ·) l m)
  | [], [], _, _, _ => rfl
  | b :: l, e :: m, c, d, h => by
    show crun (cbyte c b) l ^^^ crun (cbyte d e) m = crun (cbyte (c ^^^ d) (b ^^^ e)) _
    rw [cbyte_xor]
    exact crun_xor l m _ _ (by simpa using h)
  | [], _ :: _, _, _, h => by simp at h
  | _ :: _, [], _, _, h => by simp at h
theorem crun_inj : ∀ {l : List Nat} {c d : Nat}, c < 4294967296 → d < 4294967296 → (∀ b ∈ l, b < 256) → crun c l = crun d l → c = d
  | [], _, _, _, _, _, h => h
  | b :: l, c, d, hc, hd, hl, h => by
    have hb : b < 256 := hl b (by simp)
    have h1 : cbyte c b = cbyte d b := crun_inj (l := l) (cbyte_lt hc (by omega)) (cbyte_lt hd (by omega)) (fun x hx => hl x (by simp [hx])) h
    have h2 := cbits_inj (n := 8) (xor_lt32 hc (by omega)) (xor_lt32 hd (by omega)) h1
    have : c ^^^ b ^^^ b = d ^^^ b ^^^ b := by rw [h2]
    simpa [Nat.xor_assoc] using this

/-- Up to four bytes, of which the first is not nothing, leave something. -/
theorem burst {e : Nat} (l : List Nat) (he : e < 256) (h0 : e ≠ 0) (hl : ∀ b ∈ l, b < 256) (hn : l.length ≤ 3) : crun 0 (e :: l) ≠ 0 := by
  intro hz
  -- from the end: the register ahead of k more bytes is below 256 ^ k
  have key : ∀ (l : List Nat) (d : Nat), l.length ≤ 3 → (∀ b ∈ l, b < 256) → d < 4294967296 → crun d l = 0 → d < 256 ^ l.length := by
    intro l
    induction l with
    | nil => intro d _ _ _ h; have h : d = 0 := h; subst h; decide
    | cons x l ih =>
      intro d hn hb hd h
      have hx : x < 256 := hb x (by simp)
      have h1 := ih (cbyte d x) (by simp at hn; omega) (fun y hy => hb y (by simp [hy])) (cbyte_lt hd (by omega)) h
      have hn' : l.length ≤ 2 := by simp at hn; omega
      have hp : 256 ^ l.length ≤ 65536 := by
        have : 256 ^ l.length ≤ 256 ^ 2 := Nat.pow_le_pow_right (by decide) hn'
        simpa using this
      have h2 := cbyte_eq hd hx (by omega)
      rw [h2, List.length_cons, Nat.pow_succ]
      have e1 : (256 : Nat) ^ l.length * 256 = 2 ^ (8 * l.length + 8) := by
        rw [show (256 : Nat) = 2 ^ 8 from rfl, ← Nat.pow_mul, ← Nat.pow_add]
      rw [e1]
      refine Nat.xor_lt_two_pow ?_ ?_
      · exact Nat.lt_of_lt_of_le hx (by rw [show (256 : Nat) = 2 ^ 8 from rfl]; exact Nat.pow_le_pow_right (by decide) (by omega))
      · rw [← e1]; exact Nat.mul_lt_mul_of_pos_right h1 (by decide)
  have h1 := key l (cbyte 0 e) hn hl (cbyte_lt (by decide) (by omega)) hz
  have hp : 256 ^ l.length ≤ 16777216 := by
    have : 256 ^ l.length ≤ 256 ^ 3 := Nat.pow_le_pow_right (by decide) hn
    simpa using this
  have h2 := cbyte_eq (d := 0) (by decide) he (by omega)
  have h3 : e = cbyte 0 e * 256 := (xor_eq_zero.1 h2.symm)
  omega

/-- The check's own four bytes. -/
theorem crun_le {c : Nat} (hc : c < 4294967296) (w : Nat) (hw : w < 4294967296) :
    crun c [w % 256, w / 256 % 256, w / 65536 % 256, w / 16777216 % 256] = cbits 32 (c ^^^ w) := by
  have add : ∀ (m n x : Nat), cbits (m + n) x = cbits n (cbits m x) := by
    intro m
    induction m with
    | zero => intro n x; rw [Nat.zero_add]; rfl
    | succ m ih => intro n x; rw [Nat.succ_add]; exact ih n (cbit x)
  have split : ∀ w, w = w % 256 ^^^ (w / 256 * 256) := by
    intro w
    apply Nat.eq_of_testBit_eq
    intro i
    rw [Nat.testBit_xor, show (256 : Nat) = 2 ^ 8 from rfl, Nat.testBit_mod_two_pow, Nat.testBit_mul_two_pow, Nat.testBit_div_two_pow]
    by_cases h : i < 8
    · simp [h, show ¬ 8 ≤ i by omega]
    · have : 8 ≤ i := by omega
      simp [h, this, show i - 8 + 8 = i by omega]
  have one : ∀ (c w : Nat), cbits 8 (c ^^^ w) = cbyte c (w % 256) ^^^ (w / 256) := by
    intro c w
    have e : c ^^^ w = (c ^^^ w % 256) ^^^ (w / 256 * 2 ^ 8) := by
      rw [Nat.xor_assoc, show w % 256 ^^^ w / 256 * 2 ^ 8 = w from (split w).symm]
    rw [e, cbits_xor, cbits_shift]; rfl
  rw [show (32 : Nat) = 8 + (8 + (8 + 8)) from rfl, add, one, add, one, add, one, one]
  have e1 : w / 256 / 256 = w / 65536 := by omega
  have e2 : w / 65536 / 256 = w / 16777216 := by omega
  have e3 : w / 16777216 / 256 = 0 := by omega
  rw [e1, e2, e3, Nat.xor_zero]; rfl
end Ev
