/- tinderboxref01.Sum tells the check of bytes. -/
import Derived.Test.YtfbecginbilemaaGRef01
import Derived.Test.YtfbecginbilemaaSCrc
namespace Ev
open Go (IntKind)

/-! The reference: all bits turned round. -/
def tur : Nat → Nat → Nat → Nat
  | 0, _, acc => acc
  | k + 1, n, acc => tur k (n / 2) (acc * 2 + n % 2)
theorem tur_bit : ∀ (k n acc j : Nat), (tur k n acc).testBit j = if j < k then n.testBit (k - 1 - j) else acc.testBit (j - k)
  | 0, _, _, _ => by simp [tur]
  | k + 1, n, acc, j => by
    rw [tur, tur_bit k]
    by_cases h : j < k
    · rw [if_pos h, if_pos (by omega), Nat.testBit_div_two, show k - 1 - j + 1 = k + 1 - 1 - j by omega]
    · rw [if_neg h]
      by_cases h2 : j = k
      · subst h2
        rw [if_pos (by omega), Nat.sub_self, show j + 1 - 1 - j = 0 by omega, Nat.testBit_zero, Nat.testBit_zero]
        congr 1
        rw [eq_iff_iff]; omega
      · rw [if_neg (by omega), show j - k = (j - (k + 1)) + 1 by omega, Nat.testBit_succ]
        congr 1; omega
theorem tur_lt : ∀ (k n acc : Nat), tur k n acc < (acc + 1) * 2 ^ k
  | 0, _, acc => by simp [tur]
  | k + 1, n, acc => by
    have h := tur_lt k (n / 2) (acc * 2 + n % 2)
    have h2 : (acc * 2 + n % 2 + 1) * 2 ^ k ≤ (acc + 1) * 2 ^ (k + 1) := by
      rw [Nat.pow_succ, Nat.mul_comm (2 ^ k) 2, ← Nat.mul_assoc]
      exact Nat.mul_le_mul_right _ (by omega)
    exact Nat.lt_of_lt_of_le h h2

theorem turned_eq (k n : Nat) (hk : k ≤ 32) (hn : n < 4294967296) : ref01_turned (n : Int) (k : Int) = some (((tur k n 0 : Nat) : Int), ()) := by
  unfold ref01_turned ref01_turned.on
  have step : ∀ (i n acc : Nat), tur (i + 1) n acc = tur i (n / 2) (acc * 2 + n % 2) := fun _ _ _ => rfl
  have snoc : ∀ (i n acc : Nat), tur (i + 1) n acc = tur i n acc * 2 + (n / 2 ^ i) % 2 := by
    intro i
    induction i with
    | zero => intro n acc; simp [tur]
    | succ i ih => intro n acc; rw [step, ih, ← step, Nat.div_div_eq_div_mul, Nat.pow_succ, Nat.mul_comm 2]
  have hb : ∀ i, i < 32 → tur i n 0 < 2147483648 := by
    intro i hi
    have h1 := tur_lt i n 0
    have : 2 ^ i ≤ 2 ^ 31 := Nat.pow_le_pow_right (by decide) (by omega)
    omega
  have hl : loopW (ref01_turned.s1 (k : Int)) ((n : Int), 0, 0, ()) [] = some ((((tur k n 0 : Nat) : Int), ()), []) := by
    refine loop_for' k (fun i => (((n / 2 ^ i : Nat) : Int), ((tur i n 0 : Nat) : Int), (i : Int), ())) (fun _ => []) (by simp [tur]) rfl ?_ ?_
    · intro i hi
      unfold ref01_turned.s1
      have hd : decide ((i : Int) < (k : Int)) = true := decide_eq_true (by omega)
      have hn2 : n / 2 ^ i ≤ n := Nat.div_le_self _ _
      have hbi := hb i (by omega)
      have e1 : IntKind.wrap .u32 (Int.tdiv ((n / 2 ^ i : Nat) : Int) 2) = ((n / 2 ^ (i + 1) : Nat) : Int) := by
        rw [wrap_u32, Nat.pow_succ, ← Nat.div_div_eq_div_mul]
        generalize n / 2 ^ i = q at *
        rw [Int.tdiv_eq_ediv_of_nonneg (by omega)]; omega
      have e2 : IntKind.wrap .u32 ((IntKind.wrap .u32 (((tur i n 0 : Nat) : Int) * 2)) + (Int.tmod ((n / 2 ^ i : Nat) : Int) 2)) = ((tur (i + 1) n 0 : Nat) : Int) := by
        rw [snoc, wrap_u32, wrap_u32]
        generalize n / 2 ^ i = q at *
        generalize tur i n 0 = r at *
        rw [Int.tmod_eq_emod_of_nonneg (by omega)]
        omega
      simp only [hd, cond_t, e1, e2, wrap_succ (show i < 9223372036854775807 by omega)]
    · unfold ref01_turned.s1
      have hd : decide ((k : Int) < (k : Int)) = false := decide_eq_false (by omega)
      simp only [hd, cond_f]
  rw [hl]; rfl

/-- One bit of the reference. -/
def rbit (r : Nat) : Nat := if 2147483648 ≤ r then (r * 2 % 4294967296) ^^^ 517762881 else r * 2 % 4294967296
def rbits : Nat → Nat → Nat
  | 0, r => r
  | n + 1, r => rbits n (rbit r)
theorem rbits_snoc : ∀ (n c : Nat), rbits (n + 1) c = rbit (rbits n c)
  | 0, _ => rfl
  | n + 1, c => by show rbits (n + 1) (rbit c) = _; rw [rbits_snoc n]; rfl
theorem rbit_lt {r : Nat} : rbit r < 4294967296 := by
  unfold rbit
  split
  · exact xor_lt32 (Nat.mod_lt _ (by decide)) (by decide)
  · exact Nat.mod_lt _ (by decide)
theorem rbits_lt : ∀ {n r : Nat}, r < 4294967296 → rbits n r < 4294967296
  | 0, _, h => h
  | n + 1, _, _ => rbits_lt (n := n) rbit_lt

/-- Turned round. -/
structure Rv (r c : Nat) : Prop where
  rl : r < 4294967296
  cl : c < 4294967296
  bit : ∀ j, j < 32 → r.testBit j = c.testBit (31 - j)
theorem Rv.xor {r c r' c' : Nat} (h : Rv r c) (k : Rv r' c') : Rv (r ^^^ r') (c ^^^ c') :=
  ⟨xor_lt32 h.rl k.rl, xor_lt32 h.cl k.cl, fun j hj => by rw [Nat.testBit_xor, Nat.testBit_xor, h.bit j hj, k.bit j hj]⟩
theorem rv_poly : Rv 517762881 0x82f63b78 := ⟨by decide, by decide, by decide⟩
theorem rv_ones : Rv 4294967295 4294967295 := ⟨by decide, by decide, by decide⟩
theorem Rv.step {r c : Nat} (h : Rv r c) : Rv (rbit r) (cbit c) := by
  have hs : Rv (r * 2 % 4294967296) (c / 2) := by
    have hc := h.cl
    refine ⟨Nat.mod_lt _ (by decide), by omega, ?_⟩
    intro j hj
    rw [show (4294967296 : Nat) = 2 ^ 32 from rfl, Nat.testBit_mod_two_pow, decide_eq_true hj, Bool.true_and, Nat.testBit_div_two]
    cases j with
    | zero => rw [Nat.testBit_zero, Nat.testBit_lt_two_pow (by omega)]; simp
    | succ j => rw [Nat.testBit_succ, Nat.mul_div_cancel _ (by decide), h.bit j (by omega)]; congr 1; omega
  have ht : (2147483648 ≤ r) ↔ c % 2 = 1 := by
    have h1 := h.bit 31 (by decide)
    rw [show 31 - 31 = 0 from rfl, Nat.testBit_zero] at h1
    have hr := h.rl
    rw [Nat.testBit_eq_decide_div_mod_eq] at h1
    have h2 := decide_eq_decide.1 h1
    omega
  unfold rbit cbit
  by_cases hm : c % 2 = 1
  · rw [if_pos (ht.2 hm), if_pos hm]; exact hs.xor rv_poly
  · rw [if_neg (fun hh => hm (ht.1 hh)), if_neg hm]; exact hs
theorem Rv.steps : ∀ {n r c : Nat}, Rv r c → Rv (rbits n r) (cbits n c)
  | 0, _, _, h => h
  | n + 1, _, _, h => Rv.steps (n := n) h.step
theorem rv_byte {b : Nat} (hb : b < 256) : Rv (tur 8 b 0 * 16777216) b := by
  have h1 := tur_lt 8 b 0
  refine ⟨by omega, by omega, ?_⟩
  intro j hj
  rw [show (16777216 : Nat) = 2 ^ 24 from rfl, Nat.testBit_mul_two_pow, tur_bit]
  by_cases h : 24 ≤ j
  · rw [decide_eq_true h, Bool.true_and, if_pos (by omega)]; congr 1; omega
  · rw [decide_eq_false h, Bool.false_and, Nat.testBit_lt_two_pow]
    exact Nat.lt_of_lt_of_le hb (by rw [show (256 : Nat) = 2 ^ 8 from rfl]; exact Nat.pow_le_pow_right (by decide) (by omega))
theorem rv_back {r c : Nat} (h : Rv r c) : tur 32 r 0 = c := by
  apply Nat.eq_of_testBit_eq
  intro j
  rw [tur_bit]
  by_cases hj : j < 32
  · rw [if_pos hj, h.bit _ (by omega)]; congr 1; omega
  · rw [if_neg hj, Nat.zero_testBit, Nat.testBit_lt_two_pow]
    exact Nat.lt_of_lt_of_le h.cl (by rw [show (4294967296 : Nat) = 2 ^ 32 from rfl]; exact Nat.pow_le_pow_right (by decide) (by omega))

theorem ref_bits (r : Nat) (hr : r < 4294967296) (H : Heap) : loopW ref01_Sum.s1 ((r : Int), 0, ()) H = some ((((rbits 8 r : Nat) : Int), ()), H) := by
  refine loop_for' 8 (fun i => (((rbits i r : Nat) : Int), (i : Int), ())) (fun _ => H) rfl rfl ?_ ?_
  · intro i hi
    have hlt : rbits i r < 4294967296 := rbits_lt hr
    unfold ref01_Sum.s1
    have h8 : decide ((i : Int) < 8) = true := decide_eq_true (by omega)
    have hs : IntKind.wrap .u32 (((rbits i r : Nat) : Int) * 2) = ((rbits i r * 2 % 4294967296 : Nat) : Int) := by rw [wrap_u32]; omega
    simp only [h8, cond_t, hs, wrap_succ (show i < 9223372036854775807 by omega), rbits_snoc]
    unfold rbit
    by_cases hm : 2147483648 ≤ rbits i r
    · rw [if_pos hm, decide_eq_true (by omega), cond_t, show (517762881 : Int) = ((517762881 : Nat) : Int) from rfl, xor32 (Nat.mod_lt _ (by decide)) (by decide)]
    · rw [if_neg hm, decide_eq_false (by omega), cond_f]
  · unfold ref01_Sum.s1
    rfl

theorem ref01_Sum_eq (s : Bytes) (hs : s.length < 9223372036854775807) : ref01_Sum s = some (((crcMore 0 s : Nat) : Int), ()) := by
  unfold ref01_Sum ref01_Sum.on
  let f : Nat → Nat := fun i => (List.range i).foldl (fun r j => rbits 8 (r ^^^ (tur 8 ((nats s)[j]?.getD 0) 0 * 16777216))) 4294967295
  have hf : ∀ i, f (i + 1) = rbits 8 (f i ^^^ (tur 8 ((nats s)[i]?.getD 0) 0 * 16777216)) := by
    intro i; simp only [f, List.range_succ, List.foldl_append, List.foldl_cons, List.foldl_nil]
  have hrv : ∀ i, i ≤ s.length → Rv (f i) (crun 4294967295 ((nats s).take i)) := by
    intro i
    induction i with
    | zero => intro _; exact rv_ones
    | succ i ih =>
      intro hi
      have hi' : i < (nats s).length := by rw [nats_length]; omega
      rw [hf, List.take_add_one, List.getElem?_eq_getElem hi', crun_append]
      exact ((ih (by omega)).xor (rv_byte (nats_lt _ (List.getElem_mem hi')))).steps
  have hl : loopW (ref01_Sum.s2 s) (4294967295, 0, ()) [] = some ((((f s.length : Nat) : Int), ()), []) := by
    refine loop_for' s.length (fun i => (((f i : Nat) : Int), (i : Int), ())) (fun _ => []) rfl rfl ?_ ?_
    · intro i hi
      have hlt := (hrv i (by omega)).rl
      have hb := s[i].toNat_lt
      unfold ref01_Sum.s2
      have hd : decide ((i : Int) < (s.length : Int)) = true := decide_eq_true (by omega)
      have hw : IntKind.wrap .u32 ((s[i].toNat : Nat) : Int) = ((s[i].toNat : Nat) : Int) := by rw [wrap_u32]; omega
      have ht := tur_lt 8 s[i].toNat 0
      have hw2 : IntKind.wrap .u32 (((tur 8 s[i].toNat 0 : Nat) : Int) * 16777216) = ((tur 8 s[i].toNat 0 * 16777216 : Nat) : Int) := by rw [wrap_u32]; omega
      have hx : f i ^^^ tur 8 s[i].toNat 0 * 16777216 < 4294967296 := xor_lt32 hlt (by omega)
      have hg : (nats s)[i]?.getD 0 = s[i].toNat := by
        rw [List.getElem?_eq_getElem (by rw [nats_length]; exact hi)]; simp [nats]
      have hturn : ref01_turned ((s[i].toNat : Nat) : Int) 8 = some (((tur 8 s[i].toNat 0 : Nat) : Int), ()) := turned_eq 8 _ (by decide) (by omega)
      simp only [hd, cond_t, idx_of hi, bind_some, hw, hturn, hw2, xor32 hlt (show tur 8 s[i].toNat 0 * 16777216 < 4294967296 by omega), ref_bits _ hx, wrap_succ (show i < 9223372036854775807 by omega), hf, hg]
    · unfold ref01_Sum.s2
      have hd : decide ((s.length : Int) < (s.length : Int)) = false := decide_eq_false (by omega)
      simp only [hd, cond_f]
  have hr := hrv s.length (Nat.le_refl _)
  rw [List.take_of_length_le (by rw [nats_length]; exact Nat.le_refl _)] at hr
  have hturn : ref01_turned ((f s.length : Nat) : Int) 32 = some (((tur 32 (f s.length) 0 : Nat) : Int), ()) := turned_eq 32 _ (by decide) hr.rl
  rw [hl, bind_some, hturn, bind_some, rv_back hr, show (4294967295 : Int) = ((4294967295 : Nat) : Int) from rfl, xor32 hr.cl (by decide)]
  rfl
end Ev
