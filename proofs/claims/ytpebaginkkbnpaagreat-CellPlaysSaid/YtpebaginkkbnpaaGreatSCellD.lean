/- Words of cells: pages whose bits turned. -/
import Derived.Test.YtpebaginkkbnpaaGreatSCellR
namespace Ev
open Go (IntKind)

theorem rt_ones : rtB (List.replicate 104 255) 8 = false := by decide +kernel

/-! How many bits are not set, place by place. -/
theorem pl_add1 (n : Nat) (f : Nat → UInt8) : pl (n + 1) f = pl n f ++ [f n] := by simp [pl, List.range_succ]
theorem zbs_pl (f : Nat → UInt8) : ∀ n, zbs (pl n f) = sumN (fun k => zb (f k)) n
  | 0 => rfl
  | n + 1 => by rw [pl_add1, zbs_snoc, zbs_pl f n, sumN]
theorem zbs_co (s : Bytes) : zbs s = sumN (fun k => zb (co s k)) s.length := by
  have := zbs_pl (co s) s.length
  rwa [pl_co] at this
theorem sumN_le {f g : Nat → Nat} : ∀ {n : Nat}, (∀ k, k < n → f k ≤ g k) → sumN f n ≤ sumN g n
  | 0, _ => Nat.le_refl _
  | n + 1, h => by
    have h1 := sumN_le (n := n) fun k hk => h k (by omega)
    have h2 := h n (by omega)
    simp only [sumN]; omega
theorem sumN_le1 {f g : Nat → Nat} {i w : Nat} : ∀ {n : Nat}, (∀ k, k < n → k ≠ i → f k ≤ g k) → f i ≤ g i + w → sumN f n ≤ sumN g n + w
  | 0, _, _ => Nat.zero_le _
  | n + 1, h, hi => by
    simp only [sumN]
    by_cases e : n = i
    · subst e
      have := sumN_le (n := n) (f := f) (g := g) fun k hk => h k (by omega) (by omega)
      omega
    · have h1 := sumN_le1 (n := n) (fun k hk hne => h k (by omega) hne) hi
      have h2 := h n (by omega) e
      omega

/-! What is turned of a page. -/
def fxX (o : Option Bytes) (k : Nat) : UInt8 := co (o.getD []) k
theorem co_over {p : Bytes} {k : Nat} (h : p.length ≤ k) : co p k = 0 := by unfold co; rw [List.getD_eq_getElem?_getD, List.getElem?_eq_none h]; rfl
theorem co_mixX {s : Bytes} {o : Option Bytes} {n : Nat} (hs : s.length = n) (h : ∀ x, o = some x → x.length = n) (k : Nat) : co (mixX s o) k = co s k ^^^ fxX o k := by
  unfold mixX fxX
  split
  · rename_i hn
    rw [hn, show co [] k = 0 from rfl, UInt8.xor_zero]
  · rename_i hn
    cases o with
    | none => exact absurd rfl hn
    | some x =>
      have hx := h x rfl
      show co (mixF s x) k = co s k ^^^ co x k
      unfold mixF
      rw [co_pl]
      by_cases hk : k < min s.length x.length
      · rw [if_pos hk]
      · rw [if_neg hk, co_over (p := s) (by omega), co_over (p := x) (by omega)]; rfl
theorem zbs_mixX {s : Bytes} {o : Option Bytes} {n : Nat} (hs : s.length = n) (h : ∀ x, o = some x → x.length = n) : zbs (mixX s o) = sumN (fun k => zb (co s k ^^^ fxX o k)) n := by
  rw [zbs_co, mixX_len hs h]
  exact sumN_congr fun k _ => by rw [co_mixX hs h]
theorem fx_base (n : Nat) (o : Option Bytes) (k : Nat) : co (baseX n o) k = fxX o k := by
  unfold baseX fxX
  split
  · rename_i h
    rw [h]
    unfold co
    rw [List.getD_eq_getElem?_getD, List.getElem?_replicate]
    split <;> rfl
  · rfl
theorem fx_flip {n : Nat} {o : Option Bytes} {i : Nat} (hl : ∀ x, o = some x → x.length = n) (hi : i < n) (v : UInt8) (k : Nat) : fxX (some (flip1 (baseX n o) i v)) k = if k = i then fxX o k ^^^ v else fxX o k := by
  show co (flip1 (baseX n o) i v) k = _
  unfold flip1
  rw [co_set, baseX_len hl, fx_base]
  by_cases e : k = i
  · rw [if_pos ⟨e, hi⟩, if_pos e, e]
  · rw [if_neg (fun h => e h.1), if_neg e, fx_base]

/-- A byte of which so many bits turn. -/
def Wt (v : UInt8) (w : Nat) : Prop := ∀ c, zb c ≤ zb (c ^^^ v) + w ∧ zb (c ^^^ v) ≤ zb c + w
theorem wt_of {v : UInt8} {w : Nat} (h : ∀ n, n < 256 → zb (UInt8.ofNat n) ≤ zb (UInt8.ofNat n ^^^ v) + w ∧ zb (UInt8.ofNat n ^^^ v) ≤ zb (UInt8.ofNat n) + w) : Wt v w := fun c => by
  have := h c.toNat c.toNat_lt
  rwa [UInt8.ofNat_toNat] at this
theorem wt_bit : ∀ j, j < 8 → Wt (UInt8.ofNat (2 ^ j)) 1 := by
  have key : ∀ j, j < 8 → ∀ n, n < 256 → zb (UInt8.ofNat n) ≤ zb (UInt8.ofNat n ^^^ UInt8.ofNat (2 ^ j)) + 1 ∧ zb (UInt8.ofNat n ^^^ UInt8.ofNat (2 ^ j)) ≤ zb (UInt8.ofNat n) + 1 := by decide +kernel
  exact fun j hj => wt_of (key j hj)
theorem wt_129 : Wt 129 2 := wt_of (by decide +kernel)

/-- So little turned. -/
structure Fl (n w : Nat) (o : Option Bytes) (m : Nat) : Prop where
  len : ∀ x, o = some x → x.length = n
  z1 : ∀ s, s.length = n → zbs s ≤ zbs (mixX s o) + w * m
  z2 : ∀ s, s.length = n → zbs (mixX s o) ≤ zbs s + w * m
  nz : cN n (fun k => fxX o k != 0) ≤ m
theorem mix_none (s : Bytes) : mixX s none = s := rfl
theorem Fl.non (n w m : Nat) : Fl n w none m := by
  refine ⟨(fun x hx => by cases hx), fun s _ => by rw [mix_none]; omega, fun s _ => by rw [mix_none]; omega, ?_⟩
  have : cN n (fun k => fxX none k != 0) = 0 := by
    unfold cN
    rw [List.filter_eq_nil_iff.2 fun k _ => by simp [fxX, co]]; rfl
  omega
theorem Fl.mono {n w m m' : Nat} {o : Option Bytes} (h : Fl n w o m) (hm : m ≤ m') : Fl n w o m' := by
  have := Nat.mul_le_mul_left w hm
  exact ⟨h.len, fun s hs => by have := h.z1 s hs; omega, fun s hs => by have := h.z2 s hs; omega, Nat.le_trans h.nz hm⟩
theorem Fl.flip {n w m : Nat} {o : Option Bytes} (h : Fl n w o m) {i : Nat} (hi : i < n) {v : UInt8} (hv : Wt v w) : Fl n w (some (flip1 (baseX n o) i v)) (m + 1) := by
  have hl : ∀ x, some (flip1 (baseX n o) i v) = some x → x.length = n := fun x hx => by
    cases hx
    unfold flip1
    rw [List.length_set]
    exact baseX_len h.len
  have hf := fun k => fx_flip h.len hi v k
  refine ⟨hl, fun s hs => ?_, fun s hs => ?_, ?_⟩
  · have h1 := h.z1 s hs
    rw [zbs_mixX hs h.len] at h1
    rw [zbs_mixX hs hl]
    have h2 := sumN_le1 (n := n) (f := fun k => zb (co s k ^^^ fxX o k)) (g := fun k => zb (co s k ^^^ fxX (some (flip1 (baseX n o) i v)) k)) (i := i) (w := w) (fun k _ hne => by rw [hf, if_neg hne]; exact Nat.le_refl _)
      (by rw [hf, if_pos rfl, ← UInt8.xor_assoc]; exact (hv _).1)
    rw [Nat.mul_succ]
    omega
  · have h1 := h.z2 s hs
    rw [zbs_mixX hs h.len] at h1
    rw [zbs_mixX hs hl]
    have h2 := sumN_le1 (n := n) (f := fun k => zb (co s k ^^^ fxX (some (flip1 (baseX n o) i v)) k)) (g := fun k => zb (co s k ^^^ fxX o k)) (i := i) (w := w) (fun k _ hne => by rw [hf, if_neg hne]; exact Nat.le_refl _)
      (by rw [hf, if_pos rfl, ← UInt8.xor_assoc]; exact (hv _).2)
    rw [Nat.mul_succ]
    omega
  · have h1 := h.nz
    have h2 := cN_split (p := fun k => fxX (some (flip1 (baseX n o) i v)) k != 0) (a := i) hi
    have h3 : cN n (fun k => (fxX (some (flip1 (baseX n o) i v)) k != 0) && k != i) ≤ cN n (fun k => fxX o k != 0) := cN_mono fun k _ hk => by
      rw [Bool.and_eq_true] at hk
      have hne : k ≠ i := by simpa using hk.2
      rw [hf, if_neg hne] at hk
      exact hk.1
    have h4 : (if (fxX (some (flip1 (baseX n o) i v)) i != 0) = true then 1 else 0) ≤ 1 := by split <;> omega
    omega

/-! One word. -/
theorem pt_one (s : Bytes) : pt s 1 0 = s := by
  have hl : (pt s 1 0).length = s.length := by rw [pt_len s (Nat.le_refl 1)]; unfold wl; omega
  refine (pl_co (pt s 1 0)).symm.trans (Eq.trans ?_ (pl_co s))
  rw [hl]
  refine pl_congr fun k _ => ?_
  rw [pt_co s (Nat.le_refl 1), Nat.zero_add, Nat.mul_one]
/-- The usual cells. -/
def Std (q : CeA) : Prop := q.a.B = 8 ∧ q.a.P = 4 ∧ q.S = 64 ∧ q.W = 1
theorem Std.R {q : CeA} (h : Std q) : q.R = 104 := by unfold CeA.R; rw [h.2.2.1, h.2.2.2]
theorem sh96 {q : CeA} (h : Std q) (hs : ShOK (q.S + 32) 8 q.W q.D) : ShOK 96 8 1 q.D := by rw [h.2.2.1, h.2.2.2] at hs; exact hs

theorem raw_right {s : Bytes} (hs : s.length = 96) (seed : Int) : rtB (rawF s 1 8 seed) 8 = true := by
  have := raw_word (t := tF s seed) (W := 1) (P := 8) (n := 0) (by decide) (by decide) (by rw [tF_len, hs]; decide)
  rw [pt_one, pt_one] at this
  unfold rawF
  rw [this]
  exact enc_right _ _
theorem raw_ne {s : Bytes} (hs : s.length = 96) (seed : Int) : rawF s 1 8 seed ≠ List.replicate 104 255 := fun h => by
  have h1 := raw_right hs seed
  rw [h, rt_ones] at h1
  cases h1

/-- A kept page of which few bytes are others comes back. -/
theorem dec_few {q : CeA} (hq : Std q) (hs : ShOK (q.S + 32) 8 q.W q.D) {s : Bytes} (hl : s.length = 96) {seed : Int} {o : Option Bytes} (ho : ∀ x, o = some x → x.length = 104) (hn : cN 104 (fun k => fxX o k != 0) ≤ 4) :
    DecIs q seed (mixX (rawF s 1 8 seed) o) (s, ((cN 104 (fun k => fxX o k != 0) : Nat) : Int), 0) := by
  intro H
  have hrl : (rawF s 1 8 seed).length = 104 := by rw [rawF_len, hl]
  have hml := mixX_len hrl ho
  have hsh := sh96 hq hs
  rw [← hl] at hsh
  have hcn : (cN 104 fun k => co (mixX (rawF s 1 8 seed) o) k != co (rawF s 1 8 seed) k) = cN 104 fun k => fxX o k != 0 := cN_congr fun k _ => by
    rw [co_mixX hrl ho]
    by_cases e : fxX o k = 0
    · rw [e, UInt8.xor_zero]; simp
    · rw [bne_iff_ne.2 e, bne_iff_ne.2 fun h => e (xor_ne.1 h)]
  obtain ⟨G, k1, hx⟩ := wback (l := []) (x3 := ⟨none, 0, 0⟩) (H := H) (nil_row H 1) (by simp) hsh seed (raw2 := mixX (rawF s 1 8 seed) o) (by rw [hml, hl]) (fun _ => false) (fun k _ => by simp) (by
    intro n hn1
    obtain rfl : n = 0 := by omega
    have hw : wl (s.length + 1 * 8) 1 0 = 104 := by rw [hl]; decide
    rw [hw]
    have e1 : (cN 104 fun k => co (mixX (rawF s 1 8 seed) o) (0 + k * 1) != co (rawF s 1 8 seed) (0 + k * 1) && !false) = cN 104 fun k => fxX o k != 0 := by
      rw [← hcn]
      exact cN_congr fun k _ => by rw [Nat.zero_add, Nat.mul_one]; simp
    have e2 : (cN 104 fun _ => false) = 0 := by decide
    rw [e1]
    omega)
  rw [hl] at hx
  refine ⟨G, ?_, k1⟩
  rw [hq.2.2.2, hq.R]
  rw [hcn] at hx
  exact hx
end Ev
