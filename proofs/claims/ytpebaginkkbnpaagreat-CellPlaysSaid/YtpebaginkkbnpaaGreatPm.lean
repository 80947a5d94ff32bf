/- Polynomials over the field of 256, as lists of bytes, that of the power 0 first. -/
import Derived.Test.YtpebaginkkbnpaaGreatGf
namespace Ev

def co (p : Bytes) (i : Nat) : UInt8 := p.getD i 0
def pl (n : Nat) (f : Nat → UInt8) : Bytes := (List.range n).map f
theorem pl_len (n : Nat) (f : Nat → UInt8) : (pl n f).length = n := by simp [pl]
theorem co_pl (n : Nat) (f : Nat → UInt8) (i : Nat) : co (pl n f) i = if i < n then f i else 0 := by
  unfold co pl
  rw [List.getD_eq_getElem?_getD, List.getElem?_map]
  by_cases h : i < n
  · rw [if_pos h, List.getElem?_eq_getElem (by simpa using h)]; simp
  · rw [if_neg h, List.getElem?_eq_none (by simp; omega)]; rfl
theorem co_lt {p : Bytes} {i : Nat} (h : i < p.length) : co p i = p[i] := by unfold co; simp [List.getD, h]
theorem co_ge {p : Bytes} {i : Nat} (h : p.length ≤ i) : co p i = 0 := by
  unfold co
  rw [List.getD_eq_getElem?_getD, List.getElem?_eq_none h]; rfl
theorem pl_co (p : Bytes) : pl p.length (co p) = p := by
  apply List.ext_getElem?
  intro i
  unfold pl
  rw [List.getElem?_map]
  by_cases h : i < p.length
  · rw [List.getElem?_eq_getElem (by simpa using h), List.getElem_range, Option.map_some, List.getElem?_eq_getElem h, co_lt h]
  · rw [List.getElem?_eq_none (by simp; omega), List.getElem?_eq_none (by omega)]; rfl
theorem pl_congr {n : Nat} {f g : Nat → UInt8} (h : ∀ i, i < n → f i = g i) : pl n f = pl n g := by
  unfold pl
  exact List.map_congr_left fun i hi => h i (List.mem_range.1 hi)
/-- How long it is without noughts at its end. -/
def tl : Bytes → Nat
  | [] => 0
  | c :: r => if tl r = 0 then (if c = 0 then 0 else 1) else tl r + 1
def trim (p : Bytes) : Bytes := p.take (tl p)
theorem tl_le : ∀ p, tl p ≤ p.length
  | [] => Nat.le_refl 0
  | c :: r => by
    have := tl_le r
    unfold tl
    rw [List.length_cons]
    split
    · split <;> omega
    · omega
theorem tl_zero : ∀ (p : Bytes) (i : Nat), tl p ≤ i → co p i = 0
  | [], i, _ => co_ge (Nat.zero_le i)
  | c :: r, 0, h => by
    unfold tl at h
    split at h
    · split at h
      · rename_i hc; rw [hc]; rfl
      · omega
    · omega
  | c :: r, i + 1, h => by
    show co r i = 0
    apply tl_zero r i
    unfold tl at h
    split at h
    · omega
    · omega
theorem tl_ne : ∀ (p : Bytes), 0 < tl p → co p (tl p - 1) ≠ 0
  | [], h => absurd h (by decide)
  | c :: r, h => by
    unfold tl at h ⊢
    by_cases h0 : tl r = 0
    · rw [if_pos h0] at h ⊢
      by_cases hc : c = 0
      · rw [if_pos hc] at h; omega
      · rw [if_neg hc]; exact hc
    · rw [if_neg h0]
      have := tl_ne r (by omega)
      rw [show tl r + 1 - 1 = (tl r - 1) + 1 by omega]
      exact this
theorem tl_eq {p : Bytes} {n : Nat} (h1 : ∀ i, n ≤ i → co p i = 0) (h2 : 0 < n → co p (n - 1) ≠ 0) : tl p = n := by
  by_cases hlt : tl p < n
  · exact absurd (tl_zero p (n - 1) (by omega)) (h2 (by omega))
  · by_cases hgt : n < tl p
    · exact absurd (h1 (tl p - 1) (by omega)) (tl_ne p (by omega))
    · omega
theorem co_trim (p : Bytes) (i : Nat) : co (trim p) i = co p i := by
  unfold trim
  by_cases h : i < tl p
  · have := tl_le p
    rw [co_lt (by rw [List.length_take]; omega), co_lt (by omega), List.getElem_take]
  · rw [co_ge (by rw [List.length_take]; omega), tl_zero p i (by omega)]
theorem trim_len (p : Bytes) : (trim p).length = tl p := by
  unfold trim
  rw [List.length_take]
  have := tl_le p
  omega

/-- A polynomial's number at a number. -/
def ev : Bytes → UInt8 → UInt8
  | [], _ => 0
  | c :: r, x => gm (ev r x) x ^^^ c
theorem ev_drop {p : Bytes} {i : Nat} (h : i < p.length) (x : UInt8) : ev (p.drop i) x = gm (ev (p.drop (i + 1)) x) x ^^^ co p i := by
  rw [List.drop_eq_getElem_cons h, ev, co_lt h]

/-! Sums. -/
def sm : Nat → (Nat → UInt8) → UInt8
  | 0, _ => 0
  | n + 1, f => sm n f ^^^ f n
theorem sm_congr {f g : Nat → UInt8} : ∀ {n : Nat}, (∀ i, i < n → f i = g i) → sm n f = sm n g
  | 0, _ => rfl
  | n + 1, h => by rw [sm, sm, sm_congr fun i hi => h i (by omega), h n (by omega)]
theorem sm_none : ∀ n, sm n (fun _ => 0) = 0
  | 0 => rfl
  | n + 1 => by rw [sm, sm_none n]; rfl
theorem sm_xor (f g : Nat → UInt8) : ∀ n, sm n (fun i => f i ^^^ g i) = sm n f ^^^ sm n g
  | 0 => by rw [sm, sm, sm, UInt8.xor_self]
  | n + 1 => by rw [sm, sm, sm, sm_xor f g n]; ac_rfl
theorem gm_sm (c : UInt8) (f : Nat → UInt8) : ∀ n, gm c (sm n f) = sm n fun i => gm c (f i)
  | 0 => gm_zero c
  | n + 1 => by rw [sm, sm, xor_gm, gm_sm c f n]
theorem sm_gm (c : UInt8) (f : Nat → UInt8) (n : Nat) : gm (sm n f) c = sm n fun i => gm (f i) c := by
  rw [gm_comm, gm_sm]; exact sm_congr fun i _ => gm_comm c (f i)
theorem sm_more {f : Nat → UInt8} {n : Nat} : ∀ {m : Nat}, n ≤ m → (∀ i, n ≤ i → i < m → f i = 0) → sm m f = sm n f
  | 0, h, _ => by rw [show n = 0 by omega]
  | m + 1, h, h0 => by
    by_cases he : n = m + 1
    · rw [he]
    · rw [sm, sm_more (m := m) (by omega) fun i h1 h2 => h0 i h1 (by omega), h0 m (by omega) (by omega), UInt8.xor_zero]
theorem sm_add (f : Nat → UInt8) (n : Nat) : ∀ m, sm (n + m) f = sm n f ^^^ sm m fun i => f (n + i)
  | 0 => by rw [Nat.add_zero, sm, UInt8.xor_zero]
  | m + 1 => by rw [← Nat.add_assoc, sm, sm_add f n m, sm, UInt8.xor_assoc]
theorem sm_first (f : Nat → UInt8) (n : Nat) : sm (n + 1) f = f 0 ^^^ sm n fun i => f (i + 1) := by
  rw [Nat.add_comm, sm_add]
  congr 1
  · rw [sm, sm, UInt8.zero_xor]
  · exact sm_congr fun i _ => by rw [Nat.add_comm]
theorem sm_swap (f : Nat → Nat → UInt8) (m : Nat) : ∀ n, sm n (fun i => sm m fun j => f i j) = sm m fun j => sm n fun i => f i j
  | 0 => (sm_none m).symm
  | n + 1 => by rw [sm, sm_swap f m n, ← sm_xor]; rfl
theorem sm_one {f : Nat → UInt8} {n k : Nat} (hk : k < n) (h : ∀ i, i < n → i ≠ k → f i = 0) : sm n f = f k := by
  obtain ⟨m, rfl⟩ : ∃ m, n = k + (m + 1) := ⟨n - k - 1, by omega⟩
  rw [sm_add, sm_first]
  have h1 : sm k f = 0 := by rw [sm_congr (g := fun _ => 0) fun i hi => h i (by omega) (by omega), sm_none]
  have h2 : (sm m fun i => f (k + (i + 1))) = 0 := by rw [sm_congr (g := fun _ => 0) fun i hi => h _ (by omega) (by omega), sm_none]
  rw [h1, h2, UInt8.zero_xor, UInt8.xor_zero]; rfl

theorem ev_sum (x : UInt8) : ∀ (p : Bytes), ev p x = sm p.length fun i => gm (co p i) (gpow x i)
  | [] => rfl
  | c :: r => by
    rw [ev, ev_sum x r, List.length_cons, sm_first]
    show _ = gm c (gpow x 0) ^^^ _
    rw [gpow, gm_one, UInt8.xor_comm, sm_gm]
    congr 1
    refine sm_congr fun i _ => ?_
    show _ = gm (co r i) (gm x (gpow x i))
    ac_rfl
theorem ev_sm {p : Bytes} {n : Nat} (h : ∀ i, n ≤ i → co p i = 0) (x : UInt8) : ev p x = sm n fun i => gm (co p i) (gpow x i) := by
  rw [ev_sum]
  by_cases hle : n ≤ p.length
  · exact sm_more hle fun i h1 _ => by rw [h i h1, zero_gm]
  · exact (sm_more (by omega) fun i h1 _ => by rw [co_ge h1, zero_gm]).symm
theorem ev_co {p q : Bytes} (h : ∀ i, co p i = co q i) (x : UInt8) : ev p x = ev q x := by
  rw [ev_sm (n := q.length) (fun i hi => by rw [h, co_ge hi]) x, ev_sum]
  exact sm_congr fun i _ => by rw [h]
theorem ev_trim (p : Bytes) (x : UInt8) : ev (trim p) x = ev p x := ev_co (co_trim p) x
theorem ev_pl (n : Nat) (f : Nat → UInt8) (x : UInt8) : ev (pl n f) x = sm n fun i => gm (f i) (gpow x i) := by
  rw [ev_sum, pl_len]
  exact sm_congr fun i hi => by rw [co_pl, if_pos hi]

/-! What the operations are. -/
def padd (p q : Bytes) : Bytes := pl (max p.length q.length) fun i => co p i ^^^ co q i
def psc (a : UInt8) (p : Bytes) : Bytes := pl p.length fun i => gm a (co p i)
def psh (n : Nat) (p : Bytes) : Bytes := pl (n + p.length) fun i => if i < n then 0 else co p (i - n)
def cv (p q : Bytes) : Nat → Nat → UInt8
  | 0, _ => 0
  | i + 1, k => cv p q i k ^^^ (if i ≤ k then gm (co p i) (co q (k - i)) else 0)
def pmul (p q : Bytes) : Bytes := pl (p.length + q.length) (cv p q p.length)
theorem co_padd (p q : Bytes) (i : Nat) : co (padd p q) i = co p i ^^^ co q i := by
  unfold padd
  rw [co_pl]
  split
  · rfl
  · rw [co_ge (p := p) (by omega), co_ge (p := q) (by omega)]; rfl
theorem co_psc (a : UInt8) (p : Bytes) (i : Nat) : co (psc a p) i = gm a (co p i) := by
  unfold psc
  rw [co_pl]
  split
  · rfl
  · rw [co_ge (p := p) (by omega), gm_zero]
theorem co_psh (n : Nat) (p : Bytes) (i : Nat) : co (psh n p) i = if i < n then 0 else co p (i - n) := by
  unfold psh
  rw [co_pl]
  split
  · rfl
  · rw [if_neg (by omega), co_ge (by omega)]
theorem cv_sum (p q : Bytes) (k : Nat) : ∀ n, cv p q n k = sm n fun i => if i ≤ k then gm (co p i) (co q (k - i)) else 0
  | 0 => rfl
  | n + 1 => by rw [cv, sm, cv_sum p q k n]
theorem co_pmul (p q : Bytes) (k : Nat) : co (pmul p q) k = sm (k + 1) fun i => gm (co p i) (co q (k - i)) := by
  have key : ∀ n, p.length ≤ n → (sm n fun i => if i ≤ k then gm (co p i) (co q (k - i)) else 0) = sm p.length fun i => if i ≤ k then gm (co p i) (co q (k - i)) else 0 := fun n hn =>
    sm_more hn fun i h1 _ => by rw [co_ge h1, zero_gm]; split <;> rfl
  have hcv : cv p q p.length k = sm (k + 1) fun i => gm (co p i) (co q (k - i)) := by
    rw [cv_sum]
    by_cases hle : p.length ≤ k + 1
    · rw [← key (k + 1) hle]
      exact sm_congr fun i hi => by rw [if_pos (by omega)]
    · rw [sm_more (n := k + 1) (by omega) fun i h1 _ => by rw [if_neg (by omega)]]
      exact sm_congr fun i hi => by rw [if_pos (by omega)]
  unfold pmul
  rw [co_pl]
  split
  · exact hcv
  · rename_i h
    symm
    rw [sm_congr (g := fun _ => 0) fun i hi => ?_, sm_none]
    by_cases h1 : p.length ≤ i
    · rw [co_ge h1, zero_gm]
    · rw [co_ge (p := q) (by omega), gm_zero]
theorem ev_padd (p q : Bytes) (x : UInt8) : ev (padd p q) x = ev p x ^^^ ev q x := by
  have h1 : ∀ i, max p.length q.length ≤ i → co p i = 0 := fun i hi => co_ge (by omega)
  have h2 : ∀ i, max p.length q.length ≤ i → co q i = 0 := fun i hi => co_ge (by omega)
  rw [ev_sm h1, ev_sm h2, ← sm_xor]
  unfold padd
  rw [ev_pl]
  exact sm_congr fun i _ => by rw [gm_xor]
theorem ev_psc (a : UInt8) (p : Bytes) (x : UInt8) : ev (psc a p) x = gm a (ev p x) := by
  rw [ev_sum x p, gm_sm]
  unfold psc
  rw [ev_pl]
  exact sm_congr fun i _ => gm_assoc _ _ _
theorem ev_psh (n : Nat) (p : Bytes) (x : UInt8) : ev (psh n p) x = gm (gpow x n) (ev p x) := by
  unfold psh
  rw [ev_pl, sm_add, sm_congr (g := fun _ => 0) (n := n) fun i hi => by rw [if_pos hi, zero_gm], sm_none, UInt8.zero_xor, ev_sum x p, gm_sm]
  refine sm_congr fun i _ => ?_
  rw [if_neg (by omega), Nat.add_sub_cancel_left, gpow_add]
  ac_rfl
theorem ev_pmul (p q : Bytes) (x : UInt8) : ev (pmul p q) x = gm (ev p x) (ev q x) := by
  unfold pmul
  rw [ev_pl, ev_sum x p, sm_gm]
  have h1 : ∀ k, k < p.length + q.length → gm (cv p q p.length k) (gpow x k) = sm p.length fun i => gm (if i ≤ k then gm (co p i) (co q (k - i)) else 0) (gpow x k) := fun k _ => by rw [cv_sum, sm_gm]
  rw [sm_congr h1, sm_swap]
  refine sm_congr fun i hi => ?_
  rw [show p.length + q.length = i + (q.length + (p.length - i)) by omega, sm_add, sm_congr (g := fun _ => 0) (n := i) fun k hk => by rw [if_neg (by omega), zero_gm], sm_none, UInt8.zero_xor]
  have h2 : ∀ k, k < q.length + (p.length - i) → gm (if i ≤ i + k then gm (co p i) (co q (i + k - i)) else 0) (gpow x (i + k)) = gm (gm (co p i) (gpow x i)) (gm (co q k) (gpow x k)) := fun k _ => by
    rw [if_pos (by omega), Nat.add_sub_cancel_left, gpow_add]; ac_rfl
  rw [sm_congr h2, ← gm_sm, ← ev_sm (p := q) (n := q.length + (p.length - i)) (fun k hk => co_ge (by omega))]
end Ev
