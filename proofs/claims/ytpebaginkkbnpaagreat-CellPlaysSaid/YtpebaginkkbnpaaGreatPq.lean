/- Polynomials as sequences: products, factors, degrees, and what dividing on tells. -/
import Derived.Test.YtpebaginkkbnpaaGreatPm
namespace Ev

abbrev Ps := Nat → UInt8
def fadd (f g : Ps) : Ps := fun i => f i ^^^ g i
def fmul (f g : Ps) : Ps := fun k => sm (k + 1) fun i => gm (f i) (g (k - i))
def mono (c : UInt8) (k : Nat) : Ps := fun i => if i = k then c else 0
def Cg (n : Nat) (f g : Ps) : Prop := ∀ i, i < n → f i = g i
def Bd (f : Ps) (d : Nat) : Prop := ∀ i, d ≤ i → f i = 0
theorem sm_rev : ∀ (n : Nat) (f : Ps), sm n f = sm n fun i => f (n - 1 - i)
  | 0, _ => rfl
  | n + 1, f => by
    rw [sm_first (fun i => f (n + 1 - 1 - i)), sm, sm_rev n f, UInt8.xor_comm]
    congr 1
    exact sm_congr fun i hi => by congr 1; omega
theorem fmul_comm (f g : Ps) : fmul f g = fmul g f := by
  funext k
  unfold fmul
  rw [sm_rev]
  refine sm_congr fun i hi => ?_
  rw [gm_comm]
  congr 1
  congr 1; omega
theorem fadd_comm (f g : Ps) : fadd f g = fadd g f := by funext i; exact UInt8.xor_comm _ _
theorem fadd_assoc (f g h : Ps) : fadd (fadd f g) h = fadd f (fadd g h) := by funext i; exact UInt8.xor_assoc _ _ _
theorem fadd_self (f : Ps) : fadd f f = fun _ => 0 := by funext i; exact UInt8.xor_self
theorem fadd_none (f : Ps) : fadd f (fun _ => 0) = f := by funext i; exact UInt8.xor_zero
theorem sm_if {F : Ps} {i k : Nat} (h : i ≤ k) : (sm (k + 1) fun j => if j ≤ i then F j else 0) = sm (i + 1) F := by
  rw [sm_more (n := i + 1) (by omega) fun j h1 _ => if_neg (by omega)]
  exact sm_congr fun j hj => if_pos (by omega)
theorem fmul_assoc (f g h : Ps) : fmul (fmul f g) h = fmul f (fmul g h) := by
  funext k
  unfold fmul
  have h1 : ∀ i, i < k + 1 → gm (sm (i + 1) fun j => gm (f j) (g (i - j))) (h (k - i)) = sm (k + 1) fun j => if j ≤ i then gm (gm (f j) (g (i - j))) (h (k - i)) else 0 := fun i hi => by
    rw [sm_gm, ← sm_if (k := k) (by omega)]
  rw [sm_congr h1, sm_swap]
  refine sm_congr fun j hj => ?_
  rw [gm_sm, show k + 1 = j + (k - j + 1) by omega, sm_add, sm_congr (g := fun _ => 0) (n := j) fun i hi => if_neg (by omega), sm_none, UInt8.zero_xor]
  refine sm_congr fun m hm => ?_
  rw [if_pos (by omega), Nat.add_sub_cancel_left, gm_assoc, show k - (j + m) = k - j - m by omega]
theorem fmul_fadd (f g h : Ps) : fmul f (fadd g h) = fadd (fmul f g) (fmul f h) := by
  funext k
  unfold fmul fadd
  rw [← sm_xor]
  exact sm_congr fun i _ => xor_gm _ _ _
theorem fadd_fmul (f g h : Ps) : fmul (fadd f g) h = fadd (fmul f h) (fmul g h) := by rw [fmul_comm, fmul_fadd, fmul_comm h f, fmul_comm h g]
theorem mono_fmul (c : UInt8) (k : Nat) (f : Ps) : fmul (mono c k) f = fun i => if i < k then 0 else gm c (f (i - k)) := by
  funext i
  unfold fmul mono
  by_cases h : i < k
  · rw [if_pos h, sm_congr (g := fun _ => 0) fun j hj => by rw [if_neg (by omega), zero_gm], sm_none]
  · rw [if_neg h, sm_one (k := k) (by omega) fun j _ hj => by rw [if_neg hj, zero_gm], if_pos rfl]
theorem one_fmul (f : Ps) : fmul (mono 1 0) f = f := by
  rw [mono_fmul]
  funext i
  rw [if_neg (by omega), one_gm]; rfl
theorem none_fmul (f : Ps) : fmul (fun _ => 0) f = fun _ => 0 := by
  funext k
  unfold fmul
  rw [sm_congr (g := fun _ => 0) fun j _ => zero_gm _, sm_none]
theorem fmul_none (f : Ps) : fmul f (fun _ => 0) = fun _ => 0 := by rw [fmul_comm, none_fmul]
theorem Cg.mul {n : Nat} {f f' : Ps} (h : Cg n f f') (g : Ps) : Cg n (fmul f g) (fmul f' g) := fun i hi => sm_congr fun j hj => by rw [h j (by omega)]
theorem Cg.mul2 {n : Nat} {f f' : Ps} (h : Cg n f f') (g : Ps) : Cg n (fmul g f) (fmul g f') := by rw [fmul_comm g, fmul_comm g]; exact h.mul g
theorem Cg.add {n : Nat} {f f' g g' : Ps} (h : Cg n f f') (h2 : Cg n g g') : Cg n (fadd f g) (fadd f' g') := fun i hi => by
  unfold fadd
  rw [h i hi, h2 i hi]
theorem Cg.trans {n : Nat} {f g h : Ps} (h1 : Cg n f g) (h2 : Cg n g h) : Cg n f h := fun i hi => (h1 i hi).trans (h2 i hi)
theorem Cg.symm {n : Nat} {f g : Ps} (h1 : Cg n f g) : Cg n g f := fun i hi => (h1 i hi).symm
theorem Cg.full {n : Nat} {f g : Ps} (h : Cg n f g) (hf : Bd f n) (hg : Bd g n) : f = g := by
  funext i
  by_cases hi : i < n
  · exact h i hi
  · rw [hf i (by omega), hg i (by omega)]
theorem Bd.mono' {f : Ps} {a b : Nat} (h : Bd f a) (hab : a ≤ b) : Bd f b := fun i hi => h i (by omega)
theorem Bd.mul {f g : Ps} {a b : Nat} (hf : Bd f a) (hg : Bd g b) : Bd (fmul f g) (a + b - 1) := fun k hk => by
  unfold fmul
  rw [sm_congr (g := fun _ => 0) fun i hi => ?_, sm_none]
  by_cases h : a ≤ i
  · rw [hf i h, zero_gm]
  · rw [hg (k - i) (by omega), gm_zero]
theorem Bd.add {f g : Ps} {a : Nat} (hf : Bd f a) (hg : Bd g a) : Bd (fadd f g) a := fun k hk => by
  unfold fadd
  rw [hf k hk, hg k hk]; rfl
theorem fmul_top {f g : Ps} {a b : Nat} (hf : Bd f (a + 1)) (hg : Bd g (b + 1)) : fmul f g (a + b) = gm (f a) (g b) := by
  unfold fmul
  rw [sm_one (k := a) (by omega) fun i hi hne => ?_, Nat.add_sub_cancel_left]
  by_cases h : a < i
  · rw [hf i (by omega), zero_gm]
  · rw [hg (a + b - i) (by omega), gm_zero]
theorem fmul_first (f g : Ps) : fmul f g 0 = gm (f 0) (g 0) := by
  unfold fmul
  rw [sm, sm, UInt8.zero_xor]
theorem fmul_cancel {f g h : Ps} (h0 : f 0 ≠ 0) (he : fmul f g = fmul f h) : g = h := by
  have key : ∀ n i, i < n → g i = h i := by
    intro n
    induction n with
    | zero => intro i hi; omega
    | succ n ih =>
      intro i hi
      by_cases hlt : i < n
      · exact ih i hlt
      · have : i = n := by omega
        subst this
        have e := congrFun he i
        unfold fmul at e
        rw [sm_first, sm_first] at e
        have e2 : (sm i fun j => gm (f (j + 1)) (g (i - (j + 1)))) = sm i fun j => gm (f (j + 1)) (h (i - (j + 1))) := sm_congr fun j hj => by rw [ih _ (by omega)]
        rw [e2, Nat.sub_zero] at e
        have e3 : gm (f 0) (g i) = gm (f 0) (h i) := by
          have := congrArg (fun x => x ^^^ sm i fun j => gm (f (j + 1)) (h (i - (j + 1)))) e
          simp only [UInt8.xor_assoc, UInt8.xor_self, UInt8.xor_zero] at this
          exact this
        exact gm_cancel h0 e3
  funext i
  exact key (i + 1) i (by omega)

/-! Lists of bytes. -/
theorem co_mulf (p q : Bytes) : co (pmul p q) = fmul (co p) (co q) := by funext k; exact co_pmul p q k
theorem co_trimf (p : Bytes) : co (trim p) = co p := by funext k; exact co_trim p k
theorem co_addf (p q : Bytes) : co (padd p q) = fadd (co p) (co q) := by funext k; exact co_padd p q k
theorem bd_co (p : Bytes) : Bd (co p) p.length := fun i hi => co_ge hi
theorem bd_tl (p : Bytes) : Bd (co p) (tl p) := fun i hi => tl_zero p i hi
theorem co_zero {p : Bytes} (h : tl p = 0) : co p = fun _ => 0 := by funext i; exact tl_zero p i (by omega)
theorem tl_fmul {p q : Bytes} (hp : 0 < tl p) (hq : 0 < tl q) {r : Bytes} (h : co r = fmul (co p) (co q)) : tl r = tl p + tl q - 1 := by
  have hb := (bd_tl p).mul (bd_tl q)
  have ht := fmul_top (f := co p) (g := co q) (a := tl p - 1) (b := tl q - 1) ((bd_tl p).mono' (by omega)) ((bd_tl q).mono' (by omega))
  refine tl_eq (fun i hi => by rw [h]; exact hb i hi) fun _ => ?_
  rw [h, show tl p + tl q - 1 - 1 = tl p - 1 + (tl q - 1) by omega, ht]
  exact gm_ne (tl_ne p hp) (tl_ne q hq)
theorem ev_mulf {p q r : Bytes} (h : co r = fmul (co p) (co q)) (x : UInt8) : ev r x = gm (ev p x) (ev q x) := by
  rw [← ev_pmul]
  exact ev_co (fun i => by rw [h, co_mulf]) x
theorem ev_none {p : Bytes} (h : ∀ i, co p i = 0) (x : UInt8) : ev p x = 0 := by rw [ev_sm (n := 0) (fun i _ => h i)]; rfl
theorem gpow_ne {a : UInt8} (h : a ≠ 0) (n : Nat) : gpow a n ≠ 0 := by
  induction n with
  | zero => exact (by decide : (1 : UInt8) ≠ 0)
  | succ n ih => exact gm_ne h ih
theorem ginv_gm {a : UInt8} (h : a ≠ 0) : gm (ginv a) a = 1 := by rw [gm_comm]; exact gm_ginv h
theorem ginv_ne {a : UInt8} (h : a ≠ 0) : ginv a ≠ 0 := fun h0 => by
  have := gm_ginv h
  rw [h0, gm_zero] at this
  exact absurd this (by decide)
theorem ev_lin (X x : UInt8) : ev [1, X] x = gm X x ^^^ 1 := by
  show gm (gm 0 x ^^^ X) x ^^^ 1 = _
  rw [zero_gm, UInt8.zero_xor]
theorem ev_lin_zero {X Y : UInt8} (hY : Y ≠ 0) : ev [1, X] (ginv Y) = 0 ↔ X = Y := by
  rw [ev_lin, xor_eq_zero]
  constructor
  · intro h
    refine gm_cancel (ginv_ne hY) ?_
    rw [ginv_gm hY, gm_comm, h]
  · rintro rfl; exact gm_ginv hY
theorem lin_fmul (X : UInt8) (f : Ps) (k : Nat) : fmul (co [1, X]) f k = f k ^^^ (if k = 0 then 0 else gm X (f (k - 1))) := by
  unfold fmul
  rw [sm_first]
  have h0 : co [1, X] 0 = 1 := rfl
  rw [h0, one_gm, Nat.sub_zero]
  congr 1
  cases k with
  | zero => rfl
  | succ k =>
    rw [if_neg (by omega), sm_one (k := 0) (by omega) fun i _ hne => by rw [co_ge (p := [1, X]) (show 2 ≤ i + 1 by omega), zero_gm]]
    rfl
/-- Divided by a factor. -/
def dq (p : Bytes) (X : UInt8) : Nat → UInt8
  | 0 => co p 0
  | i + 1 => co p (i + 1) ^^^ gm X (dq p X i)
theorem dq_sum (p : Bytes) {X : UInt8} (hX : X ≠ 0) : ∀ i, gm (gpow (ginv X) i) (dq p X i) = sm (i + 1) fun j => gm (co p j) (gpow (ginv X) j)
  | 0 => by rw [dq, sm, sm, UInt8.zero_xor, gm_comm]
  | i + 1 => by
    rw [dq, sm, ← dq_sum p hX i, xor_gm, UInt8.xor_comm, gm_comm _ (co p (i + 1))]
    congr 1
    rw [gpow]
    have : gm (gm (ginv X) (gpow (ginv X) i)) (gm X (dq p X i)) = gm (gm (ginv X) X) (gm (gpow (ginv X) i) (dq p X i)) := by ac_rfl
    rw [this, ginv_gm hX, one_gm]
theorem factor {p : Bytes} {X : UInt8} (hX : X ≠ 0) (h : ev p (ginv X) = 0) : ∃ g : Bytes, g.length = p.length - 1 ∧ co p = fmul (co [1, X]) (co g) := by
  have hz : ∀ i, p.length - 1 ≤ i → dq p X i = 0 := fun i hi => by
    have h1 := dq_sum p hX i
    rw [← ev_sm (p := p) (n := i + 1) (fun j hj => co_ge (by omega)), h] at h1
    rcases gm_eq_zero.1 h1 with h2 | h2
    · exact absurd h2 (gpow_ne (ginv_ne hX) i)
    · exact h2
  have hco : co (pl (p.length - 1) (dq p X)) = dq p X := by
    funext i
    rw [co_pl]
    split
    · rfl
    · exact (hz i (by omega)).symm
  refine ⟨pl (p.length - 1) (dq p X), pl_len _ _, ?_⟩
  rw [hco]
  funext k
  rw [lin_fmul]
  cases k with
  | zero => rw [if_pos rfl, dq, UInt8.xor_zero]
  | succ k => rw [if_neg (by omega), dq, Nat.add_sub_cancel, UInt8.xor_assoc, UInt8.xor_self, UInt8.xor_zero]
/-- The product of the factors of places. -/
def PL : List UInt8 → Bytes
  | [] => [1]
  | X :: r => pmul [1, X] (PL r)
theorem co_PL (X : UInt8) (r : List UInt8) : co (PL (X :: r)) = fmul (co [1, X]) (co (PL r)) := co_mulf _ _
theorem one_co : co [1] = mono 1 0 := by
  funext i
  cases i with
  | zero => rfl
  | succ i => exact co_ge (by show 1 ≤ i + 1; omega)
theorem PL_bd : ∀ l : List UInt8, Bd (co (PL l)) (l.length + 1)
  | [] => fun i hi => co_ge hi
  | X :: r => by
    rw [co_PL]
    have := (bd_co [1, X]).mul (PL_bd r)
    exact this.mono' (by show 2 + (r.length + 1) - 1 ≤ r.length + 1 + 1; omega)
theorem PL_first : ∀ l : List UInt8, co (PL l) 0 = 1
  | [] => rfl
  | X :: r => by
    rw [co_PL, fmul_first, PL_first r]; exact gm_one _
theorem PL_top : ∀ l : List UInt8, (∀ X ∈ l, X ≠ 0) → co (PL l) l.length ≠ 0
  | [], _ => by decide
  | X :: r, h => by
    have ht := fmul_top (f := co [1, X]) (g := co (PL r)) (a := 1) (b := r.length) (bd_co _) (PL_bd r)
    rw [co_PL, List.length_cons, Nat.add_comm, ht]
    exact gm_ne (h X (List.mem_cons_self ..)) (PL_top r fun Y hY => h Y (List.mem_cons_of_mem _ hY))
theorem PL_tl {l : List UInt8} (h : ∀ X ∈ l, X ≠ 0) : tl (PL l) = l.length + 1 := tl_eq (PL_bd l) fun _ => by rw [Nat.add_sub_cancel]; exact PL_top l h
theorem ev_PL_cons (X : UInt8) (r : List UInt8) (x : UInt8) : ev (PL (X :: r)) x = gm (ev [1, X] x) (ev (PL r) x) := ev_pmul _ _ _
theorem ev_PL : ∀ (l : List UInt8) {Y : UInt8}, Y ≠ 0 → (ev (PL l) (ginv Y) = 0 ↔ Y ∈ l)
  | [], Y, hY => by
    constructor
    · intro h
      have : ev [1] (ginv Y) = 1 := by
        show gm 0 _ ^^^ 1 = 1
        rw [zero_gm]; rfl
      rw [show PL [] = [1] from rfl, this] at h
      exact absurd h (by decide)
    · intro h; cases h
  | X :: r, Y, hY => by
    rw [ev_PL_cons, gm_eq_zero, ev_lin_zero hY, ev_PL r hY, List.mem_cons]
    constructor
    · rintro (h | h)
      · exact .inl h.symm
      · exact .inr h
    · rintro (h | h)
      · exact .inl h.symm
      · exact .inr h
theorem PL_append : ∀ a b : List UInt8, co (PL (a ++ b)) = fmul (co (PL a)) (co (PL b))
  | [], b => by rw [List.nil_append, show PL [] = [1] from rfl, one_co, one_fmul]
  | X :: a, b => by rw [List.cons_append, co_PL, PL_append a b, co_PL, fmul_assoc]
theorem factors : ∀ (l : List UInt8) (v : Bytes), l.Nodup → (∀ X ∈ l, X ≠ 0 ∧ ev v (ginv X) = 0) → ∃ w : Bytes, w.length = v.length - l.length ∧ co v = fmul (co (PL l)) (co w)
  | [], v, _, _ => ⟨v, rfl, by rw [show PL [] = [1] from rfl, one_co, one_fmul]⟩
  | X :: r, v, hn, h => by
    obtain ⟨hX, h0⟩ := h X (List.mem_cons_self ..)
    obtain ⟨g, g1, g2⟩ := factor hX h0
    rw [List.nodup_cons] at hn
    obtain ⟨w, w1, w2⟩ := factors r g hn.2 fun Y hY => by
      obtain ⟨hY0, hYv⟩ := h Y (List.mem_cons_of_mem _ hY)
      refine ⟨hY0, ?_⟩
      rw [ev_mulf g2, gm_eq_zero] at hYv
      rcases hYv with h1 | h1
      · exact absurd (by rw [← (ev_lin_zero hY0).1 h1] at hY; exact hY) hn.1
      · exact h1
    refine ⟨w, by rw [w1, g1, List.length_cons]; omega, ?_⟩
    rw [g2, w2, co_PL, fmul_assoc]
theorem roots_few {l : List UInt8} {v : Bytes} (hn : l.Nodup) (h : ∀ X ∈ l, X ≠ 0 ∧ ev v (ginv X) = 0) (hv : 0 < tl v) : l.length < tl v := by
  obtain ⟨w, w1, w2⟩ := factors l (trim v) hn fun X hX => ⟨(h X hX).1, by rw [ev_trim]; exact (h X hX).2⟩
  rw [trim_len] at w1
  by_cases hlt : l.length < tl v
  · exact hlt
  · have : w = [] := List.eq_nil_of_length_eq_zero (by omega)
    subst this
    rw [co_trimf, show co [] = fun _ => 0 from by funext i; exact co_ge (Nat.zero_le _), fmul_none] at w2
    exact absurd (by rw [w2]) (tl_ne v hv)

/-! The derivative. -/
def fD (f : Ps) : Ps := fun i => if (i + 1) % 2 = 1 then f (i + 1) else 0
theorem fD_lin (X : UInt8) (g : Ps) : fD (fmul (co [1, X]) g) = fadd (fun i => gm X (g i)) (fmul (co [1, X]) (fD g)) := by
  funext i
  unfold fadd
  rw [lin_fmul]
  unfold fD
  rw [lin_fmul]
  by_cases h : (i + 1) % 2 = 1
  · rw [if_pos h, if_neg (by omega), if_pos h, Nat.add_sub_cancel]
    by_cases h0 : i = 0
    · rw [if_pos h0, UInt8.xor_zero, UInt8.xor_comm]
    · rw [if_neg h0, if_neg (by omega), gm_zero, UInt8.xor_zero, UInt8.xor_comm]
  · rw [if_neg h, if_neg h, if_neg (by omega), if_pos (by omega), UInt8.zero_xor, show i - 1 + 1 = i by omega, UInt8.xor_self]

/-! What bytes that are others come to. -/
/-- The polynomial that tells by how much. -/
def OM (e : UInt8 → UInt8) : List UInt8 → Bytes
  | [] => []
  | X :: r => padd (psc (e X) (PL r)) (pmul [1, X] (OM e r))
theorem co_OM (e : UInt8 → UInt8) (X : UInt8) (r : List UInt8) : co (OM e (X :: r)) = fadd (fun i => gm (e X) (co (PL r) i)) (fmul (co [1, X]) (co (OM e r))) := by
  rw [OM, co_addf, co_mulf]
  congr 1
  funext i
  exact co_psc _ _ _
theorem OM_bd (e : UInt8 → UInt8) : ∀ l, Bd (co (OM e l)) l.length
  | [] => fun i _ => co_ge (Nat.zero_le _)
  | X :: r => by
    rw [co_OM]
    refine Bd.add (fun i hi => by rw [PL_bd r i hi, gm_zero]) ?_
    refine ((bd_co [1, X]).mul (OM_bd e r)).mono' ?_
    show 2 + r.length - 1 ≤ r.length + 1; omega
def geo (X : UInt8) : Ps := gpow X
theorem lin_geo (X : UInt8) : fmul (co [1, X]) (geo X) = mono 1 0 := by
  funext k
  rw [lin_fmul]
  cases k with
  | zero => rw [if_pos rfl, UInt8.xor_zero]; rfl
  | succ k =>
    rw [if_neg (by omega)]
    show gm X (gpow X k) ^^^ gm X (gpow X k) = 0
    exact UInt8.xor_self
/-- The signs of bytes that are others. -/
def SG (e : UInt8 → UInt8) : List UInt8 → Ps
  | [] => fun _ => 0
  | X :: r => fadd (fmul (mono (e X) 0) (geo X)) (SG e r)
theorem mono0 (c : UInt8) (f : Ps) : fmul (mono c 0) f = fun i => gm c (f i) := by
  rw [mono_fmul]
  funext i
  rw [if_neg (by omega)]; rfl
theorem PL_SG (e : UInt8 → UInt8) : ∀ l, fmul (co (PL l)) (SG e l) = co (OM e l)
  | [] => by
    show fmul _ (fun _ => 0) = _
    rw [fmul_none]
    funext i
    exact (co_ge (Nat.zero_le _)).symm
  | X :: r => by
    show fmul _ (fadd _ _) = _
    rw [co_PL, fmul_fadd, co_OM, ← PL_SG e r, fmul_assoc]
    congr 1
    · rw [← mono0, fmul_comm (mono (e X) 0) (geo X), ← fmul_assoc (co (PL r)) (geo X), fmul_comm (co (PL r)) (geo X), fmul_assoc (geo X), ← fmul_assoc (co [1, X]) (geo X), lin_geo, one_fmul, fmul_comm]
    · rw [fmul_assoc]
/-- At each place, the derivative is not nought, and tells how much. -/
theorem OM_slope (e : UInt8 → UInt8) : ∀ (l : List UInt8), l.Nodup → (∀ X ∈ l, X ≠ 0) → ∀ X ∈ l, ∀ D : Bytes, co D = fD (co (PL l)) → ev D (ginv X) ≠ 0 ∧ gm X (ev (OM e l) (ginv X)) = gm (e X) (ev D (ginv X))
  | [], _, _, X, hX, _, _ => by cases hX
  | Y :: r, hn, h0, X, hX, D, hD => by
    rw [List.nodup_cons] at hn
    have hX0 := h0 X hX
    have hY0 := h0 Y (List.mem_cons_self ..)
    have hDr : co (pl ((PL r).length) (fD (co (PL r)))) = fD (co (PL r)) := by
      funext i
      rw [co_pl]
      split
      · rfl
      · unfold fD
        rw [co_ge (by omega)]
        split <;> rfl
    have e1 : ev D (ginv X) = gm Y (ev (PL r) (ginv X)) ^^^ gm (ev [1, Y] (ginv X)) (ev (pl ((PL r).length) (fD (co (PL r)))) (ginv X)) := by
      rw [← ev_psc, ← ev_pmul, ← ev_padd]
      refine ev_co (fun i => ?_) _
      rw [hD, co_PL, fD_lin, co_addf, co_mulf, hDr]
      unfold fadd
      rw [co_psc]
    have e2 : ev (OM e (Y :: r)) (ginv X) = gm (e Y) (ev (PL r) (ginv X)) ^^^ gm (ev [1, Y] (ginv X)) (ev (OM e r) (ginv X)) := by
      rw [OM, ev_padd, ev_psc, ev_pmul]
    by_cases hXY : X = Y
    · subst hXY
      have hz := (ev_lin_zero (X := X) hX0).2 rfl
      have hp : ev (PL r) (ginv X) ≠ 0 := fun h => hn.1 ((ev_PL r hX0).1 h)
      rw [e1, e2, hz, zero_gm, zero_gm, UInt8.xor_zero, UInt8.xor_zero]
      exact ⟨gm_ne hX0 hp, by ac_rfl⟩
    · have hXr : X ∈ r := by
        rcases List.mem_cons.1 hX with h | h
        · exact absurd h hXY
        · exact h
      have hp : ev (PL r) (ginv X) = 0 := (ev_PL r hX0).2 hXr
      have hl : ev [1, Y] (ginv X) ≠ 0 := fun h => hXY ((ev_lin_zero hX0).1 h).symm
      obtain ⟨i1, i2⟩ := OM_slope e r hn.2 (fun Z hZ => h0 Z (List.mem_cons_of_mem _ hZ)) X hXr _ hDr
      rw [e1, e2, hp, gm_zero, gm_zero, UInt8.zero_xor, UInt8.zero_xor]
      refine ⟨gm_ne hl i1, ?_⟩
      have : gm X (gm (ev [1, Y] (ginv X)) (ev (OM e r) (ginv X))) = gm (ev [1, Y] (ginv X)) (gm X (ev (OM e r) (ginv X))) := by ac_rfl
      rw [this, i2]
      ac_rfl
end Ev
