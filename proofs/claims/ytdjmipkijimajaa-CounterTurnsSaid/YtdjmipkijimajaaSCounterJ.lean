/- The counter's number and what stands in the chip: what each step keeps. -/
import Derived.Test.YtdjmipkijimajaaSCounterN
namespace Ev
open Go (IntKind)

def nums (a : NdA) (s : Nd) (b p : Nat) : Option (Int × Int) := numV (viewB a (s.read a b p))

theorem numV_pos {v : Int × Tg × Bytes × Unit} {d sp : Bytes} (h : v = lookP d sp) {m w : Int} (hn : numV v = some (m, w)) : 0 ≤ m := by
  have := view_tag v d sp h
  unfold numV at hn
  split at hn
  · cases hn; exact this.1
  · cases hn
theorem nums_pos {a : NdA} {s : Nd} {b p : Nat} {m w : Int} (h : nums a s b p = some (m, w)) : 0 ≤ m := numV_pos rfl h

/-- All that stands in both blocks is at most n; n stands somewhere, if it is one. -/
structure J (a : NdA) (s : Nd) (n W : Int) : Prop where
  le : ∀ b p, b < 2 → p < a.P → ∀ m w, nums a s b p = some (m, w) → m ≤ n ∧ 0 ≤ w ∧ w ≤ W
  ex : 0 < n → ∃ b p w, b < 2 ∧ p < a.P ∧ nums a s b p = some (n, w)
  n0 : 0 ≤ n
structure I (a : NdA) (s : Nd) (k : Ck) (W : Int) : Prop where
  j : J a s k.n W
  ex : 0 < k.n → ∃ p w, p < a.P ∧ nums a s k.turn p = some (k.n, w)
  free : ∀ q, k.next ≤ q → q < a.P → s.pages k.turn q = []
  next : k.next ≤ a.P
  w : ∀ t, 0 ≤ k.w t ∧ k.w t ≤ W
  turn : k.turn < 2
  dead : k.dead = false

section
variable {a : NdA} {s : Nd}

/-- What is found in the first pages. -/
structure Lk (a : NdA) (s : Nd) (b p : Nat) (W : Int) (x : One) : Prop where
  le : ∀ q m w, q < p → nums a s b q = some (m, w) → m ≤ x.1 ∧ x.2.2.2.1 = true
  is : x.2.2.2.1 = true → ∃ q w, q < p ∧ nums a s b q = some (x.1, w)
  n : x.2.2.2.1 = false → x.1 = 0
  n0 : 0 ≤ x.1
  w : 0 ≤ x.2.2.1 ∧ x.2.2.1 ≤ W
  free : ∀ q : Nat, x.2.1 ≤ q → q < p → s.pages b q = []
theorem look_lk (f : Fine a s) (b : Nat) {W : Int} (hW : 0 ≤ W) : ∀ p, (∀ q m w, q < p → nums a s b q = some (m, w) → 0 ≤ w ∧ w ≤ W) → Lk a s b p W (lookS a s b p)
  | 0, _ => ⟨fun q m w h => absurd h (Nat.not_lt_zero _), fun h => by simp [lookS, one0] at h, fun _ => rfl, Int.le_refl _, ⟨Int.le_refl _, hW⟩, fun q _ h => absurd h (Nat.not_lt_zero _)⟩
  | p + 1, hw => by
    have ih := look_lk f b hW p fun q m w h => hw q m w (by omega)
    have nx := look_next (a := a) (s := s) b p
    have hfree : ∀ q : Nat, (if (viewB a (s.read a b p)).1 = 0 then (lookS a s b p).2.1 else ((p + 1 : Nat) : Int)) ≤ q → q < p + 1 → s.pages b q = [] := by
      intro q h1 h2
      by_cases hv : (viewB a (s.read a b p)).1 = 0
      · rw [if_pos hv] at h1
        by_cases hq : q = p
        · subst hq; exact (f.erased b q).1 hv
        · exact ih.free q h1 (by omega)
      · rw [if_neg hv] at h1; omega
    cases hn : numV (viewB a (s.read a b p)) with
    | none =>
      have hl : lookS a s b (p + 1) = ((lookS a s b p).1, (if (viewB a (s.read a b p)).1 = 0 then (lookS a s b p).2.1 else ((p + 1 : Nat) : Int)), (lookS a s b p).2.2.1, (lookS a s b p).2.2.2.1, ()) := by
        simp only [lookS, hn]
      rw [hl]
      refine ⟨fun q m w h1 h2 => ?_, fun h => ?_, ih.n, ih.n0, ih.w, hfree⟩
      · by_cases hq : q = p
        · subst hq
          have h2 : numV (viewB a (s.read a b q)) = some (m, w) := h2
          rw [hn] at h2; cases h2
        · exact ih.le q m w (by omega) h2
      · obtain ⟨q, w, h1, h2⟩ := ih.is h
        exact ⟨q, w, by omega, h2⟩
    | some mw =>
      obtain ⟨m0, w0⟩ := mw
      have hl : lookS a s b (p + 1) = ((if m0 > (lookS a s b p).1 then m0 else (lookS a s b p).1), (if (viewB a (s.read a b p)).1 = 0 then (lookS a s b p).2.1 else ((p + 1 : Nat) : Int)), (if w0 > (lookS a s b p).2.2.1 then w0 else (lookS a s b p).2.2.1), true, ()) := by
        simp only [lookS, hn]
      have hn' : nums a s b p = some (m0, w0) := hn
      have hw0 := hw p m0 w0 (by omega) hn'
      have hm0 := nums_pos hn'
      have hihw := ih.w
      have hihn := ih.n0
      rw [hl]
      refine ⟨fun q m w h1 h2 => ⟨?_, rfl⟩, fun _ => ?_, fun h => (by cases h), ?_, ?_, hfree⟩
      · show m ≤ if m0 > (lookS a s b p).1 then m0 else (lookS a s b p).1
        by_cases hq : q = p
        · subst hq
          rw [hn'] at h2
          cases h2
          split <;> omega
        · have := (ih.le q m w (by omega) h2).1
          split <;> omega
      · show ∃ q w, q < p + 1 ∧ nums a s b q = some ((if m0 > (lookS a s b p).1 then m0 else (lookS a s b p).1), w)
        by_cases hgt : m0 > (lookS a s b p).1
        · rw [if_pos hgt]; exact ⟨p, w0, by omega, hn'⟩
        · rw [if_neg hgt]
          cases his : (lookS a s b p).2.2.2.1 with
          | true =>
            obtain ⟨q, w, h1, h2⟩ := ih.is his
            exact ⟨q, w, by omega, h2⟩
          | false =>
            have h0 := ih.n his
            have : m0 = (lookS a s b p).1 := by omega
            exact ⟨p, w0, by omega, by rw [← this]; exact hn'⟩
      · show 0 ≤ if m0 > (lookS a s b p).1 then m0 else (lookS a s b p).1
        split <;> omega
      · show 0 ≤ (if w0 > (lookS a s b p).2.2.1 then w0 else (lookS a s b p).2.2.1) ∧ (if w0 > (lookS a s b p).2.2.1 then w0 else (lookS a s b p).2.2.1) ≤ W
        split <;> omega

/-- Opened anew. -/
theorem open_I (f : Fine a s) {n W : Int} (hW : 0 ≤ W) (h : J a s n W) : I a s (openK a s) W ∧ (openK a s).n = n := by
  have lx := look_lk f 0 hW a.P fun q m w h1 h2 => (h.le 0 q (by decide) h1 m w h2).2
  have ly := look_lk f 1 hW a.P fun q m w h1 h2 => (h.le 1 q (by decide) h1 m w h2).2
  have nx := look_next (a := a) (s := s) 0 a.P
  have ny := look_next (a := a) (s := s) 1 a.P
  have hn0 := h.n0
  generalize hx : lookS a s 0 a.P = x at lx nx
  generalize hy : lookS a s 1 a.P = y at ly ny
  have xle : x.1 ≤ n := by
    cases hi : x.2.2.2.1 with
    | true => obtain ⟨q, w, h1, h2⟩ := lx.is hi; exact (h.le 0 q (by decide) h1 _ _ h2).1
    | false => rw [lx.n hi]; exact hn0
  have yle : y.1 ≤ n := by
    cases hi : y.2.2.2.1 with
    | true => obtain ⟨q, w, h1, h2⟩ := ly.is hi; exact (h.le 1 q (by decide) h1 _ _ h2).1
    | false => rw [ly.n hi]; exact hn0
  have hone : 0 < n → (x.2.2.2.1 = true ∧ x.1 = n) ∨ (y.2.2.2.1 = true ∧ y.1 = n) := by
    intro h0
    obtain ⟨b, p, w, h1, h2, h3⟩ := h.ex h0
    match b, h1 with
    | 0, _ => have := lx.le p n w h2 h3; exact .inl ⟨this.2, by omega⟩
    | 1, _ => have := ly.le p n w h2 h3; exact .inr ⟨this.2, by omega⟩
  have hxn := lx.n0
  have hyn := ly.n0
  have hwt : ∀ t : Nat, 0 ≤ (if t = 0 then x.2.2.1 else y.2.2.1) ∧ (if t = 0 then x.2.2.1 else y.2.2.1) ≤ W := by
    intro t; split
    · exact lx.w
    · exact ly.w
  cases hp : pickY x y with
  | true =>
    have hk : openK a s = { turn := 1, next := y.2.1.toNat, n := y.1, w := fun t => if t = 0 then x.2.2.1 else y.2.2.1, dead := false } := by
      simp only [openK, hx, hy, hp, if_true]
    have hyi : y.2.2.2.1 = true := by
      unfold pickY at hp
      cases hi : y.2.2.2.1 with
      | true => rfl
      | false => rw [hi] at hp; cases hp
    have hyx : x.2.2.2.1 = false ∨ x.1 < y.1 := by
      unfold pickY at hp
      cases hi : x.2.2.2.1 with
      | false => exact .inl rfl
      | true => rw [hyi, hi] at hp; simpa using hp
    have hyn' : y.1 = n := by
      by_cases h0 : 0 < n
      · rcases hone h0 with ⟨h1, h2⟩ | ⟨h1, h2⟩
        · rcases hyx with h3 | h3
          · rw [h1] at h3; cases h3
          · omega
        · exact h2
      · omega
    rw [hk]
    obtain ⟨q, w, h1, h2⟩ := ly.is hyi
    refine ⟨⟨?_, fun _ => ⟨q, w, h1, h2⟩, fun q h1 h2 => ly.free q (by have h1 : y.2.1.toNat ≤ q := h1; omega) h2, ?_, hwt, (by decide : 1 < 2), rfl⟩, hyn'⟩
    · show J a s y.1 W; rw [hyn']; exact h
    · show y.2.1.toNat ≤ a.P; omega
  | false =>
    have hk : openK a s = { turn := 0, next := x.2.1.toNat, n := x.1, w := fun t => if t = 0 then x.2.2.1 else y.2.2.1, dead := false } := by
      simp [openK, hx, hy, hp]
    have hyx : y.2.2.2.1 = false ∨ (x.2.2.2.1 = true ∧ y.1 ≤ x.1) := by
      unfold pickY at hp
      cases hi : y.2.2.2.1 with
      | false => exact .inl rfl
      | true =>
        rw [hi] at hp
        cases hi2 : x.2.2.2.1 with
        | false => rw [hi2] at hp; cases hp
        | true =>
          rw [hi2] at hp
          have : ¬ x.1 < y.1 := by simpa using hp
          exact .inr ⟨rfl, by omega⟩
    have hxn' : x.1 = n := by
      by_cases h0 : 0 < n
      · rcases hone h0 with ⟨h1, h2⟩ | ⟨h1, h2⟩
        · exact h2
        · rcases hyx with h3 | ⟨h3, h4⟩
          · rw [h1] at h3; cases h3
          · omega
      · omega
    rw [hk]
    refine ⟨⟨?_, fun h0 => ?_, fun q h1 h2 => lx.free q (by have h1 : x.2.1.toNat ≤ q := h1; omega) h2, ?_, hwt, (by decide : 0 < 2), rfl⟩, hxn'⟩
    · show J a s x.1 W; rw [hxn']; exact h
    · have h0 : 0 < x.1 := h0
      cases hi : x.2.2.2.1 with
      | true => obtain ⟨q, w, h1, h2⟩ := lx.is hi; exact ⟨q, w, h1, h2⟩
      | false => rw [lx.n hi] at h0; omega
    · show x.2.1.toNat ≤ a.P; omega

/-! What writing and erasing do to the numbers. -/
theorem nums_wrote {b p : Nat} {m w : Int} (hm : 0 ≤ m ∧ m ≤ 1073741824) (hw : 0 ≤ w ∧ w < 4294967296) (hS : a.S ≤ 1000) :
    (∀ c q, ¬ (c = b ∧ q = p) → nums a (s.wrote a b p (frm a m w)) c q = nums a s c q) ∧
    (s.cutNow = none → nums a (s.wrote a b p (frm a m w)) b p = some (m, w)) ∧
    (nums a (s.wrote a b p (frm a m w)) b p = none ∨ ∃ w', nums a (s.wrote a b p (frm a m w)) b p = some (m, w') ∧ 0 ≤ w' ∧ w' ≤ w) := by
  have hl : (match s.cutNow with | some x => tornB x (frm a m w) | none => frm a m w).length = a.S + 32 := by
    cases s.cutNow with
    | some x => simp only; rw [tornB_length, frm_length]
    | none => exact frm_length a m w
  have hr : ∀ c q, (s.wrote a b p (frm a m w)).read a c q = if c = b ∧ q = p then (match s.cutNow with | some x => tornB x (frm a m w) | none => frm a m w) else s.read a c q := fun c q => read_lay hl c q
  refine ⟨fun c q hcq => ?_, fun hc => ?_, ?_⟩
  · unfold nums; rw [hr, if_neg hcq]
  · unfold nums; rw [hr, if_pos ⟨rfl, rfl⟩, hc]
    exact num_frame hm hw (by omega)
  · unfold nums; rw [hr, if_pos ⟨rfl, rfl⟩]
    cases s.cutNow with
    | some x => exact torn_num hm hw (by omega)
    | none => exact .inr ⟨w, num_frame hm hw (by omega), hw.1, Int.le_refl _⟩
theorem nums_full {b p : Nat} (h : s.read a b p = fullP a) : nums a s b p = none := by
  unfold nums; rw [h, view_full]; rfl
theorem nums_erased (b : Nat) : ∀ c q, nums a (s.erased a b) c q = none ∨ nums a (s.erased a b) c q = nums a s c q := by
  intro c q
  unfold Nd.erased
  cases hc : s.cutNow with
  | none =>
    simp only
    unfold nums
    rw [read_clear]
    split
    · left; rw [view_full]; rfl
    · right; rfl
  | some x =>
    simp only
    split
    · unfold nums
      rw [read_lay (by simp)]
      split
      · left; exact fill_num
      · rw [read_clear]
        split
        · left; rw [view_full]; rfl
        · right; rfl
    · unfold nums
      rw [read_clear]
      split
      · left; rw [view_full]; rfl
      · right; rfl
theorem nums_erased_ne {b c : Nat} (h : c ≠ b) (q : Nat) : nums a (s.erased a b) c q = nums a s c q := by
  unfold Nd.erased
  cases hc : s.cutNow with
  | none =>
    simp only
    unfold nums
    rw [read_clear, if_neg (fun x => h x.1)]; rfl
  | some x =>
    simp only
    split
    · unfold nums
      rw [read_lay (by simp), if_neg (fun x => h x.1), read_clear, if_neg (fun x => h x.1)]; rfl
    · unfold nums
      rw [read_clear, if_neg (fun x => h x.1)]; rfl

/-- A step: done, or the power fails. -/
structure Done (a : NdA) (k : Ck) (m W D : Int) (r : Int × Nd × Ck) : Prop where
  e : r.1 = 0
  i : I a r.2.1 r.2.2 W
  n : r.2.2.n = m
  off : r.2.1.off = false
  fit : Fit a r.2.1 D
structure Cut' (a : NdA) (k : Ck) (m W D : Int) (r : Int × Nd × Ck) : Prop where
  e : r.1 = 51
  j : J a r.2.1 k.n W ∨ J a r.2.1 m W
  n : r.2.2.n = k.n
  off : r.2.1.off = true
  fit : Fit a r.2.1 D

variable {k : Ck} {D W : Int}

/-- The other block is erased. -/
theorem J_erased (i : I a s k W) : J a (s.erased a k.other) k.n W := by
  have ht := i.turn
  have hne : k.turn ≠ k.other := by unfold Ck.other; omega
  refine ⟨fun b p h1 h2 m w h3 => ?_, fun h0 => ?_, i.j.n0⟩
  · rcases nums_erased (a := a) (s := s) k.other b p with h | h
    · rw [h] at h3; cases h3
    · rw [h] at h3; exact i.j.le b p h1 h2 m w h3
  · obtain ⟨p, w, h1, h2⟩ := i.ex h0
    exact ⟨k.turn, p, w, ht, h1, by rw [nums_erased_ne hne]; exact h2⟩
theorem J_grow {n W W' : Int} (h : J a s n W) (hw : W ≤ W') : J a s n W' :=
  ⟨fun b p h1 h2 m w h3 => by have := h.le b p h1 h2 m w h3; exact ⟨this.1, this.2.1, by omega⟩, h.ex, h.n0⟩

/-- A number that is written. -/
theorem J_wrote {n m w : Int} {b p : Nat} (j : J a s n W) (hb : b < 2) (hp : p < a.P) (hnm : n < m) (hm : m ≤ 1073741824) (hw : 0 ≤ w ∧ w ≤ W) (hW : W < 4294967296) (hS : a.S ≤ 1000) (hno : nums a s b p = none) :
    (J a (s.wrote a b p (frm a m w)) n W ∨ J a (s.wrote a b p (frm a m w)) m W) ∧ (s.cutNow = none → J a (s.wrote a b p (frm a m w)) m W) := by
  have hn0 := j.n0
  obtain ⟨q1, q2, q3⟩ := nums_wrote (a := a) (s := s) (b := b) (p := p) (m := m) (w := w) ⟨by omega, hm⟩ ⟨hw.1, by omega⟩ hS
  have hm' : ∀ w', nums a (s.wrote a b p (frm a m w)) b p = some (m, w') → 0 ≤ w' → w' ≤ w → J a (s.wrote a b p (frm a m w)) m W := by
    intro w' h1 h2 h3
    refine ⟨fun c q g1 g2 m1 w1 g3 => ?_, fun _ => ⟨b, p, w', hb, hp, h1⟩, by omega⟩
    by_cases hcq : c = b ∧ q = p
    · obtain ⟨rfl, rfl⟩ := hcq
      rw [h1] at g3; cases g3
      exact ⟨Int.le_refl _, h2, by omega⟩
    · rw [q1 c q hcq] at g3
      have := j.le c q g1 g2 m1 w1 g3
      exact ⟨by omega, this.2⟩
  refine ⟨?_, fun hc => hm' w (q2 hc) hw.1 (Int.le_refl _)⟩
  rcases q3 with h | ⟨w', h1, h2, h3⟩
  · left
    refine ⟨fun c q g1 g2 m1 w1 g3 => ?_, fun h0 => ?_, hn0⟩
    · by_cases hcq : c = b ∧ q = p
      · obtain ⟨rfl, rfl⟩ := hcq
        rw [h] at g3; cases g3
      · rw [q1 c q hcq] at g3; exact j.le c q g1 g2 m1 w1 g3
    · obtain ⟨c, q, w1, g1, g2, g3⟩ := j.ex h0
      refine ⟨c, q, w1, g1, g2, ?_⟩
      rw [q1 c q fun hcq => by obtain ⟨rfl, rfl⟩ := hcq; rw [hno] at g3; cases g3]
      exact g3
  · right; exact hm' w' h1 h2 h3

theorem over_step (i : I a s k W) (f : Fit a s D) (hD : D + 2 < 1000000) (ho : s.off = false) {m : Int} (hm : k.n < m ∧ m ≤ 1073741824) (hW : W + 1 < 4294967296) :
    Done a k m (W + 1) (D + 2) (k.over a s m) ∨ Cut' a k m (W + 1) (D + 2) (k.over a s m) := by
  have ht := i.turn
  have hot : k.other < 2 := by unfold Ck.other; omega
  have hsz := f.sz
  have f1 := fit_erased f (by omega) (b := k.other)
  have f1' : Fit a (s.erased a k.other) (D + 2) := ⟨f1.fails, f1.dead, by have := f1.did; omega, fun b => by have := f1.worn b; omega, f1.cuts, f1.fine, by omega, f1.sz⟩
  have j1 := J_erased i
  unfold Ck.over
  cases hc : s.cutNow with
  | some x =>
    right
    simp only [Option.isSome_some, if_true]
    exact ⟨rfl, .inl (J_grow j1 (by omega)), rfl, by rw [erased_off, hc]; simp, f1'⟩
  | none =>
    have o1 : (s.erased a k.other).off = false := by rw [erased_off, ho, hc]; rfl
    have hcl : ∀ q, q < a.P → (s.erased a k.other).pages k.other q = [] := fun q hq => by
      unfold Nd.erased
      rw [hc]
      simp [Nd.clear, hq]
    have hno : nums a (s.erased a k.other) k.other 0 = none := nums_full (by unfold Nd.read; rw [if_pos (hcl 0 (by omega))])
    have hww := i.w k.other
    obtain ⟨w1, w2⟩ := J_wrote (J_grow j1 (show W ≤ W + 1 by omega)) hot (p := 0) (by omega) hm.1 hm.2 (w := k.w k.other + 1) (by omega) hW hsz.2.2.2 hno
    have f2 := fit_wrote f1 (by omega) (b := k.other) (p := 0) (t := frm a m (k.w k.other + 1)) (frm_length _ _ _)
    have e2 : D + 1 + 1 = D + 2 := by omega
    rw [e2] at f2
    simp only [Option.isSome_none, Bool.false_eq_true, if_false]
    cases hc1 : (s.erased a k.other).cutNow with
    | some x =>
      right
      simp only [Option.isSome_some, if_true]
      exact ⟨rfl, w1, rfl, by rw [wrote_off, hc1]; simp, f2⟩
    | none =>
      left
      simp only [Option.isSome_none, Bool.false_eq_true, if_false]
      obtain ⟨q1, q2, q3⟩ := nums_wrote (a := a) (s := s.erased a k.other) (b := k.other) (p := 0) (m := m) (w := k.w k.other + 1) ⟨by have := i.j.n0; omega, hm.2⟩ (by omega) hsz.2.2.2
      refine ⟨rfl, ⟨w2 hc1, fun _ => ⟨0, _, by omega, q2 hc1⟩, fun q h1 h2 => ?_, (by show 1 ≤ a.P; omega), fun t => ?_, hot, i.dead⟩, rfl, by rw [wrote_off, hc1, o1]; rfl, f2⟩
      · have h1 : 1 ≤ q := h1
        show ((s.erased a k.other).wrote a k.other 0 (frm a m (k.w k.other + 1))).pages k.other q = []
        unfold Nd.wrote
        simp only [Nd.lay, upd2]
        rw [if_neg (by omega)]
        exact hcl q h2
      · show 0 ≤ upd k.w k.other (k.w k.other + 1) t ∧ upd k.w k.other (k.w k.other + 1) t ≤ W + 1
        exact upd_worn (D := W) i.w k.other t

theorem raise_step (i : I a s k W) (f : Fit a s D) (hD : D + 2 < 1000000) (ho : s.off = false) {m : Int} (hm : k.n < m ∧ m ≤ 1073741824) (hW : W + 1 < 4294967296) :
    Done a k m (W + 1) (D + 2) (k.raise a s m) ∨ Cut' a k m (W + 1) (D + 2) (k.raise a s m) := by
  have hsz := f.sz
  unfold Ck.raise
  by_cases hA : k.next < a.P ∧ 0 < k.n
  · rw [if_pos hA]
    have hno : nums a s k.turn k.next = none := nums_full (by unfold Nd.read; rw [if_pos (i.free k.next (Nat.le_refl _) hA.1)])
    have hww := i.w k.turn
    obtain ⟨w1, w2⟩ := J_wrote (J_grow i.j (show W ≤ W + 1 by omega)) i.turn hA.1 hm.1 hm.2 (w := k.w k.turn) (by omega) hW hsz.2.2.2 hno
    have f2 := fit_wrote f (by omega) (b := k.turn) (p := k.next) (t := frm a m (k.w k.turn)) (frm_length _ _ _)
    have f2' : Fit a (s.wrote a k.turn k.next (frm a m (k.w k.turn))) (D + 2) := ⟨f2.fails, f2.dead, by have := f2.did; omega, fun b => by have := f2.worn b; omega, f2.cuts, f2.fine, by omega, f2.sz⟩
    cases hc : s.cutNow with
    | some x =>
      right
      simp only [Option.isSome_some, if_true]
      exact ⟨rfl, w1, rfl, by rw [wrote_off, hc]; simp, f2'⟩
    | none =>
      left
      simp only [Option.isSome_none, Bool.false_eq_true, if_false]
      obtain ⟨q1, q2, q3⟩ := nums_wrote (a := a) (s := s) (b := k.turn) (p := k.next) (m := m) (w := k.w k.turn) ⟨by have := i.j.n0; omega, hm.2⟩ (by omega) hsz.2.2.2
      refine ⟨rfl, ⟨w2 hc, fun _ => ⟨k.next, _, hA.1, q2 hc⟩, fun q h1 h2 => ?_, (by show k.next + 1 ≤ a.P; omega), fun t => by have := i.w t; show 0 ≤ k.w t ∧ k.w t ≤ W + 1; omega, i.turn, i.dead⟩, rfl, by rw [wrote_off, hc, ho]; rfl, f2'⟩
      have h1 : k.next + 1 ≤ q := h1
      show (s.wrote a k.turn k.next (frm a m (k.w k.turn))).pages k.turn q = []
      unfold Nd.wrote
      simp only [Nd.lay, upd2]
      rw [if_neg (by omega)]
      exact i.free q (by omega) h2
  · rw [if_neg hA]
    exact over_step i f hD ho hm hW
end
end Ev
