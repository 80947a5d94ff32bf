/- Polynomials: what their functions compute. -/
import Derived.Test.YtboamjjdpmaikaaSGf
import Derived.Test.YtboamjjdpmaikaaPm
namespace Ev
open Go (IntKind)

theorem cells_pl (n : Nat) (f : Nat → UInt8) : cellsOf (pl n f) = arrC n fun k => [.int .u8 (un (f k))] := by
  induction n with
  | zero => rfl
  | succ n ih =>
    rw [arrC, ← ih]
    unfold pl
    rw [List.range_succ, List.map_append]
    simp [cellsOf]
/-- A polynomial's bytes in a slice. -/
structure PAt (H : Heap) (s : Sl) (p : Bytes) : Prop where
  row : Row H 1 s (cellsOf p)
  cap : s.len ≤ s.cap
theorem PAt.len {H : Heap} {s : Sl} {p : Bytes} (h : PAt H s p) : s.len = p.length := by
  have := h.row.len
  rw [cells_len] at this; omega
theorem PAt.keep {H G : Heap} {s : Sl} {p : Bytes} (h : PAt H s p) (k : Keep (fun _ => False) H G) : PAt G s p := ⟨h.row.keep k fun _ _ _ => id, h.cap⟩
theorem PAt.byte {H : Heap} {s : Sl} {p : Bytes} (h : PAt H s p) {i : Nat} (hi : i < p.length) : ∃ b o, Sl.at 1 s (i : Int) = some (b, o) ∧ rdI .u8 H b o = some (un (co p i)) ∧ b < H.length := by
  have hl := h.len
  obtain ⟨b, o, hp, h1, cs, bk, h2, h3, h4⟩ := slRow_cell h.row.row (i := i) (by omega) h.row.nil
  refine ⟨b, o + i * 1, h1, rdI_of h2 ?_, get_lt h2⟩
  have := h4 0 (by decide)
  rw [Nat.add_zero] at this
  rw [this, co_lt hi]
  simp [cellsOf, hi]
/-- Bytes that are being written. -/
def BAt (H : Heap) (c n : Nat) (f : Nat → UInt8) : Prop := H[c]? = some (.cells (arrC n fun k => [.int .u8 (un (f k))]) .exact)
theorem BAt.get {H : Heap} {c n : Nat} {f : Nat → UInt8} (h : BAt H c n f) {i : Nat} (hi : i < n) : rdI .u8 H c i = some (un (f i)) := by
  have := arrC_get (f := fun k => [C.int .u8 (un (f k))]) (es := 1) (fun _ => rfl) (j := 0) (by decide) hi
  rw [Nat.mul_one, Nat.add_zero] at this
  exact rdI_of h this
theorem BAt.set {H : Heap} {c n : Nat} {f : Nat → UInt8} (h : BAt H c n f) {i : Nat} (hi : i < n) (x : UInt8) : ∃ G, wr H c i [.int .u8 (un x)] = some G ∧ BAt G c n (fun k => if k = i then x else f k) ∧ Keep (fun j => j = c) H G := by
  have hl := arrC_length (f := fun k => [C.int .u8 (un (f k))]) (es := 1) (fun _ => rfl) n
  have hs := arrC_set (f := fun k => [C.int .u8 (un (f k))]) (es := 1) (fun _ => rfl) (j := 0) (by decide) (.int .u8 (un x)) hi
  rw [Nat.mul_one, Nat.add_zero] at hs
  refine ⟨_, wr1_of h (by decide) (by omega), ?_, Keep.set _ _ _ rfl⟩
  unfold BAt
  rw [set_get (get_lt h), hs]
  congr 2
  refine arrC_congr fun k _ => ?_
  by_cases hk : k = i
  · subst hk; simp
  · simp [hk]
theorem BAt.keep {H G : Heap} {c n : Nat} {f : Nat → UInt8} (h : BAt H c n f) {F : Nat → Prop} (k : Keep F H G) (hF : ¬ F c) : BAt G c n f := k.get h hF
theorem BAt.at {c n : Nat} {i : Nat} (hi : i < n) : Sl.at 1 ⟨some (c, 0), n, n⟩ (i : Int) = some (c, i) := by
  rw [at_of (by omega) (by show (i : Int) < (n : Int); omega), Int.toNat_natCast, Nat.mul_one, Nat.zero_add]
theorem BAt.poly {H : Heap} {c n : Nat} {f : Nat → UInt8} (h : BAt H c n f) : PAt H ⟨some (c, 0), n, n⟩ (pl n f) := by
  refine ⟨⟨?_, fun hh => by cases hh⟩, Nat.le_refl _⟩
  unfold slRow
  have h' : H[c]? = some (.cells (arrC n fun k => [.int .u8 (un (f k))]) .exact) := h
  simp only [Heap.row, h']
  rw [cells_pl]
  have := arrC_length (f := fun k => [C.int .u8 (un (f k))]) (es := 1) (fun _ => rfl) n
  exact cut_all this.symm
theorem mk_bytes {H : Heap} {n : Nat} (h : n ≤ 35184372088832) : mkS H 1 [.int .u8 0] (n : Int) (n : Int) = some (⟨some (H.length, 0), n, n⟩, H ++ [.cells (arrC n fun _ => [.int .u8 (un 0)]) .exact]) := by
  unfold mkS
  have : decide (0 ≤ (n : Int) ∧ (n : Int) ≤ (n : Int) ∧ (n : Int).toNat * 1 ≤ maxRow ∧ (n : Int).toNat ≤ maxRow) = true := decide_eq_true ⟨by omega, by omega, by unfold maxRow; omega, by unfold maxRow; omega⟩
  rw [this, cond_t, Int.toNat_natCast]
  have : rep n [C.int .u8 0] = arrC n fun _ => [.int .u8 (un 0)] := by
    unfold rep
    induction n with
    | zero => rfl
    | succ n ih =>
      rw [List.replicate_succ', List.flatten_append, ih (by omega), arrC]
      · rfl
      · exact decide_eq_true ⟨by omega, by omega, by unfold maxRow; omega, by unfold maxRow; omega⟩
  rw [this]

/-! Trim and Degree. -/
theorem trim_iter {H : Heap} {s : Sl} {p : Bytes} (h : PAt H s p) (hl : p.length < 1000000) : ∀ n, tl p ≤ n → n ≤ p.length → ∃ j, iter (gf_Poly_Trim.s1 s) j ((n : Int), ()) H = some ((((tl p : Nat) : Int), ()), H)
  | 0, h1, _ => by
    refine ⟨1, ?_⟩
    have : tl p = 0 := by omega
    rw [iter]
    unfold gf_Poly_Trim.s1
    simp only [decide_eq_false (show ¬ (0 : Int) < ((0 : Nat) : Int) by omega), cond_f, this]
    rfl
  | n + 1, h1, h2 => by
    obtain ⟨b, o, a1, a2, _⟩ := h.byte (i := n) (by omega)
    have hw : IntKind.wrap .i64 (((n + 1 : Nat) : Int) - 1) = (n : Int) := by rw [wrap_i64 (by omega) (by omega)]; omega
    by_cases hn : tl p = n + 1
    · have hne := tl_ne p (by omega)
      rw [hn, Nat.add_sub_cancel] at hne
      refine ⟨1, ?_⟩
      rw [iter]
      unfold gf_Poly_Trim.s1
      simp only [decide_eq_true (show (0 : Int) < ((n + 1 : Nat) : Int) by omega), cond_t, hw, a1, bind_some, a2, decide_eq_false (fun hh => hne ((un_zero _).1 hh)), cond_f, hn]
      rfl
    · have hz := tl_zero p n (by omega)
      obtain ⟨j, hj⟩ := trim_iter h hl n (by omega) (by omega)
      refine ⟨j + 1, ?_⟩
      have hstep : gf_Poly_Trim.s1 s (((n + 1 : Nat) : Int), ()) H = some (.inl ((n : Int), ()), H) := by
        unfold gf_Poly_Trim.s1
        simp only [decide_eq_true (show (0 : Int) < ((n + 1 : Nat) : Int) by omega), cond_t, hw, a1, bind_some, a2, decide_eq_true ((un_zero _).2 hz)]
      rw [iter, hstep]
      exact hj
theorem degree_eq {H : Heap} {s : Sl} {p : Bytes} (h : PAt H s p) (hl : p.length < 1000000) : gf_Poly_Degree s H = some (((tl p : Int) - 1, ()), H) := by
  obtain ⟨j, hj⟩ := trim_iter h hl p.length (tl_le p) (Nat.le_refl _)
  have hj' : iter (gf_Poly_Degree.s1 s) j ((p.length : Int), ()) H = some ((((tl p : Nat) : Int), ()), H) := hj
  have := tl_le p
  unfold gf_Poly_Degree
  rw [h.len, loopW_eq hj', bind_some]
  show some (((IntKind.wrap .i64 ((tl p : Int) - 1)), ()), H) = _
  rw [wrap_i64 (by omega) (by omega)]
/-- Bytes appended to none. -/
theorem app_none {G : Heap} {q : Bytes} (hl : q.length < 1000000) : ∃ t G', appS (G ++ [.cells [] .exact]) 1 1 ⟨some (G.length, 0), 0, 0⟩ q.length (cellsOf q) = some (t, G') ∧ PAt G' t q ∧ Keep (fun _ => False) G G' ∧ ∀ b o, t.p = some (b, o) → G.length ≤ b := by
  by_cases h0 : q.length = 0
  · have hq : q = [] := List.eq_nil_of_length_eq_zero h0
    subst hq
    refine ⟨⟨some (G.length, 0), 0, 0⟩, G ++ [.cells [] .exact], ?_, ⟨⟨row_last rfl, fun h => by cases h⟩, Nat.le_refl _⟩, Keep.push _ _ _, fun b o ho => by cases ho; exact Nat.le_refl _⟩
    unfold appS
    have : decide ((⟨some (G.length, 0), 0, 0⟩ : Sl).len + ([] : Bytes).length ≤ (⟨some (G.length, 0), 0, 0⟩ : Sl).cap) = true := rfl
    rw [this, cond_t]
    rfl
  · have g0 : Grown (G ++ [.cells [] .exact]) 1 ⟨some (G.length, 0), 0, 0⟩ [] := ⟨rfl, by simp, fun h => by (cases h), fun a h => by cases h; exact ⟨rfl, .inr app_last⟩⟩
    obtain ⟨a1, a2⟩ := g0.app (bytes := 1) (by decide) (n := q.length) (new := cellsOf q) (by omega) (by rw [cells_len, Nat.mul_one]) (by show (0 + q.length) * 1 ≤ _; omega) (by show 0 + q.length ≤ _; omega)
    rw [List.nil_append] at a1 a2
    refine ⟨_, _, a1, ⟨Row.grown a2, Nat.le_refl _⟩, ?_, fun b o ho => by cases ho; simp⟩
    exact ((Keep.push (fun k => k = G.length) G (.cells [] .exact)).trans (grownH_keep.mono fun k ⟨o, ho⟩ => by cases ho; rfl)).new fun k hk hlt => by
      have : k = G.length := hk
      omega

theorem PAt.front {H : Heap} {s : Sl} {p : Bytes} (h : PAt H s p) {n : Nat} (hn : n ≤ p.length) : Sl.sub 1 s 0 (n : Int) (s.cap : Int) = some ⟨s.p, n, s.cap⟩ ∧ slRow H 1 ⟨s.p, n, s.cap⟩ = some (cellsOf (p.take n)) := by
  have hl := h.len
  have hc := h.cap
  constructor
  · unfold Sl.sub
    have : decide (0 ≤ (0 : Int) ∧ (0 : Int) ≤ (n : Int) ∧ (n : Int) ≤ (s.cap : Int) ∧ (s.cap : Int) ≤ (s.cap : Int)) = true := decide_eq_true (by omega)
    rw [this, cond_t]
    cases hp : s.p with
    | none => simp
    | some a => simp
  · cases hp : s.p with
    | none =>
      have h0 := h.row.nil hp
      have : n = 0 := by omega
      subst this
      simp [slRow, cellsOf]
    | some x =>
      obtain ⟨cs, bk, h1, h2, h3⟩ := slRow_some (b := x.1) (o := x.2) hp h.row.row
      unfold slRow
      simp only [Heap.row, h1]
      rw [cut_of (by omega)]
      have h4 : ((cs.drop x.2).take (s.len * 1)).take (n * 1) = (cellsOf p).take (n * 1) := by rw [h3]
      rw [List.take_take, Nat.min_eq_left (by omega)] at h4
      rw [h4, Nat.mul_one]
      simp [cellsOf, List.map_take]
theorem trim_new {H : Heap} {s : Sl} {p : Bytes} (h : PAt H s p) (hl : p.length < 1000000) : ∃ t G, gf_Poly_Trim s H = some ((t, ()), G) ∧ PAt G t (trim p) ∧ Keep (fun _ => False) H G ∧ ∀ b o, t.p = some (b, o) → H.length ≤ b := by
  obtain ⟨j, hj⟩ := trim_iter h hl p.length (tl_le p) (Nat.le_refl _)
  obtain ⟨f1, f2⟩ := (h.keep (Keep.push (fun _ => False) H (.cells [] .exact))).front (tl_le p)
  obtain ⟨t, G, g1, g2, g3⟩ := app_none (G := H) (q := trim p) (by rw [trim_len]; have := tl_le p; omega)
  rw [trim_len] at g1
  refine ⟨t, G, ?_, g2, g3⟩
  unfold gf_Poly_Trim
  rw [h.len, loopW_eq hj, bind_some]
  have f2' : slRow (H ++ [.cells [] .exact]) 1 ⟨s.p, tl p, s.cap⟩ = some (cellsOf (trim p)) := f2
  simp only [f1, bind_some, f2', g1]
theorem trim_eq {H : Heap} {s : Sl} {p : Bytes} (h : PAt H s p) (hl : p.length < 1000000) : ∃ t G, gf_Poly_Trim s H = some ((t, ()), G) ∧ PAt G t (trim p) ∧ Keep (fun _ => False) H G := by
  obtain ⟨t, G, a, b, c, _⟩ := trim_new h hl
  exact ⟨t, G, a, b, c⟩
theorem cut_eq {H : Heap} {s : Sl} {p : Bytes} (h : PAt H s p) (hl : p.length < 1000000) (n : Nat) : ∃ t G, gf_Poly_Cut s (n : Int) H = some ((t, ()), G) ∧ PAt G t (trim (p.take n)) ∧ Keep (fun _ => False) H G := by
  have hlen := h.len
  obtain ⟨f1, f2⟩ := (h.keep (Keep.push (fun _ => False) H (.cells [] .exact))).front (n := min n p.length) (by omega)
  have ht : p.take (min n p.length) = p.take n := by
    by_cases hn : n ≤ p.length
    · rw [Nat.min_eq_left hn]
    · rw [Nat.min_eq_right (by omega), List.take_length, List.take_of_length_le (by omega)]
  rw [ht] at f2
  obtain ⟨t, G, g1, g2, g3, _⟩ := app_none (G := H) (q := p.take n) (by rw [List.length_take]; omega)
  obtain ⟨t2, G2, e1, e2, e3⟩ := trim_eq g2 (by rw [List.length_take]; omega)
  have hm : (if (if (s.len : Int) < (n : Int) then (s.len : Int) else (n : Int)) > 0 then (if (s.len : Int) < (n : Int) then (s.len : Int) else (n : Int)) else 0) = ((min n p.length : Nat) : Int) := by
    split <;> split <;> omega
  refine ⟨t2, G2, ?_, e2, g3.trans e3⟩
  unfold gf_Poly_Cut
  rw [List.length_take] at g1
  simp only [hm, f1, bind_some, f2, g1, e1]
theorem at_iter {H : Heap} {s : Sl} {p : Bytes} (h : PAt H s p) (hl : p.length < 1000000) (x : UInt8) : ∀ i, i ≤ p.length → ∃ j, iter (gf_Poly_At.s1 s (un x)) j (un (ev (p.drop i) x), (i : Int) - 1, ()) H = some ((un (ev p x), ()), H)
  | 0, _ => by
    refine ⟨1, ?_⟩
    rw [iter]
    unfold gf_Poly_At.s1
    simp only [decide_eq_false (show ¬ (0 : Int) ≤ ((0 : Nat) : Int) - 1 by omega), cond_f]
    rfl
  | i + 1, hi => by
    obtain ⟨b, o, a1, a2, _⟩ := h.byte (i := i) (by omega)
    obtain ⟨j, hj⟩ := at_iter h hl x i (by omega)
    refine ⟨j + 1, ?_⟩
    have e1 : ((i + 1 : Nat) : Int) - 1 = (i : Int) := by omega
    have hw : IntKind.wrap .i64 ((i : Int) - 1) = (i : Int) - 1 := wrap_i64 (by omega) (by omega)
    have hstep : gf_Poly_At.s1 s (un x) (un (ev (p.drop (i + 1)) x), ((i + 1 : Nat) : Int) - 1, ()) H = some (.inl (un (ev (p.drop i) x), (i : Int) - 1, ()), H) := by
      unfold gf_Poly_At.s1
      rw [e1]
      simp only [decide_eq_true (show (0 : Int) ≤ (i : Int) by omega), cond_t, gf_Mul_eq, bind_some, a1, a2, un_xor, hw]
      rw [ev_drop (show i < p.length by omega) x]
    rw [iter, hstep]
    exact hj
theorem at_eq {H : Heap} {s : Sl} {p : Bytes} (h : PAt H s p) (hl : p.length < 1000000) (x : UInt8) : gf_Poly_At s (un x) H = some ((un (ev p x), ()), H) := by
  obtain ⟨j, hj⟩ := at_iter h hl x p.length (Nat.le_refl _)
  rw [List.drop_length] at hj
  have hlen := h.len
  have hw : IntKind.wrap .i64 ((s.len : Int) - 1) = (p.length : Int) - 1 := by rw [wrap_i64 (by omega) (by omega)]; omega
  unfold gf_Poly_At
  rw [hw]
  have hj' : iter (gf_Poly_At.s1 s (un x)) j (0, (p.length : Int) - 1, ()) H = some ((un (ev p x), ()), H) := hj
  rw [loopW_eq hj', bind_some]
end Ev
