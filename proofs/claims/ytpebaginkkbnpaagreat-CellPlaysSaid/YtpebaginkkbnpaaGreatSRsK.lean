/- Polynomials: what their functions compute. Polynomials: sums, products, shifts, slopes. Polynomials: products of two, slopes, what is left of one by another one. Words: their signs, whether they are right, how they are made. Words: how they are made. Words: the places that are known to be lost. Words: places that are lost, roots, solving. Words: how they are made right. Words: dividing on tells where bytes are others, and by how much. Words: what is made right, and what is made of others (in plain Lean). Words: decoding, and that what is made is right; two right words. Words: how many are others; what is made right, over places of the word itself. -/
import Derived.Test.YtpebaginkkbnpaaGreatSGf
import Derived.Test.YtpebaginkkbnpaaGreatPm
import Derived.Test.YtpebaginkkbnpaaGreatGRs
import Derived.Test.YtpebaginkkbnpaaGreatPq
namespace Ev
open Go (IntKind)

theorem cells_pl (n : Nat) (f : Nat → UInt8) : cellsOf (pl n f) = arrC n fun k => [.int .u8 (un (f k))] := by
  induction n with
  | zero => rfl
  | succ n ih =>
    rw [arrC, ← ih]
    unfold pl
    rw [List.range_succ, List.map_append]
    simp [cellsOf]
/-- A polynomial's bytes in a slice. -/
structure PAt (H : Heap) (s : Sl) (p : Bytes) : Prop where
  row : Row H 1 s (cellsOf p)
  cap : s.len ≤ s.cap
theorem PAt.len {H : Heap} {s : Sl} {p : Bytes} (h : PAt H s p) : s.len = p.length := by
  have := h.row.len
  rw [cells_len] at this; omega
theorem PAt.keep {H G : Heap} {s : Sl} {p : Bytes} (h : PAt H s p) (k : Keep (fun _ => False) H G) : PAt G s p := ⟨h.row.keep k fun _ _ _ => id, h.cap⟩
theorem PAt.byte {H : Heap} {s : Sl} {p : Bytes} (h : PAt H s p) {i : Nat} (hi : i < p.length) : ∃ b o, Sl.at 1 s (i : Int) = some (b, o) ∧ rdI .u8 H b o = some (un (co p i)) ∧ b < H.length := by
  have hl := h.len
  obtain ⟨b, o, hp, h1, cs, bk, h2, h3, h4⟩ := slRow_cell h.row.row (i := i) (by omega) h.row.nil
  refine ⟨b, o + i * 1, h1, rdI_of h2 ?_, get_lt h2⟩
  have := h4 0 (by decide)
  rw [Nat.add_zero] at this
  rw [this, co_lt hi]
  simp [cellsOf, hi]
/-- Bytes that are being written. -/
def BAt (H : Heap) (c n : Nat) (f : Nat → UInt8) : Prop := H[c]? = some (.cells (arrC n fun k => [.int .u8 (un (f k))]) .exact)
theorem BAt.get {H : Heap} {c n : Nat} {f : Nat → UInt8} (h : BAt H c n f) {i : Nat} (hi : i < n) : rdI .u8 H c i = some (un (f i)) := by
  have := arrC_get (f := fun k => [C.int .u8 (un (f k))]) (es := 1) (fun _ => rfl) (j := 0) (by decide) hi
  rw [Nat.mul_one, Nat.add_zero] at this
  exact rdI_of h this
theorem BAt.set {H : Heap} {c n : Nat} {f : Nat → UInt8} (h : BAt H c n f) {i : Nat} (hi : i < n) (x : UInt8) : ∃ G, wr H c i [.int .u8 (un x)] = some G ∧ BAt G c n (fun k => if k = i then x else f k) ∧ Keep (fun j => j = c) H G := by
  have hl := arrC_length (f := fun k => [C.int .u8 (un (f k))]) (es := 1) (fun _ => rfl) n
  have hs := arrC_set (f := fun k => [C.int .u8 (un (f k))]) (es := 1) (fun _ => rfl) (j := 0) (by decide) (.int .u8 (un x)) hi
  rw [Nat.mul_one, Nat.add_zero] at hs
  refine ⟨_, wr1_of h (by decide) (by omega), ?_, Keep.set _ _ _ rfl⟩
  unfold BAt
  rw [set_get (get_lt h), hs]
  congr 2
  refine arrC_congr fun k _ => ?_
  by_cases hk : k = i
  · subst hk; simp
  · simp [hk]
theorem BAt.keep {H G : Heap} {c n : Nat} {f : Nat → UInt8} (h : BAt H c n f) {F : Nat → Prop} (k : Keep F H G) (hF : ¬ F c) : BAt G c n f := k.get h hF
theorem BAt.at {c n : Nat} {i : Nat} (hi : i < n) : Sl.at 1 ⟨some (c, 0), n, n⟩ (i : Int) = some (c, i) := by
  rw [at_of (by omega) (by show (i : Int) < (n : Int); omega), Int.toNat_natCast, Nat.mul_one, Nat.zero_add]
theorem BAt.poly {H : Heap} {c n : Nat} {f : Nat → UInt8} (h : BAt H c n f) : PAt H ⟨some (c, 0), n, n⟩ (pl n f) := by
  refine ⟨⟨?_, fun hh => by cases hh⟩, Nat.le_refl _⟩
  unfold slRow
  have h' : H[c]? = some (.cells (arrC n fun k => [.int .u8 (un (f k))]) .exact) := h
  simp only [Heap.row, h']
  rw [cells_pl]
  have := arrC_length (f := fun k => [C.int .u8 (un (f k))]) (es := 1) (fun _ => rfl) n
  exact cut_all this.symm
theorem mk_bytes {H : Heap} {n : Nat} (h : n ≤ 35184372088832) : mkS H 1 [.int .u8 0] (n : Int) (n : Int) = some (⟨some (H.length, 0), n, n⟩, H ++ [.cells (arrC n fun _ => [.int .u8 (un 0)]) .exact]) := by
  unfold mkS
  have : decide (0 ≤ (n : Int) ∧ (n : Int) ≤ (n : Int) ∧ (n : Int).toNat * 1 ≤ maxRow ∧ (n : Int).toNat ≤ maxRow) = true := decide_eq_true ⟨by omega, by omega, by unfold maxRow; omega, by unfold maxRow; omega⟩
  rw [this, cond_t, Int.toNat_natCast]
  have : rep n [C.int .u8 0] = arrC n fun _ => [.int .u8 (un 0)] := by
    unfold rep
    induction n with
    | zero => rfl
    | succ n ih =>
      rw [List.replicate_succ', List.flatten_append, ih (by omega), arrC]
      · rfl
      · exact decide_eq_true ⟨by omega, by omega, by unfold maxRow; omega, by unfold maxRow; omega⟩
  rw [this]

/-! Trim and Degree. -/
theorem trim_iter {H : Heap} {s : Sl} {p : Bytes} (h : PAt H s p) (hl : p.length < 1000000) : ∀ n, tl p ≤ n → n ≤ p.length → ∃ j, iter (gf_Poly_Trim.s1 s) j ((n : Int), ()) H = some ((((tl p : Nat) : Int), ()), H)
  | 0, h1, _ => by
    refine ⟨1, ?_⟩
    have : tl p = 0 := by omega
    rw [iter]
    unfold gf_Poly_Trim.s1
    simp only [decide_eq_false (show ¬ (0 : Int) < ((0 : Nat) : Int) by omega), cond_f, this]
    rfl
  | n + 1, h1, h2 => by
    obtain ⟨b, o, a1, a2, _⟩ := h.byte (i := n) (by omega)
    have hw : IntKind.wrap .i64 (((n + 1 : Nat) : Int) - 1) = (n : Int) := by rw [wrap_i64 (by omega) (by omega)]; omega
    by_cases hn : tl p = n + 1
    · have hne := tl_ne p (by omega)
      rw [hn, Nat.add_sub_cancel] at hne
      refine ⟨1, ?_⟩
      rw [iter]
      unfold gf_Poly_Trim.s1
      simp only [decide_eq_true (show (0 : Int) < ((n + 1 : Nat) : Int) by omega), cond_t, hw, a1, bind_some, a2, decide_eq_false (fun hh => hne ((un_zero _).1 hh)), cond_f, hn]
      rfl
    · have hz := tl_zero p n (by omega)
      obtain ⟨j, hj⟩ := trim_iter h hl n (by omega) (by omega)
      refine ⟨j + 1, ?_⟩
      have hstep : gf_Poly_Trim.s1 s (((n + 1 : Nat) : Int), ()) H = some (.inl ((n : Int), ()), H) := by
        unfold gf_Poly_Trim.s1
        simp only [decide_eq_true (show (0 : Int) < ((n + 1 : Nat) : Int) by omega), cond_t, hw, a1, bind_some, a2, decide_eq_true ((un_zero _).2 hz)]
      rw [iter, hstep]
      exact hj
theorem degree_eq {H : Heap} {s : Sl} {p : Bytes} (h : PAt H s p) (hl : p.length < 1000000) : gf_Poly_Degree s H = some (((tl p : Int) - 1, ()), H) := by
  obtain ⟨j, hj⟩ := trim_iter h hl p.length (tl_le p) (Nat.le_refl _)
  have hj' : iter (gf_Poly_Degree.s1 s) j ((p.length : Int), ()) H = some ((((tl p : Nat) : Int), ()), H) := hj
  have := tl_le p
  unfold gf_Poly_Degree
  rw [h.len, loopW_eq hj', bind_some]
  show some (((IntKind.wrap .i64 ((tl p : Int) - 1)), ()), H) = _
  rw [wrap_i64 (by omega) (by omega)]
/-- Bytes appended to none. -/
theorem app_none {G : Heap} {q : Bytes} (hl : q.length < 1000000) : ∃ t G', appS (G ++ [.cells [] .exact]) 1 1 ⟨some (G.length, 0), 0, 0⟩ q.length (cellsOf q) = some (t, G') ∧ PAt G' t q ∧ Keep (fun _ => False) G G' ∧ ∀ b o, t.p = some (b, o) → G.length ≤ b := by
  by_cases h0 : q.length = 0
  · have hq : q = [] := List.eq_nil_of_length_eq_zero h0
    subst hq
    refine ⟨⟨some (G.length, 0), 0, 0⟩, G ++ [.cells [] .exact], ?_, ⟨⟨row_last rfl, fun h => by cases h⟩, Nat.le_refl _⟩, Keep.push _ _ _, fun b o ho => by cases ho; exact Nat.le_refl _⟩
    unfold appS
    have : decide ((⟨some (G.length, 0), 0, 0⟩ : Sl).len + ([] : Bytes).length ≤ (⟨some (G.length, 0), 0, 0⟩ : Sl).cap) = true := rfl
    rw [this, cond_t]
    rfl
  · have g0 : Grown (G ++ [.cells [] .exact]) 1 ⟨some (G.length, 0), 0, 0⟩ [] := ⟨rfl, by simp, fun h => by (cases h), fun a h => by cases h; exact ⟨rfl, .inr app_last⟩⟩
    obtain ⟨a1, a2⟩ := g0.app (bytes := 1) (by decide) (n := q.length) (new := cellsOf q) (by omega) (by rw [cells_len, Nat.mul_one]) (by show (0 + q.length) * 1 ≤ _; omega) (by show 0 + q.length ≤ _; omega)
    rw [List.nil_append] at a1 a2
    refine ⟨_, _, a1, ⟨Row.grown a2, Nat.le_refl _⟩, ?_, fun b o ho => by cases ho; simp⟩
    exact ((Keep.push (fun k => k = G.length) G (.cells [] .exact)).trans (grownH_keep.mono fun k ⟨o, ho⟩ => by cases ho; rfl)).new fun k hk hlt => by
      have : k = G.length := hk
      omega

theorem PAt.front {H : Heap} {s : Sl} {p : Bytes} (h : PAt H s p) {n : Nat} (hn : n ≤ p.length) : Sl.sub 1 s 0 (n : Int) (s.cap : Int) = some ⟨s.p, n, s.cap⟩ ∧ slRow H 1 ⟨s.p, n, s.cap⟩ = some (cellsOf (p.take n)) := by
  have hl := h.len
  have hc := h.cap
  constructor
  · unfold Sl.sub
    have : decide (0 ≤ (0 : Int) ∧ (0 : Int) ≤ (n : Int) ∧ (n : Int) ≤ (s.cap : Int) ∧ (s.cap : Int) ≤ (s.cap : Int)) = true := decide_eq_true (by omega)
    rw [this, cond_t]
    cases hp : s.p with
    | none => simp
    | some a => simp
  · cases hp : s.p with
    | none =>
      have h0 := h.row.nil hp
      have : n = 0 := by omega
      subst this
      simp [slRow, cellsOf]
    | some x =>
      obtain ⟨cs, bk, h1, h2, h3⟩ := slRow_some (b := x.1) (o := x.2) hp h.row.row
      unfold slRow
      simp only [Heap.row, h1]
      rw [cut_of (by omega)]
      have h4 : ((cs.drop x.2).take (s.len * 1)).take (n * 1) = (cellsOf p).take (n * 1) := by rw [h3]
      rw [List.take_take, Nat.min_eq_left (by omega)] at h4
      rw [h4, Nat.mul_one]
      simp [cellsOf, List.map_take]
theorem trim_new {H : Heap} {s : Sl} {p : Bytes} (h : PAt H s p) (hl : p.length < 1000000) : ∃ t G, gf_Poly_Trim s H = some ((t, ()), G) ∧ PAt G t (trim p) ∧ Keep (fun _ => False) H G ∧ ∀ b o, t.p = some (b, o) → H.length ≤ b := by
  obtain ⟨j, hj⟩ := trim_iter h hl p.length (tl_le p) (Nat.le_refl _)
  obtain ⟨f1, f2⟩ := (h.keep (Keep.push (fun _ => False) H (.cells [] .exact))).front (tl_le p)
  obtain ⟨t, G, g1, g2, g3⟩ := app_none (G := H) (q := trim p) (by rw [trim_len]; have := tl_le p; omega)
  rw [trim_len] at g1
  refine ⟨t, G, ?_, g2, g3⟩
  unfold gf_Poly_Trim
  rw [h.len, loopW_eq hj, bind_some]
  have f2' : slRow (H ++ [.cells [] .exact]) 1 ⟨s.p, tl p, s.cap⟩ = some (cellsOf (trim p)) := f2
  simp only [f1, bind_some, f2', g1]
theorem trim_eq {H : Heap} {s : Sl} {p : Bytes} (h : PAt H s p) (hl : p.length < 1000000) : ∃ t G, gf_Poly_Trim s H = some ((t, ()), G) ∧ PAt G t (trim p) ∧ Keep (fun _ => False) H G := by
  obtain ⟨t, G, a, b, c, _⟩ := trim_new h hl
  exact ⟨t, G, a, b, c⟩
theorem cut_eq {H : Heap} {s : Sl} {p : Bytes} (h : PAt H s p) (hl : p.length < 1000000) (n : Nat) : ∃ t G, gf_Poly_Cut s (n : Int) H = some ((t, ()), G) ∧ PAt G t (trim (p.take n)) ∧ Keep (fun _ => False) H G := by
  have hlen := h.len
  obtain ⟨f1, f2⟩ := (h.keep (Keep.push (fun _ => False) H (.cells [] .exact))).front (n := min n p.length) (by omega)
  have ht : p.take (min n p.length) = p.take n := by
    by_cases hn : n ≤ p.length
    · rw [Nat.min_eq_left hn]
    · rw [Nat.min_eq_right (by omega), List.take_length, List.take_of_length_le (by omega)]
  rw [ht] at f2
  obtain ⟨t, G, g1, g2, g3, _⟩ := app_none (G := H) (q := p.take n) (by rw [List.length_take]; omega)
  obtain ⟨t2, G2, e1, e2, e3⟩ := trim_eq g2 (by rw [List.length_take]; omega)
  have hm : (if (if (s.len : Int) < (n : Int) then (s.len : Int) else (n : Int)) > 0 then (if (s.len : Int) < (n : Int) then (s.len : Int) else (n : Int)) else 0) = ((min n p.length : Nat) : Int) := by
    split <;> split <;> omega
  refine ⟨t2, G2, ?_, e2, g3.trans e3⟩
  unfold gf_Poly_Cut
  rw [List.length_take] at g1
  simp only [hm, f1, bind_some, f2, g1, e1]
theorem at_iter {H : Heap} {s : Sl} {p : Bytes} (h : PAt H s p) (hl : p.length < 1000000) (x : UInt8) : ∀ i, i ≤ p.length → ∃ j, iter (gf_Poly_At.s1 s (un x)) j (un (ev (p.drop i) x), (i : Int) - 1, ()) H = some ((un (ev p x), ()), H)
  | 0, _ => by
    refine ⟨1, ?_⟩
    rw [iter]
    unfold gf_Poly_At.s1
    simp only [decide_eq_false (show ¬ (0 : Int) ≤ ((0 : Nat) : Int) - 1 by omega), cond_f]
    rfl
  | i + 1, hi => by
    obtain ⟨b, o, a1, a2, _⟩ := h.byte (i := i) (by omega)
    obtain ⟨j, hj⟩ := at_iter h hl x i (by omega)
    refine ⟨j + 1, ?_⟩
    have e1 : ((i + 1 : Nat) : Int) - 1 = (i : Int) := by omega
    have hw : IntKind.wrap .i64 ((i : Int) - 1) = (i : Int) - 1 := wrap_i64 (by omega) (by omega)
    have hstep : gf_Poly_At.s1 s (un x) (un (ev (p.drop (i + 1)) x), ((i + 1 : Nat) : Int) - 1, ()) H = some (.inl (un (ev (p.drop i) x), (i : Int) - 1, ()), H) := by
      unfold gf_Poly_At.s1
      rw [e1]
      simp only [decide_eq_true (show (0 : Int) ≤ (i : Int) by omega), cond_t, gf_Mul_eq, bind_some, a1, a2, un_xor, hw]
      rw [ev_drop (show i < p.length by omega) x]
    rw [iter, hstep]
    exact hj
theorem at_eq {H : Heap} {s : Sl} {p : Bytes} (h : PAt H s p) (hl : p.length < 1000000) (x : UInt8) : gf_Poly_At s (un x) H = some ((un (ev p x), ()), H) := by
  obtain ⟨j, hj⟩ := at_iter h hl x p.length (Nat.le_refl _)
  rw [List.drop_length] at hj
  have hlen := h.len
  have hw : IntKind.wrap .i64 ((s.len : Int) - 1) = (p.length : Int) - 1 := by rw [wrap_i64 (by omega) (by omega)]; omega
  unfold gf_Poly_At
  rw [hw]
  have hj' : iter (gf_Poly_At.s1 s (un x)) j (0, (p.length : Int) - 1, ()) H = some ((un (ev p x), ()), H) := hj
  rw [loopW_eq hj', bind_some]
end Ev
namespace Ev
open Go (IntKind)

theorem keep_one {H G : Heap} (k : Keep (fun j => j = H.length) H G) : Keep (fun _ => False) H G := k.new fun j hj hlt => by
  have : j = H.length := hj
  omega
theorem BAt.congr {H : Heap} {c n : Nat} {f g : Nat → UInt8} (h : BAt H c n f) (hfg : ∀ k, k < n → f k = g k) : BAt H c n g := by
  unfold BAt at h ⊢
  rw [h]
  congr 2
  exact arrC_congr fun k hk => by rw [hfg k hk]
/-- Two lists that are told alike up to their ends. -/
theorem trim_co {p q : Bytes} (h : ∀ i, co p i = co q i) : trim p = trim q := by
  have ht : tl p = tl q := tl_eq (fun i hi => by rw [h]; exact tl_zero q i hi) fun h0 => by rw [h]; exact tl_ne q h0
  rw [← pl_co (trim p), ← pl_co (trim q), trim_len, trim_len, ht]
  exact pl_congr fun i _ => by rw [co_trim, co_trim, h]
section
variable {H : Heap} {s s2 : Sl} {p q : Bytes}
theorem times_eq (h : PAt H s p) (hl : p.length < 1000000) (a : UInt8) : ∃ t G, gf_Poly_Times s (un a) H = some ((t, ()), G) ∧ PAt G t (trim (psc a p)) ∧ Keep (fun _ => False) H G := by
  have hlen := h.len
  let H1 : Heap := H ++ [.cells (arrC p.length fun _ => [.int .u8 (un 0)]) .exact]
  have mk : mkS H 1 [.int .u8 0] (s.len : Int) (s.len : Int) = some (⟨some (H.length, 0), p.length, p.length⟩, H1) := by rw [hlen]; exact mk_bytes (by omega)
  obtain ⟨u, G, l1, g1, g2⟩ := loop_rise (step := gf_Poly_Times.s1 s (un a) (⟨some (H.length, 0), p.length, p.length⟩, H1)) p.length (fun i y G => y = ((i : Int), ()) ∧ BAt G H.length p.length (fun k => if k < i then gm a (co p k) else 0) ∧ Keep (fun j => j = H.length) H G) (fun _ G => BAt G H.length p.length (fun k => gm a (co p k)) ∧ Keep (fun j => j = H.length) H G)
    (by
      rintro i _ G hi ⟨rfl, f1, f2⟩
      refine .inl ?_
      obtain ⟨b, o, a1, a2, _⟩ := (h.keep (keep_one f2)).byte hi
      obtain ⟨G2, b1, b2, b3⟩ := f1.set hi (gm a (co p i))
      refine ⟨_, G2, ?_, rfl, ?_, f2.trans b3⟩
      · unfold gf_Poly_Times.s1
        simp only [decide_eq_true (show (i : Int) < (s.len : Int) by omega), cond_t, a1, bind_some, a2, gf_Mul_eq, BAt.at hi, b1, wrap_succ (show i < 9223372036854775807 by omega)]
      · have : (fun k => if k = i then gm a (co p i) else if k < i then gm a (co p k) else 0) = fun k => if k < i + 1 then gm a (co p k) else 0 := by
          funext k
          by_cases h1 : k = i
          · subst h1; rw [if_pos rfl, if_pos (by omega)]
          · rw [if_neg h1]
            by_cases h2 : k < i
            · rw [if_pos h2, if_pos (by omega)]
            · rw [if_neg h2, if_neg (by omega)]
        rwa [this] at b2)
    (by
      rintro _ G ⟨rfl, f1, f2⟩
      refine ⟨(), G, ?_, ?_, f2⟩
      · unfold gf_Poly_Times.s1
        simp only [decide_eq_false (show ¬ ((p.length : Nat) : Int) < (s.len : Int) by omega), cond_f]
      · exact f1.congr fun k hk => if_pos hk)
    (y := (((0 : Nat) : Int), ())) (H := H1) ⟨rfl, by
      have : BAt H1 H.length p.length (fun _ => 0) := app_last
      simpa using this, Keep.push _ _ _⟩
  have l1' : loopW (gf_Poly_Times.s1 s (un a) (⟨some (H.length, 0), p.length, p.length⟩, H1)) (0, ()) H1 = some (u, G) := l1
  obtain ⟨t, G2, e1, e2, e3⟩ := trim_eq g1.poly (by rw [pl_len]; exact hl)
  refine ⟨t, G2, ?_, e2, (keep_one g2).trans e3⟩
  unfold gf_Poly_Times
  simp only [mk, bind_some, l1', e1]
theorem setL_front : ∀ (D C : List C), D.length ≤ C.length → setL C 0 D = D ++ C.drop D.length := by
  intro D C h
  have key : ∀ (D B A E : List Ev.C) (o : Nat), A.length = o → B.length = D.length → setL (A ++ B ++ E) o D = A ++ D ++ E := by
    intro D
    induction D with
    | nil => intro B A E o h1 h2; have : B = [] := List.eq_nil_of_length_eq_zero h2; subst this; simp [setL]
    | cons x D ih =>
      intro B A E o h1 h2
      match B, h2 with
      | y :: B, h2 =>
        subst h1
        have := ih B (A ++ [x]) E (A.length + 1) (by simp) (by simpa using h2)
        simp only [setL]
        rw [show (A ++ y :: B ++ E).set A.length x = A ++ [x] ++ B ++ E by simp, this]; simp
  have := key D (C.take D.length) [] (C.drop D.length) 0 rfl (by rw [List.length_take]; omega)
  rw [List.nil_append, List.take_append_drop, List.nil_append] at this
  exact this
theorem add_eq (h : PAt H s p) (h2 : PAt H s2 q) (hl : p.length < 1000000) (hl2 : q.length < 1000000) : ∃ t G, gf_Poly_Add s s2 H = some ((t, ()), G) ∧ PAt G t (trim (padd p q)) ∧ Keep (fun _ => False) H G := by
  have hlen := h.len
  have hlen2 := h2.len
  generalize hn : max p.length q.length = n
  let H1 : Heap := H ++ [.cells (arrC n fun _ => [.int .u8 (un 0)]) .exact]
  have hm : (if (s2.len : Int) > (s.len : Int) then (s2.len : Int) else (s.len : Int)) = (n : Int) := by split <;> omega
  have mk : mkS H 1 [.int .u8 0] (n : Int) (n : Int) = some (⟨some (H.length, 0), n, n⟩, H1) := mk_bytes (by omega)
  have hmin : min s.len n = p.length := by omega
  have k1 : Keep (fun _ => False) H H1 := Keep.push _ _ _
  have hrow : slRow H1 1 ⟨s.p, p.length, s.cap⟩ = some (cellsOf p) := by
    have := ((h.keep k1).front (Nat.le_refl p.length)).2
    rwa [List.take_length] at this
  have b0 : BAt H1 H.length n (fun _ => 0) := app_last
  have cp : ∃ m G, cpyS H1 1 ⟨some (H.length, 0), n, n⟩ p.length (cellsOf p) = some (m, G) ∧ BAt G H.length n (co p) ∧ Keep (fun j => j = H.length) H1 G := by
    unfold cpyS
    by_cases h0 : p.length = 0
    · refine ⟨0, H1, by rw [decide_eq_true h0, cond_t], ?_, Keep.refl _ _⟩
      have : p = [] := List.eq_nil_of_length_eq_zero h0
      subst this
      exact b0
    · have hal : (arrC n fun _ => [C.int .u8 (un 0)]).length = n := by rw [arrC_length (f := fun _ => [C.int .u8 (un 0)]) (es := 1) fun _ => rfl, Nat.mul_one]
      refine ⟨(p.length : Int), _, ?_, ?_, Keep.set _ _ (.cells (setL (arrC n fun _ => [C.int .u8 (un 0)]) 0 (cellsOf p)) .exact) rfl⟩
      · rw [decide_eq_false h0, cond_f]
        simp only
        rw [wr_of b0 (by decide) (by rw [cells_len, hal]; omega), bind_some]
      · unfold BAt
        rw [set_get (by simp [H1]), setL_front _ _ (by rw [cells_len, hal]; omega), ← cells_pl, ← cells_pl, cells_len]
        congr 2
        have : (cellsOf (pl n fun _ => 0)).drop p.length = cellsOf ((pl n fun _ => 0).drop p.length) := by simp [cellsOf, List.map_drop]
        rw [this]
        unfold cellsOf
        rw [← List.map_append]
        congr 1
        apply List.ext_getElem?
        intro i
        have hpl : (pl n (co p))[i]? = if i < n then some (co p i) else none := by
          unfold pl
          rw [List.getElem?_map]
          by_cases hi : i < n
          · rw [if_pos hi, List.getElem?_eq_getElem (by simpa using hi)]; simp
          · rw [if_neg hi, List.getElem?_eq_none (by simp; omega)]; rfl
        rw [hpl]
        by_cases hi : i < p.length
        · rw [List.getElem?_append_left hi, if_pos (by omega), List.getElem?_eq_getElem hi, co_lt hi]
        · rw [List.getElem?_append_right (by omega), List.getElem?_drop]
          unfold pl
          rw [List.getElem?_map]
          by_cases hi2 : i < n
          · rw [if_pos hi2, List.getElem?_eq_getElem (by simp; omega), co_ge (by omega)]; rfl
          · rw [if_neg hi2, List.getElem?_eq_none (by simp; omega)]; rfl
  obtain ⟨m, G0, c1, c2, c3⟩ := cp
  have k0 : Keep (fun j => j = H.length) H G0 := (Keep.push _ _ _).trans c3
  obtain ⟨u, G, l1, g1, g2⟩ := loop_rise (step := gf_Poly_Add.s1 s2 (⟨some (H.length, 0), n, n⟩, H1)) q.length (fun i y G => y = ((i : Int), ()) ∧ BAt G H.length n (fun k => if k < i then co p k ^^^ co q k else co p k) ∧ Keep (fun j => j = H.length) H G) (fun _ G => BAt G H.length n (fun k => co p k ^^^ co q k) ∧ Keep (fun j => j = H.length) H G)
    (by
      rintro i _ G hi ⟨rfl, f1, f2⟩
      refine .inl ?_
      obtain ⟨b, o, a1, a2, _⟩ := (h2.keep (keep_one f2)).byte hi
      have f3 := f1.get (i := i) (by omega)
      rw [if_neg (Nat.lt_irrefl i)] at f3
      obtain ⟨G2, b1, b2, b3⟩ := f1.set (i := i) (by omega) (co p i ^^^ co q i)
      refine ⟨_, G2, ?_, rfl, ?_, f2.trans b3⟩
      · unfold gf_Poly_Add.s1
        simp only [decide_eq_true (show (i : Int) < (s2.len : Int) by omega), cond_t, a1, bind_some, a2, BAt.at (show i < n by omega), f3, un_xor, b1, wrap_succ (show i < 9223372036854775807 by omega)]
      · have : (fun k => if k = i then co p i ^^^ co q i else if k < i then co p k ^^^ co q k else co p k) = fun k => if k < i + 1 then co p k ^^^ co q k else co p k := by
          funext k
          by_cases h1 : k = i
          · subst h1; rw [if_pos rfl, if_pos (by omega)]
          · rw [if_neg h1]
            by_cases h2 : k < i
            · rw [if_pos h2, if_pos (by omega)]
            · rw [if_neg h2, if_neg (by omega)]
        rwa [this] at b2)
    (by
      rintro _ G ⟨rfl, f1, f2⟩
      refine ⟨(), G, ?_, ?_, f2⟩
      · unfold gf_Poly_Add.s1
        simp only [decide_eq_false (show ¬ ((q.length : Nat) : Int) < (s2.len : Int) by omega), cond_f]
      · refine f1.congr fun k hk => ?_
        by_cases hk2 : k < q.length
        · exact if_pos hk2
        · rw [co_ge (p := q) (by omega), UInt8.xor_zero]; exact if_neg hk2)
    (y := (((0 : Nat) : Int), ())) (H := G0) ⟨rfl, by simpa using c2, k0⟩
  have l1' : loopW (gf_Poly_Add.s1 s2 (⟨some (H.length, 0), n, n⟩, H1)) (0, ()) G0 = some (u, G) := l1
  obtain ⟨t, G2, e1, e2, e3⟩ := trim_eq g1.poly (by rw [pl_len]; omega)
  refine ⟨t, G2, ?_, ?_, (keep_one g2).trans e3⟩
  · unfold gf_Poly_Add
    simp only [hm, mk, bind_some, hmin, hrow, c1, l1', e1]
  · unfold padd; rw [hn]; exact e2
theorem shift_eq (h : PAt H s p) {n : Nat} (hl : n + p.length < 1000000) : ∃ t G, gf_Poly_Shift s (n : Int) H = some ((t, ()), G) ∧ PAt G t (trim (psh n p)) ∧ Keep (fun _ => False) H G := by
  have hlen := h.len
  let H1 : Heap := H ++ [.cells (arrC n fun _ => [.int .u8 (un 0)]) .exact]
  have hm : (if 0 > (n : Int) then 0 else (n : Int)) = (n : Int) := if_neg (by omega)
  have mk : mkS H 1 [.int .u8 0] (n : Int) (n : Int) = some (⟨some (H.length, 0), n, n⟩, H1) := mk_bytes (by omega)
  have b0 : BAt H1 H.length n (fun _ => 0) := app_last
  have k1 : Keep (fun _ => False) H H1 := Keep.push _ _ _
  have hrow := (h.keep k1).row.row
  have hpsh : ∀ i, co (pl n (fun _ => 0) ++ p) i = co (psh n p) i := by
    intro i
    rw [co_psh]
    unfold co
    rw [List.getD_eq_getElem?_getD]
    by_cases hi : i < n
    · rw [if_pos hi, List.getElem?_append_left (by rw [pl_len]; exact hi)]
      have := co_pl n (fun _ => 0) i
      unfold co at this
      rw [List.getD_eq_getElem?_getD, if_pos hi] at this
      exact this
    · rw [if_neg hi, List.getElem?_append_right (by rw [pl_len]; omega), pl_len, ← List.getD_eq_getElem?_getD]
  have ap : ∃ t G, appS H1 1 1 ⟨some (H.length, 0), n, n⟩ p.length (cellsOf p) = some (t, G) ∧ PAt G t (pl n (fun _ => 0) ++ p) ∧ Keep (fun _ => False) H G := by
    by_cases h0 : p.length = 0
    · have : p = [] := List.eq_nil_of_length_eq_zero h0
      subst this
      refine ⟨⟨some (H.length, 0), n, n⟩, H1, ?_, by rw [List.append_nil]; exact b0.poly, k1⟩
      unfold appS
      rw [decide_eq_true (show (⟨some (H.length, 0), n, n⟩ : Sl).len + ([] : Bytes).length ≤ (⟨some (H.length, 0), n, n⟩ : Sl).cap from Nat.le_refl n), cond_t]
      rfl
    · have g0 : Grown H1 1 ⟨some (H.length, 0), n, n⟩ (cellsOf (pl n fun _ => 0)) := ⟨rfl, by rw [cells_len, pl_len, Nat.mul_one], fun h => by (cases h), fun a h => by cases h; exact ⟨rfl, .inr (by rw [cells_pl]; exact b0)⟩⟩
      obtain ⟨a1, a2⟩ := g0.app (bytes := 1) (by decide) (n := p.length) (new := cellsOf p) (by omega) (by rw [cells_len, Nat.mul_one]) (by show (n + p.length) * 1 ≤ _; omega) (by show n + p.length ≤ _; omega)
      have hc : cellsOf (pl n fun _ => 0) ++ cellsOf p = cellsOf (pl n (fun _ => 0) ++ p) := by simp [cellsOf]
      rw [hc] at a1 a2
      refine ⟨_, _, a1, ⟨Row.grown a2, Nat.le_refl _⟩, ?_⟩
      exact keep_one ((Keep.push (fun k => k = H.length) H _).trans (grownH_keep.mono fun k ⟨o, ho⟩ => by cases ho; rfl))
  obtain ⟨t, G, a1, a2, a3⟩ := ap
  obtain ⟨t2, G2, e1, e2, e3⟩ := trim_eq a2 (by rw [List.length_append, pl_len]; omega)
  refine ⟨t2, G2, ?_, by rw [← trim_co hpsh]; exact e2, a3.trans e3⟩
  unfold gf_Poly_Shift
  rw [← hlen] at a1
  simp only [hm, mk, bind_some, hrow, a1, e1]
end
end Ev
namespace Ev
open Go (IntKind)

section
variable {H : Heap} {s s2 : Sl} {p q : Bytes}
theorem mul_eq (h : PAt H s p) (h2 : PAt H s2 q) (hl : p.length + q.length < 1000000) : ∃ t G, gf_Poly_Mul s s2 H = some ((t, ()), G) ∧ PAt G t (trim (pmul p q)) ∧ Keep (fun _ => False) H G := by
  have hlen := h.len
  have hlen2 := h2.len
  generalize hn : p.length + q.length = n
  let H1 : Heap := H ++ [.cells (arrC n fun _ => [.int .u8 (un 0)]) .exact]
  have hm : IntKind.wrap .i64 ((s.len : Int) + (s2.len : Int)) = (n : Int) := by rw [wrap_i64 (by omega) (by omega)]; omega
  have mk : mkS H 1 [.int .u8 0] (n : Int) (n : Int) = some (⟨some (H.length, 0), n, n⟩, H1) := mk_bytes (by omega)
  have b0 : BAt H1 H.length n (fun _ => 0) := app_last
  obtain ⟨u, G, l1, g1, g2⟩ := loop_rise (step := gf_Poly_Mul.s2 s s2 (⟨some (H.length, 0), n, n⟩, H1)) p.length (fun i y G => y = ((i : Int), ()) ∧ BAt G H.length n (cv p q i) ∧ Keep (fun j => j = H.length) H G) (fun _ G => BAt G H.length n (cv p q p.length) ∧ Keep (fun j => j = H.length) H G)
    (by
      rintro i _ G hi ⟨rfl, f1, f2⟩
      refine .inl ?_
      obtain ⟨b, o, a1, a2, _⟩ := (h.keep (keep_one f2)).byte hi
      obtain ⟨u2, G2, m1, m2, m3⟩ := loop_rise (step := gf_Poly_Mul.s1 s2 (⟨some (H.length, 0), n, n⟩, H1) ((i : Int), ()) (un (co p i))) q.length
        (fun j y R => y = ((j : Int), ()) ∧ BAt R H.length n (fun k => cv p q i k ^^^ (if i ≤ k ∧ k < i + j then gm (co p i) (co q (k - i)) else 0)) ∧ Keep (fun j => j = H.length) H R) (fun _ R => BAt R H.length n (cv p q (i + 1)) ∧ Keep (fun j => j = H.length) H R)
        (by
          rintro j _ R hj ⟨rfl, r1, r2⟩
          refine .inl ?_
          obtain ⟨b', o', c1, c2, _⟩ := (h2.keep (keep_one r2)).byte hj
          have hij : IntKind.wrap .i64 ((i : Int) + (j : Int)) = ((i + j : Nat) : Int) := by rw [wrap_i64 (by omega) (by omega)]; omega
          have hlt : i + j < n := by omega
          have r3 := r1.get hlt
          rw [if_neg (by omega), UInt8.xor_zero] at r3
          obtain ⟨R2, d1, d2, d3⟩ := r1.set hlt (cv p q i (i + j) ^^^ gm (co p i) (co q j))
          refine ⟨_, R2, ?_, rfl, d2.congr fun k hk => ?_, r2.trans d3⟩
          · unfold gf_Poly_Mul.s1
            simp only [decide_eq_true (show (j : Int) < (s2.len : Int) by omega), cond_t, c1, bind_some, c2, hij, BAt.at hlt, r3, gf_Mul_eq, un_xor, d1, wrap_succ (show j < 9223372036854775807 by omega)]
          · by_cases e : k = i + j
            · subst e
              rw [if_pos rfl, if_pos ⟨by omega, by omega⟩, Nat.add_sub_cancel_left]
            · rw [if_neg e]
              by_cases h1 : i ≤ k ∧ k < i + j
              · rw [if_pos h1, if_pos ⟨h1.1, by omega⟩]
              · rw [if_neg h1, if_neg (by omega)])
        (by
          rintro _ R ⟨rfl, r1, r2⟩
          refine ⟨(), R, ?_, r1.congr fun k hk => ?_, r2⟩
          · unfold gf_Poly_Mul.s1
            simp only [decide_eq_false (show ¬ ((q.length : Nat) : Int) < (s2.len : Int) by omega), cond_f]
          · rw [cv]
            congr 1
            by_cases h1 : i ≤ k
            · rw [if_pos h1]
              by_cases h3 : k < i + q.length
              · rw [if_pos ⟨h1, h3⟩]
              · rw [if_neg (by omega), co_ge (p := q) (by omega), gm_zero]
            · rw [if_neg h1, if_neg (by omega)])
        (y := (((0 : Nat) : Int), ())) (H := G) ⟨rfl, f1.congr fun k _ => by rw [if_neg (by omega), UInt8.xor_zero], f2⟩
      have m1' : loopW (gf_Poly_Mul.s1 s2 (⟨some (H.length, 0), n, n⟩, H1) ((i : Int), ()) (un (co p i))) (0, ()) G = some (u2, G2) := m1
      refine ⟨_, G2, ?_, rfl, m2, m3⟩
      unfold gf_Poly_Mul.s2
      simp only [decide_eq_true (show (i : Int) < (s.len : Int) by omega), cond_t, a1, bind_some, a2, m1', wrap_succ (show i < 9223372036854775807 by omega)])
    (by
      rintro _ G ⟨rfl, f1, f2⟩
      refine ⟨(), G, ?_, f1, f2⟩
      unfold gf_Poly_Mul.s2
      simp only [decide_eq_false (show ¬ ((p.length : Nat) : Int) < (s.len : Int) by omega), cond_f])
    (y := (((0 : Nat) : Int), ())) (H := H1) ⟨rfl, b0, Keep.push _ _ _⟩
  have l1' : loopW (gf_Poly_Mul.s2 s s2 (⟨some (H.length, 0), n, n⟩, H1)) (0, ()) H1 = some (u, G) := l1
  obtain ⟨t, G2, e1, e2, e3⟩ := trim_eq g1.poly (by rw [pl_len]; omega)
  refine ⟨t, G2, ?_, ?_, (keep_one g2).trans e3⟩
  · unfold gf_Poly_Mul
    simp only [hm, mk, bind_some, l1', e1]
  · unfold pmul; rw [hn]; exact e2
/-- The derivative. -/
def pslope (p : Bytes) : Bytes := pl (p.length - 1) fun i => if (i + 1) % 2 = 1 then co p (i + 1) else 0
theorem slope_eq (h : PAt H s p) (hl : p.length < 1000000) : ∃ t G, gf_Poly_Slope s H = some ((t, ()), G) ∧ PAt G t (trim (pslope p)) ∧ Keep (fun _ => False) H G ∧ ∀ b o, t.p = some (b, o) → H.length ≤ b := by
  have hlen := h.len
  let F : Nat → UInt8 := fun i => if (i + 1) % 2 = 1 then co p (i + 1) else 0
  have hsn : ∀ i, cellsOf (pl (i + 1) F) = cellsOf (pl i F) ++ [.int .u8 (un (F i))] := fun i => by rw [cells_pl, cells_pl, arrC]
  obtain ⟨u, G, l1, t, rfl, g⟩ := loop_rise (step := gf_Poly_Slope.s1 s) (p.length - 1) (fun i y G => ∃ t, y = (t, ((i + 1 : Nat) : Int), ()) ∧ t.len = i ∧ GrowN H G 1 t (cellsOf (pl i F))) (fun y G => ∃ t, y = (t, ()) ∧ GrowN H G 1 t (cellsOf (pl (p.length - 1) F)))
    (by
      rintro i _ G hi ⟨t, rfl, ht, g⟩
      refine .inl ?_
      obtain ⟨b, o, a1, a2, _⟩ := (h.keep g.keep).byte (i := i + 1) (by omega)
      obtain ⟨t', G2, b1, b2, b3, b4, _⟩ := g.one (bytes := 1) (new := [.int .u8 (un (F i))]) (by decide) rfl (by omega) (by omega)
      rw [← hsn i] at b3
      refine ⟨(t', ((i + 1 + 1 : Nat) : Int), ()), G2, ?_, t', rfl, by omega, b3⟩
      have hmod : Int.tmod ((i + 1 : Nat) : Int) 2 = (((i + 1) % 2 : Nat) : Int) := rfl
      unfold gf_Poly_Slope.s1
      simp only [decide_eq_true (show ((i + 1 : Nat) : Int) < (s.len : Int) by omega), cond_t, hmod]
      by_cases hp : (i + 1) % 2 = 1
      · have hF : F i = co p (i + 1) := if_pos hp
        rw [hF] at b1 b2
        simp only [decide_eq_true (show (((i + 1) % 2 : Nat) : Int) = 1 by omega), cond_t, a1, bind_some, a2, b1, b2, wrap_succ (show i + 1 < 9223372036854775807 by omega)]
      · have hF : F i = 0 := if_neg hp
        rw [hF] at b1 b2
        have b1' : slRow (G ++ [Blk.cells [.int .u8 0] .exact]) 1 ⟨some (G.length, 0), 1, 1⟩ = some [.int .u8 (un 0)] := b1
        have b2' : appS (G ++ [Blk.cells [.int .u8 0] .exact]) 1 1 t 1 [.int .u8 (un 0)] = some (t', G2) := b2
        simp only [decide_eq_false (show ¬ (((i + 1) % 2 : Nat) : Int) = 1 by omega), cond_f, b1', bind_some, b2', wrap_succ (show i + 1 < 9223372036854775807 by omega)])
    (by
      rintro _ G ⟨t, rfl, ht, g⟩
      refine ⟨(t, ()), G, ?_, t, rfl, g⟩
      unfold gf_Poly_Slope.s1
      simp only [decide_eq_false (show ¬ ((p.length - 1 + 1 : Nat) : Int) < (s.len : Int) by omega), cond_f])
    (y := (⟨none, 0, 0⟩, ((0 + 1 : Nat) : Int), ())) (H := H) ⟨_, rfl, rfl, GrowN.ni (Keep.refl _ _) 1⟩
  have l1' : loopW (gf_Poly_Slope.s1 s) (⟨none, 0, 0⟩, 1, ()) H = some ((t, ()), G) := l1
  have pt : PAt G t (pslope p) := ⟨g.row, by rw [g.gr.cap]; exact Nat.le_refl _⟩
  obtain ⟨t2, G2, e1, e2, e3, e4⟩ := trim_new pt (by unfold pslope; rw [pl_len]; omega)
  refine ⟨t2, G2, ?_, e2, g.keep.trans e3, fun b o ho => Nat.le_trans g.keep.len (e4 b o ho)⟩
  unfold gf_Poly_Slope
  simp only [l1', bind_some, e1]
/-- One step of dividing: what is taken off. -/
def mstep (q : Bytes) (top : UInt8) (out : Bytes) : Bytes := trim (padd out (trim (psh (out.length - q.length) (trim (psc (gm (co out (out.length - 1)) top) q)))))
theorem tl_trim (p : Bytes) : tl (trim p) = (trim p).length := by
  rw [trim_len]
  exact tl_eq (fun i hi => by rw [co_trim]; exact tl_zero p i hi) fun h => by rw [co_trim]; exact tl_ne p h
theorem co_mstep (q : Bytes) (top : UInt8) (out : Bytes) (i : Nat) : co (mstep q top out) i = co out i ^^^ (if i < out.length - q.length then 0 else gm (gm (co out (out.length - 1)) top) (co q (i - (out.length - q.length)))) := by
  unfold mstep
  rw [co_trim, co_padd, co_trim, co_psh]
  split
  · rfl
  · rw [co_trim, co_psc]
theorem mstep_less {q out : Bytes} (hq : 0 < q.length) (hlast : co q (q.length - 1) ≠ 0) (hle : q.length ≤ out.length) : (mstep q (ginv (co q (q.length - 1))) out).length < out.length := by
  have hz : ∀ i, out.length - 1 ≤ i → co (mstep q (ginv (co q (q.length - 1))) out) i = 0 := by
    intro i hi
    rw [co_mstep, if_neg (by omega)]
    by_cases he : i = out.length - 1
    · subst he
      rw [show out.length - 1 - (out.length - q.length) = q.length - 1 by omega, gm_assoc, gm_comm (ginv _), gm_ginv hlast, gm_one, UInt8.xor_self]
    · rw [co_ge (p := out) (i := i) (by omega), co_ge (p := q) (i := i - (out.length - q.length)) (by omega), gm_zero]; rfl
  have h1 : tl (mstep q (ginv (co q (q.length - 1))) out) ≤ out.length - 1 := by
    by_cases h : tl (mstep q (ginv (co q (q.length - 1))) out) ≤ out.length - 1
    · exact h
    · exact absurd (hz _ (by omega)) (tl_ne _ (by omega))
  have h2 : (mstep q (ginv (co q (q.length - 1))) out).length = tl (mstep q (ginv (co q (q.length - 1))) out) := (tl_trim _).symm
  omega
theorem ev_mstep (q : Bytes) (top : UInt8) (out : Bytes) {x : UInt8} (hx : ev q x = 0) : ev (mstep q top out) x = ev out x := by
  unfold mstep
  rw [ev_trim, ev_padd, ev_trim, ev_psh, ev_trim, ev_psc, hx, gm_zero, gm_zero, UInt8.xor_zero]
/-- Dividing on, as long as it goes. -/
def modL (q : Bytes) (top : UInt8) : Nat → Bytes → Bytes
  | 0, out => out
  | f + 1, out => if q.length ≤ out.length then modL q top f (mstep q top out) else out
def topOf (q : Bytes) : UInt8 := ginv (co q (q.length - 1))
def pmod (p q : Bytes) : Bytes := modL (trim q) (topOf (trim q)) (trim p).length (trim p)
theorem modL_stay {q : Bytes} (hq : 0 < q.length) (hlast : co q (q.length - 1) ≠ 0) : ∀ (n : Nat) (out : Bytes), out.length ≤ n → ∀ f, out.length ≤ f → modL q (topOf q) f out = modL q (topOf q) n out
  | 0, out, h, f, _ => by
    cases f with
    | zero => rfl
    | succ f => exact if_neg (show ¬ q.length ≤ out.length by omega)
  | n + 1, out, h, f, hf => by
    cases f with
    | zero => rw [modL, modL, if_neg (by omega)]
    | succ f =>
      rw [modL, modL]
      split
      · rename_i hle
        have := mstep_less hq hlast hle
        have this' : (mstep q (topOf q) out).length < out.length := this
        exact modL_stay hq hlast n _ (by omega) f (by omega)
      · rfl
theorem modL_len {q : Bytes} (hq : 0 < q.length) (hlast : co q (q.length - 1) ≠ 0) : ∀ (n : Nat) (out : Bytes), out.length ≤ n → (modL q (topOf q) n out).length < q.length
  | 0, out, h => by rw [modL]; omega
  | n + 1, out, h => by
    rw [modL]
    split
    · rename_i hle
      have this' : (mstep q (topOf q) out).length < out.length := mstep_less hq hlast hle
      exact modL_len hq hlast n _ (by omega)
    · omega
theorem ev_modL (q : Bytes) (top x : UInt8) (hx : ev q x = 0) : ∀ (n : Nat) (out : Bytes), ev (modL q top n out) x = ev out x
  | 0, _ => rfl
  | n + 1, out => by
    rw [modL]
    split
    · rw [ev_modL q top x hx n, ev_mstep q top out hx]
    · rfl
theorem pmod_len {p q : Bytes} (hq : 0 < tl q) : (pmod p q).length < tl q := by
  have h := modL_len (q := trim q) (by rw [trim_len]; exact hq) (by rw [co_trim, trim_len]; exact tl_ne q hq) _ (trim p) (Nat.le_refl _)
  rw [trim_len] at h
  unfold pmod
  rw [trim_len] at h ⊢
  exact h
theorem ev_pmod {p q : Bytes} {x : UInt8} (hx : ev q x = 0) : ev (pmod p q) x = ev p x := by
  unfold pmod
  rw [ev_modL _ _ _ (by rw [ev_trim]; exact hx), ev_trim]
theorem mod_eq (h : PAt H s p) (h2 : PAt H s2 q) (hl : p.length < 100000) (hl2 : q.length < 100000) (hq : 0 < tl q) : ∃ t G, gf_Poly_Mod s s2 H = some ((t, ()), G) ∧ PAt G t (pmod p q) ∧ Keep (fun _ => False) H G := by
  have hlen := h.len
  obtain ⟨t1, G1, e1, e2, e3⟩ := trim_eq h2 (by omega)
  have hq1 := trim_len q
  have ht1 := e2.len
  rw [hq1] at ht1
  have hlast : co (trim q) ((trim q).length - 1) ≠ 0 := by rw [co_trim, hq1]; exact tl_ne q hq
  obtain ⟨t4, G4, f1, f2, f3, _⟩ := app_none (G := G1) (q := p) (by omega)
  have hrow := ((h.keep e3).keep (Keep.push (fun _ => False) G1 (.cells [] .exact))).row.row
  obtain ⟨t5, G5, c1, c2, c3⟩ := trim_eq f2 (by omega)
  have k5 := (e3.trans f3).trans c3
  have q5 := e2.keep (f3.trans c3)
  obtain ⟨b, o, a1, a2, _⟩ := e2.byte (i := tl q - 1) (by omega)
  obtain ⟨b', o', a1', a2', _⟩ := q5.byte (i := tl q - 1) (by omega)
  have hb : (b, o) = (b', o') := Option.some.inj (a1.symm.trans a1')
  obtain ⟨rfl, rfl⟩ := Prod.mk.inj hb
  have hw : IntKind.wrap .i64 ((t1.len : Int) - 1) = ((tl q - 1 : Nat) : Int) := by
    have := tl_le q
    rw [wrap_i64 (by omega) (by omega)]; omega
  have hd0 : decide ((t1.len : Int) = 0) = false := decide_eq_false (by omega)
  have htlq := tl_le q
  obtain ⟨y, G, l1, t, rfl, r1, r2⟩ := loopW_run (step := gf_Poly_Mod.s1 ((t1, ()), G1) (un (ginv (co (trim q) ((trim q).length - 1))), ())) (fun y G => ∃ out, PAt G y.1 out ∧ Keep (fun _ => False) G5 G ∧ out.length ≤ p.length ∧ modL (trim q) (topOf (trim q)) out.length out = pmod p q) (fun y G => ∃ t, y = (t, ()) ∧ PAt G t (pmod p q) ∧ Keep (fun _ => False) G5 G) (fun y _ => y.1.len)
    (by
      rintro ⟨y, u⟩ G ⟨out, o1, o2, o3, o4⟩
      have ol := o1.len
      simp only at o1 ol
      unfold gf_Poly_Mod.s1
      by_cases hle : tl q ≤ out.length
      · have hd : decide ((t1.len : Int) ≤ (y.len : Int)) = true := decide_eq_true (by omega)
        obtain ⟨bb, oo, d1, d2, _⟩ := o1.byte (i := out.length - 1) (by omega)
        have hw2 : IntKind.wrap .i64 ((y.len : Int) - 1) = ((out.length - 1 : Nat) : Int) := by rw [wrap_i64 (by omega) (by omega)]; omega
        have hw3 : IntKind.wrap .i64 ((y.len : Int) - (t1.len : Int)) = ((out.length - (trim q).length : Nat) : Int) := by rw [wrap_i64 (by omega) (by omega)]; omega
        obtain ⟨t6, G6, i1, i2, i3⟩ := times_eq (q5.keep o2) (by omega) (gm (co out (out.length - 1)) (ginv (co (trim q) ((trim q).length - 1))))
        have hpl : (trim (psc (gm (co out (out.length - 1)) (ginv (co (trim q) ((trim q).length - 1)))) (trim q))).length ≤ (trim q).length := by
          rw [trim_len]
          refine Nat.le_trans (tl_le _) ?_
          unfold psc
          rw [pl_len]; exact Nat.le_refl _
        obtain ⟨t7, G7, j1, j2, j3⟩ := shift_eq i2 (n := out.length - (trim q).length) (by omega)
        have hpl2 : (trim (psh (out.length - (trim q).length) (trim (psc (gm (co out (out.length - 1)) (ginv (co (trim q) ((trim q).length - 1)))) (trim q))))).length ≤ out.length := by
          rw [trim_len]
          refine Nat.le_trans (tl_le _) ?_
          unfold psh
          rw [pl_len]; omega
        obtain ⟨t8, G8, k1, k2, k3⟩ := add_eq (o1.keep (i3.trans j3)) j2 (by omega) (by omega)
        have hres : mstep (trim q) (ginv (co (trim q) ((trim q).length - 1))) out = trim (padd out (trim (psh (out.length - (trim q).length) (trim (psc (gm (co out (out.length - 1)) (ginv (co (trim q) ((trim q).length - 1)))) (trim q)))))) := rfl
        rw [← hres] at k2
        have hless := mstep_less (q := trim q) (out := out) (by omega) hlast (by omega)
        have hk2 := k2.len
        simp only [hd, cond_t, hw2, d1, bind_some, d2, gf_Mul_eq, i1, hw3, j1, k1, Round]
        refine ⟨⟨_, k2, ((o2.trans i3).trans j3).trans k3, by omega, ?_⟩, by omega⟩
        rw [← o4]
        obtain ⟨m, hm⟩ : ∃ m, out.length = m + 1 := ⟨out.length - 1, by omega⟩
        rw [hm, modL, if_pos (by omega)]
        exact (modL_stay (q := trim q) (by omega) hlast _ _ (Nat.le_refl _) m (by
          have : (mstep (trim q) (topOf (trim q)) out).length < out.length := hless
          omega)).symm
      · have hd : decide ((t1.len : Int) ≤ (y.len : Int)) = false := decide_eq_false (by omega)
        simp only [hd, cond_f, Round]
        refine ⟨y, rfl, ?_, o2⟩
        rw [← o4]
        cases hol : out.length with
        | zero => exact o1
        | succ m => rw [modL, if_neg (by omega)]; exact o1) (t5, ()) G5 ⟨trim p, c2, Keep.refl _ _, by rw [trim_len]; exact tl_le p, rfl⟩
  refine ⟨t, G, ?_, r1, k5.trans r2⟩
  unfold gf_Poly_Mod
  have hinv := gf_Inv_eq (co (trim q) ((trim q).length - 1))
  have ha : co (trim q) ((trim q).length - 1) = co (trim q) (tl q - 1) := by rw [hq1]
  rw [← ha] at a2'
  simp only [e1, bind_some, hrow, hlen, f1, c1, hd0, cond_f, hw, a1, a2', hinv, l1]
end
end Ev
namespace Ev
open Go (IntKind)

theorem sumL {α β γ : Type} (f : α → γ) (g : β → γ) (x : α) : Sum.elim f g (.inl x) = f x := rfl
theorem sumR {α β γ : Type} (f : α → γ) (g : β → γ) (x : β) : Sum.elim f g (.inr x) = g x := rfl
def ckB (a b : Int) : Bool := decide (1 ≤ b ∧ b ≤ 32 ∧ b < a ∧ a ≤ 255)
theorem check_eq (a b : Int) : rs_Check a b = some (ckB a b, ()) := by
  unfold rs_Check rs_Check.on ckB
  by_cases h1 : 1 ≤ b
  · by_cases h2 : b ≤ 32
    · by_cases h3 : b < a
      · by_cases h4 : a ≤ 255
        · simp [h1, h2, h3, h4]
        · simp [h1, h2, h3, h4]
      · simp [h1, h2, h3]
    · simp [h1, h2]
  · simp [h1]
/-- The last byte first. -/
def rv (s : Bytes) : Bytes := pl s.length fun k => co s (s.length - 1 - k)
theorem rv_len (s : Bytes) : (rv s).length = s.length := pl_len _ _
theorem co_rv (s : Bytes) (k : Nat) : co (rv s) k = if k < s.length then co s (s.length - 1 - k) else 0 := co_pl _ _ _
def LAt (H : Heap) (c n : Nat) (f : Nat → UInt8) : Prop := H[c]? = some (.cells (arrC n fun k => [.int .u8 (un (f k))]) .loose)
theorem LAt.get {H : Heap} {c n : Nat} {f : Nat → UInt8} (h : LAt H c n f) {i : Nat} (hi : i < n) : rdI .u8 H c i = some (un (f i)) := by
  have := arrC_get (f := fun k => [C.int .u8 (un (f k))]) (es := 1) (fun _ => rfl) (j := 0) (by decide) hi
  rw [Nat.mul_one, Nat.add_zero] at this
  exact rdI_of h this
theorem LAt.set {H : Heap} {c n : Nat} {f : Nat → UInt8} (h : LAt H c n f) {i : Nat} (hi : i < n) (x : UInt8) : ∃ G, wr H c i [.int .u8 (un x)] = some G ∧ LAt G c n (fun k => if k = i then x else f k) ∧ Keep (fun j => j = c) H G := by
  have hl := arrC_length (f := fun k => [C.int .u8 (un (f k))]) (es := 1) (fun _ => rfl) n
  have hs := arrC_set (f := fun k => [C.int .u8 (un (f k))]) (es := 1) (fun _ => rfl) (j := 0) (by decide) (.int .u8 (un x)) hi
  rw [Nat.mul_one, Nat.add_zero] at hs
  refine ⟨_, wr1_of h (by decide) (by omega), ?_, Keep.set _ _ _ rfl⟩
  unfold LAt
  rw [set_get (get_lt h), hs]
  congr 2
  refine arrC_congr fun k _ => ?_
  by_cases hk : k = i
  · subst hk; simp
  · simp [hk]
theorem LAt.congr {H : Heap} {c n : Nat} {f g : Nat → UInt8} (h : LAt H c n f) (hfg : ∀ k, k < n → f k = g k) : LAt H c n g := by
  unfold LAt at h ⊢
  rw [h]
  congr 2
  exact arrC_congr fun k hk => by rw [hfg k hk]
theorem LAt.poly {H : Heap} {c n : Nat} {f : Nat → UInt8} (h : LAt H c n f) : PAt H ⟨some (c, 0), n, n⟩ (pl n f) := by
  refine ⟨⟨?_, fun hh => by cases hh⟩, Nat.le_refl _⟩
  unfold slRow
  have h' : H[c]? = some (.cells (arrC n fun k => [.int .u8 (un (f k))]) .loose) := h
  simp only [Heap.row, h']
  rw [cells_pl]
  have := arrC_length (f := fun k => [C.int .u8 (un (f k))]) (es := 1) (fun _ => rfl) n
  exact cut_all this.symm
theorem turned_eq (s : Bytes) (H : Heap) (hl : s.length < 1000000) : ∃ G, rs_turned s H = some ((⟨some (H.length, 0), s.length, s.length⟩, ()), G) ∧ PAt G ⟨some (H.length, 0), s.length, s.length⟩ (rv s) ∧ Keep (fun _ => False) H G := by
  generalize hn : s.length = n at hl
  have l0 : LAt (H ++ [.cells (cellsOf s) .loose]) H.length n (co s) := by
    unfold LAt
    rw [app_last, ← cells_pl, ← hn, pl_co]
  obtain ⟨u, G, l1, g1, g2⟩ := loop_rise (step := slices_Reverse_gf_Poly_byte.s1 ⟨some (H.length, 0), n, n⟩) (n / 2) (fun i y G => y = ((i : Int), (n : Int) - 1 - (i : Int), ()) ∧ LAt G H.length n (fun k => if k < i ∨ n - i ≤ k then co s (n - 1 - k) else co s k) ∧ Keep (fun j => j = H.length) H G)
    (fun _ G => LAt G H.length n (fun k => co s (n - 1 - k)) ∧ Keep (fun j => j = H.length) H G)
    (by
      rintro i _ G hi ⟨rfl, f1, f2⟩
      refine .inl ?_
      have hj : (n : Int) - 1 - (i : Int) = ((n - 1 - i : Nat) : Int) := by omega
      have r1 := f1.get (i := n - 1 - i) (by omega)
      have r2 := f1.get (i := i) (by omega)
      rw [if_neg (by omega)] at r1 r2
      obtain ⟨G2, a1, a2, a3⟩ := f1.set (i := i) (by omega) (co s (n - 1 - i))
      obtain ⟨G3, b1, b2, b3⟩ := a2.set (i := n - 1 - i) (by omega) (co s i)
      have hw1 := wrap_succ (show i < 9223372036854775807 by omega)
      have hw2 : IntKind.wrap .i64 (((n - 1 - i : Nat) : Int) - 1) = (n : Int) - 1 - ((i + 1 : Nat) : Int) := by rw [wrap_i64 (by omega) (by omega)]; omega
      refine ⟨(((i + 1 : Nat) : Int), (n : Int) - 1 - ((i + 1 : Nat) : Int), ()), G3, ?_, rfl, b2.congr fun k hk => ?_, (f2.trans a3).trans b3⟩
      · unfold slices_Reverse_gf_Poly_byte.s1
        rw [hj]
        have at1 : Sl.at 1 ⟨some (H.length, 0), n, n⟩ (i : Int) = some (H.length, i) := BAt.at (by omega)
        have at2 : Sl.at 1 ⟨some (H.length, 0), n, n⟩ ((n - 1 - i : Nat) : Int) = some (H.length, n - 1 - i) := BAt.at (by omega)
        simp only [decide_eq_true (show (i : Int) < ((n - 1 - i : Nat) : Int) by omega), cond_t, at2, bind_some, r1, at1, r2, a1, b1, hw1, hw2]
      · by_cases e1 : k = n - 1 - i
        · rw [if_pos e1, if_pos (by omega)]; congr 1; omega
        · rw [if_neg e1]
          by_cases e2 : k = i
          · rw [if_pos e2, if_pos (by omega), e2]
          · rw [if_neg e2]
            by_cases e3 : k < i ∨ n - i ≤ k
            · rw [if_pos e3, if_pos (by omega)]
            · rw [if_neg e3, if_neg (by omega)])
    (by
      rintro _ G ⟨rfl, f1, f2⟩
      refine ⟨(), G, ?_, f1.congr fun k hk => ?_, f2⟩
      · unfold slices_Reverse_gf_Poly_byte.s1
        simp only [decide_eq_false (show ¬ ((n / 2 : Nat) : Int) < (n : Int) - 1 - ((n / 2 : Nat) : Int) by omega), cond_f]
      · by_cases e3 : k < n / 2 ∨ n - n / 2 ≤ k
        · rw [if_pos e3]
        · rw [if_neg e3]; congr 1; omega)
    (y := (((0 : Nat) : Int), (n : Int) - 1 - ((0 : Nat) : Int), ())) (H := H ++ [.cells (cellsOf s) .loose]) ⟨rfl, l0.congr fun k hk => by rw [if_neg (by omega)], Keep.push _ _ _⟩
  have hw : IntKind.wrap .i64 ((n : Int) - 1) = (n : Int) - 1 - ((0 : Nat) : Int) := by rw [wrap_i64 (by omega) (by omega)]; omega
  have l1' : loopW (slices_Reverse_gf_Poly_byte.s1 ⟨some (H.length, 0), n, n⟩) (0, (n : Int) - 1 - ((0 : Nat) : Int), ()) (H ++ [.cells (cellsOf s) .loose]) = some (u, G) := l1
  refine ⟨G, ?_, ?_, keep_one g2⟩
  · unfold rs_turned slices_Reverse_gf_Poly_byte
    simp only [hn, hw, l1', bind_some]
  · have := g1.poly
    unfold rv
    rw [hn]; exact this

/-- A word's number at a root. -/
def sg (s : Bytes) (i : Nat) : UInt8 := ev (rv s) (gp i)
theorem signs_eq (s : Bytes) (n : Nat) (H : Heap) (hl : s.length < 1000000) (hn : n < 1000) : ∃ t G, rs_Signs s (n : Int) H = some ((t, ()), G) ∧ PAt G t (pl n (sg s)) ∧ Keep (fun _ => False) H G := by
  obtain ⟨G0, e1, e2, e3⟩ := turned_eq s H hl
  have hsn : ∀ i, cellsOf (pl (i + 1) (sg s)) = cellsOf (pl i (sg s)) ++ [.int .u8 (un (sg s i))] := fun i => by rw [cells_pl, cells_pl, arrC]
  have hmx : (if 0 > (n : Int) then 0 else (n : Int)) = (n : Int) := if_neg (by omega)
  obtain ⟨u, G, l1, t, rfl, ht, g⟩ := loop_rise (step := rs_Signs.s1 (n : Int) ((⟨some (H.length, 0), s.length, s.length⟩, ()), G0)) n (fun i y G => ∃ t, y = (t, (i : Int), ()) ∧ t.len = i ∧ GrowN G0 G 1 t (cellsOf (pl i (sg s)))) (fun y G => ∃ t, y = (t, ()) ∧ t.len = n ∧ GrowN G0 G 1 t (cellsOf (pl n (sg s))))
    (by
      rintro i _ G hi ⟨t, rfl, ht, g⟩
      refine .inl ?_
      have hat := at_eq (e2.keep g.keep) (by rw [rv_len]; exact hl) (gp i)
      obtain ⟨t', G2, b1, b2, b3, b4, _⟩ := g.one (bytes := 1) (new := [.int .u8 (un (sg s i))]) (by decide) rfl (by omega) (by omega)
      rw [← hsn i] at b3
      refine ⟨(t', ((i + 1 : Nat) : Int), ()), G2, ?_, t', rfl, by omega, b3⟩
      unfold rs_Signs.s1
      rw [hmx]
      have hat' : gf_Poly_At ⟨some (H.length, 0), s.length, s.length⟩ (un (gp i)) G = some ((un (sg s i), ()), G) := hat
      simp only [decide_eq_true (show (i : Int) < (n : Int) by omega), cond_t, gf_Root_eq i (by omega), bind_some, hat', b1, b2, wrap_succ (show i < 9223372036854775807 by omega)])
    (by
      rintro _ G ⟨t, rfl, ht, g⟩
      refine ⟨(t, ()), G, ?_, t, rfl, ht, g⟩
      unfold rs_Signs.s1
      rw [hmx]
      simp only [decide_eq_false (show ¬ ((n : Nat) : Int) < (n : Int) by omega), cond_f])
    (y := (⟨none, 0, 0⟩, ((0 : Nat) : Int), ())) (H := G0) ⟨_, rfl, rfl, GrowN.ni (Keep.refl _ _) 1⟩
  have l1' : loopW (rs_Signs.s1 (n : Int) ((⟨some (H.length, 0), s.length, s.length⟩, ()), G0)) (⟨none, 0, 0⟩, 0, ()) G0 = some ((t, ()), G) := l1
  refine ⟨t, G, ?_, ⟨g.row, by rw [g.gr.cap]; exact Nat.le_refl _⟩, e3.trans g.keep⟩
  unfold rs_Signs
  simp only [e1, bind_some, l1']
/-- All its numbers are 0. -/
def rtB (s : Bytes) (n : Nat) : Bool := decide (∀ i, i < n → sg s i = 0)
theorem cont_eq {H : Heap} {t : Sl} {p : Bytes} (h : PAt H t p) (hl : p.length < 1000000) : slices_ContainsFunc_byte_byte_of_rs_Right_1 t () H = some ((!decide (∀ i, i < p.length → co p i = 0), ()), H) := by
  have hlen := h.len
  unfold slices_ContainsFunc_byte_byte_of_rs_Right_1 slices_IndexFunc_byte_byte_of_rs_Right_1
  obtain ⟨w, G, l1, rfl, l3⟩ := loop_rise (step := slices_IndexFunc_byte_byte_of_rs_Right_1.s1 t) p.length (fun i z G => G = H ∧ z = ((i : Int), ()) ∧ ∀ k, k < i → co p k = 0) (fun y G => G = H ∧ match y with | .inl _ => ∀ k, k < p.length → co p k = 0 | .inr z => 0 ≤ z.1 ∧ ∃ k, k < p.length ∧ co p k ≠ 0)
    (by
      rintro i _ G hi ⟨rfl, rfl, hh⟩
      obtain ⟨b, o, a1, a2, _⟩ := h.byte hi
      by_cases h0 : co p i = 0
      · refine .inl ⟨(((i + 1 : Nat) : Int), ()), G, ?_, rfl, rfl, fun k hk => ?_⟩
        · unfold slices_IndexFunc_byte_byte_of_rs_Right_1.s1
          have : rs_Right_1 (un (co p i)) = some (false, ()) := by
            unfold rs_Right_1 rs_Right_1.on
            rw [decide_eq_true ((un_zero _).2 h0)]; rfl
          simp only [decide_eq_true (show (i : Int) < (t.len : Int) by omega), cond_t, a1, bind_some, a2, this, cond_f, wrap_succ (show i < 9223372036854775807 by omega)]
        · by_cases e : k = i
          · rw [e]; exact h0
          · exact hh k (by omega)
      · refine .inr ⟨.inr ((i : Int), ()), G, ?_, rfl, by show (0 : Int) ≤ (i : Int); omega, i, hi, h0⟩
        unfold slices_IndexFunc_byte_byte_of_rs_Right_1.s1
        have : rs_Right_1 (un (co p i)) = some (true, ()) := by
          unfold rs_Right_1 rs_Right_1.on
          rw [decide_eq_false fun hh => h0 ((un_zero _).1 hh)]; rfl
        simp only [decide_eq_true (show (i : Int) < (t.len : Int) by omega), cond_t, a1, bind_some, a2, this])
    (by
      rintro _ G ⟨rfl, rfl, hh⟩
      refine ⟨.inl (), G, ?_, rfl, hh⟩
      unfold slices_IndexFunc_byte_byte_of_rs_Right_1.s1
      simp only [decide_eq_false (show ¬ ((p.length : Nat) : Int) < (t.len : Int) by omega), cond_f])
    (y := (((0 : Nat) : Int), ())) (H := H) ⟨rfl, rfl, fun k hk => absurd hk (Nat.not_lt_zero _)⟩
  have l1' : loopW (slices_IndexFunc_byte_byte_of_rs_Right_1.s1 t) (0, ()) G = some (w, G) := l1
  cases w with
  | inl u =>
    have l3 : ∀ k, k < p.length → co p k = 0 := l3
    simp only [l1', bind_some, sumL]
    rw [decide_eq_true l3]; rfl
  | inr z =>
    obtain ⟨h0, k, hk, hne⟩ : 0 ≤ z.1 ∧ ∃ k, k < p.length ∧ co p k ≠ 0 := l3
    simp only [l1', bind_some, sumR, decide_eq_true h0]
    rw [decide_eq_false fun hh => hne (hh k hk)]; rfl
theorem right_eq (s : Bytes) (n : Nat) (hl : s.length < 1000000) (hn : n < 1000) : rs_Right s (n : Int) = some (ckB s.length n && rtB s n, ()) := by
  unfold rs_Right rs_Right.on
  rw [check_eq]
  obtain ⟨t, G, e1, e2, e3⟩ := signs_eq s n [] hl hn
  have hc := cont_eq e2 (by rw [pl_len]; omega)
  have : decide (∀ i, i < (pl n (sg s)).length → co (pl n (sg s)) i = 0) = rtB s n := by
    unfold rtB
    rw [pl_len]
    congr 1
    refine propext ⟨fun h i hi => ?_, fun h i hi => ?_⟩
    · have := h i hi
      rwa [co_pl, if_pos hi] at this
    · rw [co_pl, if_pos hi]; exact h i hi
  rw [this] at hc
  cases hck : ckB s.length n with
  | false => simp only [bind_some, cond_f, Bool.false_and]
  | true => simp only [bind_some, cond_t, e1, hc, Bool.not_not, Bool.true_and]
end Ev
namespace Ev
open Go (IntKind)

def dvF : Nat → Bytes
  | 0 => [1]
  | i + 1 => trim (pmul (dvF i) [gp i, 1])
theorem tl_le_len {p : Bytes} : (trim p).length ≤ p.length := by rw [trim_len]; exact tl_le p
theorem dvF_len : ∀ n, (dvF n).length ≤ 1 + 2 * n
  | 0 => Nat.le_refl 1
  | n + 1 => by
    have ih := dvF_len n
    have : (dvF (n + 1)).length ≤ (dvF n).length + 2 := by
      refine Nat.le_trans tl_le_len ?_
      unfold pmul
      rw [pl_len]; exact Nat.le_refl _
    omega
theorem two_at {H : Heap} (a b : UInt8) : PAt (H ++ [.cells [.int .u8 (un a), .int .u8 (un b)] .exact]) ⟨some (H.length, 0), 2, 2⟩ [a, b] := ⟨⟨row_last rfl, fun h => by cases h⟩, Nat.le_refl _⟩
theorem one_at {H : Heap} (a : UInt8) : PAt (H ++ [.cells [.int .u8 (un a)] .exact]) ⟨some (H.length, 0), 1, 1⟩ [a] := ⟨⟨row_last rfl, fun h => by cases h⟩, Nat.le_refl _⟩
theorem divisor_eq (n : Nat) (hn : n < 1000) (H : Heap) : ∃ t G, rs_divisor (n : Int) H = some ((t, ()), G) ∧ PAt G t (dvF n) ∧ Keep (fun _ => False) H G := by
  obtain ⟨u, G, l1, t, rfl, e1, e2⟩ := loop_rise (step := rs_divisor.s1 (n : Int)) n (fun i y G => ∃ t, y = (t, (i : Int), ()) ∧ PAt G t (dvF i) ∧ Keep (fun _ => False) H G) (fun y G => ∃ t, y = (t, ()) ∧ PAt G t (dvF n) ∧ Keep (fun _ => False) H G)
    (by
      rintro i _ G hi ⟨t, rfl, e1, e2⟩
      refine .inl ?_
      have k1 : Keep (fun _ => False) G (G ++ [.cells [.int .u8 (un (gp i)), .int .u8 (un 1)] .exact]) := Keep.push _ _ _
      have hd := dvF_len i
      obtain ⟨t', G2, f1, f2, f3⟩ := mul_eq (e1.keep k1) (two_at (gp i) 1) (by show (dvF i).length + 2 < _; omega)
      have f1' : gf_Poly_Mul t ⟨some (G.length, 0), 2, 2⟩ (G ++ [Blk.cells [.int .u8 (un (gp i)), .int .u8 1] .exact]) = some ((t', ()), G2) := f1
      refine ⟨(t', ((i + 1 : Nat) : Int), ()), G2, ?_, t', rfl, f2, (e2.trans k1).trans f3⟩
      unfold rs_divisor.s1
      simp only [decide_eq_true (show (i : Int) < (n : Int) by omega), cond_t, gf_Root_eq i (by omega), bind_some, f1', wrap_succ (show i < 9223372036854775807 by omega)])
    (by
      rintro _ G ⟨t, rfl, e1, e2⟩
      refine ⟨(t, ()), G, ?_, t, rfl, e1, e2⟩
      unfold rs_divisor.s1
      simp only [decide_eq_false (show ¬ ((n : Nat) : Int) < (n : Int) by omega), cond_f])
    (y := (⟨some (H.length, 0), 1, 1⟩, ((0 : Nat) : Int), ())) (H := H ++ [.cells [.int .u8 (un 1)] .exact]) ⟨_, rfl, one_at 1, Keep.push _ _ _⟩
  have l1' : loopW (rs_divisor.s1 (n : Int)) (⟨some (H.length, 0), 1, 1⟩, 0, ()) (H ++ [Blk.cells [.int .u8 1] .exact]) = some ((t, ()), G) := l1
  refine ⟨t, G, ?_, e1, e2⟩
  unfold rs_divisor
  simp only [l1', bind_some]
/-- What is left by dividing. -/
def remF (s : Bytes) (n : Nat) : Bytes := pmod (trim (psh n (rv s))) (dvF n)
/-- The bytes that check. -/
def tailF (s : Bytes) (n : Nat) : Bytes := pl n fun k => co (remF s n) (n - 1 - k)
def encF (s : Bytes) (n : Nat) : Bytes := s ++ tailF s n
theorem encode_eq (s : Bytes) (n : Nat) (hl : s.length < 1000) (hn : n < 1000) (hck : ckB ((s.length + n : Nat) : Int) n = true) (hd : 0 < tl (dvF n)) (hd2 : (remF s n).length ≤ n) : rs_Encode s (n : Int) = some (encF s n, 0, ()) := by
  unfold rs_Encode rs_Encode.on
  have hw : IntKind.wrap .i64 ((s.length : Int) + (n : Int)) = ((s.length + n : Nat) : Int) := by rw [wrap_i64 (by omega) (by omega)]; omega
  rw [hw, check_eq, hck]
  obtain ⟨G0, a1, a2, a3⟩ := turned_eq s [] (by omega)
  obtain ⟨t3, G3, b1, b2, b3⟩ := shift_eq a2 (n := n) (by rw [rv_len]; omega)
  obtain ⟨t4, G4, c1, c2, c3⟩ := divisor_eq n hn G3
  have hdl := dvF_len n
  have hsl : (trim (psh n (rv s))).length ≤ n + s.length := by
    refine Nat.le_trans tl_le_len ?_
    unfold psh
    rw [pl_len, rv_len]; exact Nat.le_refl _
  obtain ⟨t5, G5, d1, d2, d3⟩ := mod_eq (b2.keep c3) c2 (by omega) (by omega) hd
  have d2 : PAt G5 t5 (remF s n) := d2
  have dl := d2.len
  let H1 : Heap := G5 ++ [.cells (arrC n fun _ => [.int .u8 (un 0)]) .exact]
  have mk : mkS G5 1 [.int .u8 0] (n : Int) (n : Int) = some (⟨some (G5.length, 0), n, n⟩, H1) := mk_bytes (by omega)
  have b0 : BAt H1 G5.length n (fun _ => 0) := app_last
  obtain ⟨u, G, l1, g1, g2⟩ := loop_rise (step := rs_Encode.s1 (n : Int) ((t5, ()), G5) (⟨some (G5.length, 0), n, n⟩, H1)) (remF s n).length (fun i y G => y = ((i : Int), ()) ∧ BAt G G5.length n (fun k => if n - i ≤ k then co (remF s n) (n - 1 - k) else 0) ∧ Keep (fun j => j = G5.length) G5 G) (fun _ G => BAt G G5.length n (fun k => co (remF s n) (n - 1 - k)) ∧ Keep (fun j => j = G5.length) G5 G)
    (by
      rintro i _ G hi ⟨rfl, f1, f2⟩
      refine .inl ?_
      obtain ⟨b, o, e1, e2, _⟩ := (d2.keep (keep_one f2)).byte hi
      have hix : IntKind.wrap .i64 ((IntKind.wrap .i64 ((n : Int) - 1)) - (i : Int)) = ((n - 1 - i : Nat) : Int) := by
        rw [wrap_i64 (n := (n : Int) - 1) (by omega) (by omega), wrap_i64 (by omega) (by omega)]; omega
      obtain ⟨G2, m1, m2, m3⟩ := f1.set (i := n - 1 - i) (by omega) (co (remF s n) i)
      refine ⟨_, G2, ?_, rfl, m2.congr fun k hk => ?_, f2.trans m3⟩
      · unfold rs_Encode.s1
        simp only [decide_eq_true (show (i : Int) < (t5.len : Int) by omega), cond_t, e1, bind_some, e2, hix, BAt.at (show n - 1 - i < n by omega), m1, wrap_succ (show i < 9223372036854775807 by omega)]
      · by_cases h1 : k = n - 1 - i
        · rw [if_pos h1, if_pos (by omega)]; congr 1; omega
        · rw [if_neg h1]
          by_cases h2 : n - i ≤ k
          · rw [if_pos h2, if_pos (by omega)]
          · rw [if_neg h2, if_neg (by omega)])
    (by
      rintro _ G ⟨rfl, f1, f2⟩
      refine ⟨(), G, ?_, f1.congr fun k hk => ?_, f2⟩
      · unfold rs_Encode.s1
        simp only [decide_eq_false (show ¬ (((remF s n).length : Nat) : Int) < (t5.len : Int) by omega), cond_f]
      · by_cases h2 : n - (remF s n).length ≤ k
        · rw [if_pos h2]
        · rw [if_neg h2, co_ge (by omega)])
    (y := (((0 : Nat) : Int), ())) (H := H1) ⟨rfl, b0.congr fun k hk => by rw [if_neg (by omega)], Keep.push _ _ _⟩
  have l1' : loopW (rs_Encode.s1 (n : Int) ((t5, ()), G5) (⟨some (G5.length, 0), n, n⟩, H1)) (0, ()) H1 = some (u, G) := l1
  have hstr : strOf G ⟨some (G5.length, 0), n, n⟩ = some (tailF s n) := by
    unfold strOf
    rw [g1.poly.row.row]
    exact bytes_of_cells _
  have hcat : catS s (tailF s n) = some (encF s n) := cat_of (by unfold tailF; rw [pl_len]; omega)
  simp only [bind_some, Bool.not_true, cond_f, a1, b1, c1, d1, mk, l1', hstr, hcat]
theorem encode_no (s : Bytes) (n : Nat) (hl : s.length < 1000) (hn : n < 1000) (hck : ckB ((s.length + n : Nat) : Int) n = false) : rs_Encode s (n : Int) = some ([], 1, ()) := by
  unfold rs_Encode rs_Encode.on
  have hw : IntKind.wrap .i64 ((s.length : Int) + (n : Int)) = ((s.length + n : Nat) : Int) := by rw [wrap_i64 (by omega) (by omega)]; omega
  rw [hw, check_eq, hck]
  simp only [bind_some, Bool.not_false, cond_t]
end Ev
namespace Ev
open Go (IntKind)

theorem intC_set (l : List Int) (i : Nat) (x : Int) : (intC l).set i (.int .i64 x) = intC (l.set i x) := by simp [intC, List.map_set]
theorem intC_len (l : List Int) : (intC l).length = l.length := by simp [intC]
theorem intsOf_map : ∀ l : List Int, intsOf (intC l) = some l
  | [] => rfl
  | x :: r => by
    show (intsOf (intC r)).bind _ = _
    rw [intsOf_map r]; rfl
theorem GrowN.int_len {H0 G : Heap} {s : Sl} {l : List Int} (g : GrowN H0 G 1 s (intC l)) : s.len = l.length := by
  have := g.gr.len
  rw [intC_len] at this; omega
theorem setL_whole : ∀ (D C : List C), D.length = C.length → setL C 0 D = D := by
  intro D C h
  rw [setL_front D C (by omega), List.drop_eq_nil_of_le (by omega), List.append_nil]
def sortI (l : List Int) : List Int := l.mergeSort fun x y => decide (x ≤ y)
theorem sort_eq {H0 G : Heap} {s : Sl} {l : List Int} (g : GrowN H0 G 1 s (intC l)) (hl : l.length < 1000000) : ∃ G', slices_Sort_int_int s G = some ((), G') ∧ GrowN H0 G' 1 s (intC (sortI l)) := by
  have hs := g.int_len
  have hsl : (sortI l).length = l.length := List.length_mergeSort l
  unfold slices_Sort_int_int
  by_cases h0 : l.length = 0
  · have : l = [] := List.eq_nil_of_length_eq_zero h0
    subst this
    refine ⟨G, by rw [decide_eq_true (show s.len = 0 from hs), cond_t], ?_⟩
    have : sortI [] = [] := List.eq_nil_of_length_eq_zero hsl
    rw [this]; exact g
  · rw [decide_eq_false (show ¬ s.len = 0 by omega), cond_f]
    obtain ⟨p, len, cap⟩ := s
    cases p with
    | none => exact absurd (g.gr.nil rfl) (by show ¬ len = 0; have : len = l.length := hs; omega)
    | some a =>
      obtain ⟨c, o⟩ := a
      obtain ⟨ho, hb⟩ := g.gr.blk _ rfl
      have ho' : o = 0 := ho
      subst ho'
      have hrow := g.gr.row
      have hn := g.new (c, 0) rfl
      have hn' : H0.length ≤ c := hn
      have hlen : len = l.length := hs
      simp only [bind_some, hrow, intsOf_map, decide_eq_true (show l.length < 4611686018427387904 by omega), cond_t]
      have hk : ∀ bk, Keep (fun _ => False) H0 (G.set c (.cells (intC (sortI l)) bk)) := fun bk => by
        have h1 := g.keep.len
        refine ⟨by simp; omega, fun j hj _ => ?_⟩
        rw [set_get' (by omega), g.keep.same j hj id]
      rcases hb with hb | hb
      · have hb' : G[c]? = some (.cells (intC l) .loose) := hb
        refine ⟨G.set c (.cells (intC (sortI l)) .loose), ?_, ⟨g.gr.cap, by rw [intC_len, hsl]; show _ = len * 1; omega, g.gr.nil, fun a ha => by cases ha; exact ⟨rfl, .inl (set_get (get_lt hb'))⟩⟩, hk _, g.new⟩
        rw [wr_of hb' (by decide) (by rw [List.length_map, intC_len]; have : (l.mergeSort fun x y => decide (x ≤ y)).length = l.length := hsl; omega), bind_some, setL_whole _ _ (by rw [List.length_map, intC_len]; exact hsl)]
        rfl
      · have hb' : G[c]? = some (.cells (intC l) .exact) := hb
        refine ⟨G.set c (.cells (intC (sortI l)) .exact), ?_, ⟨g.gr.cap, by rw [intC_len, hsl]; show _ = len * 1; omega, g.gr.nil, fun a ha => by cases ha; exact ⟨rfl, .inr (set_get (get_lt hb'))⟩⟩, hk _, g.new⟩
        rw [wr_of hb' (by decide) (by rw [List.length_map, intC_len]; have : (l.mergeSort fun x y => decide (x ≤ y)).length = l.length := hsl; omega), bind_some, setL_whole _ _ (by rw [List.length_map, intC_len]; exact hsl)]
        rfl

/-- Runs of equal ones become one: what the first i come to. -/
def cmpN (l : List Int) : Nat → List Int
  | 0 => []
  | i + 1 => if 0 < i ∧ l.getD i 0 = l.getD (i - 1) 0 then cmpN l i else cmpN l i ++ [l.getD i 0]
theorem cmpN_len (l : List Int) : ∀ i, (cmpN l i).length ≤ i
  | 0 => Nat.le_refl 0
  | i + 1 => by
    have := cmpN_len l i
    rw [cmpN]
    split
    · omega
    · rw [List.length_append, List.length_singleton]; omega
theorem cmpN_pos (l : List Int) : ∀ i, 0 < i → 0 < (cmpN l i).length
  | 0, h => absurd h (by decide)
  | i + 1, _ => by
    rw [cmpN]
    split
    · rename_i h; exact cmpN_pos l i h.1
    · rw [List.length_append, List.length_singleton]; omega
theorem getD_lt {l : List Int} {i : Nat} (h : i < l.length) : l.getD i 0 = l[i] := by simp [List.getD, h]
theorem cmpN_all {l : List Int} : ∀ (i : Nat), (∀ k, 0 < k → k < i → l.getD k 0 ≠ l.getD (k - 1) 0) → i ≤ l.length → cmpN l i = l.take i
  | 0, _, _ => by simp [cmpN]
  | i + 1, h, hi => by
    rw [cmpN, if_neg (fun hh => h i hh.1 (by omega) hh.2), cmpN_all i (fun k h1 h2 => h k h1 (by omega)) (by omega), List.take_succ_eq_append_getElem (by omega), getD_lt (by omega)]
theorem setL_take : ∀ (D cs : List C) (o n : Nat), n ≤ o → (setL cs o D).take n = cs.take n
  | [], _, _, _, _ => rfl
  | x :: D, cs, o, n, h => by
    rw [setL, setL_take D _ _ _ (by omega), List.take_set_of_le h]
theorem setL_len : ∀ (D cs : List C) (o : Nat), (setL cs o D).length = cs.length
  | [], _, _ => rfl
  | x :: D, cs, o => by rw [setL, setL_len D, List.length_set]
theorem compact_eq {H0 G : Heap} {s : Sl} {l : List Int} (g : GrowN H0 G 1 s (intC l)) (hl : l.length < 1000000) : ∃ t G', slices_Compact_int_int s G = some ((t, ()), G') ∧ Row G' 1 t (intC (cmpN l l.length)) ∧ Keep (fun _ => False) H0 G' := by
  have hs := g.int_len
  unfold slices_Compact_int_int
  by_cases h2 : l.length < 2
  · refine ⟨s, G, by rw [decide_eq_true (show (s.len : Int) < 2 by omega), cond_t], ?_, g.keep⟩
    rw [cmpN_all l.length (fun k h1 h3 => by omega) (Nat.le_refl _), List.take_length]
    exact g.row
  · rw [decide_eq_false (show ¬ (s.len : Int) < 2 by omega), cond_f]
    obtain ⟨w, G1, l1, lw⟩ := loop_rise (step := slices_Compact_int_int.s2 s) (l.length - 1) (fun i y R => y = (((i + 1 : Nat) : Int), ()) ∧ R = G ∧ ∀ k, 0 < k → k < i + 1 → l.getD k 0 ≠ l.getD (k - 1) 0)
      (fun w R => ∃ t, (w = .inl () ∧ t = s ∨ w = .inr (t, ())) ∧ Row R 1 t (intC (cmpN l l.length)) ∧ Keep (fun _ => False) H0 R)
      (by
        rintro i _ G' hi ⟨rfl, hG', hne⟩
        rw [hG']
        obtain ⟨b, o, _, a1, a2⟩ := g.row.int (i := i + 1) (by omega)
        obtain ⟨b', o', _, c1, c2⟩ := g.row.int (i := i) (by omega)
        have hwp : IntKind.wrap .i64 (((i + 1 : Nat) : Int) - 1) = (i : Int) := by rw [wrap_i64 (by omega) (by omega)]; omega
        have hlt : decide (((i + 1 : Nat) : Int) < (s.len : Int)) = true := decide_eq_true (by omega)
        by_cases he : l[i + 1] = l[i]
        · right
          obtain ⟨p, len, cap⟩ := s
          have hcap : cap = len := g.gr.cap
          have hlen : len = l.length := hs
          subst hcap
          subst hlen
          cases p with
          | none => exact absurd (g.gr.nil rfl) (by show ¬ l.length = 0; omega)
          | some a =>
            obtain ⟨c, oo⟩ := a
            have hoo : oo = 0 := (g.gr.blk _ rfl).1
            subst hoo
            have hsub : Sl.sub 1 ⟨some (c, 0), l.length, l.length⟩ ((i + 1 : Nat) : Int) (l.length : Int) (l.length : Int) = some ⟨some (c, i + 1), l.length - (i + 1), l.length - (i + 1)⟩ := by
              unfold Sl.sub
              rw [decide_eq_true (show 0 ≤ ((i + 1 : Nat) : Int) ∧ ((i + 1 : Nat) : Int) ≤ (l.length : Int) ∧ (l.length : Int) ≤ (l.length : Int) ∧ (l.length : Int) ≤ (((⟨some (c, 0), l.length, l.length⟩ : Sl).cap : Nat) : Int) from by show 0 ≤ ((i + 1 : Nat) : Int) ∧ ((i + 1 : Nat) : Int) ≤ (l.length : Int) ∧ (l.length : Int) ≤ (l.length : Int) ∧ (l.length : Int) ≤ (l.length : Int); omega), cond_t]
              simp
            obtain ⟨kk, R, m1, L2, m2, m3, m4, m5⟩ := loop_rise (step := slices_Compact_int_int.s1 ⟨some (c, 0), l.length, l.length⟩ ⟨some (c, i + 1), l.length - (i + 1), l.length - (i + 1)⟩) (l.length - (i + 2))
              (fun j y R => ∃ L2, y = (((cmpN l (i + 2 + j)).length : Int), ((j + 1 : Nat) : Int), ()) ∧ GrowN H0 R 1 ⟨some (c, 0), l.length, l.length⟩ (intC L2) ∧ L2.length = l.length ∧ (cmpN l (i + 2 + j)).length + 1 ≤ i + 2 + j ∧ L2.take (cmpN l (i + 2 + j)).length = cmpN l (i + 2 + j) ∧ ∀ m, i + 1 + j ≤ m → L2.getD m 0 = l.getD m 0)
              (fun y R => ∃ L2, y = (((cmpN l l.length).length : Int), ()) ∧ GrowN H0 R 1 ⟨some (c, 0), l.length, l.length⟩ (intC L2) ∧ L2.length = l.length ∧ (cmpN l l.length).length + 1 ≤ l.length ∧ L2.take (cmpN l l.length).length = cmpN l l.length)
              (by
                rintro j _ R hj ⟨L2, rfl, q1, q2, q3, q4, q5⟩
                left
                have rdx : ∀ m, m < l.length → rdI .i64 R c m = some (L2.getD m 0) := fun m hm => by
                  obtain ⟨b2, o2, p2, p3, p4⟩ := q1.row.int (i := m) (by omega)
                  have hp : (some (c, 0) : Option (Nat × Nat)) = some (b2, o2) := p2
                  cases hp
                  rw [Nat.zero_add] at p4
                  rw [p4, getD_lt (by omega)]
                have at7 : ∀ m : Nat, m < l.length - (i + 1) → Sl.at 1 ⟨some (c, i + 1), l.length - (i + 1), l.length - (i + 1)⟩ (m : Int) = some (c, i + 1 + m) := fun m hm => by
                  rw [at_of (by omega) (by show (m : Int) < ((l.length - (i + 1) : Nat) : Int); omega), Int.toNat_natCast, Nat.mul_one]
                have r1 := rdx (i + 1 + (j + 1)) (by omega)
                have r2 := rdx (i + 1 + j) (by omega)
                rw [q5 _ (by omega)] at r1 r2
                have hwp2 : IntKind.wrap .i64 (((j + 1 : Nat) : Int) - 1) = (j : Int) := by rw [wrap_i64 (by omega) (by omega)]; omega
                have hcm : cmpN l (i + 2 + (j + 1)) = if l.getD (i + 1 + (j + 1)) 0 = l.getD (i + 1 + j) 0 then cmpN l (i + 2 + j) else cmpN l (i + 2 + j) ++ [l.getD (i + 1 + (j + 1)) 0] := by
                  rw [show i + 2 + (j + 1) = (i + 2 + j) + 1 by omega, cmpN, show i + 1 + (j + 1) = i + 2 + j by omega, show i + 2 + j - 1 = i + 1 + j by omega]
                  by_cases hh : l.getD (i + 2 + j) 0 = l.getD (i + 1 + j) 0
                  · rw [if_pos ⟨by omega, hh⟩, if_pos hh]
                  · rw [if_neg (fun x => hh x.2), if_neg hh]
                have hlt2 : decide (((j + 1 : Nat) : Int) < ((l.length - (i + 1) : Nat) : Int)) = true := decide_eq_true (by omega)
                have hs1 := wrap_succ (show j + 1 < 9223372036854775807 by omega)
                by_cases hh : l.getD (i + 1 + (j + 1)) 0 = l.getD (i + 1 + j) 0
                · rw [if_pos hh] at hcm
                  refine ⟨_, R, ?_, L2, rfl, q1, q2, by rw [hcm]; omega, by rw [hcm]; exact q4, fun m hm => q5 m (by omega)⟩
                  unfold slices_Compact_int_int.s1
                  rw [hcm]
                  simp only [hlt2, cond_t, at7 (j + 1) (by omega), bind_some, r1, hwp2, at7 j (by omega), r2, decide_eq_true hh, Bool.not_true, cond_f, hs1]
                · rw [if_neg hh] at hcm
                  have hkl : (cmpN l (i + 2 + j)).length < L2.length := by omega
                  obtain ⟨c2, R2, s1, s2, s3, s4⟩ := GrowN.set q1 (i := (cmpN l (i + 2 + j)).length) (by rw [intC_len]; exact hkl) (.int .i64 (l.getD (i + 1 + (j + 1)) 0))
                  have hcc : (some (c, 0) : Option (Nat × Nat)) = some (c2, 0) := s1
                  cases hcc
                  rw [intC_set] at s4
                  have hs2 := wrap_succ (show (cmpN l (i + 2 + j)).length < 9223372036854775807 by omega)
                  refine ⟨_, R2, ?_, L2.set (cmpN l (i + 2 + j)).length (l.getD (i + 1 + (j + 1)) 0), rfl, s4, by rw [List.length_set]; exact q2, by rw [hcm, List.length_append, List.length_singleton]; omega, ?_, fun m hm => ?_⟩
                  · unfold slices_Compact_int_int.s1
                    rw [hcm, List.length_append, List.length_singleton]
                    simp only [hlt2, cond_t, at7 (j + 1) (by omega), bind_some, r1, hwp2, at7 j (by omega), r2, decide_eq_false hh, Bool.not_false, s2, s3, hs1, hs2]
                  · rw [hcm, List.length_append, List.length_singleton, List.take_succ_eq_append_getElem (by rw [List.length_set]; exact hkl), List.take_set_of_le (Nat.le_refl _), q4, List.getElem_set_self]
                  · rw [← q5 m (by omega)]
                    simp only [List.getD_eq_getElem?_getD]
                    rw [List.getElem?_set_ne (by omega)])
              (by
                rintro _ R ⟨L2, rfl, q1, q2, q3, q4, q5⟩
                rw [show i + 2 + (l.length - (i + 2)) = l.length by omega] at q3 q4 ⊢
                refine ⟨(((cmpN l l.length).length : Int), ()), R, ?_, L2, rfl, q1, q2, q3, q4⟩
                unfold slices_Compact_int_int.s1
                simp only [decide_eq_false (show ¬ ((l.length - (i + 2) + 1 : Nat) : Int) < ((l.length - (i + 1) : Nat) : Int) by omega), cond_f])
              (y := (((cmpN l (i + 2 + 0)).length : Int), ((0 + 1 : Nat) : Int), ())) (H := G) (by
                have hc1 : cmpN l (i + 2) = cmpN l (i + 1) := by
                  rw [cmpN, if_pos ⟨by omega, by rw [Nat.add_sub_cancel, getD_lt (by omega), getD_lt (by omega)]; exact he⟩]
                have hc2 : cmpN l (i + 1) = l.take (i + 1) := cmpN_all (i + 1) hne (by omega)
                refine ⟨l, rfl, g, rfl, ?_, ?_, fun _ _ => rfl⟩
                · rw [Nat.add_zero, hc1, hc2, List.length_take]; omega
                · rw [Nat.add_zero, hc1, hc2, List.length_take, Nat.min_eq_left (by omega)])
            subst m2
            have hk1 : (cmpN l (i + 2 + 0)).length = i + 1 := by
              have hc1 : cmpN l (i + 2) = cmpN l (i + 1) := by
                rw [cmpN, if_pos ⟨by omega, by rw [Nat.add_sub_cancel, getD_lt (by omega), getD_lt (by omega)]; exact he⟩]
              have hc2 : cmpN l (i + 1) = l.take (i + 1) := cmpN_all (i + 1) hne (by omega)
              rw [Nat.add_zero, hc1, hc2, List.length_take]; omega
            rw [hk1] at m1
            have m1' : loopW (slices_Compact_int_int.s1 ⟨some (c, 0), l.length, l.length⟩ ⟨some (c, i + 1), l.length - (i + 1), l.length - (i + 1)⟩) (((i + 1 : Nat) : Int), 1, ()) G = some ((((cmpN l l.length).length : Int), ()), R) := m1
            generalize hK : cmpN l l.length = K at m1' m5
            obtain ⟨m5a, m5b⟩ := m5
            have hsub2 : Sl.sub 1 ⟨some (c, 0), l.length, l.length⟩ (K.length : Int) (l.length : Int) (l.length : Int) = some ⟨some (c, K.length), l.length - K.length, l.length - K.length⟩ := by
              unfold Sl.sub
              rw [decide_eq_true (show 0 ≤ (K.length : Int) ∧ (K.length : Int) ≤ (l.length : Int) ∧ (l.length : Int) ≤ (l.length : Int) ∧ (l.length : Int) ≤ (((⟨some (c, 0), l.length, l.length⟩ : Sl).cap : Nat) : Int) from by show 0 ≤ (K.length : Int) ∧ (K.length : Int) ≤ (l.length : Int) ∧ (l.length : Int) ≤ (l.length : Int) ∧ (l.length : Int) ≤ (l.length : Int); omega), cond_t]
              simp
            have hsub3 : Sl.sub 1 ⟨some (c, 0), l.length, l.length⟩ 0 (K.length : Int) (l.length : Int) = some ⟨some (c, 0), K.length, l.length⟩ := by
              unfold Sl.sub
              rw [decide_eq_true (show 0 ≤ (0 : Int) ∧ (0 : Int) ≤ (K.length : Int) ∧ (K.length : Int) ≤ (l.length : Int) ∧ (l.length : Int) ≤ (((⟨some (c, 0), l.length, l.length⟩ : Sl).cap : Nat) : Int) from by show 0 ≤ (0 : Int) ∧ (0 : Int) ≤ (K.length : Int) ∧ (K.length : Int) ≤ (l.length : Int) ∧ (l.length : Int) ≤ (l.length : Int); omega), cond_t]
              simp
            have hrl : (rep (l.length - K.length) [C.int .i64 0]).length = l.length - K.length := by
              unfold rep
              simp
            obtain ⟨_, hb⟩ := m3.gr.blk _ rfl
            have hclr : ∃ R', clrS R [.int .i64 0] ⟨some (c, K.length), l.length - K.length, l.length - K.length⟩ = some R' ∧ Row R' 1 ⟨some (c, 0), K.length, l.length⟩ (intC K) ∧ Keep (fun j => j = c) R R' := by
              have hrow : ∀ bk, R[c]? = some (.cells (intC L2) bk) → Row (R.set c (.cells (setL (intC L2) K.length (rep (l.length - K.length) [C.int .i64 0])) bk)) 1 ⟨some (c, 0), K.length, l.length⟩ (intC K) := by
                intro bk hbk
                refine ⟨?_, fun h => by cases h⟩
                unfold slRow
                simp only [Heap.row, set_get (get_lt hbk)]
                rw [cut_of (by rw [setL_len, intC_len]; omega), List.drop_zero, Nat.mul_one, setL_take _ _ _ _ (Nat.le_refl _)]
                congr 1
                unfold intC
                rw [← List.map_take, m5b]
              unfold clrS
              rw [decide_eq_false (show ¬ (⟨some (c, K.length), l.length - K.length, l.length - K.length⟩ : Sl).len = 0 by show ¬ l.length - K.length = 0; omega), cond_f]
              rcases hb with hb | hb
              · have hb' : R[c]? = some (.cells (intC L2) .loose) := hb
                exact ⟨_, wr_of hb' (by decide) (by rw [hrl, intC_len]; omega), hrow _ hb', Keep.set _ _ _ rfl⟩
              · have hb' : R[c]? = some (.cells (intC L2) .exact) := hb
                exact ⟨_, wr_of hb' (by decide) (by rw [hrl, intC_len]; omega), hrow _ hb', Keep.set _ _ _ rfl⟩
            obtain ⟨R', n1, n2, n3⟩ := hclr
            have hcn : H0.length ≤ c := g.new (c, 0) rfl
            refine ⟨.inr (⟨some (c, 0), K.length, l.length⟩, ()), R', ?_, _, .inr rfl, n2, ((m3.keep.mono (G := fun j => j = c) fun _ h => h.elim).trans n3).new fun j hj hlt => by
              have : j = c := hj
              omega⟩
            unfold slices_Compact_int_int.s2
            have a1' := a1
            simp only [hlt, cond_t, a1, bind_some, a2, hwp, c1, c2, decide_eq_true he, hsub, m1', hsub2, n1, hsub3]
        · left
          refine ⟨(((i + 1 + 1 : Nat) : Int), ()), G, ?_, rfl, rfl, fun k h1 h3 => ?_⟩
          · unfold slices_Compact_int_int.s2
            simp only [hlt, cond_t, a1, bind_some, a2, hwp, c1, c2, decide_eq_false he, cond_f, wrap_succ (show i + 1 < 9223372036854775807 by omega)]
          · by_cases e : k = i + 1
            · subst e
              rw [Nat.add_sub_cancel, getD_lt (by omega), getD_lt (by omega)]; exact he
            · exact hne k h1 (by omega))
      (by
        rintro _ G' ⟨rfl, hG', hne⟩
        rw [hG']
        refine ⟨.inl (), G, ?_, s, .inl ⟨rfl, rfl⟩, ?_, g.keep⟩
        · unfold slices_Compact_int_int.s2
          simp only [decide_eq_false (show ¬ ((l.length - 1 + 1 : Nat) : Int) < (s.len : Int) by omega), cond_f]
        · rw [cmpN_all l.length (fun k h1 h3 => hne k h1 (by omega)) (Nat.le_refl _), List.take_length]
          exact g.row)
      (y := (((0 + 1 : Nat) : Int), ())) (H := G) ⟨rfl, rfl, fun k h1 h3 => by omega⟩
    have l1' : loopW (slices_Compact_int_int.s2 s) (1, ()) G = some (w, G1) := l1
    obtain ⟨t, ht, m1, m2⟩ := lw
    refine ⟨t, G1, ?_, m1, m2⟩
    rcases ht with ⟨rfl, rfl⟩ | rfl
    · simp only [l1', bind_some, sumL]
    · simp only [l1', bind_some, sumR]
end Ev
namespace Ev
open Go (IntKind)

def badL (l : List Int) (long : Nat) : Prop := ∃ v ∈ l, v < 0 ∨ (long : Int) ≤ v
def lostM (l : List Int) (long : Nat) : List Int := l.map fun v => (long : Int) - 1 - v
def lostK (l : List Int) (long : Nat) : List Int := cmpN (sortI (lostM l long)) (lostM l long).length
theorem intC_snoc (l : List Int) (x : Int) : intC (l ++ [x]) = intC l ++ [.int .i64 x] := by simp [intC]
theorem lostOf_eq {H : Heap} {s : Sl} {l : List Int} (h : Row H 1 s (intC l)) (hl : l.length < 100000) {long : Nat} (hlo : long < 100000) (par : Int) : ∃ t ok G, rs_lostOf s (long : Int) par H = some ((t, ok, ()), G) ∧ Keep (fun _ => False) H G ∧ (badL l long → ok = false) ∧ (¬ badL l long → ok = decide (((lostK l long).length : Int) ≤ par) ∧ Row G 1 t (intC (lostK l long))) := by
  have hs := h.int_len
  unfold rs_lostOf
  obtain ⟨w, G, l1, lw⟩ := loop_rise (step := rs_lostOf.s1 s (long : Int)) l.length (fun i y G => ∃ t, y = (t, (i : Int), ()) ∧ t.len = i ∧ GrowN H G 1 t (intC (lostM (l.take i) long)) ∧ ∀ v ∈ l.take i, ¬ (v < 0 ∨ (long : Int) ≤ v))
    (fun w G => (∃ t, w = .inl (t, ()) ∧ GrowN H G 1 t (intC (lostM l long)) ∧ ¬ badL l long) ∨ (w = .inr (⟨none, 0, 0⟩, false, ()) ∧ Keep (fun _ => False) H G ∧ badL l long))
    (by
      rintro i _ G hi ⟨t, rfl, ht, g, hv⟩
      obtain ⟨b, o, _, a1, a2⟩ := (h.keep g.keep fun _ _ _ => id).int hi
      have hlen : decide ((i : Int) < (s.len : Int)) = true := decide_eq_true (by omega)
      by_cases c1 : l[i] < 0
      · right
        refine ⟨.inr (⟨none, 0, 0⟩, false, ()), G, ?_, .inr ⟨rfl, g.keep, l[i], List.getElem_mem hi, .inl c1⟩⟩
        unfold rs_lostOf.s1
        simp only [hlen, cond_t, a1, bind_some, a2, decide_eq_true c1]
      · by_cases c2 : (long : Int) ≤ l[i]
        · right
          refine ⟨.inr (⟨none, 0, 0⟩, false, ()), G, ?_, .inr ⟨rfl, g.keep, l[i], List.getElem_mem hi, .inr c2⟩⟩
          unfold rs_lostOf.s1
          simp only [hlen, cond_t, a1, bind_some, a2, decide_eq_false c1, cond_f, decide_eq_true c2]
        · left
          have hw : IntKind.wrap .i64 ((IntKind.wrap .i64 ((long : Int) - 1)) - l[i]) = (long : Int) - 1 - l[i] := by
            rw [wrap_i64 (n := (long : Int) - 1) (by omega) (by omega), wrap_i64 (by omega) (by omega)]
          obtain ⟨t', G2, b1, b2, b3, b4, _⟩ := g.one (bytes := 8) (new := [.int .i64 ((long : Int) - 1 - l[i])]) (by decide) rfl (by omega) (by omega)
          have htk : lostM (l.take (i + 1)) long = lostM (l.take i) long ++ [(long : Int) - 1 - l[i]] := by
            unfold lostM; rw [List.take_succ_eq_append_getElem hi, List.map_append]; rfl
          refine ⟨(t', ((i + 1 : Nat) : Int), ()), G2, ?_, t', rfl, by omega, ?_, fun v hv' => ?_⟩
          · unfold rs_lostOf.s1
            simp only [hlen, cond_t, a1, bind_some, a2, decide_eq_false c1, cond_f, decide_eq_false c2, hw, b1, b2, wrap_succ (show i < 9223372036854775807 by omega)]
          · rw [htk, intC_snoc]; exact b3
          · rw [List.take_succ_eq_append_getElem hi] at hv'
            rcases List.mem_append.1 hv' with hv' | hv'
            · exact hv v hv'
            · rw [List.mem_singleton] at hv'
              rw [hv']; omega)
    (by
      rintro _ G ⟨t, rfl, ht, g, hv⟩
      rw [List.take_length] at g hv
      refine ⟨.inl (t, ()), G, ?_, .inl ⟨t, rfl, g, fun ⟨v, h1, h2⟩ => hv v h1 h2⟩⟩
      unfold rs_lostOf.s1
      simp only [decide_eq_false (show ¬ ((l.length : Nat) : Int) < (s.len : Int) by omega), cond_f])
    (y := (⟨none, 0, 0⟩, ((0 : Nat) : Int), ())) (H := H) ⟨_, rfl, rfl, GrowN.ni (Keep.refl _ _) 1, fun v hv => by simp at hv⟩
  have l1' : loopW (rs_lostOf.s1 s (long : Int)) (⟨none, 0, 0⟩, 0, ()) H = some (w, G) := l1
  rcases lw with ⟨t, rfl, g, hb⟩ | ⟨rfl, k, hb⟩
  · have hml : (lostM l long).length = l.length := by simp [lostM]
    obtain ⟨G2, s1, s2⟩ := sort_eq g (by omega)
    have hsl : (sortI (lostM l long)).length = (lostM l long).length := List.length_mergeSort _
    obtain ⟨t', G3, c1, c2, c3⟩ := compact_eq s2 (by omega)
    rw [hsl] at c2
    refine ⟨t', decide ((t'.len : Int) ≤ par), G3, ?_, c3, fun x => absurd x hb, fun _ => ⟨?_, c2⟩⟩
    · simp only [l1', bind_some, sumL, s1, c1]
    · have hkl := c2.int_len
      rw [hkl]; rfl
  · refine ⟨⟨none, 0, 0⟩, false, G, ?_, k, fun _ => rfl, fun x => absurd hb x⟩
    simp only [l1', bind_some, sumR]

/-- The polynomial whose roots are one over those places. -/
def plF (K : List Int) : Bytes := K.foldl (fun p e => trim (pmul p [1, gp e.toNat])) [1]
theorem foldl_len (K : List Int) : ∀ p : Bytes, (K.foldl (fun p e => trim (pmul p [1, gp e.toNat])) p).length ≤ p.length + 2 * K.length := by
  induction K with
  | nil => intro p; simp
  | cons e K ih =>
    intro p
    rw [List.foldl_cons]
    refine Nat.le_trans (ih _) ?_
    have : (trim (pmul p [1, gp e.toNat])).length ≤ p.length + 2 := by
      refine Nat.le_trans tl_le_len ?_
      unfold pmul
      rw [pl_len]; exact Nat.le_refl _
    rw [List.length_cons]; omega
theorem plF_len (K : List Int) : (plF K).length ≤ 1 + 2 * K.length := foldl_len K [1]
theorem places_eq {H : Heap} {s : Sl} {K : List Int} (h : Row H 1 s (intC K)) (hl : K.length < 10000) (hk : ∀ e ∈ K, 0 ≤ e ∧ e < 255) : ∃ t G, rs_places s H = some ((t, ()), G) ∧ PAt G t (plF K) ∧ Keep (fun _ => False) H G := by
  have hs := h.int_len
  obtain ⟨u, G, l1, t, rfl, e1, e2⟩ := loop_rise (step := rs_places.s1 s) K.length (fun i y G => ∃ t, y = (t, (i : Int), ()) ∧ PAt G t (plF (K.take i)) ∧ Keep (fun _ => False) H G) (fun y G => ∃ t, y = (t, ()) ∧ PAt G t (plF K) ∧ Keep (fun _ => False) H G)
    (by
      rintro i _ G hi ⟨t, rfl, e1, e2⟩
      refine .inl ?_
      obtain ⟨b, o, _, a1, a2⟩ := (h.keep e2 fun _ _ _ => id).int hi
      obtain ⟨h0, h1⟩ := hk _ (List.getElem_mem hi)
      have hr : gf_Root K[i] = some (un (gp K[i].toNat), ()) := by
        have := gf_Root_eq K[i].toNat (by omega)
        rwa [Int.toNat_of_nonneg h0] at this
      have k1 : Keep (fun _ => False) G (G ++ [.cells [.int .u8 (un 1), .int .u8 (un (gp K[i].toNat))] .exact]) := Keep.push _ _ _
      have hd := plF_len (K.take i)
      rw [List.length_take] at hd
      obtain ⟨t', G2, f1, f2, f3⟩ := mul_eq (e1.keep k1) (two_at 1 (gp K[i].toNat)) (by show (plF (K.take i)).length + 2 < _; omega)
      have f1' : gf_Poly_Mul t ⟨some (G.length, 0), 2, 2⟩ (G ++ [Blk.cells [.int .u8 1, .int .u8 (un (gp K[i].toNat))] .exact]) = some ((t', ()), G2) := f1
      have hstep : plF (K.take (i + 1)) = trim (pmul (plF (K.take i)) [1, gp K[i].toNat]) := by
        unfold plF
        rw [List.take_succ_eq_append_getElem hi, List.foldl_append]; rfl
      refine ⟨(t', ((i + 1 : Nat) : Int), ()), G2, ?_, t', rfl, by rw [hstep]; exact f2, (e2.trans k1).trans f3⟩
      unfold rs_places.s1
      simp only [decide_eq_true (show (i : Int) < (s.len : Int) by omega), cond_t, a1, bind_some, a2, hr, f1', wrap_succ (show i < 9223372036854775807 by omega)])
    (by
      rintro _ G ⟨t, rfl, e1, e2⟩
      rw [List.take_length] at e1
      refine ⟨(t, ()), G, ?_, t, rfl, e1, e2⟩
      unfold rs_places.s1
      simp only [decide_eq_false (show ¬ ((K.length : Nat) : Int) < (s.len : Int) by omega), cond_f])
    (y := (⟨some (H.length, 0), 1, 1⟩, ((0 : Nat) : Int), ())) (H := H ++ [.cells [.int .u8 (un 1)] .exact]) ⟨_, rfl, one_at 1, Keep.push _ _ _⟩
  have l1' : loopW (rs_places.s1 s) (⟨some (H.length, 0), 1, 1⟩, 0, ()) (H ++ [Blk.cells [.int .u8 1] .exact]) = some ((t, ()), G) := l1
  refine ⟨t, G, ?_, e1, e2⟩
  unfold rs_places
  simp only [l1', bind_some]
/-- The places at which it is nought. -/
def roF (p : Bytes) (long : Nat) : List Int := ((List.range long).filter fun n => ev p (gp (255 - n)) == 0).map Int.ofNat
theorem roF_succ (p : Bytes) (n : Nat) : roF p (n + 1) = roF p n ++ (if ev p (gp (255 - n)) = 0 then [(n : Int)] else []) := by
  unfold roF
  rw [List.range_succ, List.filter_append, List.map_append]
  congr 1
  by_cases h : ev p (gp (255 - n)) = 0
  · simp [h]
  · simp [h]
theorem roF_len (p : Bytes) : ∀ n, (roF p n).length ≤ n
  | 0 => Nat.le_refl 0
  | n + 1 => by
    have := roF_len p n
    rw [roF_succ, List.length_append]
    split
    · rw [List.length_singleton]; omega
    · rw [List.length_nil]; omega
theorem roots_eq {H : Heap} {s : Sl} {p : Bytes} (h : PAt H s p) (hl : p.length < 100000) {long : Nat} (hlo : long ≤ 255) : ∃ t G, rs_roots s (long : Int) H = some ((t, ()), G) ∧ GrowN H G 1 t (intC (roF p long)) := by
  obtain ⟨u, G, l1, t, rfl, g⟩ := loop_rise (step := rs_roots.s1 s (long : Int)) long (fun i y G => ∃ t, y = (t, (i : Int), ()) ∧ GrowN H G 1 t (intC (roF p i))) (fun y G => ∃ t, y = (t, ()) ∧ GrowN H G 1 t (intC (roF p long)))
    (by
      rintro i _ G hi ⟨t, rfl, g⟩
      refine .inl ?_
      have hw : IntKind.wrap .i64 (0 - (i : Int)) = -(i : Int) := by rw [wrap_i64 (by omega) (by omega)]; omega
      have hr := gf_Root_neg i (by omega)
      have hat := at_eq (h.keep g.keep) (by omega) (gp (255 - i))
      have hlt : decide ((i : Int) < (long : Int)) = true := decide_eq_true (by omega)
      have hs := wrap_succ (show i < 9223372036854775807 by omega)
      by_cases h0 : ev p (gp (255 - i)) = 0
      · have htl := g.int_len
        have hrl := roF_len p i
        obtain ⟨t', G2, b1, b2, b3, b4, _⟩ := g.one (bytes := 8) (new := [.int .i64 (i : Int)]) (by decide) rfl (by omega) (by omega)
        refine ⟨(t', ((i + 1 : Nat) : Int), ()), G2, ?_, t', rfl, by rw [roF_succ, if_pos h0, intC_snoc]; exact b3⟩
        unfold rs_roots.s1
        simp only [hlt, cond_t, hw, hr, bind_some, hat, decide_eq_true ((un_zero _).2 h0), b1, b2, hs]
      · refine ⟨(t, ((i + 1 : Nat) : Int), ()), G, ?_, t, rfl, by rw [roF_succ, if_neg h0, List.append_nil]; exact g⟩
        unfold rs_roots.s1
        simp only [hlt, cond_t, hw, hr, bind_some, hat, decide_eq_false fun hh => h0 ((un_zero _).1 hh), cond_f, hs])
    (by
      rintro _ G ⟨t, rfl, g⟩
      refine ⟨(t, ()), G, ?_, t, rfl, g⟩
      unfold rs_roots.s1
      simp only [decide_eq_false (show ¬ ((long : Nat) : Int) < (long : Int) by omega), cond_f])
    (y := (⟨none, 0, 0⟩, ((0 : Nat) : Int), ())) (H := H) ⟨_, rfl, GrowN.ni (Keep.refl _ _) 1⟩
  have l1' : loopW (rs_roots.s1 s (long : Int)) (⟨none, 0, 0⟩, 0, ()) H = some ((t, ()), G) := l1
  refine ⟨t, G, ?_, g⟩
  unfold rs_roots
  simp only [l1', bind_some]

/-! Solving. -/
/-- What is added, of a multiple of b. -/
def sstep (x b v y : Bytes) : Bytes := trim (padd y (trim (psh (tl x - tl b) (trim (psc (gm (co x (tl x - 1)) (ginv (co b (tl b - 1)))) v)))))
def divL (b v : Bytes) : Nat → Bytes → Bytes → Bytes × Bytes
  | 0, x, y => (x, y)
  | f + 1, x, y => if tl b ≤ tl x then divL b v f (sstep x b b x) (sstep x b v y) else (x, y)
def solL (m : Nat) : Nat → Bytes → Bytes → Bytes → Bytes → Bytes × Bytes
  | 0, _, b, _, v => (b, v)
  | f + 1, a, b, u, v => if (m : Int) ≤ 2 * ((tl b : Int) - 1) then solL m f b (divL b v (tl a) a u).1 v (divL b v (tl a) a u).2 else (b, v)
theorem co_sstep (x b v y : Bytes) (i : Nat) : co (sstep x b v y) i = co y i ^^^ (if i < tl x - tl b then 0 else gm (gm (co x (tl x - 1)) (ginv (co b (tl b - 1)))) (co v (i - (tl x - tl b)))) := by
  unfold sstep
  rw [co_trim, co_padd, co_trim, co_psh]
  split
  · rfl
  · rw [co_trim, co_psc]
theorem sstep_less {x b : Bytes} (hb : 0 < tl b) (hle : tl b ≤ tl x) : tl (sstep x b b x) < tl x := by
  have hz : ∀ i, tl x - 1 ≤ i → co (sstep x b b x) i = 0 := by
    intro i hi
    rw [co_sstep, if_neg (by omega)]
    by_cases he : i = tl x - 1
    · subst he
      rw [show tl x - 1 - (tl x - tl b) = tl b - 1 by omega, gm_assoc, gm_comm (ginv _), gm_ginv (tl_ne b hb), gm_one, UInt8.xor_self]
    · rw [tl_zero x i (by omega), tl_zero b (i - (tl x - tl b)) (by omega), gm_zero]; rfl
  by_cases h : tl (sstep x b b x) ≤ tl x - 1
  · omega
  · exact absurd (hz _ (by omega)) (tl_ne _ (by omega))
theorem sstep_len (x b v y : Bytes) : (sstep x b v y).length ≤ max y.length (tl x - tl b + v.length) := by
  unfold sstep
  refine Nat.le_trans tl_le_len ?_
  unfold padd
  rw [pl_len]
  have h1 : (trim (psc (gm (co x (tl x - 1)) (ginv (co b (tl b - 1)))) v)).length ≤ v.length := by
    refine Nat.le_trans tl_le_len ?_
    unfold psc
    rw [pl_len]; exact Nat.le_refl _
  have h2 : (trim (psh (tl x - tl b) (trim (psc (gm (co x (tl x - 1)) (ginv (co b (tl b - 1)))) v)))).length ≤ tl x - tl b + v.length := by
    refine Nat.le_trans tl_le_len ?_
    unfold psh
    rw [pl_len]; omega
  omega
section
variable {H : Heap}
theorem div_iter {sa sb su sv : Sl} {b v : Bytes} {M : Nat} (hM : M < 1000) (hb : PAt H sb b) (hv : PAt H sv v) (h0 : 0 < tl b) (hbl : b.length < 1000) : ∀ (f : Nat) (sx sy : Sl) (x y : Bytes) (G : Heap), PAt G sx x → PAt G sy y → Keep (fun _ => False) H G → tl x ≤ f → x.length < 1000 → tl x + v.length ≤ M → y.length + tl b ≤ M →
    ∃ j tx ty G', iter (rs_solve.s1 (sa, sb, su, sv, ())) j (sx, sy, ()) G = some ((tx, ty, ()), G') ∧ PAt G' tx (divL b v f x y).1 ∧ PAt G' ty (divL b v f x y).2 ∧ Keep (fun _ => False) H G' := by
  intro f
  induction f with
  | zero =>
    intro sx sy x y G hx hy k hf hxl hxv hyl
    refine ⟨1, sx, sy, G, ?_, hx, hy, k⟩
    have d1 := degree_eq hx (by omega)
    have d2 := degree_eq (hb.keep k) (by omega)
    rw [iter]
    unfold rs_solve.s1
    simp only [d1, bind_some, d2, decide_eq_false (show ¬ (tl b : Int) - 1 ≤ (tl x : Int) - 1 by omega), cond_f]
    rfl
  | succ f ih =>
    intro sx sy x y G hx hy k hf hxl hxv hyl
    have d1 := degree_eq hx (by omega)
    have d2 := degree_eq (hb.keep k) (by omega)
    by_cases hle : tl b ≤ tl x
    · have htx := tl_le x
      have htb := tl_le b
      obtain ⟨bx, ox, a1, a2, _⟩ := hx.byte (i := tl x - 1) (by omega)
      obtain ⟨bb, ob, c1, c2, _⟩ := (hb.keep k).byte (i := tl b - 1) (by omega)
      have e1 : (tl x : Int) - 1 = ((tl x - 1 : Nat) : Int) := by omega
      have e2 : (tl b : Int) - 1 = ((tl b - 1 : Nat) : Int) := by omega
      have hw : IntKind.wrap .i64 (((tl x - 1 : Nat) : Int) - ((tl b - 1 : Nat) : Int)) = ((tl x - tl b : Nat) : Int) := by rw [wrap_i64 (by omega) (by omega)]; omega
      have hlen : ∀ w : Bytes, (trim (psc (gm (co x (tl x - 1)) (ginv (co b (tl b - 1)))) w)).length ≤ w.length := fun w => by
        refine Nat.le_trans tl_le_len ?_
        unfold psc
        rw [pl_len]; exact Nat.le_refl _
      have hlen2 : ∀ w : Bytes, (trim (psh (tl x - tl b) (trim (psc (gm (co x (tl x - 1)) (ginv (co b (tl b - 1)))) w)))).length ≤ tl x - tl b + w.length := fun w => by
        refine Nat.le_trans tl_le_len ?_
        unfold psh
        rw [pl_len]
        have := hlen w
        omega
      have hlb := hlen b
      have hlv := hlen v
      have hlb2 := hlen2 b
      have hlv2 := hlen2 v
      obtain ⟨t22, G22, m1, m2, m3⟩ := times_eq (hb.keep k) (by omega) (gm (co x (tl x - 1)) (ginv (co b (tl b - 1))))
      obtain ⟨t23, G23, n1, n2, n3⟩ := shift_eq m2 (n := tl x - tl b) (by omega)
      obtain ⟨t24, G24, p1, p2, p3⟩ := add_eq (hx.keep (m3.trans n3)) n2 (by omega) (by omega)
      have k24 := ((m3.trans n3).trans p3)
      obtain ⟨t25, G25, q1, q2, q3⟩ := times_eq (hv.keep (k.trans k24)) (by omega) (gm (co x (tl x - 1)) (ginv (co b (tl b - 1))))
      obtain ⟨t26, G26, r1, r2, r3⟩ := shift_eq q2 (n := tl x - tl b) (by omega)
      obtain ⟨t27, G27, s1, s2, s3⟩ := add_eq (hy.keep ((k24.trans q3).trans r3)) r2 (by omega) (by omega)
      have p2' : PAt G24 t24 (sstep x b b x) := p2
      have s2' : PAt G27 t27 (sstep x b v y) := s2
      have k27 := (q3.trans r3).trans s3
      have hless := sstep_less h0 hle
      have hxl2 : (sstep x b b x).length = tl (sstep x b b x) := (tl_trim _).symm
      have hyl2 := sstep_len x b v y
      obtain ⟨j, tx, ty, G', j1, j2, j3, j4⟩ := ih t24 t27 (sstep x b b x) (sstep x b v y) G27 (p2'.keep k27) s2' ((k.trans k24).trans k27) (by omega) (by omega) (by omega) (by omega)
      refine ⟨j + 1, tx, ty, G', ?_, ?_, ?_, j4⟩
      · rw [iter]
        have hstep : rs_solve.s1 (sa, sb, su, sv, ()) (sx, sy, ()) G = some (.inl (t24, t27, ()), G27) := by
          unfold rs_solve.s1
          simp only [d1, bind_some, d2, decide_eq_true (show (tl b : Int) - 1 ≤ (tl x : Int) - 1 by omega), cond_t]
          rw [e1, e2]
          simp only [a1, a2, bind_some, c1, c2, gf_Inv_eq, gf_Mul_eq, if_true, m1, hw, n1, p1, q1, r1, s1]
        rw [hstep]
        exact j1
      · rw [divL, if_pos hle]; exact j2
      · rw [divL, if_pos hle]; exact j3
    · refine ⟨1, sx, sy, G, ?_, by rw [divL, if_neg hle]; exact hx, by rw [divL, if_neg hle]; exact hy, k⟩
      rw [iter]
      unfold rs_solve.s1
      simp only [d1, bind_some, d2, decide_eq_false (show ¬ (tl b : Int) - 1 ≤ (tl x : Int) - 1 by omega), cond_f]
      rfl
theorem divL_ok {b v : Bytes} {M : Nat} (h0 : 0 < tl b) : ∀ (f : Nat) (x y : Bytes), tl x ≤ f → tl x + v.length ≤ M → y.length + tl b ≤ M → tl (divL b v f x y).1 < tl b ∧ tl (divL b v f x y).1 ≤ tl x ∧ (divL b v f x y).1.length ≤ x.length ∧ (divL b v f x y).2.length + tl b ≤ M
  | 0, x, y, h1, _, h3 => ⟨by show tl x < tl b; omega, Nat.le_refl _, Nat.le_refl _, h3⟩
  | f + 1, x, y, h1, h2, h3 => by
    by_cases hle : tl b ≤ tl x
    · rw [divL, if_pos hle]
      have hless := sstep_less h0 hle
      have hxl2 : (sstep x b b x).length = tl (sstep x b b x) := (tl_trim _).symm
      have hyl2 := sstep_len x b v y
      have htx := tl_le x
      obtain ⟨a1, a2, a3, a4⟩ := divL_ok (v := v) (M := M) h0 f (sstep x b b x) (sstep x b v y) (by omega) (by omega) (by omega)
      exact ⟨a1, by omega, by omega, a4⟩
    · rw [divL, if_neg hle]
      exact ⟨(by show tl x < tl b; omega), Nat.le_refl _, Nat.le_refl _, h3⟩
theorem sol_iter {m M : Nat} (hM : M < 1000) (hm : 1 ≤ m) (hm2 : m < 1000) (n l : Int) (hnl : n + l = (m : Int)) (hn : 0 ≤ n ∧ 0 ≤ l) : ∀ (f : Nat) (sa sb su sv : Sl) (a b u v : Bytes) (G : Heap), PAt G sa a → PAt G sb b → PAt G su u → PAt G sv v → Keep (fun _ => False) H G → tl b ≤ f → a.length < 1000 → b.length < 1000 → tl a + v.length ≤ M → u.length + tl b ≤ M →
    ∃ j tb tv G', iter (rs_solve.s2 n l) j (sa, sb, su, sv, ()) G = some ((tb, tv, ()), G') ∧ PAt G' tb (solL m f a b u v).1 ∧ PAt G' tv (solL m f a b u v).2 ∧ Keep (fun _ => False) H G' := by
  intro f
  induction f with
  | zero =>
    intro sa sb su sv a b u v G ha hb hu hv k hf _ hbl _ _
    refine ⟨1, sb, sv, G, ?_, hb, hv, k⟩
    have d2 := degree_eq hb (by omega)
    have hw1 : IntKind.wrap .i64 (n + l) = (m : Int) := by rw [wrap_i64 (by omega) (by omega)]; omega
    have hw2 : IntKind.wrap .i64 (2 * ((tl b : Int) - 1)) = 2 * ((tl b : Int) - 1) := wrap_i64 (by omega) (by omega)
    rw [iter]
    unfold rs_solve.s2
    simp only [d2, bind_some, hw1, hw2, decide_eq_false (show ¬ (m : Int) ≤ 2 * ((tl b : Int) - 1) by omega), cond_f]
    rfl
  | succ f ih =>
    intro sa sb su sv a b u v G ha hb hu hv k hf hal hbl hav hub
    have d2 := degree_eq hb (by omega)
    have htb := tl_le b
    have hw1 : IntKind.wrap .i64 (n + l) = (m : Int) := by rw [wrap_i64 (by omega) (by omega)]; omega
    have hw2 : IntKind.wrap .i64 (2 * ((tl b : Int) - 1)) = 2 * ((tl b : Int) - 1) := wrap_i64 (by omega) (by omega)
    by_cases hle : (m : Int) ≤ 2 * ((tl b : Int) - 1)
    · have h0 : 0 < tl b := by omega
      obtain ⟨j1, tx, ty, G1, e1, e2, e3, e4⟩ := div_iter (H := G) (sa := sa) (su := su) hM hb hv h0 hbl (tl a) sa su a u G ha hu (Keep.refl _ _) (Nat.le_refl _) hal hav hub
      obtain ⟨a1, a2, a3, a4⟩ := divL_ok (v := v) (M := M) h0 (tl a) a u (Nat.le_refl _) hav hub
      obtain ⟨j, tb, tv, G', f1, f2, f3, f4⟩ := ih sb tx sv ty b (divL b v (tl a) a u).1 v (divL b v (tl a) a u).2 G1 (hb.keep e4) e2 (hv.keep e4) e3 (k.trans e4) (by omega) hbl (by omega) (by omega) (by omega)
      refine ⟨j + 1, tb, tv, G', ?_, ?_, ?_, f4⟩
      · have hstep : rs_solve.s2 n l (sa, sb, su, sv, ()) G = some (.inl (sb, tx, sv, ty, ()), G1) := by
          unfold rs_solve.s2
          simp only [d2, bind_some, hw1, hw2, decide_eq_true hle, cond_t, loopW_eq e1]
        rw [iter, hstep]
        exact f1
      · rw [solL, if_pos hle]; exact f2
      · rw [solL, if_pos hle]; exact f3
    · refine ⟨1, sb, sv, G, ?_, by rw [solL, if_neg hle]; exact hb, by rw [solL, if_neg hle]; exact hv, k⟩
      rw [iter]
      unfold rs_solve.s2
      simp only [d2, bind_some, hw1, hw2, decide_eq_false hle, cond_f]
      rfl
/-- The two polynomials: that of what is left, and that of the places. -/
def solF (T : Bytes) (n l : Nat) : Bytes × Bytes := solL (n + l) (tl T) (trim (psh n [1])) T [] [1]
theorem solve_eq {s : Sl} {T : Bytes} (h : PAt H s T) {n l : Nat} (hn : 1 ≤ n) (hn2 : n < 200) (hl : l < 200) (hT : T.length ≤ n) : ∃ tb tv G, rs_solve s (n : Int) (l : Int) H = some ((tv, tb, ()), G) ∧ PAt G tb (solF T n l).1 ∧ PAt G tv (solF T n l).2 ∧ Keep (fun _ => False) H G := by
  have k1 : Keep (fun _ => False) H (H ++ [.cells [.int .u8 (un 1)] .exact]) := Keep.push _ _ _
  obtain ⟨t2, G2, a1, a2, a3⟩ := shift_eq (one_at (H := H) 1) (n := n) (by show n + 1 < _; omega)
  have k3 : Keep (fun _ => False) G2 (G2 ++ [.cells [.int .u8 (un 1)] .exact]) := Keep.push _ _ _
  have hal : (trim (psh n [1])).length ≤ n + 1 := by
    refine Nat.le_trans tl_le_len ?_
    unfold psh
    rw [pl_len]; exact Nat.le_refl _
  have htl := tl_le (trim (psh n [1]))
  have htT := tl_le T
  have hnil : PAt (G2 ++ [.cells [.int .u8 (un 1)] .exact]) ⟨none, 0, 0⟩ [] := ⟨⟨rfl, fun _ => rfl⟩, Nat.le_refl _⟩
  obtain ⟨j, tb, tv, G, e1, e2, e3, e4⟩ := sol_iter (H := H) (m := n + l) (M := n + 2) (by omega) (by omega) (by omega) (n : Int) (l : Int) (by omega) (by omega) (tl T) t2 s ⟨none, 0, 0⟩ ⟨some (G2.length, 0), 1, 1⟩ (trim (psh n [1])) T [] [1] _ (a2.keep k3) (((h.keep k1).keep a3).keep k3) hnil (one_at 1) ((k1.trans a3).trans k3) (Nat.le_refl _) (by omega) (by omega) (by show _ + 1 ≤ _; omega) (by show 0 + _ ≤ _; omega)
  refine ⟨tb, tv, G, ?_, e2, e3, e4⟩
  unfold rs_solve
  have a1' : gf_Poly_Shift ⟨some (H.length, 0), 1, 1⟩ (n : Int) (H ++ [Blk.cells [.int .u8 1] .exact]) = some ((t2, ()), G2) := a1
  have e1' : loopW (rs_solve.s2 (n : Int) (l : Int)) (t2, s, ⟨none, 0, 0⟩, ⟨some (G2.length, 0), 1, 1⟩, ()) (G2 ++ [Blk.cells [.int .u8 1] .exact]) = some ((tb, tv, ()), G) := loopW_eq e1
  simp only [a1', bind_some, e1']
end
end Ev
namespace Ev
open Go (IntKind)

def efix (size slope : Bytes) (e : Nat) : UInt8 := gm (gp e) (gm (ev size (gp (255 - e))) (ginv (ev slope (gp (255 - e)))))
def fixL (size slope : Bytes) : List Int → Bytes → Int → Option (Bytes × Int)
  | [], out, many => some (out, many)
  | e :: r, out, many => if ev slope (gp (255 - e.toNat)) = 0 then none else fixL size slope r (out.set (out.length - 1 - e.toNat) (co out (out.length - 1 - e.toNat) ^^^ efix size slope e.toNat)) (if efix size slope e.toNat = 0 then many else many + 1)
def syn (s : Bytes) (n : Nat) (K : List Int) : Bytes := trim ((trim (pmul (pl n (sg s)) (plF K))).take n)
def allF (s : Bytes) (n : Nat) (K : List Int) : Bytes := trim (pmul (solF (syn s n K) n K.length).2 (plF K))
def decC (s : Bytes) (n : Nat) (K : List Int) : Bytes × Int × Int :=
  if (roF (allF s n K) s.length).length = 0 ∨ ((roF (allF s n K) s.length).length : Int) ≠ (tl (allF s n K) : Int) - 1 ∨ (n : Int) < 2 * ((tl (solF (syn s n K) n K.length).2 : Int) - 1) + (K.length : Int) then ([], 0, 280)
  else match fixL (solF (syn s n K) n K.length).1 (trim (pslope (allF s n K))) (roF (allF s n K) s.length) s 0 with
    | none => ([], 0, 280)
    | some (o, m) => if rtB o n = true then (o, m, 0) else ([], 0, 280)
open Classical in
noncomputable def decF (s : Bytes) (n : Nat) (l : List Int) : Bytes × Int × Int :=
  if ckB s.length n = false then ([], 0, 1) else if badL l s.length ∨ n < (lostK l s.length).length then ([], 0, 280) else if rtB s n = true then (s, 0, 0) else decC s n (lostK l s.length)
theorem co_set (p : Bytes) (i : Nat) (x : UInt8) (k : Nat) : co (p.set i x) k = if k = i ∧ i < p.length then x else co p k := by
  unfold co
  rw [List.getD_eq_getElem?_getD, List.getElem?_set]
  by_cases h : i = k
  · subst h
    by_cases hi : i < p.length
    · rw [if_pos rfl, if_pos hi, if_pos ⟨rfl, hi⟩]; rfl
    · rw [if_pos rfl, if_neg hi, if_neg (by omega), List.getD_eq_getElem?_getD, List.getElem?_eq_none (by omega)]
  · rw [if_neg h, if_neg (by omega), List.getD_eq_getElem?_getD]
theorem fix_iter {s0 : Bytes} {c : Nat} {tb tv tw ts : Sl} {size slope : Bytes} {wh : List Int} {Ga Gb Gc Gd H0 : Heap} (hc : c = Gc.length) {d : Int} (hsz : PAt H0 tb size) (hsp : PAt H0 ts slope) (hw : Row H0 1 tw (intC wh)) (hwl : wh.length < 10000) (hl1 : size.length < 100000) (hl2 : slope.length < 100000) (hsl : s0.length ≤ 255) (hwh : ∀ e ∈ wh, 0 ≤ e ∧ e < (s0.length : Int)) (hcl : H0.length ≤ c ∨ (∀ b o, tb.p = some (b, o) → b ≠ c) ∧ (∀ b o, ts.p = some (b, o) → b ≠ c) ∧ ∀ b o, tw.p = some (b, o) → b ≠ c) :
    ∀ (r : List Int) (i : Nat) (out : Bytes) (many : Nat) (G : Heap), wh = wh.take i ++ r → i + r.length = wh.length → out.length = s0.length → many ≤ i → LAt G c s0.length (co out) → Keep (fun j => j = c) H0 G →
      ∃ j w G', iter (rs_Decode.s1 s0 ((tv, tb, ()), Ga) ((tw, ()), Gb) ((d, ()), Gc) ((ts, ()), Gd)) j ((many : Int), (i : Int), ()) G = some (w, G') ∧ Keep (fun j => j = c) H0 G' ∧ match fixL size slope r out many with
        | none => w = .inr ([], 0, 280, ())
        | some (o, m) => w = .inl (m, ()) ∧ o.length = s0.length ∧ LAt G' c s0.length (co o) := by
  intro r
  have kp : ∀ {G : Heap} {t : Sl} {cs : List C}, Keep (fun j => j = c) H0 G → Row H0 1 t cs → (∀ b o, t.p = some (b, o) → b ≠ c) → Row G 1 t cs := fun k h hb => h.keep k fun b o ho hj => hb b o ho hj
  have hbn : ∀ {t : Sl} {cs : List C}, Row H0 1 t cs → H0.length ≤ c → ∀ b o, t.p = some (b, o) → b ≠ c := fun h hle b o ho => by have := h.lt ho; omega
  have n1 : ∀ b o, tb.p = some (b, o) → b ≠ c := fun b o ho => hcl.elim (fun h => hbn hsz.row h b o ho) fun h => h.1 b o ho
  have n2 : ∀ b o, ts.p = some (b, o) → b ≠ c := fun b o ho => hcl.elim (fun h => hbn hsp.row h b o ho) fun h => h.2.1 b o ho
  have n3 : ∀ b o, tw.p = some (b, o) → b ≠ c := fun b o ho => hcl.elim (fun h => hbn hw h b o ho) fun h => h.2.2 b o ho
  have htw := hw.int_len
  induction r with
  | nil =>
    intro i out many G h1 h2 h3 h4 h5 h6
    refine ⟨1, .inl ((many : Int), ()), G, ?_, h6, rfl, h3, h5⟩
    rw [iter]
    unfold rs_Decode.s1
    simp only [List.length_nil] at h2
    simp only [decide_eq_false (show ¬ (i : Int) < (tw.len : Int) by omega), cond_f]
    rfl
  | cons e r ih =>
    intro i out many G h1 h2 h3 h4 h5 h6
    simp only [List.length_cons] at h2
    have hil : i < wh.length := by omega
    have hei : wh[i] = e := by
      have h7 : (wh.take i ++ e :: r)[i]? = some e := by
        rw [List.getElem?_append_right (by rw [List.length_take]; omega), List.length_take, Nat.min_eq_left (by omega), Nat.sub_self]; rfl
      rw [← h1, List.getElem?_eq_getElem hil] at h7
      exact Option.some.inj h7
    have hem : e ∈ wh := by rw [← hei]; exact List.getElem_mem hil
    obtain ⟨e0, e1⟩ := hwh e hem
    obtain ⟨m, rfl⟩ : ∃ m : Nat, e = (m : Int) := ⟨e.toNat, (Int.toNat_of_nonneg e0).symm⟩
    obtain ⟨b, o, _, a1, a2⟩ := (kp h6 hw n3).int hil
    rw [hei] at a2
    have hw0 : IntKind.wrap .i64 (0 - (m : Int)) = -(m : Int) := by rw [wrap_i64 (by omega) (by omega)]; omega
    have hr := gf_Root_neg m (by omega)
    have hr2 := gf_Root_eq m (by omega)
    have psp : PAt G ts slope := ⟨kp h6 hsp.row n2, hsp.cap⟩
    have psz : PAt G tb size := ⟨kp h6 hsz.row n1, hsz.cap⟩
    have hat := at_eq psp (by omega) (gp (255 - m))
    have hat2 := at_eq psz (by omega) (gp (255 - m))
    have hlen : decide ((i : Int) < (tw.len : Int)) = true := decide_eq_true (by omega)
    by_cases hz : ev slope (gp (255 - m)) = 0
    · refine ⟨1, .inr ([], 0, 280, ()), G, ?_, h6, ?_⟩
      · rw [iter]
        unfold rs_Decode.s1
        simp only [hlen, cond_t, a1, bind_some, a2, hw0, hr, hat, decide_eq_true ((un_zero _).2 hz)]
        rfl
      · rw [fixL, Int.toNat_natCast, if_pos hz]
    · have hix : IntKind.wrap .i64 ((IntKind.wrap .i64 ((s0.length : Int) - 1)) - (m : Int)) = ((out.length - 1 - m : Nat) : Int) := by
        rw [wrap_i64 (n := (s0.length : Int) - 1) (by omega) (by omega), wrap_i64 (by omega) (by omega)]; omega
      have hlt : out.length - 1 - m < s0.length := by omega
      have g1 := h5.get hlt
      obtain ⟨G2, w1, w2, w3⟩ := h5.set hlt (co out (out.length - 1 - m) ^^^ efix size slope m)
      have w2' : LAt G2 c s0.length (co (out.set (out.length - 1 - m) (co out (out.length - 1 - m) ^^^ efix size slope m))) := w2.congr fun k hk => by
        rw [co_set]
        by_cases hk2 : k = out.length - 1 - m
        · rw [if_pos hk2, if_pos ⟨hk2, by omega⟩]
        · rw [if_neg hk2, if_neg (fun h => hk2 h.1)]
      obtain ⟨many2, hm2, hm3⟩ : ∃ many2 : Nat, (if efix size slope m = 0 then (many : Int) else (many : Int) + 1) = (many2 : Int) ∧ many2 ≤ i + 1 := by
        by_cases hx : efix size slope m = 0
        · exact ⟨many, if_pos hx, by omega⟩
        · exact ⟨many + 1, by rw [if_neg hx]; omega, by omega⟩
      obtain ⟨j, w, G', f1, f2, f3⟩ := ih (i + 1) (out.set (out.length - 1 - m) (co out (out.length - 1 - m) ^^^ efix size slope m)) many2 G2 (by
        rw [List.take_succ_eq_append_getElem hil, hei, List.append_assoc]; exact h1) (by omega) (by rw [List.length_set]; exact h3) hm3 w2' (h6.trans w3)
      refine ⟨j + 1, w, G', ?_, f2, ?_⟩
      · have hstep : rs_Decode.s1 s0 ((tv, tb, ()), Ga) ((tw, ()), Gb) ((d, ()), Gc) ((ts, ()), Gd) ((many : Int), (i : Int), ()) G = some (.inl ((many2 : Int), ((i + 1 : Nat) : Int), ()), G2) := by
          unfold rs_Decode.s1
          have hat' : Sl.at 1 ⟨some (Gc.length, 0), s0.length, s0.length⟩ ((out.length - 1 - m : Nat) : Int) = some (c, out.length - 1 - m) := by rw [← hc]; exact BAt.at hlt
          have hef : gm (gp m) (gm (ev size (gp (255 - m))) (ginv (ev slope (gp (255 - m))))) = efix size slope m := rfl
          have hs1 := wrap_succ (show i < 9223372036854775807 by omega)
          have hs2 : IntKind.wrap .i64 (many2 : Int) = (many2 : Int) := wrap_i64 (by omega) (by omega)
          simp only [hlen, cond_t, a1, bind_some, a2, hw0, hr, hat, decide_eq_false fun hh => hz ((un_zero _).1 hh), cond_f, hr2, hat2, gf_Inv_eq, gf_Mul_eq, hef, hix, hat']
          by_cases hx : efix size slope m = 0
          · rw [if_pos hx] at hm2
            simp only [decide_eq_true ((un_zero _).2 hx), Bool.not_true, cond_f, bind_some, g1, un_xor, w1, hs1, hm2]
          · rw [if_neg hx] at hm2
            simp only [decide_eq_false fun hh => hx ((un_zero _).1 hh), Bool.not_false, cond_t, bind_some, g1, un_xor, w1, hs1, hm2, hs2]
        rw [iter, hstep]
        exact f1
      · rw [fixL, Int.toNat_natCast, if_neg hz, hm2]
        exact f3

theorem no3 {s : Sl} (b o : Nat) (_ : s.p = some (b, o)) : ¬ False := id
theorem roF_mem {p : Bytes} {n : Nat} {e : Int} : e ∈ roF p n ↔ ∃ k : Nat, k < n ∧ e = (k : Int) ∧ ev p (gp (255 - k)) = 0 := by
  unfold roF
  rw [List.mem_map]
  constructor
  · rintro ⟨k, hk, rfl⟩
    obtain ⟨h1, h2⟩ := List.mem_filter.1 hk
    exact ⟨k, List.mem_range.1 h1, rfl, beq_iff_eq.1 h2⟩
  · rintro ⟨k, h1, rfl, h2⟩
    exact ⟨k, List.mem_filter.2 ⟨List.mem_range.2 h1, beq_iff_eq.2 h2⟩, rfl⟩
theorem pmul_len (p q : Bytes) : (trim (pmul p q)).length ≤ p.length + q.length := by
  refine Nat.le_trans tl_le_len ?_
  unfold pmul
  rw [pl_len]; exact Nat.le_refl _
theorem solL_len {m M : Nat} (hm : 1 ≤ m) : ∀ (f : Nat) (a b u v : Bytes), tl b ≤ f → tl a + v.length ≤ M → u.length + tl b ≤ M → (solL m f a b u v).2.length ≤ M ∧ (solL m f a b u v).1.length ≤ max a.length b.length
  | 0, a, b, u, v, _, h2, _ => ⟨by show v.length ≤ M; omega, by show b.length ≤ _; omega⟩
  | f + 1, a, b, u, v, h1, h2, h3 => by
    rw [solL]
    split
    · rename_i hle
      have h0 : 0 < tl b := by omega
      obtain ⟨a1, a2, a3, a4⟩ := divL_ok (v := v) (M := M) h0 (tl a) a u (Nat.le_refl _) h2 h3
      obtain ⟨b1, b2⟩ := solL_len (M := M) hm f b (divL b v (tl a) a u).1 v (divL b v (tl a) a u).2 (by omega) (by omega) (by omega)
      exact ⟨b1, by omega⟩
    · exact ⟨by show v.length ≤ M; omega, by show b.length ≤ _; omega⟩
theorem solF_len {T : Bytes} {n l : Nat} (hn : 1 ≤ n) (hT : T.length ≤ n) : (solF T n l).2.length ≤ n + 2 ∧ (solF T n l).1.length ≤ n + 1 := by
  have hal : (trim (psh n [1])).length ≤ n + 1 := by
    refine Nat.le_trans tl_le_len ?_
    unfold psh
    rw [pl_len]; exact Nat.le_refl _
  have htl := tl_le (trim (psh n [1]))
  have htT := tl_le T
  obtain ⟨h1, h2⟩ := solL_len (m := n + l) (M := n + 2) (by omega) (tl T) (trim (psh n [1])) T [] [1] (Nat.le_refl _) (by show _ + 1 ≤ _; omega) (by show 0 + _ ≤ _; omega)
  exact ⟨h1, by
    have h2' : (solF T n l).1.length ≤ max (trim (psh n [1])).length T.length := h2
    omega⟩
theorem syn_len (s : Bytes) (n : Nat) (K : List Int) : (syn s n K).length ≤ n := by
  unfold syn
  refine Nat.le_trans tl_le_len ?_
  rw [List.length_take]; omega
theorem decC_eq {H : Heap} {ts : Sl} {s : Bytes} {n : Nat} {K : List Int} (hK : Row H 1 ts (intC K)) (hKn : K.length ≤ n) (hKe : ∀ e ∈ K, 0 ≤ e ∧ e < (s.length : Int)) (hn : 1 ≤ n ∧ n ≤ 32) (hs : n < s.length ∧ s.length ≤ 255) :
    ∃ G, ((rs_places ts H).bind fun (r4 : ((Sl × Unit) × Heap)) =>
 (rs_Signs s (n : Int) r4.2).bind fun (r5 : ((Sl × Unit) × Heap)) =>
 (gf_Poly_Mul r5.1.1 r4.1.1 r5.2).bind fun (r6 : ((Sl × Unit) × Heap)) =>
 (gf_Poly_Cut r6.1.1 (n : Int) r6.2).bind fun (r7 : ((Sl × Unit) × Heap)) =>
 (rs_solve r7.1.1 (n : Int) (ts.len : Int) r7.2).bind fun (r8 : ((Sl × Sl × Unit) × Heap)) =>
 (gf_Poly_Mul r8.1.1 r4.1.1 r8.2).bind fun (r9 : ((Sl × Unit) × Heap)) =>
 (rs_roots r9.1.1 (List.length (s : Bytes) : Int) r9.2).bind fun (r10 : ((Sl × Unit) × Heap)) =>
 cond (decide ((r10.1.1.len : Int) = 0)) (
 some ((([] : Bytes), (0 : Int), (280 : Int), ()), r10.2)) (
 (gf_Poly_Degree r9.1.1 r10.2).bind fun (r11 : ((Int × Unit) × Heap)) =>
 cond (!decide ((r10.1.1.len : Int) = r11.1.1)) (
 some (([], 0, 280, ()), r11.2)) (
 (gf_Poly_Degree r8.1.1 r11.2).bind fun (r12 : ((Int × Unit) × Heap)) =>
 cond (decide ((n : Int) < (IntKind.wrap .i64 ((IntKind.wrap .i64 (2 * r12.1.1)) + (ts.len : Int))))) (
 some (([], 0, 280, ()), r12.2)) (
 let H13 : Heap := r12.2 ++ [Blk.cells (cellsOf s) .loose]
 (gf_Poly_Slope r9.1.1 H13).bind fun (r14 : ((Sl × Unit) × Heap)) =>
 (loopW (rs_Decode.s1 s r8 r10 r12 r14) (0, 0, ()) r14.2).bind fun (p32 : ((Int × Unit) ⊕ (Bytes × Int × Int × Unit)) × Heap) =>
 Sum.elim (fun (y33 : (Int × Unit)) =>
 (strOf p32.2 (⟨some (r12.2.length, 0), (List.length (s : Bytes)), (List.length (s : Bytes))⟩)).bind fun (s34 : Bytes) =>
 (rs_Right s34 (n : Int)).bind fun (r35 : (Bool × Unit)) =>
 cond (!r35.1) (
 some (([], 0, 280, ()), p32.2)) (
 (strOf p32.2 (⟨some (r12.2.length, 0), (List.length (s : Bytes)), (List.length (s : Bytes))⟩)).bind fun (s36 : Bytes) =>
 some ((s36, y33.1, 0, ()), p32.2))) (fun (z37 : (Bytes × Int × Int × Unit)) =>
 some ((z37.1, z37.2.1, z37.2.2.1, ()), p32.2)) p32.1)))) = some (((decC s n K).1, (decC s n K).2.1, (decC s n K).2.2, ()), G) ∧ Keep (fun _ => False) H G := by
  have hkl := hK.int_len
  have hpl := plF_len K
  obtain ⟨t4, G4, a1, a2, a3⟩ := places_eq hK (by omega) (fun e he => by have := hKe e he; omega)
  obtain ⟨t5, G5, b1, b2, b3⟩ := signs_eq s n G4 (by omega) (by omega)
  obtain ⟨t6, G6, c1, c2, c3⟩ := mul_eq b2 (a2.keep b3) (by rw [pl_len]; omega)
  have hm1 := pmul_len (pl n (sg s)) (plF K)
  rw [pl_len] at hm1
  obtain ⟨t7, G7, d1, d2, d3⟩ := cut_eq c2 (by omega) n
  have d2 : PAt G7 t7 (syn s n K) := d2
  have hsy := syn_len s n K
  obtain ⟨t8b, t8v, G8, e1, e2, e3, e4⟩ := solve_eq d2 (n := n) (l := K.length) (by omega) (by omega) (by omega) hsy
  rw [← hkl] at e1
  obtain ⟨hl1, hl2⟩ := solF_len (T := syn s n K) (l := K.length) hn.1 hsy
  have k48 := (((b3.trans c3).trans d3).trans e4)
  obtain ⟨t9, G9, f1, f2, f3⟩ := mul_eq e3 (a2.keep k48) (by omega)
  have f2 : PAt G9 t9 (allF s n K) := f2
  have hm2 : (allF s n K).length ≤ (solF (syn s n K) n K.length).2.length + (plF K).length := pmul_len _ _
  obtain ⟨t10, G10, g1, g2⟩ := roots_eq f2 (by omega) (long := s.length) hs.2
  have hrl := roF_len (allF s n K) s.length
  have ht10 := g2.int_len
  have kH9 := ((a3.trans k48).trans f3)
  have kH10 := kH9.trans g2.keep
  simp only [a1, bind_some, b1, c1, d1, e1, f1, g1]
  unfold decC
  by_cases q1 : (roF (allF s n K) s.length).length = 0
  · rw [if_pos (.inl q1), decide_eq_true (show (t10.len : Int) = 0 by omega), cond_t]
    exact ⟨G10, rfl, kH10⟩
  rw [decide_eq_false (show ¬ (t10.len : Int) = 0 by omega), cond_f]
  have d11 := degree_eq (f2.keep g2.keep) (by omega)
  simp only [d11, bind_some]
  by_cases q2 : ((roF (allF s n K) s.length).length : Int) = (tl (allF s n K) : Int) - 1
  rotate_left
  · rw [if_pos (.inr (.inl q2)), decide_eq_false (show ¬ (t10.len : Int) = (tl (allF s n K) : Int) - 1 by omega), Bool.not_false, cond_t]
    exact ⟨G10, rfl, kH10⟩
  rw [decide_eq_true (show (t10.len : Int) = (tl (allF s n K) : Int) - 1 by omega), Bool.not_true, cond_f]
  have d12 := degree_eq ((e3.keep f3).keep g2.keep) (by omega)
  simp only [d12, bind_some]
  have htl := tl_le (solF (syn s n K) n K.length).2
  have hw : IntKind.wrap .i64 ((IntKind.wrap .i64 (2 * ((tl (solF (syn s n K) n K.length).2 : Int) - 1))) + (ts.len : Int)) = 2 * ((tl (solF (syn s n K) n K.length).2 : Int) - 1) + (K.length : Int) := by
    rw [wrap_i64 (n := 2 * ((tl (solF (syn s n K) n K.length).2 : Int) - 1)) (by omega) (by omega), wrap_i64 (by omega) (by omega)]; omega
  rw [hw]
  by_cases q3 : (n : Int) < 2 * ((tl (solF (syn s n K) n K.length).2 : Int) - 1) + (K.length : Int)
  · rw [if_pos (.inr (.inr q3)), decide_eq_true q3, cond_t]
    exact ⟨G10, rfl, kH10⟩
  rw [if_neg (fun h => h.elim q1 fun h => h.elim (fun h => h q2) q3), decide_eq_false q3, cond_f]
  have k13 : Keep (fun _ => False) G10 (G10 ++ [Blk.cells (cellsOf s) .loose]) := Keep.push _ _ _
  obtain ⟨t14, G14, s1, s2, s3, s4⟩ := slope_eq ((f2.keep g2.keep).keep k13) (by omega)
  have hsll : (trim (pslope (allF s n K))).length < 100000 := by
    have : (trim (pslope (allF s n K))).length ≤ (allF s n K).length := by
      refine Nat.le_trans tl_le_len ?_
      unfold pslope
      rw [pl_len]; omega
    omega
  have la : LAt G14 G10.length s.length (co s) := by
    have : (G10 ++ [Blk.cells (cellsOf s) .loose])[G10.length]? = some (.cells (arrC s.length fun k => [.int .u8 (un (co s k))]) .loose) := by rw [app_last, ← cells_pl, pl_co]
    exact s3.get this id
  have hlt10 : ∀ {t : Sl} {cs : List C}, Row G10 1 t cs → ∀ b o, t.p = some (b, o) → b ≠ G10.length := fun h b o ho => by have := h.lt ho; omega
  have e2' := (e2.keep f3).keep g2.keep
  obtain ⟨j, w, G', i1, i2, i3⟩ := fix_iter (s0 := s) (c := G10.length) (tv := t8v) (tw := t10) (Ga := G8) (Gb := G10) (Gc := G10) (Gd := G14) (d := (tl (solF (syn s n K) n K.length).2 : Int) - 1) rfl ((e2'.keep k13).keep s3) s2 ((g2.row.keep k13 no3).keep s3 no3) (by omega) (by omega) hsll hs.2 (fun e he => by
      obtain ⟨k, h1, rfl, _⟩ := roF_mem.1 he
      omega) (.inr ⟨hlt10 e2'.row, fun b o ho => by have := s4 b o ho; simp at this; omega, hlt10 g2.row⟩) (roF (allF s n K) s.length) 0 s 0 G14 (by simp) (by omega) rfl (Nat.le_refl _) la (Keep.refl _ _)
  have l1 : loopW (rs_Decode.s1 s ((t8v, t8b, ()), G8) ((t10, ()), G10) (((tl (solF (syn s n K) n K.length).2 : Int) - 1, ()), G10) ((t14, ()), G14)) (0, 0, ()) G14 = some (w, G') := loopW_eq i1
  have kG' : Keep (fun _ => False) H G' := by
    refine (((kH10.trans k13).trans s3).mono (G := fun j => j = G10.length) fun _ h => h.elim).trans i2 |>.new fun k hk hlt => ?_
    have h1 : k = G10.length := hk
    have h2 := kH10.len
    omega
  simp only [s1, bind_some, l1]
  have hz : ((0 : Nat) : Int) = 0 := rfl
  rw [hz] at i3
  cases hf : fixL (solF (syn s n K) n K.length).1 (trim (pslope (allF s n K))) (roF (allF s n K) s.length) s 0 with
  | none =>
    rw [hf] at i3
    have i3 : w = .inr ([], 0, 280, ()) := i3
    subst i3
    exact ⟨G', rfl, kG'⟩
  | some om =>
    obtain ⟨o, m⟩ := om
    rw [hf] at i3
    obtain ⟨i3, i4, i5⟩ : w = .inl (m, ()) ∧ o.length = s.length ∧ LAt G' G10.length s.length (co o) := i3
    subst i3
    have hpo := i5.poly
    rw [← i4, pl_co] at hpo
    have hstr : strOf G' ⟨some (G10.length, 0), s.length, s.length⟩ = some o := by
      unfold strOf
      rw [← i4, hpo.row.row]
      exact bytes_of_cells _
    have hck : ckB o.length n = true := decide_eq_true (by rw [i4]; omega)
    have hrt := right_eq o n (by omega) (by omega)
    rw [hck, Bool.true_and] at hrt
    simp only [sumL, hstr, bind_some, hrt]
    cases hb : rtB o n with
    | true => exact ⟨G', by simp, kG'⟩
    | false => exact ⟨G', by simp, kG'⟩
end Ev
namespace Ev

/-- What holds all along: of x and y by b and v. -/
theorem sstep_fun (x b v y : Bytes) : ∃ m : Ps, co (sstep x b b x) = fadd (co x) (fmul m (co b)) ∧ co (sstep x b v y) = fadd (co y) (fmul m (co v)) := by
  refine ⟨mono (gm (co x (tl x - 1)) (ginv (co b (tl b - 1)))) (tl x - tl b), ?_, ?_⟩
  · funext i
    rw [co_sstep, mono_fmul]; rfl
  · funext i
    rw [co_sstep, mono_fmul]; rfl
theorem fadd_swap (a b c d : Ps) : fadd (fadd a b) (fadd c d) = fadd (fadd a c) (fadd b d) := by
  funext i
  show (a i ^^^ b i) ^^^ (c i ^^^ d i) = (a i ^^^ c i) ^^^ (b i ^^^ d i)
  ac_rfl
theorem divL_inv {b v : Bytes} {n : Nat} {T : Ps} (hb : Cg n (co b) (fmul (co v) T)) : ∀ (f : Nat) (x y : Bytes), Cg n (co x) (fmul (co y) T) → Cg n (co (divL b v f x y).1) (fmul (co (divL b v f x y).2) T) ∧ fadd (fmul (co (divL b v f x y).1) (co v)) (fmul (co b) (co (divL b v f x y).2)) = fadd (fmul (co x) (co v)) (fmul (co b) (co y))
  | 0, x, y, h => ⟨h, rfl⟩
  | f + 1, x, y, h => by
    rw [divL]
    split
    · obtain ⟨m, m1, m2⟩ := sstep_fun x b v y
      obtain ⟨i1, i2⟩ := divL_inv hb f (sstep x b b x) (sstep x b v y) (by
        rw [m1, m2, fadd_fmul]
        refine h.add ?_
        rw [fmul_assoc]
        exact hb.mul2 m)
      refine ⟨i1, i2.trans ?_⟩
      rw [m1, m2, fadd_fmul, fmul_fadd, fadd_swap]
      have : fmul (fmul m (co b)) (co v) = fmul (co b) (fmul m (co v)) := by rw [fmul_comm m, fmul_assoc]
      rw [this, fadd_self, fadd_none]
    · exact ⟨h, rfl⟩
theorem solL_inv {m n l : Nat} (hm : m = n + l) {T : Ps} : ∀ (f : Nat) (a b u v : Bytes), tl b ≤ f → tl a + v.length ≤ n + 2 → u.length + tl b ≤ n + 2 → Cg n (co a) (fmul (co u) T) → Cg n (co b) (fmul (co v) T) → fadd (fmul (co a) (co v)) (fmul (co b) (co u)) = mono 1 n → (m : Int) ≤ 2 * ((tl a : Int) - 1) ∨ v.length ≤ 1 →
    ∃ a' u' : Bytes, Cg n (co a') (fmul (co u') T) ∧ Cg n (co (solL m f a b u v).1) (fmul (co (solL m f a b u v).2) T) ∧ fadd (fmul (co a') (co (solL m f a b u v).2)) (fmul (co (solL m f a b u v).1) (co u')) = mono 1 n ∧ 2 * ((tl (solL m f a b u v).1 : Int) - 1) < (m : Int) ∧ (2 * (tl (solL m f a b u v).2 : Int) + l ≤ n + 2 ∨ tl (solL m f a b u v).2 ≤ 1)
  | 0, a, b, u, v, h1, h2, h3, h4, h5, h6, h7 => by
    refine ⟨a, u, h4, h5, h6, ?_, ?_⟩
    · show 2 * ((tl b : Int) - 1) < _; omega
    · show 2 * (tl v : Int) + l ≤ n + 2 ∨ tl v ≤ 1
      have := tl_le v
      omega
  | f + 1, a, b, u, v, h1, h2, h3, h4, h5, h6, h7 => by
    rw [solL]
    split
    · rename_i hle
      have h0 : 0 < tl b := by omega
      obtain ⟨a1, a2, a3, a4⟩ := divL_ok (v := v) (M := n + 2) h0 (tl a) a u (Nat.le_refl _) h2 h3
      obtain ⟨i1, i2⟩ := divL_inv h5 (tl a) a u h4
      refine solL_inv hm f b (divL b v (tl a) a u).1 v (divL b v (tl a) a u).2 (by omega) (by omega) (by omega) h5 i1 ?_ (.inl hle)
      rw [fadd_comm, i2, h6]
    · refine ⟨a, u, h4, h5, h6, ?_, ?_⟩
      · show 2 * ((tl b : Int) - 1) < _; omega
      · show 2 * (tl v : Int) + l ≤ n + 2 ∨ tl v ≤ 1
        have := tl_le v
        omega
theorem mono_co (n : Nat) : co (trim (psh n [1])) = mono 1 n := by
  funext i
  rw [co_trim, co_psh]
  unfold mono
  split
  · rw [if_neg (by omega)]
  · by_cases h : i = n
    · subst h
      rw [if_pos rfl, Nat.sub_self]; rfl
    · rw [if_neg h, co_ge (by show 1 ≤ i - n; omega)]
theorem solF_inv {T : Bytes} {n l : Nat} (hn : 1 ≤ n) (hT : T.length ≤ n) : ∃ a u : Bytes, Cg n (co a) (fmul (co u) (co T)) ∧ Cg n (co (solF T n l).1) (fmul (co (solF T n l).2) (co T)) ∧ fadd (fmul (co a) (co (solF T n l).2)) (fmul (co (solF T n l).1) (co u)) = mono 1 n ∧ 2 * ((tl (solF T n l).1 : Int) - 1) < ((n + l : Nat) : Int) ∧ (2 * (tl (solF T n l).2 : Int) + l ≤ n + 2 ∨ tl (solF T n l).2 ≤ 1) := by
  have hal : (trim (psh n [1])).length ≤ n + 1 := by
    refine Nat.le_trans tl_le_len ?_
    unfold psh
    rw [pl_len]; exact Nat.le_refl _
  have htl := tl_le (trim (psh n [1]))
  have htT := tl_le T
  have h0 : co [] = fun _ => 0 := by funext i; exact co_ge (Nat.zero_le _)
  refine solL_inv (m := n + l) rfl (T := co T) (tl T) (trim (psh n [1])) T [] [1] (Nat.le_refl _) (by show _ + 1 ≤ _; omega) (by show 0 + _ ≤ _; omega) ?_ ?_ ?_ (.inr (Nat.le_refl _))
  · rw [h0, none_fmul, mono_co]
    intro i hi
    exact if_neg (by omega)
  · rw [one_co, one_fmul]
    exact fun _ _ => rfl
  · rw [h0, fmul_none, fadd_none, one_co, fmul_comm, one_fmul, mono_co]

/-- The one solution, but for a number. -/
theorem solve_one {T Om : Bytes} {Xs : List UInt8} {n l : Nat} (hn : 1 ≤ n) (hT : T.length ≤ n) (hx : Xs.Nodup) (h0 : ∀ X ∈ Xs, X ≠ 0 ∧ ev Om (ginv X) ≠ 0) (hO : Bd (co Om) (Xs.length + l)) (hd : 2 * Xs.length + l ≤ n) (hk : Cg n (fmul (co (PL Xs)) (co T)) (co Om)) :
    ∃ c : UInt8, c ≠ 0 ∧ (∀ i, co (solF T n l).1 i = gm c (co Om i)) ∧ ∀ i, co (solF T n l).2 i = gm c (co (PL Xs) i) := by
  obtain ⟨a, u, q1, q2, q3, q4, q5⟩ := solF_inv (l := l) hn hT
  generalize (solF T n l).1 = b at *
  generalize (solF T n l).2 = v at *
  have e1 : fmul (co b) (co (PL Xs)) = fmul (co v) (co Om) := by
    refine Cg.full (n := n) ?_ (((bd_tl b).mul (PL_bd Xs)).mono' (by omega)) (((bd_tl v).mul hO).mono' (by omega))
    refine (q2.mul (co (PL Xs))).trans ?_
    rw [fmul_assoc, fmul_comm (co T)]
    exact hk.mul2 (co v)
  obtain ⟨w, w1, w2⟩ := factors Xs (trim v) hx fun X hX => by
    obtain ⟨hX0, hXO⟩ := h0 X hX
    refine ⟨hX0, ?_⟩
    have h1 : ev (pmul b (PL Xs)) (ginv X) = ev (pmul v Om) (ginv X) := ev_co (fun i => by rw [co_mulf, co_mulf, e1]) _
    rw [ev_pmul, ev_pmul, (ev_PL Xs hX0).2 hX, gm_zero] at h1
    rcases gm_eq_zero.1 h1.symm with h2 | h2
    · rw [ev_trim]; exact h2
    · exact absurd h2 hXO
  rw [co_trimf] at w2
  have e2 : co b = fmul (co w) (co Om) := by
    refine fmul_cancel (f := co (PL Xs)) (by rw [PL_first]; decide) ?_
    rw [fmul_comm, e1, w2, fmul_assoc]
  have e3 : fmul (co w) (fadd (fmul (co a) (co (PL Xs))) (fmul (co Om) (co u))) = mono 1 n := by
    rw [← q3, e2, w2, fmul_fadd]
    congr 1
    · rw [fmul_comm (co (PL Xs)), ← fmul_assoc, ← fmul_assoc, fmul_comm (co w)]
    · rw [fmul_assoc]
  have e4 : Cg n (fadd (fmul (co a) (co (PL Xs))) (fmul (co Om) (co u))) (fun _ => 0) := by
    have h1 : Cg n (fmul (co a) (co (PL Xs))) (fmul (co Om) (co u)) := by
      refine (q1.mul (co (PL Xs))).trans ?_
      rw [fmul_assoc, fmul_comm (co T), fmul_comm (co Om)]
      exact hk.mul2 (co u)
    intro i hi
    show _ ^^^ _ = 0
    rw [h1 i hi, UInt8.xor_self]
  -- the other factor, as bytes
  obtain ⟨P, hP⟩ : ∃ P : Bytes, co P = fadd (fmul (co a) (co (PL Xs))) (fmul (co Om) (co u)) := ⟨padd (pmul a (PL Xs)) (pmul Om u), by rw [co_addf, co_mulf, co_mulf]⟩
  rw [← hP] at e3 e4
  have e5 : gm (co w 0) (co P n) = 1 := by
    have h1 := congrFun e3 n
    unfold mono at h1
    rw [if_pos rfl] at h1
    rw [← h1]
    unfold fmul
    rw [sm_one (k := 0) (by omega) fun i hi hne => by rw [e4 (n - i) (by omega), gm_zero], Nat.sub_zero]
  have hw0 : co w 0 ≠ 0 := fun h => by rw [h, zero_gm] at e5; exact absurd e5 (by decide)
  have hPn : co P n ≠ 0 := fun h => by rw [h, gm_zero] at e5; exact absurd e5 (by decide)
  have htw : 0 < tl w := by
    by_cases h : 0 < tl w
    · exact h
    · exact absurd (tl_zero w 0 (by omega)) hw0
  have htP : n < tl P := by
    by_cases h : n < tl P
    · exact h
    · exact absurd (tl_zero P n (by omega)) hPn
  have hw1 : tl w = 1 := by
    have ht := fmul_top (f := co w) (g := co P) (a := tl w - 1) (b := tl P - 1) ((bd_tl w).mono' (by omega)) ((bd_tl P).mono' (by omega))
    have hne := gm_ne (tl_ne w htw) (tl_ne P (by omega))
    rw [← ht, e3] at hne
    unfold mono at hne
    by_cases h : tl w - 1 + (tl P - 1) = n
    · omega
    · rw [if_neg h] at hne
      exact absurd rfl hne
  have hw : co w = mono (co w 0) 0 := by
    funext i
    unfold mono
    by_cases h : i = 0
    · subst h; rw [if_pos rfl]
    · rw [if_neg h]; exact tl_zero w i (by omega)
  refine ⟨co w 0, hw0, fun i => ?_, fun i => ?_⟩
  · rw [e2, hw, mono0]; rfl
  · rw [w2, fmul_comm, hw, mono0]; rfl
end Ev
namespace Ev

def lsum (F : Nat → UInt8) : List Nat → UInt8
  | [] => 0
  | m :: r => F m ^^^ lsum F r
theorem lsum_congr {F G : Nat → UInt8} : ∀ {l : List Nat}, (∀ m ∈ l, F m = G m) → lsum F l = lsum G l
  | [], _ => rfl
  | m :: r, h => by rw [lsum, lsum, h m (List.mem_cons_self ..), lsum_congr fun k hk => h k (List.mem_cons_of_mem _ hk)]
theorem sm_list {L : Nat} : ∀ (W : List Nat) (F : Nat → UInt8), W.Nodup → (∀ m ∈ W, m < L) → (∀ m, m < L → m ∉ W → F m = 0) → sm L F = lsum F W
  | [], F, _, _, h => by
    rw [lsum, sm_congr (g := fun _ => 0) fun i hi => h i hi (List.not_mem_nil), sm_none]
  | m :: r, F, hn, hl, h => by
    rw [List.nodup_cons] at hn
    have hm := hl m (List.mem_cons_self ..)
    have h1 : sm L F = sm L (fun i => if i = m then F m else 0) ^^^ sm L (fun i => if i = m then 0 else F i) := by
      rw [← sm_xor]
      refine sm_congr fun i _ => ?_
      by_cases hi : i = m
      · rw [if_pos hi, if_pos hi, hi, UInt8.xor_zero]
      · rw [if_neg hi, if_neg hi, UInt8.zero_xor]
    have h2 : sm L (fun i => if i = m then F m else 0) = F m := by
      rw [sm_one (k := m) hm fun i _ hne => if_neg hne, if_pos rfl]
    rw [h1, h2, sm_list r (fun i => if i = m then 0 else F i) hn.2 (fun k hk => hl k (List.mem_cons_of_mem _ hk)) fun k hk hkr => by
      by_cases hkm : k = m
      · exact if_pos hkm
      · rw [if_neg hkm]
        exact h k hk fun hc => by
          rcases List.mem_cons.1 hc with hc | hc
          · exact hkm hc
          · exact hkr hc, lsum]
    congr 1
    exact lsum_congr fun k hk => if_neg (fun hkm : k = m => hn.1 (by rw [← hkm]; exact hk))
def gX (l : List Nat) : List UInt8 := l.map gp
theorem gX_nodup : ∀ {l : List Nat}, l.Nodup → (∀ m ∈ l, m < 255) → (gX l).Nodup
  | [], _, _ => List.nodup_nil
  | m :: r, h, hl => by
    rw [List.nodup_cons] at h
    show (gp m :: gX r).Nodup
    rw [List.nodup_cons]
    refine ⟨fun hc => ?_, gX_nodup h.2 fun k hk => hl k (List.mem_cons_of_mem _ hk)⟩
    obtain ⟨k, h1, h2⟩ := List.mem_map.1 hc
    have := gp_inj (hl k (List.mem_cons_of_mem _ h1)) (hl m (List.mem_cons_self ..)) h2
    exact h.1 (this ▸ h1)
theorem gX_mem {l : List Nat} (hl : ∀ m ∈ l, m < 255) {k : Nat} (hk : k < 255) : gp k ∈ gX l ↔ k ∈ l := by
  constructor
  · intro h
    obtain ⟨j, h1, h2⟩ := List.mem_map.1 h
    exact gp_inj (hl j h1) hk h2 ▸ h1
  · exact fun h => List.mem_map.2 ⟨k, h, rfl⟩
theorem gX_ne {l : List Nat} : ∀ X ∈ gX l, X ≠ 0 := fun X hX => by
  obtain ⟨j, _, rfl⟩ := List.mem_map.1 hX
  exact gp_ne j
theorem gp_ginv {n : Nat} (h : n ≤ 255) : gp (255 - n) = ginv (gp n) := by
  refine gm_cancel (gp_ne n) ?_
  rw [gm_ginv (gp_ne n), gp_add, show n + (255 - n) = 255 by omega, gp_255]
theorem plF_PL : ∀ (K : List Int) (p : Bytes), co (K.foldl (fun p e => trim (pmul p [1, gp e.toNat])) p) = fmul (co p) (co (PL (gX (K.map Int.toNat))))
  | [], p => by
    show co p = fmul (co p) (co [1])
    rw [one_co, fmul_comm, one_fmul]
  | e :: K, p => by
    rw [List.foldl_cons, plF_PL K, co_trimf, co_mulf, fmul_assoc, List.map_cons]
    show _ = fmul (co p) (co (PL (gp e.toNat :: gX (K.map Int.toNat))))
    rw [co_PL]
theorem plF_co (K : List Int) : co (plF K) = co (PL (gX (K.map Int.toNat))) := by
  unfold plF
  rw [plF_PL, one_co, one_fmul]
open Classical in
noncomputable def lg (X : UInt8) : Nat := if h : X ≠ 0 then Classical.choose (gp_all h) else 0
theorem lg_gp {m : Nat} (h : m < 255) : lg (gp m) = m := by
  unfold lg
  rw [dif_pos (gp_ne m)]
  have hs := Classical.choose_spec (gp_all (gp_ne m))
  exact (gp_inj h hs.1 hs.2).symm
theorem SG_list (e : UInt8 → UInt8) (i : Nat) : ∀ l : List Nat, SG e (gX l) i = lsum (fun m => gm (e (gp m)) (gpow (gp m) i)) l
  | [] => rfl
  | m :: r => by
    rw [lsum, ← SG_list e i r]
    show fmul (mono (e (gp m)) 0) (geo (gp m)) i ^^^ SG e (gX r) i = _
    rw [mono0]; rfl

/-! Making right, step by step. -/
theorem fixL_eq (size slope : Bytes) : ∀ (R : List Nat) (out : Bytes) (many : Int), R.Nodup → (∀ m ∈ R, m < out.length) → (∀ m ∈ R, ev slope (gp (255 - m)) ≠ 0) →
    ∃ o, fixL size slope (R.map Int.ofNat) out many = some (o, many + ((R.filter fun m => efix size slope m != 0).length : Nat)) ∧ o.length = out.length ∧ ∀ k, k < out.length → co o k = co out k ^^^ (if out.length - 1 - k ∈ R then efix size slope (out.length - 1 - k) else 0)
  | [], out, many, _, _, _ => ⟨out, by simp [fixL], rfl, fun k _ => by rw [if_neg (List.not_mem_nil), UInt8.xor_zero]⟩
  | m :: r, out, many, hn, hl, hs => by
    rw [List.nodup_cons] at hn
    have hm := hl m (List.mem_cons_self ..)
    obtain ⟨o, o1, o2, o3⟩ := fixL_eq size slope r (out.set (out.length - 1 - m) (co out (out.length - 1 - m) ^^^ efix size slope m)) (if efix size slope m = 0 then many else many + 1) hn.2 (fun k hk => by rw [List.length_set]; exact hl k (List.mem_cons_of_mem _ hk)) fun k hk => hs k (List.mem_cons_of_mem _ hk)
    rw [List.length_set] at o2 o3
    refine ⟨o, ?_, o2, fun k hk => ?_⟩
    · rw [List.map_cons, fixL]
      show (if ev slope (gp (255 - m)) = 0 then _ else _) = _
      rw [if_neg (hs m (List.mem_cons_self ..))]
      show fixL size slope (r.map Int.ofNat) (out.set (out.length - 1 - m) (co out (out.length - 1 - m) ^^^ efix size slope m)) (if efix size slope m = 0 then many else many + 1) = _
      rw [o1]
      congr 2
      by_cases h0 : efix size slope m = 0
      · rw [if_pos h0, List.filter_cons_of_neg (by simp [h0])]
      · rw [if_neg h0, List.filter_cons_of_pos (by simp [h0]), List.length_cons]; omega
    · rw [o3 k hk, co_set]
      by_cases hk1 : k = out.length - 1 - m
      · have h2 : out.length - 1 - k = m := by omega
        rw [if_pos ⟨hk1, by omega⟩, h2, if_neg hn.1, UInt8.xor_zero, if_pos (List.mem_cons_self ..), hk1]
      · have h2 : out.length - 1 - k ≠ m := by omega
        rw [if_neg (fun h => hk1 h.1)]
        congr 1
        by_cases hr : out.length - 1 - k ∈ r
        · rw [if_pos hr, if_pos (List.mem_cons_of_mem _ hr)]
        · rw [if_neg hr, if_neg fun hc => by
            rcases List.mem_cons.1 hc with hc | hc
            · exact h2 hc
            · exact hr hc]
theorem fixL_some (size slope : Bytes) : ∀ (R : List Nat) (out : Bytes) (many : Int) (x : Bytes × Int), fixL size slope (R.map Int.ofNat) out many = some x → ∀ m ∈ R, ev slope (gp (255 - m)) ≠ 0
  | [], _, _, _, _, m, hm => by cases hm
  | k :: r, out, many, x, h, m, hm => by
    rw [List.map_cons, fixL] at h
    have h : (if ev slope (gp (255 - k)) = 0 then none else fixL size slope (r.map Int.ofNat) (out.set (out.length - 1 - k) (co out (out.length - 1 - k) ^^^ efix size slope k)) (if efix size slope k = 0 then many else many + 1)) = some x := h
    by_cases h0 : ev slope (gp (255 - k)) = 0
    · rw [if_pos h0] at h; cases h
    · rw [if_neg h0] at h
      rcases List.mem_cons.1 hm with rfl | hm
      · exact h0
      · exact fixL_some size slope r _ _ x h m hm
/-- The places at which it is nought, as natural numbers. -/
def roN (p : Bytes) (long : Nat) : List Nat := (List.range long).filter fun n => ev p (gp (255 - n)) == 0
theorem roF_N (p : Bytes) (long : Nat) : roF p long = (roN p long).map Int.ofNat := rfl
theorem roN_mem {p : Bytes} {n k : Nat} : k ∈ roN p n ↔ k < n ∧ ev p (gp (255 - k)) = 0 := by
  unfold roN
  rw [List.mem_filter, List.mem_range]
  simp
theorem roN_nodup (p : Bytes) (n : Nat) : (roN p n).Nodup := List.Pairwise.filter _ List.nodup_range
/-- At how many places two words are not the same. -/
def dfc (s w : Bytes) : Nat := ((List.range s.length).filter fun k => co s k != co w k).length
theorem len_same {l l' : List Nat} (h1 : l.Nodup) (h2 : l'.Nodup) (h : ∀ k, k ∈ l ↔ k ∈ l') : l.length = l'.length := ((List.perm_ext_iff_of_nodup h1 h2).2 fun {k} => h k).length_eq
theorem nodup_map {f : Nat → Nat} : ∀ {l : List Nat}, l.Nodup → (∀ a ∈ l, ∀ b ∈ l, f a = f b → a = b) → (l.map f).Nodup
  | [], _, _ => List.nodup_nil
  | m :: r, h, hi => by
    rw [List.nodup_cons] at h
    rw [List.map_cons, List.nodup_cons]
    refine ⟨fun hc => ?_, nodup_map h.2 fun a ha b hb => hi a (List.mem_cons_of_mem _ ha) b (List.mem_cons_of_mem _ hb)⟩
    obtain ⟨k, h1, h2⟩ := List.mem_map.1 hc
    exact h.1 (hi k (List.mem_cons_of_mem _ h1) m (List.mem_cons_self ..) h2 ▸ h1)
theorem fix_count {s o : Bytes} {R : List Nat} {F : Nat → UInt8} (hn : R.Nodup) (hl : ∀ m ∈ R, m < s.length) (h : ∀ k, k < s.length → co o k = co s k ^^^ (if s.length - 1 - k ∈ R then F (s.length - 1 - k) else 0)) (q : Nat → Bool) : (R.filter fun m => F m != 0 && q m).length = ((List.range s.length).filter fun k => co s k != co o k && q (s.length - 1 - k)).length := by
  have h1 : ((R.filter fun m => F m != 0 && q m).map fun m => s.length - 1 - m).Nodup := nodup_map (List.Pairwise.filter _ hn) fun a ha b hb hab => by
    have := hl a (List.mem_filter.1 ha).1
    have := hl b (List.mem_filter.1 hb).1
    omega
  have h2 := len_same (l' := (List.range s.length).filter fun k => co s k != co o k && q (s.length - 1 - k)) h1 (List.Pairwise.filter _ List.nodup_range) fun k => by
    rw [List.mem_map, List.mem_filter, List.mem_range, Bool.and_eq_true, bne_iff_ne]
    constructor
    · rintro ⟨m, hm, rfl⟩
      obtain ⟨hm1, hm2⟩ := List.mem_filter.1 hm
      rw [Bool.and_eq_true, bne_iff_ne] at hm2
      have hml := hl m hm1
      have hk : s.length - 1 - (s.length - 1 - m) = m := by omega
      have := h (s.length - 1 - m) (by omega)
      rw [hk, if_pos hm1] at this
      refine ⟨by omega, fun he => hm2.1 ?_, by rw [hk]; exact hm2.2⟩
      rw [← he] at this
      have h3 := congrArg (fun x => co s (s.length - 1 - m) ^^^ x) this
      simp only [UInt8.xor_self, ← UInt8.xor_assoc, UInt8.zero_xor] at h3
      exact h3.symm
    · rintro ⟨hk, hne, hq⟩
      have hko := h k hk
      by_cases hR : s.length - 1 - k ∈ R
      · rw [if_pos hR] at hko
        refine ⟨s.length - 1 - k, List.mem_filter.2 ⟨hR, ?_⟩, by omega⟩
        rw [Bool.and_eq_true, bne_iff_ne]
        exact ⟨fun h0 => hne (by rw [hko, h0, UInt8.xor_zero]), hq⟩
      · rw [if_neg hR, UInt8.xor_zero] at hko
        exact absurd hko.symm hne
  rw [← h2, List.length_map]
theorem slope_co (p : Bytes) : co (trim (pslope p)) = fD (co p) := by
  funext i
  rw [co_trim]
  unfold pslope fD
  rw [co_pl]
  split
  · rfl
  · rw [co_ge (by omega)]
    split <;> rfl
theorem syn_cg (s : Bytes) (n : Nat) (K : List Int) : Cg n (co (syn s n K)) (fmul (co (pl n (sg s))) (co (plF K))) := fun i hi => by
  unfold syn
  rw [co_trim]
  have : co ((trim (pmul (pl n (sg s)) (plF K))).take n) i = co (trim (pmul (pl n (sg s)) (plF K))) i := by
    unfold co
    rw [List.getD_eq_getElem?_getD, List.getElem?_take_of_lt hi, List.getD_eq_getElem?_getD]
  rw [this, co_trim, co_mulf]
theorem ev_sc {p q : Bytes} {c : UInt8} (h : ∀ i, co p i = gm c (co q i)) (x : UInt8) : ev p x = gm c (ev q x) := by
  rw [← ev_psc]
  exact ev_co (fun i => by rw [h, co_psc]) x
theorem toN_map : ∀ (l : List Nat), (l.map Int.ofNat).map Int.toNat = l
  | [] => rfl
  | m :: r => by rw [List.map_cons, List.map_cons, toN_map r]; rfl
theorem sg_diff {s c : Bytes} (hl : c.length = s.length) {i : Nat} (hc : sg c i = 0) : sg s i = sm s.length fun m => gm (co (rv s) m ^^^ co (rv c) m) (gpow (gp m) i) := by
  have h1 : sg s i = sg s i ^^^ sg c i := by rw [hc, UInt8.xor_zero]
  rw [h1]
  unfold sg
  rw [ev_sm (p := rv s) (n := s.length) (fun j hj => co_ge (by rw [rv_len]; exact hj)), ev_sm (p := rv c) (n := s.length) (fun j hj => co_ge (by rw [rv_len, hl]; exact hj)), ← sm_xor]
  refine sm_congr fun m _ => ?_
  rw [← gm_xor, gpow_gp, gpow_gp, Nat.mul_comm]
open Classical in
/-- A word of which not too many bytes are others is made right. -/
theorem decC_ok {s c : Bytes} {n : Nat} {K : List Int} (hn : 1 ≤ n) (hs : s.length ≤ 255) (hl : c.length = s.length) (hc : rtB c n = true) (hr : rtB s n = false) (hK : (K.map Int.toNat).Nodup) (hKe : ∀ e ∈ K, 0 ≤ e ∧ e < (s.length : Int)) (hd : 2 * ((List.range s.length).filter fun m => decide (co (rv s) m ≠ co (rv c) m ∧ m ∉ K.map Int.toNat)).length + K.length ≤ n) : decC s n K = (c, (dfc s c : Int), 0) := by
  have hc' : ∀ i, i < n → sg c i = 0 := of_decide_eq_true hc
  generalize hEs : ((List.range s.length).filter fun m => decide (co (rv s) m ≠ co (rv c) m ∧ m ∉ K.map Int.toNat)) = Es at hd
  generalize hKn : K.map Int.toNat = Kn at hEs hK
  have hKl : Kn.length = K.length := by rw [← hKn, List.length_map]
  have hKm : ∀ m ∈ Kn, m < s.length := fun m hm => by
    rw [← hKn] at hm
    obtain ⟨e, h1, rfl⟩ := List.mem_map.1 hm
    have := hKe e h1
    omega
  have hEm : ∀ m, m ∈ Es ↔ m < s.length ∧ co (rv s) m ≠ co (rv c) m ∧ m ∉ Kn := fun m => by
    rw [← hEs, List.mem_filter, List.mem_range, decide_eq_true_iff]
  have hEn : Es.Nodup := by rw [← hEs]; exact List.Pairwise.filter _ List.nodup_range
  -- all places
  obtain ⟨W, hW⟩ : ∃ W, W = Es ++ Kn := ⟨_, rfl⟩
  have hWn : W.Nodup := by
    rw [hW, List.nodup_append]
    exact ⟨hEn, hK, fun a ha b hb hab => ((hEm a).1 ha).2.2 (hab ▸ hb)⟩
  have hWm : ∀ m ∈ W, m < s.length := fun m hm => by
    rw [hW] at hm
    rcases List.mem_append.1 hm with hm | hm
    · exact ((hEm m).1 hm).1
    · exact hKm m hm
  have hWo : ∀ m, m < s.length → m ∉ W → co (rv s) m = co (rv c) m := fun m hm hmW => by
    rw [hW, List.mem_append] at hmW
    by_cases he : co (rv s) m = co (rv c) m
    · exact he
    · exact absurd ((hEm m).2 ⟨hm, he, fun h => hmW (.inr h)⟩) fun h => hmW (.inl h)
  have hW255 : ∀ m ∈ W, m < 255 := fun m hm => by have := hWm m hm; omega
  let e : UInt8 → UInt8 := fun X => co (rv s) (lg X) ^^^ co (rv c) (lg X)
  have he : ∀ m, m < 255 → e (gp m) = co (rv s) m ^^^ co (rv c) m := fun m hm => by
    show co (rv s) (lg (gp m)) ^^^ _ = _
    rw [lg_gp hm]
  -- the signs
  have hS : Cg n (co (pl n (sg s))) (SG e (gX W)) := fun i hi => by
    rw [co_pl, if_pos hi, SG_list, sg_diff hl (hc' i hi), sm_list W _ hWn hWm fun m hm hmW => by rw [hWo m hm hmW, UInt8.xor_self, zero_gm]]
    exact lsum_congr fun m hm => by rw [he m (hW255 m hm)]
  have hP : co (PL (gX W)) = fmul (co (PL (gX Es))) (co (plF K)) := by
    rw [plF_co, hKn, hW]
    unfold gX
    rw [List.map_append, PL_append]
  have hkey : Cg n (fmul (co (PL (gX Es))) (co (syn s n K))) (co (OM e (gX W))) := by
    rw [← PL_SG e (gX W), hP, fmul_assoc, fmul_comm (co (plF K))]
    exact ((syn_cg s n K).trans (hS.mul _)).mul2 _
  have hWl : (gX W).length = Es.length + K.length := by
    unfold gX
    rw [List.length_map, hW, List.length_append, hKl]
  have hEl : (gX Es).length = Es.length := by unfold gX; rw [List.length_map]
  have hslW : ∀ X ∈ gX W, _ := fun X hX => OM_slope e (gX W) (gX_nodup hWn hW255) gX_ne X hX (trim (pslope (PL (gX W)))) (slope_co _)
  obtain ⟨c0, hc0, hb, hv⟩ := solve_one (T := syn s n K) (Om := OM e (gX W)) (Xs := gX Es) (l := K.length) hn (syn_len s n K) (gX_nodup hEn fun m hm => by have := ((hEm m).1 hm).1; omega) (fun X hX => by
      refine ⟨gX_ne X hX, fun h0 => ?_⟩
      obtain ⟨m, hm, rfl⟩ := List.mem_map.1 hX
      have hmE := (hEm m).1 hm
      have hmW : gp m ∈ gX W := List.mem_map.2 ⟨m, by rw [hW]; exact List.mem_append_left _ hm, rfl⟩
      obtain ⟨h1, h2⟩ := hslW _ hmW
      rw [h0, gm_zero, he m (by omega)] at h2
      rcases gm_eq_zero.1 h2.symm with h3 | h3
      · exact hmE.2.1 (xor_eq_zero.1 h3)
      · exact h1 h3) (by rw [hEl, ← hWl]; exact OM_bd e _) (by rw [hEl]; exact hd) hkey
  generalize hsol : solF (syn s n K) n K.length = q at *
  obtain ⟨b, v⟩ := q
  have hall : ∀ i, co (allF s n K) i = gm c0 (co (PL (gX W)) i) := fun i => by
    unfold allF
    rw [hsol, co_trim, co_mulf, hP]
    show fmul (co v) _ i = _
    have : co v = fmul (mono c0 0) (co (PL (gX Es))) := by funext j; rw [mono0]; exact hv j
    rw [this, fmul_assoc, mono0]
  have hT : tl (allF s n K) = W.length + 1 := tl_eq (fun i hi => by
      rw [hall, PL_bd (gX W) i (by unfold gX; rw [List.length_map]; exact hi), gm_zero]) fun _ => by
      rw [hall, Nat.add_sub_cancel]
      have := PL_top (gX W) gX_ne
      unfold gX at this ⊢
      rw [List.length_map] at this
      exact gm_ne hc0 this
  have hTv : tl v = Es.length + 1 := tl_eq (fun i hi => by
      have := hv i
      rw [this, PL_bd (gX Es) i (by rw [hEl]; exact hi), gm_zero]) fun _ => by
      have := hv Es.length
      rw [Nat.add_sub_cancel, this]
      have := PL_top (gX Es) gX_ne
      rw [hEl] at this
      exact gm_ne hc0 this
  -- its roots
  have hroot : ∀ m, m < s.length → (ev (allF s n K) (gp (255 - m)) = 0 ↔ m ∈ W) := fun m hm => by
    by_cases hm255 : m < 255
    · rw [gp_ginv (by omega), ev_sc hall, gm_eq_zero, ev_PL _ (gp_ne m), gX_mem hW255 hm255]
      exact ⟨fun h => h.elim (fun h => absurd h hc0) id, .inr⟩
    · omega
  have hRm : ∀ m, m ∈ roN (allF s n K) s.length ↔ m ∈ W := fun m => by
    rw [roN_mem]
    constructor
    · rintro ⟨h1, h2⟩; exact (hroot m h1).1 h2
    · intro h; exact ⟨hWm m h, (hroot m (hWm m h)).2 h⟩
  have hRl : (roN (allF s n K) s.length).length = W.length := len_same (roN_nodup _ _) hWn hRm
  have hWl2 : W.length = Es.length + K.length := by rw [hW, List.length_append, hKl]
  have hsl : ∀ i, co (trim (pslope (allF s n K))) i = gm c0 (co (trim (pslope (PL (gX W)))) i) := fun i => by
    rw [slope_co, slope_co]
    unfold fD
    split
    · exact hall _
    · rw [gm_zero]
  have hfix : ∀ m ∈ W, ev (trim (pslope (allF s n K))) (gp (255 - m)) ≠ 0 ∧ efix b (trim (pslope (allF s n K))) m = co (rv s) m ^^^ co (rv c) m := fun m hm => by
    have hm255 := hW255 m hm
    obtain ⟨h1, h2⟩ := hslW (gp m) (List.mem_map.2 ⟨m, hm, rfl⟩)
    rw [he m hm255] at h2
    have h3 : ev (trim (pslope (allF s n K))) (gp (255 - m)) ≠ 0 := by
      rw [gp_ginv (by omega), ev_sc hsl]; exact gm_ne hc0 h1
    refine ⟨h3, ?_⟩
    refine gm_cancel h3 ?_
    unfold efix
    have h4 : gm (ev (trim (pslope (allF s n K))) (gp (255 - m))) (gm (gp m) (gm (ev b (gp (255 - m))) (ginv (ev (trim (pslope (allF s n K))) (gp (255 - m)))))) = gm (gm (ev (trim (pslope (allF s n K))) (gp (255 - m))) (ginv (ev (trim (pslope (allF s n K))) (gp (255 - m))))) (gm (gp m) (ev b (gp (255 - m)))) := by ac_rfl
    have hb' : ∀ i, co b i = gm c0 (co (OM e (gX W)) i) := hb
    rw [h4, gm_ginv h3, one_gm, gp_ginv (by omega), ev_sc hb', ev_sc hsl]
    have h5 : gm (gp m) (gm c0 (ev (OM e (gX W)) (ginv (gp m)))) = gm c0 (gm (gp m) (ev (OM e (gX W)) (ginv (gp m)))) := by ac_rfl
    rw [h5, h2]
    ac_rfl
  obtain ⟨o, o1, o2, o3⟩ := fixL_eq b (trim (pslope (allF s n K))) (roN (allF s n K) s.length) s 0 (roN_nodup _ _) (fun m hm => (roN_mem.1 hm).1) fun m hm => (hfix m ((hRm m).1 hm)).1
  have hoc : o = c := by
    rw [← pl_co o, ← pl_co c, o2, hl]
    refine pl_congr fun k hk => ?_
    rw [o3 k hk]
    have hrs : ∀ t : Bytes, t.length = s.length → co (rv t) (s.length - 1 - k) = co t k := fun t ht => by
      rw [co_rv, ht, if_pos (by omega)]; congr 1; omega
    by_cases hkW : s.length - 1 - k ∈ W
    · rw [if_pos ((hRm _).2 hkW), (hfix _ hkW).2, hrs s rfl, hrs c hl, ← UInt8.xor_assoc, UInt8.xor_self, UInt8.zero_xor]
    · rw [if_neg fun h => hkW ((hRm _).1 h), UInt8.xor_zero]
      have := hWo _ (by omega) hkW
      rw [hrs s rfl, hrs c hl] at this
      exact this
  have hmany : ((roN (allF s n K) s.length).filter fun m => efix b (trim (pslope (allF s n K))) m != 0).length = dfc s c := by
    have := fix_count (s := s) (o := o) (roN_nodup (allF s n K) s.length) (fun m hm => (roN_mem.1 hm).1) o3 fun _ => true
    simp only [Bool.and_true] at this
    rw [this, hoc]; rfl
  have hW0 : W.length ≠ 0 := fun h0 => by
    have hnil : W = [] := List.eq_nil_of_length_eq_zero h0
    have : s = c := by
      rw [← pl_co s, ← pl_co c, hl]
      refine pl_congr fun k hk => ?_
      have hrs : ∀ t : Bytes, t.length = s.length → co (rv t) (s.length - 1 - k) = co t k := fun t ht => by
        rw [co_rv, ht, if_pos (by omega)]; congr 1; omega
      have := hWo (s.length - 1 - k) (by omega) (by rw [hnil]; exact List.not_mem_nil)
      rw [hrs s rfl, hrs c hl] at this
      exact this
    rw [this, hc] at hr
    exact absurd hr (by decide)
  unfold decC
  rw [hsol, roF_N, List.length_map, hRl, hT]
  show (if W.length = 0 ∨ (W.length : Int) ≠ ((W.length + 1 : Nat) : Int) - 1 ∨ (n : Int) < 2 * ((tl v : Int) - 1) + (K.length : Int) then _ else _) = _
  rw [hTv, if_neg (fun h => h.elim hW0 fun h => h.elim (fun h => h (by omega)) fun h => by omega)]
  rw [show fixL (b, v).1 (trim (pslope (allF s n K))) ((roN (allF s n K) s.length).map Int.ofNat) s 0 = _ from o1, hoc, hmany]
  show (if rtB c n = true then _ else _) = _
  rw [if_pos hc, Int.zero_add]
/-- What is made of a word is right, and near it. -/
theorem decC_near {s : Bytes} {n : Nat} {K : List Int} (hs : s.length ≤ 255) (hK : (K.map Int.toNat).Nodup) (hKe : ∀ e ∈ K, 0 ≤ e ∧ e < (s.length : Int)) : decC s n K = ([], 0, 280) ∨ ∃ o, decC s n K = (o, (dfc s o : Int), 0) ∧ o.length = s.length ∧ rtB o n = true ∧ 2 * ((List.range s.length).filter fun k => co s k != co o k && !((K.map Int.toNat).contains (s.length - 1 - k))).length + K.length ≤ n := by
  unfold decC
  split
  · exact .inl rfl
  rename_i hcond
  rw [roF_N, List.length_map] at hcond
  cases hf : fixL (solF (syn s n K) n K.length).1 (trim (pslope (allF s n K))) (roF (allF s n K) s.length) s 0 with
  | none => exact .inl rfl
  | some x =>
    rw [roF_N] at hf
    have hne := fixL_some _ _ _ _ _ _ hf
    obtain ⟨o, o1, o2, o3⟩ := fixL_eq (solF (syn s n K) n K.length).1 (trim (pslope (allF s n K))) (roN (allF s n K) s.length) s 0 (roN_nodup _ _) (fun m hm => (roN_mem.1 hm).1) hne
    rw [o1] at hf
    cases hf
    show (if rtB o n = true then _ else _) = _ ∨ ∃ o', (if rtB o n = true then _ else _) = _ ∧ _
    by_cases hrt : rtB o n = true
    rotate_left
    · left; rw [if_neg hrt]
    right
    refine ⟨o, ?_, o2, hrt, ?_⟩
    · rw [if_pos hrt]
      have := fix_count (s := s) (o := o) (roN_nodup (allF s n K) s.length) (fun m hm => (roN_mem.1 hm).1) o3 fun _ => true
      simp only [Bool.and_true] at this
      rw [this, Int.zero_add]; rfl
    · have hcnt := fix_count (s := s) (o := o) (roN_nodup (allF s n K) s.length) (fun m hm => (roN_mem.1 hm).1) o3 fun m => !((K.map Int.toNat).contains m)
      rw [← hcnt]
      generalize hq : ((roN (allF s n K) s.length).filter fun m => efix (solF (syn s n K) n K.length).1 (trim (pslope (allF s n K))) m != 0 && !((K.map Int.toNat).contains m)) = Q
      have hKm : ∀ m ∈ K.map Int.toNat, m < 255 := fun m hm => by
        obtain ⟨e, h1, rfl⟩ := List.mem_map.1 hm
        have := hKe e h1
        omega
      have hallf : co (allF s n K) = fmul (co (solF (syn s n K) n K.length).2) (co (plF K)) := by unfold allF; rw [co_trimf, co_mulf]
      have hpt : tl (plF K) = K.length + 1 := by
        have h1 := PL_bd (gX (K.map Int.toNat))
        have h2 := PL_top (gX (K.map Int.toNat)) gX_ne
        have hlen : (gX (K.map Int.toNat)).length = K.length := by unfold gX; rw [List.length_map, List.length_map]
        rw [← plF_co, hlen] at h1 h2
        exact tl_eq h1 fun _ => h2
      have h0 : 0 < tl (solF (syn s n K) n K.length).2 := by
        by_cases h : 0 < tl (solF (syn s n K) n K.length).2
        · exact h
        · rw [co_zero (show tl (solF (syn s n K) n K.length).2 = 0 by omega), none_fmul] at hallf
          have : tl (allF s n K) = 0 := tl_eq (fun i _ => by rw [hallf]) fun h => absurd h (by omega)
          omega
      have hlt : (gX Q).length < tl (solF (syn s n K) n K.length).2 := roots_few (gX_nodup (by rw [← hq]; exact List.Pairwise.filter _ (roN_nodup _ _)) fun m hm => by
          rw [← hq] at hm
          have := (roN_mem.1 (List.mem_filter.1 hm).1).1
          by_cases h255 : m < 255
          · exact h255
          · omega) (fun X hX => by
          refine ⟨gX_ne X hX, ?_⟩
          obtain ⟨m, hm, rfl⟩ := List.mem_map.1 hX
          rw [← hq] at hm
          obtain ⟨hm1, hm2⟩ := List.mem_filter.1 hm
          obtain ⟨hm3, hm4⟩ := roN_mem.1 hm1
          have hm255 : m < 255 := by omega
          rw [gp_ginv (by omega), ev_mulf hallf, gm_eq_zero] at hm4
          rcases hm4 with h | h
          · exact h
          · rw [ev_co (fun i => by rw [plF_co]) (p := plF K) (q := PL (gX (K.map Int.toNat))), ev_PL _ (gp_ne m), gX_mem hKm hm255] at h
            rw [Bool.and_eq_true, Bool.not_eq_true'] at hm2
            rw [List.contains_iff_mem.2 h] at hm2
            exact absurd hm2.2 (by decide)) h0
      have hgl : (gX Q).length = Q.length := by unfold gX; rw [List.length_map]
      omega
end Ev
namespace Ev
open Go (IntKind)

theorem sortI_le (l : List Int) : (sortI l).Pairwise (fun x y => x ≤ y) := by
  have := List.pairwise_mergeSort (le := fun x y : Int => decide (x ≤ y)) (fun a b c h1 h2 => decide_eq_true (Int.le_trans (of_decide_eq_true h1) (of_decide_eq_true h2))) (fun a b => by
    by_cases h : a ≤ b
    · rw [decide_eq_true h]; rfl
    · rw [decide_eq_true (show b ≤ a by omega), Bool.or_true]) l
  exact this.imp fun h => of_decide_eq_true h
theorem sortI_mem {l : List Int} {x : Int} : x ∈ sortI l ↔ x ∈ l := List.mem_mergeSort
theorem getD_le {l : List Int} (h : l.Pairwise (fun x y => x ≤ y)) {i j : Nat} (hij : i ≤ j) (hj : j < l.length) : l.getD i 0 ≤ l.getD j 0 := by
  rw [getD_lt hj, getD_lt (show i < l.length by omega)]
  by_cases he : i = j
  · subst he; exact Int.le_refl _
  · exact List.pairwise_iff_getElem.1 h i j (by omega) hj (by omega)
theorem cmpN_mem {l : List Int} {x : Int} : ∀ {i : Nat}, x ∈ cmpN l i ↔ ∃ k, k < i ∧ x = l.getD k 0
  | 0 => ⟨fun h => absurd h (show x ∉ ([] : List Int) from List.not_mem_nil), fun ⟨k, h, _⟩ => absurd h (Nat.not_lt_zero _)⟩
  | i + 1 => by
    rw [cmpN]
    split
    · rename_i hc
      rw [cmpN_mem]
      constructor
      · rintro ⟨k, h1, h2⟩; exact ⟨k, by omega, h2⟩
      · rintro ⟨k, h1, h2⟩
        by_cases hk : k = i
        · subst hk; exact ⟨k - 1, by omega, by rw [h2, hc.2]⟩
        · exact ⟨k, by omega, h2⟩
    · rw [List.mem_append, cmpN_mem, List.mem_singleton]
      constructor
      · rintro (⟨k, h1, h2⟩ | h)
        · exact ⟨k, by omega, h2⟩
        · exact ⟨i, by omega, h⟩
      · rintro ⟨k, h1, h2⟩
        by_cases hk : k = i
        · subst hk; exact .inr h2
        · exact .inl ⟨k, by omega, h2⟩
theorem cmpN_lt {l : List Int} (h : l.Pairwise (fun x y => x ≤ y)) : ∀ i, i ≤ l.length → (cmpN l i).Pairwise (fun x y => x < y)
  | 0, _ => List.Pairwise.nil
  | i + 1, hi => by
    rw [cmpN]
    split
    · exact cmpN_lt h i (by omega)
    · rename_i hc
      rw [List.pairwise_append]
      refine ⟨cmpN_lt h i (by omega), List.pairwise_singleton _ _, fun a ha b hb => ?_⟩
      rw [List.mem_singleton] at hb
      subst hb
      obtain ⟨k, hk, rfl⟩ := cmpN_mem.1 ha
      have h1 := getD_le h (show k ≤ i - 1 by omega) (by omega)
      have h2 := getD_le h (show i - 1 ≤ i by omega) (by omega)
      have h3 : l.getD i 0 ≠ l.getD (i - 1) 0 := fun he => hc ⟨by omega, he⟩
      omega
theorem lostK_mem {l : List Int} {n : Nat} {x : Int} : x ∈ lostK l n ↔ ∃ v ∈ l, x = (n : Int) - 1 - v := by
  unfold lostK
  have hlen : (lostM l n).length = (sortI (lostM l n)).length := (List.length_mergeSort _).symm
  rw [cmpN_mem, hlen]
  constructor
  · rintro ⟨k, h1, h2⟩
    rw [getD_lt h1] at h2
    have : x ∈ sortI (lostM l n) := by rw [h2]; exact List.getElem_mem h1
    rw [sortI_mem] at this
    obtain ⟨v, h3, h4⟩ := List.mem_map.1 this
    exact ⟨v, h3, h4.symm⟩
  · rintro ⟨v, h1, h2⟩
    have : x ∈ sortI (lostM l n) := by rw [sortI_mem]; exact List.mem_map.2 ⟨v, h1, h2.symm⟩
    obtain ⟨k, h3, h4⟩ := List.getElem_of_mem this
    exact ⟨k, h3, by rw [getD_lt h3, h4]⟩
theorem lostK_in {l : List Int} {n : Nat} (hb : ¬ badL l n) : ∀ e ∈ lostK l n, 0 ≤ e ∧ e < (n : Int) := fun e he => by
  obtain ⟨v, h1, rfl⟩ := lostK_mem.1 he
  by_cases h : v < 0 ∨ (n : Int) ≤ v
  · exact absurd ⟨v, h1, h⟩ hb
  · omega
theorem lostK_nodup {l : List Int} {n : Nat} (hb : ¬ badL l n) : ((lostK l n).map Int.toNat).Nodup := by
  have h1 : (lostK l n).Pairwise (fun x y => x < y) := by
    unfold lostK
    have hlen : (lostM l n).length = (sortI (lostM l n)).length := (List.length_mergeSort _).symm
    rw [hlen]
    exact cmpN_lt (sortI_le _) _ (Nat.le_refl _)
  have h2 := lostK_in hb
  generalize lostK l n = K at h1 h2
  induction K with
  | nil => exact List.nodup_nil
  | cons x r ih =>
    rw [List.pairwise_cons] at h1
    rw [List.map_cons, List.nodup_cons]
    refine ⟨fun hc => ?_, ih h1.2 fun e he => h2 e (List.mem_cons_of_mem _ he)⟩
    obtain ⟨y, hy, hxy⟩ := List.mem_map.1 hc
    have := h1.1 y hy
    have := h2 x (List.mem_cons_self ..)
    have := h2 y (List.mem_cons_of_mem _ hy)
    omega
/-- Places of the word itself. -/
theorem lostK_nat {l : List Int} {n k : Nat} (hb : ¬ badL l n) (hk : k < n) : n - 1 - k ∈ (lostK l n).map Int.toNat ↔ (k : Int) ∈ l := by
  rw [List.mem_map]
  constructor
  · rintro ⟨e, h1, h2⟩
    have h3 := lostK_in hb e h1
    obtain ⟨v, h4, rfl⟩ := lostK_mem.1 h1
    have : v = (k : Int) := by omega
    exact this ▸ h4
  · intro h
    exact ⟨(n : Int) - 1 - (k : Int), lostK_mem.2 ⟨_, h, rfl⟩, by omega⟩
/-- So many they are, as there are numbers, each once. -/
theorem lostK_len {l : List Int} {n : Nat} (hb : ¬ badL l n) (p : Nat → Bool) (hp : ∀ k, k < n → (p k = true ↔ (k : Int) ∈ l)) : (lostK l n).length = ((List.range n).filter p).length := by
  have h1 : (((List.range n).filter p).map fun k => n - 1 - k).Nodup := nodup_map (List.Pairwise.filter _ List.nodup_range) fun a ha b hb hab => by
    have := List.mem_range.1 (List.mem_filter.1 ha).1
    have := List.mem_range.1 (List.mem_filter.1 hb).1
    omega
  have h2 := len_same (lostK_nodup hb) h1 fun k => by
    rw [List.mem_map (l := (List.range n).filter p)]
    constructor
    · intro hk
      obtain ⟨e, he, hek⟩ := List.mem_map.1 hk
      have h3 := lostK_in hb e he
      have hkn : k < n := by omega
      refine ⟨n - 1 - k, List.mem_filter.2 ⟨List.mem_range.2 (by omega), ?_⟩, by omega⟩
      rw [hp _ (by omega)]
      refine (lostK_nat hb (by omega)).1 ?_
      rw [show n - 1 - (n - 1 - k) = k by omega]
      exact hk
    · rintro ⟨j, hj, rfl⟩
      obtain ⟨h4, h5⟩ := List.mem_filter.1 hj
      have := List.mem_range.1 h4
      exact (lostK_nat hb this).2 ((hp j this).1 h5)
  rw [List.length_map, List.length_map] at h2
  exact h2
open Classical in
/-- Decoding. -/
theorem decode_eq {H : Heap} {ts : Sl} {l : List Int} (h : Row H 1 ts (intC l)) (hl : l.length < 100000) (s : Bytes) (n : Nat) (hs : s.length < 100000) (hn : n < 1000) : ∃ G, rs_Decode s (n : Int) ts H = some (((decF s n l).1, (decF s n l).2.1, (decF s n l).2.2, ()), G) ∧ Keep (fun _ => False) H G := by
  obtain ⟨t, ok, G1, e1, e2, e3, e4⟩ := lostOf_eq h hl (long := s.length) hs (n : Int)
  unfold rs_Decode
  simp only [e1, bind_some, check_eq]
  unfold decF
  cases hck : ckB s.length n with
  | false =>
    rw [if_pos rfl]
    exact ⟨G1, rfl, e2⟩
  | true =>
    rw [if_neg (by decide)]
    have hck' : 1 ≤ (n : Int) ∧ (n : Int) ≤ 32 ∧ (n : Int) < (s.length : Int) ∧ (s.length : Int) ≤ 255 := of_decide_eq_true hck
    by_cases hb : badL l s.length
    · rw [if_pos (.inl hb), e3 hb]
      exact ⟨G1, rfl, e2⟩
    · obtain ⟨e5, e6⟩ := e4 hb
      by_cases hk : n < (lostK l s.length).length
      · rw [if_pos (.inr hk), e5, decide_eq_false (by omega)]
        exact ⟨G1, rfl, e2⟩
      · rw [if_neg (fun h => h.elim hb hk), e5, decide_eq_true (by omega)]
        simp only [Bool.not_true, cond_f, right_eq s n (by omega) (by omega), bind_some, hck, Bool.true_and]
        cases hrt : rtB s n with
        | true =>
          rw [if_pos rfl]
          exact ⟨G1, rfl, e2⟩
        | false =>
          rw [if_neg (by decide)]
          have hKm : ∀ e ∈ lostK l s.length, 0 ≤ e ∧ e < (s.length : Int) := lostK_in hb
          obtain ⟨G, f1, f2⟩ := decC_eq e6 (n := n) (s := s) (by omega) hKm (by omega) (by omega)
          exact ⟨G, f1, e2.trans f2⟩

/-! What is made is right. -/
theorem ev_two (a x : UInt8) : ev [a, 1] x = x ^^^ a := by
  show gm (gm 0 x ^^^ 1) x ^^^ a = _
  rw [zero_gm, UInt8.zero_xor, one_gm]
theorem dvF_tl : ∀ n, tl (dvF n) = n + 1
  | 0 => rfl
  | n + 1 => by
    have h2 : tl [gp n, 1] = 2 := tl_eq (fun i hi => co_ge hi) fun _ => by show (1 : UInt8) ≠ 0; decide
    rw [tl_fmul (p := dvF n) (q := [gp n, 1]) (by rw [dvF_tl n]; omega) (by omega) (by rw [dvF, co_trimf, co_mulf]), dvF_tl n, h2]
    omega
theorem dvF_root : ∀ n i, i < n → ev (dvF n) (gp i) = 0
  | 0, i, h => absurd h (Nat.not_lt_zero _)
  | n + 1, i, h => by
    rw [dvF, ev_trim, ev_pmul, ev_two, gm_eq_zero]
    by_cases hi : i = n
    · subst hi; exact .inr UInt8.xor_self
    · exact .inl (dvF_root n i (by omega))
theorem rem_len (s : Bytes) (n : Nat) : (remF s n).length ≤ n := by
  have := pmod_len (p := trim (psh n (rv s))) (q := dvF n) (by rw [dvF_tl]; omega)
  rw [dvF_tl] at this
  exact Nat.le_of_lt_succ this
theorem enc_len (s : Bytes) (n : Nat) : (encF s n).length = s.length + n := by unfold encF tailF; rw [List.length_append, pl_len]
theorem co_app (a b : Bytes) (i : Nat) : co (a ++ b) i = if i < a.length then co a i else co b (i - a.length) := by
  unfold co
  rw [List.getD_eq_getElem?_getD, List.getD_eq_getElem?_getD, List.getD_eq_getElem?_getD]
  split
  · rename_i h; rw [List.getElem?_append_left h]
  · rename_i h; rw [List.getElem?_append_right (by omega)]
theorem enc_rv (s : Bytes) (n : Nat) (i : Nat) : co (rv (encF s n)) i = co (remF s n) i ^^^ co (psh n (rv s)) i := by
  rw [co_rv, enc_len, co_psh, co_rv]
  unfold encF tailF
  by_cases h : i < s.length + n
  · rw [if_pos h, co_app]
    by_cases h2 : i < n
    · rw [if_neg (by omega), co_pl, if_pos (by omega), if_pos h2, UInt8.xor_zero]
      congr 1; omega
    · rw [if_pos (by omega), if_neg h2, if_pos (by omega), co_ge (p := remF s n) (by have := rem_len s n; omega), UInt8.zero_xor]
      congr 1; omega
  · rw [if_neg h, if_neg (by omega), if_neg (by omega), co_ge (p := remF s n) (by have := rem_len s n; omega), UInt8.xor_zero]
theorem enc_right (s : Bytes) (n : Nat) : rtB (encF s n) n = true := decide_eq_true fun i hi => by
  unfold sg
  have h1 : ev (rv (encF s n)) (gp i) = ev (padd (remF s n) (psh n (rv s))) (gp i) := ev_co (fun k => by rw [enc_rv, co_padd]) _
  rw [h1, ev_padd]
  unfold remF
  rw [ev_pmod (dvF_root n i hi), ev_trim, UInt8.xor_self]
theorem encode_ok (s : Bytes) (n : Nat) (hl : s.length < 1000) (h1 : 1 ≤ n) (h2 : n ≤ 32) (h3 : 0 < s.length) (h4 : s.length + n ≤ 255) : rs_Encode s (n : Int) = some (encF s n, 0, ()) :=
  encode_eq s n hl (by omega) (decide_eq_true (by omega)) (by rw [dvF_tl]; omega) (rem_len s n)

/-! Two right words. -/
theorem far {x y : Bytes} {n : Nat} (hs : x.length ≤ 255) (hl : y.length = x.length) (hx : rtB x n = true) (hy : rtB y n = true) (hd : dfc x y ≤ n) : x = y := by
  have hx' : ∀ i, i < n → sg x i = 0 := of_decide_eq_true hx
  have hy' : ∀ i, i < n → sg y i = 0 := of_decide_eq_true hy
  have hrs : ∀ t : Bytes, t.length = x.length → ∀ k, k < x.length → co (rv t) (x.length - 1 - k) = co t k := fun t ht k hk => by
    rw [co_rv, ht, if_pos (by omega)]; congr 1; omega
  generalize hW : ((List.range x.length).filter fun k => co x (x.length - 1 - k) != co y (x.length - 1 - k)) = W
  have hWn : W.Nodup := by rw [← hW]; exact List.Pairwise.filter _ List.nodup_range
  have hWm : ∀ m, m ∈ W ↔ m < x.length ∧ co (rv x) m ≠ co (rv y) m := fun m => by
    rw [← hW, List.mem_filter, List.mem_range, bne_iff_ne]
    constructor
    · rintro ⟨h1, h2⟩
      refine ⟨h1, fun h3 => h2 ?_⟩
      rw [co_rv, co_rv, hl, if_pos h1, if_pos h1] at h3
      exact h3
    · rintro ⟨h1, h2⟩
      refine ⟨h1, fun h3 => h2 ?_⟩
      rw [co_rv, co_rv, hl, if_pos h1, if_pos h1]
      exact h3
  have hWl : W.length = dfc x y := by
    have h1 : (W.map fun m => x.length - 1 - m).Nodup := nodup_map hWn fun a ha b hb hab => by
      have := ((hWm a).1 ha).1
      have := ((hWm b).1 hb).1
      omega
    have h2 := len_same (l' := (List.range x.length).filter fun k => co x k != co y k) h1 (List.Pairwise.filter _ List.nodup_range) fun k => by
      rw [List.mem_map, List.mem_filter, List.mem_range, bne_iff_ne]
      constructor
      · rintro ⟨m, hm, rfl⟩
        obtain ⟨h3, h4⟩ := (hWm m).1 hm
        refine ⟨by omega, fun h5 => h4 ?_⟩
        rw [co_rv, co_rv, hl, if_pos h3, if_pos h3]
        exact h5
      · rintro ⟨h3, h4⟩
        refine ⟨x.length - 1 - k, (hWm _).2 ⟨by omega, fun h5 => h4 ?_⟩, by omega⟩
        rw [hrs x rfl k h3, hrs y hl k h3] at h5
        exact h5
    rw [List.length_map] at h2
    exact h2
  have hW255 : ∀ m ∈ W, m < 255 := fun m hm => by have := ((hWm m).1 hm).1; omega
  let e : UInt8 → UInt8 := fun X => co (rv x) (lg X) ^^^ co (rv y) (lg X)
  have he : ∀ m, m < 255 → e (gp m) = co (rv x) m ^^^ co (rv y) m := fun m hm => by
    show co (rv x) (lg (gp m)) ^^^ _ = _
    rw [lg_gp hm]
  have hS : Cg n (fun _ => 0) (SG e (gX W)) := fun i hi => by
    show 0 = _
    rw [SG_list, ← hx' i hi, sg_diff hl (hy' i hi), sm_list W _ hWn (fun m hm => ((hWm m).1 hm).1) fun m hm hmW => by
      by_cases h : co (rv x) m = co (rv y) m
      · rw [h, UInt8.xor_self, zero_gm]
      · exact absurd ((hWm m).2 ⟨hm, h⟩) hmW]
    exact lsum_congr fun m hm => by rw [he m (hW255 m hm)]
  have hO : co (OM e (gX W)) = fun _ => 0 := by
    have h1 : Cg n (co (OM e (gX W))) (fun _ => 0) := by
      rw [← PL_SG e (gX W)]
      have := (hS.symm).mul2 (co (PL (gX W)))
      rw [fmul_none] at this
      exact this
    refine h1.full ((OM_bd e (gX W)).mono' ?_) fun _ _ => rfl
    unfold gX
    rw [List.length_map, hWl]; exact hd
  have hnil : ∀ m, m ∉ W := fun m hm => by
    obtain ⟨h1, h2⟩ := OM_slope e (gX W) (gX_nodup hWn hW255) gX_ne (gp m) (List.mem_map.2 ⟨m, hm, rfl⟩) (trim (pslope (PL (gX W)))) (slope_co _)
    rw [ev_none (fun i => by rw [hO]), gm_zero, he m (hW255 m hm)] at h2
    rcases gm_eq_zero.1 h2.symm with h3 | h3
    · exact ((hWm m).1 hm).2 (xor_eq_zero.1 h3)
    · exact h1 h3
  rw [← pl_co x, ← pl_co y, hl]
  refine pl_congr fun k hk => ?_
  have := hnil (x.length - 1 - k)
  rw [hWm, hrs x rfl k hk, hrs y hl k hk] at this
  by_cases h : co x k = co y k
  · exact h
  · exact absurd ⟨by omega, h⟩ this
end Ev
namespace Ev
open Go (IntKind)

theorem rv_rev (s : Bytes) : rv s = s.reverse := by
  apply List.ext_getElem?
  intro i
  by_cases h : i < s.length
  · rw [List.getElem?_reverse h, List.getElem?_eq_getElem (by rw [rv_len]; exact h), ← co_lt (by rw [rv_len]; exact h), co_rv, if_pos h, List.getElem?_eq_getElem (by omega), ← co_lt (by omega)]
  · rw [List.getElem?_eq_none (by rw [rv_len]; omega), List.getElem?_eq_none (by rw [List.length_reverse]; omega)]
theorem rv_snoc (t : Bytes) (c : UInt8) : rv (t ++ [c]) = c :: rv t := by rw [rv_rev, rv_rev, List.reverse_append]; rfl
theorem idx_co {s : Bytes} {i : Nat} (h : i < s.length) : idxS s (i : Int) = some (un (co s i)) := by rw [idx_of h, co_lt h]
theorem take_co {s : Bytes} {i : Nat} (h : i < s.length) : s.take (i + 1) = s.take i ++ [co s i] := by rw [List.take_succ_eq_append_getElem h, co_lt h]
/-- Some bits of a number. -/
theorem low_of (x : Int) (k : Nat) (hk : k ≤ 6) : ∃ n : Nat, n < 2 ^ k ∧ bitsI .and .i64 x (2 ^ k - 1) = (n : Int) := by
  have h := and_ones (k := .i64) (x := x) k rfl (by show k < 64; omega)
  have hp : (1 : Int) ≤ 2 ^ k := by
    have : (1 : Nat) ≤ 2 ^ k := Nat.one_le_two_pow
    exact_mod_cast this
  refine ⟨(bitsI .and .i64 x (2 ^ k - 1)).toNat, ?_, (Int.toNat_of_nonneg h.1).symm⟩
  have h3 : (((2 ^ k : Nat)) : Int) = 2 ^ k := by rw [Int.natCast_pow]; rfl
  omega
theorem dfc_one {s : Bytes} {i : Nat} {x : UInt8} (hi : i < s.length) (hx : x ≠ 0) : ((List.range s.length).filter fun k => co s k != co (s.set i (co s i ^^^ x)) k) = [i] := by
  have h1 : ∀ k, k ∈ ((List.range s.length).filter fun k => co s k != co (s.set i (co s i ^^^ x)) k) ↔ k ∈ [i] := fun k => by
    rw [List.mem_filter, List.mem_range, bne_iff_ne, List.mem_singleton, co_set]
    constructor
    · rintro ⟨h1, h2⟩
      by_cases hk : k = i
      · exact hk
      · rw [if_neg (fun h => hk h.1)] at h2
        exact absurd rfl h2
    · rintro rfl
      refine ⟨hi, ?_⟩
      rw [if_pos ⟨rfl, hi⟩]
      intro h
      have h3 := congrArg (fun y => co s k ^^^ y) h
      simp only [UInt8.xor_self, ← UInt8.xor_assoc, UInt8.zero_xor] at h3
      exact hx h3.symm
  have h2 := len_same (List.Pairwise.filter _ List.nodup_range) (List.nodup_cons.2 ⟨List.not_mem_nil, List.nodup_nil⟩) h1
  generalize ((List.range s.length).filter fun k => co s k != co (s.set i (co s i ^^^ x)) k) = l at h1 h2
  match l, h2 with
  | [a], _ => rw [List.mem_singleton.1 ((h1 a).1 (List.mem_cons_self ..))]
theorem lostK_nil (n : Nat) : lostK [] n = [] := rfl
theorem badL_nil (n : Nat) : ¬ badL [] n := fun ⟨_, h, _⟩ => by cases h
theorem nil_row (H : Heap) (es : Nat) : Row H es ⟨none, 0, 0⟩ [] := ⟨rfl, fun _ => rfl⟩
theorem near_one {t o : Bytes} (hl : o.length = t.length) (hd : dfc t o ≤ 1) : o = t ∨ ∃ i x, i < t.length ∧ x ≠ 0 ∧ o = t.set i (co t i ^^^ x) := by
  have hm : ∀ k, k ∈ ((List.range t.length).filter fun k => co t k != co o k) ↔ k < t.length ∧ co t k ≠ co o k := fun k => by rw [List.mem_filter, List.mem_range, bne_iff_ne]
  unfold dfc at hd
  have hext : ∀ q : Bytes, q.length = t.length → (∀ k, k < t.length → co o k = co q k) → o = q := fun q hq h => by
    rw [← pl_co o, ← pl_co q, hl, hq]
    exact pl_congr h
  generalize ((List.range t.length).filter fun k => co t k != co o k) = l at hm hd
  match l, hd with
  | [], _ =>
    left
    refine hext t rfl fun k hk => ?_
    by_cases h : co t k = co o k
    · exact h.symm
    · exact absurd ((hm k).2 ⟨hk, h⟩) List.not_mem_nil
  | [i], _ =>
    right
    obtain ⟨h1, h2⟩ := (hm i).1 (List.mem_cons_self ..)
    refine ⟨i, co t i ^^^ co o i, h1, fun h => h2 (xor_eq_zero.1 h), ?_⟩
    refine hext _ List.length_set fun k hk => ?_
    rw [co_set]
    by_cases hki : k = i
    · subst hki
      rw [if_pos ⟨rfl, h1⟩, ← UInt8.xor_assoc, UInt8.xor_self, UInt8.zero_xor]
    · rw [if_neg fun h => hki h.1]
      by_cases h : co t k = co o k
      · exact h.symm
      · exact absurd (List.mem_singleton.1 ((hm k).2 ⟨hk, h⟩)) hki
theorem un_of {x : Nat} (h : x < 256) : un (UInt8.ofNat x) = (x : Int) := by
  show (((UInt8.ofNat x).toNat : Nat) : Int) = _
  rw [ofN_toN h]
theorem u8_of {v : Int} (h0 : 0 ≤ v) (h1 : v ≤ 255) : ∃ x : UInt8, v = un x := ⟨UInt8.ofNat v.toNat, by rw [un_of (by omega)]; omega⟩
def UAt (H : Heap) (c n : Nat) (f : Nat → Bool) : Prop := H[c]? = some (.cells (arrC n fun k => [.bool (f k)]) .exact)
theorem UAt.get {H : Heap} {c n : Nat} {f : Nat → Bool} (h : UAt H c n f) {i : Nat} (hi : i < n) : rdB H c i = some (f i) := by
  have := arrC_get (f := fun k => [C.bool (f k)]) (es := 1) (fun _ => rfl) (j := 0) (by decide) hi
  rw [Nat.mul_one, Nat.add_zero] at this
  exact rdB_of h this
theorem UAt.set {H : Heap} {c n : Nat} {f : Nat → Bool} (h : UAt H c n f) {i : Nat} (hi : i < n) (x : Bool) : ∃ G, wr H c i [.bool x] = some G ∧ UAt G c n (fun k => if k = i then x else f k) ∧ Keep (fun j => j = c) H G := by
  have hl := arrC_length (f := fun k => [C.bool (f k)]) (es := 1) (fun _ => rfl) n
  have hs := arrC_set (f := fun k => [C.bool (f k)]) (es := 1) (fun _ => rfl) (j := 0) (by decide) (.bool x) hi
  rw [Nat.mul_one, Nat.add_zero] at hs
  refine ⟨_, wr1_of h (by decide) (by omega), ?_, Keep.set _ _ _ rfl⟩
  unfold UAt
  rw [set_get (get_lt h), hs]
  congr 2
  refine arrC_congr fun k _ => ?_
  by_cases hk : k = i
  · subst hk; simp
  · simp [hk]
theorem mk_bools {H : Heap} {n : Nat} (h : n ≤ 35184372088832) : mkS H 1 [.bool false] (n : Int) (n : Int) = some (⟨some (H.length, 0), n, n⟩, H ++ [.cells (arrC n fun _ => [.bool false]) .exact]) := by
  unfold mkS
  have : decide (0 ≤ (n : Int) ∧ (n : Int) ≤ (n : Int) ∧ (n : Int).toNat * 1 ≤ maxRow ∧ (n : Int).toNat ≤ maxRow) = true := decide_eq_true ⟨by omega, by omega, by unfold maxRow; omega, by unfold maxRow; omega⟩
  rw [this, cond_t, Int.toNat_natCast]
  have : rep n [C.bool false] = arrC n fun _ => [.bool false] := by
    unfold rep
    clear h this
    induction n with
    | zero => rfl
    | succ n ih => rw [List.replicate_succ', List.flatten_append, ih, arrC]; rfl
  rw [this]
theorem xor_ne {a x : UInt8} : a ^^^ x = a ↔ x = 0 := by
  constructor
  · intro h
    have h3 := congrArg (fun y => a ^^^ y) h
    simp only [UInt8.xor_self, ← UInt8.xor_assoc, UInt8.zero_xor] at h3
    exact h3
  · rintro rfl; exact UInt8.xor_zero
/-! Counting. -/
def cN (L : Nat) (p : Nat → Bool) : Nat := ((List.range L).filter p).length
theorem cN_succ (L : Nat) (p : Nat → Bool) : cN (L + 1) p = cN L p + (if p L = true then 1 else 0) := by
  unfold cN
  rw [List.range_succ, List.filter_append, List.length_append]
  congr 1
  cases h : p L with
  | true => rw [List.filter_cons_of_pos h]; rfl
  | false => rw [List.filter_cons_of_neg (by rw [h]; decide)]; rfl
theorem cN_congr {p q : Nat → Bool} : ∀ {L : Nat}, (∀ k, k < L → p k = q k) → cN L p = cN L q
  | 0, _ => rfl
  | L + 1, h => by rw [cN_succ, cN_succ, cN_congr fun k hk => h k (by omega), h L (by omega)]
theorem cN_split {p : Nat → Bool} {a : Nat} : ∀ {L : Nat}, a < L → cN L p = cN L (fun k => p k && k != a) + (if p a = true then 1 else 0)
  | 0, h => absurd h (Nat.not_lt_zero _)
  | L + 1, h => by
    rw [cN_succ, cN_succ]
    by_cases ha : a = L
    · subst ha
      have : cN a (fun k => p k && k != a) = cN a p := cN_congr fun k hk => by
        have : (k != a) = true := bne_iff_ne.2 (by omega)
        rw [this, Bool.and_true]
      rw [this]
      simp
    · rw [cN_split (L := L) (a := a) (by omega)]
      have : (L != a) = true := bne_iff_ne.2 (by omega)
      rw [this, Bool.and_true]
      omega
theorem cN_le (L : Nat) (p : Nat → Bool) : cN L p ≤ L := Nat.le_trans (List.length_filter_le _ _) (by rw [List.length_range]; exact Nat.le_refl _)
theorem cN_mono {p q : Nat → Bool} : ∀ {L : Nat}, (∀ k, k < L → p k = true → q k = true) → cN L p ≤ cN L q
  | 0, _ => Nat.le_refl 0
  | L + 1, h => by
    rw [cN_succ, cN_succ]
    have := cN_mono (L := L) fun k hk => h k (by omega)
    have := h L (by omega)
    by_cases hp : p L = true
    · rw [if_pos hp, if_pos (this hp)]; omega
    · rw [if_neg hp]; omega
theorem cN_or (p q : Nat → Bool) : ∀ L, cN L (fun k => p k || q k) ≤ cN L p + cN L q
  | 0 => Nat.le_refl 0
  | L + 1 => by
    rw [cN_succ, cN_succ, cN_succ]
    have := cN_or p q L
    cases p L <;> cases q L <;> simp <;> omega
theorem cN_list {L : Nat} {l : List Nat} (hn : l.Nodup) (hl : ∀ k ∈ l, k < L) : cN L (fun k => l.contains k) = l.length := by
  refine len_same (List.Pairwise.filter _ List.nodup_range) hn fun k => ?_
  rw [List.mem_filter, List.mem_range, List.contains_iff_mem]
  exact ⟨fun h => h.2, fun h => ⟨hl k h, h⟩⟩
open Classical in
theorem cnt_rev {s c : Bytes} (hl : c.length = s.length) {l : List Int} (hb : ¬ badL l s.length) (p : Nat → Bool) (hp : ∀ k, k < s.length → (p k = true ↔ (k : Int) ∈ l)) : ((List.range s.length).filter fun m => decide (co (rv s) m ≠ co (rv c) m ∧ m ∉ (lostK l s.length).map Int.toNat)).length = cN s.length fun k => co s k != co c k && !(p k) := by
  have h2 : (((List.range s.length).filter fun m => decide (co (rv s) m ≠ co (rv c) m ∧ m ∉ (lostK l s.length).map Int.toNat)).map fun m => s.length - 1 - m).Nodup := nodup_map (List.Pairwise.filter _ List.nodup_range) fun a ha b hb hab => by
    have := List.mem_range.1 (List.mem_filter.1 ha).1
    have := List.mem_range.1 (List.mem_filter.1 hb).1
    omega
  have hpn : ∀ k, k < s.length → (p k = false ↔ (k : Int) ∉ l) := fun k hk => by
    rw [← hp k hk]
    cases p k <;> simp
  have h3 := len_same (l' := (List.range s.length).filter fun k => co s k != co c k && !(p k)) h2 (List.Pairwise.filter _ List.nodup_range) fun k => by
    rw [List.mem_map, List.mem_filter, List.mem_range, Bool.and_eq_true, bne_iff_ne, Bool.not_eq_true']
    constructor
    · rintro ⟨m, hm, rfl⟩
      obtain ⟨h4, h5⟩ := List.mem_filter.1 hm
      have h4 := List.mem_range.1 h4
      obtain ⟨h5, h6⟩ := of_decide_eq_true h5
      rw [co_rv, co_rv, hl, if_pos h4, if_pos h4] at h5
      refine ⟨by omega, h5, (hpn _ (by omega)).2 fun h7 => h6 ?_⟩
      have := (lostK_nat hb (show s.length - 1 - m < s.length by omega)).2 h7
      rw [show s.length - 1 - (s.length - 1 - m) = m by omega] at this
      exact this
    · rintro ⟨h4, h5, h6⟩
      refine ⟨s.length - 1 - k, List.mem_filter.2 ⟨List.mem_range.2 (by omega), decide_eq_true ⟨?_, fun h7 => (hpn k h4).1 h6 ((lostK_nat hb h4).1 h7)⟩⟩, by omega⟩
      rw [co_rv, co_rv, hl, if_pos (by omega), if_pos (by omega), show s.length - 1 - (s.length - 1 - k) = k by omega]
      exact h5
  rw [List.length_map] at h3
  exact h3
/-- A word of which not too many bytes are others, or lost. -/
theorem dec_ok {s c : Bytes} {n : Nat} {l : List Int} (hck : ckB s.length n = true) (hl : c.length = s.length) (hc : rtB c n = true) (p : Nat → Bool) (hb : ¬ badL l s.length) (hp : ∀ k, k < s.length → (p k = true ↔ (k : Int) ∈ l)) (hd : 2 * (cN s.length fun k => co s k != co c k && !(p k)) + cN s.length p ≤ n) : decF s n l = (c, (dfc s c : Int), 0) := by
  have hck' : 1 ≤ (n : Int) ∧ (n : Int) ≤ 32 ∧ (n : Int) < (s.length : Int) ∧ (s.length : Int) ≤ 255 := of_decide_eq_true hck
  have hKl : (lostK l s.length).length = cN s.length p := lostK_len hb p hp
  unfold decF
  rw [hck, if_neg (by decide), if_neg (fun h => h.elim hb fun h => by omega)]
  cases hr : rtB s n with
  | true =>
    have hdf : dfc s c ≤ n := by
      have h1 : dfc s c = cN s.length fun k => co s k != co c k := rfl
      have h2 := cN_or (fun k => co s k != co c k && !(p k)) p s.length
      have h3 : cN s.length (fun k => co s k != co c k) ≤ cN s.length fun k => (co s k != co c k && !(p k)) || p k := cN_mono fun k _ h => by
        rw [h, Bool.true_and]
        cases p k <;> rfl
      omega
    have := far (by omega) hl hr hc hdf
    subst this
    rw [if_pos rfl]
    have : dfc s s = 0 := by
      unfold dfc
      rw [List.filter_eq_nil_iff.2 fun k _ => by simp]; rfl
    rw [this]; rfl
  | false =>
    rw [if_neg (by decide)]
    refine decC_ok (by omega) (by omega) hl hc hr (lostK_nodup hb) (lostK_in hb) ?_
    have := cnt_rev hl hb p hp
    rw [hKl]
    have h4 : ∀ x, x = (cN s.length fun k => co s k != co c k && !(p k)) → 2 * x + cN s.length p ≤ n := fun x hx => by rw [hx]; exact hd
    refine h4 _ ?_
    rw [← this]

end Ev
