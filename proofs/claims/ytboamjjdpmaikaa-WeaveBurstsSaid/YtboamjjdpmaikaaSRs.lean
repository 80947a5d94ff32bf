/- Words: their signs, whether they are right, how they are made. -/
import Derived.Test.YtboamjjdpmaikaaGRs
import Derived.Test.YtboamjjdpmaikaaSPolyC
namespace Ev
open Go (IntKind)

theorem sumL {α β γ : Type} (f : α → γ) (g : β → γ) (x : α) : Sum.elim f g (.inl x) = f x := rfl
theorem sumR {α β γ : Type} (f : α → γ) (g : β → γ) (x : β) : Sum.elim f g (.inr x) = g x := rfl
def ckB (a b : Int) : Bool := decide (1 ≤ b ∧ b ≤ 32 ∧ b < a ∧ a ≤ 255)
theorem check_eq (a b : Int) : rs_Check a b = some (ckB a b, ()) := by
  unfold rs_Check rs_Check.on ckB
  by_cases h1 : 1 ≤ b
  · by_cases h2 : b ≤ 32
    · by_cases h3 : b < a
      · by_cases h4 : a ≤ 255
        · simp [h1, h2, h3, h4]
        · simp [h1, h2, h3, h4]
      · simp [h1, h2, h3]
    · simp [h1, h2]
  · simp [h1]
/-- The last byte first. -/
def rv (s : Bytes) : Bytes := pl s.length fun k => co s (s.length - 1 - k)
theorem rv_len (s : Bytes) : (rv s).length = s.length := pl_len _ _
theorem co_rv (s : Bytes) (k : Nat) : co (rv s) k = if k < s.length then co s (s.length - 1 - k) else 0 := co_pl _ _ _
def LAt (H : Heap) (c n : Nat) (f : Nat → UInt8) : Prop := H[c]? = some (.cells (arrC n fun k => [.int .u8 (un (f k))]) .loose)
theorem LAt.get {H : Heap} {c n : Nat} {f : Nat → UInt8} (h : LAt H c n f) {i : Nat} (hi : i < n) : rdI .u8 H c i = some (un (f i)) := by
  have := arrC_get (f := fun k => [C.int .u8 (un (f k))]) (es := 1) (fun _ => rfl) (j := 0) (by decide) hi
  rw [Nat.mul_one, Nat.add_zero] at this
  exact rdI_of h this
theorem LAt.set {H : Heap} {c n : Nat} {f : Nat → UInt8} (h : LAt H c n f) {i : Nat} (hi : i < n) (x : UInt8) : ∃ G, wr H c i [.int .u8 (un x)] = some G ∧ LAt G c n (fun k => if k = i then x else f k) ∧ Keep (fun j => j = c) H G := by
  have hl := arrC_length (f := fun k => [C.int .u8 (un (f k))]) (es := 1) (fun _ => rfl) n
  have hs := arrC_set (f := fun k => [C.int .u8 (un (f k))]) (es := 1) (fun _ => rfl) (j := 0) (by decide) (.int .u8 (un x)) hi
  rw [Nat.mul_one, Nat.add_zero] at hs
  refine ⟨_, wr1_of h (by decide) (by omega), ?_, Keep.set _ _ _ rfl⟩
  unfold LAt
  rw [set_get (get_lt h), hs]
  congr 2
  refine arrC_congr fun k _ => ?_
  by_cases hk : k = i
  · subst hk; simp
  · simp [hk]
theorem LAt.congr {H : Heap} {c n : Nat} {f g : Nat → UInt8} (h : LAt H c n f) (hfg : ∀ k, k < n → f k = g k) : LAt H c n g := by
  unfold LAt at h ⊢
  rw [h]
  congr 2
  exact arrC_congr fun k hk => by rw [hfg k hk]
theorem LAt.poly {H : Heap} {c n : Nat} {f : Nat → UInt8} (h : LAt H c n f) : PAt H ⟨some (c, 0), n, n⟩ (pl n f) := by
  refine ⟨⟨?_, fun hh => by cases hh⟩, Nat.le_refl _⟩
  unfold slRow
  have h' : H[c]? = some (.cells (arrC n fun k => [.int .u8 (un (f k))]) .loose) := h
  simp only [Heap.row, h']
  rw [cells_pl]
  have := arrC_length (f := fun k => [C.int .u8 (un (f k))]) (es := 1) (fun _ => rfl) n
  exact cut_all this.symm
theorem turned_eq (s : Bytes) (H : Heap) (hl : s.length < 1000000) : ∃ G, rs_turned s H = some ((⟨some (H.length, 0), s.length, s.length⟩, ()), G) ∧ PAt G ⟨some (H.length, 0), s.length, s.length⟩ (rv s) ∧ Keep (fun _ => False) H G := by
  generalize hn : s.length = n at hl
  have l0 : LAt (H ++ [.cells (cellsOf s) .loose]) H.length n (co s) := by
    unfold LAt
    rw [app_last, ← cells_pl, ← hn, pl_co]
  obtain ⟨u, G, l1, g1, g2⟩ := loop_rise (step := slices_Reverse_gf_Poly_byte.s1 ⟨some (H.length, 0), n, n⟩) (n / 2) (fun i y G => y = ((i : Int), (n : Int) - 1 - (i : Int), ()) ∧ LAt G H.length n (fun k => if k < i ∨ n - i ≤ k then co s (n - 1 - k) else co s k) ∧ Keep (fun j => j = H.length) H G)
    (fun _ G => LAt G H.length n (fun k => co s (n - 1 - k)) ∧ Keep (fun j => j = H.length) H G)
    (by
      rintro i _ G hi ⟨rfl, f1, f2⟩
      refine .inl ?_
      have hj : (n : Int) - 1 - (i : Int) = ((n - 1 - i : Nat) : Int) := by omega
      have r1 := f1.get (i := n - 1 - i) (by omega)
      have r2 := f1.get (i := i) (by omega)
      rw [if_neg (by omega)] at r1 r2
      obtain ⟨G2, a1, a2, a3⟩ := f1.set (i := i) (by omega) (co s (n - 1 - i))
      obtain ⟨G3, b1, b2, b3⟩ := a2.set (i := n - 1 - i) (by omega) (co s i)
      have hw1 := wrap_succ (show i < 9223372036854775807 by omega)
      have hw2 : IntKind.wrap .i64 (((n - 1 - i : Nat) : Int) - 1) = (n : Int) - 1 - ((i + 1 : Nat) : Int) := by rw [wrap_i64 (by omega) (by omega)]; omega
      refine ⟨(((i + 1 : Nat) : Int), (n : Int) - 1 - ((i + 1 : Nat) : Int), ()), G3, ?_, rfl, b2.congr fun k hk => ?_, (f2.trans a3).trans b3⟩
      · unfold slices_Reverse_gf_Poly_byte.s1
        rw [hj]
        have at1 : Sl.at 1 ⟨some (H.length, 0), n, n⟩ (i : Int) = some (H.length, i) := BAt.at (by omega)
        have at2 : Sl.at 1 ⟨some (H.length, 0), n, n⟩ ((n - 1 - i : Nat) : Int) = some (H.length, n - 1 - i) := BAt.at (by omega)
        simp only [decide_eq_true (show (i : Int) < ((n - 1 - i : Nat) : Int) by omega), cond_t, at2, bind_some, r1, at1, r2, a1, b1, hw1, hw2]
      · by_cases e1 : k = n - 1 - i
        · rw [if_pos e1, if_pos (by omega)]; congr 1; omega
        · rw [if_neg e1]
          by_cases e2 : k = i
          · rw [if_pos e2, if_pos (by omega), e2]
          · rw [if_neg e2]
            by_cases e3 : k < i ∨ n - i ≤ k
            · rw [if_pos e3, if_pos (by omega)]
            · rw [if_neg e3, if_neg (by omega)])
    (by
      rintro _ G ⟨rfl, f1, f2⟩
      refine ⟨(), G, ?_, f1.congr fun k hk => ?_, f2⟩
      · unfold slices_Reverse_gf_Poly_byte.s1
        simp only [decide_eq_false (show ¬ ((n / 2 : Nat) : Int) < (n : Int) - 1 - ((n / 2 : Nat) : Int) by omega), cond_f]
      · by_cases e3 : k < n / 2 ∨ n - n / 2 ≤ k
        · rw [if_pos e3]
        · rw [if_neg e3]; congr 1; omega)
    (y := (((0 : Nat) : Int), (n : Int) - 1 - ((0 : Nat) : Int), ())) (H := H ++ [.cells (cellsOf s) .loose]) ⟨rfl, l0.congr fun k hk => by rw [if_neg (by omega)], Keep.push _ _ _⟩
  have hw : IntKind.wrap .i64 ((n : Int) - 1) = (n : Int) - 1 - ((0 : Nat) : Int) := by rw [wrap_i64 (by omega) (by omega)]; omega
  have l1' : loopW (slices_Reverse_gf_Poly_byte.s1 ⟨some (H.length, 0), n, n⟩) (0, (n : Int) - 1 - ((0 : Nat) : Int), ()) (H ++ [.cells (cellsOf s) .loose]) = some (u, G) := l1
  refine ⟨G, ?_, ?_, keep_one g2⟩
  · unfold rs_turned slices_Reverse_gf_Poly_byte
    simp only [hn, hw, l1', bind_some]
  · have := g1.poly
    unfold rv
    rw [hn]; exact this

/-- A word's number at a root. -/
def sg (s : Bytes) (i : Nat) : UInt8 := ev (rv s) (gp i)
theorem signs_eq (s : Bytes) (n : Nat) (H : Heap) (hl : s.length < 1000000) (hn : n < 1000) : ∃ t G, rs_Signs s (n : Int) H = some ((t, ()), G) ∧ PAt G t (pl n (sg s)) ∧ Keep (fun _ => False) H G := by
  obtain ⟨G0, e1, e2, e3⟩ := turned_eq s H hl
  have hsn : ∀ i, cellsOf (pl (i + 1) (sg s)) = cellsOf (pl i (sg s)) ++ [.int .u8 (un (sg s i))] := fun i => by rw [cells_pl, cells_pl, arrC]
  have hmx : (if 0 > (n : Int) then 0 else (n : Int)) = (n : Int) := if_neg (by omega)
  obtain ⟨u, G, l1, t, rfl, ht, g⟩ := loop_rise (step := rs_Signs.s1 (n : Int) ((⟨some (H.length, 0), s.length, s.length⟩, ()), G0)) n (fun i y G => ∃ t, y = (t, (i : Int), ()) ∧ t.len = i ∧ GrowN G0 G 1 t (cellsOf (pl i (sg s)))) (fun y G => ∃ t, y = (t, ()) ∧ t.len = n ∧ GrowN G0 G 1 t (cellsOf (pl n (sg s))))
    (by
      rintro i _ G hi ⟨t, rfl, ht, g⟩
      refine .inl ?_
      have hat := at_eq (e2.keep g.keep) (by rw [rv_len]; exact hl) (gp i)
      obtain ⟨t', G2, b1, b2, b3, b4, _⟩ := g.one (bytes := 1) (new := [.int .u8 (un (sg s i))]) (by decide) rfl (by omega) (by omega)
      rw [← hsn i] at b3
      refine ⟨(t', ((i + 1 : Nat) : Int), ()), G2, ?_, t', rfl, by omega, b3⟩
      unfold rs_Signs.s1
      rw [hmx]
      have hat' : gf_Poly_At ⟨some (H.length, 0), s.length, s.length⟩ (un (gp i)) G = some ((un (sg s i), ()), G) := hat
      simp only [decide_eq_true (show (i : Int) < (n : Int) by omega), cond_t, gf_Root_eq i (by omega), bind_some, hat', b1, b2, wrap_succ (show i < 9223372036854775807 by omega)])
    (by
      rintro _ G ⟨t, rfl, ht, g⟩
      refine ⟨(t, ()), G, ?_, t, rfl, ht, g⟩
      unfold rs_Signs.s1
      rw [hmx]
      simp only [decide_eq_false (show ¬ ((n : Nat) : Int) < (n : Int) by omega), cond_f])
    (y := (⟨none, 0, 0⟩, ((0 : Nat) : Int), ())) (H := G0) ⟨_, rfl, rfl, GrowN.ni (Keep.refl _ _) 1⟩
  have l1' : loopW (rs_Signs.s1 (n : Int) ((⟨some (H.length, 0), s.length, s.length⟩, ()), G0)) (⟨none, 0, 0⟩, 0, ()) G0 = some ((t, ()), G) := l1
  refine ⟨t, G, ?_, ⟨g.row, by rw [g.gr.cap]; exact Nat.le_refl _⟩, e3.trans g.keep⟩
  unfold rs_Signs
  simp only [e1, bind_some, l1']
/-- All its numbers are 0. -/
def rtB (s : Bytes) (n : Nat) : Bool := decide (∀ i, i < n → sg s i = 0)
theorem cont_eq {H : Heap} {t : Sl} {p : Bytes} (h : PAt H t p) (hl : p.length < 1000000) : slices_ContainsFunc_byte_byte_of_rs_Right_1 t () H = some ((!decide (∀ i, i < p.length → co p i = 0), ()), H) := by
  have hlen := h.len
  unfold slices_ContainsFunc_byte_byte_of_rs_Right_1 slices_IndexFunc_byte_byte_of_rs_Right_1
  obtain ⟨w, G, l1, rfl, l3⟩ := loop_rise (step := slices_IndexFunc_byte_byte_of_rs_Right_1.s1 t) p.length (fun i z G => G = H ∧ z = ((i : Int), ()) ∧ ∀ k, k < i → co p k = 0) (fun y G => G = H ∧ match y with | .inl _ => ∀ k, k < p.length → co p k = 0 | .inr z => 0 ≤ z.1 ∧ ∃ k, k < p.length ∧ co p k ≠ 0)
    (by
      rintro i _ G hi ⟨rfl, rfl, hh⟩
      obtain ⟨b, o, a1, a2, _⟩ := h.byte hi
      by_cases h0 : co p i = 0
      · refine .inl ⟨(((i + 1 : Nat) : Int), ()), G, ?_, rfl, rfl, fun k hk => ?_⟩
        · unfold slices_IndexFunc_byte_byte_of_rs_Right_1.s1
          have : rs_Right_1 (un (co p i)) = some (false, ()) := by
            unfold rs_Right_1 rs_Right_1.on
            rw [decide_eq_true ((un_zero _).2 h0)]; rfl
          simp only [decide_eq_true (show (i : Int) < (t.len : Int) by omega), cond_t, a1, bind_some, a2, this, cond_f, wrap_succ (show i < 9223372036854775807 by omega)]
        · by_cases e : k = i
          · rw [e]; exact h0
          · exact hh k (by omega)
      · refine .inr ⟨.inr ((i : Int), ()), G, ?_, rfl, by show (0 : Int) ≤ (i : Int); omega, i, hi, h0⟩
        unfold slices_IndexFunc_byte_byte_of_rs_Right_1.s1
        have : rs_Right_1 (un (co p i)) = some (true, ()) := by
          unfold rs_Right_1 rs_Right_1.on
          rw [decide_eq_false fun hh => h0 ((un_zero _).1 hh)]; rfl
        simp only [decide_eq_true (show (i : Int) < (t.len : Int) by omega), cond_t, a1, bind_some, a2, this])
    (by
      rintro _ G ⟨rfl, rfl, hh⟩
      refine ⟨.inl (), G, ?_, rfl, hh⟩
      unfold slices_IndexFunc_byte_byte_of_rs_Right_1.s1
      simp only [decide_eq_false (show ¬ ((p.length : Nat) : Int) < (t.len : Int) by omega), cond_f])
    (y := (((0 : Nat) : Int), ())) (H := H) ⟨rfl, rfl, fun k hk => absurd hk (Nat.not_lt_zero _)⟩
  have l1' : loopW (slices_IndexFunc_byte_byte_of_rs_Right_1.s1 t) (0, ()) G = some (w, G) := l1
  cases w with
  | inl u =>
    have l3 : ∀ k, k < p.length → co p k = 0 := l3
    simp only [l1', bind_some, sumL]
    rw [decide_eq_true l3]; rfl
  | inr z =>
    obtain ⟨h0, k, hk, hne⟩ : 0 ≤ z.1 ∧ ∃ k, k < p.length ∧ co p k ≠ 0 := l3
    simp only [l1', bind_some, sumR, decide_eq_true h0]
    rw [decide_eq_false fun hh => hne (hh k hk)]; rfl
theorem right_eq (s : Bytes) (n : Nat) (hl : s.length < 1000000) (hn : n < 1000) : rs_Right s (n : Int) = some (ckB s.length n && rtB s n, ()) := by
  unfold rs_Right rs_Right.on
  rw [check_eq]
  obtain ⟨t, G, e1, e2, e3⟩ := signs_eq s n [] hl hn
  have hc := cont_eq e2 (by rw [pl_len]; omega)
  have : decide (∀ i, i < (pl n (sg s)).length → co (pl n (sg s)) i = 0) = rtB s n := by
    unfold rtB
    rw [pl_len]
    congr 1
    refine propext ⟨fun h i hi => ?_, fun h i hi => ?_⟩
    · have := h i hi
      rwa [co_pl, if_pos hi] at this
    · rw [co_pl, if_pos hi]; exact h i hi
  rw [this] at hc
  cases hck : ckB s.length n with
  | false => simp only [bind_some, cond_f, Bool.false_and]
  | true => simp only [bind_some, cond_t, e1, hc, Bool.not_not, Bool.true_and]
end Ev
