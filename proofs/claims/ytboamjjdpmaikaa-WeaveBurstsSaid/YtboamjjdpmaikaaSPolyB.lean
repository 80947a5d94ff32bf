/- Polynomials: sums, products, shifts, slopes. -/
import Derived.Test.YtboamjjdpmaikaaSPoly
namespace Ev
open Go (IntKind)

theorem keep_one {H G : Heap} (k : Keep (fun j => j = H.length) H G) : Keep (fun _ => False) H G := k.new fun j hj hlt => by
  have : j = H.length := hj
  omega
theorem BAt.congr {H : Heap} {c n : Nat} {f g : Nat → UInt8} (h : BAt H c n f) (hfg : ∀ k, k < n → f k = g k) : BAt H c n g := by
  unfold BAt at h ⊢
  rw [h]
  congr 2
  exact arrC_congr fun k hk => by rw [hfg k hk]
/-- Two lists that are told alike up to their ends. -/
theorem trim_co {p q : Bytes} (h : ∀ i, co p i = co q i) : trim p = trim q := by
  have ht : tl p = tl q := tl_eq (fun i hi => by rw [h]; exact tl_zero q i hi) fun h0 => by rw [h]; exact tl_ne q h0
  rw [← pl_co (trim p), ← pl_co (trim q), trim_len, trim_len, ht]
  exact pl_congr fun i _ => by rw [co_trim, co_trim, h]
section
variable {H : Heap} {s s2 : Sl} {p q : Bytes}
theorem times_eq (h : PAt H s p) (hl : p.length < 1000000) (a : UInt8) : ∃ t G, gf_Poly_Times s (un a) H = some ((t, ()), G) ∧ PAt G t (trim (psc a p)) ∧ Keep (fun _ => False) H G := by
  have hlen := h.len
  let H1 : Heap := H ++ [.cells (arrC p.length fun _ => [.int .u8 (un 0)]) .exact]
  have mk : mkS H 1 [.int .u8 0] (s.len : Int) (s.len : Int) = some (⟨some (H.length, 0), p.length, p.length⟩, H1) := by rw [hlen]; exact mk_bytes (by omega)
  obtain ⟨u, G, l1, g1, g2⟩ := loop_rise (step := gf_Poly_Times.s1 s (un a) (⟨some (H.length, 0), p.length, p.length⟩, H1)) p.length (fun i y G => y = ((i : Int), ()) ∧ BAt G H.length p.length (fun k => if k < i then gm a (co p k) else 0) ∧ Keep (fun j => j = H.length) H G) (fun _ G => BAt G H.length p.length (fun k => gm a (co p k)) ∧ Keep (fun j => j = H.length) H G)
    (by
      rintro i _ G hi ⟨rfl, f1, f2⟩
      refine .inl ?_
      obtain ⟨b, o, a1, a2, _⟩ := (h.keep (keep_one f2)).byte hi
      obtain ⟨G2, b1, b2, b3⟩ := f1.set hi (gm a (co p i))
      refine ⟨_, G2, ?_, rfl, ?_, f2.trans b3⟩
      · unfold gf_Poly_Times.s1
        simp only [decide_eq_true (show (i : Int) < (s.len : Int) by omega), cond_t, a1, bind_some, a2, gf_Mul_eq, BAt.at hi, b1, wrap_succ (show i < 9223372036854775807 by omega)]
      · have : (fun k => if k = i then gm a (co p i) else if k < i then gm a (co p k) else 0) = fun k => if k < i + 1 then gm a (co p k) else 0 := by
          funext k
          by_cases h1 : k = i
          · subst h1; rw [if_pos rfl, if_pos (by omega)]
          · rw [if_neg h1]
            by_cases h2 : k < i
            · rw [if_pos h2, if_pos (by omega)]
            · rw [if_neg h2, if_neg (by omega)]
        rwa [this] at b2)
    (by
      rintro _ G ⟨rfl, f1, f2⟩
      refine ⟨(), G, ?_, ?_, f2⟩
      · unfold gf_Poly_Times.s1
        simp only [decide_eq_false (show ¬ ((p.length : Nat) : Int) < (s.len : Int) by omega), cond_f]
      · exact f1.congr fun k hk => if_pos hk)
    (y := (((0 : Nat) : Int), ())) (H := H1) ⟨rfl, by
      have : BAt H1 H.length p.length (fun _ => 0) := app_last
      simpa using this, Keep.push _ _ _⟩
  have l1' : loopW (gf_Poly_Times.s1 s (un a) (⟨some (H.length, 0), p.length, p.length⟩, H1)) (0, ()) H1 = some (u, G) := l1
  obtain ⟨t, G2, e1, e2, e3⟩ := trim_eq g1.poly (by rw [pl_len]; exact hl)
  refine ⟨t, G2, ?_, e2, (keep_one g2).trans e3⟩
  unfold gf_Poly_Times
  simp only [mk, bind_some, l1', e1]
theorem setL_front : ∀ (D C : List C), D.length ≤ C.length → setL C 0 D = D ++ C.drop D.length := by
  intro D C h
  have key : ∀ (D B A E : List Ev.C) (o : Nat), A.length = o → B.length = D.length → setL (A ++ B ++ E) o D = A ++ D ++ E := by
    intro D
    induction D with
    | nil => intro B A E o h1 h2; have : B = [] := List.eq_nil_of_length_eq_zero h2; subst this; simp [setL]
    | cons x D ih =>
      intro B A E o h1 h2
      match B, h2 with
      | y :: B, h2 =>
        subst h1
        have := ih B (A ++ [x]) E (A.length + 1) (by simp) (by simpa using h2)
        simp only [setL]
        rw [show (A ++ y :: B ++ E).set A.length x = A ++ [x] ++ B ++ E by simp, this]; simp
  have := key D (C.take D.length) [] (C.drop D.length) 0 rfl (by rw [List.length_take]; omega)
  rw [List.nil_append, List.take_append_drop, List.nil_append] at this
  exact this
theorem add_eq (h : PAt H s p) (h2 : PAt H s2 q) (hl : p.length < 1000000) (hl2 : q.length < 1000000) : ∃ t G, gf_Poly_Add s s2 H = some ((t, ()), G) ∧ PAt G t (trim (padd p q)) ∧ Keep (fun _ => False) H G := by
  have hlen := h.len
  have hlen2 := h2.len
  generalize hn : max p.length q.length = n
  let H1 : Heap := H ++ [.cells (arrC n fun _ => [.int .u8 (un 0)]) .exact]
  have hm : (if (s2.len : Int) > (s.len : Int) then (s2.len : Int) else (s.len : Int)) = (n : Int) := by split <;> omega
  have mk : mkS H 1 [.int .u8 0] (n : Int) (n : Int) = some (⟨some (H.length, 0), n, n⟩, H1) := mk_bytes (by omega)
  have hmin : min s.len n = p.length := by omega
  have k1 : Keep (fun _ => False) H H1 := Keep.push _ _ _
  have hrow : slRow H1 1 ⟨s.p, p.length, s.cap⟩ = some (cellsOf p) := by
    have := ((h.keep k1).front (Nat.le_refl p.length)).2
    rwa [List.take_length] at this
  have b0 : BAt H1 H.length n (fun _ => 0) := app_last
  have cp : ∃ m G, cpyS H1 1 ⟨some (H.length, 0), n, n⟩ p.length (cellsOf p) = some (m, G) ∧ BAt G H.length n (co p) ∧ Keep (fun j => j = H.length) H1 G := by
    unfold cpyS
    by_cases h0 : p.length = 0
    · refine ⟨0, H1, by rw [decide_eq_true h0, cond_t], ?_, Keep.refl _ _⟩
      have : p = [] := List.eq_nil_of_length_eq_zero h0
      subst this
      exact b0
    · have hal : (arrC n fun _ => [C.int .u8 (un 0)]).length = n := by rw [arrC_length (f := fun _ => [C.int .u8 (un 0)]) (es := 1) fun _ => rfl, Nat.mul_one]
      refine ⟨(p.length : Int), _, ?_, ?_, Keep.set _ _ (.cells (setL (arrC n fun _ => [C.int .u8 (un 0)]) 0 (cellsOf p)) .exact) rfl⟩
      · rw [decide_eq_false h0, cond_f]
        simp only
        rw [wr_of b0 (by decide) (by rw [cells_len, hal]; omega), bind_some]
      · unfold BAt
        rw [set_get (by simp [H1]), setL_front _ _ (by rw [cells_len, hal]; omega), ← cells_pl, ← cells_pl, cells_len]
        congr 2
        have : (cellsOf (pl n fun _ => 0)).drop p.length = cellsOf ((pl n fun _ => 0).drop p.length) := by simp [cellsOf, List.map_drop]
        rw [this]
        unfold cellsOf
        rw [← List.map_append]
        congr 1
        apply List.ext_getElem?
        intro i
        have hpl : (pl n (co p))[i]? = if i < n then some (co p i) else none := by
          unfold pl
          rw [List.getElem?_map]
          by_cases hi : i < n
          · rw [if_pos hi, List.getElem?_eq_getElem (by simpa using hi)]; simp
          · rw [if_neg hi, List.getElem?_eq_none (by simp; omega)]; rfl
        rw [hpl]
        by_cases hi : i < p.length
        · rw [List.getElem?_append_left hi, if_pos (by omega), List.getElem?_eq_getElem hi, co_lt hi]
        · rw [List.getElem?_append_right (by omega), List.getElem?_drop]
          unfold pl
          rw [List.getElem?_map]
          by_cases hi2 : i < n
          · rw [if_pos hi2, List.getElem?_eq_getElem (by simp; omega), co_ge (by omega)]; rfl
          · rw [if_neg hi2, List.getElem?_eq_none (by simp; omega)]; rfl
  obtain ⟨m, G0, c1, c2, c3⟩ := cp
  have k0 : Keep (fun j => j = H.length) H G0 := (Keep.push _ _ _).trans c3
  obtain ⟨u, G, l1, g1, g2⟩ := loop_rise (step := gf_Poly_Add.s1 s2 (⟨some (H.length, 0), n, n⟩, H1)) q.length (fun i y G => y = ((i : Int), ()) ∧ BAt G H.length n (fun k => if k < i then co p k ^^^ co q k else co p k) ∧ Keep (fun j => j = H.length) H G) (fun _ G => BAt G H.length n (fun k => co p k ^^^ co q k) ∧ Keep (fun j => j = H.length) H G)
    (by
      rintro i _ G hi ⟨rfl, f1, f2⟩
      refine .inl ?_
      obtain ⟨b, o, a1, a2, _⟩ := (h2.keep (keep_one f2)).byte hi
      have f3 := f1.get (i := i) (by omega)
      rw [if_neg (Nat.lt_irrefl i)] at f3
      obtain ⟨G2, b1, b2, b3⟩ := f1.set (i := i) (by omega) (co p i ^^^ co q i)
      refine ⟨_, G2, ?_, rfl, ?_, f2.trans b3⟩
      · unfold gf_Poly_Add.s1
        simp only [decide_eq_true (show (i : Int) < (s2.len : Int) by omega), cond_t, a1, bind_some, a2, BAt.at (show i < n by omega), f3, un_xor, b1, wrap_succ (show i < 9223372036854775807 by omega)]
      · have : (fun k => if k = i then co p i ^^^ co q i else if k < i then co p k ^^^ co q k else co p k) = fun k => if k < i + 1 then co p k ^^^ co q k else co p k := by
          funext k
          by_cases h1 : k = i
          · subst h1; rw [if_pos rfl, if_pos (by omega)]
          · rw [if_neg h1]
            by_cases h2 : k < i
            · rw [if_pos h2, if_pos (by omega)]
            · rw [if_neg h2, if_neg (by omega)]
        rwa [this] at b2)
    (by
      rintro _ G ⟨rfl, f1, f2⟩
      refine ⟨(), G, ?_, ?_, f2⟩
      · unfold gf_Poly_Add.s1
        simp only [decide_eq_false (show ¬ ((q.length : Nat) : Int) < (s2.len : Int) by omega), cond_f]
      · refine f1.congr fun k hk => ?_
        by_cases hk2 : k < q.length
        · exact if_pos hk2
        · rw [co_ge (p := q) (by omega), UInt8.xor_zero]; exact if_neg hk2)
    (y := (((0 : Nat) : Int), ())) (H := G0) ⟨rfl, by simpa using c2, k0⟩
  have l1' : loopW (gf_Poly_Add.s1 s2 (⟨some (H.length, 0), n, n⟩, H1)) (0, ()) G0 = some (u, G) := l1
  obtain ⟨t, G2, e1, e2, e3⟩ := trim_eq g1.poly (by rw [pl_len]; omega)
  refine ⟨t, G2, ?_, ?_, (keep_one g2).trans e3⟩
  · unfold gf_Poly_Add
    simp only [hm, mk, bind_some, hmin, hrow, c1, l1', e1]
  · unfold padd; rw [hn]; exact e2
theorem shift_eq (h : PAt H s p) {n : Nat} (hl : n + p.length < 1000000) : ∃ t G, gf_Poly_Shift s (n : Int) H = some ((t, ()), G) ∧ PAt G t (trim (psh n p)) ∧ Keep (fun _ => False) H G := by
  have hlen := h.len
  let H1 : Heap := H ++ [.cells (arrC n fun _ => [.int .u8 (un 0)]) .exact]
  have hm : (if 0 > (n : Int) then 0 else (n : Int)) = (n : Int) := if_neg (by omega)
  have mk : mkS H 1 [.int .u8 0] (n : Int) (n : Int) = some (⟨some (H.length, 0), n, n⟩, H1) := mk_bytes (by omega)
  have b0 : BAt H1 H.length n (fun _ => 0) := app_last
  have k1 : Keep (fun _ => False) H H1 := Keep.push _ _ _
  have hrow := (h.keep k1).row.row
  have hpsh : ∀ i, co (pl n (fun _ => 0) ++ p) i = co (psh n p) i := by
    intro i
    rw [co_psh]
    unfold co
    rw [List.getD_eq_getElem?_getD]
    by_cases hi : i < n
    · rw [if_pos hi, List.getElem?_append_left (by rw [pl_len]; exact hi)]
      have := co_pl n (fun _ => 0) i
      unfold co at this
      rw [List.getD_eq_getElem?_getD, if_pos hi] at this
      exact this
    · rw [if_neg hi, List.getElem?_append_right (by rw [pl_len]; omega), pl_len, ← List.getD_eq_getElem?_getD]
  have ap : ∃ t G, appS H1 1 1 ⟨some (H.length, 0), n, n⟩ p.length (cellsOf p) = some (t, G) ∧ PAt G t (pl n (fun _ => 0) ++ p) ∧ Keep (fun _ => False) H G := by
    by_cases h0 : p.length = 0
    · have : p = [] := List.eq_nil_of_length_eq_zero h0
      subst this
      refine ⟨⟨some (H.length, 0), n, n⟩, H1, ?_, by rw [List.append_nil]; exact b0.poly, k1⟩
      unfold appS
      rw [decide_eq_true (show (⟨some (H.length, 0), n, n⟩ : Sl).len + ([] : Bytes).length ≤ (⟨some (H.length, 0), n, n⟩ : Sl).cap from Nat.le_refl n), cond_t]
      rfl
    · have g0 : Grown H1 1 ⟨some (H.length, 0), n, n⟩ (cellsOf (pl n fun _ => 0)) := ⟨rfl, by rw [cells_len, pl_len, Nat.mul_one], fun h => by (cases h), fun a h => by cases h; exact ⟨rfl, .inr (by rw [cells_pl]; exact b0)⟩⟩
      obtain ⟨a1, a2⟩ := g0.app (bytes := 1) (by decide) (n := p.length) (new := cellsOf p) (by omega) (by rw [cells_len, Nat.mul_one]) (by show (n + p.length) * 1 ≤ _; omega) (by show n + p.length ≤ _; omega)
      have hc : cellsOf (pl n fun _ => 0) ++ cellsOf p = cellsOf (pl n (fun _ => 0) ++ p) := by simp [cellsOf]
      rw [hc] at a1 a2
      refine ⟨_, _, a1, ⟨Row.grown a2, Nat.le_refl _⟩, ?_⟩
      exact keep_one ((Keep.push (fun k => k = H.length) H _).trans (grownH_keep.mono fun k ⟨o, ho⟩ => by cases ho; rfl))
  obtain ⟨t, G, a1, a2, a3⟩ := ap
  obtain ⟨t2, G2, e1, e2, e3⟩ := trim_eq a2 (by rw [List.length_append, pl_len]; omega)
  refine ⟨t2, G2, ?_, by rw [← trim_co hpsh]; exact e2, a3.trans e3⟩
  unfold gf_Poly_Shift
  rw [← hlen] at a1
  simp only [hm, mk, bind_some, hrow, a1, e1]
end
end Ev
