/- The writer: which block is opened. -/
import Derived.Test.YtloijdlakkmjgaaSWrite
namespace Ev
open Go (IntKind)

def pairC (g : Nat → Nat) (w : Nat → Int) (j : Nat) : List C := [.int .i64 (g j : Int), .int .i64 (w (g j))]
theorem pair_len (g : Nat → Nat) (w : Nat → Int) : ∀ j, (pairC g w j).length = 2 := fun _ => rfl

/-- The first of those that are least. -/
theorem least_eq {H : Heap} {t : Sl} {n : Nat} (g : Nat → Nat) (w : Nat → Int) (h : Row H 2 t (arrC n (pairC g w))) (hn : n ≤ 1000000) :
    ∃ H' r, wear_Least t H = some ((r, ()), H') ∧ Keep (fun _ => False) H H' ∧ ((n = 0 ∧ r = -1) ∨ ∃ m : Nat, m < n ∧ r = (m : Int) ∧ ∀ j, j < n → w (g m) ≤ w (g j) ∧ (j < m → w (g m) < w (g j))) := by
  have hl : t.len = n := by have := h.len; rw [arrC_length (pair_len g w)] at this; omega
  have hcell : ∀ (G : Heap), Keep (fun _ => False) H G → ∀ j, j < n → ∃ b o, Sl.at 2 t (j : Int) = some (b, o) ∧ b < H.length ∧ @Eq (Option (Int × Int × Unit)) (rd G (.agg [.int .i64, .int .i64]) b o) (some ((g j : Int), w (g j), ())) ∧ rdI .i64 G b (o + 1) = some (w (g j)) := by
    intro G hK j hj
    have hG := h.keep hK fun _ _ _ => id
    obtain ⟨b, o, hp, h1, cs, bk, h2, h3, h4⟩ := slRow_cell hG.row (i := j) (by omega) hG.nil
    have hb : b < H.length := h.lt hp
    have c0 : cs[o + j * 2]? = some (.int .i64 (g j : Int)) := by
      have := h4 0 (by decide)
      rw [Nat.add_zero] at this
      rw [this, arrC_get (pair_len g w) (j := 0) (by decide) hj]; rfl
    have c1 : cs[o + j * 2 + 1]? = some (.int .i64 (w (g j))) := by
      rw [h4 1 (by decide), arrC_get (pair_len g w) (by decide) hj]; rfl
    have hlen : o + j * 2 + 2 ≤ cs.length := by have := (List.getElem?_eq_some_iff.1 c1).1; omega
    refine ⟨b, o + j * 2, h1, hb, ?_, rdI_of h2 c1⟩
    refine rd_agg_of h2 hlen ?_
    have e : (cs.drop (o + j * 2)).take 2 = [.int .i64 (g j : Int), .int .i64 (w (g j))] := by
      apply List.ext_getElem?
      intro i
      rw [List.getElem?_take]
      by_cases hi : i < 2
      · rw [if_pos hi, List.getElem?_drop]
        match i, hi with
        | 0, _ => rw [Nat.add_zero, c0]; rfl
        | 1, _ => rw [c1]; rfl
      · rw [if_neg hi, List.getElem?_eq_none (by simp; omega)]
    show Tup.un _ ((cs.drop (o + j * 2)).take 2) = _
    rw [e]; rfl
  obtain ⟨x, H', l1, l2, l3⟩ := loopW_run (step := wear_Least.s1 t) (fun y G => ∃ i : Nat, i ≤ n ∧ y.2.1 = (i : Int) ∧ Keep (fun _ => False) H G ∧ ((i = 0 ∧ y.1 = -1) ∨ ∃ m : Nat, m < i ∧ y.1 = (m : Int) ∧ ∀ j, j < i → w (g m) ≤ w (g j) ∧ (j < m → w (g m) < w (g j))))
    (fun x G => Keep (fun _ => False) H G ∧ ((n = 0 ∧ x.1 = -1) ∨ ∃ m : Nat, m < n ∧ x.1 = (m : Int) ∧ ∀ j, j < n → w (g m) ≤ w (g j) ∧ (j < m → w (g m) < w (g j)))) (fun y _ => (n - y.2.1).toNat)
    (by
      rintro ⟨q, j, u⟩ G ⟨i, hi, rfl, hK, hq⟩
      simp only at hq
      unfold wear_Least.s1
      rw [hl]
      by_cases hlt : i < n
      · obtain ⟨b, o, h1, h2, h3, h4⟩ := hcell G hK i hlt
        have mu : ((n : Int) - ((i + 1 : Nat) : Int)).toNat < ((n : Int) - (i : Int)).toNat := by omega
        have w1 : wr (G ++ [Blk.cells [.int .i64 0, .int .i64 0] .exact]) G.length 0 [.int .i64 (g i : Int), .int .i64 (w (g i))] = some (G ++ [Blk.cells [.int .i64 (g i : Int), .int .i64 (w (g i))] .exact]) := by
          rw [wr_last (by decide) (by simp)]; rfl
        have kp : Keep (fun _ => False) H (G ++ [Blk.cells [.int .i64 (g i : Int), .int .i64 (w (g i))] .exact]) := hK.trans (Keep.push _ _ _)
        have ei := wrap_succ (show i < 9223372036854775807 by omega)
        simp only [decide_eq_true (show (i : Int) < (n : Int) by omega), cond_t, h1, bind_some, h3, w1, ei]
        rcases hq with ⟨rfl, rfl⟩ | ⟨m, hm, rfl, hmin⟩
        · simp only [show decide ((-1 : Int) < 0) = true from rfl, cond_t, Round]
          exact ⟨⟨1, by omega, rfl, kp, .inr ⟨0, by omega, rfl, fun j hj => by
            have : j = 0 := by omega
            subst this
            exact ⟨Int.le_refl _, fun h => by omega⟩⟩⟩, mu⟩
        · obtain ⟨b2, o2, m1, _, _, m4⟩ := hcell _ kp m (by omega)
          have r7 : rdI .i64 (G ++ [Blk.cells [.int .i64 (g i : Int), .int .i64 (w (g i))] .exact]) G.length 1 = some (w (g i)) := rdI_of app_last rfl
          simp only [decide_eq_false (show ¬ (m : Int) < 0 by omega), cond_f, r7, bind_some, m1, m4]
          by_cases hc : w (g i) < w (g m)
          · simp only [decide_eq_true hc, cond_t, Round]
            exact ⟨⟨i + 1, by omega, rfl, kp, .inr ⟨i, by omega, rfl, fun j hj => by
              by_cases hji : j = i
              · subst hji; exact ⟨Int.le_refl _, fun h => by omega⟩
              · have := hmin j (by omega)
                exact ⟨by omega, fun _ => by omega⟩⟩⟩, mu⟩
          · simp only [decide_eq_false hc, cond_f, Round]
            exact ⟨⟨i + 1, by omega, rfl, kp, .inr ⟨m, by omega, rfl, fun j hj => by
              by_cases hji : j = i
              · subst hji; exact ⟨by omega, fun h => by omega⟩
              · exact hmin j (by omega)⟩⟩, mu⟩
      · have : i = n := by omega
        subst this
        simp only [decide_eq_false (show ¬ (i : Int) < (i : Int) by omega), cond_f, Round]
        exact ⟨hK, hq⟩) (-1, 0, ()) H ⟨0, Nat.zero_le _, rfl, Keep.refl _ _, .inl ⟨rfl, rfl⟩⟩
  refine ⟨H', x.1, ?_, l2, l3⟩
  unfold wear_Least
  simp only [l1, bind_some]

section
variable {N : Nat → Prop} {H : Heap} {z : WrA} {a : NdA} {e : LfA} {s : Nd} {v : Wr} {sb : Sl}

/-- The free blocks, and how often each was erased. -/
theorem wears_eq (h : WrAt N H z a e s v sb) (what : Nat) (hw : H[what]? = some (.cells [.int .i64 0] .exact)) (hwo : ¬ z.own a e sb what) :
    ∃ t H' n g, write_Writer_Wears (some (z.w, 0)) ⟨some (what, 0), 1, 1⟩ H = some ((t, ()), H') ∧ Keep (fun k => H.length ≤ k) H H' ∧ Row H' 2 t (arrC n (pairC g v.worn)) ∧ n ≤ e.B ∧ (∀ j, j < n → g j < e.B ∧ v.lf.l (g j) = 0) ∧ (∀ c, c < e.B → v.lf.l c = 0 → ∃ j, j < n ∧ g j = c) ∧ ∀ i j, i < j → j < n → g i < g j := by
  have hsz := h.lf.sz
  have hcnt : ∀ (G : Heap), Keep (fun k => H.length ≤ k) H G → WrAt N G z a e s v sb := fun G kp => h.keep kp fun k hk => by have := h.lt hk; omega
  obtain ⟨x, H', l1, l2, n, g, l3, l4, l5, l6, l7⟩ := loopW_run (step := write_Writer_Wears.s1 (some (z.w, 0)) ⟨some (what, 0), 1, 1⟩ ⟨some (z.wb, 0), e.B, e.B⟩)
    (fun y G => ∃ i : Nat, i ≤ e.B ∧ y.2.1 = (i : Int) ∧ Keep (fun k => H.length ≤ k) H G ∧ (∀ q, y.1.p = some q → H.length ≤ q.1) ∧ ∃ n g, Grown G 2 y.1 (arrC n (pairC g v.worn)) ∧ n ≤ i ∧ (∀ j, j < n → g j < i ∧ v.lf.l (g j) = 0) ∧ (∀ c, c < i → v.lf.l c = 0 → ∃ j, j < n ∧ g j = c) ∧ ∀ i j, i < j → j < n → g i < g j)
    (fun x G => Keep (fun k => H.length ≤ k) H G ∧ ∃ n g, Row G 2 x.1 (arrC n (pairC g v.worn)) ∧ n ≤ e.B ∧ (∀ j, j < n → g j < e.B ∧ v.lf.l (g j) = 0) ∧ (∀ c, c < e.B → v.lf.l c = 0 → ∃ j, j < n ∧ g j = c) ∧ ∀ i j, i < j → j < n → g i < g j) (fun y _ => (e.B - y.2.1).toNat)
    (by
      rintro ⟨q, j, u⟩ G ⟨i, hi, rfl, hK, hq, n, g, hg, hni, g1, g2, g3⟩
      simp only at hq hg
      unfold write_Writer_Wears.s1
      by_cases hlt : i < e.B
      · have hG := hcnt G hK
        have hwG : G[what]? = some (.cells [.int .i64 0] .exact) := hK.get hw (by have := get_lt hw; omega)
        have hrow : Row G 1 ⟨some (what, 0), 1, 1⟩ (intC [0]) := ⟨by unfold slRow Heap.row; simp only [hwG]; rw [cut_of (by decide)]; rfl, fun h => by cases h⟩
        have hcon := contains_eq hrow (by decide) (v.lf.l i)
        have mu : ((e.B : Int) - ((i + 1 : Nat) : Int)).toNat < ((e.B : Int) - (i : Int)).toNat := by omega
        have ei := wrap_succ (show i < 9223372036854775807 by omega)
        simp only [decide_eq_true (show (i : Int) < (e.B : Int) by omega), cond_t, WrAt.wat i hlt, bind_some, hG.ri hlt, Nat.zero_add, hG.rl, life_Is hG.lf hlt, hcon, ei]
        by_cases hf : v.lf.l i = 0
        · have hgp := hg.push (.cells [.int .i64 (i : Int), .int .i64 (v.worn i)] .exact)
          have hlen : q.len = n := by have := hg.len; rw [arrC_length (pair_len g v.worn)] at this; omega
          obtain ⟨a1, a2⟩ := hgp.app (bytes := 16) (by decide) (n := 1) (new := [.int .i64 (i : Int), .int .i64 (v.worn i)]) (by decide) rfl (by omega) (by omega)
          have hr : slRow (G ++ [.cells [.int .i64 (i : Int), .int .i64 (v.worn i)] .exact]) 2 ⟨some (G.length, 0), 1, 1⟩ = some [.int .i64 (i : Int), .int .i64 (v.worn i)] := row_last rfl
          have gl := grownH_length (G ++ [.cells [.int .i64 (i : Int), .int .i64 (v.worn i)] .exact]) q (arrC n (pairC g v.worn) ++ [.int .i64 (i : Int), .int .i64 (v.worn i)])
          have hGl := hK.len
          have hpl : (G ++ [Blk.cells [.int .i64 (i : Int), .int .i64 (v.worn i)] .exact]).length = G.length + 1 := by simp
          have kg : Keep (fun k => H.length ≤ k) (G ++ [.cells [.int .i64 (i : Int), .int .i64 (v.worn i)] .exact]) (grownH (G ++ [.cells [.int .i64 (i : Int), .int .i64 (v.worn i)] .exact]) q (arrC n (pairC g v.worn) ++ [.int .i64 (i : Int), .int .i64 (v.worn i)])) :=
            ⟨by rw [gl]; omega, fun y hy hf => grownH_get hy fun x hx e => hf (by rw [← e]; exact hq x hx)⟩
          have harr : arrC n (pairC g v.worn) ++ [.int .i64 (i : Int), .int .i64 (v.worn i)] = arrC (n + 1) (pairC (fun j => if j = n then i else g j) v.worn) := by
            rw [arrC]
            congr 1
            · exact arrC_congr fun j hj => by unfold pairC; simp only [if_neg (show ¬ j = n by omega)]
            · unfold pairC; simp only [if_true]
          rw [harr] at a1 a2 kg
          have hd : decide (v.lf.l i ∈ [(0 : Int)]) = true := decide_eq_true (by simp [hf])
          simp only [hd, cond_t, hr, bind_some, a1, Round]
          refine ⟨⟨i + 1, by omega, rfl, (hK.trans (Keep.push _ _ _)).trans kg, fun x hx => by cases hx; simp; omega, n + 1, fun j => if j = n then i else g j, a2, by omega, ?_, ?_, ?_⟩, mu⟩
          · intro j hj
            simp only
            split
            · exact ⟨by omega, hf⟩
            · have := g1 j (by omega); exact ⟨by omega, this.2⟩
          · intro c hc hc0
            by_cases hci : c = i
            · exact ⟨n, by omega, by simp [hci]⟩
            · obtain ⟨j, hj, hjc⟩ := g2 c (by omega) hc0
              exact ⟨j, by omega, by simp only [if_neg (show ¬ j = n by omega)]; exact hjc⟩
          · intro i1 j1 h12 hj1
            simp only
            rw [if_neg (show ¬ i1 = n by omega)]
            split
            · exact (g1 i1 (by omega)).1
            · exact g3 i1 j1 h12 (by omega)
        · have hd : decide (v.lf.l i ∈ [(0 : Int)]) = false := decide_eq_false (by simp [hf])
          simp only [hd, cond_f, Round]
          refine ⟨⟨i + 1, by omega, rfl, hK, hq, n, g, hg, by omega, fun j hj => ⟨by have := (g1 j hj).1; omega, (g1 j hj).2⟩, fun c hc hc0 => ?_, g3⟩, mu⟩
          by_cases hci : c = i
          · subst hci; exact absurd hc0 hf
          · exact g2 c (by omega) hc0
      · have : i = e.B := by omega
        subst this
        simp only [decide_eq_false (show ¬ (e.B : Int) < (e.B : Int) by omega), cond_f, Round]
        exact ⟨hK, n, g, Row.grown hg, hni, g1, g2, g3⟩) (⟨none, 0, 0⟩, 0, ()) H ⟨0, Nat.zero_le _, rfl, Keep.refl _ _, fun x hx => (by cases hx), 0, fun _ => 0, Grown.ni H 2, Nat.le_refl _, fun j hj => absurd hj (by omega), fun c hc => absurd hc (by omega), fun i j _ hj => absurd hj (by omega)⟩
  refine ⟨x.1, H', n, g, ?_, l2, l3, l4, l5, l6, l7⟩
  unfold write_Writer_Wears
  simp only [Option.isNone_some, cond_f, bind_some, Nat.zero_add, h.rw', l1]

/-- What opening does. -/
def Opened (e : LfA) (v : Wr) (r : Bool) (v' : Wr) : Prop :=
  (0 ≤ v.lf.op ∧ r = true ∧ v' = v) ∨ (v.lf.op < 0 ∧ r = true ∧ ∃ b, b < e.B ∧ v.lf.l b = 0 ∧ (∀ c, c < e.B → v.lf.l c = 0 → v.worn b ≤ v.worn c ∧ (c < b → v.worn b < v.worn c)) ∧ v' = { v with lf := ⟨upd v.lf.l b 1, (b : Int), 0⟩ }) ∨ (v.lf.op < 0 ∧ r = false ∧ (∀ i, i < e.B → v.lf.l i ≠ 0) ∧ v' = v)
theorem write_open (h : WrAt N H z a e s v sb) : ∃ H' r v', write_Writer_open (some (z.w, 0)) H = some ((r, ()), H') ∧ WrAt N H' z a e s v' sb ∧ Keep (fun k => ¬ N k) H H' ∧ Opened e v r v' := by
  unfold write_Writer_open
  have ha := life_At h.lf
  unfold Lf.at at ha
  by_cases ho : v.lf.op < 0
  · rw [if_pos ho] at ha
    have hp := h.push (.cells [.int .i64 0] .exact)
    obtain ⟨t, H1, n, g, w1, w2, w3, w4, w5, w6, w7⟩ := wears_eq hp H.length app_last (fun hk => by have := h.lt hk; omega)
    obtain ⟨H2, r, m1, m2, m3⟩ := least_eq g v.worn w3 (by have := h.lf.sz; omega)
    have h1 : WrAt N H1 z a e s v sb := hp.keep w2 fun k hk => by have := hp.lt hk; omega
    have h2 : WrAt N H2 z a e s v sb := h1.keep m2 fun _ _ => id
    have k2 : Keep (fun k => ¬ N k) H H2 := ((Keep.push _ _ _).trans (w2.mono fun k hk hn => by have := hp.NL k hn; omega)).trans (m2.mono fun _ hf => hf.elim)
    simp only [bind_some, Nat.zero_add, h.rl, ha, cond_f, w1, m1]
    rcases m3 with ⟨h0, rfl⟩ | ⟨m, hm, rfl, hmin⟩
    · refine ⟨H2, false, v, ?_, h2, k2, .inr (.inr ⟨ho, rfl, fun i hi hf => ?_, rfl⟩)⟩
      · simp only [show decide (0 ≤ (-1 : Int)) = false from rfl, cond_f]
      · obtain ⟨j, hj, _⟩ := w6 i hi hf
        omega
    · have hr2 : Row H2 2 t (arrC n (pairC g v.worn)) := w3.keep m2 fun _ _ _ => id
      obtain ⟨b, o, hpt, hat, cs, bk, c1, c2, c3⟩ := slRow_cell hr2.row (i := m) (by have := hr2.len; rw [arrC_length (pair_len g v.worn)] at this; omega) hr2.nil
      have hcell : rdI .i64 H2 b (o + m * 2) = some (g m : Int) := rdI_of c1 (by
        have := c3 0 (by decide)
        rw [Nat.add_zero] at this
        rw [this, arrC_get (pair_len g v.worn) (j := 0) (by decide) hm]; rfl)
      obtain ⟨gB, gf⟩ := w5 m hm
      obtain ⟨H3, o1, o2, o3⟩ := life_Open h2.lf gB gf ho
      refine ⟨H3, true, _, ?_, h2.life o2 o3, k2.trans (h2.nl o3), .inr (.inl ⟨ho, rfl, g m, gB, gf, fun c hc hc0 => ?_, rfl⟩)⟩
      · simp only [decide_eq_true (show 0 ≤ (m : Int) by omega), cond_t, h2.rl, bind_some, hat, hcell, o1]
      · obtain ⟨j, hj, rfl⟩ := w6 c hc hc0
        have := hmin j hj
        refine ⟨this.1, fun hlt => this.2 ?_⟩
        by_cases hjm : j < m
        · exact hjm
        · by_cases he : j = m
          · subst he; omega
          · have := w7 m j (by omega) hj
            omega
  · rw [if_neg ho] at ha
    refine ⟨H, true, v, ?_, h, Keep.refl _ _, .inl ⟨by omega, rfl, rfl⟩⟩
    simp only [bind_some, Nat.zero_add, h.rl, ha, cond_t]
end
end Ev
