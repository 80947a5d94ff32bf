/- SWriteF SWriteG SWriteH SWriteR SWriteN SLaw13 -/
import Derived.Test.YtloijdlakkmjgaaKC5
import Derived.Test.YtloijdlakkmjgaaGLaw13
import Derived.Test.YtloijdlakkmjgaaKC4
/- The writer: which block is opened. -/
namespace Ev
open Go (IntKind)

def pairC (g : Nat → Nat) (w : Nat → Int) (j : Nat) : List C := [.int .i64 (g j : Int), .int .i64 (w (g j))]
theorem pair_len (g : Nat → Nat) (w : Nat → Int) : ∀ j, (pairC g w j).length = 2 := fun _ => rfl

/-- The first of those that are least. -/
theorem least_eq {H : Heap} {t : Sl} {n : Nat} (g : Nat → Nat) (w : Nat → Int) (h : Row H 2 t (arrC n (pairC g w))) (hn : n ≤ 1000000) :
    ∃ H' r, wear_Least t H = some ((r, ()), H') ∧ Keep (fun _ => False) H H' ∧ ((n = 0 ∧ r = -1) ∨ ∃ m : Nat, m < n ∧ r = (m : Int) ∧ ∀ j, j < n → w (g m) ≤ w (g j) ∧ (j < m → w (g m) < w (g j))) := by
  have hl : t.len = n := by have := h.len; rw [arrC_length (pair_len g w)] at this; omega
  have hcell : ∀ (G : Heap), Keep (fun _ => False) H G → ∀ j, j < n → ∃ b o, Sl.at 2 t (j : Int) = some (b, o) ∧ b < H.length ∧ @Eq (Option (Int × Int × Unit)) (rd G (.agg [.int .i64, .int .i64]) b o) (some ((g j : Int), w (g j), ())) ∧ rdI .i64 G b (o + 1) = some (w (g j)) := by
    intro G hK j hj
    have hG := h.keep hK fun _ _ _ => id
    obtain ⟨b, o, hp, h1, cs, bk, h2, h3, h4⟩ := slRow_cell hG.row (i := j) (by omega) hG.nil
    have hb : b < H.length := h.lt hp
    have c0 : cs[o + j * 2]? = some (.int .i64 (g j : Int)) := by
      have := h4 0 (by decide)
      rw [Nat.add_zero] at this
      rw [this, arrC_get (pair_len g w) (j := 0) (by decide) hj]; rfl
    have c1 : cs[o + j * 2 + 1]? = some (.int .i64 (w (g j))) := by
      rw [h4 1 (by decide), arrC_get (pair_len g w) (by decide) hj]; rfl
    have hlen : o + j * 2 + 2 ≤ cs.length := by have := (List.getElem?_eq_some_iff.1 c1).1; omega
    refine ⟨b, o + j * 2, h1, hb, ?_, rdI_of h2 c1⟩
    refine rd_agg_of h2 hlen ?_
    have e : (cs.drop (o + j * 2)).take 2 = [.int .i64 (g j : Int), .int .i64 (w (g j))] := by
      apply List.ext_getElem?
      intro i
      rw [List.getElem?_take]
      by_cases hi : i < 2
      · rw [if_pos hi, List.getElem?_drop]
        match i, hi with
        | 0, _ => rw [Nat.add_zero, c0]; rfl
        | 1, _ => rw [c1]; rfl
      · rw [if_neg hi, List.getElem?_eq_none (by simp; omega)]
    show Tup.un _ ((cs.drop (o + j * 2)).take 2) = _
    rw [e]; rfl
  obtain ⟨x, H', l1, l2, l3⟩ := loopW_run (step := wear_Least.s1 t) (fun y G => ∃ i : Nat, i ≤ n ∧ y.2.1 = (i : Int) ∧ Keep (fun _ => False) H G ∧ ((i = 0 ∧ y.1 = -1) ∨ ∃ m : Nat, m < i ∧ y.1 = (m : Int) ∧ ∀ j, j < i → w (g m) ≤ w (g j) ∧ (j < m → w (g m) < w (g j))))
    (fun x G => Keep (fun _ => False) H G ∧ ((n = 0 ∧ x.1 = -1) ∨ ∃ m : Nat, m < n ∧ x.1 = (m : Int) ∧ ∀ j, j < n → w (g m) ≤ w (g j) ∧ (j < m → w (g m) < w (g j)))) (fun y _ => (n - y.2.1).toNat)
    (by
      rintro ⟨q, j, u⟩ G ⟨i, hi, rfl, hK, hq⟩
      simp only at hq
      unfold wear_Least.s1
      rw [hl]
      by_cases hlt : i < n
      · obtain ⟨b, o, h1, h2, h3, h4⟩ := hcell G hK i hlt
        have mu : ((n : Int) - ((i + 1 : Nat) : Int)).toNat < ((n : Int) - (i : Int)).toNat := by omega
        have w1 : wr (G ++ [Blk.cells [.int .i64 0, .int .i64 0] .exact]) G.length 0 [.int .i64 (g i : Int), .int .i64 (w (g i))] = some (G ++ [Blk.cells [.int .i64 (g i : Int), .int .i64 (w (g i))] .exact]) := by
          rw [wr_last (by decide) (by simp)]; rfl
        have kp : Keep (fun _ => False) H (G ++ [Blk.cells [.int .i64 (g i : Int), .int .i64 (w (g i))] .exact]) := hK.trans (Keep.push _ _ _)
        have ei := wrap_succ (show i < 9223372036854775807 by omega)
        simp only [decide_eq_true (show (i : Int) < (n : Int) by omega), cond_t, h1, bind_some, h3, w1, ei]
        rcases hq with ⟨rfl, rfl⟩ | ⟨m, hm, rfl, hmin⟩
        · simp only [show decide ((-1 : Int) < 0) = true from rfl, cond_t, Round]
          exact ⟨⟨1, by omega, rfl, kp, .inr ⟨0, by omega, rfl, fun j hj => by
            have : j = 0 := by omega
            subst this
            exact ⟨Int.le_refl _, fun h => by omega⟩⟩⟩, mu⟩
        · obtain ⟨b2, o2, m1, _, _, m4⟩ := hcell _ kp m (by omega)
          have r7 : rdI .i64 (G ++ [Blk.cells [.int .i64 (g i : Int), .int .i64 (w (g i))] .exact]) G.length 1 = some (w (g i)) := rdI_of app_last rfl
          simp only [decide_eq_false (show ¬ (m : Int) < 0 by omega), cond_f, r7, bind_some, m1, m4]
          by_cases hc : w (g i) < w (g m)
          · simp only [decide_eq_true hc, cond_t, Round]
            exact ⟨⟨i + 1, by omega, rfl, kp, .inr ⟨i, by omega, rfl, fun j hj => by
              by_cases hji : j = i
              · subst hji; exact ⟨Int.le_refl _, fun h => by omega⟩
              · have := hmin j (by omega)
                exact ⟨by omega, fun _ => by omega⟩⟩⟩, mu⟩
          · simp only [decide_eq_false hc, cond_f, Round]
            exact ⟨⟨i + 1, by omega, rfl, kp, .inr ⟨m, by omega, rfl, fun j hj => by
              by_cases hji : j = i
              · subst hji; exact ⟨by omega, fun h => by omega⟩
              · exact hmin j (by omega)⟩⟩, mu⟩
      · have : i = n := by omega
        subst this
        simp only [decide_eq_false (show ¬ (i : Int) < (i : Int) by omega), cond_f, Round]
        exact ⟨hK, hq⟩) (-1, 0, ()) H ⟨0, Nat.zero_le _, rfl, Keep.refl _ _, .inl ⟨rfl, rfl⟩⟩
  refine ⟨H', x.1, ?_, l2, l3⟩
  unfold wear_Least
  simp only [l1, bind_some]

section
variable {N : Nat → Prop} {H : Heap} {z : WrA} {a : NdA} {e : LfA} {s : Nd} {v : Wr} {sb : Sl}

/-- The free blocks, and how often each was erased. -/
theorem wears_eq (h : WrAt N H z a e s v sb) (what : Nat) (hw : H[what]? = some (.cells [.int .i64 0] .exact)) (hwo : ¬ z.own a e sb what) :
    ∃ t H' n g, write_Writer_Wears (some (z.w, 0)) ⟨some (what, 0), 1, 1⟩ H = some ((t, ()), H') ∧ Keep (fun k => H.length ≤ k) H H' ∧ Row H' 2 t (arrC n (pairC g v.worn)) ∧ n ≤ e.B ∧ (∀ j, j < n → g j < e.B ∧ v.lf.l (g j) = 0) ∧ (∀ c, c < e.B → v.lf.l c = 0 → ∃ j, j < n ∧ g j = c) ∧ ∀ i j, i < j → j < n → g i < g j := by
  have hsz := h.lf.sz
  have hcnt : ∀ (G : Heap), Keep (fun k => H.length ≤ k) H G → WrAt N G z a e s v sb := fun G kp => h.keep kp fun k hk => by have := h.lt hk; omega
  obtain ⟨x, H', l1, l2, n, g, l3, l4, l5, l6, l7⟩ := loopW_run (step := write_Writer_Wears.s1 (some (z.w, 0)) ⟨some (what, 0), 1, 1⟩ ⟨some (z.wb, 0), e.B, e.B⟩)
    (fun y G => ∃ i : Nat, i ≤ e.B ∧ y.2.1 = (i : Int) ∧ Keep (fun k => H.length ≤ k) H G ∧ (∀ q, y.1.p = some q → H.length ≤ q.1) ∧ ∃ n g, Grown G 2 y.1 (arrC n (pairC g v.worn)) ∧ n ≤ i ∧ (∀ j, j < n → g j < i ∧ v.lf.l (g j) = 0) ∧ (∀ c, c < i → v.lf.l c = 0 → ∃ j, j < n ∧ g j = c) ∧ ∀ i j, i < j → j < n → g i < g j)
    (fun x G => Keep (fun k => H.length ≤ k) H G ∧ ∃ n g, Row G 2 x.1 (arrC n (pairC g v.worn)) ∧ n ≤ e.B ∧ (∀ j, j < n → g j < e.B ∧ v.lf.l (g j) = 0) ∧ (∀ c, c < e.B → v.lf.l c = 0 → ∃ j, j < n ∧ g j = c) ∧ ∀ i j, i < j → j < n → g i < g j) (fun y _ => (e.B - y.2.1).toNat)
    (by
      rintro ⟨q, j, u⟩ G ⟨i, hi, rfl, hK, hq, n, g, hg, hni, g1, g2, g3⟩
      simp only at hq hg
      unfold write_Writer_Wears.s1
      by_cases hlt : i < e.B
      · have hG := hcnt G hK
        have hwG : G[what]? = some (.cells [.int .i64 0] .exact) := hK.get hw (by have := get_lt hw; omega)
        have hrow : Row G 1 ⟨some (what, 0), 1, 1⟩ (intC [0]) := ⟨by unfold slRow Heap.row; simp only [hwG]; rw [cut_of (by decide)]; rfl, fun h => by cases h⟩
        have hcon := contains_eq hrow (by decide) (v.lf.l i)
        have mu : ((e.B : Int) - ((i + 1 : Nat) : Int)).toNat < ((e.B : Int) - (i : Int)).toNat := by omega
        have ei := wrap_succ (show i < 9223372036854775807 by omega)
        simp only [decide_eq_true (show (i : Int) < (e.B : Int) by omega), cond_t, WrAt.wat i hlt, bind_some, hG.ri hlt, Nat.zero_add, hG.rl, life_Is hG.lf hlt, hcon, ei]
        by_cases hf : v.lf.l i = 0
        · have hgp := hg.push (.cells [.int .i64 (i : Int), .int .i64 (v.worn i)] .exact)
          have hlen : q.len = n := by have := hg.len; rw [arrC_length (pair_len g v.worn)] at this; omega
          obtain ⟨a1, a2⟩ := hgp.app (bytes := 16) (by decide) (n := 1) (new := [.int .i64 (i : Int), .int .i64 (v.worn i)]) (by decide) rfl (by omega) (by omega)
          have hr : slRow (G ++ [.cells [.int .i64 (i : Int), .int .i64 (v.worn i)] .exact]) 2 ⟨some (G.length, 0), 1, 1⟩ = some [.int .i64 (i : Int), .int .i64 (v.worn i)] := row_last rfl
          have gl := grownH_length (G ++ [.cells [.int .i64 (i : Int), .int .i64 (v.worn i)] .exact]) q (arrC n (pairC g v.worn) ++ [.int .i64 (i : Int), .int .i64 (v.worn i)])
          have hGl := hK.len
          have hpl : (G ++ [Blk.cells [.int .i64 (i : Int), .int .i64 (v.worn i)] .exact]).length = G.length + 1 := by simp
          have kg : Keep (fun k => H.length ≤ k) (G ++ [.cells [.int .i64 (i : Int), .int .i64 (v.worn i)] .exact]) (grownH (G ++ [.cells [.int .i64 (i : Int), .int .i64 (v.worn i)] .exact]) q (arrC n (pairC g v.worn) ++ [.int .i64 (i : Int), .int .i64 (v.worn i)])) :=
            ⟨by rw [gl]; omega, fun y hy hf => grownH_get hy fun x hx e => hf (by rw [← e]; exact hq x hx)⟩
          have harr : arrC n (pairC g v.worn) ++ [.int .i64 (i : Int), .int .i64 (v.worn i)] = arrC (n + 1) (pairC (fun j => if j = n then i else g j) v.worn) := by
            rw [arrC]
            congr 1
            · exact arrC_congr fun j hj => by unfold pairC; simp only [if_neg (show ¬ j = n by omega)]
            · unfold pairC; simp only [if_true]
          rw [harr] at a1 a2 kg
          have hd : decide (v.lf.l i ∈ [(0 : Int)]) = true := decide_eq_true (by simp [hf])
          simp only [hd, cond_t, hr, bind_some, a1, Round]
          refine ⟨⟨i + 1, by omega, rfl, (hK.trans (Keep.push _ _ _)).trans kg, fun x hx => by cases hx; simp; omega, n + 1, fun j => if j = n then i else g j, a2, by omega, ?_, ?_, ?_⟩, mu⟩
          · intro j hj
            simp only
            split
            · exact ⟨by omega, hf⟩
            · have := g1 j (by omega); exact ⟨by omega, this.2⟩
          · intro c hc hc0
            by_cases hci : c = i
            · exact ⟨n, by omega, by simp [hci]⟩
            · obtain ⟨j, hj, hjc⟩ := g2 c (by omega) hc0
              exact ⟨j, by omega, by simp only [if_neg (show ¬ j = n by omega)]; exact hjc⟩
          · intro i1 j1 h12 hj1
            simp only
            rw [if_neg (show ¬ i1 = n by omega)]
            split
            · exact (g1 i1 (by omega)).1
            · exact g3 i1 j1 h12 (by omega)
        · have hd : decide (v.lf.l i ∈ [(0 : Int)]) = false := decide_eq_false (by simp [hf])
          simp only [hd, cond_f, Round]
          refine ⟨⟨i + 1, by omega, rfl, hK, hq, n, g, hg, by omega, fun j hj => ⟨by have := (g1 j hj).1; omega, (g1 j hj).2⟩, fun c hc hc0 => ?_, g3⟩, mu⟩
          by_cases hci : c = i
          · subst hci; exact absurd hc0 hf
          · exact g2 c (by omega) hc0
      · have : i = e.B := by omega
        subst this
        simp only [decide_eq_false (show ¬ (e.B : Int) < (e.B : Int) by omega), cond_f, Round]
        exact ⟨hK, n, g, Row.grown hg, hni, g1, g2, g3⟩) (⟨none, 0, 0⟩, 0, ()) H ⟨0, Nat.zero_le _, rfl, Keep.refl _ _, fun x hx => (by cases hx), 0, fun _ => 0, Grown.ni H 2, Nat.le_refl _, fun j hj => absurd hj (by omega), fun c hc => absurd hc (by omega), fun i j _ hj => absurd hj (by omega)⟩
  refine ⟨x.1, H', n, g, ?_, l2, l3, l4, l5, l6, l7⟩
  unfold write_Writer_Wears
  simp only [Option.isNone_some, cond_f, bind_some, Nat.zero_add, h.rw', l1]

/-- What opening does. -/
def Opened (e : LfA) (v : Wr) (r : Bool) (v' : Wr) : Prop :=
  (0 ≤ v.lf.op ∧ r = true ∧ v' = v) ∨ (v.lf.op < 0 ∧ r = true ∧ ∃ b, b < e.B ∧ v.lf.l b = 0 ∧ (∀ c, c < e.B → v.lf.l c = 0 → v.worn b ≤ v.worn c ∧ (c < b → v.worn b < v.worn c)) ∧ v' = { v with lf := ⟨upd v.lf.l b 1, (b : Int), 0⟩ }) ∨ (v.lf.op < 0 ∧ r = false ∧ (∀ i, i < e.B → v.lf.l i ≠ 0) ∧ v' = v)
theorem write_open (h : WrAt N H z a e s v sb) : ∃ H' r v', write_Writer_open (some (z.w, 0)) H = some ((r, ()), H') ∧ WrAt N H' z a e s v' sb ∧ Keep (fun k => ¬ N k) H H' ∧ Opened e v r v' := by
  unfold write_Writer_open
  have ha := life_At h.lf
  unfold Lf.at at ha
  by_cases ho : v.lf.op < 0
  · rw [if_pos ho] at ha
    have hp := h.push (.cells [.int .i64 0] .exact)
    obtain ⟨t, H1, n, g, w1, w2, w3, w4, w5, w6, w7⟩ := wears_eq hp H.length app_last (fun hk => by have := h.lt hk; omega)
    obtain ⟨H2, r, m1, m2, m3⟩ := least_eq g v.worn w3 (by have := h.lf.sz; omega)
    have h1 : WrAt N H1 z a e s v sb := hp.keep w2 fun k hk => by have := hp.lt hk; omega
    have h2 : WrAt N H2 z a e s v sb := h1.keep m2 fun _ _ => id
    have k2 : Keep (fun k => ¬ N k) H H2 := ((Keep.push _ _ _).trans (w2.mono fun k hk hn => by have := hp.NL k hn; omega)).trans (m2.mono fun _ hf => hf.elim)
    simp only [bind_some, Nat.zero_add, h.rl, ha, cond_f, w1, m1]
    rcases m3 with ⟨h0, rfl⟩ | ⟨m, hm, rfl, hmin⟩
    · refine ⟨H2, false, v, ?_, h2, k2, .inr (.inr ⟨ho, rfl, fun i hi hf => ?_, rfl⟩)⟩
      · simp only [show decide (0 ≤ (-1 : Int)) = false from rfl, cond_f]
      · obtain ⟨j, hj, _⟩ := w6 i hi hf
        omega
    · have hr2 : Row H2 2 t (arrC n (pairC g v.worn)) := w3.keep m2 fun _ _ _ => id
      obtain ⟨b, o, hpt, hat, cs, bk, c1, c2, c3⟩ := slRow_cell hr2.row (i := m) (by have := hr2.len; rw [arrC_length (pair_len g v.worn)] at this; omega) hr2.nil
      have hcell : rdI .i64 H2 b (o + m * 2) = some (g m : Int) := rdI_of c1 (by
        have := c3 0 (by decide)
        rw [Nat.add_zero] at this
        rw [this, arrC_get (pair_len g v.worn) (j := 0) (by decide) hm]; rfl)
      obtain ⟨gB, gf⟩ := w5 m hm
      obtain ⟨H3, o1, o2, o3⟩ := life_Open h2.lf gB gf ho
      refine ⟨H3, true, _, ?_, h2.life o2 o3, k2.trans (h2.nl o3), .inr (.inl ⟨ho, rfl, g m, gB, gf, fun c hc hc0 => ?_, rfl⟩)⟩
      · simp only [decide_eq_true (show 0 ≤ (m : Int) by omega), cond_t, h2.rl, bind_some, hat, hcell, o1]
      · obtain ⟨j, hj, rfl⟩ := w6 c hc hc0
        have := hmin j hj
        refine ⟨this.1, fun hlt => this.2 ?_⟩
        by_cases hjm : j < m
        · exact hjm
        · by_cases he : j = m
          · subst he; omega
          · have := w7 m j (by omega) hj
            omega
  · rw [if_neg ho] at ha
    refine ⟨H, true, v, ?_, h, Keep.refl _ _, .inl ⟨by omega, rfl, rfl⟩⟩
    simp only [bind_some, Nat.zero_add, h.rl, ha, cond_t]
end
end Ev

/- The writer: erasing; a block that fails. -/
namespace Ev
open Go (IntKind)

section
variable {N : Nat → Prop} {H : Heap} {z : WrA} {a : NdA} {e : LfA} {s : Nd} {v : Wr} {sb : Sl} {D : Int}

def Wr.spoilt (v : Wr) (b : Nat) : Wr := ⟨v.lf.set b 3, v.worn, v.bad ++ [(b : Int)]⟩
theorem write_spoil (h : WrAt N H z a e s v sb) (w : Wf a s D) {b : Nat} (hb : b < e.B) (hl : v.bad.length < 1000000) :
    ∃ H' sb', write_Writer_spoil (some (z.w, 0)) (b : Int) H = some (((s.markT a (b : Int)).1, ()), H') ∧ WrAt N H' z a e (s.markT a (b : Int)).2 (v.spoilt b) sb' ∧ Keep (fun k => ¬ N k) H H' := by
  obtain ⟨H1, a1, a2, a3⟩ := life_Bad h.lf hb
  have h1 := h.life a2 a3
  obtain ⟨sb', H2, H3, b1, b2, b3, b4⟩ := h1.addB (b : Int) hl
  obtain ⟨H4, c1, c2, c3⟩ := nand_markT b3.nd w (b : Int)
  have h4 := b3.chip c2 c3
  refine ⟨H4, sb', ?_, h4, ((h.nl a3).trans b4).trans (b3.nc c3)⟩
  have hr : slRow (H1 ++ [.cells [.int .i64 (b : Int)] .exact]) 1 ⟨some (H1.length, 0), 1, 1⟩ = some [.int .i64 (b : Int)] := row_last rfl
  unfold write_Writer_spoil
  simp only [bind_some, Nat.zero_add, h.rl, a1, h1.rb, hr, b1, b2, b3.rc, c1]

/-- What erasing comes to. -/
def eraseW (a : NdA) (s : Nd) (v : Wr) (i : Nat) : Int × Nd × Wr :=
  if (s.eraseT a (i : Int)).1 = 0 then (0, (s.eraseT a (i : Int)).2, { v with worn := upd v.worn i (v.worn i + 1), lf := v.lf.set i 0 })
  else if (s.eraseT a (i : Int)).1 = 54 then (((s.eraseT a (i : Int)).2.markT a (i : Int)).1, ((s.eraseT a (i : Int)).2.markT a (i : Int)).2, v.spoilt i)
  else ((s.eraseT a (i : Int)).1, (s.eraseT a (i : Int)).2, v)
theorem write_Erase (h : WrAt N H z a e s v sb) (w : Wf a s D) (hD : D < 1000000) {i : Nat} (hi : i < e.B) (h0 : 0 ≤ v.lf.l i) (hl : v.bad.length < 1000000) (hw : -1 ≤ v.worn i ∧ v.worn i < 1000000) :
    ∃ H' sb', write_Writer_Erase (some (z.w, 0)) (i : Int) H = some (((eraseW a s v i).1, ()), H') ∧ WrAt N H' z a e (eraseW a s v i).2.1 (eraseW a s v i).2.2 sb' ∧ Keep (fun k => ¬ N k) H H' := by
  obtain ⟨H1, a1, a2, a3⟩ := nand_eraseT h.nd w (i : Int)
  have w1 := (w.eraseT hD (i : Int)).1
  have h1 := h.chip a2 a3
  unfold write_Writer_Erase eraseW
  simp only [Option.isNone_some, cond_f, bind_some, Nat.zero_add, h.rl, life_Is h.lf hi, decide_eq_false (show ¬ v.lf.l i < 0 by omega), h.rc, a1]
  generalize s.eraseT a (i : Int) = pr at *
  by_cases e0 : pr.1 = 0
  · obtain ⟨H2, b1, b2, b3⟩ := h1.wi hi (v.worn i + 1)
    obtain ⟨H3, c1, c2, c3⟩ := life_Free b2.lf hi
    rw [if_pos e0]
    refine ⟨H3, sb, ?_, b2.life c2 c3, ((h.nc a3).trans b3).trans (b2.nl c3)⟩
    have ew : IntKind.wrap .i64 (v.worn i + 1) = v.worn i + 1 := wrap_i64 (by omega) (by omega)
    simp only [decide_eq_true e0, cond_t, h1.rw', bind_some, WrAt.wat i hi, h1.ri hi, ew, b1, b2.rl, c1]
  · rw [if_neg e0]
    by_cases e54 : pr.1 = 54
    · obtain ⟨H2, sb', b1, b2, b3⟩ := write_spoil h1 w1 hi hl
      rw [if_pos e54]
      refine ⟨H2, sb', ?_, b2, (h.nc a3).trans b3⟩
      simp only [decide_eq_false e0, cond_f, decide_eq_true e54, cond_t, b1, bind_some]
    · rw [if_neg e54]
      refine ⟨H1, sb, ?_, h1, h.nc a3⟩
      simp only [decide_eq_false e0, cond_f, decide_eq_false e54]

theorem write_Life (h : WrAt N H z a e s v sb) : write_Writer_Life (some (z.w, 0)) H = some ((some (e.c, 0), ()), H) := by
  unfold write_Writer_Life
  simp only [Option.isNone_some, cond_f, bind_some, Nat.zero_add, h.rl]
theorem write_Bads (h : WrAt N H z a e s v sb) : ∃ H', write_Writer_Bads (some (z.w, 0)) H = some ((sb, ()), H') ∧ WrAt N H' z a e s { v with bad := [] } ⟨none, 0, 0⟩ ∧ Keep (fun k => k = z.w) H H' ∧ Row H' 1 sb (intC v.bad) := by
  have kp : Keep (fun k => k = z.w) H (H.set z.w (.cells ((wcells z a e sb).set 3 (.sl 1 ⟨none, 0, 0⟩)) .exact)) := Keep.set _ _ _ rfl
  obtain ⟨H', w1, w2, w3⟩ := h.nilB
  have hH : H' = H.set z.w (.cells ((wcells z a e sb).set 3 (.sl 1 ⟨none, 0, 0⟩)) .exact) := by
    have := wr1_of (o := 3) (c := .sl 1 ⟨none, 0, 0⟩) h.cell (by decide) (by simp [wcells])
    rw [w1] at this
    exact Option.some.inj this
  subst hH
  refine ⟨_, ?_, w2, kp, (Row.grown h.bads).keep kp fun b o hp hf => h.d3.2.1 o (by rw [← hf]; exact hp)⟩
  unfold write_Writer_Bads
  simp only [Option.isNone_some, cond_f, bind_some, Nat.zero_add, h.rb, w1]
theorem write_Worn (h : WrAt N H z a e s v sb) : ∃ t H', write_Writer_Worn (some (z.w, 0)) H = some ((t, ()), H') ∧ Row H' 1 t (arrC e.B v.row) ∧ Keep (fun _ => False) H H' ∧ t.len = e.B := by
  have hsz := h.lf.sz
  obtain ⟨bk, h1, h2⟩ := h.worn
  have hr : Row H 1 ⟨some (z.wb, 0), e.B, e.B⟩ (arrC e.B v.row) := ⟨by
    unfold slRow Heap.row
    simp only [h2, Nat.mul_one]
    rw [cut_all (by rw [arrC_length (wrow_len v)]; omega)], fun hh => by cases hh⟩
  obtain ⟨t, H', c1, c2, c3, c4, _⟩ := clone_int hr (by show e.B ≤ _; omega)
  refine ⟨t, H', ?_, c2, c3, c4⟩
  unfold write_Writer_Worn
  simp only [Option.isNone_some, cond_f, bind_some, Nat.zero_add, h.rw', c1]
end
end Ev

/- The writer: a page is written. -/
namespace Ev
open Go (IntKind)

def Tg.worn (t : Tg) (n : Int) : Tg := (t.1, t.2.1, t.2.2.1, t.2.2.2.1, n, ())
/-- A page of a block is tried. -/
def tryW (a : NdA) (s : Nd) (t : Tg) (x : Bytes) (v : Wr) (b : Nat) : Int × Nd := s.progT a (b : Int) (v.lf.nx : Int) (dataOf x a.S) (spareOf (t.worn (v.worn b)) x a.S)

section
variable {N : Nat → Prop} {H : Heap} {z : WrA} {a : NdA} {e : LfA} {s : Nd} {v : Wr} {sb : Sl} {D : Int}

/-- What one round asks for, and what it comes to; J: what holds ahead of a round; Q: what is told. -/
def RoundW (a : NdA) (e : LfA) (t : Tg) (x : Bytes) (J : Nd → Wr → Prop) (Q : Nd → Wr → Int → Int → Prop) (μ : Nd → Wr → Nat) (s : Nd) (v : Wr) : Prop :=
  (∃ D, Wf a s D ∧ D + 5 ≤ 1000000) ∧ v.bad.length < 1000000 ∧ ∀ r v1, Opened e v r v1 → (r = false → Q s v1 0 130) ∧ (r = true → ∃ b, b < e.B ∧ v1.lf.op = (b : Int) ∧ v1.lf.nx < 1000 ∧ tagOK (t.worn (v1.worn b)) = true ∧
    ((tryW a s t x v1 b).1 = 0 → Q (tryW a s t x v1 b).2 { v1 with lf := v1.lf.took e b } ((b * a.P + v1.lf.nx : Nat) : Int) 0) ∧
    ((tryW a s t x v1 b).1 = 53 → (((tryW a s t x v1 b).2.markT a (b : Int)).1 ≠ 0 → Q ((tryW a s t x v1 b).2.markT a (b : Int)).2 (({ v1 with lf := v1.lf.took e b } : Wr).spoilt b) 0 ((tryW a s t x v1 b).2.markT a (b : Int)).1) ∧
      (((tryW a s t x v1 b).2.markT a (b : Int)).1 = 0 → J ((tryW a s t x v1 b).2.markT a (b : Int)).2 (({ v1 with lf := v1.lf.took e b } : Wr).spoilt b) ∧ μ ((tryW a s t x v1 b).2.markT a (b : Int)).2 (({ v1 with lf := v1.lf.took e b } : Wr).spoilt b) < μ s v)) ∧
    ((tryW a s t x v1 b).1 = 52 → J (tryW a s t x v1 b).2 { v1 with lf := (v1.lf.took e b).set b 2 } ∧ μ (tryW a s t x v1 b).2 { v1 with lf := (v1.lf.took e b).set b 2 } < μ s v) ∧
    ((tryW a s t x v1 b).1 ≠ 0 → (tryW a s t x v1 b).1 ≠ 53 → (tryW a s t x v1 b).1 ≠ 52 → Q (tryW a s t x v1 b).2 { v1 with lf := v1.lf.took e b } 0 (tryW a s t x v1 b).1))

theorem write_Append_no (h : WrAt N H z a e s v sb) {t : Tg} {x : Bytes} (hno : tagOK (t.worn 0) = false ∨ a.S < x.length) : ∃ H', write_Writer_Append (some (z.w, 0)) t x H = some ((0, 1, ()), H') ∧ WrAt N H' z a e s v sb ∧ Keep (fun _ => False) H H' := by
  have h1 := h.push (tagB t)
  obtain ⟨G, g1, g2, g3⟩ := nand_geometry h1.nd
  have hg := h1.keep g3 fun _ _ => id
  let zB : Blk := .cells [.int .i64 (a.B : Int), .int .i64 (a.P : Int), .int .i64 (a.S : Int)] .exact
  have w1 : wr (G ++ [Blk.cells [.int .i64 0, .int .i64 0, .int .i64 0] .exact]) G.length 0 [.int .i64 (a.B : Int), .int .i64 (a.P : Int), .int .i64 (a.S : Int)] = some (G ++ [zB]) := by
    rw [wr_last (by decide) (by simp)]; rfl
  have ht0 : G[H.length]? = some (tagB t) := g3.get app_last id
  have hlG := get_lt ht0
  have ht : (G ++ [zB])[H.length]? = some (tagB t) := by rw [app_lt hlG]; exact ht0
  have w2 : wr (G ++ [zB]) H.length 4 [.int .i64 0] = some ((G ++ [zB]).set H.length (tagB (t.worn 0))) := wr1_of ht (by decide) (by simp)
  have r1 : @Eq (Option Tg) (rd ((G ++ [zB]).set H.length (tagB (t.worn 0))) (.agg [.int .i64, .int .u64, .int .i64, .int .i64, .int .i64]) H.length 0) (some (t.worn 0)) := rd_tag (set_get (get_lt ht))
  have r2 : rdI .i64 ((G ++ [zB]).set H.length (tagB (t.worn 0))) G.length 2 = some (a.S : Int) := rdI_of (by rw [set_get' (by omega)]; exact app_last) rfl
  have fr : page_Frame (t.worn 0) x (a.S : Int) = some ([], [], 1, ()) := page_Frame_no (by
    rcases hno with hh | hh
    · exact .inl hh
    · exact .inr (.inr (.inr (by omega))))
  have kp : Keep (fun k => k = H.length) (G ++ [zB]) ((G ++ [zB]).set H.length (tagB (t.worn 0))) := Keep.set _ _ _ rfl
  refine ⟨_, ?_, (hg.push zB).keep kp fun k hk hf => by have := h.lt hk; omega, ?_⟩
  · have q1 : H ++ [Blk.cells [.int .i64 t.1, .int .u64 t.2.1, .int .i64 t.2.2.1, .int .i64 t.2.2.2.1, .int .i64 t.2.2.2.2.1] .exact] = H ++ [tagB t] := rfl
    unfold write_Writer_Append
    have fr' : page_Frame ((t.worn 0).1, (t.worn 0).2.1, (t.worn 0).2.2.1, (t.worn 0).2.2.2.1, (t.worn 0).2.2.2.2.1, ()) x (a.S : Int) = some ([], [], 1, ()) := fr
    have hd : (!decide ((1 : Int) = 0)) = true := rfl
    simp only [q1, Option.isNone_some, cond_f, bind_some, Nat.zero_add, h1.rc, g1, w1, w2, r1, r2, fr', hd, cond_t]
  · have k1 : Keep (fun _ => False) H (G ++ [zB]) := ((Keep.push _ _ _).trans g3).trans (Keep.push _ _ _)
    exact ⟨by have := k1.len; have := kp.len; omega, fun k hk _ => by rw [kp.same k (by have := k1.len; omega) (by omega), k1.same k hk id]⟩

theorem write_Append_run {J : Nd → Wr → Prop} {Q : Nd → Wr → Int → Int → Prop} (μ : Nd → Wr → Nat) {t : Tg} {x : Bytes} (h : WrAt N H z a e s v sb) (ht0 : tagOK (t.worn 0) = true) (hseq : 0 ≤ t.2.1 ∧ t.2.1 < 18446744073709551616) (hx : x.length ≤ a.S) (hS : a.S ≤ 1000 ∧ a.B ≤ 1000 ∧ a.P ≤ 1000)
    (hj : J s v) (hr : ∀ s v, J s v → RoundW a e t x J Q μ s v) :
    ∃ H' at' er s' v' sb', write_Writer_Append (some (z.w, 0)) t x H = some ((at', er, ()), H') ∧ WrAt N H' z a e s' v' sb' ∧ Keep (fun k => ¬ N k) H H' ∧ Q s' v' at' er := by
  have h1 := h.push (tagB t)
  obtain ⟨G, g1, g2, g3⟩ := nand_geometry h1.nd
  have hg := h1.keep g3 fun _ _ => id
  let zB : Blk := .cells [.int .i64 (a.B : Int), .int .i64 (a.P : Int), .int .i64 (a.S : Int)] .exact
  have w1 : wr (G ++ [Blk.cells [.int .i64 0, .int .i64 0, .int .i64 0] .exact]) G.length 0 [.int .i64 (a.B : Int), .int .i64 (a.P : Int), .int .i64 (a.S : Int)] = some (G ++ [zB]) := by
    rw [wr_last (by decide) (by simp)]; rfl
  have htg0 : G[H.length]? = some (tagB t) := g3.get app_last id
  have hlG := get_lt htg0
  have htg : (G ++ [zB])[H.length]? = some (tagB t) := by rw [app_lt hlG]; exact htg0
  have w2 : wr (G ++ [zB]) H.length 4 [.int .i64 0] = some ((G ++ [zB]).set H.length (tagB (t.worn 0))) := wr1_of htg (by decide) (by simp)
  have kp : Keep (fun k => k = H.length) (G ++ [zB]) ((G ++ [zB]).set H.length (tagB (t.worn 0))) := Keep.set _ _ _ rfl
  generalize eG7 : (G ++ [zB]).set H.length (tagB (t.worn 0)) = G7 at w2 kp
  have htag7 : G7[H.length]? = some (tagB (t.worn 0)) := by rw [← eG7]; exact set_get (get_lt htg)
  have hgeo7 : G7[G.length]? = some zB := by rw [← eG7, set_get' (by omega)]; exact app_last
  have h7 : WrAt N G7 z a e s v sb := (hg.push zB).keep kp fun k hk hf => by have := h.lt hk; omega
  let M : Nat → Prop := fun k => N k ∨ k = H.length ∨ k = G.length
  have hlt7 := get_lt hgeo7
  have h7' : WrAt M G7 z a e s v sb := h7.more (fun k hk hm => by
    have := h.lt hk
    rcases hm with hm | hm | hm
    · exact h.nN k hk hm
    · omega
    · omega) (fun k hm => by
    rcases hm with hm | hm | hm
    · exact h7.NL k hm
    · omega
    · omega)
  have r1 : @Eq (Option Tg) (rd G7 (.agg [.int .i64, .int .u64, .int .i64, .int .i64, .int .i64]) H.length 0) (some (t.worn 0)) := rd_tag htag7
  have r2 : rdI .i64 G7 G.length 2 = some (a.S : Int) := rdI_of hgeo7 rfl
  have fr : page_Frame (t.worn 0) x (a.S : Int) = some (dataOf x a.S, spareOf (t.worn 0) x a.S, 0, ()) := page_Frame_yes ht0 hseq (by omega) hx
  have k7 : Keep (fun k => ¬ N k) H G7 := by
    have k1 : Keep (fun _ => False) H (G ++ [zB]) := ((Keep.push _ _ _).trans g3).trans (Keep.push _ _ _)
    exact ⟨by have := k1.len; have := kp.len; omega, fun k hk _ => by rw [kp.same k (by have := k1.len; omega) (by omega), k1.same k hk id]⟩
  obtain ⟨y, H', l1, s', v', sb', l2, l3, l4⟩ : ∃ y H', loopW (write_Writer_Append.s1 (some (z.w, 0)) x H ((((a.B : Int), (a.P : Int), (a.S : Int), ()), ()), G)) () G7 = some (y, H') ∧ ∃ s' v' sb', WrAt M H' z a e s' v' sb' ∧ Keep (fun k => ¬ N k) G7 H' ∧ Q s' v' (Sum.elim (fun _ => 0) (fun q => q.1) y) (Sum.elim (fun _ => 130) (fun q => q.2.1) y) := by
    have key : ∀ n, ∀ (s : Nd) (v : Wr) (sb : Sl) (A : Heap) (c : Int), μ s v ≤ n → J s v → WrAt M A z a e s v sb → A[H.length]? = some (tagB (t.worn c)) → A[G.length]? = some zB → ∃ m y H', iter (write_Writer_Append.s1 (some (z.w, 0)) x H ((((a.B : Int), (a.P : Int), (a.S : Int), ()), ()), G)) m () A = some (y, H') ∧ ∃ s' v' sb', WrAt M H' z a e s' v' sb' ∧ Keep (fun k => ¬ N k) A H' ∧ Q s' v' (Sum.elim (fun _ => 0) (fun q => q.1) y) (Sum.elim (fun _ => 130) (fun q => q.2.1) y) := by
      have ground : ∀ (s : Nd) (v : Wr) (sb : Sl) (A : Heap) (c : Int), J s v → WrAt M A z a e s v sb → A[H.length]? = some (tagB (t.worn c)) → A[G.length]? = some zB →
          (∃ y A', write_Writer_Append.s1 (some (z.w, 0)) x H ((((a.B : Int), (a.P : Int), (a.S : Int), ()), ()), G) () A = some (.inr y, A') ∧ ∃ s' v' sb', WrAt M A' z a e s' v' sb' ∧ Keep (fun k => ¬ N k) A A' ∧ Q s' v' (Sum.elim (fun _ => 0) (fun q => q.1) y) (Sum.elim (fun _ => 130) (fun q => q.2.1) y)) ∨
          (∃ A' s' v' sb' c', write_Writer_Append.s1 (some (z.w, 0)) x H ((((a.B : Int), (a.P : Int), (a.S : Int), ()), ()), G) () A = some (.inl (), A') ∧ J s' v' ∧ μ s' v' < μ s v ∧ WrAt M A' z a e s' v' sb' ∧ Keep (fun k => ¬ N k) A A' ∧ A'[H.length]? = some (tagB (t.worn c')) ∧ A'[G.length]? = some zB) := by
        intro s v sb A c hJ hA htA hgA
        have mN : ∀ {X Y : Heap}, Keep (fun k => ¬ M k) X Y → Keep (fun k => ¬ N k) X Y := fun k => k.mono fun j hj hn => hj (.inl hn)
        obtain ⟨⟨D, wf, hD⟩, hbl, hround⟩ := hr s v hJ
        obtain ⟨A1, r, v1, o1, o2, o3, o4⟩ := write_open hA
        have hbad : v1.bad = v.bad := by
          rcases o4 with ⟨_, _, rfl⟩ | ⟨_, _, b, _, _, _, rfl⟩ | ⟨_, _, _, rfl⟩ <;> rfl
        cases r with
        | false =>
          refine .inl ⟨.inl (), A1, ?_, s, v1, sb, o2, mN o3, (hround false v1 o4).1 rfl⟩
          unfold write_Writer_Append.s1
          simp only [o1, bind_some, cond_f]
        | true =>
          obtain ⟨b, hb, hop, hnx, htok, c0, c53, c52, cx⟩ := (hround true v1 o4).2 rfl
          obtain ⟨A2, t1, t2, t3⟩ := life_Take o2.lf hb hop hnx
          have h2 := o2.life t2 t3
          have k2 : Keep (fun k => ¬ M k) A A2 := o3.trans (o2.nl t3)
          have htA2 := k2.get htA (fun hm => hm (.inr (.inl rfl)))
          have hgA2 := k2.get hgA (fun hm => hm (.inr (.inr rfl)))
          have w3 : wr A2 H.length 4 [.int .i64 (v1.worn b)] = some (A2.set H.length (tagB (t.worn (v1.worn b)))) := wr1_of htA2 (by decide) (by simp)
          have kp3 : Keep (fun k => k = H.length) A2 (A2.set H.length (tagB (t.worn (v1.worn b)))) := Keep.set _ _ _ rfl
          generalize eA3 : A2.set H.length (tagB (t.worn (v1.worn b))) = A3 at w3 kp3
          have htA3 : A3[H.length]? = some (tagB (t.worn (v1.worn b))) := by rw [← eA3]; exact set_get (get_lt htA2)
          have hgA3 : A3[G.length]? = some zB := by rw [← eA3, set_get' (by omega)]; exact hgA2
          have h3 : WrAt M A3 z a e s { v1 with lf := v1.lf.took e b } sb := h2.keep kp3 fun k hk hf => h2.nN k hk (.inr (.inl hf))
          have nH : ¬ N H.length := fun hn => by have := h.NL _ hn; omega
          have k3 : Keep (fun k => ¬ N k) A A3 := (mN k2).trans (kp3.mono fun k hk => by rw [hk]; exact nH)
          have rt : @Eq (Option Tg) (rd A3 (.agg [.int .i64, .int .u64, .int .i64, .int .i64, .int .i64]) H.length 0) (some (t.worn (v1.worn b))) := rd_tag htA3
          have rS : rdI .i64 A3 G.length 2 = some (a.S : Int) := rdI_of hgA3 rfl
          have frb : page_Frame ((t.worn (v1.worn b)).1, (t.worn (v1.worn b)).2.1, (t.worn (v1.worn b)).2.2.1, (t.worn (v1.worn b)).2.2.2.1, (t.worn (v1.worn b)).2.2.2.2.1, ()) x (a.S : Int) = some (dataOf x a.S, spareOf (t.worn (v1.worn b)) x a.S, 0, ()) := page_Frame_yes htok hseq (by omega) hx
          obtain ⟨A4, p1, p2, p3⟩ := nand_programT h3.nd wf (b : Int) (v1.lf.nx : Int) (dataOf x a.S) (spareOf (t.worn (v1.worn b)) x a.S)
          have wf4 := (wf.progT (by omega) (b : Int) (v1.lf.nx : Int) (dataOf x a.S) (spareOf (t.worn (v1.worn b)) x a.S)).1
          have etry : s.progT a (b : Int) (v1.lf.nx : Int) (dataOf x a.S) (spareOf (t.worn (v1.worn b)) x a.S) = tryW a s t x v1 b := rfl
          rw [etry] at p1 p2 wf4
          have h4 := h3.chip p2 p3
          have k4 := k3.trans (mN (h3.nc p3))
          have k4M := h3.nc p3
          have htA4 := k4M.get htA3 (fun hm => hm (.inr (.inl rfl)))
          have hgA4 := k4M.get hgA3 (fun hm => hm (.inr (.inr rfl)))
          have pre : ∀ {R : Option (((Unit) ⊕ ((Unit) ⊕ (Int × Int × Unit))) × Heap)}, (cond (decide ((tryW a s t x v1 b).1 = 0)) ((rdI .i64 A4 G.length 1).bind fun (v28 : Int) => some (Sum.inr (Sum.inr ((IntKind.wrap .i64 ((IntKind.wrap .i64 ((b : Int) * v28)) + (v1.lf.nx : Int))), 0, ())), A4)) (
 cond (decide ((tryW a s t x v1 b).1 = 53)) (
 (write_Writer_spoil (some (z.w, 0)) (b : Int) A4).bind fun (r29 : ((Int × Unit) × Heap)) =>
 cond (!decide (r29.1.1 = 0)) (
 some (Sum.inr (Sum.inr (0, r29.1.1, ())), r29.2)) (
 some (Sum.inl (()), r29.2))) (
 cond (decide ((tryW a s t x v1 b).1 = 52)) (
 (life_Life_Full (some (e.c, 0)) (b : Int) A4).bind fun (r32 : ((Bool × Unit) × Heap)) =>
 some (Sum.inl (()), r32.2)) (
 some (Sum.inr (Sum.inr (0, (tryW a s t x v1 b).1, ())), A4))))) = R → write_Writer_Append.s1 (some (z.w, 0)) x H ((((a.B : Int), (a.P : Int), (a.S : Int), ()), ()), G) () A = R := by
            intro R hR
            rw [← hR]
            unfold write_Writer_Append.s1
            simp only [o1, bind_some, cond_t, Nat.zero_add, o2.rl, t1, h2.rw', WrAt.wat b hb, h2.ri hb, w3, rt, rS, frb, h3.rc, p1, h4.rl]
          by_cases e0 : (tryW a s t x v1 b).1 = 0
          · refine .inl ⟨.inr (((b * a.P + v1.lf.nx : Nat) : Int), 0, ()), A4, pre ?_, _, _, sb, h4, k4, c0 e0⟩
            have hbB : b < a.B := by rw [← h.eB.1]; exact hb
            have hbP : b * a.P ≤ 1000000 := by
              have := Nat.mul_le_mul (show b ≤ 1000 by omega) hS.2.2
              omega
            have ew : IntKind.wrap .i64 (IntKind.wrap .i64 ((b : Int) * (a.P : Int)) + (v1.lf.nx : Int)) = ((b * a.P + v1.lf.nx : Nat) : Int) := by
              have ew1 : IntKind.wrap .i64 ((b : Int) * (a.P : Int)) = ((b * a.P : Nat) : Int) := by rw [← Int.natCast_mul]; generalize b * a.P = bp at hbP; exact wrap_i64 (by omega) (by omega)
              rw [ew1]
              generalize b * a.P = bp at hbP
              rw [wrap_i64 (by omega) (by omega)]; omega
            have rP : rdI .i64 A4 G.length 1 = some (a.P : Int) := rdI_of hgA4 rfl
            simp only [decide_eq_true e0, cond_t, rP, bind_some, ew]
          · by_cases e53 : (tryW a s t x v1 b).1 = 53
            · obtain ⟨A5, sb', q1, q2, q3⟩ := write_spoil h4 wf4 hb (by rw [show ({ v1 with lf := v1.lf.took e b } : Wr).bad = v1.bad from rfl, hbad]; exact hbl)
              by_cases em : ((tryW a s t x v1 b).2.markT a (b : Int)).1 = 0
              · obtain ⟨j1, j2⟩ := (c53 e53).2 em
                refine .inr ⟨A5, _, _, sb', v1.worn b, pre ?_, j1, j2, q2, k4.trans (mN q3), q3.get htA4 (fun hm => hm (.inr (.inl rfl))), q3.get hgA4 (fun hm => hm (.inr (.inr rfl)))⟩
                simp only [decide_eq_false e0, cond_f, decide_eq_true e53, cond_t, q1, bind_some, decide_eq_true em, Bool.not_true]
              · refine .inl ⟨.inr (0, ((tryW a s t x v1 b).2.markT a (b : Int)).1, ()), A5, pre ?_, _, _, sb', q2, k4.trans (mN q3), (c53 e53).1 em⟩
                simp only [decide_eq_false e0, cond_f, decide_eq_true e53, cond_t, q1, bind_some, decide_eq_false em, Bool.not_false]
            · by_cases e52 : (tryW a s t x v1 b).1 = 52
              · obtain ⟨A5, q1, q2, q3⟩ := life_Full h4.lf hb
                have h5 := h4.life q2 q3
                have k5 := h4.nl q3
                obtain ⟨j1, j2⟩ := c52 e52
                refine .inr ⟨A5, _, _, sb, v1.worn b, pre ?_, j1, j2, h5, k4.trans (mN k5), k5.get htA4 (fun hm => hm (.inr (.inl rfl))), k5.get hgA4 (fun hm => hm (.inr (.inr rfl)))⟩
                simp only [decide_eq_false e0, cond_f, decide_eq_false e53, decide_eq_true e52, cond_t, q1, bind_some]
              · refine .inl ⟨.inr (0, (tryW a s t x v1 b).1, ()), A4, pre ?_, _, _, sb, h4, k4, cx e0 e53 e52⟩
                simp only [decide_eq_false e0, cond_f, decide_eq_false e53, decide_eq_false e52]
      intro n
      induction n with
      | zero =>
        intro s v sb A c hm hJ hA h1' h2'
        rcases ground s v sb A c hJ hA h1' h2' with ⟨y, A', g1, g2⟩ | ⟨A', s', v', sb', c', _, _, g3, _⟩
        · exact ⟨1, y, A', by rw [iter, g1]; rfl, g2⟩
        · omega
      | succ n ih =>
        intro s v sb A c hm hJ hA h1' h2'
        rcases ground s v sb A c hJ hA h1' h2' with ⟨y, A', g1, g2⟩ | ⟨A', s', v', sb', c', g1, g2, g3, g4, g5, g6, g7⟩
        · exact ⟨1, y, A', by rw [iter, g1]; rfl, g2⟩
        · obtain ⟨m, y, B', i1, s2, v2, sb2, i2, i3, i4⟩ := ih s' v' sb' A' c' (by omega) g2 g4 g6 g7
          exact ⟨m + 1, y, B', by rw [iter, g1]; exact i1, s2, v2, sb2, i2, g5.trans i3, i4⟩
    obtain ⟨m, y, H', i1, i2⟩ := key _ s v sb G7 0 (Nat.le_refl _) hj h7' htag7 hgeo7
    exact ⟨y, H', loopW_eq i1, i2⟩
  have hres : WrAt N H' z a e s' v' sb' := l2.more (fun k hk hn => l2.nN k hk (.inl hn)) (fun k hn => l2.NL k (.inl hn))
  have q1 : H ++ [Blk.cells [.int .i64 t.1, .int .u64 t.2.1, .int .i64 t.2.2.1, .int .i64 t.2.2.2.1, .int .i64 t.2.2.2.2.1] .exact] = H ++ [tagB t] := rfl
  have fr' : page_Frame ((t.worn 0).1, (t.worn 0).2.1, (t.worn 0).2.2.1, (t.worn 0).2.2.2.1, (t.worn 0).2.2.2.2.1, ()) x (a.S : Int) = some (dataOf x a.S, spareOf (t.worn 0) x a.S, 0, ()) := fr
  cases y with
  | inl u =>
    refine ⟨H', 0, 130, s', v', sb', ?_, hres, k7.trans l3, l4⟩
    unfold write_Writer_Append
    simp only [q1, Option.isNone_some, cond_f, bind_some, Nat.zero_add, h1.rc, g1, w1, w2, r1, r2, fr', decide_true, Bool.not_true, l1, Sum.elim_inl]
  | inr q =>
    refine ⟨H', q.1, q.2.1, s', v', sb', ?_, hres, k7.trans l3, l4⟩
    unfold write_Writer_Append
    simp only [q1, Option.isNone_some, cond_f, bind_some, Nat.zero_add, h1.rc, g1, w1, w2, r1, r2, fr', decide_true, Bool.not_true, l1, Sum.elim_inr]
end
end Ev

/- The writer: a page is read; a new one. -/
namespace Ev
open Go (IntKind)

def readW (a : NdA) (s : Nd) (k : Nat) : Tg × Bytes × Int × Unit :=
  if (s.readT a ((k / a.P : Nat) : Int) ((k % a.P : Nat) : Int)).2.2.1 = 0 then
    if (lookP (s.readT a ((k / a.P : Nat) : Int) ((k % a.P : Nat) : Int)).1 (s.readT a ((k / a.P : Nat) : Int) ((k % a.P : Nat) : Int)).2.1).1 = 1 then
      ((lookP (s.readT a ((k / a.P : Nat) : Int) ((k % a.P : Nat) : Int)).1 (s.readT a ((k / a.P : Nat) : Int) ((k % a.P : Nat) : Int)).2.1).2.1, (lookP (s.readT a ((k / a.P : Nat) : Int) ((k % a.P : Nat) : Int)).1 (s.readT a ((k / a.P : Nat) : Int) ((k % a.P : Nat) : Int)).2.1).2.2.1, 0, ())
    else (tag0, [], 3, ())
  else (tag0, [], (s.readT a ((k / a.P : Nat) : Int) ((k % a.P : Nat) : Int)).2.2.1, ())

section
variable {N : Nat → Prop} {H : Heap} {z : WrA} {a : NdA} {e : LfA} {s : Nd} {v : Wr} {sb : Sl} {D : Int}

theorem write_Read (h : WrAt N H z a e s v sb) (w : Wf a s D) {k : Nat} (hk : k < 1000000) : ∃ H', write_Writer_Read (some (z.w, 0)) (k : Int) H = some ((readW a s k), H') ∧ WrAt N H' z a e s v sb ∧ Keep (fun _ => False) H H' := by
  have hsz := w.sz
  have h1 := h.push (tagB tag0)
  obtain ⟨G, g1, g2, g3⟩ := nand_geometry h1.nd
  have hg := h1.keep g3 fun _ _ => id
  have ht0 : G[H.length]? = some (tagB tag0) := g3.get app_last id
  have hP : decide ((a.P : Int) = 0) = false := decide_eq_false (by omega)
  have hdv : IntKind.wrap .i64 (Int.tdiv (k : Int) (a.P : Int)) = ((k / a.P : Nat) : Int) := by
    show IntKind.wrap .i64 ((k / a.P : Nat) : Int) = _
    have h2 := Nat.div_le_self k a.P
    generalize k / a.P = q at h2
    exact wrap_i64 (by omega) (by omega)
  have hmd : Int.tmod (k : Int) (a.P : Int) = ((k % a.P : Nat) : Int) := rfl
  obtain ⟨R, p1, p2, p3⟩ := nand_readT hg.nd w ((k / a.P : Nat) : Int) ((k % a.P : Nat) : Int)
  have hrl := readT_length w ((k / a.P : Nat) : Int) ((k % a.P : Nat) : Int)
  have hR := hg.keep p3 fun _ _ => id
  have htR : R[H.length]? = some (tagB tag0) := p3.get ht0 id
  have hlR := get_lt htR
  have kR : Keep (fun _ => False) H R := ((Keep.push _ _ _).trans g3).trans p3
  have q1 : H ++ [Blk.cells [.int .i64 0, .int .u64 0, .int .i64 0, .int .i64 0, .int .i64 0] .exact] = H ++ [tagB tag0] := rfl
  unfold write_Writer_Read readW
  simp only [q1, Option.isNone_some, cond_f, bind_some, Nat.zero_add, h1.rc, g1, hg.rc, hP, hdv, hmd, p1]
  generalize s.readT a ((k / a.P : Nat) : Int) ((k % a.P : Nat) : Int) = r at *
  -- what the tag's block is set to, and read again
  have put : ∀ (X : Heap) (u : Tg), X[H.length]? = some (tagB u) → ∀ t : Tg, wr X H.length 0 [.int .i64 t.1, .int .u64 t.2.1, .int .i64 t.2.2.1, .int .i64 t.2.2.2.1, .int .i64 t.2.2.2.2.1] = some (X.set H.length (tagB t)) := fun X u hX t => wr_tag X H.length u hX t
  have kset : ∀ (X : Heap) (t : Tg), Keep (fun _ => False) H X → H.length < X.length → Keep (fun _ => False) H (X.set H.length (tagB t)) := fun X t kx hx => ⟨by rw [List.length_set]; exact kx.len, fun j hj _ => by rw [set_get' (by omega)]; exact kx.same j hj id⟩
  have hown : ∀ (X : Heap) (t : Tg), WrAt N X z a e s v sb → WrAt N (X.set H.length (tagB t)) z a e s v sb := fun X t hX => hX.keep (Keep.set (F := fun j => j = H.length) _ _ _ rfl) fun j hj hf => by have := h.lt hj; omega
  by_cases e0 : r.2.2.1 = 0
  · have hl := page_Look_eq r.1 r.2.1 (by omega) (by omega)
    rw [if_pos e0]
    generalize lookP r.1 r.2.1 = lk at hl ⊢
    have wl : wr (R ++ [Blk.cells [.int .i64 0, .int .u64 0, .int .i64 0, .int .i64 0, .int .i64 0] .exact]) R.length 0 [.int .i64 lk.2.1.1, .int .u64 lk.2.1.2.1, .int .i64 lk.2.1.2.2.1, .int .i64 lk.2.1.2.2.2.1, .int .i64 lk.2.1.2.2.2.2.1] = some (R ++ [tagB lk.2.1]) := by
      rw [show R ++ [Blk.cells [.int .i64 0, .int .u64 0, .int .i64 0, .int .i64 0, .int .i64 0] .exact] = R ++ [tagB tag0] from rfl, wr_tag _ _ tag0 app_last, set_last]
    have hR2 := hR.push (tagB lk.2.1)
    have k2 : Keep (fun _ => False) H (R ++ [tagB lk.2.1]) := kR.trans (Keep.push _ _ _)
    have ht2 : (R ++ [tagB lk.2.1])[H.length]? = some (tagB tag0) := by rw [app_lt hlR]; exact htR
    by_cases e1 : lk.1 = 1
    · rw [if_pos e1]
      have rl : @Eq (Option Tg) (rd (R ++ [tagB lk.2.1]) (.agg [.int .i64, .int .u64, .int .i64, .int .i64, .int .i64]) R.length 0) (some lk.2.1) := rd_tag app_last
      have rr : @Eq (Option Tg) (rd ((R ++ [tagB lk.2.1]).set H.length (tagB lk.2.1)) (.agg [.int .i64, .int .u64, .int .i64, .int .i64, .int .i64]) H.length 0) (some lk.2.1) := rd_tag (set_get (get_lt ht2))
      refine ⟨(R ++ [tagB lk.2.1]).set H.length (tagB lk.2.1), ?_, hown _ _ hR2, kset _ _ k2 (get_lt ht2)⟩
      simp only [decide_eq_true e0, Bool.not_true, cond_f, hl, bind_some, wl, decide_eq_true e1, rl, put _ _ ht2 lk.2.1, rr]
    · rw [if_neg e1]
      have pz := put _ _ ht2 tag0
      have rr : @Eq (Option Tg) (rd ((R ++ [tagB lk.2.1]).set H.length (tagB tag0)) (.agg [.int .i64, .int .u64, .int .i64, .int .i64, .int .i64]) H.length 0) (some tag0) := rd_tag (set_get (get_lt ht2))
      have pz' : wr (R ++ [tagB lk.2.1]) H.length 0 [.int .i64 0, .int .u64 0, .int .i64 0, .int .i64 0, .int .i64 0] = some ((R ++ [tagB lk.2.1]).set H.length (tagB tag0)) := pz
      refine ⟨(R ++ [tagB lk.2.1]).set H.length (tagB tag0), ?_, hown _ _ hR2, kset _ _ k2 (get_lt ht2)⟩
      simp only [decide_eq_true e0, Bool.not_true, cond_f, hl, bind_some, wl, decide_eq_false e1, Bool.not_false, cond_t, pz', rr]
  · rw [if_neg e0]
    have pz' : wr R H.length 0 [.int .i64 0, .int .u64 0, .int .i64 0, .int .i64 0, .int .i64 0] = some (R.set H.length (tagB tag0)) := put _ _ htR tag0
    have rr : @Eq (Option Tg) (rd (R.set H.length (tagB tag0)) (.agg [.int .i64, .int .u64, .int .i64, .int .i64, .int .i64]) H.length 0) (some tag0) := rd_tag (set_get hlR)
    refine ⟨R.set H.length (tagB tag0), ?_, hown _ _ hR, kset _ _ kR hlR⟩
    simp only [decide_eq_false e0, Bool.not_false, cond_t, pz', bind_some, rr]
end
end Ev

/- The writer: a new one. -/
namespace Ev
open Go (IntKind)

theorem clone_B {H : Heap} {s : Sl} {row : List C} (h : Row H 1 s row) (h0 : 0 < s.len) (hl : s.len ≤ 1099511627776) : ∃ k H' bk, slices_Clone_int_int s H = some ((⟨some (k, 0), s.len, s.len⟩, ()), H') ∧ H.length ≤ k ∧ bk ≠ .ro ∧ H'[k]? = some (.cells row bk) ∧ Keep (fun _ => False) H H' := by
  unfold slices_Clone_int_int
  cases hp : s.p with
  | none => have := h.nil hp; omega
  | some a =>
    have hr := (h.push (Blk.cells [] .exact)).row
    simp only [Option.isNone_some, cond_f, hr, bind_some]
    have hg : Grown (H ++ [.cells [] .exact]) 1 ⟨some (H.length, 0), 0, 0⟩ [] := ⟨rfl, rfl, fun _ => rfl, fun a ha => by cases ha; exact ⟨rfl, .inr app_last⟩⟩
    obtain ⟨a1, a2⟩ := hg.app (bytes := 8) (by decide) (n := s.len) (new := row) (by omega) h.len (by simp; omega) (by simp; omega)
    simp only [Nat.zero_add, List.nil_append] at a1 a2
    have hb := (a2.blk _ rfl).2
    have kk : Keep (fun _ => False) H (grownH (H ++ [.cells [] .exact]) ⟨some (H.length, 0), 0, 0⟩ row) := ⟨by rw [grownH_length]; simp; omega, fun k hk _ => by rw [grownH_get (by simp; omega) (fun a ha => by cases ha; simp; omega), app_lt hk]⟩
    rcases hb with hb | hb
    · exact ⟨(H ++ [Blk.cells [] .exact]).length, _, .loose, by rw [a1]; rfl, by simp, by decide, hb, kk⟩
    · exact ⟨(H ++ [Blk.cells [] .exact]).length, _, .exact, by rw [a1]; rfl, by simp, by decide, hb, kk⟩

/-- A new writer, of a chip and a life. -/
theorem write_new_eq {N : Nat → Prop} {H : Heap} {a : NdA} {e : LfA} {s : Nd} {f : Lf} {t : Sl} (hn : NdAt H a s) (hf : LfAt H e f) (ht : Row H 1 t (arrC e.B fun _ => [.int .i64 0])) (eB : e.B = a.B ∧ e.P = a.P) (hB : 0 < e.B) (hd : ∀ k, a.own k → ¬ e.fp k)
    (nN : ∀ k, a.own k ∨ e.fp k → ¬ N k) (NL : ∀ k, N k → k < H.length) :
    ∃ H' z, write_New (some (a.c, 0)) (some (e.c, 0)) t H = some ((some (z.w, 0), 0, ()), H') ∧ WrAt N H' z a e s ⟨f, fun _ => 0, []⟩ ⟨none, 0, 0⟩ ∧ Keep (fun _ => False) H H' := by
  have hsz := hf.sz
  have htl : t.len = e.B := by have := ht.len; rw [arrC_length (es := 1) (f := fun _ => [C.int .i64 0]) (fun _ => rfl)] at this; omega
  obtain ⟨G, g1, g2, g3⟩ := nand_geometry hn
  obtain ⟨k, R, bk, c1, c2, c3, c4, c5⟩ := clone_B (ht.keep g3 fun _ _ _ => id) (by omega) (by omega)
  have hN := g2.keep c5 fun _ _ => id
  have hF := (hf.keep g3 fun _ _ => id).keep c5 fun _ _ => id
  have hl1 := g3.len
  have hl2 := c5.len
  have hk := get_lt c4
  refine ⟨R ++ [.cells [.ptr (some (a.c, 0)), .ptr (some (e.c, 0)), .sl 1 ⟨some (k, 0), e.B, e.B⟩, .sl 1 ⟨none, 0, 0⟩] .exact], ⟨R.length, k⟩, ?_, ?_, (g3.trans c5).trans (Keep.push _ _ _)⟩
  · unfold write_New
    rw [htl] at c1
    simp only [g1, bind_some, decide_eq_false (show ¬ (a.B : Int) = 0 by omega), cond_f, Option.isNone_some, htl, decide_eq_true (show (e.B : Int) = (a.B : Int) by omega), Bool.not_true, c1]
  · have oa : ∀ j, a.own j → j < H.length := fun j hj => hn.own_lt hj
    have oe : ∀ j, e.fp j → j < H.length := fun j hj => hf.lt hj
    exact { nd := hN.push _, lf := hF.keep (Keep.push (fun _ => False) _ _) fun _ _ => id, cell := app_last, worn := ⟨bk, c3, by rw [app_lt hk]; exact c4⟩, bads := Grown.ni _ 1, eB := eB,
            d1 := fun j hj => ⟨hd j hj, by have := oa j hj; show j ≠ R.length; omega, by have := oa j hj; show j ≠ k; omega, fun o ho => (by cases ho)⟩,
            d2 := fun j hj => ⟨by have := oe j hj; show j ≠ R.length; omega, by have := oe j hj; show j ≠ k; omega, fun o ho => (by cases ho)⟩,
            d3 := ⟨by show R.length ≠ k; omega, fun o ho => (by cases ho), fun o ho => (by cases ho)⟩,
            NL := fun j hm => by have := NL j hm; simp; omega,
            nN := fun j hj hm => by
              have := NL j hm
              rcases hj with hj | hj | hj | hj | ⟨o, ho⟩
              · exact nN j (.inl hj) hm
              · exact nN j (.inr hj) hm
              · have : j = R.length := hj
                omega
              · have : j = k := hj
                omega
              · cases ho }
end Ev

/- Chapter 13: a chip and a writer; tags. -/
namespace Ev
open Go (IntKind)

def tagN (n : Nat) : Tg := (1, (n : Int), 0, 1, 0, ())
theorem tag_eq {n : Nat} (hn : n < 4294967296) : law13_tag (n : Int) = some (tagN n, ()) := by
  have ew : IntKind.wrap .u64 (n : Int) = (n : Int) := by rw [wrap_u64]; omega
  unfold law13_tag law13_tag.on
  have w1 := wr_tag ([] ++ [tagB tag0]) 0 tag0 rfl (tagN n)
  have w1' : wr ([] ++ [Blk.cells [.int .i64 0, .int .u64 0, .int .i64 0, .int .i64 0, .int .i64 0] .exact]) ([] : Heap).length 0 [.int .i64 1, .int .u64 (n : Int), .int .i64 0, .int .i64 1, .int .i64 0] = some [tagB (tagN n)] := w1
  have r1 : @Eq (Option Tg) (rd [tagB (tagN n)] (.agg [.int .i64, .int .u64, .int .i64, .int .i64, .int .i64]) ([] : Heap).length 0) (some (tagN n)) := rd_tag rfl
  simp only [ew, w1', bind_some, r1]
theorem tag_ok {n : Nat} {w : Int} (hw : 0 ≤ w ∧ w < 4294967296) : tagOK ((tagN n).worn w) = true := decide_eq_true (by simp [Tg.worn, tagN]; omega)

def Wr.new : Wr := ⟨Lf.new, fun _ => 0, []⟩
theorem begun13 {H : Heap} {f1 f2 f3 t1 t2 : Sl} {cuts : List Cut} {fails : List Int} (g : Geo)
    (s1 : Sl.sub 3 f1 0 (if 8 < (f1.len : Int) then 8 else (f1.len : Int)) (f1.cap : Int) = some t1)
    (s2 : Sl.sub 1 f2 0 (if 8 < (f2.len : Int) then 8 else (f2.len : Int)) (f2.cap : Int) = some t2)
    (hcu : Row H 3 t1 (cutC cuts)) (hfa : Row H 1 t2 (intC fails)) (hl1 : cuts.length ≤ 1099511627776) (hl2 : fails.length ≤ 1099511627776) :
    ∃ H' a e z, law13_Begun g (f1, f2, f3, ()) H = some ((some (a.c, 0), some (z.w, 0), true, ()), H') ∧ WrAt (fun k => k < H.length) H' z a e (Nd.new cuts fails []) Wr.new ⟨none, 0, 0⟩ ∧ Keep (fun _ => False) H H' ∧ (8 ≤ a.B ∧ a.B ≤ 15 ∧ 4 ≤ a.P ∧ a.P ≤ 11 ∧ 64 ≤ a.S ∧ a.S ≤ 127) := by
  unfold law13_Begun
  obtain ⟨B, P, S, hsh, hB0, hB1, hP0, hP1, hS0, hS1, hok⟩ := shape_nat g
  let gB : Blk := .cells [.int .i64 g.1, .int .i64 g.2.1, .int .i64 g.2.2.1] .exact
  let fB : Blk := .cells [.sl 3 f1, .sl 1 f2, .sl 1 f3] .exact
  let hB : Blk := .cells [.int .i64 (B : Int), .int .i64 (P : Int), .int .i64 (S : Int)] .exact
  let H1 : Heap := H ++ [gB]
  let H2 : Heap := H1 ++ [fB]
  have e1 : H1.length = H.length + 1 := by simp [H1]
  have q1 : H ++ [Blk.cells [.int .i64 g.1, .int .i64 g.2.1, .int .i64 g.2.2.1] .exact] = H1 := rfl
  have q2 : H1 ++ [Blk.cells [.sl 3 f1, .sl 1 f2, .sl 1 f3] .exact] = H2 := rfl
  have g2 : H2[H.length]? = some gB := by rw [app_lt (by omega)]; exact app_last
  have f2' : H2[H1.length]? = some fB := app_last
  have r1 := rd_geo (H := H2) (k := H.length) (g := g) (bk := .exact) g2
  obtain ⟨H3, k1, k2⟩ := geometry_eq g H2
  rw [hsh] at k1
  have f3' := k2.get f2' id
  have w6 : wr (H3 ++ [Blk.cells [.int .i64 0, .int .i64 0, .int .i64 0] .exact]) H3.length 0 [.int .i64 (B : Int), .int .i64 (P : Int), .int .i64 (S : Int)] = some (H3 ++ [hB]) := by
    rw [wr_last (by decide) (by simp)]; rfl
  have r7 := rd_geo (H := H3 ++ [hB]) (k := H3.length) (g := ((B : Int), (P : Int), (S : Int), ())) (bk := .exact) app_last
  have f6 : (H3 ++ [hB])[H1.length]? = some fB := by rw [app_lt (get_lt f3')]; exact f3'
  have b0 : rdSl 3 (H3 ++ [hB]) H1.length 0 = some f1 := rdSl_of f6 rfl
  have b1 : rdSl 1 (H3 ++ [hB]) H1.length 1 = some f2 := rdSl_of f6 rfl
  have k6 : Keep (fun _ => False) H (H3 ++ [hB]) := (((Keep.push _ _ _).trans (Keep.push _ _ _)).trans k2).trans (Keep.push _ _ _)
  have no : ∀ {s : Sl} (b o : Nat), s.p = some (b, o) → ¬ False := fun _ _ _ => id
  obtain ⟨H4, a, n1, n2, n3, nB, nP, nS, n4⟩ := new_yes (B := B) (P := P) (S := S) (f := (t1, t2, ⟨none, 0, 0⟩, ())) (cuts := cuts) (fails := fails) (bad := []) (H3 ++ [hB]) hok (hcu.keep k6 no) (hfa.keep k6 no) (Row.ni _ 1 0) hl1 hl2 (by decide)
  have h4 : H4[H3.length]? = some hB := n3.get app_last id
  have rB4 : rdI .i64 H4 H3.length 0 = some (B : Int) := rdI_of h4 rfl
  have rP4 : rdI .i64 H4 H3.length 1 = some (P : Int) := rdI_of h4 rfl
  obtain ⟨H5, e, l1, l2, l3, lB, lP, l4⟩ := life_new_eq H4 (B := B) (P := P) (by omega) (by omega)
  have rB5 : rdI .i64 H5 H3.length 0 = some (B : Int) := rdI_of (l3.get h4 id) rfl
  have hmk := mkS_of (H := H5) (bytes := 8) (zero := [.int .i64 0]) (n := B) (by omega) (by omega)
  have hn5 := (n2.keep l3 fun _ _ => id).push (.cells (arrC B fun _ => [.int .i64 0]) .exact)
  have hl5 := l2.keep (Keep.push (fun _ => False) H5 (.cells (arrC B fun _ => [.int .i64 0]) .exact)) fun _ _ => id
  have hrow : Row (H5 ++ [.cells (arrC B fun _ => [.int .i64 0]) .exact]) 1 ⟨some (H5.length, 0), B, B⟩ (arrC e.B fun _ => [.int .i64 0]) := by
    rw [lB]; exact ⟨row_last (by rw [arrC_length (es := 1) (f := fun _ => [C.int .i64 0]) (fun _ => rfl)]), fun hh => by cases hh⟩
  have kk := k6.len
  have hown : ∀ k, a.own k → k < H4.length := fun k hk => n2.own_lt hk
  obtain ⟨H6, z, w1, w2, w3⟩ := write_new_eq (N := fun k => k < H.length) hn5 hl5 hrow ⟨by omega, by omega⟩ (by omega) (fun k hk hf => by have := hown k hk; have := l4 k hf; omega) (fun k hk hm => by
    rcases hk with hk | hk
    · have := n4 k hk; omega
    · have := l4 k hk; have := n3.len; omega) (fun k hk => by have := n3.len; have := l3.len; simp; omega)
  refine ⟨H6, a, e, z, ?_, w2, ((((k6.trans n3).trans l3).trans (Keep.push _ _ _)).trans w3), by omega⟩
  have eg : (g.1, g.2.1, g.2.2.1, ()) = g := rfl
  simp only [q1, q2, r1, bind_some, eg, k1, w6, r7, b0, b1, s1, s2, n1, rB4, rP4, l1, rB5, hmk, w1, decide_true, cond_t]
end Ev
