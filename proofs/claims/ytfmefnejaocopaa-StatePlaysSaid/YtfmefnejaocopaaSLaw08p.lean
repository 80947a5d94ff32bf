/- The law StatePlays. -/
import Derived.Test.YtfmefnejaocopaaSPair
set_option linter.unusedSimpArgs false
set_option linter.unusedVariables false
namespace Ev
open Go (IntKind)

theorem wp_ex {α : Type} {x : Option ((Bool × Unit) × α)} (h : WP x fun r => r.1.1 = true) : ∃ H', x = some ((true, ()), H') := by
  obtain ⟨⟨⟨b, ⟨⟩⟩, G⟩, e1, e2⟩ := h
  have e2 : b = true := e2
  subst e2
  exact ⟨G, e1⟩
theorem plays_round {L B : Nat} {G : Heap} {a : SaA} {v : RfV} {st : Sta} (p : Pair L B G a v st st) {x0 : Sl} {rows : List RecT} (hr : Row G 6 x0 (rowsOf ctR rows)) (hlow : ∀ b o, x0.p = some (b, o) → b < L) {i : Nat} (hi : i < rows.length) (hlen : x0.len = rows.length) (h60 : i < 60)
    {ac : Nat} (hc : a.c = ac) {G0 : Heap} (hB : G0.length = B) : WP (law08_StatePlays.s1 x0 ((some (ac, 0), ()), G0) ((i : Int), ()) G) fun r => r.1 = .inl (((i + 1 : Nat) : Int), ()) ∧ Keep (fun b => L ≤ b) G r.2 ∧ ∃ a' v', Pair L B r.2 a' v' (st.doS rows[i]).2 (st.doS rows[i]).2 ∧ a'.c = ac := by
  obtain ⟨b1, o1, e1, e2⟩ := row_rec hr hi
  have hw := wrap_succ (show i < 9223372036854775807 by omega)
  have k1 := Keep.app (fun _ => False) G [.cells [.sl 3 Sl.nil, .sl 3 Sl.nil, .sl 1 Sl.nil, .sl 2 Sl.nil] .exact]
  have p1 := p.keep k1
  have bG := get_lt p.b
  have hLB := p.lb
  have m1 : ∀ {F : Heap} {E : Heap}, Keep (fun _ => False) F E → Keep (fun b => L ≤ b) F E := fun k => k.mono fun _ hf => hf.elim
  unfold law08_StatePlays.s1
  refine wp_t (decide_eq_true (by rw [hlen]; exact Int.ofNat_lt.2 (by omega))) (wp_t (decide_eq_true (by omega)) ?_)
  simp only [hB]
  refine wp_to p.rv (wp_to e1 (wp_to (e2 hr).1 (wp_seq _ (rf_Apply p1.r _) ?_)))
  rintro ⟨⟨v2, e3, ⟨⟩⟩, G2⟩ ⟨he, r2⟩
  have r2 : RRes _ v G2 v2 (st.doS rows[i]).2 := r2
  have he : e3 = (st.doS rows[i]).1 := he
  have t2 : G2[G.length]? = some (.cells [.sl 3 Sl.nil, .sl 3 Sl.nil, .sl 1 Sl.nil, .sl 2 Sl.nil] .exact) := r2.k.get (by rw [tl_get0]; rfl) fun hf => hf
  have hw2 : wr G2 G.length 0 [.sl 3 v2.1, .sl 3 v2.2.1, .sl 1 v2.2.2.1, .sl 2 v2.2.2.2.1] = some (G2.set G.length (.cells (vC v2) .exact)) := by rw [wr_of t2 (by decide) (by simp)]; rfl
  have hrd : rd (G2.set G.length (.cells (vC v2) .exact)) (.agg [.sl 3, .sl 3, .sl 1, .sl 2]) G.length 0 = (some v2 : Option RfV) := rd_agg_of (set_get (get_lt t2)) (by simp [vC]) rfl
  have kk : Keep (fun b => b = G.length) G2 (G2.set G.length (.cells (vC v2) .exact)) := Keep.set _ _ _ rfl
  have r3 : RRes G v (G2.set G.length (.cells (vC v2) .exact)) v2 (st.doS rows[i]).2 := by
    have hn : ∀ b, blkV v2 b → (blkV v b ∨ G.length ≤ b) ∧ b ≠ G.length := fun b hb => by
      rcases r2.n b hb with hh | hh
      · have := p.r.lt hh
        exact ⟨.inl hh, by omega⟩
      · simp only [List.length_append, List.length_cons, List.length_nil] at hh
        exact ⟨.inr (by omega), by omega⟩
    have hl := r2.k.len
    simp only [List.length_append, List.length_cons, List.length_nil] at hl
    refine ⟨r2.s.keep kk fun b hb e => (hn b hb).2 e, ⟨by simp only [List.length_set]; omega, fun b hb _ => ?_⟩, fun b hb => (hn b hb).1⟩
    rw [set_get' (by omega), r2.k.same b (by simp; omega) fun hf => hf]
    exact List.getElem?_append_left hb
  obtain ⟨q1, p3, k3⟩ := p.plain r3
  refine wp_ite t2 (wp_to hw2 (wp_to hrd (wp_to q1 ?_)))
  generalize (G2.set G.length (.cells (vC v2) .exact)).set B (.cells (vC v2) .exact) = G3 at p3 k3
  have hr3 := hr.low hlow k3
  obtain ⟨G4, a4, f1, f2⟩ := st_Apply p3.s rows[i]
  obtain ⟨p4, k4⟩ := p3.state f2
  have hr4 := hr3.low hlow k4
  rw [hc] at f1
  refine wp_to e1 (wp_to (e2 hr3).1 (wp_to f1 (wp_f (by simp [he]) (wp_to p4.rv ?_))))
  have hsame := law08_same p4.s p4.r
  rw [f2.c, hc] at hsame
  refine wp_seq _ hsame ?_
  rintro ⟨⟨b5, ⟨⟩⟩, G5⟩ ⟨hb5, k5⟩
  have hb5 : b5 = true := hb5
  subst hb5
  have p5 := p4.keep k5
  have hr5 := hr4.keep k5 fun _ _ _ hf => hf
  have g1 := st_get p5.s rows[i].2.1 rows[i].2.2.1
  rw [f2.c, hc] at g1
  obtain ⟨G6, g2, k6⟩ := rf_get p5.r rows[i].2.1 rows[i].2.2.1
  refine wp_f rfl (wp_to e1 (wp_to (e2 hr5).2.1 (wp_to e1 (wp_to (e2 hr5).2.2 (wp_to g1 (wp_to p5.rv (wp_to e1 (wp_to (e2 hr5).2.1 (wp_to e1 (wp_to (e2 hr5).2.2 (wp_to g2 ?_)))))))))))
  refine wp_f (by simp) (wp_f (by simp) (wp_some ⟨?_, ((k3.trans k4).trans (m1 k5)).trans (m1 k6), a4, v2, p5.keep k6, f2.c.trans hc⟩))
  simp only [hw]
theorem start_plain (H : Heap) {a : SaA} (h : StAt H a ⟨[], [], [], []⟩) {L : Nat} (hL : L ≤ H.length) (hoff : ∀ b, a.fp ⟨[], [], [], []⟩ b → L ≤ b) :
    wr (H ++ [Blk.cells [.sl 3 Sl.nil, .sl 3 Sl.nil, .sl 1 Sl.nil, .sl 2 Sl.nil] .exact]) H.length 0 [.sl 3 (⟨none, 0, 0⟩), .sl 3 (⟨none, 0, 0⟩), .sl 1 (⟨none, 0, 0⟩), .sl 2 (⟨none, 0, 0⟩)] = some (H ++ [.cells (vC (⟨none, 0, 0⟩, ⟨none, 0, 0⟩, ⟨none, 0, 0⟩, ⟨none, 0, 0⟩, ())) .exact]) ∧
    Pair L H.length (H ++ [.cells (vC (⟨none, 0, 0⟩, ⟨none, 0, 0⟩, ⟨none, 0, 0⟩, ⟨none, 0, 0⟩, ())) .exact]) a (⟨none, 0, 0⟩, ⟨none, 0, 0⟩, ⟨none, 0, 0⟩, ⟨none, 0, 0⟩, ()) ⟨[], [], [], []⟩ ⟨[], [], [], []⟩ := by
  have k2 := Keep.app (fun _ => False) H [.cells (vC (⟨none, 0, 0⟩, ⟨none, 0, 0⟩, ⟨none, 0, 0⟩, ⟨none, 0, 0⟩, ())) .exact]
  have hno : ∀ b, ¬ blkV (⟨none, 0, 0⟩, ⟨none, 0, 0⟩, ⟨none, 0, 0⟩, ⟨none, 0, 0⟩, ()) b := by
    rintro b (⟨o, hh⟩ | ⟨o, hh⟩ | ⟨o, hh⟩ | ⟨o, hh⟩) <;> cases hh
  exact ⟨by rw [wr_t0, wr_c0 _ _ _ _ (by simp)]; rfl, h.keep k2 fun _ _ hf => hf, ⟨h.w, ⟨rfl, fun _ => rfl⟩, ⟨rfl, fun _ => rfl⟩, ⟨rfl, fun _ => rfl⟩, ⟨rfl, fun _ => rfl⟩, rfl, rfl, rfl, rfl⟩, by rw [tl_get0]; rfl, hL,
    fun b hb => ⟨hoff b hb, by have := h.lt hb; omega, hno b⟩, fun b hb => absurd hb (hno b)⟩
theorem StatePlays_true (s : Sl) {H : Heap} (w : Came [.int .i64, .int .i64, .int .i64, .int .i64, .int .i64, .int .i64] [] s H) : ∃ H', law08_StatePlays s H = some ((true, ()), H') := by
  obtain ⟨rows, hr, hlen, _, _⟩ := came_rows w
  have hr : Row H 6 s (rowsOf ctR rows) := hr
  have hlow : ∀ b o, s.p = some (b, o) → b < H.length := fun b o hp => hr.lt hp
  apply wp_ex
  unfold law08_StatePlays
  obtain ⟨a, n1, n2, n3, n4⟩ := new_st H
  have k1 := Keep.app (fun _ => False) H [.mp [] 0, .mp [] 0, .mp [] 0, .mp [] 0, .cells [.mp (some H.length), .mp (some (H.length + 1)), .mp (some (H.length + 2)), .mp (some (H.length + 3))] .exact]
  generalize H ++ [Blk.mp [] 0, .mp [] 0, .mp [] 0, .mp [] 0, .cells [.mp (some H.length), .mp (some (H.length + 1)), .mp (some (H.length + 2)), .mp (some (H.length + 3))] .exact] = H3 at n1 n3 k1
  rw [← n2] at n1
  obtain ⟨q1, p0⟩ := start_plain H3 n3 k1.len n4
  have k2 := Keep.app (fun _ => False) H3 [.cells (vC (⟨none, 0, 0⟩, ⟨none, 0, 0⟩, ⟨none, 0, 0⟩, ⟨none, 0, 0⟩, ())) .exact]
  have hr1 := (hr.keep k1 fun _ _ _ hf => hf).keep k2 fun _ _ _ hf => hf
  refine wp_to n1 (wp_to q1 (wp_to awake08 (wp_f rfl ?_)))
  refine wp_seq _ (wp_rise (step := law08_StatePlays.s1 s ((some (a.c, 0), ()), H3)) (min rows.length 60) (fun i (y : Int × Unit) G => y = ((i : Int), ()) ∧ ∃ a' v' st', Pair H.length H3.length G a' v' st' st' ∧ a'.c = a.c ∧ Row G 6 s (rowsOf ctR rows))
    (fun (x : Unit ⊕ (Bool × Unit)) G => x = .inl ()) ?_ ?_ ⟨rfl, a, _, _, p0, rfl, hr1⟩) ?_
  · rintro i y G hi ⟨rfl, a1, v1, st1, p1, c1, hG⟩
    have hir : i < List.length (α := RecT) rows := by show i < rows.length; omega
    refine wp_mono (plays_round p1 (rows := rows) hG hlow hir hlen (by omega) c1 rfl) ?_
    rintro ⟨r, G'⟩ ⟨rfl, kk, a2, v2, p2, c2⟩
    exact ⟨rfl, a2, v2, _, p2, c2, hG.low hlow kk⟩
  · rintro y G ⟨rfl, a1, v1, st1, p1, c1, hG⟩
    unfold law08_StatePlays.s1
    by_cases hl : rows.length ≤ 60
    · rw [Nat.min_eq_left hl]
      exact wp_f (decide_eq_false (by rw [hlen]; exact Int.lt_irrefl _)) (wp_some rfl)
    · rw [Nat.min_eq_right (by omega)]
      exact wp_t (decide_eq_true (by rw [hlen]; exact Int.ofNat_lt.2 (by omega))) (wp_f rfl (wp_some rfl))
  · rintro ⟨x, G⟩ hx
    have hx : x = .inl () := hx
    subst hx
    exact wp_some rfl
end Ev
