/- A state and the plain one, side by side; what records make of both. -/
import Derived.Test.YtfmefnejaocopaaSSame
set_option linter.unusedSimpArgs false
set_option linter.unusedVariables false
namespace Ev
open Go (IntKind)

def playS (st : Sta) (l : List RecT) : Sta := l.foldl (fun st x => (st.doS x).2) st
theorem playS_snoc (st : Sta) (l : List RecT) (x : RecT) : playS st (l ++ [x]) = ((playS st l).doS x).2 := by unfold playS; rw [List.foldl_append]; rfl
/-- What is below L stays; the state and the plain one are apart; the plain one's box is at B. -/
structure Pair (L B : Nat) (G : Heap) (a : SaA) (v : RfV) (st st2 : Sta) : Prop where
  s : StAt G a st
  r : RfAt G v st2
  b : G[B]? = some (.cells (vC v) .exact)
  lb : L ≤ B
  off : ∀ b, a.fp st b → L ≤ b ∧ b ≠ B ∧ ¬ blkV v b
  ov : ∀ b, blkV v b → b ≠ B
section
variable {L B : Nat} {G G' : Heap} {a a' : SaA} {v v' : RfV} {st st' st2 st2' : Sta}
theorem Pair.rv (p : Pair L B G a v st st2) : rd G (.agg [.sl 3, .sl 3, .sl 1, .sl 2]) B 0 = (some v : Option RfV) := rd_agg_of p.b (by simp [vC]) rfl
theorem Pair.keep (p : Pair L B G a v st st2) (k : Keep (fun _ => False) G G') : Pair L B G' a v st st2 :=
  ⟨p.s.keep k fun _ _ hf => hf, p.r.keep k fun _ _ hf => hf, k.get p.b fun hf => hf, p.lb, p.off, p.ov⟩
theorem Pair.state (p : Pair L B G a v st st2) (r : Res G a st G' a' st') : Pair L B G' a' v st' st2 ∧ Keep (fun b => L ≤ b) G G' := by
  have hB := get_lt p.b
  refine ⟨⟨r.s, p.r.keep r.k fun b hb hf => (p.off b hf).2.2 hb, r.k.get p.b fun hf => (p.off B hf).2.1 rfl, p.lb, fun b hb => ?_, p.ov⟩, r.k.mono fun b hb => (p.off b hb).1⟩
  rcases r.n b hb with hh | hh
  · exact p.off b hh
  · have := p.lb
    exact ⟨by omega, by omega, fun hv => by have := p.r.lt hv; omega⟩
theorem Pair.plain (p : Pair L B G a v st st2) (r : RRes G v G' v' st2') : wr G' B 0 [.sl 3 v'.1, .sl 3 v'.2.1, .sl 1 v'.2.2.1, .sl 2 v'.2.2.2.1] = some (G'.set B (.cells (vC v') .exact)) ∧ Pair L B (G'.set B (.cells (vC v') .exact)) a v' st st2' ∧ Keep (fun b => L ≤ b) G (G'.set B (.cells (vC v') .exact)) := by
  have hB := get_lt p.b
  have hb' := r.k.get p.b fun hf => hf
  have kk : Keep (fun b => b = B) G' (G'.set B (.cells (vC v') .exact)) := Keep.set _ _ _ rfl
  have hov : ∀ b, blkV v' b → b ≠ B := fun b hb => (r.n b hb).elim (p.ov b) fun hh => by omega
  refine ⟨by rw [wr_of hb' (by decide) (by simp [vC])]; rfl, ⟨(p.s.keep r.k fun _ _ hf => hf).keep kk fun b hb e => (p.off b hb).2.1 e, r.s.keep kk fun b hb e => hov b hb e, set_get (get_lt hb'), p.lb, fun b hb => ⟨(p.off b hb).1, (p.off b hb).2.1, fun hv => ?_⟩, hov⟩, (r.k.mono fun _ hf => hf.elim).trans (kk.mono fun b e => by have := p.lb; omega)⟩
  rcases r.n b hv with hh | hh
  · exact (p.off b hb).2.2 hh
  · have := p.s.lt hb
    omega
theorem rec_id (x : RecT) : ((x.1, x.2.1, x.2.2.1, x.2.2.2.1, x.2.2.2.2.1, x.2.2.2.2.2.1, ()) : RecT) = x := by obtain ⟨a, b, c, d, e, f, ⟨⟩⟩ := x; rfl
/-- A record of a row. -/
theorem row_rec {x0 : Sl} {rows : List RecT} (hr : Row G 6 x0 (rowsOf ctR rows)) {i : Nat} (hi : i < rows.length) : ∃ b o, Sl.at 6 x0 (i : Int) = some (b, o) ∧ ∀ {K : Heap}, Row K 6 x0 (rowsOf ctR rows) → rd K (.agg [.int .i64, .int .i64, .int .i64, .int .i64, .int .i64, .int .i64]) b o = (some rows[i] : Option RecT) ∧
    rdI .i64 K b (o + 1) = some rows[i].2.1 ∧ rdI .i64 K b (o + 2) = some rows[i].2.2.1 := by
  obtain ⟨b, o, e1, _⟩ := Row.rd (cts := ctR) hr (i := i) hi (by decide)
  have e1 : Sl.at 6 x0 (i : Int) = some (b, o) := e1
  refine ⟨b, o, e1, fun {K} hk => ?_⟩
  obtain ⟨b1, o1, e2, e3, _⟩ := Row.rd (cts := ctR) hk (i := i) hi (by decide)
  have e2 : Sl.at 6 x0 (i : Int) = some (b1, o1) := e2
  obtain ⟨b2, o2, e4, e5⟩ := row_int (cts := ctR) hk hi (by decide) (j := 1) (n := rows[i].2.1) (by decide) rfl
  have e4 : Sl.at 6 x0 (i : Int) = some (b2, o2) := e4
  obtain ⟨b3, o3, e6, e7⟩ := row_int (cts := ctR) hk hi (by decide) (j := 2) (n := rows[i].2.2.1) (by decide) rfl
  have e6 : Sl.at 6 x0 (i : Int) = some (b3, o3) := e6
  rw [e1] at e2 e4 e6
  cases e2
  cases e4
  cases e6
  exact ⟨e3, e5, e7⟩
theorem Row.low {x0 : Sl} {row : List C} {es : Nat} (hr : Row G es x0 row) (hlow : ∀ b o, x0.p = some (b, o) → b < L) (k : Keep (fun b => L ≤ b) G G') : Row G' es x0 row := hr.keep k fun b o hp hh => by have := hlow b o hp; omega
/-- Records are played: both have the same then. -/
theorem law08_played_eq {H : Heap} {x0 : Sl} {rows : List RecT} (hr : Row H 6 x0 (rowsOf ctR rows)) (hlen : x0.len = rows.length) :
    WP (law08_played x0 H) fun r => ∃ a v, r.1 = (some (a.c, 0), v, ()) ∧ StAt r.2 a (playS ⟨[], [], [], []⟩ (rows.take 60)) ∧ RfAt r.2 v (playS ⟨[], [], [], []⟩ (rows.take 60)) ∧ Keep (fun _ => False) H r.2 ∧ ∀ b, a.fp (playS ⟨[], [], [], []⟩ (rows.take 60)) b → H.length ≤ b ∧ ¬ blkV v b := by
  have hlow : ∀ b o, x0.p = some (b, o) → b < H.length := fun b o hp => hr.lt hp
  have k0 := Keep.app (fun _ => False) H [.cells [.sl 3 Sl.nil, .sl 3 Sl.nil, .sl 1 Sl.nil, .sl 2 Sl.nil] .exact]
  have b0 : (H ++ [Blk.cells [.sl 3 Sl.nil, .sl 3 Sl.nil, .sl 1 Sl.nil, .sl 2 Sl.nil] .exact])[H.length]? = some (.cells nilV .exact) := by rw [tl_get0]; rfl
  have l0 : (H ++ [Blk.cells [.sl 3 Sl.nil, .sl 3 Sl.nil, .sl 1 Sl.nil, .sl 2 Sl.nil] .exact]).length = H.length + 1 := by simp
  unfold law08_played
  simp only
  generalize H ++ [Blk.cells [.sl 3 Sl.nil, .sl 3 Sl.nil, .sl 1 Sl.nil, .sl 2 Sl.nil] .exact] = H1 at k0 b0 l0
  obtain ⟨a, n1, n2, n3, n4⟩ := new_st H1
  have k1 := Keep.app (fun _ => False) H1 [.mp [] 0, .mp [] 0, .mp [] 0, .mp [] 0, .cells [.mp (some H1.length), .mp (some (H1.length + 1)), .mp (some (H1.length + 2)), .mp (some (H1.length + 3))] .exact]
  generalize H1 ++ [Blk.mp [] 0, .mp [] 0, .mp [] 0, .mp [] 0, .cells [.mp (some H1.length), .mp (some (H1.length + 1)), .mp (some (H1.length + 2)), .mp (some (H1.length + 3))] .exact] = H3 at n1 n3 k1
  rw [← n2] at n1
  have hw : wr (H3 ++ [Blk.cells [.sl 3 Sl.nil, .sl 3 Sl.nil, .sl 1 Sl.nil, .sl 2 Sl.nil] .exact]) H3.length 0 [.sl 3 (⟨none, 0, 0⟩), .sl 3 (⟨none, 0, 0⟩), .sl 1 (⟨none, 0, 0⟩), .sl 2 (⟨none, 0, 0⟩)] = some (H3 ++ [.cells (vC (⟨none, 0, 0⟩, ⟨none, 0, 0⟩, ⟨none, 0, 0⟩, ⟨none, 0, 0⟩, ())) .exact]) := by
    rw [wr_t0, wr_c0 _ _ _ _ (by simp)]; rfl
  have k2 := Keep.app (fun _ => False) H3 [.cells (vC (⟨none, 0, 0⟩, ⟨none, 0, 0⟩, ⟨none, 0, 0⟩, ⟨none, 0, 0⟩, ())) .exact]
  have hno : ∀ b, ¬ blkV (⟨none, 0, 0⟩, ⟨none, 0, 0⟩, ⟨none, 0, 0⟩, ⟨none, 0, 0⟩, ()) b := by
    rintro b (⟨o, hh⟩ | ⟨o, hh⟩ | ⟨o, hh⟩ | ⟨o, hh⟩) <;> cases hh
  have hl3 := k1.len
  have p0 : Pair (H.length + 1) H3.length (H3 ++ [.cells (vC (⟨none, 0, 0⟩, ⟨none, 0, 0⟩, ⟨none, 0, 0⟩, ⟨none, 0, 0⟩, ())) .exact]) a (⟨none, 0, 0⟩, ⟨none, 0, 0⟩, ⟨none, 0, 0⟩, ⟨none, 0, 0⟩, ()) ⟨[], [], [], []⟩ ⟨[], [], [], []⟩ :=
    ⟨n3.keep k2 fun _ _ hf => hf, ⟨n3.w, ⟨rfl, fun _ => rfl⟩, ⟨rfl, fun _ => rfl⟩, ⟨rfl, fun _ => rfl⟩, ⟨rfl, fun _ => rfl⟩, rfl, rfl, rfl, rfl⟩, by rw [tl_get0]; rfl, by omega,
     fun b hb => ⟨by have := n4 b hb; omega, by have := n3.lt hb; omega, hno b⟩, fun b hb => absurd hb (hno b)⟩
  have hr1 : Row (H3 ++ [.cells (vC (⟨none, 0, 0⟩, ⟨none, 0, 0⟩, ⟨none, 0, 0⟩, ⟨none, 0, 0⟩, ())) .exact]) 6 x0 (rowsOf ctR rows) := hr.keep ((k0.trans k1).trans k2) fun _ _ _ hf => hf
  refine wp_to n1 (wp_to hw (wp_seq _ (wp_rise (step := law08_played.s1 x0 ((some (a.c, 0), ()), H3)) (min rows.length 60) (fun i (y : Int × Unit) G => y = ((i : Int), ()) ∧ ∃ a' v', Pair (H.length + 1) H3.length G a' v' (playS ⟨[], [], [], []⟩ (rows.take i)) (playS ⟨[], [], [], []⟩ (rows.take i)) ∧ a'.c = a.c ∧ (∀ b, blkV v' b → H.length + 1 ≤ b) ∧ Keep (fun b => H.length + 1 ≤ b) (H3 ++ [.cells (vC (⟨none, 0, 0⟩, ⟨none, 0, 0⟩, ⟨none, 0, 0⟩, ⟨none, 0, 0⟩, ())) .exact]) G)
    (fun _ G => ∃ a' v', Pair (H.length + 1) H3.length G a' v' (playS ⟨[], [], [], []⟩ (rows.take 60)) (playS ⟨[], [], [], []⟩ (rows.take 60)) ∧ a'.c = a.c ∧ (∀ b, blkV v' b → H.length + 1 ≤ b) ∧ Keep (fun b => H.length + 1 ≤ b) (H3 ++ [.cells (vC (⟨none, 0, 0⟩, ⟨none, 0, 0⟩, ⟨none, 0, 0⟩, ⟨none, 0, 0⟩, ())) .exact]) G) ?_ ?_ ?_) ?_))
  · rintro i y G hi ⟨rfl, a1, v1, p1, c1, hb1, kG⟩
    have hrG := hr1.low (fun b o hp => by have := hlow b o hp; omega) kG
    have hir : i < rows.length := by omega
    obtain ⟨b1, o1, e1, e2⟩ := row_rec hrG hir
    obtain ⟨G2, a2, f1, f2⟩ := st_Apply p1.s rows[i]
    obtain ⟨p2, kk2⟩ := p1.state f2
    have hr2 := hrG.low (fun b o hp => by have := hlow b o hp; omega) kk2
    have hw := wrap_succ (show i < 9223372036854775807 by omega)
    unfold law08_played.s1
    refine wp_t (decide_eq_true (by rw [hlen]; exact Int.ofNat_lt.2 (by omega))) (wp_t (decide_eq_true (by omega)) (wp_to e1 (wp_to (e2 hrG).1 ?_)))
    rw [c1] at f1
    refine wp_to f1 (wp_to p2.rv (wp_to e1 (wp_to (e2 hr2).1 ?_)))
    refine wp_seq _ (rf_Apply p2.r _) ?_
    rintro ⟨⟨v3, e3, ⟨⟩⟩, G3⟩ ⟨he3, hr3⟩
    have hr3 : RRes G2 v1 G3 v3 ((playS ⟨[], [], [], []⟩ (rows.take i)).doS rows[i]).2 := hr3
    obtain ⟨q1, q2, q3⟩ := p2.plain hr3
    refine wp_to q1 (wp_some ⟨?_, a2, v3, ?_, f2.c.trans c1, fun b hb => (hr3.n b hb).elim (hb1 b) fun hh => by have := get_lt p2.b; omega, (kG.trans kk2).trans q3⟩)
    · simp only [hw]
    · rw [take_snoc (show i < rows.length by omega), playS_snoc]
      exact q2
  · rintro y G ⟨rfl, a1, v1, p1, c1, hb1, kG⟩
    unfold law08_played.s1
    by_cases hl : rows.length ≤ 60
    · rw [Nat.min_eq_left hl] at p1 ⊢
      rw [List.take_length] at p1
      refine wp_f (decide_eq_false (by rw [hlen]; exact Int.lt_irrefl _)) (wp_some ⟨a1, v1, ?_, c1, hb1, kG⟩)
      rw [List.take_of_length_le hl]; exact p1
    · rw [Nat.min_eq_right (by omega)] at p1 ⊢
      exact wp_t (decide_eq_true (by rw [hlen]; exact Int.ofNat_lt.2 (by omega))) (wp_f rfl (wp_some ⟨a1, v1, p1, c1, hb1, kG⟩))
  · exact ⟨rfl, a, _, p0, rfl, fun b hb => absurd hb (hno b), Keep.refl _ _⟩
  · rintro ⟨⟨⟩, G⟩ ⟨a1, v1, p1, c1, hb1, kG⟩
    have bG : G[H.length]? = some (.cells nilV .exact) := kG.get (k2.get (k1.get b0 fun hf => hf) fun hf => hf) (by omega)
    have hw : wr G H.length 0 [.sl 3 v1.1, .sl 3 v1.2.1, .sl 1 v1.2.2.1, .sl 2 v1.2.2.2.1] = some (G.set H.length (.cells (vC v1) .exact)) := by rw [wr_of bG (by decide) (by simp [nilV])]; rfl
    have hrd : rd (G.set H.length (.cells (vC v1) .exact)) (.agg [.sl 3, .sl 3, .sl 1, .sl 2]) H.length 0 = (some v1 : Option RfV) := rd_agg_of (set_get (get_lt bG)) (by simp [vC]) rfl
    have kk : Keep (fun b => b = H.length) G (G.set H.length (.cells (vC v1) .exact)) := Keep.set _ _ _ rfl
    have off2 : ∀ b, a1.fp (playS ⟨[], [], [], []⟩ (rows.take 60)) b → H.length ≤ b ∧ ¬ blkV v1 b := fun b hb => ⟨by have := (p1.off b hb).1; omega, (p1.off b hb).2.2⟩
    have hv : (some (a.c, 0), v1, ()) = ((some (a1.c, 0), v1, ()) : Ptr × RfV × Unit) := by rw [c1]
    refine wp_to p1.rv (wp_to hw (wp_to hrd (wp_some ⟨a1, v1, hv, p1.s.keep kk fun b hb e => by have := (p1.off b hb).1; omega, p1.r.keep kk fun b hb e => by have := hb1 b hb; omega, ⟨?_, fun b hb _ => ?_⟩, off2⟩)))
    · have h1 : _ ≤ G.length := kG.len
      have h2 := k2.len
      simp only [List.length_set]; omega
    · show (G.set H.length _)[b]? = _
      rw [set_get' (by omega), kG.same b (by have := k2.len; omega) (by omega), k2.same b (by omega) fun hf => hf, k1.same b (by omega) fun hf => hf]
      exact k0.same b hb fun hf => hf
end
end Ev
