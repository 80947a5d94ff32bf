/- The laws StateLays, StateCopies. -/
import Derived.Test.YtfmefnejaocopaaSPair
import Derived.Test.YtfmefnejaocopaaSStI
set_option linter.unusedSimpArgs false
set_option linter.unusedVariables false
namespace Ev
open Go (IntKind)

theorem wp_exc {α : Type} {x : Option ((Bool × Unit) × α)} (h : WP x fun r => r.1.1 = true) : ∃ H', x = some ((true, ()), H') := by
  obtain ⟨⟨⟨b, ⟨⟩⟩, G⟩, e1, e2⟩ := h
  have e2 : b = true := e2
  subst e2
  exact ⟨G, e1⟩
theorem wp_boxc {β : Type} {G : Heap} {v : RfV} {K : Heap → Option β} {Q : β → Prop} (k : WP (K (G ++ [.cells (vC v) .exact])) Q) :
    WP ((wr (G ++ [Blk.cells [.sl 3 Sl.nil, .sl 3 Sl.nil, .sl 1 Sl.nil, .sl 2 Sl.nil] .exact]) G.length 0 [.sl 3 v.1, .sl 3 v.2.1, .sl 1 v.2.2.1, .sl 2 v.2.2.2.1]).bind K) Q :=
  wp_to (by rw [wr_t0, wr_c0 _ _ _ _ (by simp)]; rfl) k
theorem rd_v {G : Heap} {b : Nat} {v : RfV} (t : G[b]? = some (.cells (vC v) .exact)) : rd G (.agg [.sl 3, .sl 3, .sl 1, .sl 2]) b 0 = (some v : Option RfV) := rd_agg_of t (by simp [vC]) rfl
theorem lays_true {H : Heap} {s : Sl} {rows : List RecT} (hr : Row H 6 s (rowsOf ctR rows)) (hlen : s.len = rows.length) (id p pl : Int) : WP (law08_lays s id p pl H) fun r => r.1.1 = true := by
  unfold law08_lays
  refine wp_seq _ (law08_played_eq (rows := rows) hr hlen) ?_
  generalize playS ⟨[], [], [], []⟩ (List.take (α := RecT) 60 rows) = st
  rintro ⟨r, G⟩ ⟨a, v, hrr, hs, hv, _, hoff⟩
  have hrr : r = (some (a.c, 0), v, ()) := hrr
  subst hrr
  have hs : StAt G a st := hs
  have hv : RfAt G v st := hv
  have k1 := Keep.app (fun _ => False) G [.cells (vC v) .exact]
  have hs1 := hs.keep k1 fun _ _ hf => hf
  have hv1 := hv.keep k1 fun _ _ hf => hf
  have t1 : (G ++ [Blk.cells (vC v) .exact])[G.length]? = some (.cells (vC v) .exact) := by rw [tl_get0]; rfl
  refine wp_boxc (wp_to (rd_v t1) ?_)
  refine wp_seq _ (rf_Do hv1 (x := (1, id, p, pl, 0, 0, ())) (fun hh => absurd rfl hh) (fun hh => by simp at hh)) ?_
  rintro ⟨⟨v2, e2, ⟨⟩⟩, G2⟩ ⟨he2, r2⟩
  have he2 : e2 = (st.applyS (1, id, p, pl, 0, 0, ())).1 := he2
  have r2 : RRes _ v G2 v2 (st.applyS (1, id, p, pl, 0, 0, ())).2 := r2
  refine wp_boxc ?_
  have k3 := Keep.app (fun _ => False) G2 [.cells (vC v2) .exact]
  have t3 : (G2 ++ [Blk.cells (vC v2) .exact])[G2.length]? = some (.cells (vC v2) .exact) := by rw [tl_get0]; rfl
  have hl1 : G.length < G2.length := by have := r2.k.len; simp only [List.length_append, List.length_cons, List.length_nil] at this; omega
  have kk := r2.k.trans k3
  have hs3 := hs1.keep kk fun _ _ hf => hf
  have hv3 := hv1.keep kk fun _ _ hf => hf
  have hw3 := r2.s.keep k3 fun _ _ hf => hf
  have t1' := kk.get t1 fun hf => hf
  have hl3 : (G2 ++ [Blk.cells (vC v2) .exact]).length = G2.length + 1 := by simp
  generalize G2 ++ [Blk.cells (vC v2) .exact] = G3 at hs3 hv3 hw3 t1' t3 hl3 ⊢
  by_cases hp : pl < 0
  · refine wp_to (st_Lay_neg hp) (wp_t (decide_eq_true hp) (wp_t rfl (wp_to (rd_v t1') (wp_seq _ (law08_same hs3 hv3) ?_))))
    rintro ⟨⟨b6, ⟨⟩⟩, K6⟩ ⟨hb6, k6⟩
    exact wp_some hb6
  · obtain ⟨G4, a4, f1, f2⟩ := st_Lay hs3 (id := id) (p := p) (pl := pl) (by omega)
    have keepv : ∀ b, blkV v b → ¬ a.fp st b := fun b hb hf => (hoff b hf).2 hb
    have fpG : ∀ b, a.fp st b → b < G.length := fun b hb => hs.lt hb
    refine wp_to f1 (wp_f (decide_eq_false hp) (wp_if (p := ¬ e2 = 0) (by simp) (fun e => ?_) (fun e => ?_)))
    · have hst : (st.applyS (1, id, p, pl, 0, 0, ())).2 = st := by
        rw [he2] at e
        revert e
        unfold Sta.applyS
        show (¬ (match afind st.sp id with | none => ((80, st) : Int × Sta) | some s => if p < 0 then (81, st) else if s.1 ≤ p then (81, st) else (0, ⟨st.sp, ains st.lv (id * 1024 + p) pl, st.bd, st.wn⟩)).1 = 0) → (match afind st.sp id with | none => ((80, st) : Int × Sta) | some s => if p < 0 then (81, st) else if s.1 ≤ p then (81, st) else (0, ⟨st.sp, ains st.lv (id * 1024 + p) pl, st.bd, st.wn⟩)).2 = st
        cases afind st.sp id with
        | none => exact fun _ => rfl
        | some s =>
          simp only
          split
          · exact fun _ => rfl
          · split
            · exact fun _ => rfl
            · exact fun h => absurd rfl h
      have f2s := f2.s
      rw [hst] at f2s
      have hv4 := hv3.keep f2.k fun b hb hf => keepv b hb hf
      have t4 : G4[G.length]? = some (.cells (vC v) .exact) := f2.k.get t1' fun hf => by have := fpG _ hf; omega
      have hsame := law08_same f2s hv4
      rw [f2.c] at hsame
      refine wp_t (by simp [he2]) (wp_to (rd_v t4) (wp_seq _ hsame ?_))
      rintro ⟨⟨b6, ⟨⟩⟩, K6⟩ ⟨hb6, k6⟩
      exact wp_some hb6
    · have e : e2 = 0 := Decidable.byContradiction e
      have h0 : (st.applyS (1, id, p, pl, 0, 0, ())).1 = 0 := he2 ▸ e
      have hfind : afind (pgs (st.applyS (1, id, p, pl, 0, 0, ())).2.lv id) p = some pl := by
        have w' := f2.s.w
        revert h0 w'
        unfold Sta.applyS
        show ((match afind st.sp id with | none => ((80, st) : Int × Sta) | some s => if p < 0 then (81, st) else if s.1 ≤ p then (81, st) else (0, ⟨st.sp, ains st.lv (id * 1024 + p) pl, st.bd, st.wn⟩)).1 = 0) → SaW (match afind st.sp id with | none => ((80, st) : Int × Sta) | some s => if p < 0 then (81, st) else if s.1 ≤ p then (81, st) else (0, ⟨st.sp, ains st.lv (id * 1024 + p) pl, st.bd, st.wn⟩)).2 → afind (pgs (match afind st.sp id with | none => ((80, st) : Int × Sta) | some s => if p < 0 then (81, st) else if s.1 ≤ p then (81, st) else (0, ⟨st.sp, ains st.lv (id * 1024 + p) pl, st.bd, st.wn⟩)).2.lv id) p = some pl
        cases hf : afind st.sp id with
        | none => exact fun h => (by simp at h)
        | some s =>
          have hid := hs.w.ids _ (afind_mem hf)
          simp only
          split
          · exact fun h => (by simp at h)
          · split
            · exact fun h => (by simp at h)
            · intro _ _
              have := hid.2.2
              simp only at this
              rw [pgs_ins hs.w.lv id p pl (by omega), if_pos rfl, afind_ins (pgs_asc hs.w.lv id), if_pos rfl]
      have g1 := st_get f2.s id p
      rw [f2.c, hfind] at g1
      have fpG2 : ∀ b, a4.fp (st.applyS (1, id, p, pl, 0, 0, ())).2 b → True := fun _ _ => trivial
      have hw4 := hw3.keep f2.k fun b hb hf => by
        rcases r2.n b hb with hh | hh
        · exact keepv b hh hf
        · have := fpG b hf
          simp only [List.length_append, List.length_cons, List.length_nil] at hh
          omega
      have t4 : G4[G2.length]? = some (.cells (vC v2) .exact) := f2.k.get t3 fun hf => by have := fpG _ hf; omega
      have q1 := st_refs f2.s pl
      rw [f2.c] at q1
      have q2 := rf_refs hw4 pl
      have k5 := Keep.app (fun _ => False) G4 [.cells (vC v2) .exact]
      have s5 := f2.s.keep k5 fun _ _ hf => hf
      have w5 := hw4.keep k5 fun _ _ hf => hf
      have t5 := k5.get t4 fun hf => hf
      have q3 := st_live s5
      rw [f2.c] at q3
      have q4 := rf_live w5
      have k6 := Keep.app (fun _ => False) (G4 ++ [Blk.cells (vC v2) .exact]) [.cells (vC v2) .exact]
      have s6 := s5.keep k6 fun _ _ hf => hf
      have t6 := k6.get t5 fun hf => hf
      obtain ⟨G7, q5, k7⟩ := st_keys s6
      rw [f2.c] at q5
      have t7 := k7.get t6 fun hf => hf
      refine wp_to g1 (wp_t (decide_eq_true h0) (wp_t rfl (wp_t (decide_eq_true rfl) ?_)))
      refine wp_to (rd_v t4) (wp_to q1 (wp_to (rd_v t4) (wp_ite rfl (wp_to q2 (wp_t (decide_eq_true rfl) ?_)))))
      refine wp_to (rd_v t5) (wp_to q3 (wp_to (rd_v t5) (wp_ite rfl (wp_to q4 (wp_t (decide_eq_true rfl) ?_)))))
      refine wp_to (rdSl_of t6 rfl) (wp_to q5 (wp_to (rdSl_of t7 rfl) (wp_ite rfl (wp_some ?_))))
      exact decide_eq_true (by rw [hw4.lvl])
theorem StateLays_true (s : Sl) (x : RecT) {H : Heap} (w : Came [.int .i64, .int .i64, .int .i64, .int .i64, .int .i64, .int .i64] [] s H) (_ : ∀ c ∈ Tup.mk [.int .i64, .int .i64, .int .i64, .int .i64, .int .i64, .int .i64] x, wfC c) : ∃ H', law08_StateLays s x H = some ((true, ()), H') := by
  obtain ⟨rows, hr, hlen, _, _⟩ := came_rows w
  have hr : Row H 6 s (rowsOf ctR rows) := hr
  apply wp_exc
  unfold law08_StateLays
  have k1 := Keep.app (fun _ => False) H [.cells [.int .i64 x.1, .int .i64 x.2.1, .int .i64 x.2.2.1, .int .i64 x.2.2.2.1, .int .i64 x.2.2.2.2.1, .int .i64 x.2.2.2.2.2.1] .exact]
  have t1 : (H ++ [Blk.cells [.int .i64 x.1, .int .i64 x.2.1, .int .i64 x.2.2.1, .int .i64 x.2.2.2.1, .int .i64 x.2.2.2.2.1, .int .i64 x.2.2.2.2.2.1] .exact])[H.length]? = some (.cells [.int .i64 x.1, .int .i64 x.2.1, .int .i64 x.2.2.1, .int .i64 x.2.2.2.1, .int .i64 x.2.2.2.2.1, .int .i64 x.2.2.2.2.2.1] .exact) := by rw [tl_get0]; rfl
  have hr1 := hr.keep k1 fun _ _ _ hf => hf
  refine wp_to awake08 (wp_t rfl (wp_to (rdI_of t1 rfl) (wp_to (rdI_of t1 rfl) (wp_to (rdI_of t1 rfl) (wp_seq _ (lays_true (rows := rows) hr1 hlen _ _ _) ?_)))))
  rintro ⟨⟨b6, ⟨⟩⟩, K6⟩ hb6
  exact wp_some hb6
theorem came_keep {cts : List CT} {B H : Heap} {s : Sl} (h : Came cts B s H) : Keep (fun _ => False) B H := by
  rcases h with ⟨_, rfl⟩ | ⟨len, rows, _, _, _, rfl, _⟩
  · exact Keep.refl _ _
  · exact Keep.push _ _ _
theorem copies_round {L B : Nat} {G : Heap} {a : SaA} {v : RfV} {st : Sta} (p : Pair L B G a v st st) {x0 : Sl} {rows : List RecT} (hr : Row G 6 x0 (rowsOf ctR rows)) (hlow : ∀ b o, x0.p = some (b, o) → b < L) {i : Nat} (hi : i < rows.length) (hlen : x0.len = rows.length) (h30 : i < 30)
    {ac : Nat} (hc : a.c = ac) {G0 : Heap} (hB : G0.length = B) : WP (law08_StateCopies.s1 x0 ((some (ac, 0), ()), G0) ((i : Int), ()) G) fun r => r.1 = .inl (((i + 1 : Nat) : Int), ()) ∧ Keep (fun b => L ≤ b) G r.2 ∧ ∃ a' v', Pair L B r.2 a' v' (st.doS rows[i]).2 (st.doS rows[i]).2 ∧ a'.c = ac := by
  obtain ⟨b1, o1, e1, e2⟩ := row_rec hr hi
  obtain ⟨G2, a2, f1, f2⟩ := st_Apply p.s rows[i]
  obtain ⟨p2, kk2⟩ := p.state f2
  have hr2 := hr.low hlow kk2
  have hw := wrap_succ (show i < 9223372036854775807 by omega)
  rw [hc] at f1
  unfold law08_StateCopies.s1
  refine wp_t (decide_eq_true (by rw [hlen]; exact Int.ofNat_lt.2 (by omega))) (wp_t (decide_eq_true (by omega)) ?_)
  simp only [hB]
  refine wp_to e1 (wp_to (e2 hr).1 (wp_to f1 (wp_to p2.rv (wp_to e1 (wp_to (e2 hr2).1 (wp_seq _ (rf_Apply p2.r _) ?_))))))
  rintro ⟨⟨v3, e3, ⟨⟩⟩, G3⟩ ⟨he3, hr3⟩
  have hr3 : RRes G2 v G3 v3 (st.doS rows[i]).2 := hr3
  obtain ⟨q1, q2, q3⟩ := p2.plain hr3
  refine wp_to q1 (wp_some ⟨?_, kk2.trans q3, a2, v3, q2, f2.c.trans hc⟩)
  simp only [hw]
theorem StateCopies_true (s s' : Sl) {H0 H : Heap} (w : Came [.int .i64, .int .i64, .int .i64, .int .i64, .int .i64, .int .i64] [] s H0) (w' : Came [.int .i64, .int .i64, .int .i64, .int .i64, .int .i64, .int .i64] H0 s' H) : ∃ H', law08_StateCopies s s' H = some ((true, ()), H') := by
  obtain ⟨rows, hr, hlen, _, _⟩ := came_rows w
  obtain ⟨rows2, hr2, hlen2, _, _⟩ := came_rows w'
  have hr : Row H 6 s (rowsOf ctR rows) := (show Row H0 6 s (rowsOf ctR rows) from hr).keep (came_keep w') fun _ _ _ hf => hf
  have hr2 : Row H 6 s' (rowsOf ctR rows2) := hr2
  apply wp_exc
  unfold law08_StateCopies
  refine wp_seq _ (law08_played_eq (rows := rows) hr hlen) ?_
  generalize playS ⟨[], [], [], []⟩ (List.take (α := RecT) 60 rows) = st
  rintro ⟨r, G⟩ ⟨a, v, hrr, hs, hv, hk, hoff⟩
  have hrr : r = (some (a.c, 0), v, ()) := hrr
  subst hrr
  have hs : StAt G a st := hs
  have hv : RfAt G v st := hv
  have hk : Keep (fun _ => False) H G := hk
  have k1 := Keep.app (fun _ => False) G [.cells (vC v) .exact]
  have hs1 := hs.keep k1 fun _ _ hf => hf
  have hv1 := hv.keep k1 fun _ _ hf => hf
  have t1 : (G ++ [Blk.cells (vC v) .exact])[G.length]? = some (.cells (vC v) .exact) := by rw [tl_get0]; rfl
  have hr1 := (hr2.keep hk fun _ _ _ hf => hf).keep k1 fun _ _ _ hf => hf
  refine wp_boxc ?_
  have l1 : (G ++ [Blk.cells (vC v) .exact]).length = G.length + 1 := by simp
  generalize G ++ [Blk.cells (vC v) .exact] = G1 at hs1 hv1 t1 l1 hr1 ⊢
  obtain ⟨G2, a2, c1, c2, c3, c4⟩ := st_copy hs1
  have hv2 := hv1.keep c3 fun _ _ hf => hf
  have hs2 := hs1.keep c3 fun _ _ hf => hf
  have t2 := c3.get t1 fun hf => hf
  refine wp_to c1 (wp_to (rd_v t2) (wp_boxc ?_))
  have k3 := Keep.app (fun _ => False) G2 [.cells (vC v) .exact]
  have t3 : (G2 ++ [Blk.cells (vC v) .exact])[G2.length]? = some (.cells (vC v) .exact) := by rw [tl_get0]; rfl
  have hl2 := c3.len
  have p0 : Pair G1.length G2.length (G2 ++ [.cells (vC v) .exact]) a2 v st st :=
    ⟨c2.keep k3 fun _ _ hf => hf, hv2.keep k3 fun _ _ hf => hf, t3, hl2, fun b hb => ⟨c4 b hb, by have := c2.lt hb; omega, fun hh => by have := hv1.lt hh; have := c4 b hb; omega⟩, fun b hb => by have := hv2.lt hb; omega⟩
  have hr3 := (hr1.keep c3 fun _ _ _ hf => hf).keep k3 fun _ _ _ hf => hf
  have hs3 := hs2.keep k3 fun _ _ hf => hf
  have hv3 := hv2.keep k3 fun _ _ hf => hf
  have t3' := k3.get t2 fun hf => hf
  have hlow : ∀ b o, s'.p = some (b, o) → b < G1.length := fun b o hp => hr1.lt hp
  have slow : ∀ b, a.fp st b → ¬ G1.length ≤ b := fun b hb => by have := hs1.lt hb; omega
  have vlow : ∀ b, blkV v b → ¬ G1.length ≤ b := fun b hb => by have := hv1.lt hb; omega
  refine wp_seq _ (wp_rise (step := law08_StateCopies.s1 s' ((some (a2.c, 0), ()), G2)) (min rows2.length 30) (fun i (y : Int × Unit) K => y = ((i : Int), ()) ∧ ∃ a' v' st', Pair G1.length G2.length K a' v' st' st' ∧ a'.c = a2.c ∧ Keep (fun b => G1.length ≤ b) (G2 ++ [.cells (vC v) .exact]) K)
    (fun (x : Unit) K => ∃ a' v' st', Pair G1.length G2.length K a' v' st' st' ∧ a'.c = a2.c ∧ Keep (fun b => G1.length ≤ b) (G2 ++ [.cells (vC v) .exact]) K) ?_ ?_ ⟨rfl, a2, v, st, p0, rfl, Keep.refl _ _⟩) ?_
  · rintro i y K hi ⟨rfl, a1, v1, st1, p1, c1, hK⟩
    have hir : i < List.length (α := RecT) rows2 := by show i < rows2.length; omega
    refine wp_mono (copies_round p1 (rows := rows2) (hr3.low hlow hK) hlow hir hlen2 (by omega) c1 rfl) ?_
    rintro ⟨r, G'⟩ ⟨rfl, kk, a3, v3, p3, c3⟩
    exact ⟨rfl, a3, v3, _, p3, c3, hK.trans kk⟩
  · rintro y K ⟨rfl, a1, v1, st1, p1, c1, hK⟩
    unfold law08_StateCopies.s1
    by_cases hl : rows2.length ≤ 30
    · rw [Nat.min_eq_left hl]
      exact wp_f (decide_eq_false (by rw [hlen2]; exact Int.lt_irrefl _)) (wp_some ⟨a1, v1, st1, p1, c1, hK⟩)
    · rw [Nat.min_eq_right (by omega)]
      exact wp_t (decide_eq_true (by rw [hlen2]; exact Int.ofNat_lt.2 (by omega))) (wp_f rfl (wp_some ⟨a1, v1, st1, p1, c1, hK⟩))
  · rintro ⟨⟨⟩, K⟩ ⟨a1, v1, st1, p1, cc1, hK⟩
    have hsK := hs3.keep hK fun b hb => slow b hb
    have hvK := hv3.keep hK fun b hb => vlow b hb
    have tK := hK.get t3' (by have := get_lt t1; omega)
    refine wp_to awake08 (wp_t rfl (wp_to (rd_v tK) (wp_seq _ (law08_same hsK hvK) ?_)))
    rintro ⟨⟨b5, ⟨⟩⟩, K5⟩ ⟨hb5, k5⟩
    have hb5 : b5 = true := hb5
    subst hb5
    have p5 := p1.keep k5
    have hsame := law08_same p5.s p5.r
    rw [cc1] at hsame
    refine wp_t rfl (wp_to p5.rv (wp_seq _ hsame ?_))
    rintro ⟨⟨b6, ⟨⟩⟩, K6⟩ ⟨hb6, k6⟩
    exact wp_some hb6
end Ev
