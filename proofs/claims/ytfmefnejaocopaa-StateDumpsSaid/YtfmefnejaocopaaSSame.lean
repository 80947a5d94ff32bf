/- A state and the plain one that have the same are found the same. -/
import Derived.Test.YtfmefnejaocopaaSRfL
import Derived.Test.YtfmefnejaocopaaSAwk8
import Derived.Test.YtfmefnejaocopaaGLaw08
set_option linter.unusedSimpArgs false
set_option linter.unusedVariables false
namespace Ev
open Go (IntKind)

theorem wp_tmp4 {G : Heap} {β : Type} {a b c : Int} {d : Bool} {K : Heap → Option β} {Q : β → Prop} (k : WP (K (G ++ [.cells [.int .i64 a, .int .i64 b, .int .i64 c, .bool d] .exact])) Q) :
    WP ((wr (G ++ [.cells [.int .i64 0, .int .i64 0, .int .i64 0, .bool false] .exact]) G.length 0 [.int .i64 a, .int .i64 b, .int .i64 c, .bool d]).bind K) Q :=
  wp_to (by rw [wr_t0, wr_c0 _ _ _ _ (by simp)]; rfl) k
theorem dd_self (a : Int) : decide (a = a) = true := decide_eq_true rfl
section
variable {H K : Heap} {a : SaA} {st : Sta} {v : RfV}
/-- Both stand there. -/
structure Two (H : Heap) (a : SaA) (v : RfV) (st : Sta) (G : Heap) : Prop where
  k : Keep (fun _ => False) H G
  s : StAt G a st
  r : RfAt G v st
  b : G[H.length]? = some (.cells (vC v) .exact)
theorem Two.keep (t : Two H a v st K) {G : Heap} (k : Keep (fun _ => False) K G) : Two H a v st G := ⟨t.k.trans k, t.s.keep k fun _ _ hf => hf, t.r.keep k fun _ _ hf => hf, k.get t.b fun hf => hf⟩
theorem Two.rv (t : Two H a v st K) : rd K (.agg [.sl 3, .sl 3, .sl 1, .sl 2]) H.length 0 = (some v : Option RfV) := rd_agg_of t.b (by simp [vC]) rfl
theorem Two.sp (t : Two H a v st K) : rdSl 3 K H.length 0 = some v.1 := rdSl_of t.b rfl
theorem Two.lv (t : Two H a v st K) : rdSl 3 K H.length 1 = some v.2.1 := rdSl_of t.b rfl
theorem Two.bd (t : Two H a v st K) : rdSl 1 K H.length 2 = some v.2.2.1 := rdSl_of t.b rfl
theorem same_spaces (t : Two H a v st K) {s : Sl} (hs : Row K 4 s (rowsOf ctI (infos st))) (hsl : s.len = st.sp.length) {G0 : Heap} :
    WP (loopW (law08_Same.s1 (some (a.c, 0)) H ((s, ()), G0)) (0, ()) K) fun r => r.1 = .inl () ∧ Keep (fun _ => False) K r.2 := by
  have hfew := t.s.w.few
  refine wp_rise st.sp.length (fun i (y : Int × Unit) G => y = ((i : Int), ()) ∧ Keep (fun _ => False) K G) (fun (x : Unit ⊕ (Bool × Unit)) G => x = .inl () ∧ Keep (fun _ => False) K G) ?_ ?_ ⟨rfl, Keep.refl _ _⟩
  · rintro i y G hi ⟨rfl, k⟩
    have tG := t.keep k
    have hlm : (st.sp.map rsp).length = st.sp.length := List.length_map _
    have hx : (st.sp.map rsp)[i]'(by omega) = rsp st.sp[i] := List.getElem_map _
    obtain ⟨b0, o0, r1, r2, _⟩ := Row.rd (cts := ctP) (rows := st.sp.map rsp) tG.r.sp (i := i) (by omega) (by decide)
    rw [hx] at r2
    have hf : afind st.sp st.sp[i].1 = some st.sp[i].2 := t.s.w.sp.find (List.getElem_mem hi)
    have hil : (infos st).length = st.sp.length := List.length_map _
    have hr : (infos st)[i]'(by omega) = (st.sp[i].1, st.sp[i].2.1, ((pgs st.lv st.sp[i].1).length : Int), st.sp[i].2.2, ()) :=
      (List.getElem_map (fun x : Int × Int × Bool => (spI st x.1 : Tup ctI)) (l := st.sp)).trans (spI_at st hf)
    have hrw : ∀ {G' : Heap}, Keep (fun _ => False) G G' → ∃ b1 o1, Sl.at 4 s (i : Int) = some (b1, o1) ∧ rd G' (.agg [.int .i64, .int .i64, .int .i64, .bool]) b1 o1 = (some (st.sp[i].1, st.sp[i].2.1, ((pgs st.lv st.sp[i].1).length : Int), st.sp[i].2.2, ()) : Option (Int × Int × Int × Bool × Unit)) := fun k' => by
      obtain ⟨b1, o1, e1, e2, _⟩ := Row.rd (cts := ctI) (rows := infos st) (hs.keep (k.trans k') fun _ _ _ hf => hf) (i := i) (by omega) (by decide)
      rw [hr] at e2
      exact ⟨b1, o1, e1, e2⟩
    obtain ⟨b1, o1, e1, _⟩ := hrw (Keep.refl _ _)
    have hrw : ∀ {G' : Heap}, Keep (fun _ => False) G G' → rd G' (.agg [.int .i64, .int .i64, .int .i64, .bool]) b1 o1 = (some (st.sp[i].1, st.sp[i].2.1, ((pgs st.lv st.sp[i].1).length : Int), st.sp[i].2.2, ()) : Option (Int × Int × Int × Bool × Unit)) := fun k' => by
      obtain ⟨b2, o2, e2, e3⟩ := hrw k'
      rw [e1] at e2
      cases e2
      exact e3
    generalize st.sp[i] = y at r2 hf hrw
    obtain ⟨id, q, b⟩ := y
    have hspI := spI_at st hf
    have r2 : rd G (.agg [.int .i64, .int .i64, .bool]) b0 o0 = (some (id, q, b, ()) : Option (Int × Int × Bool × Unit)) := r2
    have k1 := Keep.app (fun _ => False) G [.cells [.int .i64 id, .int .i64 q, .bool b] .exact]
    have t1 := tG.keep k1
    obtain ⟨G2, q1, q2⟩ := st_space t1.s id
    rw [hspI, hf] at q1
    have c1 : G2[G.length]? = some (.cells [.int .i64 id, .int .i64 q, .bool b] .exact) := q2.get (by rw [tl_get0]; rfl) fun hf => hf
    have k3 := Keep.app (fun _ => False) G2 [.cells [.int .i64 id, .int .i64 q, .int .i64 ((pgs st.lv id).length : Int), .bool b] .exact]
    have c2 := k3.get c1 fun hf => hf
    have t3 := (t1.keep q2).keep k3
    have kk := (k1.trans q2).trans k3
    have p1 := rf_pages t3.r id
    have k4 := Keep.app (fun _ => False) (G2 ++ [Blk.cells [.int .i64 id, .int .i64 q, .int .i64 ((pgs st.lv id).length : Int), .bool b] .exact]) [.cells (vC v) .exact]
    have c4 := k4.get c2 fun hf => hf
    have c5 : (G2 ++ [Blk.cells [.int .i64 id, .int .i64 q, .int .i64 ((pgs st.lv id).length : Int), .bool b] .exact] ++ [.cells (vC v) .exact])[G2.length]? = some (.cells [.int .i64 id, .int .i64 q, .int .i64 ((pgs st.lv id).length : Int), .bool b] .exact) := k4.get (by rw [tl_get0]; rfl) fun hf => hf
    have hw := wrap_succ (show i < 9223372036854775807 by omega)
    unfold law08_Same.s1
    refine wp_t (decide_eq_true (by rw [hsl]; exact Int.ofNat_lt.2 hi)) (wp_to tG.sp (wp_to r1 (wp_to r2 (wp_tmpB (wp_to (rdI_of (by rw [tl_get0]; rfl) rfl) (wp_to q1 (wp_tmp4 (wp_to e1 (wp_to (hrw kk) ?_)))))))))
    refine wp_to (rdI_of c2 rfl) (wp_to (rdI_of c2 rfl) (wp_to t3.rv (wp_to (rdI_of c2 rfl) (wp_to (rdB_of c2 rfl) (wp_to p1 ?_)))))
    refine wp_f (by simp) (wp_f rfl ?_)
    refine wp_to (rd_agg_of c5 (by simp) rfl) (wp_to e1 (wp_to (hrw (kk.trans k4)) (wp_to (hrw (kk.trans k4)) (wp_ite rfl ?_))))
    refine wp_to (rdI_of c4 rfl) (wp_ite rfl (wp_to (rdI_of c4 rfl) (wp_ite rfl (wp_to (rdB_of c4 rfl) (wp_ite rfl ?_)))))
    refine wp_f (by simp) (wp_some ⟨?_, k.trans (kk.trans k4)⟩)
    simp only [hw]
  · rintro y G ⟨rfl, k⟩
    unfold law08_Same.s1
    exact wp_f (decide_eq_false (by rw [hsl]; exact Int.lt_irrefl _)) (wp_some ⟨rfl, k⟩)
theorem same_leaves (t : Two H a v st K) : WP (loopW (law08_Same.s2 (some (a.c, 0)) H) (0, ()) K) fun r => r.1 = .inl () ∧ Keep (fun _ => False) K r.2 := by
  have hmany := t.s.w.many
  refine wp_rise st.lv.length (fun i (y : Int × Unit) G => y = ((i : Int), ()) ∧ Keep (fun _ => False) K G) (fun (x : Unit ⊕ (Bool × Unit)) G => x = .inl () ∧ Keep (fun _ => False) K G) ?_ ?_ ⟨rfl, Keep.refl _ _⟩
  · rintro i y G hi ⟨rfl, k⟩
    have tG := t.keep k
    have hlm : (st.lv.map rlv).length = st.lv.length := List.length_map _
    have hx : (st.lv.map rlv)[i]'(by omega) = rlv st.lv[i] := List.getElem_map _
    obtain ⟨b0, o0, r1, r2, _⟩ := Row.rd (cts := ctL) (rows := st.lv.map rlv) tG.r.lv (i := i) (by omega) (by decide)
    rw [hx] at r2
    have hf : afind (pgs st.lv (st.lv[i].1 / 1024)) (st.lv[i].1 % 1024) = some st.lv[i].2 := by
      rw [pgs_find t.s.w.lv, if_pos (by omega), show st.lv[i].1 / 1024 * 1024 + st.lv[i].1 % 1024 = st.lv[i].1 by omega]
      exact t.s.w.lv.find (List.getElem_mem hi)
    generalize st.lv[i] = y at r2 hf
    have k1 := Keep.app (fun _ => False) G [.cells [.int .i64 (y.1 / 1024), .int .i64 (y.1 % 1024), .int .i64 y.2] .exact]
    have t1 := tG.keep k1
    have c1 : (G ++ [Blk.cells [.int .i64 (y.1 / 1024), .int .i64 (y.1 % 1024), .int .i64 y.2] .exact])[G.length]? = some (.cells [.int .i64 (y.1 / 1024), .int .i64 (y.1 % 1024), .int .i64 y.2] .exact) := by rw [tl_get0]; rfl
    have g1 := st_get t1.s (y.1 / 1024) (y.1 % 1024)
    rw [hf] at g1
    have g2 := st_refs t1.s y.2
    have g3 := rf_refs t1.r y.2
    have hw := wrap_succ (show i < 9223372036854775807 by omega)
    unfold law08_Same.s2
    refine wp_to tG.lv (wp_t (decide_eq_true (by rw [tG.r.lvl]; exact Int.ofNat_lt.2 hi)) (wp_to tG.lv (wp_to r1 (wp_to r2 (wp_tmp (wp_to (rdI_of c1 rfl) (wp_to (rdI_of c1 rfl) (wp_to g1 (wp_f rfl (wp_to (rdI_of c1 rfl) ?_))))))))))
    refine wp_f (by simp only [Option.getD_some, dd_self, decide_true, Bool.not_true]) (wp_to (rdI_of c1 rfl) (wp_to t1.rv (wp_to (rdI_of c1 rfl) (wp_to g2 (wp_to t1.rv (wp_ite rfl (wp_to (rdI_of c1 rfl) (wp_ite rfl (wp_to g3 ?_)))))))))
    refine wp_f (by simp only [dd_self, decide_true, Bool.not_true]) (wp_some ⟨?_, k.trans (k1.trans (Keep.app _ _ _))⟩)
    simp only [hw]
  · rintro y G ⟨rfl, k⟩
    have tG := t.keep k
    unfold law08_Same.s2
    exact wp_to tG.lv (wp_f (decide_eq_false (by rw [tG.r.lvl]; exact Int.lt_irrefl _)) (wp_some ⟨rfl, k⟩))
theorem same_dumps {s1 s2 : Sl} {l : List (Tup ctR)} (h1 : Row K 6 s1 (rowsOf ctR l)) (h2 : Row K 6 s2 (rowsOf ctR l)) (l1 : s1.len = l.length) (hl : l.length ≤ 100000) {G1 G2 : Heap} :
    WP (loopW (law08_Same.s3 ((s1, ()), G1) ((s2, ()), G2)) (0, ()) K) fun r => r.1 = .inl () ∧ r.2 = K := by
  refine wp_rise l.length (fun i (y : Int × Unit) G => y = ((i : Int), ()) ∧ G = K) (fun (x : Unit ⊕ (Bool × Unit)) G => x = .inl () ∧ G = K) ?_ ?_ ⟨rfl, rfl⟩
  · rintro i y G hi ⟨rfl, rfl⟩
    obtain ⟨b1, o1, e1, e2, _⟩ := Row.rd (cts := ctR) h1 (i := i) hi (by decide)
    obtain ⟨b2, o2, e3, e4, _⟩ := Row.rd (cts := ctR) h2 (i := i) hi (by decide)
    have hw := wrap_succ (show i < 9223372036854775807 by omega)
    unfold law08_Same.s3
    refine wp_t (decide_eq_true (by rw [l1]; exact Int.ofNat_lt.2 hi)) (wp_to e1 (wp_to e2 (wp_to e3 (wp_to e4 (wp_f (by simp) (wp_some ⟨?_, rfl⟩))))))
    simp only [hw]
  · rintro y G ⟨rfl, rfl⟩
    unfold law08_Same.s3
    exact wp_f (decide_eq_false (by rw [l1]; exact Int.lt_irrefl _)) (wp_some ⟨rfl, rfl⟩)
theorem dumpL_len (w : SaW st) : (dumpL st).length ≤ 15450 + 32 + 32 := by
  have h1 := sumS_le st.lv w st.sp.length
  rw [List.take_length] at h1
  have h2 := w.fewb
  have h3 := w.feww
  unfold dumpL
  rw [List.length_append, List.length_append, List.length_map, List.length_map]
  omega
/-- The same is found the same. -/
theorem law08_same (hs : StAt H a st) (hr : RfAt H v st) : WP (law08_Same (some (a.c, 0)) v H) fun r => r.1.1 = true ∧ Keep (fun _ => False) H r.2 := by
  have k0 := Keep.app (fun _ => False) H [.cells (vC v) .exact]
  have t0 : Two H a v st (H ++ [.cells (vC v) .exact]) := ⟨k0, hs.keep k0 fun _ _ hf => hf, hr.keep k0 fun _ _ hf => hf, by rw [tl_get0]; rfl⟩
  obtain ⟨s, G1, e1, e2, e3⟩ := st_spaces t0.s
  have k1 := e2.calm rfl
  have t1 := t0.keep k1
  obtain ⟨G2, f1, k2⟩ := st_keys t1.s
  have t2 := t1.keep k2
  have hdl := dumpL_len hs.w
  unfold law08_Same
  refine wp_to e1 (wp_to t1.sp (wp_f (by simp only [e3, t1.r.spl, dd_self, decide_true, Bool.not_true]) (wp_to t1.lv (wp_to f1 (wp_f (by simp only [t1.r.lvl, dd_self, decide_true, Bool.not_true]) ?_)))))
  refine wp_to t2.rv (wp_to t2.lv (wp_ite rfl (wp_to (st_live t2.s) (wp_to t2.rv (wp_ite rfl (wp_to (rf_live t2.r) (wp_f (by simp only [dd_self, decide_true, Bool.not_true]) ?_)))))))
  have k3 := Keep.app (fun _ => False) G2 [.cells (vC v) .exact]
  have t3 := t2.keep k3
  refine wp_to t3.bd (wp_to (st_bads t3.s) (wp_to t3.bd (wp_ite rfl (wp_f (by simp only [t3.r.bdl, dd_self, decide_true, Bool.not_true]) ?_))))
  refine wp_seq _ (same_spaces t3 ((Row.grown e2.g).keep (k2.trans k3) fun _ _ _ hf => hf) e3) ?_
  rintro ⟨x, G4⟩ ⟨rfl, k4⟩
  have t4 := t3.keep k4
  refine wp_seq _ (same_leaves t4) ?_
  rintro ⟨x, G5⟩ ⟨rfl, k5⟩
  have t5 := t4.keep k5
  obtain ⟨d1, G6, g1, g2, g3⟩ := st_dump t5.s
  have k6 := g2.calm rfl
  have t6 := t5.keep k6
  refine wp_to t5.rv (wp_to g1 (wp_to t6.rv (wp_ite rfl (wp_seq _ (rf_dump t6.r) ?_))))
  rintro ⟨⟨d2, ⟨⟩⟩, G7⟩ ⟨d', hd, h1, h2, k7⟩
  cases hd
  refine wp_f (by simp only [g3, h2, dd_self, decide_true, Bool.not_true]) (wp_seq _ (same_dumps ((Row.grown g2.g).keep k7 fun _ _ _ hf => hf) h1 g3 (by omega)) ?_)
  rintro ⟨x, G8⟩ ⟨rfl, rfl⟩
  exact wp_some ⟨rfl, (t6.keep k7).k⟩
end
end Ev
