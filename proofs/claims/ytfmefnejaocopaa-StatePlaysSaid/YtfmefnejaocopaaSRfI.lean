/- The plain state: spaces dropped, a leaf away. -/
import Derived.Test.YtfmefnejaocopaaSRfH
set_option linter.unusedSimpArgs false
set_option linter.unusedVariables false
namespace Ev
open Go (IntKind)

section
variable {H G : Heap} {v v' : RfV} {st st' : Sta}
theorem SaW.gone (w : SaW st) (id : Int) : SaW ⟨adrop st.sp id, lvOff st.lv id, st.bd, st.wn⟩ :=
  ⟨w.sp.drop _, lvOff_asc w.lv id, w.bd, w.wn, fun y hy => by
    have hm := List.mem_filter.1 hy
    have hne : ¬ y.1 / 1024 = id := by simpa using hm.2
    show (afind (adrop st.sp id) (y.1 / 1024)).isSome = true
    rw [afind_drop w.sp, if_neg hne]
    exact w.own y hm.1, fun y hy => w.ids y ((adrop_sub _ _).subset hy), w.bds, w.wns⟩
theorem rf_trim (h : RfAt H v st) (id : Int) {p : Int} (hp : 0 ≤ p ∧ p < 1024) : WP (ref08_State_without v id p H) fun r => RRes H v r.2 r.1.1 ⟨st.sp, adrop st.lv (id * 1024 + p), st.bd, st.wn⟩ := by
  have hmany := h.w.many
  obtain ⟨s, G, e1, e2, e3, e4, e5⟩ := rf_without h.lv h.lvl (by omega) id p
  rw [stay_drop h.w.lv id hp] at e2 e3
  have hG := h.keep e4 fun _ _ hf => hf
  refine ⟨_, e1, ⟨h.w.less _, hG.sp, e2, hG.bd, hG.wn, hG.spl, e3, hG.bdl, hG.wnl⟩, e4, fun b hb => ?_⟩
  rcases hb with hb | hb | hb | hb
  · exact .inl (.inl hb)
  · obtain ⟨o, ho⟩ := hb
    exact .inr (by have := e5 b o ho; omega)
  · exact .inl (.inr (.inr (.inl hb)))
  · exact .inl (.inr (.inr (.inr hb)))
def offS (id : Int) (x : Int × Int × Bool) : Bool := !decide (x.1 = id)
theorem dropped_step (h : RfAt H v st) {id : Int} {t : Heap} (ht : t[0]? = some (.cells (vC v) .exact)) {s0 : Sl} (hs0 : ∀ a, s0.p = some a → H.length < a.1)
    {i : Nat} (hi : i < st.sp.length) {s : Sl} (hE : Em (H ++ t) s0 3 G s (rowsOf ctP (((st.sp.take i).filter (offS id)).map rsp))) (hn : s.len = ((st.sp.take i).filter (offS id)).length) :
    WP (ref08_State_dropped.s1 id H (s, (i : Int), ()) G) fun r => Sum.elim (fun y => ∃ s', y = (s', ((i + 1 : Nat) : Int), ()) ∧
      Em (H ++ t) s0 3 r.2 s' (rowsOf ctP (((st.sp.take (i + 1)).filter (offS id)).map rsp)) ∧ s'.len = ((st.sp.take (i + 1)).filter (offS id)).length) (fun _ => False) r.1 := by
  obtain ⟨hG, hbox⟩ := h.box t ht hs0 hE
  have hlm : (st.sp.map rsp).length = st.sp.length := List.length_map _
  have hx : (st.sp.map rsp)[i]'(by omega) = rsp st.sp[i] := List.getElem_map _
  have hv : rdSl 3 G H.length 0 = some v.1 := rdSl_of hbox rfl
  obtain ⟨b0, o0, r1, r2, _⟩ := Row.rd (cts := ctP) (rows := st.sp.map rsp) hG.sp (i := i) (by omega) (by decide)
  obtain ⟨b1, o1, r3, r4⟩ := row_int (cts := ctP) (rows := st.sp.map rsp) hG.sp (i := i) (by omega) (by decide) (j := 0) (n := st.sp[i].1) (by decide) (by rw [hx]; rfl)
  rw [r1] at r3
  cases r3
  rw [hx] at r2
  have r4 : rdI .i64 G b0 o0 = some st.sp[i].1 := r4
  have hl := List.length_filter_le (offS id) (st.sp.take i)
  rw [List.length_take] at hl
  have hfew := h.w.few
  have hw := wrap_succ (show i < 9223372036854775807 by omega)
  rw [take_snoc hi, List.filter_append, List.filter_cons]
  unfold ref08_State_dropped.s1
  refine wp_to hv (wp_t (decide_eq_true (by rw [h.spl]; exact Int.ofNat_lt.2 hi)) ?_)
  refine wp_to hv (wp_to r1 (wp_to r4 ?_))
  refine wp_if (p := ¬ st.sp[i].1 = id) (by simp) (fun e => ?_) (fun e => ?_)
  · refine wp_to hv (wp_to r1 (wp_to r2 ?_))
    refine wp_app hE rfl (by decide) (by omega) fun s' G' hE' hn' => wp_some ⟨s', ?_, ?_, ?_⟩
    · simp only [hw]
    · rw [if_pos (by unfold offS; simpa using e), List.map_append, rowsOf_append']; exact hE'
    · rw [if_pos (by unfold offS; simpa using e), List.length_append, ← hn]; exact hn'
  · have e' : ¬ offS id st.sp[i] = true := by unfold offS; simpa using e
    refine wp_some ⟨s, ?_, ?_, ?_⟩
    · simp only [hw]
    · rw [if_neg e', List.filter_nil, List.append_nil]; exact hE
    · rw [if_neg e', List.filter_nil, List.append_nil]; exact hn
theorem rf_dropped (h : RfAt H v st) (id : Int) : WP (ref08_State_dropped v id H) fun r => RRes H v r.2 r.1.1 ⟨adrop st.sp id, lvOff st.lv id, st.bd, st.wn⟩ := by
  have hfew := h.w.few
  have hmany := h.w.many
  generalize ht : [Blk.cells [.sl 3 v.1, .sl 3 v.2.1, .sl 1 v.2.2.1, .sl 2 v.2.2.2.1] .exact, .cells [.sl 3 Sl.nil, .sl 3 Sl.nil, .sl 1 Sl.nil, .sl 2 Sl.nil] .exact, .cells [] .exact] = t
  have ht0 : t[0]? = some (.cells (vC v) .exact) := by rw [← ht]; rfl
  have ht2 : t[1]? = some (.cells [.sl 3 Sl.nil, .sl 3 Sl.nil, .sl 1 Sl.nil, .sl 2 Sl.nil] .exact) := by rw [← ht]; rfl
  have ht3 : t[2]? = some (.cells [] .exact) := by rw [← ht]; rfl
  have htl : t.length = 3 := by rw [← ht]; rfl
  have hs0 : ∀ a, (⟨some (H.length + 2, 0), 0, 0⟩ : Sl).p = some a → H.length + 1 < a.1 := fun a ha => by cases ha; simp only; omega
  have h0 : Em (H ++ t) ⟨some (H.length + 2, 0), 0, 0⟩ 3 (H ++ t) ⟨some (H.length + 2, 0), 0, 0⟩ [] := Em.start ⟨rfl, rfl, fun hh => (by cases hh), fun a ha => by cases ha; exact ⟨rfl, .inr (by rw [tl_get1]; exact ht3)⟩⟩
  unfold ref08_State_dropped
  simp only [List.append_assoc, List.cons_append, List.nil_append, List.length_append, List.length_cons, List.length_nil, Nat.zero_add]
  rw [ht]
  refine wp_seq _ (wp_rise st.sp.length (fun i y G => ∃ s, y = (s, (i : Int), ()) ∧ Em (H ++ t) ⟨some (H.length + 2, 0), 0, 0⟩ 3 G s (rowsOf ctP (((st.sp.take i).filter (offS id)).map rsp)) ∧ s.len = ((st.sp.take i).filter (offS id)).length)
    (fun x G => ∃ s, x = (s, ()) ∧ Em (H ++ t) ⟨some (H.length + 2, 0), 0, 0⟩ 3 G s (rowsOf ctP ((adrop st.sp id).map rsp)) ∧ s.len = (adrop st.sp id).length) ?_ ?_ ?_) ?_
  · rintro i y G hi ⟨s, rfl, hE, hn⟩
    exact wp_mono (dropped_step h ht0 (fun a ha => by have := hs0 a ha; omega) hi hE hn) fun r hr => by
      obtain ⟨r, G'⟩ := r
      cases r with
      | inl y => exact hr
      | inr x => exact hr.elim
  · rintro y G ⟨s, rfl, hE, hn⟩
    rw [List.take_length, show st.sp.filter (offS id) = adrop st.sp id from adrop_filter h.w.sp id] at hE hn
    obtain ⟨_, hbox⟩ := h.box t ht0 (fun a ha => by have := hs0 a ha; omega) hE
    have hv : rdSl 3 G H.length 0 = some v.1 := rdSl_of hbox rfl
    unfold ref08_State_dropped.s1
    exact wp_to hv (wp_f (decide_eq_false (by rw [h.spl]; exact Int.lt_irrefl _)) (wp_some ⟨s, rfl, hE, hn⟩))
  · exact ⟨_, rfl, h0, rfl⟩
  · rintro ⟨⟨s, ⟨⟩⟩, G⟩ ⟨s', hs, hE, hn⟩
    cases hs
    obtain ⟨hG, hbox⟩ := h.box t ht0 (fun a ha => by have := hs0 a ha; omega) hE
    have hres : G[H.length + 1]? = some (.cells [.sl 3 Sl.nil, .sl 3 Sl.nil, .sl 1 Sl.nil, .sl 2 Sl.nil] .exact) := hE.get (by rw [tl_get1]; exact ht2) fun o ho => by have := hs0 _ ho; simp only at this; omega
    have hw : wr G H.length 0 [.sl 3 s] = some (G.set H.length (.cells (vC (s, v.2.1, v.2.2.1, v.2.2.2.1, ())) .exact)) := by rw [wr1_of hbox (by decide) (by simp [vC])]; rfl
    have kf : Keep (fun b => b = H.length) G (G.set H.length (.cells (vC (s, v.2.1, v.2.2.1, v.2.2.2.1, ())) .exact)) := Keep.set _ _ _ rfl
    have hso : ∀ b o, s.p = some (b, o) → H.length + 2 ≤ b := fun b o hp => by
      rcases hE.o _ hp with hh | ⟨o', hh⟩
      · simp only [List.length_append] at hh; omega
      · have hh : some (H.length + 2, 0) = some (b, o') := hh
        cases hh; omega
    have hrow : Row (G.set H.length (.cells (vC (s, v.2.1, v.2.2.1, v.2.2.2.1, ())) .exact)) 3 v.2.1 (rowsOf ctL (st.lv.map rlv)) := hG.lv.keep kf fun b o hp e => by have := h.lv.lt hp; omega
    obtain ⟨sl, G2, w1, w2, w3, w4, w5⟩ := rf_without (v := (s, v.2.1, v.2.2.1, v.2.2.2.1, ())) hrow h.lvl (by omega) id (-1)
    rw [stay_off st.lv id (by decide)] at w2 w3
    have hbox1 : rd (G.set H.length (.cells (vC (s, v.2.1, v.2.2.1, v.2.2.2.1, ())) .exact)) (.agg [.sl 3, .sl 3, .sl 1, .sl 2]) H.length 0 = (some (s, v.2.1, v.2.2.1, v.2.2.2.1, ()) : Option RfV) := rd_agg_of (set_get (get_lt hbox)) (by simp [vC]) rfl
    have hlG : H.length + 3 ≤ G.length := by have := hE.k.len; simp only [List.length_append] at this; omega
    have hres2 : G2[H.length + 1]? = some (.cells [.sl 3 Sl.nil, .sl 3 Sl.nil, .sl 1 Sl.nil, .sl 2 Sl.nil] .exact) := by rw [w4.same _ (by simp only [List.length_set]; omega) fun hf => hf, set_get' (by omega)]; exact hres
    have hwr : wr G2 (H.length + 1) 0 [.sl 3 s, .sl 3 sl, .sl 1 v.2.2.1, .sl 2 v.2.2.2.1] = some (G2.set (H.length + 1) (.cells (vC (s, sl, v.2.2.1, v.2.2.2.1, ())) .exact)) := by
      rw [wr_of hres2 (by decide) (by simp)]; rfl
    have hrd : rd (G2.set (H.length + 1) (.cells (vC (s, sl, v.2.2.1, v.2.2.2.1, ())) .exact)) (.agg [.sl 3, .sl 3, .sl 1, .sl 2]) (H.length + 1) 0 = (some (s, sl, v.2.2.1, v.2.2.2.1, ()) : Option RfV) := rd_agg_of (set_get (get_lt hres2)) (by simp [vC]) rfl
    refine wp_to hw (wp_to hbox1 (wp_to w1 (wp_to hwr (wp_to hrd (wp_some ?_)))))
    have k1 : Keep (fun b => b = H.length ∨ b = H.length + 1) G (G2.set (H.length + 1) (.cells (vC (s, sl, v.2.2.1, v.2.2.2.1, ())) .exact)) :=
      ((kf.mono fun b e => .inl e).trans (w4.mono fun _ hf => hf.elim)).trans (Keep.set _ _ _ (.inr rfl))
    have hok : ∀ b, blkV (s, sl, v.2.2.1, v.2.2.2.1, ()) b → ¬ (b = H.length ∨ b = H.length + 1) ∧ (blkV v b ∨ H.length ≤ b) := fun b hb => by
      rcases hb with ⟨o, hb⟩ | ⟨o, hb⟩ | hb | hb
      · have := hso b o hb; exact ⟨by omega, .inr (by omega)⟩
      · have := w5 b o hb; simp only [List.length_set] at this; exact ⟨by omega, .inr (by omega)⟩
      · have hb' : blkV v b := .inr (.inr (.inl hb))
        have := h.lt hb'; exact ⟨by omega, .inl hb'⟩
      · have hb' : blkV v b := .inr (.inr (.inr hb))
        have := h.lt hb'; exact ⟨by omega, .inl hb'⟩
    have kl : Keep (fun b => b = H.length + 1) G2 (G2.set (H.length + 1) (.cells (vC (s, sl, v.2.2.1, v.2.2.2.1, ())) .exact)) := Keep.set _ _ _ rfl
    have hF := hG.keep k1 fun b hb e => by have := h.lt hb; omega
    refine ⟨⟨h.w.gone id, (Row.grown hE.g).keep k1 fun b o hp => (hok b (.inl ⟨o, hp⟩)).1, w2.keep kl fun b o hp e => (hok b (.inr (.inl ⟨o, hp⟩))).1 (.inr e), hF.bd, hF.wn, hn, w3, h.bdl, h.wnl⟩, ⟨?_, fun b hb _ => ?_⟩, fun b hb => (hok b hb).2⟩
    · exact Nat.le_trans (by omega) k1.len
    · refine (k1.same b (by omega) (by omega)).trans ?_
      rw [hE.k.same b (by simp only [List.length_append]; omega) fun ⟨o, ho⟩ => by have := hs0 _ ho; simp only at this; omega, List.getElem?_append_left hb]
end
end Ev
